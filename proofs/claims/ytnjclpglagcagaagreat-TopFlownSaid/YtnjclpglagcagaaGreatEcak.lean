/- Own lemmas, used by the last text. Conditions: those that each theorem states. -/
import Derived.RecoverIn
import Derived.Test.YtnjclpglagcagaaGreatEcae
import Derived.Test.YtnjclpglagcagaaGreatEcag
import Derived.Test.YtnjclpglagcagaaGreatEcah
import Derived.Test.YtnjclpglagcagaaGreatEcai
import Derived.Test.YtnjclpglagcagaaGreatEcaj
set_option maxRecDepth 200000
set_option maxHeartbeats 8000000
namespace Go.Proofs.Tryz
open Go.Psl
open Go.Geo (cross cyc InR box)
def onS (u v:Int × Int):Bool:=decide (0<=v.1*u.1)&&(decide (0<=v.2*u.2)&&(decide (v.1*v.1<=u.1*u.1)&&decide (v.2*v.2<=u.2*u.2)))
def Ee (sm:Bool) (p:Int × Int) (e:(Int × Int) × (Int × Int)):Bool:=decide (cross e.1 e.2 p<0)||(decide (cross e.1 e.2 p=0)&&(sm&&!onS (DU e.1 e.2) (DU e.1 p)))
def EC (sm:Bool) (p:Int × Int) (e:(Int × Int) × (Int × Int)):Option Bool:=if e.1.1=p.1/\e.1.2=p.2 then some true else if Ee sm p e then some false else none
def smS (r:List (Int × Int)):Bool:=decide ((r.length:Int)<3)
def Ll (r:List (Int × Int)) (p:Int × Int):Bool:=((cyc r).findSome? (EC (smS r) p)).getD (decide ((1:Int)<r.length))
def hKS:List Nat:=[5242880,4194304,0,1048576,2097152]
def hL (r:List (Int × Int)) (p:Int × Int) (f:Nat->V) (s:LSt) (v:Bool):List (Nat × List V):=[(5242880,[.lr f 83 [12,13] cP Qv s]),(4194304,[.d (An r)]),(0,[.d (An r)]),(1048576,[vi p.1,vi p.2]),(2097152,[vb v])]
def hAft (r:List (Int × Int)) (p:Int × Int) (f:Nat->V) (o:Option Bool):List (Nat × List V):=match o with | none=>hL r p f .ready false | some v=>hL r p f (.done .ret) v
theorem jG (r:List (Int × Int)) (p:Int × Int) (f:Nat->V) (s:LSt) (v:Bool) (hf:∀ t,AV (·∈hKS) AR (f t)):A4 hKS (hL r p f s v):=by
 refine ⟨rfl,by decide,?_⟩;intro q hq;simp only [hL,List.mem_cons,List.not_mem_nil,or_false] at hq;have hw:WC (rid hKS) (.lr f 83 [12,13] cP Qv s) (.lr f 83 [12,13] cP Qv s):=⟨rfl,fun t=>AV.mono (fun i hi=>Cr hi) (fun _ h=>h) (hf t)⟩
 rcases hq with rfl | rfl | rfl | rfl | rfl
 . exact ⟨by simp,Or.inr (.inl ⟨_,_,_,_,_,_,rfl⟩),fun c hc=>by simp at hc;subst hc;exact hw⟩
 all_goals exact ⟨by simp,Or.inl rfl,fun c hc=>by simp at hc;first | (subst hc;exact rfl) | (rcases hc with rfl | rfl<;>exact rfl)⟩
theorem Vm (r:List (Int × Int)) (p:Int × Int) (f:Nat->V) (hf:∀ t,AV (·∈hKS) AR (f t)) (f2:f 2= .lp 0 0) (f3:f 3= .lp 1048576 0) (f4:f 4= .lp 2097152 0) (_:r.length<=1000000) (hp:bd 268435456 p) (a b:Int × Int) (ba:bd 268435456 a) (bb:bd 268435456 b):
   Ym prog 5242880 [vsp a.1 a.2,vsp b.1 b.2] (lk (hL r p f .ready false)) hKS (.ret (vb (EC (smS r) p (a,b)).isNone)) (lk (hAft r p f (EC (smS r) p (a,b)))):=by
 have hK:=fun s v=>jG r p f s v hf
 have hlt:∀ i∈hKS,i<10000000:=by simp [hKS]
 have key:∀ (s:LSt) (v:Bool),Rnd prog tys eqs 5242880 f 83 [12,13] cP Qv [vsp a.1 a.2,vsp b.1 b.2] (lk (hL r p f .ready false)) hKS s (hL r p f s v) 10000000->Ym prog 5242880 [vsp a.1 a.2,vsp b.1 b.2] (lk (hL r p f .ready false)) hKS (.ret (.d (.lit (.bool (FP s))))) (lk (hL r p f s v)):=fun s v h=>
   Ym.ofR gok eok mixed 10000000 (hK .ready false) (hK s v) hlt (by simp [hL]) (by simp) (by simp) (by simp) h
 by_cases h1:a.1=p.1/\a.2=p.2
 . have e:EC (smS r) p (a,b)=some true:=by unfold EC;rw [if_pos h1]
   rw [e];refine key (.done .ret) true ⟨fun E hE hs=>?_⟩;have hKK:=hK (.done .ret) true;simp only [hL] at hKK ⊢
   generalize V.lr f 83 [12,13] cP Qv=rc at hKK ⊢
   simp [cP,BD,AA];simp [Qv,h1,f3,f4,AA];refine ⟨trivial,Hu.keep hKK ?_ ?_⟩
   . simp
   . simp [hKS]
 . have c1:=rL a b (GM ba (by omega)) (GM bb (by omega))
   have c2:=rL a p (GM ba (by omega)) (GM hp (by omega));have bu:bd 536870912 (DU a b):=NL ba bb rfl;have bv:bd 536870912 (DU a p):=NL ba hp rfl;have c3:=jI (DU a b) (DU a p) (GM bu (by omega)) (GM bv (by omega));have ht:TX (DU a b) (DU a p)=cross a b p:=rfl;rw [ht] at c3;have e0:EC (smS r) p (a,b)=if Ee (smS r) p (a,b) then some false else none:=by unfold EC;rw [if_neg h1]
   obtain ⟨u,hu⟩:∃ u,DU a b=u:=⟨_,rfl⟩
   obtain ⟨v,hv⟩:∃ v,DU a p=v:=⟨_,rfl⟩
   have eb:Ee (smS r) p (a,b)=(decide (cross a b p<0)||(decide (cross a b p=0)&&(smS r&&!onS u v))):=by unfold Ee;rw [hu,hv]
   rw [hu] at c1 c3 bu;rw [hv] at c2 c3 bv;obtain ⟨t,ht⟩:∃ t,cross a b p=t:=⟨_,rfl⟩
   rw [ht] at c3 eb;have ne:¬ (a.1=p.1/\a.2=p.2):=h1;have nb:(decide (a.1=p.1)&&decide (a.2=p.2))=false:=by rw [<-Bool.not_eq_true,Bool.and_eq_true,decide_eq_true_eq,decide_eq_true_eq];exact h1
   by_cases t1:t<0
   . have e:EC (smS r) p (a,b)=some false:=by rw [e0,eb,decide_eq_true t1];rfl
     rw [e];refine key (.done .ret) false ⟨fun E hE hs=>?_⟩;have hKK:=hK (.done .ret) false;simp only [hL] at hKK ⊢
     generalize V.lr f 83 [12,13] cP Qv=rc at hKK ⊢
     simp [cP,BD,AA];simp [Qv,nb,f3,inC,Nat.testBit];refine CLa c1 ?_;simp [f3,inC,Nat.testBit];refine CLa c2 ?_;simp [AA];refine CLa c3 ?_;simp [t1,f4,AA];refine ⟨trivial,Hu.keep hKK (by simp) (by simp [hKS])⟩
   by_cases t0:t=0
   case neg=>
     have e:EC (smS r) p (a,b)=none:=by rw [e0,eb,decide_eq_false t1,decide_eq_false t0];rfl
     rw [e];refine key .ready false ⟨fun E hE hs=>?_⟩;have hKK:=hK .ready false;simp only [hL] at hKK ⊢
     generalize V.lr f 83 [12,13] cP Qv=rc at hKK ⊢
     simp [cP,BD,AA];simp [Qv,nb,f3,inC,Nat.testBit];refine CLa c1 ?_;simp [f3,inC,Nat.testBit];refine CLa c2 ?_;simp [AA];refine CLa c3 ?_;simp [t1,t0];refine ⟨trivial,Hu.keep hKK (by simp) (by simp [hKS])⟩
   subst t0;by_cases sm:(r.length:Int)<3
   case neg=>
     have e:EC (smS r) p (a,b)=none:=by rw [e0,eb];unfold smS;rw [decide_eq_false sm];rfl
     rw [e];refine key .ready false ⟨fun E hE hs=>?_⟩;have hKK:=hK .ready false;simp only [hL] at hKK ⊢
     generalize V.lr f 83 [12,13] cP Qv=rc at hKK ⊢
     simp [cP,BD,AA];simp [Qv,nb,f3,inC,Nat.testBit];refine CLa c1 ?_;simp [f3,inC,Nat.testBit];refine CLa c2 ?_;simp [AA];refine CLa c3 ?_;simp [sm,f2];refine ⟨trivial,Hu.keep hKK (by simp) (by simp [hKS])⟩
   have eb2:Ee (smS r) p (a,b)=!onS u v:=by rw [eb];unfold smS;rw [decide_eq_true sm];simp
   rw [eb2] at e0
   have mb:∀ x y:Int,(-536870912<=x/\x<=536870912)->(-536870912<=y/\y<=536870912)->IntKind.wrap .i64 (x*y)=x*y:=fun x y hx hy=>by
     have:=NK hx hy;exact AD (by omega) (by omega)
   have w1:=mb v.1 u.1 bv.1 bu.1;have w2:=mb v.2 u.2 bv.2 bu.2;have w3:=mb v.1 v.1 bv.1 bv.1;have w4:=mb u.1 u.1 bu.1 bu.1;have w5:=mb v.2 v.2 bv.2 bv.2;have w6:=mb u.2 u.2 bu.2 bu.2;by_cases g1:0<=v.1*u.1
   case neg=>
     have e:EC (smS r) p (a,b)=some false:=by rw [e0];unfold onS;rw [decide_eq_false g1];rfl
     rw [e];refine key (.done .ret) false ⟨fun E hE hs=>?_⟩;have hKK:=hK (.done .ret) false;simp only [hL] at hKK ⊢
     generalize V.lr f 83 [12,13] cP Qv=rc at hKK ⊢
     simp [cP,BD,AA];simp [Qv,nb,f3,inC,Nat.testBit];refine CLa c1 ?_;simp [f3,inC,Nat.testBit];refine CLa c2 ?_;simp [AA];refine CLa c3 ?_;simp [sm,f2,f4,w1,g1,AA];refine ⟨trivial,Hu.keep hKK (by simp) (by simp [hKS])⟩
   by_cases g2:0<=v.2*u.2
   case neg=>
     have e:EC (smS r) p (a,b)=some false:=by rw [e0];unfold onS;rw [decide_eq_true g1,decide_eq_false g2];rfl
     rw [e];refine key (.done .ret) false ⟨fun E hE hs=>?_⟩;have hKK:=hK (.done .ret) false;simp only [hL] at hKK ⊢
     generalize V.lr f 83 [12,13] cP Qv=rc at hKK ⊢
     simp [cP,BD,AA];simp [Qv,nb,f3,inC,Nat.testBit];refine CLa c1 ?_;simp [f3,inC,Nat.testBit];refine CLa c2 ?_;simp [AA];refine CLa c3 ?_;simp [sm,f2,f4,w1,w2,g1,g2,AA];refine ⟨trivial,Hu.keep hKK (by simp) (by simp [hKS])⟩
   by_cases g3:v.1*v.1<=u.1*u.1
   case neg=>
     have e:EC (smS r) p (a,b)=some false:=by rw [e0];unfold onS;rw [decide_eq_true g1,decide_eq_true g2,decide_eq_false g3];rfl
     rw [e];refine key (.done .ret) false ⟨fun E hE hs=>?_⟩;have hKK:=hK (.done .ret) false;simp only [hL] at hKK ⊢
     generalize V.lr f 83 [12,13] cP Qv=rc at hKK ⊢
     simp [cP,BD,AA];simp [Qv,nb,f3,inC,Nat.testBit];refine CLa c1 ?_;simp [f3,inC,Nat.testBit];refine CLa c2 ?_;simp [AA];refine CLa c3 ?_;simp [sm,f2,f4,w1,w2,w3,w4,g1,g2,g3,AA];refine ⟨trivial,Hu.keep hKK (by simp) (by simp [hKS])⟩
   by_cases g4:v.2*v.2<=u.2*u.2
   case neg=>
     have e:EC (smS r) p (a,b)=some false:=by rw [e0];unfold onS;rw [decide_eq_true g1,decide_eq_true g2,decide_eq_true g3,decide_eq_false g4];rfl
     rw [e];refine key (.done .ret) false ⟨fun E hE hs=>?_⟩;have hKK:=hK (.done .ret) false;simp only [hL] at hKK ⊢
     generalize V.lr f 83 [12,13] cP Qv=rc at hKK ⊢
     simp [cP,BD,AA];simp [Qv,nb,f3,inC,Nat.testBit];refine CLa c1 ?_;simp [f3,inC,Nat.testBit];refine CLa c2 ?_;simp [AA];refine CLa c3 ?_;simp [sm,f2,f4,w1,w2,w3,w4,w5,w6,g1,g2,g3,g4,AA];refine ⟨trivial,Hu.keep hKK (by simp) (by simp [hKS])⟩
   have e:EC (smS r) p (a,b)=none:=by rw [e0];unfold onS;rw [decide_eq_true g1,decide_eq_true g2,decide_eq_true g3,decide_eq_true g4];rfl
   rw [e];refine key .ready false ⟨fun E hE hs=>?_⟩;have hKK:=hK .ready false;simp only [hL] at hKK ⊢
   generalize V.lr f 83 [12,13] cP Qv=rc at hKK ⊢
   simp [cP,BD,AA];simp [Qv,nb,f3,inC,Nat.testBit];refine CLa c1 ?_;simp [f3,inC,Nat.testBit];refine CLa c2 ?_;simp [AA];refine CLa c3 ?_;simp [sm,f2,w1,w2,w3,w4,w5,w6,g1,g2,g3,g4];refine ⟨trivial,Hu.keep hKK (by simp) (by simp [hKS])⟩
theorem Pj {α β:Type} {f:α->Option β} {l:List α} {v:β} (h:l.findSome? f=some v):∃ (j:Nat) (e:α),l[j]?= some e/\f e=some v/\∀ (i:Nat) (e':α),i<j->l[i]?= some e'->f e'=none:=by
 obtain ⟨l1,a,l2,rfl,h1,h2⟩:=List.findSome?_eq_some_iff.1 h;refine ⟨l1.length,a,by simp,h1,fun i e' hi he=>?_⟩;rw [List.getElem?_append_left hi] at he;exact h2 e' (List.mem_of_getElem? he)
theorem Tx (r:List (Int × Int)) (p:Int × Int) (hl:r.length<=1000000) (hr:∀ q∈r,bd 268435456 q) (hp:bd 268435456 p):Ct prog 189 [.d (An r),vsp p.1 p.2] (vb (Ll r p)) []:=by
 refine Ct.byR gok eok mixed func189 c189 rfl (by simp [ntmps189]) (by simp) (by simp [LD]) fun E hE hE2=>?_
 simp [p189];refine CLa (ASX r) ?_;simp;have hnt:E.nt=83:=by rw [hE2.1];exact ntmps189
 rw [<-JI (Γ:=tys) (eqs:=eqs)];obtain ⟨f,hf⟩:∃ f,f=upd (upd (upd (upd (upd (Dn 0 [V.d (An r),vsp p.1 p.2]) 2 (V.lp 0 0)) 3 (V.lp 1048576 0)) 4 (V.lp 2097152 0)) 10 (V.d (An r))) 11 (V.cl 212 [V.lp 4194304 0]):=⟨_,rfl⟩
 have hfA:∀ t,AV (·∈hKS) AR (f t):=fun t=>by
   rw [hf];simp only [AY];split
   . intro c hc;simp at hc;subst hc;exact (by simp [hKS]:(4194304:Nat)∈hKS)
   . split
     . exact trivial
     . split
       . exact (by simp [hKS]:(2097152:Nat)∈hKS)
       . split
         . exact (by simp [hKS]:(1048576:Nat)∈hKS)
         . split
           . exact (by simp [hKS]:(0:Nat)∈hKS)
           . simp only [Dn]
             split
             . exact trivial
             . split
               . intro c hc;simp at hc;rcases hc with rfl | rfl<;>exact trivial
               . exact fun c hc=>by simp at hc
 have f2:f 2= .lp 0 0:=by rw [hf];simp
 have f3:f 3= .lp 1048576 0:=by rw [hf];simp
 have f4:f 4= .lp 2097152 0:=by rw [hf];simp
 have f11:f 11= .cl 212 [.lp 4194304 0]:=by rw [hf];simp
 rw [<-hf];have hN:∀ i∈hKS,i<1000000000:=by simp [hKS]
 have hK:=fun s v=>jG r p f s v hfA
 have hcl:=Go.Geo.cyc_len r;have round:∀ x y,(x,y)∈cyc r->_:=fun x y hxy=>Vm r p f hfA f2 f3 f4 hl hp x y (hr x (Go.Geo.cyc_mem hxy).1) (hr y (Go.Geo.cyc_mem hxy).2)
 have rec0:∀ s v,∃ fr nt ps pa pb jmp,lk (hL r p f s v) 5242880=some [.lr fr nt ps pa pb jmp]/\ps.length=2:=fun s v=>⟨f,83,[12,13],cP,Qv,s,by simp [hL],rfl⟩
 have box0:∀ s v,lk (hL r p f s v) 4194304=some [.d (An r)]:=fun s v=>by simp [hL]
 cases hfs:(cyc r).findSome? (EC (smS r) p) with
 | none=>
   have e:Ll r p=decide ((1:Int)<r.length):=by unfold Ll;rw [hfs];rfl
   have c:=MK r hl hKS 5242880 4194304 r.length (fun _=>true) (fun _=>hL r p f .ready false) (by simp [hKS]) (by simp [hKS]) hN (Nat.le_refl _) (fun _ _=>hK .ready false) (fun _ _=>rec0 _ _) (fun _ _=>box0 _ _) (fun _ _=>rfl) (Or.inl rfl) (fun i x y hi hcy=>by
     have h1:=round x y (List.mem_of_getElem? hcy);have h2:EC (smS r) p (x,y)=none:=List.findSome?_eq_none_iff.1 hfs _ (List.mem_of_getElem? hcy);rw [h2] at h1;exact h1)
   refine E3.keep (hL r p f .ready false).tail (hL r p f .ready false).tail [4194304,0,1048576,2097152] (.tup []) .ready ⟨hE2.2,by rw [hnt];simp [AL4]⟩ (g:=212) (caps:=[.lp 4194304 0]) (by simp [f11]) (by rw [hnt];exact c) (by rw [hnt];exact hK .ready false) (by rw [hnt];exact hK .ready false) (by simp [hL]) (by simp) ?_
   show Ft 0 _ .normal _
   simp [hL,f2,f4];apply RZ;simp [results189,f4,e,AA]
 | some v=>
   have e:Ll r p=v:=by unfold Ll;rw [hfs];rfl
   obtain ⟨j,e0,h1,h2,h3⟩:=Pj hfs;have hj:=(List.getElem?_eq_some_iff.1 h1).1;rw [hcl] at hj
   have c:=MK r hl hKS 5242880 4194304 (j+1) (fun i=>decide (i≠j)) (fun i=>if i<=j then hL r p f .ready false else hL r p f (.done .ret) v) (by simp [hKS]) (by simp [hKS]) hN (by omega)
     (fun i _=>by show A4 hKS (if i<=j then hL r p f .ready false else hL r p f (.done .ret) v);split<;>exact hK _ _)
     (fun i _=>by show ∃ fr nt ps pa pb jmp,lk (if i<=j then hL r p f .ready false else hL r p f (.done .ret) v) 5242880=some [.lr fr nt ps pa pb jmp]/\ps.length=2;split<;>exact rec0 _ _)
     (fun i _=>by show lk (if i<=j then hL r p f .ready false else hL r p f (.done .ret) v) 4194304=_;split<;>exact box0 _ _)
     (fun i hi=>decide_eq_true (by omega)) (Or.inr ⟨by omega,decide_eq_false (by omega)⟩) (fun i x y hi hcy=>by
       have r1:=round x y (List.mem_of_getElem? hcy);by_cases hij:i=j
       . subst hij
         rw [h1] at hcy;cases hcy;rw [h2] at r1;simp only [Nat.le_refl,if_true,show ¬ i+1<=i by omega,if_false,ne_eq,not_true_eq_false,decide_false];exact r1
       . have h4:=h3 i (x,y) (by omega) hcy
         rw [h4] at r1;simp only [show i<=j by omega,show i+1<=j by omega,if_true,ne_eq,hij,not_false_eq_true,decide_true];exact r1)
   simp only [Nat.zero_le,if_true,show ¬ j+1<=j by omega,if_false] at c;refine E3.keep (hL r p f .ready false).tail (hL r p f (.done .ret) v).tail [4194304,0,1048576,2097152] (.tup []) (.done .ret) ⟨hE2.2,by rw [hnt];simp [AL4]⟩ (g:=212) (caps:=[.lp 4194304 0]) (by simp [f11]) (by rw [hnt];exact c) (by rw [hnt];exact hK .ready false) (by rw [hnt];exact hK (.done .ret) v) (by simp [hL]) (by simp) ?_
   show Ft 0 _ .ret _
   simp [hL];apply RZ;simp [results189,f4,e]
open Go.Geo (cross cyc InR box Bo)
theorem aW {u v:Int}:(0<=v*u/\v*v<=u*u)↔(min 0 u<=v/\v<=max 0 u):=by
 rcases Int.lt_trichotomy u 0 with hu | hu | hu
 . constructor
   . rintro ⟨h1,h2⟩
     have a:v<=0:=by
       apply Int.not_lt.1;intro h
       have:=Int.mul_neg_of_pos_of_neg h hu;omega
     have b:u<=v:=by
       apply Int.not_lt.1;intro h
       have h3:=Int.mul_pos_of_neg_of_neg (show v-u<0 by omega) (show v+u<0 by omega);have e:(v-u)*(v+u)=v*v-u*u:=by grind
       omega
     omega
   . intro ⟨h1,h2⟩
     have a:=Int.mul_nonneg_of_nonpos_of_nonpos (show v<=0 by omega) (show u<=0 by omega);have b:=Int.mul_nonneg (show 0<=v-u by omega) (show 0<= -(v+u) by omega);have e:(v-u)* -(v+u)=u*u-v*v:=by grind
     omega
 . subst hu
   constructor
   . rintro ⟨_,h2⟩
     have:v=0:=by
       rcases Int.lt_trichotomy v 0 with h | h | h
       . have:=Int.mul_pos_of_neg_of_neg h h;omega
       . exact h
       . have:=Int.mul_pos h h;omega
     omega
   . rintro ⟨h1,h2⟩
     have:v=0:=by omega
     subst this;simp
 . constructor
   . rintro ⟨h1,h2⟩
     have a:0<=v:=by
       apply Int.not_lt.1;intro h
       have:=Int.mul_neg_of_neg_of_pos h hu;omega
     have b:v<=u:=by
       apply Int.not_lt.1;intro h
       have h3:=Int.mul_pos (show 0<v-u by omega) (show 0<v+u by omega);have e:(v-u)*(v+u)=v*v-u*u:=by grind
       omega
     omega
   . intro ⟨h1,h2⟩
     have a:=Int.mul_nonneg (show 0<=v by omega) (show 0<=u by omega);have b:=Int.mul_nonneg (show 0<=u-v by omega) (show 0<=u+v by omega);have e:(u-v)*(u+v)=u*u-v*v:=by grind
     omega
theorem J6 {a b p:Int × Int}:onS (DU a b) (DU a p)=true↔box a b p:=by
 unfold onS;simp only [Bool.and_eq_true,decide_eq_true_eq];have h1:=@aW (b.1-a.1) (p.1-a.1);have h2:=@aW (b.2-a.2) (p.2-a.2);unfold box
 show (0<=(p.1-a.1)*(b.1-a.1)/\0<=(p.2-a.2)*(b.2-a.2)/\(p.1-a.1)*(p.1-a.1)<=(b.1-a.1)*(b.1-a.1)/\(p.2-a.2)*(p.2-a.2)<=(b.2-a.2)*(b.2-a.2))↔_
 constructor
 . rintro ⟨q1,q2,q3,q4⟩
   have:=h1.1 ⟨q1,q3⟩;have:=h2.1 ⟨q2,q4⟩;omega
 . intro h
   obtain ⟨q1,q3⟩:=h1.2 (by omega);obtain ⟨q2,q4⟩:=h2.2 (by omega);exact ⟨q1,q2,q3,q4⟩
theorem aX {a b p:Int × Int}:box a b p↔box b a p:=by unfold box;omega
theorem PL {r:List (Int × Int)} (h:C7 r=true):r=Bo (ddC (DK r))/\r≠[]:=by
 unfold C7 at h;simp only [Bool.and_eq_true,decide_eq_true_eq] at h;refine ⟨h.2.symm,fun e=>?_⟩;rw [e] at h;simp at h
theorem aY {l:List (Int × Int)} (hs:Go.Geo.Sorted l) {a b:Int × Int} (h:Bo l=[a,b]):Go.Geo.lt a b:=by
 by_cases h3:l.length<3
 . have e:Bo l=l:=by unfold Bo;rw [if_pos h3]
   rw [h] at e;rw [<-e] at hs;exact (List.pairwise_cons.1 hs).1 b (by simp)
 . by_cases hn:5<=(Go.Geo.chainR l).length+(Go.Geo.chainR l.reverse).length
   . have:=Go.Geo.hull_len h3
     have h2:=Go.Geo.chain_len2 hs (by omega);rw [h] at this;simp at this;omega
   . obtain ⟨f,g,_,_,hfg,e,_⟩:=Go.Geo.hull_two hs h3 hn
     rw [h] at e;cases e;exact hfg
theorem aZ {a p:Int × Int}:InR [a] p↔a=p:=by
 constructor
 . rintro ⟨_,h⟩
   obtain ⟨x,y,h1,h2,hb⟩:∃ x y,[a].head?= some x/\[a].getLast?= some y/\box x y p:=by simpa using h
   simp at h1 h2;subst h1;subst h2;unfold box at hb
   ext<;>omega
 . rintro rfl
   refine ⟨fun e he=>?_,Or.inr ⟨a,a,rfl,rfl,by unfold box;omega⟩⟩;simp [cyc,Go.Geo.steps] at he;subst he;rw [Go.Geo.cross_self];omega
theorem AH2 {a b p:Int × Int}:InR [a,b] p↔cross a b p=0/\box a b p:=by
 constructor
 . rintro ⟨hc,h⟩
   obtain ⟨x,y,h1,h2,hb⟩:∃ x y,[a,b].head?= some x/\[a,b].getLast?= some y/\box x y p:=by simpa using h
   simp at h1 h2;subst h1;subst h2;have c1:=hc (a,b) (by simp [cyc,Go.Geo.steps]);have c2:=hc (b,a) (by simp [cyc,Go.Geo.steps]);simp only at c1 c2;rw [Go.Geo.cross_swap2] at c2;exact ⟨by omega,hb⟩
 . rintro ⟨hc,hb⟩
   refine ⟨fun e he=>?_,Or.inr ⟨a,b,rfl,rfl,hb⟩⟩;simp [cyc,Go.Geo.steps] at he;rcases he with rfl | rfl
   . simp only;omega
   . simp only;rw [Go.Geo.cross_swap2];omega
theorem ae {r:List (Int × Int)} (h:C7 r=true) (p:Int × Int):Lj r p=true↔InR r p:=by
 obtain ⟨hr,hne⟩:=PL h
 match r,hne,hr with
 | [],hne,_=>exact absurd rfl hne
 | [a],_,_=>rw [aZ];unfold Lj;simp
 | [a,b],_,hr=>
   have hlt:=aY (JN _) hr.symm;rw [AH2];unfold Lj;simp only [Bool.and_eq_true,Bool.or_eq_true,MJ];have e:cyc [a,b]=[(a,b),(b,a)]:=rfl;rw [e];simp only [List.mem_cons,List.not_mem_nil,or_false,forall_eq_or_imp,forall_eq];rw [Go.Geo.cross_swap2 b a p]
   have hw:(ZV p.1 a.1 b.1=true/\ZV p.2 (min a.2 b.2) (max a.2 b.2)=true)↔box a b p:=by
     unfold ZV box Go.Geo.lt at*;simp only [Bool.and_eq_true,decide_eq_true_eq];omega
   rw [hw];simp;omega
 | a::b::c::t,_,_=>
   unfold Lj InR;simp [MJ]
theorem af {r:List (Int × Int)} (h:C7 r=true) (p:Int × Int):Ll r p=true↔InR r p:=by
 obtain ⟨hr,hne⟩:=PL h
 have hcorner:∀ q∈r,InR r q:=fun q hq=>by
   rw [hr] at hq ⊢;exact Go.Geo.hull_in (JN _) q (Go.Geo.hull_sub (JN _) q hq)
 match r,hne,hcorner,hr with
 | [],hne,_,_=>exact absurd rfl hne
 | [a],_,_,_=>
   rw [aZ];have e:cyc [a]=[(a,a)]:=rfl;unfold Ll;rw [e];simp only [List.findSome?_cons,List.findSome?_nil,EC];by_cases h1:a.1=p.1/\a.2=p.2
   . rw [if_pos h1]
     have:a=p:=by ext;exact h1.1;exact h1.2
     simp [this]
   . rw [if_neg h1]
     have hb:Ee (smS [a]) p (a,a)=true:=by
       unfold Ee
       have:onS (DU a a) (DU a p)=false:=by
         rw [<-Bool.not_eq_true,J6];intro hb;unfold box at hb;exact h1 (by omega)
       rw [show cross (a,a).1 (a,a).2 p=0 from Go.Geo.cross_self3 a p];simp only;rw [this];rfl
     rw [hb];simp;intro e;exact h1 (by rw [e];exact ⟨rfl,rfl⟩)
 | [a,b],_,hcorner,hr=>
   have e:cyc [a,b]=[(a,b),(b,a)]:=rfl;have hsm:smS [a,b]=true:=rfl;unfold Ll;rw [e,hsm];simp only [List.findSome?_cons,List.findSome?_nil,EC];by_cases h1:a.1=p.1/\a.2=p.2
   . rw [if_pos h1]
     have:a=p:=by ext;exact h1.1;exact h1.2
     subst this;simp;exact hcorner a (by simp)
   rw [if_neg h1,AH2];have hsw:=Go.Geo.cross_swap2 b a p;rcases Int.lt_trichotomy (cross a b p) 0 with hc | hc | hc
   . have hb:Ee true p (a,b)=true:=by unfold Ee;rw [decide_eq_true hc];rfl
     rw [hb];simp;intro h;omega
   . by_cases hbx:box a b p
     . have hb:Ee true p (a,b)=false:=by unfold Ee;rw [J6.2 hbx];simp;omega
       rw [hb];simp only [Bool.false_eq_true,if_false];by_cases h2:b.1=p.1/\b.2=p.2
       . rw [if_pos h2];simp [hc,hbx]
       . rw [if_neg h2]
         have hb2:Ee true p (b,a)=false:=by unfold Ee;rw [J6.2 (aX.1 hbx)];simp;omega
         rw [hb2];simp [hc,hbx]
     . have hb:Ee true p (a,b)=true:=by
         unfold Ee;have:onS (DU a b) (DU a p)=false:=by rw [<-Bool.not_eq_true,J6];exact hbx
         simp only;rw [this,hc];rfl
       rw [hb];simp [hbx]
   . have hb:Ee true p (a,b)=false:=by unfold Ee;simp;omega
     rw [hb];simp only [Bool.false_eq_true,if_false]
     have h2:¬ (b.1=p.1/\b.2=p.2):=fun h2=>by
       have:b=p:=by ext;exact h2.1;exact h2.2
       rw [this,Go.Geo.cross_self2] at hc;omega
     rw [if_neg h2];have hb2:Ee true p (b,a)=true:=by unfold Ee;rw [decide_eq_true (p:=cross (b,a).1 (b,a).2 p<0) (by simp only;omega)];rfl
     rw [hb2];simp;intro h;omega
 | a::b::c::t,_,hcorner,hr=>
   obtain ⟨R,hR⟩:∃ R,a::b::c::t=R:=⟨_,rfl⟩
   have hl:2<R.length:=by rw [<-hR];simp
   rw [hR] at hcorner ⊢;have hsm:smS R=false:=by unfold smS;rw [decide_eq_false (by omega)]
   have hin:InR R p↔∀ e∈cyc R,0<=cross e.1 e.2 p:=⟨fun h=>h.1,fun h=>⟨h,Or.inl hl⟩⟩
   unfold Ll;rw [hsm];cases hf:(cyc R).findSome? (EC false p) with
   | none=>
     have:=List.findSome?_eq_none_iff.1 hf;simp only [Option.getD_none,decide_eq_true_eq];refine ⟨fun _=>hin.2 fun e he=>?_,fun _=>by omega⟩;have h1:=this e he;unfold EC at h1;split at h1
     . cases h1
     . split at h1
       . cases h1
       . rename_i h2
         unfold Ee at h2;simp at h2;exact h2
   | some v=>
     obtain ⟨l1,e,l2,h1,h2,_⟩:=List.findSome?_eq_some_iff.1 hf;have he:e∈cyc R:=by rw [h1];simp
     simp only [Option.getD_some];unfold EC at h2;split at h2
     . rename_i h3
       cases h2;have:e.1=p:=by ext;exact h3.1;exact h3.2
       simp only [true_iff];rw [<-this];exact hcorner _ (Go.Geo.cyc_mem he).1
     . split at h2
       . rename_i h4
         cases h2;unfold Ee at h4;simp at h4;simp only [Bool.false_eq_true,false_iff,hin];intro h5;have:=h5 e he;omega
       . cases h2
theorem gf {r:List (Int × Int)} (h:C7 r=true) (p:Int × Int):Ll r p=Lj r p:=by
 rw [Bool.eq_iff_iff,af h,ae h]
def inV (r:List (Int × Int)) (p:Int × Int):Bool:=C7 r&&(okC p&&Lj r p)
def AUo (r:List (Int × Int)):Int:=if C7 r then 0 else 14
theorem AUp (p:Int × Int):EJ [p]=okC p:=by simp [EJ]
theorem kW {H:Hp} {id:Nat} {p:Int × Int} (h:H id=some [vi p.1,vi p.2]):Bor H (.ls id 0 1 2) (.d (An [p])):=z6 [p] h rfl
theorem AAF (hS:SortOk) (r:List (Int × Int)) (p:Int × Int) (hr:r.length<=1000000000):Ct prog 174 [.d (An r),vsp p.1 p.2] (.tup [vb (inV r p),vi (AUo r)]) []:=by
 refine CB func174 c174 fun E hE=>?_
 simp [p174];refine CLa (qu hS r hr) ?_;cases h1:C7 r
 . simp
   apply RZ;simp [results174,inV,AUo,h1]
 . have hb:=dM h1
   have hlen:=Ws h1;simp [AA,AM];refine CLb (jX [p] (by simp)) (by simp [kW]) ?_;rw [AUp];cases h2:okC p
   . simp
     apply RZ;simp [results174,inV,AUo,h1,h2]
   . simp
     refine CLa (Tx r p (by omega) hb (NH.1 h2)) ?_;rw [gf h1];simp;apply RZ;simp [results174,inV,AUo,h1,h2]
end Go.Proofs.Tryz
namespace Go.Proofs.Tryz
open Go.Psl
open Go.Air
def WB (a b:Int × Int):Prop:=b.1<=a.1/\a.2<=b.2
section
variable {l:List Kn} (ht:Ck l=true)
end
end Go.Proofs.Tryz
namespace Go.Air
end Go.Air
namespace Go.Proofs.Tryz
open Go.Psl
open Go.Air
def Il (r:List (Int × Int)) (s h:Int × Int):Bool:=inV r (s.1,h.1)&&inV r (s.1,h.2)&&inV r (s.2,h.1)&&inV r (s.2,h.2)
end Go.Proofs.Tryz
namespace Go.Proofs.Tryz
open Go.Psl
open Go.Air
structure OkW (w:List Gal):Prop where
 len:1<=w.length/\w.length<=16
 at':∀ x∈w, -500<=x.h/\x.h<=9000
 g:∀ x∈w,0<=x.g/\x.g<=500
 x:∀ x∈w, -1000<=x.xl/\x.xl<=x.xh/\x.xh<=1000
 y:∀ x∈w, -1000<=x.yl/\x.yl<=x.yh/\x.yh<=1000
 step:∀ (i:Nat) (x y:Gal),w[i]?= some x->w[i+1]?= some y->x.h<y.h
theorem L0 {w:List Gal}:Dr w=true->OkW w:=by
 unfold Dr;simp only [Bool.and_eq_true,List.all_eq_true]
 rintro ⟨h1,h2⟩
 have hg:∀ i x,w[i]?= some x->AAU w i=true:=fun i x hx=>h2 i (by simp [(List.getElem?_eq_some_iff.1 hx).1])
 have hb:∀ x∈w,((-500<=x.h/\x.h<=9000)/\0<=x.g/\x.g<=500)/\(-1000<=x.xl/\x.xl<=x.xh/\x.xh<=1000)/\ -1000<=x.yl/\x.yl<=x.yh/\x.yh<=1000:=fun x hx=>by
   obtain ⟨i,hi⟩:=List.getElem?_of_mem hx;have:=hg i x hi;unfold AAU at this;rw [hi] at this;simp only [Bool.and_eq_true,CC] at this;obtain ⟨⟨⟨⟨q1,_⟩,q2⟩,q3⟩,q4⟩:=this;simp [rgB] at q1 q2;omega
 refine ⟨by simp [rgB] at h1;omega,fun x hx=>(hb x hx).1.1,fun x hx=>(hb x hx).1.2,fun x hx=>(hb x hx).2.1,fun x hx=>(hb x hx).2.2,fun i x y hx hy=>?_⟩;have:=hg (i+1) y hy;unfold AAU at this;rw [hy] at this;simp [hx] at this;omega
def Dd (pk:Gal->Int × Int) (w:List Gal):List Kn:=w.map fun x=>(x.h,pk x)
def HG (x:Gal):Int × Int:=(x.xl,x.xh)
def northW (x:Gal):Int × Int:=(x.yl,x.yh)
theorem EG {pk:Gal->Int × Int} {w:List Gal} {i:Nat}:(Dd pk w)[i]?= (w[i]?).map fun x=>(x.h,pk x):=by unfold Dd;rw [List.getElem?_map]
theorem IH {pk:Gal->Int × Int} {w:List Gal}:(Dd pk w).length=w.length:=by unfold Dd;simp
def EA (w:List Gal) (z:Int):Int:=match w[0]?,w[w.length-1]? with
 | some a,some b=>min (max z a.h) b.h
 | _,_=>z
def Fg (pk:Gal->Int × Int) (w:List Gal) (h:Int × Int):Int × Int:=match w with
 | []=>(0,0)
 | [x]=>pk x
 | _=>(Jy (Dd pk w) (EA w h.1,EA w h.2)).1
def Qq (w:List Gal) (lo:Int):Nat:=(w.takeWhile fun x=>decide (x.h<lo)).length
def upN (w:List Gal) (hi:Int):Nat:=(w.takeWhile fun x=>decide (x.h<=hi)).length
def rS (l:List Gal):Int:=l.foldl (fun m x=>max m x.g) 0
def rO (w:List Gal) (h:Int × Int):Int:=rS ((w.take (upN w h.2+1)).drop (Qq w h.1-1))
def Jr (w:List Gal) (h:Int × Int):Int × Int:=((Fg HG w h).1-rO w h,(Fg HG w h).2+rO w h)
def Js (w:List Gal) (h:Int × Int):Int × Int:=((Fg northW w h).1-rO w h,(Fg northW w h).2+rO w h)
def Lg (w:List Gal) (h:Int × Int):Int:=if Dr w then (if okS h then 0 else 10) else 22
theorem Mx:∀ {l:List Gal} {a m:Int},l.foldl (fun m x=>max m x.g) a<=m↔a<=m/\∀ x∈l,x.g<=m
 | [],a,m=>by simp
 | c::l,a,m=>by
   rw [List.foldl_cons,Mx];simp only [List.mem_cons,forall_eq_or_imp];constructor
   . rintro ⟨h1,h2⟩;exact ⟨by omega,by omega,h2⟩
   . rintro ⟨h1,h2,h3⟩;exact ⟨by omega,h3⟩
theorem AMs {l:List Gal}:0<=rS l/\∀ x∈l,x.g<=rS l:=Mx.1 (Int.le_refl (rS l))
theorem AMt {w:List Gal} {f t:Nat} {x:Gal}:x∈(w.take (t+1)).drop f↔∃ i,(f<=i/\i<=t)/\w[i]?= some x:=by
 constructor
 . intro h
   obtain ⟨i,hi⟩:=List.getElem?_of_mem h;rw [List.getElem?_drop] at hi;have h2:=(List.getElem?_eq_some_iff.1 hi).1;rw [List.length_take] at h2;rw [List.getElem?_take_of_lt (by omega)] at hi;exact ⟨f+i,by omega,hi⟩
 . rintro ⟨i,hi,hx⟩
   refine List.mem_of_getElem? (i:=i-f) ?_;rw [List.getElem?_drop,show f+(i-f)=i by omega,List.getElem?_take_of_lt (by omega)];exact hx
theorem AUF {w:List Gal} (hw:OkW w) (h:Int × Int):0<=rO w h/\rO w h<=500:=by
 refine ⟨AMs.1,Mx.2 ⟨by omega,fun x hx=>?_⟩⟩;obtain ⟨i,_,hx⟩:=AMt.1 hx;exact (hw.g x (List.mem_of_getElem? hx)).2
def PkB (w:List Gal) (pk:Gal->Int × Int):Prop:=∀ x∈w, -1000<=(pk x).1/\(pk x).1<=(pk x).2/\(pk x).2<=1000
theorem AG4 {w:List Gal} (hw:OkW w) {pk:Gal->Int × Int} (hp:PkB w pk) (h2:2<=w.length):Ck (Dd pk w)=true:=by
 unfold Ck;have hl:=hw.len;simp only [Bool.and_eq_true,decide_eq_true_eq,IH];refine ⟨⟨by omega,by omega⟩,?_⟩;unfold DV;rw [List.all_eq_true];intro i hi;have hi':i<w.length:=by simpa using hi
 obtain ⟨x,hx⟩:=gE hi';have hxm:=List.mem_of_getElem? hx;have b1:=hp x hxm;have b2:=hw.at' x hxm;have kx:(Dd pk w)[i]?= some (x.h,pk x):=by rw [EG,hx];rfl
 have ok:okK (x.h,pk x)=true:=by
   rw [FE];simp only;omega
 cases i with
 | zero=>rw [HZ kx,ok]
 | succ i=>
   obtain ⟨y,hy⟩:∃ y,w[i]?= some y:=⟨_,List.getElem?_eq_getElem (by omega)⟩
   have ky:(Dd pk w)[i]?= some (y.h,pk y):=by rw [EG,hy];rfl
   have:=hw.step i y x hy hx;rw [FF kx ky,ok];simp;omega
theorem AUi {w:List Gal} (hw:OkW w) (z:Int): -500<=EA w z/\EA w z<=9000:=by
 have hl:=hw.len;obtain ⟨x,hx⟩:∃ x,w[0]?= some x:=⟨_,List.getElem?_eq_getElem (by omega)⟩
 obtain ⟨y,hy⟩:∃ y,w[w.length-1]?= some y:=⟨_,List.getElem?_eq_getElem (by omega)⟩
 have b1:=hw.at' x (List.mem_of_getElem? hx);have b2:=hw.at' y (List.mem_of_getElem? hy);unfold EA;rw [hx,hy];simp only;omega
theorem sC {w:List Gal} (hw:OkW w):∀ (j i:Nat) (x y:Gal),w[i]?= some x->w[i+j]?= some y->x.h<=y.h
 | 0,i,x,y,hx,hy=>by rw [Nat.add_zero,hx] at hy;cases hy;omega
 | j+1,i,x,y,hx,hy=>by
   have hl:=(List.getElem?_eq_some_iff.1 hy).1;obtain ⟨z,hz⟩:∃ z,w[i+j]?= some z:=⟨_,List.getElem?_eq_getElem (by omega)⟩
   have:=sC hw j i x z hx hz;have:=hw.step (i+j) z y hz hy;omega
theorem My {w:List Gal} (hw:OkW w) {pk:Gal->Int × Int} (z:Int):inR (Dd pk w) (EA w z):=by
 have hl:=hw.len;obtain ⟨x,hx⟩:∃ x,w[0]?= some x:=⟨_,List.getElem?_eq_getElem (by omega)⟩
 obtain ⟨y,hy⟩:∃ y,w[w.length-1]?= some y:=⟨_,List.getElem?_eq_getElem (by omega)⟩
 have hm:=sC hw (w.length-1) 0 x y hx (by rw [Nat.zero_add];exact hy);unfold EA;rw [hx,hy];simp only;refine ⟨fun k hk=>?_,fun k hk=>?_⟩
 . rw [EG,hx] at hk;cases hk;simp only;omega
 . rw [EG,IH,hy] at hk;cases hk;simp only;omega
theorem AUj {w:List Gal} {y z:Int} (h:y<=z):EA w y<=EA w z:=by
 unfold EA;split
 . omega
 . exact h
theorem kP {w:List Gal} (hw:OkW w) {pk:Gal->Int × Int} (hp:PkB w pk) (h2:2<=w.length) {h:Int × Int} (hh:h.1<=h.2):Fg pk w h=Fk (Dd pk w) (EA w h.1,EA w h.2) (Dd pk w).length:=by
 have e:Fg pk w h=(Jy (Dd pk w) (EA w h.1,EA w h.2)).1:=by
   match w,h2 with
   | a::b::r,_=>rfl
 obtain ⟨x,hx⟩:∃ x,w[0]?= some x:=⟨_,List.getElem?_eq_getElem (by omega)⟩
 obtain ⟨y,hy⟩:∃ y,w[w.length-1]?= some y:=⟨_,List.getElem?_eq_getElem (by omega)⟩
 have kx:(Dd pk w)[0]?= some (x.h,pk x):=by rw [EG,hx];rfl
 have ky:(Dd pk w)[(Dd pk w).length-1]?= some (y.h,pk y):=by rw [EG,IH,hy];rfl
 have c1:=AUi hw h.1;have c2:=AUi hw h.2;have c3:=AUj (w:=w) hh;have i1:=(My hw (pk:=pk) h.1).1 _ kx;have i2:=(My hw (pk:=pk) h.2).2 _ ky;rw [e];unfold Jy;rw [if_pos (AG4 hw hp h2),if_pos (CT.2 (by simp only;omega)),kx,ky];simp only at i1 i2 ⊢;rw [if_neg (by omega)]
theorem Mz {w:List Gal} (hw:OkW w) {pk:Gal->Int × Int} (hp:PkB w pk) {h:Int × Int} (hh:h.1<=h.2): -1000<=(Fg pk w h).1/\(Fg pk w h).1<=(Fg pk w h).2/\(Fg pk w h).2<=1000:=by
 have hl:=hw.len;by_cases h2:2<=w.length
 . rw [kP hw hp h2 hh]
   have hk:∀ k∈Dd pk w, -1000<=k.2.1/\k.2.1<=k.2.2/\k.2.2<=1000:=fun k hk=>by
     unfold Dd at hk;obtain ⟨x,hx,rfl⟩:=List.mem_map.1 hk;exact hp x hx
   have n1:=Sn (AG4 hw hp h2) (My hw h.1) hk;have n2:=Sn (AG4 hw hp h2) (My hw h.2) hk;exact QE (l:=Dd pk w) (x:=(EA w h.1,EA w h.2)) n1 n2 hk _ (Nat.le_refl _)
 . obtain ⟨x,rfl⟩:∃ x,w=[x]:=List.length_eq_one_iff.1 (by omega)
   exact hp x (by simp)
theorem kQ {w:List Gal} (hw:OkW w) {h:Int × Int} (hh:h.1<=h.2):(-1500<=(Jr w h).1/\(Jr w h).1<=(Jr w h).2/\(Jr w h).2<=1500)/\ -1500<=(Js w h).1/\(Js w h).1<=(Js w h).2/\(Js w h).2<=1500:=by
 have g:=AUF hw h;have x:=Mz hw (pk:=HG) (fun x hx=>hw.x x hx) hh;have y:=Mz hw (pk:=northW) (fun x hx=>hw.y x hx) hh;unfold Jr Js;simp only;omega
def EK (a:Atm) (c:Cel):Bool:=!decide (Lh c a=1)
end Go.Proofs.Tryz
namespace Go.Psl
variable {P:Program} {Γ:Tys} {eqs:Eqs} {E:Ent}
def RL (G:Gh) (W:World):Option V->FrameMode->Prop
 | none,u=>u= .returning
 | some v,u=>∃ x,u= .panicking [{v:=x,recovered:=false}]/\RV G W v x
def CmD (P:Program) (f:FuncId) (args:List V) (Hin:Hp) (ks:List Nat) (m:Option V) (H1:Hp):Prop:=
 fF P f/\∀ (G:Gh) (W:World) (xs:Array Value) (u:FrameMode),GW G.Im W->AJ (R2 G W) args xs.toList->ANh G W Hin ks->RL G W m u->
   CallsDIn Fence.wide 0 P f xs u W fun e u' W'=>settle u'= .returning/\(∃ v,e= .returned v)/\∃ G',sG G W Hin ks (.ret (.tup [])) H1 e W' G'
def NV:Option V->V
 | none=> .d (.lit .nilIface)
 | some v=>v
theorem ML {fn:Func} {args:List V} {N:Nat} {G:Gh} {W:World} {xs:Array Value} (hcl:∀ v∈args,A2 (· < N) AR v) (hargs:AJ (R2 G W) args xs.toList):
   (∀ t,RV G W (Dn 0 args t) ((xs++Array.replicate (fn.ntmps-xs.size) undef).getD t undef))/\∀ t,AV (· < N) AR (Dn 0 args t):=by
 have hl:args.length=xs.size:=by have:=hargs.length;simpa using this
 refine ⟨fun t=>?_,fun t=>?_⟩
 . rw [H5,if_pos (Nat.zero_le t),Nat.sub_zero,Array.getD_eq_getD_getElem?]
   by_cases ht:t<xs.size
   . rw [Array.getElem?_append_left ht,Array.getElem?_eq_getElem ht]
     have h1:args[t]?= some args[t]:=List.getElem?_eq_getElem (by omega);obtain ⟨x,hx,hrx⟩:=hargs.get h1;rw [h1]
     have:x=xs[t]:=by
       rw [Array.getElem?_toList,Array.getElem?_eq_getElem ht] at hx;cases hx;rfl
     subst this;exact hrx.rv
   . rw [List.getElem?_eq_none (by omega),Array.getElem?_append_right (by omega)]
     have:((Array.replicate (fn.ntmps-xs.size) undef)[t-xs.size]?).getD undef=undef:=by
       rw [Array.getElem?_replicate];split<;>rfl
     rw [this];exact EL
 . rw [H5,if_pos (Nat.zero_le t),Nat.sub_zero]
   cases h1:args[t]? with
   | none=>intro c hc;cases hc
   | some v=>
     obtain ⟨x,_,hx⟩:=hargs.get h1;exact hx.av (hcl v (List.mem_of_getElem? h1))
theorem CmD.by (hΓ:GOk P Γ) (hE:EB P eqs) (hm:P.follows .mixedOrders=true) {f:FuncId} {fn:Func} {id:Nat} {o1 o2:Oper} {rest:Code} {p:PC} {t3 t2:Nat} {args:List V} {Hin:Hp} {ks:List Nat} {m:Option V} {H1:List (Nat × List V)} (N:Nat)
   (hf:P.funcs[f]?= some fn) (hb:fn.body=some (.seq (.region id #[o1,o2] false) rest)) (hname:(fn.name == "runtime.NumGoroutine")=false)
   (g1:o1.guard=none) (g2:o2.guard=none) (d1:o1.dst=some t3) (d2:o2.dst=some t2) (r1:∀ ρ W,(execOp ρ o1).run P W= .ok .recover W) (r2:∀ ρ W,(execOp ρ o2).run P W= .ok (.value (ρ (.tmp t3))) W) (n3:t3<fn.ntmps) (n2:t2<fn.ntmps)
   (hc:AK fn.ntmps rest=some p) (hn:args.length<=fn.ntmps) (hcl:∀ v∈args,A2 (· < N) AR v) (hrv:AV (· < N) AR (NV m)) (hids:H3 N Hin) (hks:∀ i∈ks,i<N) (hri:LD (.tup []) H1)
   (h:∀ E:Ent,(∀ i,E.stab i↔i∈ks)->PW P Γ eqs E p (Mh Γ fn ks (.ret (.tup [])) H1) ⟨Am (Am (Dn 0 args) (some t3) (NV m)) (some t2) (NV m),Hin,N⟩):CmD P f args Hin ks m (lk H1):=by
 refine ⟨⟨fn,hf,by rw [hb];rfl,hname⟩,fun G W xs u hGW hargs hpre hu=>?_⟩;obtain ⟨hfr,hwf⟩:=ML (fn:=fn) hcl hargs;have hl:args.length=xs.size:=by have:=hargs.length;simpa using this
 have hsz:(xs++Array.replicate (fn.ntmps-xs.size) undef).size=fn.ntmps:=by simp;omega
 have hI:=Inv.startN (nt:=fn.ntmps) (rd:=none) (nm:=true) hGW hpre hids hks (tmps:=xs++Array.replicate (fn.ntmps-xs.size) undef) hfr hwf (by rw [hsz];exact Nat.le_refl _);refine callsDIn_of_wpSIn hf hb trivial fun c₀ cs hc0=>?_
 refine wpSIn_seq (wpSIn_region ?_)
 have tail:∀ (x:Value) (c1:Frame) (u':FrameMode),RV G W (NV m) x->c1={c₀ with mode:=u'}->settle u'= .returning->
     Exit.thenS (rest.wpSIn Fence.wide 0 P (bodyPostS P fn c₀ cs fun e u' W'=>settle u'= .returning/\(∃ v,e= .returned v)/\∃ G',sG G W Hin ks (.ret (.tup [])) (lk H1) e W' G')) (bodyPostS P fn c₀ cs fun e u' W'=>settle u'= .returning/\(∃ v,e= .returned v)/\∃ G',sG G W Hin ks (.ret (.tup [])) (lk H1) e W' G') .normal
       ((({tmps:=xs++Array.replicate (fn.ntmps-xs.size) undef,defers:=[]}:Act).put (some t3) x).put (some t2) x) (c1::cs) W:=by
   intro x c1 u' hx hc1 hu';refine wpSIn_of_wpIn rfl ?_;have hI1:=(hI.slot hx hrv (some t3) (fun d hd=>by cases hd;exact n3)).slot (v:=NV m) (x:=x) hx hrv (some t2) (fun d hd=>by cases hd;exact n2);refine wpIn_mono (PW.sound hΓ hE hm rest p hc _ _ (h _ (fun _=>Iff.rfl)) G _ W hI1) fun e a' W' ⟨y,st',G',hI',hy,_,hq⟩=>?_
   have hbase:W=W/\G.Im=G.Im/\(∀ b,Bm G Hin b↔Bm G Hin b)/\∀ i,i∈ks->i∈ks/\G.β i=G.β i/\G.bs i=G.bs i/\G.lo i=G.lo i:=⟨rfl,rfl,fun _=>Iff.rfl,fun _ h=>⟨h,rfl,rfl,rfl⟩⟩
   obtain ⟨ds,hd,hmk⟩:=hI'.df;have hd0:ds=[]:=hmk.nm rfl;subst hd0
   have fin:Dc Γ fn ks (.tup []) H1 st'->bodyPostS P fn c₀ cs (fun e u' W'=>settle u'= .returning/\(∃ v,e= .returned v)/\∃ G',sG G W Hin ks (.ret (.tup [])) (lk H1) e W' G') .ret a' (c1::cs) W':=fun hq=>by
     obtain ⟨ρ,v,hv,hr,h4,h5,h6⟩:=H6 hΓ hI' hq;exact ⟨hd,u',by rw [hc1],v,hv,hu',⟨v,rfl⟩,_,GK (res:= .ret (.tup [])) hbase hri hI' h4 h5 h6 (e:= .returned v) hr⟩
   cases e<;>cases y<;>first | exact fin hq | exact hq.elim | exact False.elim hy
 rw [show List.range (#[o1,o2]:Array Oper).size=[0,1] from rfl];simp only [wpOpsSIn];have w1:Region.wanted o1 (yielded #[o1,o2] (xs++Array.replicate (fn.ntmps-xs.size) undef))=true:=by simp [Region.wanted,g1]
 have w2:∀ T,Region.wanted o2 (yielded #[o1,o2] T)=true:=fun T=>by simp [Region.wanted,g2]
 have e1:(#[o1,o2]:Array Oper)[0]?= some o1:=rfl;have e2:(#[o1,o2]:Array Oper)[1]?= some o2:=rfl
 have ev:∀ x:Value,((({tmps:=xs++Array.replicate (fn.ntmps-xs.size) undef,defers:=[]}:Act).put (some t3) x).eval (.tmp t3))=x:=fun x=>by
   simp [Act.put,Act.eval,Array.getD_eq_getD_getElem?,hsz,n3]
 rw [e1];refine ⟨fun _ _=>trivial,?_⟩;simp only [w1,if_true,r1];cases m with
 | none=>
   have hmode:c₀.mode= .returning:=hc0.trans hu;have hrec:recoverD (c₀::cs)=none:=by simp [recoverD,hmode]
   simp only [hrec,e2];refine ⟨fun _ _=>trivial,?_⟩;simp only [w2,if_true,r2,d1,d2,ev];exact tail .nilIface c₀ .returning (.lit _ rfl) (by rw [<-hmode]) rfl
 | some v=>
   obtain ⟨x,hx,hrx⟩:=hu;have hmode:c₀.mode= .panicking [{v:=x,recovered:=false}]:=hc0.trans hx;have hrec:recoverD (c₀::cs)=some (x,{c₀ with mode:= .panicking [{v:=x,recovered:=true}]}::cs):=by simp [recoverD,hmode]
   simp only [hrec,e2];refine ⟨fun _ _=>trivial,?_⟩;simp only [w2,if_true,r2,d1,d2,ev];exact tail x _ _ hrx rfl rfl
end Go.Psl
namespace Go.Psl
variable {P:Program} {Γ:Tys} {eqs:Eqs} {E:Ent}
theorem jh {α:Type} {l:List α} (h:l.length=2):∃ a b,l=[a,b]:=by
 match l,h with
 | [a,b],_=>exact ⟨a,b,rfl⟩
structure ji (E:Ent) (G0:Gh) (W0:World):Prop where
 w:E.W0=W0
 im:E.Im0=G0.Im
 mu:∀ b,E.mu b↔Bm G0 noH b
 rd:E.rd=none
 dx:E.dx=[]
 nm:E.nm=true
abbrev KO (G0:Gh) (W0:World) (r:V) (H1:List (Nat × List V)):Ending->World->Prop:=fun e W'=>∃ G',sG G0 W0 noH [] (.ret r) (lk H1) e W' G'
def DW (P:Program) (E:Ent) (fn:Func) (r:V) (H1:List (Nat × List V)) (p:PC) (st:St):Prop:=
 LD r H1->∀ (c:Code),AK E.nt c=some p->∀ (G0:Gh) (W0:World),ji E G0 W0->∀ G a W,Inv E (· < st.nx) G st a W->
   c.wpIn Fence.wide 0 P (bodyPostM Fence.wide 0 P fn (KO G0 W0 r H1)) a W
theorem OI {nt:Nat} {c:Code} {pa pb:PC} (h:AK nt c=some (.seq pa pb)):∃ x y,c= .seq x y/\AK nt x=some pa/\AK nt y=some pb:=by
 cases c with
 | seq x y=>
   simp only [AK,Option.bind_eq_some_iff,Option.map_eq_some_iff] at h;obtain ⟨a,ha,b,hb,he⟩:=h;cases he;exact ⟨x,y,rfl,ha,hb⟩
 | region id ops draw=>
   simp only [AK,M8] at h;split at h
   . split at h
     . simp only [Option.some.injEq] at h
       split at h<;>cases h
     . cases h
   . split at h<;>cases h
 | cond c a b=>
   simp only [AK,Option.bind_eq_some_iff,Option.map_eq_some_iff] at h;obtain ⟨a,ha,b,hb,he⟩:=h;cases he
 | rangeFunc f ps a b=>
   simp only [AK,Option.bind_eq_some_iff,Option.map_eq_some_iff] at h;obtain ⟨a,ha,b,hb,he⟩:=h;cases he
 | block id a=>
   simp only [AK,Option.map_eq_some_iff] at h;obtain ⟨a,ha,he⟩:=h;cases he
 | loop a=>
   simp only [AK,Option.map_eq_some_iff] at h;obtain ⟨a,ha,he⟩:=h;cases he
 | _=>simp [AK] at h
theorem XF {nt:Nat} {c:Code} {ops:List PO} (h:AK nt c=some (.reg ops)):∃ id all,c= .region id (List.toArray all) false/\ops=all.map (IO all)/\F3 nt all=true:=by
 cases c with
 | seq x y=>
   simp only [AK,Option.bind_eq_some_iff,Option.map_eq_some_iff] at h;obtain ⟨a,ha,b,hb,he⟩:=h;cases he
 | region id ops draw=>
   simp only [AK,M8] at h;split at h
   . split at h
     . simp only [Option.some.injEq] at h
       split at h<;>cases h
     . cases h
   . rename_i hd
     split at h
     . rename_i hds
       simp only [Option.some.injEq,PC.reg.injEq] at h;refine ⟨id,ops.toList,?_,h.symm,hds⟩;cases draw
       . simp
       . exact absurd rfl hd
     . cases h
 | cond c a b=>
   simp only [AK,Option.bind_eq_some_iff,Option.map_eq_some_iff] at h;obtain ⟨a,ha,b,hb,he⟩:=h;cases he
 | rangeFunc f ps a b=>
   simp only [AK,Option.bind_eq_some_iff,Option.map_eq_some_iff] at h;obtain ⟨a,ha,b,hb,he⟩:=h;cases he
 | block id a=>
   simp only [AK,Option.map_eq_some_iff] at h;obtain ⟨a,ha,he⟩:=h;cases he
 | loop a=>
   simp only [AK,Option.map_eq_some_iff] at h;obtain ⟨a,ha,he⟩:=h;cases he
 | _=>simp [AK] at h
def dwQ (P:Program) (Γ:Tys) (E:Ent) (fn:Func) (r:V) (H1:List (Nat × List V)) (pb:PC):Av->St->Prop
 | .normal,st=>DW P E fn r H1 pb st
 | .ret,st=>Dc Γ fn [] r H1 st
 | _,_=>False
theorem DW.seq (hΓ:GOk P Γ) (hE:EB P eqs) (hm:P.follows .mixedOrders=true) {fn:Func} {r:V} {H1:List (Nat × List V)} {pa pb:PC} {st:St} (h:PW P Γ eqs E pa (dwQ P Γ E fn r H1 pb) st):DW P E fn r H1 (.seq pa pb) st:=by
 intro hri c hc G0 W0 hB G a W hI;obtain ⟨x,y,rfl,hx,hy⟩:=OI hc;have hF:E.F=Fence.wide:=by unfold Ent.F;rw [hB.rd];rfl
 have h1:=PW.sound hΓ hE hm x pa hx _ _ h G a W hI;rw [hF] at h1;refine wpIn_seq (wpIn_mono h1 fun e a' W' ⟨z,st',G',hI',hz,ho,hq⟩=>?_);have hbase:E.W0=W0/\E.Im0=G0.Im/\(∀ b,E.mu b↔Bm G0 noH b)/\∀ i,i∈([]:List Nat)->E.stab i/\E.β0 i=G0.β i/\E.bs0 i=G0.bs i/\E.lo0 i=G0.lo i:=⟨hB.w,hB.im,hB.mu,fun _ h=>by cases h⟩
 cases z with
 | normal=>
   cases e<;>first | exact hq hri y hy G0 W0 hB G' a' W' hI' | exact False.elim hz
 | ret=>
   cases e with
   | ret=>
     show LeavesInM Fence.wide 0 P fn a'.tmps (KO G0 W0 r H1) a'.defers .returning W'
     obtain ⟨ds,hd,hmk⟩:=hI'.df;rw [hmk.nm hB.nm,hB.dx] at hd;rw [hd];obtain ⟨ρ,v,hv,hr,h4,h5,h6⟩:=H6 hΓ hI' hq;exact ⟨v,hv,_,GK (res:= .ret r) hbase hri hI' h4 h5 h6 (e:= .returned v) hr⟩
   | _=>exact False.elim hz
 | _=>exact hq.elim
def Cn (P:Program) (g:FuncId) (ids:List (Nat × Nat)) (m:Option V) (K:St->Prop) (st:St):Prop:=
 (∀ p∈ids,(st.H p.1).isSome=true)/\∃ args Hin ks H1c,CmD P g args Hin ks m H1c/\IB st.H (ids.map fun p=> .lp p.1 p.2) args Hin ks (.ret (.tup [])) H1c/\K ⟨st.fr,BI st.H st.nx Hin ks H1c,st.nx⟩
def XG (P:Program) (Γ:Tys) (fn:Func) (r:V) (H1:List (Nat × List V)) (g:FuncId) (ids:List (Nat × Nat)):Av->St->Prop
 | .normal,st | .ret,st=>Cn P g ids none (Dc Γ fn [] r H1) st
 | .pan v,st=>∃ D,v= .d D/\Cn P g ids (some v) (Dc Γ fn [] r H1) st
 | _,_=>False
theorem JY (hΓ:GOk P Γ) {fn:Func} {r:V} {H1:List (Nat × List V)} {g:FuncId} {ids:List (Nat × Nat)} {cv:Array Value} (hri:LD r H1) {G0:Gh} {W0:World} {E:Ent} (hbase:E.W0=W0/\E.Im0=G0.Im/\(∀ b,E.mu b↔Bm G0 noH b)/\∀ i,i∈([]:List Nat)->E.stab i/\E.β0 i=G0.β i/\E.bs0 i=G0.bs i/\E.lo0 i=G0.lo i)
   (hcv:AJ (fun (p:Nat × Nat) x=>E.stab p.1/\E.lo0 p.1=false/\x= .pointer (some ⟨E.β0 p.1,p.2,none⟩)) ids cv.toList) {st:St} {G:Gh} {a:Act} {W:World} (hI:Inv E (· < st.nx) G st a W) {m:Option V} (hm:∀ v,m=some v->∃ D,v= .d D) {u:FrameMode} (hu0:u≠ .run) (hu:RL G W m u) (h:Cn P g ids m (Dc Γ fn [] r H1) st):
   LeavesInM Fence.wide 0 P fn a.tmps (KO G0 W0 r H1) [{target:= .fn (.func g) cv,args:= #[]}] u W:=by
 obtain ⟨hlive,args,Hin,ks,H1c,⟨⟨f',hfn',hbody,hname⟩,hcm⟩,hcb,hK⟩:=h;have h1:f'.name≠ "runtime.NumGoroutine" :=by simpa using hname
 have h2:f'.body.isNone=false:=by cases h:f'.body<;>simp_all
 have hrel:AJ (RV G W) (ids.map fun p=>V.lp p.1 p.2) cv.toList:=AJ.map_left.2 (AJ.of_get hcv.length fun i p x hp hx=>by
   obtain ⟨y,hy,q1,q2,q3⟩:=hcv.get hp;rw [hx] at hy;cases hy;have hs:=hI.stab p.1 q1 (hlive p (List.mem_of_getElem? hp));refine ⟨⟨hs.2.2.1,hs.2.2.2.trans q2⟩,?_⟩;rw [q3,hs.1])
 obtain ⟨Im,hIm,hall,hpre,hph,hcs⟩:=GR hI hrel hcb;obtain ⟨hin,hlt,hkk,_⟩:=hcb
 have hle:∀ b,G.Im b->Im b:=fun b hb=>by
   rcases hcs with h | ⟨h,_⟩
   . exact (h b).2 hb
   . exact (h b).2 (.inl hb)
 have hmode:RL {G with Im:=Im} W m u:=by
   cases m with
   | none=>exact hu
   | some v=>
     obtain ⟨x,hx,hr⟩:=hu;obtain ⟨D,rfl⟩:=hm v rfl;exact ⟨x,hx,RD.mono (show RD G.Im W D x from hr) fun b hb=>⟨hle b hb,rfl⟩⟩
 refine ⟨hu0, .inr ⟨by simp [Fence.wide], .func g,cv,g,cv,rfl,?_,fun _ _=>trivial,?_⟩⟩
 . simp only [invoke,callFunc,Sem.run_bind,run_program,Result.andThen_ok,hfn']
   simp [h1,h2]
 . refine (hcm {G with Im:=Im} W cv u hIm hall hpre hmode).mono fun e u' W' ⟨hs,⟨v,hv⟩,G',hpost⟩=>?_
   subst hv
   show LeavesInM Fence.wide 0 P fn a.tmps (KO G0 W0 r H1) [] (settle u') W'
   rw [hs];obtain ⟨G'',hI',hrv,hav,_⟩:=hI.call (base:=st.nx) (U':=(· < st.nx+1048576)) (fun j _=>by omega) (fun i hi=>by omega) (fun j hj=>by omega) hin hlt (fun i hi=>(hpre.st i hi).1) hph hpost hcs;obtain ⟨ρ,v',hv',hr,h4,h5,h6⟩:=H6 hΓ hI' hK;exact ⟨v',hv',_,GK (res:= .ret r) hbase hri hI' h4 h5 h6 (e:= .returned v') hr⟩
theorem DW.defer (hΓ:GOk P Γ) (hE:EB P eqs) (hm:P.follows .mixedOrders=true) {fn:Func} {r:V} {H1:List (Nat × List V)} {pb:PC} {t:Nat} {g:FuncId} {caps:Array Operand} {cl:Call} {st:St} (ids:List (Nat × Nat)) (hcal:cl.callee= .value (.tmp t)) (hcl:cl.args= #[])
   (hcaps:BX st.fr caps.toList=ids.map fun p=> .lp p.1 p.2) (_:∀ i,¬ E.stab i)
   (h:∀ E':Ent,E'.nt=E.nt->(∀ i,E'.stab i↔i∈ids.map Prod.fst)->E'.rq->PW P Γ eqs E' pb (XG P Γ fn r H1 g ids) ⟨Am st.fr (some t) (.cl g (ids.map fun p=> .lp p.1 p.2)),st.H,st.nx+2097152⟩):
   DW P E fn r H1 (.seq (.reg [⟨some t, .makeFunc (.func g) #[] caps,none⟩,⟨none, .defer cl,none⟩]) pb) st:=by
 intro hri c hc G0 W0 hB G a W hI;obtain ⟨x,y,rfl,hx,hy⟩:=OI hc;obtain ⟨id,all,rfl,hops,hds⟩:=XF hx;obtain ⟨o1,o2,rfl⟩:=jh (l:=all) (by have:=congrArg List.length hops;simpa using this.symm);simp only [List.map_cons,List.map_nil,List.cons.injEq,IO,PO.mk.injEq,and_true] at hops;obtain ⟨⟨p1,p2,p3⟩,q1,q2,q3⟩:=hops;have g1:o1.guard=none:=by cases h:o1.guard with | none=>rfl | some z=>rw [h] at p3;cases p3
 have g2:o2.guard=none:=by cases h:o2.guard with | none=>rfl | some z=>rw [h] at q3;cases q3
 have hF:E.F=Fence.wide:=by unfold Ent.F;rw [hB.rd];rfl
 refine wpIn_seq (wpIn_region_lit ?_);have w1:Region.wanted o1 (yielded [o1,o2].toArray a.tmps)=true:=by simp [Region.wanted,g1]
 have w2:∀ T,Region.wanted o2 (yielded [o1,o2].toArray T)=true:=fun T=>by simp [Region.wanted,g2]
 simp only [wpListIn,w1,if_true]
 have hlt:t<E.nt:=by
   have:=List.all_eq_true.1 hds o1 (by simp);rw [<-p1] at this;simpa using this
 have hev:A9 Γ eqs st.H st.nx st.fr o1.op=some (.cl g (ids.map fun p=> .lp p.1 p.2), .none):=by
   rw [<-p2];simp only [A9,AN8,hcaps,G8];simp [V.cap]
 have hs:=E4 (U':=(· < st.nx+2097152)) hΓ hE hI (o:=o1) (b:=st.nx) (fun j _=>by omega) (fun i hi=>by omega) (fun j hj=>by omega) (fun d hd=>by rw [<-p1] at hd;cases hd;exact hlt) (.plain _ _ hev)
   (K:=fun a' W'=>wpListIn Fence.wide 0 P [o1,o2].toArray (Exit.then (y.wpIn Fence.wide 0 P (bodyPostM Fence.wide 0 P fn (KO G0 W0 r H1))) (bodyPostM Fence.wide 0 P fn (KO G0 W0 r H1))) [o2] a' W')
   (Q:=Exit.then (y.wpIn Fence.wide 0 P (bodyPostM Fence.wide 0 P fn (KO G0 W0 r H1))) (bodyPostM Fence.wide 0 P fn (KO G0 W0 r H1))) fun G' a' W' hI'=>by
     simp only [wpListIn,w2,if_true];refine ⟨fun _ _=>trivial,?_⟩;have hfr:=hI'.fr t;have hwf:=hI'.wf t;have e0:Am st.fr o1.dst (.cl g (ids.map fun p=> .lp p.1 p.2)) t= .cl g (ids.map fun p=> .lp p.1 p.2):=by rw [<-p1];simp [Am,upd]
     simp only [e0] at hfr hwf;obtain ⟨cv,hx,hcr⟩:=hfr;have hwf':∀ c∈(ids.map fun p=>V.lp p.1 p.2),A0 (· < st.nx+2097152) AR c:=hwf
     have hev2:a'.eval (.tmp t)= .func (.func g) #[] cv:=by
       simpa [Act.eval] using hx
     have hrun:(o2.semAt Fence.wide.round a'.eval).run P W'= .ok (.defer {target:= .fn (.func g) cv,args:= #[]}) W':=by
       have:Fence.wide.round=none:=rfl;rw [this,Oper.semAt_none];simp [execOp,<-q2,resolve,hcal,hcl,hev2,Deferred.ofValue]
     rw [hrun];simp only [Oper.uponIn,<-q1];have hI0:=hI';rw [<-p1] at hI0
     have hlp:∀ i,i∈ids.map Prod.fst->(G'.ph i=false/\G'.lo i=false)/\i<st.nx+2097152:=fun i hi=>by
       obtain ⟨p,hp,rfl⟩:=List.mem_map.1 hi;obtain ⟨k,hk⟩:=List.getElem?_of_mem hp;obtain ⟨z,hz,hr⟩:=(AJ.map_left.1 hcr).get hk;exact ⟨hr.1,hwf' _ (List.mem_map.2 ⟨p,hp,rfl⟩)⟩
     let E':Ent:={E with dx:=[{target:= .fn (.func g) cv,args:= #[]}],nm:=false,stab:=fun i=>i∈ids.map Prod.fst,β0:=G'.β,bs0:=G'.bs,lo0:=G'.lo}
     have hdf:a'.defers=[]:=by
       obtain ⟨ds,hd,hmk⟩:=hI'.df;rw [hmk.nm hB.nm,hB.dx] at hd;exact hd
     have hI2:Inv E' (· < st.nx+2097152) G' ⟨Am st.fr (some t) (.cl g (ids.map fun p=> .lp p.1 p.2)),st.H,st.nx+2097152⟩ {a' with defers:=[{target:= .fn (.func g) cv,args:= #[]}]} W':=
       ⟨hI0.fr,hI0.wf,hI0.hp,hI0.wh,hI0.dom,hI0.inj,hI0.own,hI0.im,hI0.im0,⟨hI0.keep.os,hI0.keep.tape,hI0.keep.output,hI0.keep.drawn,hI0.keep.size,hI0.keep.block⟩,fun i hi _=>⟨rfl,rfl,(hlp i hi).1.1,rfl⟩,fun i hi=>(hlp i hi).2,hI0.nt,⟨[],rfl,List.nodup_nil,fun _ h=>(nomatch h),fun _=>rfl⟩,hI0.gl⟩
     have hF':E'.F=Fence.wide:=by show ({Fence.wide with round:=E.rd}:Fence)=_;rw [hB.rd];rfl
     have hsnd:=PW.sound (E:=E') hΓ hE hm y pb hy _ _ (h E' rfl (fun _=>Iff.rfl) ⟨hB.rd,rfl⟩) G' _ W' hI2;rw [hF'] at hsnd;rw [hdf]
     show y.wpIn Fence.wide 0 P (bodyPostM Fence.wide 0 P fn (KO G0 W0 r H1)) {a' with defers:=[{target:= .fn (.func g) cv,args:= #[]}]} W'
     have hbase:E'.W0=W0/\E'.Im0=G0.Im/\(∀ b,E'.mu b↔Bm G0 noH b)/\∀ i,i∈([]:List Nat)->E'.stab i/\E'.β0 i=G0.β i/\E'.bs0 i=G0.bs i/\E'.lo0 i=G0.lo i:=⟨hB.w,hB.im,hB.mu,fun _ h=>by cases h⟩
     have hcv:AJ (fun (p:Nat × Nat) x=>E'.stab p.1/\E'.lo0 p.1=false/\x= .pointer (some ⟨E'.β0 p.1,p.2,none⟩)) ids cv.toList:=
       AJ.of_get (by have:=hcr.length;simpa using this) fun i p x hp hx=>by
         obtain ⟨z,hz,hr⟩:=(AJ.map_left.1 hcr).get hp;rw [hx] at hz;cases hz;exact ⟨List.mem_map.2 ⟨p,List.mem_of_getElem? hp,rfl⟩,hr.1.2,hr.2⟩
     refine wpIn_mono hsnd fun e a3 W3 ⟨z,st3,G3,hI3,hz,ho,hq⟩=>?_
     obtain ⟨ds,hd,_⟩:=hI3.df
     have fin:Cn P g ids none (Dc Γ fn [] r H1) st3->LeavesInM Fence.wide 0 P fn a3.tmps (KO G0 W0 r H1) a3.defers .returning W3:=fun hq=>by
       rw [hd];refine DI (u:= .returning) nofun ds a3 W3 rfl hd hI3 (W0:=W3) (fun _ _=>rfl) fun a4 W4 ht hI4 _=>?_
       rw [<-ht];exact JY hΓ hri hbase hcv hI4 (m:=none) nofun nofun rfl hq
     cases z with
     | normal=>cases e<;>first | exact fin hq | exact False.elim hz
     | ret=>cases e<;>first | exact fin hq | exact False.elim hz
     | exit _=>exact hq.elim
     | goto _=>exact hq.elim
     | pan v=>
       cases e with
       | panic ch=>
         obtain ⟨D,rfl,hq⟩:=hq;obtain ⟨x,hx,hrx⟩:=hz
         show LeavesInM Fence.wide 0 P fn a3.tmps (KO G0 W0 r H1) a3.defers (.panicking ch) W3
         rw [hd];refine DI (u:= .panicking ch) nofun ds a3 W3 rfl hd hI3 (W0:=W3) (fun _ _=>rfl) fun a4 W4 ht hI4 hW4=>?_
         rw [<-ht];refine JY hΓ hri hbase hcv hI4 (m:=some (.d D)) (fun v hv=>⟨D,by cases hv;rfl⟩) nofun ⟨x,by rw [hx],?_⟩ hq;exact RD.mono (show RD G3.Im W3 D x from hrx) fun b hb=>⟨hb,hW4 b hb⟩
       | _=>exact False.elim hz
 rw [hF] at hs;exact hs
theorem Ct.byD (_:GOk P Γ) {f:FuncId} {fn:Func} {p:PC} {args:List V} {r:V} {H1:List (Nat × List V)} (hf:P.funcs[f]?= some fn) (hc:fn.body.bind (AK fn.ntmps)=some p) (hname:(fn.name == "runtime.NumGoroutine")=false)
   (hn:args.length<=fn.ntmps) (hcl:∀ v∈args,I8 v) (hri:LD r H1) (h:∀ E:Ent,(∀ i,¬ E.stab i)->E.nt=fn.ntmps->DW P E fn r H1 p ⟨Dn 0 args,fun _=>none,0⟩):Ct P f args r H1:=by
 cases hb:fn.body with
 | none=>rw [hb] at hc;cases hc
 | some c=>
   rw [hb] at hc;refine ⟨⟨fn,hf,by rw [hb];rfl,hname⟩,fun G W xs hGW hargs hpre=>?_⟩;have hcl':∀ v∈args,A2 (· < 0) AR v:=fun v hv=>A2.mono (fun _ h=>h.elim) (fun _ h=>h) (hcl v hv)
   obtain ⟨hfr,hwf⟩:=ML (fn:=fn) hcl' hargs;have hl:args.length=xs.size:=by have:=hargs.length;simpa using this
   have hI:=Inv.startN (N:=0) (nt:=fn.ntmps) (rd:=none) (nm:=true) hGW hpre nofun nofun (tmps:=xs++Array.replicate (fn.ntmps-xs.size) undef) hfr hwf (by simp;omega);rw [<-callsIn_wide (n:=0)];refine callsIn_of_wp_marks hf hb trivial ?_;exact h {W0:=W,Im0:=G.Im,mu:=Bm G noH,β0:=G.β,bs0:=G.bs,lo0:=G.lo,stab:=(·∈([]:List Nat)),nt:=fn.ntmps,rd:=none,nm:=true} (fun i hi=>by cases hi) rfl hri c hc G W ⟨rfl,rfl,fun _=>Iff.rfl,rfl,rfl,rfl⟩ G _ W hI
end Go.Psl
namespace Go.Psl
variable {P:Program} {Γ:Tys} {eqs:Eqs} {K:RK} {Kx:V->RK} {b n:Nat} {r:List PO} {f:Nat->V} {H:Hp} {dst:Option Nat}
def mF (Kx:V->RK) (f:Nat->V) (H:Hp) (n:Nat):V->Prop
 | .d (.ifc t ag cs)=>Kx (.d (.ifc t ag cs)) f H n
 | _=>False
theorem ABb {t:TypeId} {ag:Bool} {cs:List D}:mF Kx f H n (.d (.ifc t ag cs))=Kx (.d (.ifc t ag cs)) f H n:=AF rfl
theorem mG {x:Operand}:rr P Γ eqs Kx K b (⟨dst, .panic x,none⟩::r) f H=mF Kx f H (b+1048576) (evF f x):=by
 simp only [rr,H8,PO.run,gV2,Fa,A9,true_and];unfold mF;split
 . rename_i t ag cs h;rw [h];simp
 . rename_i h
   simp only [eq_iff_iff,iff_false,not_and]
   rintro ⟨t,ag,cs,e⟩
   exact absurd e (h t ag cs)
attribute [simp] mG ABb jH
end Go.Psl
namespace Go.Proofs.Tryz
open Go.Psl
open Go.Air
abbrev plB (p:Plt) (c:V):List V:=[c,vi p.bt,vi p.ih,vi p.ia,vi p.vh,vi p.va,vi p.lh,vi p.la,vi p.ph,vi p.pa]
abbrev Fm (e:Int):V:= .d (.ifc 218 true [di e])
theorem Nr:∀ x:Cel,(AP x).length=7:=fun _=>rfl
theorem BP (e:Int):Ct prog 112 [vb true,vi e] (.tup []) []:=by
 refine CB func112 ASd fun E hE=>?_
 simp [p112];apply RZ;simp [results112]
theorem Xt (e:Int):Cm prog 112 [vb false,vi e] (lk []) [] (.pan (Fm e)) (lk []):=by
 refine CM 0 func112 ASd fun E hs hE=>?_
 simp [p112,AA];refine ⟨fun _=>none,?_,?_,?_,?_⟩<;>simp
theorem AQY (a b c d:Int) (h:(-2000000000000<=a/\a<=2000000000000)/\(-2000000000000<=b/\b<=2000000000000)/\(-2000000000000<=c/\c<=2000000000000)/\ -2000000000000<=d/\d<=2000000000000):Ct prog 60 [vsp a b,vsp c d] (vsp (a+c) (b+d)) []:=by
 have w1:IntKind.wrap .i64 (a+c)=a+c:=AD (by omega) (by omega);have w2:IntKind.wrap .i64 (b+d)=b+d:=AD (by omega) (by omega);refine CB func60 c60 fun E hE=>?_
 simp [p60,AA,w1,w2];apply RZ;simp [results60]
def inA (n:Nat) (a:Act):Bool:=rgB 0 ((n:Int)-1) [a.c]&&rgB 1 10000000 [a.n]
theorem EQ {n:Nat} {a:Act}:inA n a=true↔(0<=a.c/\a.c<n)/\1<=a.n/\a.n<=10000000:=by
 unfold inA rgB;simp;omega
theorem Iz (p:Plt) (cs:List Cel) (a:Act) (hl:cs.length<=1000000) (hin:inA cs.length a=true):Cm prog 143 [.lp 0 0,BZ a] (lk [(0,plB p (.ls 1 0 cs.length 7)),(1,AH AP cs)]) [0,1] (.ret (.lp 1 (a.c.toNat*7))) (lk [(0,plB p (.ls 1 0 cs.length 7)),(1,AH AP cs)]):=by
 have h1:=EQ.1 hin;obtain ⟨i,hi⟩:∃ i:Nat,a.c=i:=⟨a.c.toNat,by omega⟩
 have c1:=ALU 0 ((cs.length:Int)-1) [a.c] (by simp);have c2:=ALU 1 10000000 [a.n] (by simp);have c3:=BP 2;unfold inA at hin;simp only [Bool.and_eq_true] at hin;rw [hin.1] at c1;rw [hin.2] at c2;rw [hi] at c1 h1 ⊢;have hI:(i:Int)<cs.length:=by omega
 have hil:i<cs.length:=by omega
 have w:IntKind.wrap .i64 ((cs.length:Int)-1)=(cs.length:Int)-1:=AD (by omega) (by omega);have hsl:=Aw Nr cs;refine CM 2 func143 AQA fun E hs hE=>?_
 simp [p143,AA,AM,inC,Nat.testBit,hi,w]
 repeat ((first | (refine CLt c1 ?_ ?_;focus (simp [AG];done)) | (refine CLt c2 ?_ ?_;focus (simp [AG];done)) | (refine CLt c3 ?_ ?_;focus (simp;done)));simp [AA,AM,inC,Nat.testBit,hI])
 refine AB.by (lk [(0,0),(1,1)]) ?_;simp [results143]
theorem UB (p:Plt) (cs:List Cel) (a:Act) (hl:cs.length<=1000000) (hin:inA cs.length a=false):Cm prog 143 [.lp 0 0,BZ a] (lk [(0,plB p (.ls 1 0 cs.length 7)),(1,AH AP cs)]) [0,1] (.pan (Fm 2)) (lk [(0,plB p (.ls 1 0 cs.length 7)),(1,AH AP cs)]):=by
 have c1:=ALU 0 ((cs.length:Int)-1) [a.c] (by simp);have c2:=ALU 1 10000000 [a.n] (by simp);have c3:=Xt 2;have w:IntKind.wrap .i64 ((cs.length:Int)-1)=(cs.length:Int)-1:=AD (by omega) (by omega);unfold inA at hin
 generalize rgB 0 ((cs.length:Int)-1) [a.c]=b1 at*
 generalize rgB 1 10000000 [a.n]=b2 at*
 cases b1
 . refine CM 2 func143 AQA fun E hs hE=>?_
   simp [p143,AA,AM,inC,Nat.testBit,w]
   repeat ((first | (refine CLt c1 ?_ ?_;focus (simp [AG];done)) | (refine CLt c2 ?_ ?_;focus (simp [AG];done)));simp)
   refine CRs c3 (by simp) ?_;refine ⟨lk [(0,0),(1,1)],?_,?_,?_,?_⟩<;>simp
 . cases b2
   . refine CM 2 func143 AQA fun E hs hE=>?_
     simp [p143,AA,AM,inC,Nat.testBit,w]
     repeat ((first | (refine CLt c1 ?_ ?_;focus (simp [AG];done)) | (refine CLt c2 ?_ ?_;focus (simp [AG];done)));simp [AA,AM])
     refine CRs c3 (by simp) ?_;refine ⟨lk [(0,0),(1,1)],?_,?_,?_,?_⟩<;>simp
   . simp at hin
theorem dG (p:Plt) (a:Act):Cm prog 143 [.lp 0 0,BZ a] (lk [(0,plB p (.ls 1 0 0 7))]) [] (.pan (Fm 2)) (lk []):=by
 have c1:=ALU 0 (-1) [a.c] (by simp);have c3:=Xt 2;have e:rgB 0 (-1) [a.c]=false:=by unfold rgB;simp;omega
 have w:IntKind.wrap .i64 (-1)= -1:=by decide
 rw [e] at c1;refine CM 2 func143 AQA fun E hs hE=>?_
 simp [p143,AA,AM,inC,Nat.testBit,w]
 repeat ((first | (refine CLt c1 ?_ ?_;focus (simp [AG];done)));simp)
 refine CRs c3 (by simp) ?_;refine ⟨fun _=>none,?_,?_,?_,?_⟩<;>simp
def BQ (c:Cel) (n:Int):Int:=n*c.he/(c.he+c.ai)
def I0 (c:Cel) (n:Int):Cel:={c with he:=c.he-BQ c n,ai:=c.ai-(n-BQ c n)}
theorem KE {c:Cel} {n:Int} (h1:0<=c.he) (h2:0<=c.ai) (h3:0<=n) (h4:n<=c.he+c.ai):0<=BQ c n/\BQ c n<=c.he/\BQ c n<=n/\n-BQ c n<=c.ai:=by
 unfold BQ;by_cases h0:c.he+c.ai=0
 . have:n=0:=by omega
   subst this;simp;omega
 have hp:0<c.he+c.ai:=by omega
 have e1:0<=n*c.he:=Int.mul_nonneg h3 h1;have e2:n*c.he<=(c.he+c.ai)*c.he:=Int.mul_le_mul_of_nonneg_right h4 h1;have e3:n*c.he<=n*(c.he+c.ai):=Int.mul_le_mul_of_nonneg_left (by omega) h3;refine ⟨Int.ediv_nonneg e1 (by omega),?_,?_,?_⟩
 . have:=Int.ediv_le_ediv hp e2
   rwa [Int.mul_ediv_cancel_left _ h0] at this
 . have:=Int.ediv_le_ediv hp e3
   rwa [Int.mul_ediv_cancel _ h0] at this
 . have e4:(n-c.ai)*(c.he+c.ai)<=n*c.he:=by
     have a1:(n-c.ai)*(c.he+c.ai)=n*c.he+(n*c.ai-c.ai*(c.he+c.ai)):=by
       rw [Int.sub_mul,Int.mul_add];omega
     have a2:n*c.ai<=(c.he+c.ai)*c.ai:=Int.mul_le_mul_of_nonneg_right h4 h2;have a3:(c.he+c.ai)*c.ai=c.ai*(c.he+c.ai):=Int.mul_comm _ _;omega
   have:=(Int.le_ediv_iff_mul_le hp).2 e4;omega
theorem Sg (cs:List Cel) (i:Nat) (c:Cel) (n:Int) (hc:cs[i]?= some c) (hb:(0<=c.he/\c.he<=10000000)/\0<=c.ai/\c.ai<=10000000) (hn:1<=n/\n<=c.he+c.ai):Cm prog 144 [.lp 1 (i*7),vi n] (lk [(1,AH AP cs)]) [1] (.ret (vsp (BQ c n) (n-BQ c n))) (lk [(1,AH AP (cs.set i (I0 c n)))]):=by
 have q1:=hb.1;have q2:=hb.2;have hbd:=KE q1.1 q2.1 (by omega:0<=n) hn.2;have hz:¬ c.he+c.ai=0:=by omega
 have m1:0<=n*c.he:=Int.mul_nonneg (by omega) (by omega);have m2:n*c.he<=20000000*10000000:=Int.mul_le_mul (by omega) (by omega) (by omega) (by omega);have hd:(n*c.he).tdiv (c.he+c.ai)=BQ c n:=Int.tdiv_eq_ediv_of_nonneg m1;have w1:IntKind.wrap .i64 (c.he+c.ai)=c.he+c.ai:=AD (by omega) (by omega);have w2:IntKind.wrap .i64 (n*c.he)=n*c.he:=AD (by omega) (by omega);have w3:IntKind.wrap .i64 (BQ c n)=BQ c n:=AD (by omega) (by omega);have w4:IntKind.wrap .i64 (c.he-BQ c n)=c.he-BQ c n:=AD (by omega) (by omega);have w5:IntKind.wrap .i64 (n-BQ c n)=n-BQ c n:=AD (by omega) (by omega);have w6:IntKind.wrap .i64 (c.ai-(n-BQ c n))=c.ai-(n-BQ c n):=AD (by omega) (by omega);have g:c.he+c.ai>=n:=by omega
 have c3:=BP 6;have hil:=(List.getElem?_eq_some_iff.1 hc).1
 let c1:Cel:={c with he:=c.he-BQ c n}
 have hc1:(cs.set i c1)[i]?= some c1:=by simp [hil]
 have s0:i*7+1+1<=cs.length*7/\i*7+2+1<=cs.length*7:=by omega
 have hsl:=Aw Nr cs;have hsl1:=Aw Nr (cs.set i c1);have r1:(AH AP cs)[i*7+1]?= some (vi c.he):=Jg Nr hc rfl;have r2:(AH AP cs)[i*7+2]?= some (vi c.ai):=Jg Nr hc rfl;have t1:List.take 1 (List.drop (i*7+1) (AH AP cs))=[vi c.he]:=Bg Nr (j:=1) (k:=1) hc (by omega);have t2:List.take 1 (List.drop (i*7+2) (AH AP cs))=[vi c.ai]:=Bg Nr (j:=2) (k:=1) hc (by omega);have e1:AA (AH AP cs) (i*7+1) [vi (c.he-BQ c n)]=AH AP (cs.set i c1):=Cq Nr (vs:=[di (c.he-BQ c n)]) hc (by simp) rfl;have t3:List.take 1 (List.drop (i*7+2) (AH AP (cs.set i c1)))=[vi c.ai]:=Bg Nr (x:=c1) (j:=2) (k:=1) hc1 (by omega)
 have e2:AA (AH AP (cs.set i c1)) (i*7+2) [vi (c.ai-(n-BQ c n))]=AH AP (cs.set i (I0 c n)):=by
   have:=Cq Nr (y:=I0 c n) (j:=2) (vs:=[di (c.ai-(n-BQ c n))]) hc1 (by simp) rfl;rw [List.set_set] at this;exact this
 refine CM 2 func144 ASg fun E hs hE=>?_
 simp [p144,inC,Nat.testBit,t1,t2,s0,hsl,w1,g];refine CLa c3 ?_;simp [inC,Nat.testBit,t1,t2,t3,e1,e2,s0,hsl,hsl1,w1,w2,w3,w4,w5,w6,hd,hz];refine AB.by (lk [(1,1)]) ?_;simp [results144,AA,Hp.app]
theorem dH (cs:List Cel) (i:Nat) (c:Cel) (n:Int) (hc:cs[i]?= some c) (hb:(0<=c.he/\c.he<=10000000)/\0<=c.ai/\c.ai<=10000000) (hn:c.he+c.ai<n):Cm prog 144 [.lp 1 (i*7),vi n] (lk [(1,AH AP cs)]) [1] (.pan (Fm 6)) (lk [(1,AH AP cs)]):=by
 have q1:=hb.1;have q2:=hb.2;have w1:IntKind.wrap .i64 (c.he+c.ai)=c.he+c.ai:=AD (by omega) (by omega);have g:¬ c.he+c.ai>=n:=by omega
 have g2:¬ n<=c.he+c.ai:=by omega
 have c3:=Xt 6;have hil:=(List.getElem?_eq_some_iff.1 hc).1;have s0:i*7+1+1<=cs.length*7/\i*7+2+1<=cs.length*7:=by omega
 have hsl:=Aw Nr cs;have t1:List.take 1 (List.drop (i*7+1) (AH AP cs))=[vi c.he]:=Bg Nr (j:=1) (k:=1) hc (by omega);have t2:List.take 1 (List.drop (i*7+2) (AH AP cs))=[vi c.ai]:=Bg Nr (j:=2) (k:=1) hc (by omega);refine CM 2 func144 ASg fun E hs hE=>?_
 simp [p144,inC,Nat.testBit,t1,t2,s0,hsl,w1,g2];refine CRs c3 (by simp) ?_;refine ⟨lk [(1,1)],?_,?_,?_,?_⟩<;>simp
abbrev gd (x:Int):Prop:=0<=x/\x<=1000000000000
theorem BG {cs:List Cel} (h:cs≠[]):AH AP cs≠[]:=fun e=>by
 have:=congrArg List.length e;rw [Aw Nr] at this;cases cs with
 | nil=>exact h rfl
 | cons a r=>simp at this
theorem BB {l:List Cel} {p:Nat->Prop}:(∀ c,c∈AH AP l->AC p B9 c)=True:=eq_true (Ou fun x y hy=>by
 simp only [List.mem_cons,List.not_mem_nil,or_false] at hy;rcases hy with rfl | rfl | rfl | rfl | rfl | rfl | rfl<;>exact ⟨_,rfl⟩)
theorem aV (p:Plt) (cs:List Cel) (a:Act) (c:Cel) (hl:cs.length<=1000000) (hin:inA cs.length a=true) (hc:cs[a.c.toNat]?= some c) (hb:B5 c) (hn:a.n<=c.he+c.ai) (hv:gd p.vh) (hw:gd p.va):
   Cm prog 107 [.lp 0 0,BZ a] (lk [(0,plB p (.ls 1 0 cs.length 7)),(1,AH AP cs)]) [0,1] (.ret (.tup [])) (lk [(0,plB {p with vh:=p.vh+BQ c a.n,va:=p.va+(a.n-BQ c a.n)} (.ls 1 0 cs.length 7)),(1,AH AP (cs.set a.c.toNat (I0 c a.n)))]):=by
 have h1:=EQ.1 hin;have q1:=hb.he;have q2:=hb.ai;have hbd:=KE q1.1 q2.1 (by omega:0<=a.n) hn;have d1:=Iz p cs a hl hin;have d2:=Sg cs a.c.toNat c a.n hc ⟨hb.he,hb.ai⟩ ⟨h1.2.1,hn⟩;have d3:=AQY p.vh p.va (BQ c a.n) (a.n-BQ c a.n) ⟨by omega,by omega,by omega,by omega⟩;have hne:cs≠[]:=fun e=>by rw [e] at hc;simp at hc
 have n1:=BG hne;refine CM 2 func107 AP9 fun E hs hE=>?_
 simp [p107];refine AL [(11,1)] (by kernel_rfl) ?_;simp [inC,Nat.testBit];refine CDs d1 (by simp [wrL,inC,Nat.testBit,n1,BB]) ?_;simp [inC,Nat.testBit];refine CDs d2 (by simp [wrL,inC,Nat.testBit,n1,BB]) ?_;simp;refine CLa d3 ?_;simp [AA];refine AB.by (lk [(0,0),(1,1)]) ?_;simp [results107]
theorem Vw (p:Plt) (cs:List Cel) (a:Act) (hl:cs.length<=1000000) (hne:cs≠[]) (hin:inA cs.length a=false):Cm prog 107 [.lp 0 0,BZ a] (lk [(0,plB p (.ls 1 0 cs.length 7)),(1,AH AP cs)]) [] (.pan (Fm 2)) (lk []):=by
 have d1:=UB p cs a hl hin;have n1:=BG hne;refine CM 2 func107 AP9 fun E hs hE=>?_
 simp [p107];refine AL [(11,1)] (by kernel_rfl) ?_;simp [inC,Nat.testBit];refine CDs d1 (by simp [inC,Nat.testBit,n1,BB]) ?_;simp;intro st;refine ⟨fun _=>none,?_,?_,?_,?_⟩<;>simp
theorem Vx (p:Plt) (cs:List Cel) (a:Act) (c:Cel) (hl:cs.length<=1000000) (hin:inA cs.length a=true) (hc:cs[a.c.toNat]?= some c) (hb:B5 c) (hn:c.he+c.ai<a.n):Cm prog 107 [.lp 0 0,BZ a] (lk [(0,plB p (.ls 1 0 cs.length 7)),(1,AH AP cs)]) [] (.pan (Fm 6)) (lk []):=by
 have d1:=Iz p cs a hl hin;have d2:=dH cs a.c.toNat c a.n hc ⟨hb.he,hb.ai⟩ hn;have hne:cs≠[]:=fun e=>by rw [e] at hc;simp at hc
 have n1:=BG hne;refine CM 2 func107 AP9 fun E hs hE=>?_
 simp [p107];refine AL [(11,1)] (by kernel_rfl) ?_;simp [inC,Nat.testBit];refine CDs d1 (by simp [wrL,inC,Nat.testBit,n1,BB]) ?_;simp [inC,Nat.testBit];refine CDs d2 (by simp [inC,Nat.testBit,n1,BB]) ?_;simp;intro st;refine ⟨fun _=>none,?_,?_,?_,?_⟩<;>simp
theorem lf (a b p q:V):AA [a,b] 0 [p,q]=[p,q]:=rfl
def inT (n:Nat) (a:Act):Bool:=rgB 0 ((n:Int)-1) [a.t]&&!decide (a.t=a.c)
def gg (c:Cel) (h i:Int):Cel:={c with he:=c.he+h,ai:=c.ai+i}
theorem gi (p:Plt) (cs:List Cel) (a:Act) (c e:Cel) (hl:cs.length<=1000000) (hin:inA cs.length a=true) (hto:inT cs.length a=true) (hc:cs[a.c.toNat]?= some c) (he:cs[a.t.toNat]?= some e) (hb:B5 c) (hbe:B5 e) (hn:a.n<=c.he+c.ai):
   Cm prog 108 [.lp 0 0,BZ a] (lk [(0,plB p (.ls 1 0 cs.length 7)),(1,AH AP cs)]) [0,1] (.ret (.tup [])) (lk [(0,plB p (.ls 1 0 cs.length 7)),(1,AH AP ((cs.set a.c.toNat (I0 c a.n)).set a.t.toNat (gg e (BQ c a.n) (a.n-BQ c a.n))))]):=by
 have h1:=EQ.1 hin;have q1:=hb.he;have q2:=hb.ai;have q3:=hbe.he;have q4:=hbe.ai;have hbd:=KE q1.1 q2.1 (by omega:0<=a.n) hn;have d1:=Iz p cs a hl hin;have d2:=ALU 0 ((cs.length:Int)-1) [a.t] (by simp);have d3:=BP 2;have d4:=Sg cs a.c.toNat c a.n hc ⟨hb.he,hb.ai⟩ ⟨h1.2.1,hn⟩;unfold inT at hto;simp only [Bool.and_eq_true,Bool.not_eq_true',decide_eq_false_iff_not] at hto;rw [hto.1] at d2;have hT:0<=a.t/\a.t<cs.length:=by have:=hto.1;unfold rgB at this;simp at this;omega
 have hne:cs≠[]:=fun e=>by rw [e] at hc;simp at hc
 have n1:=BG hne;have w:IntKind.wrap .i64 ((cs.length:Int)-1)=(cs.length:Int)-1:=AD (by omega) (by omega);have hij:a.c.toNat≠a.t.toNat:=fun e=>hto.2 (by omega)
 obtain ⟨j,hj⟩:∃ j:Nat,a.t=j:=⟨a.t.toNat,by omega⟩
 have hjt:a.t.toNat=j:=by omega
 rw [hjt] at he hij ⊢;have hT2:(j:Int)<cs.length:=by omega
 have hjl:j<cs.length:=by omega
 have hil:=(List.getElem?_eq_some_iff.1 hc).1;obtain ⟨L,hL⟩:∃ L,cs.set a.c.toNat (I0 c a.n)=L:=⟨_,rfl⟩
 have hLl:L.length=cs.length:=by rw [<-hL];simp
 have heL:L[j]?= some e:=by rw [<-hL,List.getElem?_set_ne hij];exact he
 rw [hL] at d4 ⊢;obtain ⟨h,hh⟩:∃ h,BQ c a.n=h:=⟨_,rfl⟩
 rw [hh] at d4 hbd ⊢
 let e1:Cel:={e with he:=e.he+h}
 have he1:(L.set j e1)[j]?= some e1:=by simp [hLl,hjl]
 have hsl:=Aw Nr L;have hsl1:=Aw Nr (L.set j e1);have s0:j*7+1+1<=cs.length*7/\j*7+2+1<=cs.length*7:=by omega
 have t1:List.take 1 (List.drop (j*7+1) (AH AP L))=[vi e.he]:=Bg Nr (x:=e) (j:=1) (k:=1) heL (by omega);have t2:List.take 1 (List.drop (j*7+2) (AH AP (L.set j e1)))=[vi e.ai]:=Bg Nr (x:=e1) (j:=2) (k:=1) he1 (by omega);have x1:AA (AH AP L) (j*7+1) [vi (e.he+h)]=AH AP (L.set j e1):=Cq Nr (vs:=[di (e.he+h)]) heL (by simp) rfl
 have x2:AA (AH AP (L.set j e1)) (j*7+2) [vi (e.ai+(a.n-h))]=AH AP (L.set j (gg e h (a.n-h))):=by
   have:=Cq Nr (y:=gg e h (a.n-h)) (j:=2) (vs:=[di (e.ai+(a.n-h))]) he1 (by simp) rfl;rw [List.set_set] at this;exact this
 have w5:IntKind.wrap .i64 (e.he+h)=e.he+h:=AD (by omega) (by omega);have w6:IntKind.wrap .i64 (e.ai+(a.n-h))=e.ai+(a.n-h):=AD (by omega) (by omega);have hne2:¬ (j:Int)=a.c:=by rw [<-hj];exact hto.2
 rw [hj] at d2;refine CM 2 func108 AOf fun E hs hE=>?_
 simp [p108];refine CRs d1 (by simp [n1,BB]) ?_;simp [AA,AM,inC,Nat.testBit,hj,w];refine CLb (d2) (by simp [AG,inC,Nat.testBit]) ?_;simp [inC,Nat.testBit,hne2];refine CLa d3 ?_;simp;refine AL [(3,1),(13,37748738)] (by kernel_rfl) ?_;simp [inC,Nat.testBit];refine CDs d4 (by simp [wrL,inC,Nat.testBit,n1,BB]) ?_;simp [inC,Nat.testBit,hT2,hjl,hLl,hsl,hsl1,s0,t1,t2,x1,x2,w5,w6,lf];refine AB.by (lk [(0,0),(1,1)]) ?_;simp [results108]
theorem an (p:Plt) (cs:List Cel) (a:Act) (hl:cs.length<=1000000) (hne:cs≠[]) (hin:inA cs.length a=false):Cm prog 108 [.lp 0 0,BZ a] (lk [(0,plB p (.ls 1 0 cs.length 7)),(1,AH AP cs)]) [] (.pan (Fm 2)) (lk []):=by
 have d1:=UB p cs a hl hin;have n1:=BG hne;refine CM 2 func108 AOf fun E hs hE=>?_
 simp [p108];refine CRs d1 (by simp [n1,BB]) ?_;refine ⟨fun _=>none,?_,?_,?_,?_⟩<;>simp
theorem ap (p:Plt) (cs:List Cel) (a:Act) (hl:cs.length<=1000000) (hin:inA cs.length a=true) (hto:inT cs.length a=false):Cm prog 108 [.lp 0 0,BZ a] (lk [(0,plB p (.ls 1 0 cs.length 7)),(1,AH AP cs)]) [] (.pan (Fm 2)) (lk []):=by
 have h1:=EQ.1 hin;have d1:=Iz p cs a hl hin;have d2:=ALU 0 ((cs.length:Int)-1) [a.t] (by simp);have d3:=Xt 2;have hne:cs≠[]:=fun e=>by rw [e] at h1;simp at h1;omega
 have n1:=BG hne;have w:IntKind.wrap .i64 ((cs.length:Int)-1)=(cs.length:Int)-1:=AD (by omega) (by omega);unfold inT at hto;cases hr:rgB 0 ((cs.length:Int)-1) [a.t]
 . rw [hr] at d2
   refine CM 2 func108 AOf fun E hs hE=>?_
   simp [p108];refine CRs d1 (by simp [n1,BB]) ?_;simp [AA,AM,inC,Nat.testBit,w];refine CLb (d2) (by simp [AG,inC,Nat.testBit]) ?_;simp;refine CRs d3 (by simp) ?_;refine ⟨fun _=>none,?_,?_,?_,?_⟩<;>simp
 . rw [hr] at d2 hto
   have e:a.t=a.c:=by simpa using hto
   refine CM 2 func108 AOf fun E hs hE=>?_
   simp [p108];refine CRs d1 (by simp [n1,BB]) ?_;simp [AA,AM,inC,Nat.testBit,w];refine CLb (d2) (by simp [AG,inC,Nat.testBit]) ?_;simp [inC,Nat.testBit,e];refine CRs d3 (by simp) ?_;refine ⟨fun _=>none,?_,?_,?_,?_⟩<;>simp
theorem aq (p:Plt) (cs:List Cel) (a:Act) (c:Cel) (hl:cs.length<=1000000) (hin:inA cs.length a=true) (hto:inT cs.length a=true) (hc:cs[a.c.toNat]?= some c) (hb:B5 c) (hn:c.he+c.ai<a.n):Cm prog 108 [.lp 0 0,BZ a] (lk [(0,plB p (.ls 1 0 cs.length 7)),(1,AH AP cs)]) [] (.pan (Fm 6)) (lk []):=by
 have h1:=EQ.1 hin;have d1:=Iz p cs a hl hin;have d2:=ALU 0 ((cs.length:Int)-1) [a.t] (by simp);have d3:=BP 2;have d4:=dH cs a.c.toNat c a.n hc ⟨hb.he,hb.ai⟩ hn;unfold inT at hto;simp only [Bool.and_eq_true,Bool.not_eq_true',decide_eq_false_iff_not] at hto;rw [hto.1] at d2;have hT:0<=a.t/\a.t<cs.length:=by have:=hto.1;unfold rgB at this;simp at this;omega
 have hne:cs≠[]:=fun e=>by rw [e] at hc;simp at hc
 have n1:=BG hne;have w:IntKind.wrap .i64 ((cs.length:Int)-1)=(cs.length:Int)-1:=AD (by omega) (by omega);obtain ⟨j,hj⟩:∃ j:Nat,a.t=j:=⟨a.t.toNat,by omega⟩
 have hT2:(j:Int)<cs.length:=by omega
 have hjl:j<cs.length:=by omega
 have hne2:¬ (j:Int)=a.c:=by rw [<-hj];exact hto.2
 rw [hj] at d2;refine CM 2 func108 AOf fun E hs hE=>?_
 simp [p108];refine CRs d1 (by simp [n1,BB]) ?_;simp [AA,AM,inC,Nat.testBit,hj,w];refine CLb (d2) (by simp [AG,inC,Nat.testBit]) ?_;simp [inC,Nat.testBit,hne2];refine CLa d3 ?_;simp;refine AL [(3,1),(13,37748738)] (by kernel_rfl) ?_;simp [inC,Nat.testBit];refine CDs d4 (by simp [inC,Nat.testBit,n1,BB]) ?_;simp [hjl];intro st;refine ⟨fun _=>none,?_,?_,?_,?_⟩<;>simp
theorem gj (p:Plt) (a:Act):Cm prog 107 [.lp 0 0,BZ a] (lk [(0,plB p (.ls 1 0 0 7))]) [] (.pan (Fm 2)) (lk []):=by
 have d1:=dG p a;refine CM 2 func107 AP9 fun E hs hE=>?_
 simp [p107];refine AL [] (by kernel_rfl) ?_;simp [inC,Nat.testBit];refine CDs d1 (by simp [inC,Nat.testBit]) ?_;simp;intro st;refine ⟨fun _=>none,?_,?_,?_,?_⟩<;>simp
theorem ABp (p:Plt) (a:Act):Cm prog 108 [.lp 0 0,BZ a] (lk [(0,plB p (.ls 1 0 0 7))]) [] (.pan (Fm 2)) (lk []):=by
 have d1:=dG p a;refine CM 2 func108 AOf fun E hs hE=>?_
 simp [p108];refine CRs d1 (by simp) ?_;refine ⟨fun _=>none,?_,?_,?_,?_⟩<;>simp
def tkS (c:Cel):Int:=c.ow+(c.he+c.ai)*c.lk
def tkN (c:Cel):Int:=tkS c/1000000
def tkC (c:Cel):Cel:={I0 c (tkN c) with ow:=tkS c%1000000}
def tkL (cs:List Cel) (i:Nat):List Cel:=(cs.take i).map tkC++cs.drop i
def tkH (cs:List Cel) (i:Nat):Int:=((cs.take i).map fun c=>BQ c (tkN c)).sum
def tkA (cs:List Cel) (i:Nat):Int:=((cs.take i).map fun c=>tkN c-BQ c (tkN c)).sum
theorem AF9 (cs:List Cel):tkL cs 0=cs:=by simp [tkL]
theorem iO (cs:List Cel):tkL cs cs.length=cs.map tkC:=by simp [tkL]
theorem iP (cs:List Cel) (i:Nat):(tkL cs i).length=cs.length:=by simp [tkL];omega
theorem mQ {cs:List Cel} {i:Nat} {c:Cel} (h:cs[i]?= some c):(tkL cs i)[i]?= some c:=by
 have hi:=(List.getElem?_eq_some_iff.1 h).1;unfold tkL;rw [List.getElem?_append_right (by simp;omega)];simp [Nat.min_eq_left (Nat.le_of_lt hi),h]
theorem cX {cs:List Cel} {i:Nat} {c:Cel} (h:cs[i]?= some c):tkL cs (i+1)=(tkL cs i).set i (tkC c):=by
 have hi:=(List.getElem?_eq_some_iff.1 h).1;have hc:cs[i]=c:=(List.getElem?_eq_some_iff.1 h).2;unfold tkL;rw [List.take_add_one,h,List.set_append_right _ _ (by simp;omega)];simp [Nat.min_eq_left (Nat.le_of_lt hi)];rw [List.drop_eq_getElem_cons hi];rfl
theorem Pz {cs:List Cel} {i:Nat} {c:Cel} (h:cs[i]?= some c):tkH cs (i+1)=tkH cs i+BQ c (tkN c):=by
 unfold tkH;rw [List.take_add_one,h];simp
theorem P2 {cs:List Cel} {i:Nat} {c:Cel} (h:cs[i]?= some c):tkA cs (i+1)=tkA cs i+(tkN c-BQ c (tkN c)):=by
 unfold tkA;rw [List.take_add_one,h];simp
theorem cY {c:Cel} (hb:B5 c):(0<=(c.he+c.ai)*c.lk/\(c.he+c.ai)*c.lk<=2000000000000)/\(0<=tkS c/\tkS c<=2000001000000)/\0<=tkN c/\tkN c<=c.he+c.ai:=by
 have q1:=hb.he;have q2:=hb.ai;have q3:=hb.lk;have q4:=hb.ow;have m1:0<=(c.he+c.ai)*c.lk:=Int.mul_nonneg (by omega) (by omega);have m2:(c.he+c.ai)*c.lk<=(c.he+c.ai)*100000:=Int.mul_le_mul_of_nonneg_left (by omega) (by omega);unfold tkN tkS;omega
theorem SY {c:Cel} (hb:B5 c):(0<=BQ c (tkN c)/\BQ c (tkN c)<=c.he)/\BQ c (tkN c)<=tkN c/\tkN c-BQ c (tkN c)<=c.ai:=by
 have h:=cY hb;have:=KE hb.he.1 hb.ai.1 h.2.2.1 h.2.2.2;omega
theorem SZ:∀ {cs:List Cel},(∀ c∈cs,B5 c)->∀ i:Nat,i<=cs.length->(0<=tkH cs i/\tkH cs i<=i*10000000)/\0<=tkA cs i/\tkA cs i<=i*10000000
 | cs,h,0,_=>by simp [tkH,tkA]
 | cs,h,i+1,hi=>by
   obtain ⟨c,hc⟩:∃ c,cs[i]?= some c:=⟨_,List.getElem?_eq_getElem (by omega)⟩
   have hb:=h c (List.mem_of_getElem? hc);have ih:=SZ h i (by omega);have:=SY hb;have q1:=hb.he;have q2:=hb.ai;rw [Pz hc,P2 hc];omega
def tkP (p:Plt) (cs:List Cel) (i:Nat):Plt:={p with lh:=p.lh+tkH cs i,la:=p.la+tkA cs i}
theorem iQ (p:Plt) (cs:List Cel) (a:Act) (hl:cs.length<=12) (hne:cs≠[]) (ha:a.n=1) (hb:∀ c∈cs,B5 c) (hv:gd p.lh) (hw:gd p.la):
   Cm prog 111 [.lp 0 0,BZ a] (lk [(0,plB p (.ls 1 0 cs.length 7)),(1,AH AP cs)]) [0,1] (.ret (.tup [])) (lk [(0,plB (tkP p cs cs.length) (.ls 1 0 cs.length 7)),(1,AH AP (cs.map tkC))]):=by
 have d1:=ALU 1 1000 [1] (by simp);have d2:=BP 2;rw [show rgB 1 1000 [1]=true from by decide] at d1;have n1:=BG hne;have z1:IntKind.wrap .i64 1=1:=by decide
 refine CM 2 func111 ASc fun E hs hE=>?_
 simp [p111,AA,AM,ha]
 repeat ((first | (refine CLt d1 ?_ ?_;focus (simp [AG];done)) | (refine CLt d2 ?_ ?_;focus (simp;done)));simp)
 refine Al (α:=Nat) (fun k=>⟨AO [(0, .lp 0 0),(13,vi 1),(14,vi k)],lk [(0,plB (tkP p cs (if k=0 then 0 else cs.length)) (.ls 1 0 cs.length 7)),(1,AH AP (tkL cs (if k=0 then 0 else cs.length)))],2⟩) (fun k=>k<=1) (fun k=>1-k) 0 ?_ ?_ ?_
 . omega
 . simp only [if_true,AF9]
   refine AI.mkM hs (lk [(0,0),(1,1)]) _ _ _ ?_ ?_ ?_ ?_ ?_ ?_<;>simp [tkP,tkH,tkA]
 . intro k hk
   match k,hk with
   | 1,_=>
     simp [AMY,iO];refine AB.by (lk [(0,0),(1,1)]) ?_;simp [results111]
   | n+2,h=>omega
   | 0,_=>
     simp [AMY];refine Al (α:=Nat) (fun i=>⟨AO [(0, .lp 0 0),(13,vi 1),(14,vi 0),(21,vi cs.length),(22,vi i)],lk [(0,plB (tkP p cs i) (.ls 1 0 cs.length 7)),(1,AH AP (tkL cs i))],2⟩) (fun i=>i<=cs.length) (fun i=>cs.length-i) 0 ?_ ?_ ?_
     . omega
     . exact WKM hs (lk [(0,0),(1,1)])
     . intro i hi
       by_cases h:i<cs.length
       . obtain ⟨c,hc⟩:=gE h
         have hcb:=hb c (List.mem_of_getElem? hc);have hI:(i:Int)<cs.length:=by omega
         have hz:=@wz i (by omega);have b1:=cY hcb;have b2:=SY hcb;have b3:=SZ hb i hi;have q1:=hcb.he;have q2:=hcb.ai;have q3:=hcb.lk;have q4:=hcb.ow;have hLc:=mQ hc;have hLn:=cX hc;have hLl:=iP cs i;have hHn:=Pz hc;have hAn:=P2 hc
         generalize tkL cs i=L at*
         have w1:IntKind.wrap .i64 (c.he+c.ai)=c.he+c.ai:=AD (by omega) (by omega);have w2:IntKind.wrap .i64 ((c.he+c.ai)*c.lk)=(c.he+c.ai)*c.lk:=AD (by omega) (by omega);have w3:IntKind.wrap .i64 (c.ow+(c.he+c.ai)*c.lk)=tkS c:=AD (by unfold tkS at b1;omega) (by unfold tkS at b1;omega);have hd:(tkS c).tdiv 1000000=tkN c:=Int.tdiv_eq_ediv_of_nonneg (by omega);have w4:IntKind.wrap .i64 (tkN c)=tkN c:=AD (by omega) (by omega)
         let c1:Cel:={c with ow:=tkS c}
         have hc1:(L.set i c1)[i]?= some c1:=by simp [hLl,h]
         have hsl:=Aw Nr L;have hsl1:=Aw Nr (L.set i c1);have s0:(i*7+1+1<=cs.length*7/\i*7+2+1<=cs.length*7)/\i*7+5+1<=cs.length*7/\i*7+6+1<=cs.length*7:=by omega
         have t1:List.take 1 (List.drop (i*7+1) (AH AP L))=[vi c.he]:=Bg Nr (x:=c) (j:=1) (k:=1) hLc (by omega);have t2:List.take 1 (List.drop (i*7+2) (AH AP L))=[vi c.ai]:=Bg Nr (x:=c) (j:=2) (k:=1) hLc (by omega);have t5:List.take 1 (List.drop (i*7+5) (AH AP L))=[vi c.lk]:=Bg Nr (x:=c) (j:=5) (k:=1) hLc (by omega);have t6:List.take 1 (List.drop (i*7+6) (AH AP L))=[vi c.ow]:=Bg Nr (x:=c) (j:=6) (k:=1) hLc (by omega);have x1:AA (AH AP L) (i*7+6) [vi (tkS c)]=AH AP (L.set i c1):=Cq Nr (vs:=[di (tkS c)]) hLc (by simp) rfl;have t7:List.take 1 (List.drop (i*7+6) (AH AP (L.set i c1)))=[vi (tkS c)]:=Bg Nr (x:=c1) (j:=6) (k:=1) hc1 (by omega);simp [AMw,hI,inC,Nat.testBit,hLl,hsl,hsl1,s0,t1,t2,t5,t6,t7,x1,w1,w2,w3,w4,hd];by_cases hp:0<tkN c
         . have d3:=Sg (L.set i c1) i c1 (tkN c) hc1 ⟨hcb.he,hcb.ai⟩ ⟨by omega,b1.2.2.2⟩
           have d4:=AQY (p.lh+tkH cs i) (p.la+tkA cs i) (BQ c (tkN c)) (tkN c-BQ c (tkN c)) ⟨by omega,by omega,by omega,by omega⟩;rw [List.set_set] at d3;obtain ⟨L2,hL2⟩:∃ L2,L.set i (I0 c1 (tkN c))=L2:=⟨_,rfl⟩
           rw [hL2,show BQ c1 (tkN c)=BQ c (tkN c) from rfl] at d3;have hL2l:L2.length=cs.length:=by rw [<-hL2];simp [hLl]
           have hL2c:L2[i]?= some (I0 c1 (tkN c)):=by rw [<-hL2];simp [hLl,h]
           have hsl2:=Aw Nr L2;have t8:List.take 1 (List.drop (i*7+6) (AH AP L2))=[vi (tkS c)]:=Bg Nr (x:=I0 c1 (tkN c)) (j:=6) (k:=1) hL2c (by omega)
           have x2:AA (AH AP L2) (i*7+6) [vi (tkS c%1000000)]=AH AP (L.set i (tkC c)):=by
             have:=Cq Nr (y:=tkC c) (j:=6) (vs:=[di (tkS c%1000000)]) hL2c (by simp) rfl;rw [<-hL2,List.set_set,hL2] at this;exact this
           have hm:(tkS c).tmod 1000000=tkS c%1000000:=Int.tmod_eq_emod_of_nonneg (by omega);have w5:IntKind.wrap .i64 (tkS c%1000000)=tkS c%1000000:=AD (by omega) (by omega);have n2:AH AP (L.set i c1)≠[]:=BG (fun e=>by have:=congrArg List.length e;rw [List.length_set,hLl,List.length_nil] at this;omega);simp [hp];refine AL [(8,1)] (by kernel_rfl) ?_;simp [inC,Nat.testBit,tkP];refine CDs d3 (by simp [wrL,inC,Nat.testBit,n2,BB]) ?_;simp;refine CLa d4 ?_;simp [hL2l,hsl2,s0,t8,x2,hm,hz];refine ⟨i+1,by omega,by omega,?_⟩;rw [hLn,hHn,hAn];refine AI.mkM hs (lk [(0,0),(1,1)]) _ _ _ ?_ ?_ ?_ ?_ ?_ ?_<;>simp [AA,Int.add_assoc]
         . have hN:tkN c=0:=by omega
           have hS:tkS c%1000000=tkS c:=by unfold tkN at hN;omega
           have hO:BQ c 0=0:=by unfold BQ;simp
           have e:tkC c=c1:=by
             unfold tkC I0;rw [hN,hS,hO];simp [c1]
           simp [hp,hz,tkP];refine ⟨i+1,by omega,by omega,?_⟩;rw [hLn,hHn,hAn,e,hN,hO];exact WKM hs (lk [(0,0),(1,1)])
       . have ei:i=cs.length:=by omega
         have hI:¬ (i:Int)<cs.length:=by omega
         subst ei;simp [AMw,z1];refine ⟨1,by omega,by omega,?_⟩;exact WKM hs (lk [(0,0),(1,1)])
theorem Ce (l:List Cel) (hl:l.length<=1000000):Ct prog 55 [.d (AX l)] (.ls 0 0 l.length 7) [(0,AH AP l)]:=by
 cases l with
 | nil=>
   refine CB func55 c55 fun E hE=>?_
   simp [p55];refine ⟨?_,?_⟩
   . apply RZ
     simp [results55,AH]
   . simp [AM,Am,Hp.app]
     refine AB.by (lk [(0,5242880)]) ?_;simp [results55,AH]
 | cons a r=>
   refine CB func55 c55 fun E hE=>?_
   have hmx:(r.length+1)*56<=140737488355328/\r.length+1<=9223372036854775807:=by simp at hl;omega
   have e:AX (a::r)= .sl 7 (AP a::r.map AP):=rfl;have ef:(r.map (List.map V.d ∘ AP)).flatten=AH AP r:=by simp [AH,List.map_flatten]
   have hcl:(∀ x∈AH AP r,x.isCell=true)=True:=eq_true BU;simp [p55,e,ef,hcl,AM,hmx];refine AB.by (lk [(0,5242880)]) ?_;simp [results55,CQ,hcl]
end Go.Proofs.Tryz
namespace Go.Psl
noncomputable def Y3:Option Code->Code | some (.seq _ r)=>r | _=> .skip
noncomputable def pE:Option Code->Nat | some (.seq (.region i _ _) _)=>i | _=>0
noncomputable def ij (k:Nat):Option Code->Oper | some (.seq (.region _ o _) _)=>(o[k]?).getD ⟨none, .move (.tmp 0),0, "",#[],none⟩ | _=>⟨none, .move (.tmp 0),0, "",#[],none⟩
theorem VW {P:Program} {Γ:Tys} {eqs:Eqs} {ws:List (Nat × Nat)} {cl:List Nat} {n0 k b:Nat} {Z:V->Prop} {K:(Nat->V)->Hp->Nat->Prop} {r:List PO} {f:Nat->V} {H:Hp} {dst:Option Nat} {s t:TypeId} {x:Operand}:dd P Γ eqs ws cl n0 Z K k b (⟨dst, .typeAssert x s t false,none⟩::r) f H=goD ws k dst b (dd P Γ eqs ws cl n0 Z K (k+1) (b+1048576) r) f H (Wf Γ t (evF f x)):=CE rfl
end Go.Psl
namespace Go.Proofs.Tryz
open Go.Psl
open Go.Air
noncomputable def AQK:Oper:=(⟨_,by conv=>lhs;reduce⟩:Rd (ij 0 f104.body)).1
noncomputable def AQL:Oper:=(⟨_,by conv=>lhs;reduce⟩:Rd (ij 1 f104.body)).1
noncomputable def p104r:PC:=(⟨_,by conv=>lhs;reduce⟩:Rd (match AK f104.ntmps (Y3 f104.body) with | some p=>p | none=> .skip)).1
theorem ASS:f104.body=some (.seq (.region (pE f104.body) #[AQK,AQL] false) (Y3 f104.body)):=by kernel_rfl
theorem AQM:AK f104.ntmps (Y3 f104.body)=some p104r:=by kernel_rfl
theorem AQN:∀ ρ W,(execOp ρ AQK).run prog W= .ok .recover W:=fun _ _=>by kernel_rfl
theorem AQO:∀ ρ W,(execOp ρ AQL).run prog W= .ok (.value (ρ (.tmp 3))) W:=fun _ _=>by kernel_rfl
theorem IT:CmD prog 104 [.lp 2097152 0, .lp 3145728 0] (lk []) [] none (lk []):=by
 refine CmD.by gok eok mixed 4194304 func104 ASS rfl rfl rfl rfl rfl AQN AQO (by simp [ntmps104]) (by simp [ntmps104]) AQM (by simp [ntmps104]) (by simp) (by simp [NV]) (A7.at (by simp)) (by simp) (by simp [LD]) fun E hs=>?_
 simp [p104r,NV];apply RZ;simp [results104]
abbrev plZ:List V:=[.d (.lit (.slice none 0 0)),vi 0,vi 0,vi 0,vi 0,vi 0,vi 0,vi 0,vi 0,vi 0]
theorem Ds (e:Int):CmD prog 104 [.lp 2097152 0, .lp 3145728 0] (lk [(2097152,plZ),(3145728,[vi 0])]) [2097152,3145728] (some (Fm e)) (lk [(2097152,plZ),(3145728,[vi e])]):=by
 refine CmD.by gok eok mixed 4194304 func104 ASS rfl rfl rfl rfl rfl AQN AQO (by simp [ntmps104]) (by simp [ntmps104]) AQM (by simp [ntmps104]) (by simp) (by simp [NV]) (A7.at (by simp)) (by simp) (by simp [LD]) fun E hs=>?_
 simp [p104r,NV];refine AL [(4,2097152)] (by kernel_rfl) ?_;simp [AA,inC,Nat.testBit,VW];refine AB.by (lk [(2097152,2097152),(3145728,3145728)]) ?_;simp [results104]
end Go.Proofs.Tryz
namespace Go.Psl
variable {P:Program} {Γ:Tys} {E:Ent} {fn:Func} {r:V} {H1:List (Nat × List V)} {pb:PC} {st:St}
theorem Ax:dwQ P Γ E fn r H1 pb .normal st=DW P E fn r H1 pb st:=AF rfl
theorem Iv {g:FuncId} {ids:List (Nat × Nat)}:XG P Γ fn r H1 g ids .ret st=Cn P g ids none (Dc Γ fn [] r H1) st:=AF rfl
theorem D9 {g:FuncId} {ids:List (Nat × Nat)} {D:D}:XG P Γ fn r H1 g ids (.pan (.d D)) st=Cn P g ids (some (.d D)) (Dc Γ fn [] r H1) st:=AF (by simp [XG])
theorem DW.defer2 {eqs:Eqs} (hΓ:GOk P Γ) (hE:EB P eqs) (hm:P.follows .mixedOrders=true) {t:Nat} {g:FuncId} {caps:Array Operand} {cl:Call} {f:Nat->V} {H:Hp} {n:Nat} (n':Nat) (ids:List (Nat × Nat)) (vs:List V) (hcal:cl.callee= .value (.tmp t)) (hcl:cl.args= #[]) (hvs:(ids.map fun p=> .lp p.1 p.2)=vs) (hn:n+2097152=n')
   (hcaps:BX f caps.toList=vs) (hst:∀ i,¬ E.stab i)
   (h:∀ E':Ent,PW P Γ eqs E' pb (XG P Γ fn r H1 g ids) ⟨Am f (some t) (.cl g vs),H,n'⟩):
   DW P E fn r H1 (.seq (.reg [⟨some t, .makeFunc (.func g) #[] caps,none⟩,⟨none, .defer cl,none⟩]) pb) ⟨f,H,n⟩:=by
 subst hn hvs;exact DW.defer hΓ hE hm ids hcal hcl hcaps hst fun E' _ _ _=>h E'
theorem Cn.mk {H:Hp} {b:Nat} {f:Nat->V} {g:FuncId} {ids:List (Nat × Nat)} {m:Option V} {K:St->Prop} (L:List (Nat × List V)) (ks:List Nat) (L1:List (Nat × List V)) (hf:CmD P g (ids.map fun p=> .lp p.1 p.2) (lk L) ks m (lk L1)) (hlive:∀ p∈ids,(H p.1).isSome=true) (hin:Fr H L) (hi:∀ p∈L1,p.1∈ks\/p.1<1048576) (hks:Jq b L L1 ks) (hL:∀ p∈L,p.1<b)
   (hk:K ⟨f,I2 (E0 H L) ks b L1,b⟩):Cn P g ids m K ⟨f,H,b⟩:=by
 have hL':∀ i,InH (lk L) i->i<b:=fun i h=>by
   obtain ⟨x,hx⟩:=Option.isSome_iff_exists.1 h;exact hL _ (B4 hx)
 refine ⟨hlive,_,lk L,ks,lk L1,hf,⟨hin.at,fun i h hn=>NB hi h hn,fun i h=>(hks.at i h).2.2, .inl ?_⟩,?_⟩
 . exact AJ.of_get rfl fun i x y hx hy=>by
     rw [hx] at hy;cases hy;rw [List.getElem?_map] at hx;obtain ⟨p,_,rfl⟩:=Option.map_eq_some_iff.1 hx;exact ⟨rfl,rfl⟩
 . show K ⟨f,BI H b (lk L) ks (lk L1),b⟩
   rw [E1 H ks b L L1 hks hL'];exact hk
end Go.Psl
namespace Go.Proofs.Tryz
open Go.Psl
open Go.Air
def sgD (i:Nat):Nat:=if i=0 then 23068672 else 28311552
theorem Nu:∀ i j,i<2->j<2->sgD i=sgD j->i=j:=by
 intro i j hi hj h;unfold sgD at h;split at h<;>split at h<;>first | omega | exact absurd h (by omega)
theorem Px (ρ:Nat->Nat) (l:List Cel):(AH AP l).map (BJ ρ)=AH AP l:=by
 simp [AH,List.map_flatten,Function.comp_def]
theorem rF {f:FuncId} {p:Plt} {a:Act} {cs:List Cel} {e:Int} (h:Cm prog f [.lp 0 0,BZ a] (lk [(0,plB p (.ls 1 0 cs.length 7)),(1,AH AP cs)]) [] (.pan (Fm e)) (lk [])):Cm prog f [.lp 23068672 0,BZ a] (lk [(23068672,plB p (.ls 28311552 0 cs.length 7)),(28311552,AH AP cs)]) [] (.pan (Fm e)) (lk []):=by
 have:=Cm.rename sgD 2 Nu h (by simp [BW]) (by simp [BW]) (by simp);simpa [Ea,HW,sgD,Px] using this
theorem MZ {f:FuncId} {p q:Plt} {a:Act} {cs ds:List Cel} (h:Cm prog f [.lp 0 0,BZ a] (lk [(0,plB p (.ls 1 0 cs.length 7)),(1,AH AP cs)]) [0,1] (.ret (.tup [])) (lk [(0,plB q (.ls 1 0 cs.length 7)),(1,AH AP ds)])):Cm prog f [.lp 23068672 0,BZ a] (lk [(23068672,plB p (.ls 28311552 0 cs.length 7)),(28311552,AH AP cs)]) [23068672,28311552] (.ret (.tup [])) (lk [(23068672,plB q (.ls 28311552 0 cs.length 7)),(28311552,AH AP ds)]):=by
 have:=Cm.rename sgD 2 Nu h (by simp [BW]) (by simp [BW]) (by simp);simpa [Ea,HW,sgD,Px] using this
theorem Py (p:Plt) (a:Act) (e:Int) (hl:p.cs.length<=1000000) (h:Ar p=true) (hk:a.k=3) (hne:p.cs≠[]) (d0:Cm prog 107 [.lp 0 0,BZ a] (lk [(0,plB p (.ls 1 0 p.cs.length 7)),(1,AH AP p.cs)]) [] (.pan (Fm e)) (lk [])):Ct prog 56 [Cy p (.d (AX p.cs)),BZ a] (.tup [.agg plZ,vi e]) []:=by
 have d5:=rF d0;have n2:=trivial;have d1:=ALn p (by omega);have d2:=ALU 1 7 [3] (by simp);have d3:=BP 2;have d4:=Ce p.cs hl;have n1:=BG hne;have w3:IntKind.wrap .i64 3=3:=by decide
 rw [h] at d1;rw [show rgB 1 7 [3]=true from by decide] at d2;refine Ct.byD gok func56 c56 rfl (by simp [ntmps56]) (by simp) (by simp [LD]) fun E hE hN=>?_
 unfold p56;simp only [];refine DW.seq gok eok mixed ?_;simp [Ax];refine DW.seq gok eok mixed ?_;simp;refine CLa d1 ?_;simp [Ax];refine DW.defer2 gok eok mixed 11534336 [(2097152,0),(3145728,0)] [.lp 2097152 0, .lp 3145728 0] rfl rfl rfl (by simp) (by simp) hE fun E'=>?_
 simp [AA,AM,hk,w3];refine CLb (d2) (by simp [AG]) ?_;simp;refine CLa d3 ?_;simp [AA];refine CLa d4 ?_;simp [AA];refine CRs d5 (by simp [hk]) ?_;simp [D9];refine Cn.mk _ _ _ (Ds e) (by simp) (by simp) (by simp) (by simp) (by simp) ?_;simp;apply RZ;simp [results56]
theorem ABg (p q:Plt) (a:Act) (hl:p.cs.length<=1000000) (h:Ar p=true) (hk:a.k=3) (hne:p.cs≠[]) (hq:q.cs.length=p.cs.length) (ho:Ar q=true) (d0:Cm prog 107 [.lp 0 0,BZ a] (lk [(0,plB p (.ls 1 0 p.cs.length 7)),(1,AH AP p.cs)]) [0,1] (.ret (.tup [])) (lk [(0,plB q (.ls 1 0 p.cs.length 7)),(1,AH AP q.cs)])):Ct prog 56 [Cy p (.d (AX p.cs)),BZ a] (.tup [Cy q (.ls 0 0 p.cs.length 7),vi 0]) [(0,AH AP q.cs)]:=by
 have d5:=MZ d0;have n2:AH AP q.cs≠[]:=BG fun e=>by rw [e] at hq;exact hne (List.eq_nil_of_length_eq_zero hq.symm)
 have d6:=ALn q (by omega);have d7:=BP 9
 have d8:List.take (p.cs.length*7) (AH AP q.cs)=(List.map (List.map V.d ∘ AP) q.cs).flatten:=by
   rw [<-hq,List.take_of_length_le (by rw [Aw Nr];omega)];simp [AH,List.map_flatten]
 rw [ho] at d6;have d1:=ALn p (by omega);have d2:=ALU 1 7 [3] (by simp);have d3:=BP 2;have d4:=Ce p.cs hl;have n1:=BG hne;have w3:IntKind.wrap .i64 3=3:=by decide
 rw [h] at d1;rw [show rgB 1 7 [3]=true from by decide] at d2;refine Ct.byD gok func56 c56 rfl (by simp [ntmps56]) (by simp) (by simp [LD]) fun E hE hN=>?_
 unfold p56;simp only [];refine DW.seq gok eok mixed ?_;simp [Ax];refine DW.seq gok eok mixed ?_;simp;refine CLa d1 ?_;simp [Ax];refine DW.defer2 gok eok mixed 11534336 [(2097152,0),(3145728,0)] [.lp 2097152 0, .lp 3145728 0] rfl rfl rfl (by simp) (by simp) hE fun E'=>?_
 simp [AA,AM,hk,w3];refine CLb (d2) (by simp [AG]) ?_;simp;refine CLa d3 ?_;simp [AA];refine CLa d4 ?_;simp [AA];refine CRs d5 (by simp [n1,hk,BB]) ?_;simp;refine CLb (d6) (by first | (simp;done) | simp [CP,d8,hq]) ?_;simp;refine CLa d7 ?_;simp [AA,Iv];refine Cn.mk _ _ _ IT (by simp) (by simp) (by simp) (by simp) (by simp) ?_;simp;refine AB.by (lk [(0,28311552)]) ?_;simp [results56]
theorem WY (p q:Plt) (a:Act) (hl:p.cs.length<=1000000) (h:Ar p=true) (hk:a.k=3) (hne:p.cs≠[]) (hq:q.cs.length=p.cs.length) (ho:Ar q=false) (d0:Cm prog 107 [.lp 0 0,BZ a] (lk [(0,plB p (.ls 1 0 p.cs.length 7)),(1,AH AP p.cs)]) [0,1] (.ret (.tup [])) (lk [(0,plB q (.ls 1 0 p.cs.length 7)),(1,AH AP q.cs)])):Ct prog 56 [Cy p (.d (AX p.cs)),BZ a] (.tup [.agg plZ,vi 9]) []:=by
 have d5:=MZ d0;have n2:AH AP q.cs≠[]:=BG fun e=>by rw [e] at hq;exact hne (List.eq_nil_of_length_eq_zero hq.symm)
 have d6:=ALn q (by omega);have d7:=Xt 9
 have d8:List.take (p.cs.length*7) (AH AP q.cs)=(List.map (List.map V.d ∘ AP) q.cs).flatten:=by
   rw [<-hq,List.take_of_length_le (by rw [Aw Nr];omega)];simp [AH,List.map_flatten]
 rw [ho] at d6;have d1:=ALn p (by omega);have d2:=ALU 1 7 [3] (by simp);have d3:=BP 2;have d4:=Ce p.cs hl;have n1:=BG hne;have w3:IntKind.wrap .i64 3=3:=by decide
 rw [h] at d1;rw [show rgB 1 7 [3]=true from by decide] at d2;refine Ct.byD gok func56 c56 rfl (by simp [ntmps56]) (by simp) (by simp [LD]) fun E hE hN=>?_
 unfold p56;simp only [];refine DW.seq gok eok mixed ?_;simp [Ax];refine DW.seq gok eok mixed ?_;simp;refine CLa d1 ?_;simp [Ax];refine DW.defer2 gok eok mixed 11534336 [(2097152,0),(3145728,0)] [.lp 2097152 0, .lp 3145728 0] rfl rfl rfl (by simp) (by simp) hE fun E'=>?_
 simp [AA,AM,hk,w3];refine CLb (d2) (by simp [AG]) ?_;simp;refine CLa d3 ?_;simp [AA];refine CLa d4 ?_;simp [AA];refine CRs d5 (by simp [n1,hk,BB]) ?_;simp;refine CLb (d6) (by first | (simp;done) | simp [CP,d8,hq]) ?_;simp;refine CRs d7 (by simp) ?_;simp [D9];refine Cn.mk _ _ _ (Ds 9) (by simp) (by simp) (by simp) (by simp) (by simp) ?_;simp;apply RZ;simp [results56]
theorem LW (p:Plt) (a:Act) (e:Int) (hl:p.cs.length<=1000000) (h:Ar p=true) (hk:a.k=4) (hne:p.cs≠[]) (d0:Cm prog 108 [.lp 0 0,BZ a] (lk [(0,plB p (.ls 1 0 p.cs.length 7)),(1,AH AP p.cs)]) [] (.pan (Fm e)) (lk [])):Ct prog 56 [Cy p (.d (AX p.cs)),BZ a] (.tup [.agg plZ,vi e]) []:=by
 have d5:=rF d0;have n2:=trivial;have d1:=ALn p (by omega);have d2:=ALU 1 7 [4] (by simp);have d3:=BP 2;have d4:=Ce p.cs hl;have n1:=BG hne;have w3:IntKind.wrap .i64 4=4:=by decide
 rw [h] at d1;rw [show rgB 1 7 [4]=true from by decide] at d2;refine Ct.byD gok func56 c56 rfl (by simp [ntmps56]) (by simp) (by simp [LD]) fun E hE hN=>?_
 unfold p56;simp only [];refine DW.seq gok eok mixed ?_;simp [Ax];refine DW.seq gok eok mixed ?_;simp;refine CLa d1 ?_;simp [Ax];refine DW.defer2 gok eok mixed 11534336 [(2097152,0),(3145728,0)] [.lp 2097152 0, .lp 3145728 0] rfl rfl rfl (by simp) (by simp) hE fun E'=>?_
 simp [AA,AM,hk,w3];refine CLb (d2) (by simp [AG]) ?_;simp;refine CLa d3 ?_;simp [AA];refine CLa d4 ?_;simp [AA];refine CRs d5 (by simp [hk]) ?_;simp [D9];refine Cn.mk _ _ _ (Ds e) (by simp) (by simp) (by simp) (by simp) (by simp) ?_;simp;apply RZ;simp [results56]
theorem ADp (p q:Plt) (a:Act) (hl:p.cs.length<=1000000) (h:Ar p=true) (hk:a.k=4) (hne:p.cs≠[]) (hq:q.cs.length=p.cs.length) (ho:Ar q=true) (d0:Cm prog 108 [.lp 0 0,BZ a] (lk [(0,plB p (.ls 1 0 p.cs.length 7)),(1,AH AP p.cs)]) [0,1] (.ret (.tup [])) (lk [(0,plB q (.ls 1 0 p.cs.length 7)),(1,AH AP q.cs)])):Ct prog 56 [Cy p (.d (AX p.cs)),BZ a] (.tup [Cy q (.ls 0 0 p.cs.length 7),vi 0]) [(0,AH AP q.cs)]:=by
 have d5:=MZ d0;have n2:AH AP q.cs≠[]:=BG fun e=>by rw [e] at hq;exact hne (List.eq_nil_of_length_eq_zero hq.symm)
 have d6:=ALn q (by omega);have d7:=BP 9
 have d8:List.take (p.cs.length*7) (AH AP q.cs)=(List.map (List.map V.d ∘ AP) q.cs).flatten:=by
   rw [<-hq,List.take_of_length_le (by rw [Aw Nr];omega)];simp [AH,List.map_flatten]
 rw [ho] at d6;have d1:=ALn p (by omega);have d2:=ALU 1 7 [4] (by simp);have d3:=BP 2;have d4:=Ce p.cs hl;have n1:=BG hne;have w3:IntKind.wrap .i64 4=4:=by decide
 rw [h] at d1;rw [show rgB 1 7 [4]=true from by decide] at d2;refine Ct.byD gok func56 c56 rfl (by simp [ntmps56]) (by simp) (by simp [LD]) fun E hE hN=>?_
 unfold p56;simp only [];refine DW.seq gok eok mixed ?_;simp [Ax];refine DW.seq gok eok mixed ?_;simp;refine CLa d1 ?_;simp [Ax];refine DW.defer2 gok eok mixed 11534336 [(2097152,0),(3145728,0)] [.lp 2097152 0, .lp 3145728 0] rfl rfl rfl (by simp) (by simp) hE fun E'=>?_
 simp [AA,AM,hk,w3];refine CLb (d2) (by simp [AG]) ?_;simp;refine CLa d3 ?_;simp [AA];refine CLa d4 ?_;simp [AA];refine CRs d5 (by simp [n1,hk,BB]) ?_;simp;refine CLb (d6) (by first | (simp;done) | simp [CP,d8,hq]) ?_;simp;refine CLa d7 ?_;simp [AA,Iv];refine Cn.mk _ _ _ IT (by simp) (by simp) (by simp) (by simp) (by simp) ?_;simp;refine AB.by (lk [(0,28311552)]) ?_;simp [results56]
theorem WZ (p q:Plt) (a:Act) (hl:p.cs.length<=1000000) (h:Ar p=true) (hk:a.k=4) (hne:p.cs≠[]) (hq:q.cs.length=p.cs.length) (ho:Ar q=false) (d0:Cm prog 108 [.lp 0 0,BZ a] (lk [(0,plB p (.ls 1 0 p.cs.length 7)),(1,AH AP p.cs)]) [0,1] (.ret (.tup [])) (lk [(0,plB q (.ls 1 0 p.cs.length 7)),(1,AH AP q.cs)])):Ct prog 56 [Cy p (.d (AX p.cs)),BZ a] (.tup [.agg plZ,vi 9]) []:=by
 have d5:=MZ d0;have n2:AH AP q.cs≠[]:=BG fun e=>by rw [e] at hq;exact hne (List.eq_nil_of_length_eq_zero hq.symm)
 have d6:=ALn q (by omega);have d7:=Xt 9
 have d8:List.take (p.cs.length*7) (AH AP q.cs)=(List.map (List.map V.d ∘ AP) q.cs).flatten:=by
   rw [<-hq,List.take_of_length_le (by rw [Aw Nr];omega)];simp [AH,List.map_flatten]
 rw [ho] at d6;have d1:=ALn p (by omega);have d2:=ALU 1 7 [4] (by simp);have d3:=BP 2;have d4:=Ce p.cs hl;have n1:=BG hne;have w3:IntKind.wrap .i64 4=4:=by decide
 rw [h] at d1;rw [show rgB 1 7 [4]=true from by decide] at d2;refine Ct.byD gok func56 c56 rfl (by simp [ntmps56]) (by simp) (by simp [LD]) fun E hE hN=>?_
 unfold p56;simp only [];refine DW.seq gok eok mixed ?_;simp [Ax];refine DW.seq gok eok mixed ?_;simp;refine CLa d1 ?_;simp [Ax];refine DW.defer2 gok eok mixed 11534336 [(2097152,0),(3145728,0)] [.lp 2097152 0, .lp 3145728 0] rfl rfl rfl (by simp) (by simp) hE fun E'=>?_
 simp [AA,AM,hk,w3];refine CLb (d2) (by simp [AG]) ?_;simp;refine CLa d3 ?_;simp [AA];refine CLa d4 ?_;simp [AA];refine CRs d5 (by simp [n1,hk,BB]) ?_;simp;refine CLb (d6) (by first | (simp;done) | simp [CP,d8,hq]) ?_;simp;refine CRs d7 (by simp) ?_;simp [D9];refine Cn.mk _ _ _ (Ds 9) (by simp) (by simp) (by simp) (by simp) (by simp) ?_;simp;apply RZ;simp [results56]
theorem cU (p q:Plt) (a:Act) (hl:p.cs.length<=1000000) (h:Ar p=true) (hk:a.k=7) (hne:p.cs≠[]) (hq:q.cs.length=p.cs.length) (ho:Ar q=true) (d0:Cm prog 111 [.lp 0 0,BZ a] (lk [(0,plB p (.ls 1 0 p.cs.length 7)),(1,AH AP p.cs)]) [0,1] (.ret (.tup [])) (lk [(0,plB q (.ls 1 0 p.cs.length 7)),(1,AH AP q.cs)])):Ct prog 56 [Cy p (.d (AX p.cs)),BZ a] (.tup [Cy q (.ls 0 0 p.cs.length 7),vi 0]) [(0,AH AP q.cs)]:=by
 have d5:=MZ d0;have n2:AH AP q.cs≠[]:=BG fun e=>by rw [e] at hq;exact hne (List.eq_nil_of_length_eq_zero hq.symm)
 have d6:=ALn q (by omega);have d7:=BP 9
 have d8:List.take (p.cs.length*7) (AH AP q.cs)=(List.map (List.map V.d ∘ AP) q.cs).flatten:=by
   rw [<-hq,List.take_of_length_le (by rw [Aw Nr];omega)];simp [AH,List.map_flatten]
 rw [ho] at d6;have d1:=ALn p (by omega);have d2:=ALU 1 7 [7] (by simp);have d3:=BP 2;have d4:=Ce p.cs hl;have n1:=BG hne;have w3:IntKind.wrap .i64 7=7:=by decide
 rw [h] at d1;rw [show rgB 1 7 [7]=true from by decide] at d2;refine Ct.byD gok func56 c56 rfl (by simp [ntmps56]) (by simp) (by simp [LD]) fun E hE hN=>?_
 unfold p56;simp only [];refine DW.seq gok eok mixed ?_;simp [Ax];refine DW.seq gok eok mixed ?_;simp;refine CLa d1 ?_;simp [Ax];refine DW.defer2 gok eok mixed 11534336 [(2097152,0),(3145728,0)] [.lp 2097152 0, .lp 3145728 0] rfl rfl rfl (by simp) (by simp) hE fun E'=>?_
 simp [AA,AM,hk,w3];refine CLb (d2) (by simp [AG]) ?_;simp;refine CLa d3 ?_;simp [AA];refine CLa d4 ?_;simp [AA];refine CRs d5 (by simp [n1,hk,BB]) ?_;simp;refine CLb (d6) (by first | (simp;done) | simp [CP,d8,hq]) ?_;simp;refine CLa d7 ?_;simp [AA,Iv];refine Cn.mk _ _ _ IT (by simp) (by simp) (by simp) (by simp) (by simp) ?_;simp;refine AB.by (lk [(0,28311552)]) ?_;simp [results56]
theorem Wa (p q:Plt) (a:Act) (hl:p.cs.length<=1000000) (h:Ar p=true) (hk:a.k=7) (hne:p.cs≠[]) (hq:q.cs.length=p.cs.length) (ho:Ar q=false) (d0:Cm prog 111 [.lp 0 0,BZ a] (lk [(0,plB p (.ls 1 0 p.cs.length 7)),(1,AH AP p.cs)]) [0,1] (.ret (.tup [])) (lk [(0,plB q (.ls 1 0 p.cs.length 7)),(1,AH AP q.cs)])):Ct prog 56 [Cy p (.d (AX p.cs)),BZ a] (.tup [.agg plZ,vi 9]) []:=by
 have d5:=MZ d0;have n2:AH AP q.cs≠[]:=BG fun e=>by rw [e] at hq;exact hne (List.eq_nil_of_length_eq_zero hq.symm)
 have d6:=ALn q (by omega);have d7:=Xt 9
 have d8:List.take (p.cs.length*7) (AH AP q.cs)=(List.map (List.map V.d ∘ AP) q.cs).flatten:=by
   rw [<-hq,List.take_of_length_le (by rw [Aw Nr];omega)];simp [AH,List.map_flatten]
 rw [ho] at d6;have d1:=ALn p (by omega);have d2:=ALU 1 7 [7] (by simp);have d3:=BP 2;have d4:=Ce p.cs hl;have n1:=BG hne;have w3:IntKind.wrap .i64 7=7:=by decide
 rw [h] at d1;rw [show rgB 1 7 [7]=true from by decide] at d2;refine Ct.byD gok func56 c56 rfl (by simp [ntmps56]) (by simp) (by simp [LD]) fun E hE hN=>?_
 unfold p56;simp only [];refine DW.seq gok eok mixed ?_;simp [Ax];refine DW.seq gok eok mixed ?_;simp;refine CLa d1 ?_;simp [Ax];refine DW.defer2 gok eok mixed 11534336 [(2097152,0),(3145728,0)] [.lp 2097152 0, .lp 3145728 0] rfl rfl rfl (by simp) (by simp) hE fun E'=>?_
 simp [AA,AM,hk,w3];refine CLb (d2) (by simp [AG]) ?_;simp;refine CLa d3 ?_;simp [AA];refine CLa d4 ?_;simp [AA];refine CRs d5 (by simp [n1,hk,BB]) ?_;simp;refine CLb (d6) (by first | (simp;done) | simp [CP,d8,hq]) ?_;simp;refine CRs d7 (by simp) ?_;simp [D9];refine Cn.mk _ _ _ (Ds 9) (by simp) (by simp) (by simp) (by simp) (by simp) ?_;simp;apply RZ;simp [results56]
end Go.Proofs.Tryz
namespace Go.Proofs.Tryz
open Go.Psl
open Go.Air
theorem fq (p:Plt) (a:Act) (ha:a.n=1):Cm prog 111 [.lp 23068672 0,BZ a] (lk [(23068672,plB p (.ls 28311552 0 0 7)),(28311552,[])]) [23068672] (.ret (.tup [])) (lk [(23068672,plB p (.ls 1 0 0 7)),(1,[])]):=by
 have d1:=ALU 1 1000 [1] (by simp);have d2:=BP 2;rw [show rgB 1 1000 [1]=true from by decide] at d1;have z1:IntKind.wrap .i64 1=1:=by decide
 refine CM 28311553 func111 ASc fun E hs hE=>?_
 simp [p111,AA,AM,ha]
 repeat ((first | (refine CLt d1 ?_ ?_;focus (simp [AG];done)) | (refine CLt d2 ?_ ?_;focus (simp;done)));simp)
 refine Al (α:=Nat) (fun k=>⟨AO [(0, .lp 23068672 0),(13,vi 1),(14,vi k)],lk [(23068672,plB p (.ls 28311552 0 0 7)),(28311552,[])],28311553⟩) (fun k=>k<=1) (fun k=>1-k) 0 ?_ ?_ ?_
 . omega
 . exact WKM hs (lk [(23068672,23068672),(28311552,28311552)])
 . intro k hk
   match k,hk with
   | 1,_=>
     simp [AMY];refine AB.by (lk [(23068672,23068672),(1,28311552)]) ?_;simp [results111]
   | n+2,h=>omega
   | 0,_=>
     simp [AMY];refine Al (α:=Nat) (fun i=>⟨AO [(0, .lp 23068672 0),(13,vi 1),(14,vi 0),(21,vi 0),(22,vi i)],lk [(23068672,plB p (.ls 28311552 0 0 7)),(28311552,[])],28311553⟩) (fun i=>i=0) (fun i=>0) 0 ?_ ?_ ?_
     . rfl
     . exact WKM hs (lk [(23068672,23068672),(28311552,28311552)])
     . intro i hi
       subst hi;simp [AMw,z1];refine ⟨1,by omega,by omega,?_⟩;exact WKM hs (lk [(23068672,23068672),(28311552,28311552)])
theorem i0 {f:FuncId} {p:Plt} {a:Act} {e:Int} (h:Cm prog f [.lp 0 0,BZ a] (lk [(0,plB p (.ls 1 0 0 7))]) [] (.pan (Fm e)) (lk [])):Cm prog f [.lp 23068672 0,BZ a] (lk [(23068672,plB p (.ls 28311552 0 0 7))]) [] (.pan (Fm e)) (lk []):=by
 have:=Cm.rename sgD 2 Nu h (by simp [BW]) (by simp [BW]) (by simp);simpa [Ea,HW,sgD] using this
theorem kz (p:Plt) (a:Act) (h:Ar p=true) (hk:a.k=3) (he:p.cs=[]):Ct prog 56 [Cy p (.d (AX p.cs)),BZ a] (.tup [.agg plZ,vi 2]) []:=by
 have d5:=i0 (gj p a);have d1:=ALn p (by simp [he]);have d2:=ALU 1 7 [3] (by simp);have d3:=BP 2;have d4:=Ce ([]:List Cel) (by simp);have w3:IntKind.wrap .i64 3=3:=by decide
 rw [h,he] at d1;rw [he];rw [show rgB 1 7 [3]=true from by decide] at d2;refine Ct.byD gok func56 c56 rfl (by simp [ntmps56]) (by simp) (by simp [LD]) fun E hE hN=>?_
 unfold p56;simp only [];refine DW.seq gok eok mixed ?_;simp [Ax];refine DW.seq gok eok mixed ?_;simp;refine CLa d1 ?_;simp [Ax];refine DW.defer2 gok eok mixed 11534336 [(2097152,0),(3145728,0)] [.lp 2097152 0, .lp 3145728 0] rfl rfl rfl (by simp) (by simp) hE fun E'=>?_
 simp [AA,AM,hk,w3];refine CLb (d2) (by simp [AG]) ?_;simp;refine CLa d3 ?_;simp [AA];refine CLa d4 ?_;simp [AA];refine CRs d5 (by simp [AH,hk]) ?_;simp [D9];refine Cn.mk _ _ _ (Ds 2) (by simp) (by simp) (by simp) (by simp) (by simp) ?_;simp;apply RZ;simp [results56]
theorem lA (p:Plt) (a:Act) (h:Ar p=true) (hk:a.k=4) (he:p.cs=[]):Ct prog 56 [Cy p (.d (AX p.cs)),BZ a] (.tup [.agg plZ,vi 2]) []:=by
 have d5:=i0 (ABp p a);have d1:=ALn p (by simp [he]);have d2:=ALU 1 7 [4] (by simp);have d3:=BP 2;have d4:=Ce ([]:List Cel) (by simp);have w3:IntKind.wrap .i64 4=4:=by decide
 rw [h,he] at d1;rw [he];rw [show rgB 1 7 [4]=true from by decide] at d2;refine Ct.byD gok func56 c56 rfl (by simp [ntmps56]) (by simp) (by simp [LD]) fun E hE hN=>?_
 unfold p56;simp only [];refine DW.seq gok eok mixed ?_;simp [Ax];refine DW.seq gok eok mixed ?_;simp;refine CLa d1 ?_;simp [Ax];refine DW.defer2 gok eok mixed 11534336 [(2097152,0),(3145728,0)] [.lp 2097152 0, .lp 3145728 0] rfl rfl rfl (by simp) (by simp) hE fun E'=>?_
 simp [AA,AM,hk,w3];refine CLb (d2) (by simp [AG]) ?_;simp;refine CLa d3 ?_;simp [AA];refine CLa d4 ?_;simp [AA];refine CRs d5 (by simp [AH,hk]) ?_;simp [D9];refine Cn.mk _ _ _ (Ds 2) (by simp) (by simp) (by simp) (by simp) (by simp) ?_;simp;apply RZ;simp [results56]
theorem lC (p:Plt) (a:Act) (h:Ar p=true) (hk:a.k=7) (hn:a.n=1) (he:p.cs=[]):Ct prog 56 [Cy p (.d (AX p.cs)),BZ a] (.tup [Cy p (.ls 0 0 0 7),vi 0]) [(0,[])]:=by
 have d5:=fq p a hn;have d6:=ALn p (by simp [he]);have d7:=BP 9;rw [h,he] at d6;have d1:=ALn p (by simp [he]);have d2:=ALU 1 7 [7] (by simp);have d3:=BP 2;have d4:=Ce ([]:List Cel) (by simp);have w3:IntKind.wrap .i64 7=7:=by decide
 rw [h,he] at d1;rw [he];rw [show rgB 1 7 [7]=true from by decide] at d2;refine Ct.byD gok func56 c56 rfl (by simp [ntmps56]) (by simp) (by simp [LD]) fun E hE hN=>?_
 unfold p56;simp only [];refine DW.seq gok eok mixed ?_;simp [Ax];refine DW.seq gok eok mixed ?_;simp;refine CLa d1 ?_;simp [Ax];refine DW.defer2 gok eok mixed 11534336 [(2097152,0),(3145728,0)] [.lp 2097152 0, .lp 3145728 0] rfl rfl rfl (by simp) (by simp) hE fun E'=>?_
 simp [AA,AM,hk,w3];refine CLb (d2) (by simp [AG]) ?_;simp;refine CLa d3 ?_;simp [AA];refine CLa d4 ?_;simp [AA];refine CRs d5 (by simp [AH,hk]) ?_;simp;refine CLb (d6) (by first | (simp;done) | simp [CP]) ?_;simp;refine CLa d7 ?_;simp [AA,Iv];refine Cn.mk _ _ _ IT (by simp) (by simp) (by simp) (by simp) (by simp) ?_;simp;refine AB.by (lk [(0,39845889)]) ?_;simp [results56]
end Go.Proofs.Tryz
