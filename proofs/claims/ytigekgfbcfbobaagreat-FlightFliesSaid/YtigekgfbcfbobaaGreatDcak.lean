/- Own lemmas, used by the last text. Conditions: those that each theorem states. -/
import Derived.Test.YtigekgfbcfbobaaGreatDcag
import Derived.Test.YtigekgfbcfbobaaGreatDcah
import Derived.Test.YtigekgfbcfbobaaGreatDcai
import Derived.Test.YtigekgfbcfbobaaGreatDcaj
set_option maxRecDepth 200000
set_option maxHeartbeats 8000000
namespace Go.Proofs.Tryz
open Go.Psl
open Go.Geo (cross cyc InR box)
theorem Pj {α β:Type} {f:α->Option β} {l:List α} {v:β} (h:l.findSome? f=some v):∃ (j:Nat) (e:α),l[j]?= some e/\f e=some v/\∀ (i:Nat) (e':α),i < j->l[i]?= some e'->f e'=none:=by
 obtain ⟨l1,a,l2,rfl,h1,h2⟩:=List.findSome?_eq_some_iff.1 h;refine ⟨l1.length,a,by simp,h1,fun i e' hi he=>?_⟩;rw [List.getElem?_append_left hi] at he;exact h2 e' (List.mem_of_getElem? he)
theorem qr (r:List (Int × Int)) (p:Int × Int) (hl:r.length<=1000000) (hr:∀ q∈r,bd 268435456 q) (hp:bd 268435456 p):Ct prog 126 [.d (An r),vsp p.1 p.2] (vb (Ll r p)) []:=by
 refine Ct.byR gok eok mixed func126 c126 rfl (by simp [ntmps126]) (by simp) (by simp [LD]) fun E hE hE2=>?_
 simp [p126];refine CLa (qE r) ?_;simp;have hnt:E.nt=83:=by rw [hE2.1];exact ntmps126
 rw [<-JI (Γ:=tys) (eqs:=eqs)];obtain ⟨f,hf⟩:∃ f,f=upd (upd (upd (upd (upd (Dn 0 [V.d (An r),vsp p.1 p.2]) 2 (V.lp 0 0)) 3 (V.lp 1048576 0)) 4 (V.lp 2097152 0)) 10 (V.d (An r))) 11 (V.cl 258 [V.lp 4194304 0]):=⟨_,rfl⟩
 have hfA:∀ t,AV (·∈hKS) AR (f t):=fun t=>by
   rw [hf];simp only [AY];split
   . intro c hc;simp at hc;subst hc;exact (by simp [hKS]:(4194304:Nat)∈hKS)
   . split
     . exact trivial
     . split
       . exact (by simp [hKS]:(2097152:Nat)∈hKS)
       . split
         . exact (by simp [hKS]:(1048576:Nat)∈hKS)
         . split
           . exact (by simp [hKS]:(0:Nat)∈hKS)
           . simp only [Dn]
             split
             . exact trivial
             . split
               . intro c hc;simp at hc;rcases hc with rfl | rfl<;>exact trivial
               . exact fun c hc=>by simp at hc
 have f2:f 2= .lp 0 0:=by rw [hf];simp
 have f3:f 3= .lp 1048576 0:=by rw [hf];simp
 have f4:f 4= .lp 2097152 0:=by rw [hf];simp
 have f11:f 11= .cl 258 [.lp 4194304 0]:=by rw [hf];simp
 rw [<-hf];have hN:∀ i∈hKS,i < 1000000000:=by simp [hKS]
 have hK:=fun s v=>jG r p f s v hfA
 have hcl:=Go.Geo.cyc_len r;have round:∀ x y,(x,y)∈cyc r->_:=fun x y hxy=>Vm r p f hfA f2 f3 f4 hl hp x y (hr x (Go.Geo.cyc_mem hxy).1) (hr y (Go.Geo.cyc_mem hxy).2)
 have rec0:∀ s v,∃ fr nt ps pa pb jmp,lk (hL r p f s v) 5242880=some [.lr fr nt ps pa pb jmp]/\ps.length=2:=fun s v=>⟨f,83,[12,13],Ba,Bb,s,by simp [hL],rfl⟩
 have box0:∀ s v,lk (hL r p f s v) 4194304=some [.d (An r)]:=fun s v=>by simp [hL]
 cases hfs:(cyc r).findSome? (EC (smS r) p) with
 | none=>
   have e:Ll r p=decide ((1:Int) < r.length):=by unfold Ll;rw [hfs];rfl
   have c:=MK r hl hKS 5242880 4194304 r.length (fun _=>true) (fun _=>hL r p f .ready false) (by simp [hKS]) (by simp [hKS]) hN (Nat.le_refl _) (fun _ _=>hK .ready false) (fun _ _=>rec0 _ _) (fun _ _=>box0 _ _) (fun _ _=>rfl) (Or.inl rfl) (fun i x y hi hcy=>by
     have h1:=round x y (List.mem_of_getElem? hcy);have h2:EC (smS r) p (x,y)=none:=List.findSome?_eq_none_iff.1 hfs _ (List.mem_of_getElem? hcy);rw [h2] at h1;exact h1)
   refine E3.keep (hL r p f .ready false).tail (hL r p f .ready false).tail [4194304,0,1048576,2097152] (.tup []) .ready hE2.2 (g:=258) (caps:=[.lp 4194304 0]) (by simp [f11]) (by rw [hnt];exact c) (by rw [hnt];exact hK .ready false) (by rw [hnt];exact hK .ready false) (by simp [hL]) (by simp) ?_
   show Ft 0 _ .normal _
   simp [hL,f2,f4];apply RZ;simp [results126,f4,e,AA]
 | some v=>
   have e:Ll r p=v:=by unfold Ll;rw [hfs];rfl
   obtain ⟨j,e0,h1,h2,h3⟩:=Pj hfs;have hj:=(List.getElem?_eq_some_iff.1 h1).1;rw [hcl] at hj
   have c:=MK r hl hKS 5242880 4194304 (j+1) (fun i=>decide (i≠j)) (fun i=>if i<=j then hL r p f .ready false else hL r p f (.done .ret) v) (by simp [hKS]) (by simp [hKS]) hN (by omega)
     (fun i _=>by show A4 hKS (if i<=j then hL r p f .ready false else hL r p f (.done .ret) v);split<;>exact hK _ _)
     (fun i _=>by show ∃ fr nt ps pa pb jmp,lk (if i<=j then hL r p f .ready false else hL r p f (.done .ret) v) 5242880=some [.lr fr nt ps pa pb jmp]/\ps.length=2;split<;>exact rec0 _ _)
     (fun i _=>by show lk (if i<=j then hL r p f .ready false else hL r p f (.done .ret) v) 4194304=_;split<;>exact box0 _ _)
     (fun i hi=>decide_eq_true (by omega)) (Or.inr ⟨by omega,decide_eq_false (by omega)⟩) (fun i x y hi hcy=>by
       have r1:=round x y (List.mem_of_getElem? hcy);by_cases hij:i=j
       . subst hij
         rw [h1] at hcy;cases hcy;rw [h2] at r1;simp only [Nat.le_refl,if_true,show ¬ i+1<=i by omega,if_false,ne_eq,not_true_eq_false,decide_false];exact r1
       . have h4:=h3 i (x,y) (by omega) hcy
         rw [h4] at r1;simp only [show i<=j by omega,show i+1<=j by omega,if_true,ne_eq,hij,not_false_eq_true,decide_true];exact r1)
   simp only [Nat.zero_le,if_true,show ¬ j+1<=j by omega,if_false] at c;refine E3.keep (hL r p f .ready false).tail (hL r p f (.done .ret) v).tail [4194304,0,1048576,2097152] (.tup []) (.done .ret) hE2.2 (g:=258) (caps:=[.lp 4194304 0]) (by simp [f11]) (by rw [hnt];exact c) (by rw [hnt];exact hK .ready false) (by rw [hnt];exact hK (.done .ret) v) (by simp [hL]) (by simp) ?_
   show Ft 0 _ .ret _
   simp [hL];apply RZ;simp [results126,f4,e]
open Go.Geo (cross cyc InR box Bo)
theorem aW {u v:Int}:(0<=v*u/\v*v<=u*u)↔(min 0 u<=v/\v<=max 0 u):=by
 rcases Int.lt_trichotomy u 0 with hu | hu | hu
 . constructor
   . rintro ⟨h1,h2⟩
     have a:v<=0:=by
       apply Int.not_lt.1;intro h
       have:=Int.mul_neg_of_pos_of_neg h hu;omega
     have b:u<=v:=by
       apply Int.not_lt.1;intro h
       have h3:=Int.mul_pos_of_neg_of_neg (show v - u < 0 by omega) (show v+u < 0 by omega);have e:(v - u)*(v+u)=v*v - u*u:=by grind
       omega
     omega
   . intro ⟨h1,h2⟩
     have a:=Int.mul_nonneg_of_nonpos_of_nonpos (show v<=0 by omega) (show u<=0 by omega);have b:=Int.mul_nonneg (show 0<=v - u by omega) (show 0<= -(v+u) by omega);have e:(v - u)* -(v+u)=u*u - v*v:=by grind
     omega
 . subst hu
   constructor
   . rintro ⟨_,h2⟩
     have:v=0:=by
       rcases Int.lt_trichotomy v 0 with h | h | h
       . have:=Int.mul_pos_of_neg_of_neg h h;omega
       . exact h
       . have:=Int.mul_pos h h;omega
     omega
   . rintro ⟨h1,h2⟩
     have:v=0:=by omega
     subst this;simp
 . constructor
   . rintro ⟨h1,h2⟩
     have a:0<=v:=by
       apply Int.not_lt.1;intro h
       have:=Int.mul_neg_of_neg_of_pos h hu;omega
     have b:v<=u:=by
       apply Int.not_lt.1;intro h
       have h3:=Int.mul_pos (show 0 < v - u by omega) (show 0 < v+u by omega);have e:(v - u)*(v+u)=v*v - u*u:=by grind
       omega
     omega
   . intro ⟨h1,h2⟩
     have a:=Int.mul_nonneg (show 0<=v by omega) (show 0<=u by omega);have b:=Int.mul_nonneg (show 0<=u - v by omega) (show 0<=u+v by omega);have e:(u - v)*(u+v)=u*u - v*v:=by grind
     omega
theorem J6 {a b p:Int × Int}:onS (DU a b) (DU a p)=true↔box a b p:=by
 unfold onS;simp only [Bool.and_eq_true,decide_eq_true_eq];have h1:=@aW (b.1 - a.1) (p.1 - a.1);have h2:=@aW (b.2 - a.2) (p.2 - a.2);unfold box
 show (0<=(p.1 - a.1)*(b.1 - a.1)/\0<=(p.2 - a.2)*(b.2 - a.2)/\(p.1 - a.1)*(p.1 - a.1)<=(b.1 - a.1)*(b.1 - a.1)/\(p.2 - a.2)*(p.2 - a.2)<=(b.2 - a.2)*(b.2 - a.2))↔_
 constructor
 . rintro ⟨q1,q2,q3,q4⟩
   have:=h1.1 ⟨q1,q3⟩;have:=h2.1 ⟨q2,q4⟩;omega
 . intro h
   obtain ⟨q1,q3⟩:=h1.2 (by omega);obtain ⟨q2,q4⟩:=h2.2 (by omega);exact ⟨q1,q2,q3,q4⟩
theorem aX {a b p:Int × Int}:box a b p↔box b a p:=by unfold box;omega
theorem PL {r:List (Int × Int)} (h:C7 r=true):r=Bo (ddC (DK r))/\r≠[]:=by
 unfold C7 at h;simp only [Bool.and_eq_true,decide_eq_true_eq] at h;refine ⟨h.2.symm,fun e=>?_⟩;rw [e] at h;simp at h
theorem aY {l:List (Int × Int)} (hs:Go.Geo.Sorted l) {a b:Int × Int} (h:Bo l=[a,b]):Go.Geo.lt a b:=by
 by_cases h3:l.length < 3
 . have e:Bo l=l:=by unfold Bo;rw [if_pos h3]
   rw [h] at e;rw [<-e] at hs;exact (List.pairwise_cons.1 hs).1 b (by simp)
 . by_cases hn:5<=(Go.Geo.chainR l).length+(Go.Geo.chainR l.reverse).length
   . have:=Go.Geo.hull_len h3
     have h2:=Go.Geo.chain_len2 hs (by omega);rw [h] at this;simp at this;omega
   . obtain ⟨f,g,_,_,hfg,e,_⟩:=Go.Geo.hull_two hs h3 hn
     rw [h] at e;cases e;exact hfg
theorem aZ {a p:Int × Int}:InR [a] p↔a=p:=by
 constructor
 . rintro ⟨_,h⟩
   obtain ⟨x,y,h1,h2,hb⟩:∃ x y,[a].head?= some x/\[a].getLast?= some y/\box x y p:=by simpa using h
   simp at h1 h2;subst h1;subst h2;unfold box at hb
   ext<;>omega
 . rintro rfl
   refine ⟨fun e he=>?_,Or.inr ⟨a,a,rfl,rfl,by unfold box;omega⟩⟩;simp [cyc,Go.Geo.steps] at he;subst he;rw [Go.Geo.cross_self];omega
theorem aa {a b p:Int × Int}:InR [a,b] p↔cross a b p=0/\box a b p:=by
 constructor
 . rintro ⟨hc,h⟩
   obtain ⟨x,y,h1,h2,hb⟩:∃ x y,[a,b].head?= some x/\[a,b].getLast?= some y/\box x y p:=by simpa using h
   simp at h1 h2;subst h1;subst h2;have c1:=hc (a,b) (by simp [cyc,Go.Geo.steps]);have c2:=hc (b,a) (by simp [cyc,Go.Geo.steps]);simp only at c1 c2;rw [Go.Geo.cross_swap2] at c2;exact ⟨by omega,hb⟩
 . rintro ⟨hc,hb⟩
   refine ⟨fun e he=>?_,Or.inr ⟨a,b,rfl,rfl,hb⟩⟩;simp [cyc,Go.Geo.steps] at he;rcases he with rfl | rfl
   . simp only;omega
   . simp only;rw [Go.Geo.cross_swap2];omega
theorem ae {r:List (Int × Int)} (h:C7 r=true) (p:Int × Int):Lj r p=true↔InR r p:=by
 obtain ⟨hr,hne⟩:=PL h
 match r,hne,hr with
 | [],hne,_=>exact absurd rfl hne
 | [a],_,_=>rw [aZ];unfold Lj;simp
 | [a,b],_,hr=>
   have hlt:=aY (JN _) hr.symm;rw [aa];unfold Lj;simp only [Bool.and_eq_true,Bool.or_eq_true,MJ];have e:cyc [a,b]=[(a,b),(b,a)]:=rfl;rw [e];simp only [List.mem_cons,List.not_mem_nil,or_false,forall_eq_or_imp,forall_eq];rw [Go.Geo.cross_swap2 b a p]
   have hw:(ZV p.1 a.1 b.1=true/\ZV p.2 (min a.2 b.2) (max a.2 b.2)=true)↔box a b p:=by
     unfold ZV box Go.Geo.lt at*;simp only [Bool.and_eq_true,decide_eq_true_eq];omega
   rw [hw];simp;omega
 | a::b::c::t,_,_=>
   unfold Lj InR;simp [MJ]
theorem af {r:List (Int × Int)} (h:C7 r=true) (p:Int × Int):Ll r p=true↔InR r p:=by
 obtain ⟨hr,hne⟩:=PL h
 have hcorner:∀ q∈r,InR r q:=fun q hq=>by
   rw [hr] at hq ⊢;exact Go.Geo.hull_in (JN _) q (Go.Geo.hull_sub (JN _) q hq)
 match r,hne,hcorner,hr with
 | [],hne,_,_=>exact absurd rfl hne
 | [a],_,_,_=>
   rw [aZ];have e:cyc [a]=[(a,a)]:=rfl;unfold Ll;rw [e];simp only [List.findSome?_cons,List.findSome?_nil,EC];by_cases h1:a.1=p.1/\a.2=p.2
   . rw [if_pos h1]
     have:a=p:=by ext;exact h1.1;exact h1.2
     simp [this]
   . rw [if_neg h1]
     have hb:Ee (smS [a]) p (a,a)=true:=by
       unfold Ee
       have:onS (DU a a) (DU a p)=false:=by
         rw [<-Bool.not_eq_true,J6];intro hb;unfold box at hb;exact h1 (by omega)
       rw [show cross (a,a).1 (a,a).2 p=0 from Go.Geo.cross_self3 a p];simp only;rw [this];rfl
     rw [hb];simp;intro e;exact h1 (by rw [e];exact ⟨rfl,rfl⟩)
 | [a,b],_,hcorner,hr=>
   have e:cyc [a,b]=[(a,b),(b,a)]:=rfl;have hsm:smS [a,b]=true:=rfl;unfold Ll;rw [e,hsm];simp only [List.findSome?_cons,List.findSome?_nil,EC];by_cases h1:a.1=p.1/\a.2=p.2
   . rw [if_pos h1]
     have:a=p:=by ext;exact h1.1;exact h1.2
     subst this;simp;exact hcorner a (by simp)
   rw [if_neg h1,aa];have hsw:=Go.Geo.cross_swap2 b a p;rcases Int.lt_trichotomy (cross a b p) 0 with hc | hc | hc
   . have hb:Ee true p (a,b)=true:=by unfold Ee;rw [decide_eq_true hc];rfl
     rw [hb];simp;intro h;omega
   . by_cases hbx:box a b p
     . have hb:Ee true p (a,b)=false:=by unfold Ee;rw [J6.2 hbx];simp;omega
       rw [hb];simp only [Bool.false_eq_true,if_false];by_cases h2:b.1=p.1/\b.2=p.2
       . rw [if_pos h2];simp [hc,hbx]
       . rw [if_neg h2]
         have hb2:Ee true p (b,a)=false:=by unfold Ee;rw [J6.2 (aX.1 hbx)];simp;omega
         rw [hb2];simp [hc,hbx]
     . have hb:Ee true p (a,b)=true:=by
         unfold Ee;have:onS (DU a b) (DU a p)=false:=by rw [<-Bool.not_eq_true,J6];exact hbx
         simp only;rw [this,hc];rfl
       rw [hb];simp [hbx]
   . have hb:Ee true p (a,b)=false:=by unfold Ee;simp;omega
     rw [hb];simp only [Bool.false_eq_true,if_false]
     have h2:¬ (b.1=p.1/\b.2=p.2):=fun h2=>by
       have:b=p:=by ext;exact h2.1;exact h2.2
       rw [this,Go.Geo.cross_self2] at hc;omega
     rw [if_neg h2];have hb2:Ee true p (b,a)=true:=by unfold Ee;rw [decide_eq_true (p:=cross (b,a).1 (b,a).2 p < 0) (by simp only;omega)];rfl
     rw [hb2];simp;intro h;omega
 | a::b::c::t,_,hcorner,hr=>
   obtain ⟨R,hR⟩:∃ R,a::b::c::t=R:=⟨_,rfl⟩
   have hl:2 < R.length:=by rw [<-hR];simp
   rw [hR] at hcorner ⊢;have hsm:smS R=false:=by unfold smS;rw [decide_eq_false (by omega)]
   have hin:InR R p↔∀ e∈cyc R,0<=cross e.1 e.2 p:=⟨fun h=>h.1,fun h=>⟨h,Or.inl hl⟩⟩
   unfold Ll;rw [hsm];cases hf:(cyc R).findSome? (EC false p) with
   | none=>
     have:=List.findSome?_eq_none_iff.1 hf;simp only [Option.getD_none,decide_eq_true_eq];refine ⟨fun _=>hin.2 fun e he=>?_,fun _=>by omega⟩;have h1:=this e he;unfold EC at h1;split at h1
     . cases h1
     . split at h1
       . cases h1
       . rename_i h2
         unfold Ee at h2;simp at h2;exact h2
   | some v=>
     obtain ⟨l1,e,l2,h1,h2,_⟩:=List.findSome?_eq_some_iff.1 hf;have he:e∈cyc R:=by rw [h1];simp
     simp only [Option.getD_some];unfold EC at h2;split at h2
     . rename_i h3
       cases h2;have:e.1=p:=by ext;exact h3.1;exact h3.2
       simp only [true_iff];rw [<-this];exact hcorner _ (Go.Geo.cyc_mem he).1
     . split at h2
       . rename_i h4
         cases h2;unfold Ee at h4;simp at h4;simp only [Bool.false_eq_true,false_iff,hin];intro h5;have:=h5 e he;omega
       . cases h2
theorem gf {r:List (Int × Int)} (h:C7 r=true) (p:Int × Int):Ll r p=Lj r p:=by
 rw [Bool.eq_iff_iff,af h,ae h]
def inV (r:List (Int × Int)) (p:Int × Int):Bool:=C7 r&&(okC p&&Lj r p)
def Yj (r:List (Int × Int)):Int:=if C7 r then 0 else 14
theorem Yk (p:Int × Int):EJ [p]=okC p:=by simp [EJ]
theorem kW {H:Hp} {id:Nat} {p:Int × Int} (h:H id=some [vi p.1,vi p.2]):Bor H (.ls id 0 1 2) (.d (An [p])):=L7 [p] h rfl
theorem fE (hS:SortOk) (r:List (Int × Int)) (p:Int × Int) (hr:r.length<=1000000000):Ct prog 59 [.d (An r),vsp p.1 p.2] (.tup [vb (inV r p),vi (Yj r)]) []:=by
 refine CB func59 c59 fun E hE=>?_
 simp [p59];refine CLa (oy hS r hr) ?_;cases h1:C7 r
 . simp
   apply RZ;simp [results59,inV,Yj,h1]
 . have hb:=dM h1
   have hlen:=Ws h1;simp [AA,AM];refine CLb (iu [p] (by simp)) (by simp [kW]) ?_;rw [Yk];cases h2:okC p
   . simp
     apply RZ;simp [results59,inV,Yj,h1,h2]
   . simp
     refine CLa (qr r p (by omega) hb (NH.1 h2)) ?_;rw [gf h1];simp;apply RZ;simp [results59,inV,Yj,h1,h2]
theorem un (r:List (Int × Int)) (p:Int × Int) (hr:r.length<=1000000000):Ct prog 283 [.d (An r),vsp p.1 p.2] (.tup [vb (inV r p),vi (Yj r)]) []:=by
 refine CB func283 c283 fun E hE=>?_
 simp [p283];refine CLa (yF r hr) ?_;cases h1:C7 r
 . simp
   apply RZ;simp [results283,inV,Yj,h1]
 . have hb:=dM h1
   have hlen:=Ws h1;simp [AA,AM];refine CLb (yE [p] (by simp)) (by simp [kW]) ?_;rw [Yk];cases h2:okC p
   . simp
     apply RZ;simp [results283,inV,Yj,h1,h2]
   . simp
     refine AU.mk _ _ _ (zd r p (by omega) (by omega) (fun q hq=>GM (hb q hq) (by omega)) (GM (NH.1 h2) (by omega))) (by first | (simp;done) | simp [Bk,CP]) (by simp) (by first | (left;simp;done) | (right;simp;done)) ?_;simp;apply RZ;simp [results283,inV,Yj,h1,h2]
end Go.Proofs.Tryz
namespace Go.Proofs.Tryz
open Go.Psl
open Go.Air
def WB (a b:Int × Int):Prop:=b.1<=a.1/\a.2<=b.2
section
variable {l:List Kn} (ht:Ck l=true)
end
end Go.Proofs.Tryz
namespace Go.Air
end Go.Air
namespace Go.Proofs.Tryz
open Go.Psl
open Go.Air
def Il (r:List (Int × Int)) (s h:Int × Int):Bool:=inV r (s.1,h.1)&&inV r (s.1,h.2)&&inV r (s.2,h.1)&&inV r (s.2,h.2)
end Go.Proofs.Tryz
namespace Go.Proofs.Tryz
open Go.Psl
open Go.Air
structure OkW (w:List Gal):Prop where
 len:1<=w.length/\w.length<=16
 at':∀ x∈w, -500<=x.h/\x.h<=9000
 g:∀ x∈w,0<=x.g/\x.g<=500
 x:∀ x∈w, -1000<=x.xl/\x.xl<=x.xh/\x.xh<=1000
 y:∀ x∈w, -1000<=x.yl/\x.yl<=x.yh/\x.yh<=1000
 step:∀ (i:Nat) (x y:Gal),w[i]?= some x->w[i+1]?= some y->x.h < y.h
theorem L0 {w:List Gal}:Dr w=true->OkW w:=by
 unfold Dr;simp only [Bool.and_eq_true,List.all_eq_true]
 rintro ⟨h1,h2⟩
 have hg:∀ i x,w[i]?= some x->AAU w i=true:=fun i x hx=>h2 i (by simp [(List.getElem?_eq_some_iff.1 hx).1])
 have hb:∀ x∈w,((-500<=x.h/\x.h<=9000)/\0<=x.g/\x.g<=500)/\(-1000<=x.xl/\x.xl<=x.xh/\x.xh<=1000)/\ -1000<=x.yl/\x.yl<=x.yh/\x.yh<=1000:=fun x hx=>by
   obtain ⟨i,hi⟩:=List.getElem?_of_mem hx;have:=hg i x hi;unfold AAU at this;rw [hi] at this;simp only [Bool.and_eq_true,CC] at this;obtain ⟨⟨⟨⟨q1,_⟩,q2⟩,q3⟩,q4⟩:=this;simp [rgB] at q1 q2;omega
 refine ⟨by simp [rgB] at h1;omega,fun x hx=>(hb x hx).1.1,fun x hx=>(hb x hx).1.2,fun x hx=>(hb x hx).2.1,fun x hx=>(hb x hx).2.2,fun i x y hx hy=>?_⟩;have:=hg (i+1) y hy;unfold AAU at this;rw [hy] at this;simp [hx] at this;omega
def Dd (pk:Gal->Int × Int) (w:List Gal):List Kn:=w.map fun x=>(x.h,pk x)
def HG (x:Gal):Int × Int:=(x.xl,x.xh)
def EY (x:Gal):Int × Int:=(x.yl,x.yh)
theorem EG {pk:Gal->Int × Int} {w:List Gal} {i:Nat}:(Dd pk w)[i]?= (w[i]?).map fun x=>(x.h,pk x):=by unfold Dd;rw [List.getElem?_map]
theorem IH {pk:Gal->Int × Int} {w:List Gal}:(Dd pk w).length=w.length:=by unfold Dd;simp
def EA (w:List Gal) (z:Int):Int:=match w[0]?,w[w.length - 1]? with
 | some a,some b=>min (max z a.h) b.h
 | _,_=>z
def Fg (pk:Gal->Int × Int) (w:List Gal) (h:Int × Int):Int × Int:=match w with
 | []=>(0,0)
 | [x]=>pk x
 | _=>(Jy (Dd pk w) (EA w h.1,EA w h.2)).1
def Qq (w:List Gal) (lo:Int):Nat:=(w.takeWhile fun x=>decide (x.h < lo)).length
def upN (w:List Gal) (hi:Int):Nat:=(w.takeWhile fun x=>decide (x.h<=hi)).length
def rS (l:List Gal):Int:=l.foldl (fun m x=>max m x.g) 0
def rO (w:List Gal) (h:Int × Int):Int:=rS ((w.take (upN w h.2+1)).drop (Qq w h.1 - 1))
def Jr (w:List Gal) (h:Int × Int):Int × Int:=((Fg HG w h).1 - rO w h,(Fg HG w h).2+rO w h)
def Js (w:List Gal) (h:Int × Int):Int × Int:=((Fg EY w h).1 - rO w h,(Fg EY w h).2+rO w h)
def Lg (w:List Gal) (h:Int × Int):Int:=if Dr w then (if okS h then 0 else 10) else 22
theorem Mx:∀ {l:List Gal} {a m:Int},l.foldl (fun m x=>max m x.g) a<=m↔a<=m/\∀ x∈l,x.g<=m
 | [],a,m=>by simp
 | c::l,a,m=>by
   rw [List.foldl_cons,Mx];simp only [List.mem_cons,forall_eq_or_imp];constructor
   . rintro ⟨h1,h2⟩;exact ⟨by omega,by omega,h2⟩
   . rintro ⟨h1,h2,h3⟩;exact ⟨by omega,h3⟩
theorem ex {l:List Gal}:0<=rS l/\∀ x∈l,x.g<=rS l:=Mx.1 (Int.le_refl (rS l))
theorem ey {w:List Gal} {f t:Nat} {x:Gal}:x∈(w.take (t+1)).drop f↔∃ i,(f<=i/\i<=t)/\w[i]?= some x:=by
 constructor
 . intro h
   obtain ⟨i,hi⟩:=List.getElem?_of_mem h;rw [List.getElem?_drop] at hi;have h2:=(List.getElem?_eq_some_iff.1 hi).1;rw [List.length_take] at h2;rw [List.getElem?_take_of_lt (by omega)] at hi;exact ⟨f+i,by omega,hi⟩
 . rintro ⟨i,hi,hx⟩
   refine List.mem_of_getElem? (i:=i - f) ?_;rw [List.getElem?_drop,show f+(i - f)=i by omega,List.getElem?_take_of_lt (by omega)];exact hx
theorem Yb {w:List Gal} (hw:OkW w) (h:Int × Int):0<=rO w h/\rO w h<=500:=by
 refine ⟨ex.1,Mx.2 ⟨by omega,fun x hx=>?_⟩⟩;obtain ⟨i,_,hx⟩:=ey.1 hx;exact (hw.g x (List.mem_of_getElem? hx)).2
def PkB (w:List Gal) (pk:Gal->Int × Int):Prop:=∀ x∈w, -1000<=(pk x).1/\(pk x).1<=(pk x).2/\(pk x).2<=1000
theorem sA {w:List Gal} (hw:OkW w) {pk:Gal->Int × Int} (hp:PkB w pk) (h2:2<=w.length):Ck (Dd pk w)=true:=by
 unfold Ck;have hl:=hw.len;simp only [Bool.and_eq_true,decide_eq_true_eq,IH];refine ⟨⟨by omega,by omega⟩,?_⟩;unfold DV;rw [List.all_eq_true];intro i hi;have hi':i < w.length:=by simpa using hi
 obtain ⟨x,hx⟩:=gE hi';have hxm:=List.mem_of_getElem? hx;have b1:=hp x hxm;have b2:=hw.at' x hxm;have kx:(Dd pk w)[i]?= some (x.h,pk x):=by rw [EG,hx];rfl
 have ok:okK (x.h,pk x)=true:=by
   rw [FE];simp only;omega
 cases i with
 | zero=>rw [HZ kx,ok]
 | succ i=>
   obtain ⟨y,hy⟩:∃ y,w[i]?= some y:=⟨_,List.getElem?_eq_getElem (by omega)⟩
   have ky:(Dd pk w)[i]?= some (y.h,pk y):=by rw [EG,hy];rfl
   have:=hw.step i y x hy hx;rw [FF kx ky,ok];simp;omega
theorem Yc {w:List Gal} (hw:OkW w) (z:Int): -500<=EA w z/\EA w z<=9000:=by
 have hl:=hw.len;obtain ⟨x,hx⟩:∃ x,w[0]?= some x:=⟨_,List.getElem?_eq_getElem (by omega)⟩
 obtain ⟨y,hy⟩:∃ y,w[w.length - 1]?= some y:=⟨_,List.getElem?_eq_getElem (by omega)⟩
 have b1:=hw.at' x (List.mem_of_getElem? hx);have b2:=hw.at' y (List.mem_of_getElem? hy);unfold EA;rw [hx,hy];simp only;omega
theorem sC {w:List Gal} (hw:OkW w):∀ (j i:Nat) (x y:Gal),w[i]?= some x->w[i+j]?= some y->x.h<=y.h
 | 0,i,x,y,hx,hy=>by rw [Nat.add_zero,hx] at hy;cases hy;omega
 | j+1,i,x,y,hx,hy=>by
   have hl:=(List.getElem?_eq_some_iff.1 hy).1;obtain ⟨z,hz⟩:∃ z,w[i+j]?= some z:=⟨_,List.getElem?_eq_getElem (by omega)⟩
   have:=sC hw j i x z hx hz;have:=hw.step (i+j) z y hz hy;omega
theorem My {w:List Gal} (hw:OkW w) {pk:Gal->Int × Int} (z:Int):inR (Dd pk w) (EA w z):=by
 have hl:=hw.len;obtain ⟨x,hx⟩:∃ x,w[0]?= some x:=⟨_,List.getElem?_eq_getElem (by omega)⟩
 obtain ⟨y,hy⟩:∃ y,w[w.length - 1]?= some y:=⟨_,List.getElem?_eq_getElem (by omega)⟩
 have hm:=sC hw (w.length - 1) 0 x y hx (by rw [Nat.zero_add];exact hy);unfold EA;rw [hx,hy];simp only;refine ⟨fun k hk=>?_,fun k hk=>?_⟩
 . rw [EG,hx] at hk;cases hk;simp only;omega
 . rw [EG,IH,hy] at hk;cases hk;simp only;omega
theorem Yd {w:List Gal} {y z:Int} (h:y<=z):EA w y<=EA w z:=by
 unfold EA;split
 . omega
 . exact h
theorem kP {w:List Gal} (hw:OkW w) {pk:Gal->Int × Int} (hp:PkB w pk) (h2:2<=w.length) {h:Int × Int} (hh:h.1<=h.2):Fg pk w h=Fk (Dd pk w) (EA w h.1,EA w h.2) (Dd pk w).length:=by
 have e:Fg pk w h=(Jy (Dd pk w) (EA w h.1,EA w h.2)).1:=by
   match w,h2 with
   | a::b::r,_=>rfl
 obtain ⟨x,hx⟩:∃ x,w[0]?= some x:=⟨_,List.getElem?_eq_getElem (by omega)⟩
 obtain ⟨y,hy⟩:∃ y,w[w.length - 1]?= some y:=⟨_,List.getElem?_eq_getElem (by omega)⟩
 have kx:(Dd pk w)[0]?= some (x.h,pk x):=by rw [EG,hx];rfl
 have ky:(Dd pk w)[(Dd pk w).length - 1]?= some (y.h,pk y):=by rw [EG,IH,hy];rfl
 have c1:=Yc hw h.1;have c2:=Yc hw h.2;have c3:=Yd (w:=w) hh;have i1:=(My hw (pk:=pk) h.1).1 _ kx;have i2:=(My hw (pk:=pk) h.2).2 _ ky;rw [e];unfold Jy;rw [if_pos (sA hw hp h2),if_pos (CT.2 (by simp only;omega)),kx,ky];simp only at i1 i2 ⊢;rw [if_neg (by omega)]
theorem Mz {w:List Gal} (hw:OkW w) {pk:Gal->Int × Int} (hp:PkB w pk) {h:Int × Int} (hh:h.1<=h.2): -1000<=(Fg pk w h).1/\(Fg pk w h).1<=(Fg pk w h).2/\(Fg pk w h).2<=1000:=by
 have hl:=hw.len;by_cases h2:2<=w.length
 . rw [kP hw hp h2 hh]
   have hk:∀ k∈Dd pk w, -1000<=k.2.1/\k.2.1<=k.2.2/\k.2.2<=1000:=fun k hk=>by
     unfold Dd at hk;obtain ⟨x,hx,rfl⟩:=List.mem_map.1 hk;exact hp x hx
   have n1:=Sn (sA hw hp h2) (My hw h.1) hk;have n2:=Sn (sA hw hp h2) (My hw h.2) hk;exact QE (l:=Dd pk w) (x:=(EA w h.1,EA w h.2)) n1 n2 hk _ (Nat.le_refl _)
 . obtain ⟨x,rfl⟩:∃ x,w=[x]:=List.length_eq_one_iff.1 (by omega)
   exact hp x (by simp)
theorem kQ {w:List Gal} (hw:OkW w) {h:Int × Int} (hh:h.1<=h.2):(-1500<=(Jr w h).1/\(Jr w h).1<=(Jr w h).2/\(Jr w h).2<=1500)/\ -1500<=(Js w h).1/\(Js w h).1<=(Js w h).2/\(Js w h).2<=1500:=by
 have g:=Yb hw h;have x:=Mz hw (pk:=HG) (fun x hx=>hw.x x hx) hh;have y:=Mz hw (pk:=EY) (fun x hx=>hw.y x hx) hh;unfold Jr Js;simp only;omega
theorem fV {lo hi n:Int}:rgB lo hi [n]=(decide (lo<=n)&&decide (n<=hi)):=by simp [rgB]
theorem rU {lo hi a b:Int}:rgB lo hi [a,b]=(rgB lo hi [a]&&rgB lo hi [b]):=by simp [rgB]
theorem si (n lo hi:Int):Ct prog 207 [vi n,vi lo,vi hi] (vb (rgB lo hi [n])) []:=by
 rw [fV];by_cases h:lo<=n
 . refine CB func207 zu fun E hE=>?_
   simp [p207,h];apply RZ;simp [results207]
 . refine CB func207 zu fun E hE=>?_
   simp [p207,h];apply RZ;simp [results207]
theorem Xd (n lo hi:Int):Ct prog 209 [vi n,vi lo,vi hi] (vb (rgB lo hi [n])) []:=by
 rw [fV];by_cases h:lo<=n
 . refine CB func209 zw fun E hE=>?_
   simp [p209,h];apply RZ;simp [results209]
 . refine CB func209 zw fun E hE=>?_
   simp [p209,h];apply RZ;simp [results209]
theorem it (n lo hi:Int):Ct prog 137 [vi n,vi lo,vi hi] (vb (rgB lo hi [n])) []:=by
 rw [fV];by_cases h:lo<=n
 . refine CB func137 qR fun E hE=>?_
   simp [p137,h];apply RZ;simp [results137]
 . refine CB func137 qR fun E hE=>?_
   simp [p137,h];apply RZ;simp [results137]
theorem wJ (a b lo hi:Int):Ct prog 288 [vsp a b,vi lo,vi hi] (vb (spB lo hi a b)) []:=by
 have e:spB lo hi a b=(decide (lo<=a)&&decide (a<=b)&&decide (b<=hi)):=by
   rw [Bool.eq_iff_iff,CC];simp;omega
 rw [e];by_cases h:lo<=a
 . by_cases h2:a<=b
   . refine CB func288 yu fun E hE=>?_
     simp [p288,h,h2];apply RZ;simp [results288]
   . refine CB func288 yu fun E hE=>?_
     simp [p288,h,h2];apply RZ;simp [results288]
 . refine CB func288 yu fun E hE=>?_
   simp [p288,h];apply RZ;simp [results288]
theorem zS (a b:Int):Ct prog 291 [vsp a b] (vb (spB 1500 3500 a b)) []:=by
 refine CB func291 c291 fun E hE=>?_
 simp [p291];refine CLa (wJ a b 1500 3500) ?_;simp;apply RZ;simp [results291]
theorem zT (a b:Int):Ct prog 263 [vsp a b] (vb (spB (-300) 300 a b)) []:=by
 refine CB func263 c263 fun E hE=>?_
 simp [p263];refine CLa (wJ a b (-300) 300) ?_;simp;apply RZ;simp [results263]
theorem zU (a:Atm):Ct prog 268 [Ox a] (vb (L3 a)) []:=by
 have c1:=wJ a.pl a.ph 1000 12000;have c2:=zS a.tl a.th;unfold L3
 generalize spB 1000 12000 a.pl a.ph=b1 at*
 generalize spB 1500 3500 a.tl a.th=b2 at*
 cases b1<;>(
   refine CB func268 c268 fun E hE=>?_
   simp [p268]
   repeat ((first | (refine CLt c1 ?_ ?_;focus (simp;done)) | (refine CLt c2 ?_ ?_;focus (simp;done)));simp)
   apply RZ;simp [results268])
theorem zV (a:Atm):Ct prog 216 [Ox a] (vi (if L3 a then 0 else 30)) []:=by
 have c1:=zU a
 cases h:L3 a<;>(
   rw [h] at c1;refine CB func216 c216 fun E hE=>?_
   simp [p216]
   repeat ((first | (refine CLt c1 ?_ ?_;focus (simp;done)));simp)
   apply RZ;simp [results216])
theorem yH (c:Cel):Ct prog 211 [Ky c] (vb (Je c)) []:=by
 have c1:=Xd c.rm 1 10000000;have c2:=Xd c.he 0 10000000;have c3:=Xd c.ai 0 10000000;have c4:=zT c.wl c.wh;have c5:=Xd c.lk 0 100000;have c6:=Xd c.ow 0 999999;have e:Je c=(rgB 1 10000000 [c.rm]&&(rgB 0 10000000 [c.he]&&rgB 0 10000000 [c.ai])&&rgB 0 100000 [c.lk]&&rgB 0 999999 [c.ow]&&spB (-300) 300 c.wl c.wh):=by unfold Je;rw [rU]
 rw [e]
 generalize rgB 1 10000000 [c.rm]=b1 at*
 generalize rgB 0 10000000 [c.he]=b2 at*
 generalize rgB 0 10000000 [c.ai]=b3 at*
 generalize rgB 0 100000 [c.lk]=b4 at*
 generalize rgB 0 999999 [c.ow]=b5 at*
 generalize spB (-300) 300 c.wl c.wh=b6 at*
 cases b1
 . refine CB func211 vX fun E hE=>?_
   simp [p211]
   repeat ((first | (refine CLt c1 ?_ ?_;focus (simp;done)) | (refine CLt c2 ?_ ?_;focus (simp;done)) | (refine CLt c3 ?_ ?_;focus (simp;done)) | (refine CLt c4 ?_ ?_;focus (simp;done)) | (refine CLt c5 ?_ ?_;focus (simp;done)) | (refine CLt c6 ?_ ?_;focus (simp;done)));simp)
   apply RZ;simp [results211]
 cases b2
 . refine CB func211 vX fun E hE=>?_
   simp [p211]
   repeat ((first | (refine CLt c1 ?_ ?_;focus (simp;done)) | (refine CLt c2 ?_ ?_;focus (simp;done)) | (refine CLt c3 ?_ ?_;focus (simp;done)) | (refine CLt c4 ?_ ?_;focus (simp;done)) | (refine CLt c5 ?_ ?_;focus (simp;done)) | (refine CLt c6 ?_ ?_;focus (simp;done)));simp)
   apply RZ;simp [results211]
 cases b3
 . refine CB func211 vX fun E hE=>?_
   simp [p211]
   repeat ((first | (refine CLt c1 ?_ ?_;focus (simp;done)) | (refine CLt c2 ?_ ?_;focus (simp;done)) | (refine CLt c3 ?_ ?_;focus (simp;done)) | (refine CLt c4 ?_ ?_;focus (simp;done)) | (refine CLt c5 ?_ ?_;focus (simp;done)) | (refine CLt c6 ?_ ?_;focus (simp;done)));simp)
   apply RZ;simp [results211]
 cases b6
 . refine CB func211 vX fun E hE=>?_
   simp [p211]
   repeat ((first | (refine CLt c1 ?_ ?_;focus (simp;done)) | (refine CLt c2 ?_ ?_;focus (simp;done)) | (refine CLt c3 ?_ ?_;focus (simp;done)) | (refine CLt c4 ?_ ?_;focus (simp;done)) | (refine CLt c5 ?_ ?_;focus (simp;done)) | (refine CLt c6 ?_ ?_;focus (simp;done)));simp)
   apply RZ;simp [results211]
 cases b4
 . refine CB func211 vX fun E hE=>?_
   simp [p211]
   repeat ((first | (refine CLt c1 ?_ ?_;focus (simp;done)) | (refine CLt c2 ?_ ?_;focus (simp;done)) | (refine CLt c3 ?_ ?_;focus (simp;done)) | (refine CLt c4 ?_ ?_;focus (simp;done)) | (refine CLt c5 ?_ ?_;focus (simp;done)) | (refine CLt c6 ?_ ?_;focus (simp;done)));simp)
   apply RZ;simp [results211]
 . refine CB func211 vX fun E hE=>?_
   simp [p211]
   repeat ((first | (refine CLt c1 ?_ ?_;focus (simp;done)) | (refine CLt c2 ?_ ?_;focus (simp;done)) | (refine CLt c3 ?_ ?_;focus (simp;done)) | (refine CLt c4 ?_ ?_;focus (simp;done)) | (refine CLt c5 ?_ ?_;focus (simp;done)) | (refine CLt c6 ?_ ?_;focus (simp;done)));simp)
   apply RZ;simp [results211]
def xW (c:Cel) (a:Atm):Int:=if Je c then (if L3 a then 0 else 30) else 31
theorem yI (c:Cel) (a:Atm):Ct prog 145 [Ky c,Ox a] (vi (xW c a)) []:=by
 have c1:=yH c;have c2:=zV a;unfold xW
 cases h:Je c<;>(
   rw [h] at c1;refine CB func145 c145 fun E hE=>?_
   simp [p145]
   repeat ((first | (refine CLt c1 ?_ ?_;focus (simp;done)) | (refine CLt c2 ?_ ?_;focus (simp;done)));simp)
   apply RZ;simp [results145])
theorem wK {c:Cel} {a:Atm} (hc:B5 c) (ha:Fx a):xW c a=0:=by
 unfold xW;rw [Dm.2 hc,VN.2 ha];rfl
theorem zW (a b c d:Int) (h1:IntKind.wrap .i64 (a+c)=a+c) (h2:IntKind.wrap .i64 (b+d)=b+d):Ct prog 146 [vsp a b,vsp c d] (vsp (a+c) (b+d)) []:=by
 refine CB func146 c146 fun E hE=>?_
 simp [p146,AA,h1,h2];apply RZ;simp [results146]
theorem rV (c:Cel) (hc:B5 c):Ct prog 147 [Ky c] (vi (am c)) []:=by
 have h1:=ig hc;have w:IntKind.wrap .i64 (c.he+c.ai)=c.he+c.ai:=AD (by unfold am at h1;omega) (by unfold am at h1;omega);refine CB func147 c147 fun E hE=>?_
 simp [p147,w];apply RZ;simp [results147,am]
theorem wL (a b:Int) (ha: -3000000000000000000<=a/\a<=3000000000000000000) (hb:0 < b/\b<=100000):Ct prog 148 [vi a,vi b] (vi (fl a b)) []:=by
 have hz:¬ b=0:=by omega
 have hq:=fu (b:=b) (a:=a) (by omega);have e:=ABy (a:=a) hb.1;have em:=Int.tmod_add_mul_tdiv a b;have mc:b*a.tdiv b=a.tdiv b*b:=Int.mul_comm _ _;have mlt:=Int.tmod_lt_of_pos a hb.1;have mgt:=Int.lt_tmod_of_pos a hb.1;have w1:IntKind.wrap .i64 (a.tdiv b)=a.tdiv b:=AD (by omega) (by omega);have w2:IntKind.wrap .i64 (a.tdiv b - 1)=a.tdiv b - 1:=AD (by omega) (by omega);have w3:IntKind.wrap .i64 (a.tdiv b*b)=a.tdiv b*b:=AD (by omega) (by omega);by_cases h:a < a.tdiv b*b
 . have:a < 0/\a.tmod b≠0:=by
     refine ⟨Int.not_le.1 fun h0=>?_,by omega⟩;have:=Int.tmod_nonneg b h0;omega
   rw [if_pos this] at e;refine CB func148 zr fun E hE=>?_
   simp [p148,hz,w1,w2,w3,h];apply RZ;simp [results148,e]
 . have:¬ (a < 0/\a.tmod b≠0):=fun ⟨h0,h1⟩=>by
     have:a.tmod b<=0:=by
       have:=Int.tmod_nonneg b (a:= -a) (by omega);rw [Int.neg_tmod] at this;omega
     omega
   rw [if_neg this] at e;refine CB func148 zr fun E hE=>?_
   simp [p148,hz,w1,w3,h];apply RZ;simp [results148,e]
theorem yJ (a b:Int) (ha: -3000000000000000000<=a/\a<=3000000000000000000) (hb:0 < b/\b<=100000):Ct prog 215 [vi a,vi b] (vi (ce a b)) []:=by
 have w1:IntKind.wrap .i64 (-a)= -a:=AD (by omega) (by omega);have hf:=pm (a:= -a) (b:=b) (by omega) hb.1;have w2:IntKind.wrap .i64 (-fl (-a) b)= -fl (-a) b:=AD (by omega) (by omega);refine CB func215 c215 fun E hE=>?_
 simp [p215,w1];refine CLa (wL (-a) b (by omega) hb) ?_;simp [w2];apply RZ;simp [results215,ce,fl]
theorem zZ (c:Cel) (a:Atm) (hc:B5 c) (ha:Fx a):Ct prog 217 [Ky c,Ox a] (vu8 (Lh c a)) []:=by
 have b:=mO hc ha;have h1:=ig hc;have h2:=hc.w;have h3:=ha.t;have w3:IntKind.wrap .i64 (c.rm*a.pl)=c.rm*a.pl:=AD (by omega) (by omega);have w4:IntKind.wrap .i64 (c.rm*a.ph)=c.rm*a.ph:=AD (by omega) (by omega);have w5:IntKind.wrap .i64 (am c*(a.th+c.wh))=am c*(a.th+c.wh):=AD (by omega) (by omega);have w6:IntKind.wrap .i64 (am c*(a.tl+c.wl))=am c*(a.tl+c.wl):=AD (by omega) (by omega);have d1:=zW a.tl a.th c.wl c.wh (AD (by omega) (by omega)) (AD (by omega) (by omega));have d2:=rV c hc;by_cases h5:am c*(a.th+c.wh)<=c.rm*a.pl
 . have e:Lh c a=1:=by unfold Lh;rw [if_pos h5]
   rw [e];refine CB func217 yp fun E hE=>?_
   simp [p217];refine CLa d1 ?_;simp [AA,inC,Nat.testBit];refine CLa d2 ?_;simp [inC,Nat.testBit,w3,w5,h5];apply RZ;simp [results217]
 . by_cases h6:c.rm*a.ph < am c*(a.tl+c.wl)
   . have e:Lh c a=3:=by unfold Lh;rw [if_neg h5,if_pos h6]
     rw [e];refine CB func217 yp fun E hE=>?_
     simp [p217];refine CLa d1 ?_;simp [AA,inC,Nat.testBit];refine CLa d2 ?_;simp [inC,Nat.testBit,w3,w4,w5,h5];refine CLa d2 ?_;simp [inC,Nat.testBit,w4,w6,h6];apply RZ;simp [results217]
   . have e:Lh c a=2:=by unfold Lh;rw [if_neg h5,if_neg h6]
     rw [e];refine CB func217 yp fun E hE=>?_
     simp [p217];refine CLa d1 ?_;simp [AA,inC,Nat.testBit];refine CLa d2 ?_;simp [inC,Nat.testBit,w3,w4,w5,h5];refine CLa d2 ?_;simp [inC,Nat.testBit,w4,w6,h6];apply RZ;simp [results217]
theorem za (c:Cel) (a:Atm) (hc:B5 c) (ha:Fx a):Ct prog 149 [Ky c,Ox a] (.tup [vu8 (Lh c a),vi 0]) []:=by
 have c1:=yI c a;rw [wK hc ha] at c1;have c2:=zZ c a hc ha;refine CB func149 c149 fun E hE=>?_
 simp [p149];refine CLa c1 ?_;simp;refine CLa c2 ?_;simp;apply RZ;simp [results149]
theorem zb (c:Cel) (a:Atm) (hc:B5 c) (ha:Fx a):Ct prog 143 [Ky c,Ox a] (.tup [vsp (Bx c a).1 (Bx c a).2,vi 0]) []:=by
 have c1:=yI c a;rw [wK hc ha] at c1;have t:=ha.t;have wb:=hc.w;have he:=hc.he;have k1:=KP hc (w:=c.wl) (by omega);have k2:=KP hc (w:=c.wh) (by omega);have d2:=rV c hc;have w1:IntKind.wrap .i64 (29*am c)=29*am c:=AD (by omega) (by omega);have w2:IntKind.wrap .i64 (29*am c*c.wl)=29*am c*c.wl:=AD (by omega) (by omega);have w3:IntKind.wrap .i64 (29*am c*c.wh)=29*am c*c.wh:=AD (by omega) (by omega);have d3:=wL (29*am c*c.wl) a.tl (by omega) (by omega);have d4:=wL (29*am c*c.wl) a.th (by omega) (by omega);have d5:=yJ (29*am c*c.wh) a.tl (by omega) (by omega);have d6:=yJ (29*am c*c.wh) a.th (by omega) (by omega);have lb:=TE hc ha;have e:Bx c a=(25*c.he+min (fl (29*am c*c.wl) a.tl) (fl (29*am c*c.wl) a.th),25*c.he+max (ce (29*am c*c.wh) a.tl) (ce (29*am c*c.wh) a.th)):=by unfold Bx;rw [Int.add_comm,Int.add_comm (max _ _)]
 rw [e] at lb;rw [e];have w4:IntKind.wrap .i64 (25*c.he)=25*c.he:=AD (by omega) (by omega);have w5:IntKind.wrap .i64 (25*c.he+min (fl (29*am c*c.wl) a.tl) (fl (29*am c*c.wl) a.th))=25*c.he+min (fl (29*am c*c.wl) a.tl) (fl (29*am c*c.wl) a.th):=AD (by omega) (by omega);have w6:IntKind.wrap .i64 (25*c.he+max (ce (29*am c*c.wh) a.tl) (ce (29*am c*c.wh) a.th))=25*c.he+max (ce (29*am c*c.wh) a.tl) (ce (29*am c*c.wh) a.th):=AD (by omega) (by omega);refine CB func143 c143 fun E hE=>?_
 simp [p143];refine CLa c1 ?_;simp [inC,Nat.testBit];refine CLa d2 ?_;simp [inC,Nat.testBit,w1,w2];refine CLa d3 ?_;simp [inC,Nat.testBit];refine CLa d2 ?_;simp [inC,Nat.testBit,w1,w2];refine CLa d4 ?_;simp [inC,Nat.testBit];refine CLa d2 ?_;simp [inC,Nat.testBit,w1,w3];refine CLa d5 ?_;simp [inC,Nat.testBit];refine CLa d2 ?_;simp [inC,Nat.testBit,w1,w3];refine CLa d6 ?_;simp [AA,w4,w5,w6];apply RZ;simp [results143]
theorem ro (p:Int × Int):Ct prog 210 [vsp p.1 p.2] (vb (bkB p)) []:=by
 have c1:=Xd p.1 0 1000000000000;have c2:=Xd p.2 0 1000000000000;have e:bkB p=(rgB 0 1000000000000 [p.1]&&rgB 0 1000000000000 [p.2]):=rU;rw [e]
 generalize rgB 0 1000000000000 [p.1]=b1 at*
 generalize rgB 0 1000000000000 [p.2]=b2 at*
 cases b1<;>(
   refine CB func210 c210 fun E hE=>?_
   simp [p210]
   repeat ((first | (refine CLt c1 ?_ ?_;focus (simp;done)) | (refine CLt c2 ?_ ?_;focus (simp;done)));simp)
   apply RZ;simp [results210])
theorem vY (p:Plt) (hl:p.cs.length<=1000000) (h:IR p=false):Ct prog 138 [Cy p (.d (AX p.cs))] (vb false) []:=by
 have c1:=Xd p.bt 0 10000000;have c2:=ro (p.ih,p.ia);have c3:=ro (p.vh,p.va);have c4:=ro (p.lh,p.la);have c5:=ro (p.ph,p.pa)
 have e:IR p=(decide (p.cs.length<=12)&&rgB 0 10000000 [p.bt]&&(bkB (p.ih,p.ia)&&(bkB (p.vh,p.va)&&(bkB (p.lh,p.la)&&bkB (p.ph,p.pa))))):=by
   unfold IR Li;simp [Bool.and_assoc]
 rw [e] at h;by_cases hn:p.cs.length<=12
 case neg=>
   have hI:(12:Int) < p.cs.length:=by omega
   refine CB func138 uc fun E hE=>?_
   simp [p138,hI];apply RZ;simp [results138]
 have hI:¬ (12:Int) < p.cs.length:=by omega
 have hI2:(p.cs.length:Int)<=12:=by omega
 rw [decide_eq_true hn] at h
 generalize rgB 0 10000000 [p.bt]=b1 at*
 generalize bkB (p.ih,p.ia)=b2 at*
 generalize bkB (p.vh,p.va)=b3 at*
 generalize bkB (p.lh,p.la)=b4 at*
 generalize bkB (p.ph,p.pa)=b5 at*
 cases b1
 . refine CB func138 uc fun E hE=>?_
   simp [p138,hI]
   repeat ((first | (refine CLt c1 ?_ ?_;focus (simp;done)) | (refine CLt c2 ?_ ?_;focus (simp;done)) | (refine CLt c3 ?_ ?_;focus (simp;done)) | (refine CLt c4 ?_ ?_;focus (simp;done)) | (refine CLt c5 ?_ ?_;focus (simp;done)));simp)
   apply RZ;simp [results138]
 cases b2
 . refine CB func138 uc fun E hE=>?_
   simp [p138,hI]
   repeat ((first | (refine CLt c1 ?_ ?_;focus (simp;done)) | (refine CLt c2 ?_ ?_;focus (simp;done)) | (refine CLt c3 ?_ ?_;focus (simp;done)) | (refine CLt c4 ?_ ?_;focus (simp;done)) | (refine CLt c5 ?_ ?_;focus (simp;done)));simp)
   apply RZ;simp [results138]
 cases b3
 . refine CB func138 uc fun E hE=>?_
   simp [p138,hI]
   repeat ((first | (refine CLt c1 ?_ ?_;focus (simp;done)) | (refine CLt c2 ?_ ?_;focus (simp;done)) | (refine CLt c3 ?_ ?_;focus (simp;done)) | (refine CLt c4 ?_ ?_;focus (simp;done)) | (refine CLt c5 ?_ ?_;focus (simp;done)));simp)
   apply RZ;simp [results138]
 cases b4
 . refine CB func138 uc fun E hE=>?_
   simp [p138,hI]
   repeat ((first | (refine CLt c1 ?_ ?_;focus (simp;done)) | (refine CLt c2 ?_ ?_;focus (simp;done)) | (refine CLt c3 ?_ ?_;focus (simp;done)) | (refine CLt c4 ?_ ?_;focus (simp;done)) | (refine CLt c5 ?_ ?_;focus (simp;done)));simp)
   apply RZ;simp [results138]
 cases b5
 . refine CB func138 uc fun E hE=>?_
   simp [p138,hI]
   repeat ((first | (refine CLt c1 ?_ ?_;focus (simp;done)) | (refine CLt c2 ?_ ?_;focus (simp;done)) | (refine CLt c3 ?_ ?_;focus (simp;done)) | (refine CLt c4 ?_ ?_;focus (simp;done)) | (refine CLt c5 ?_ ?_;focus (simp;done)));simp)
   apply RZ;simp [results138]
 . simp at h
theorem uf (p:Plt) (hb:IR p=true):Ct prog 138 [Cy p (.d (AX p.cs))] (vb (Ar p)) []:=by
 have c1:=Xd p.bt 0 10000000;have c2:=ro (p.ih,p.ia);have c3:=ro (p.vh,p.va);have c4:=ro (p.lh,p.la);have c5:=ro (p.ph,p.pa);have hbk:=K9 (p:=p) (by unfold IR at hb;simp at hb;simpa using hb.2);have hbt:0<=p.bt/\p.bt<=10000000:=by unfold IR at hb;simp [rgB] at hb;omega
 have hn:p.cs.length<=12:=by unfold IR at hb;simp at hb;exact hb.1.1
 have e:IR p=(decide (p.cs.length<=12)&&rgB 0 10000000 [p.bt]&&(bkB (p.ih,p.ia)&&(bkB (p.vh,p.va)&&(bkB (p.lh,p.la)&&bkB (p.ph,p.pa))))):=by
   unfold IR Li;simp [Bool.and_assoc]
 rw [hb] at e;have hI:¬ (12:Int) < p.cs.length:=by omega
 have hI2:(p.cs.length:Int)<=12:=by omega
 rw [decide_eq_true hn] at e;have e':=e.symm;simp only [Bool.true_and,Bool.and_eq_true] at e';rw [e'.1] at c1;rw [e'.2.1] at c2;rw [e'.2.2.1] at c3;rw [e'.2.2.2.1] at c4;rw [e'.2.2.2.2] at c5;have w1:IntKind.wrap .i64 (p.bt+p.vh)=p.bt+p.vh:=AD (by omega) (by omega);have w2:IntKind.wrap .i64 (p.bt+p.vh+p.lh)=p.bt+p.vh+p.lh:=AD (by omega) (by omega);have w3:IntKind.wrap .i64 (p.bt+p.vh+p.lh+p.ph)=p.bt+p.vh+p.lh+p.ph:=AD (by omega) (by omega);have w4:IntKind.wrap .i64 (p.va+p.la)=p.va+p.la:=AD (by omega) (by omega);have w5:IntKind.wrap .i64 (p.va+p.la+p.pa)=p.va+p.la+p.pa:=AD (by omega) (by omega);refine CB func138 uc fun E hE=>?_
 simp [p138,hI]
 repeat ((first | (refine CLt c1 ?_ ?_;focus (simp;done)) | (refine CLt c2 ?_ ?_;focus (simp;done)) | (refine CLt c3 ?_ ?_;focus (simp;done)) | (refine CLt c4 ?_ ?_;focus (simp;done)) | (refine CLt c5 ?_ ?_;focus (simp;done)));simp [w1,w2,w3,w4,w5])
 refine Al (α:=Nat) (fun i=>⟨AO [(1, .lp 0 0),(3,vi (p.bt+p.vh+p.lh+p.ph+heS (p.cs.take i))),(4,vi (p.va+p.la+p.pa+aiS (p.cs.take i))),(5,vi i)],lk [(0,[.d (AX p.cs),vi p.bt,vi p.ih,vi p.ia,vi p.vh,vi p.va,vi p.lh,vi p.la,vi p.ph,vi p.pa])],1⟩) (fun i=>i<=p.cs.length/\∀ c∈p.cs.take i,B5 c) (fun i=>p.cs.length - i) 0 ?_ ?_ ?_
 . simp
 . refine AI.mk hE (lk [(0,0)]) _ _ _ ?_ ?_ ?_ ?_ ?_<;>simp [heS,aiS]
 . rintro i ⟨hi,hcs⟩
   by_cases h:i < p.cs.length
   . obtain ⟨c,hc⟩:=gE h
     have hz:=@wz i (by omega);have hI:(i:Int) < p.cs.length:=by omega
     have d1:=yH c;cases hok:Je c
     . have hbad:Ar p=false:=by
         unfold Ar
         have:p.cs.all Je=false:=by
           rw [List.all_eq_false];exact ⟨c,List.mem_of_getElem? hc,by simp [hok]⟩
         simp [this]
       rw [hok] at d1;simp [sR,hI,hc];refine CLa d1 ?_;simp;apply RZ;simp [results138,hbad]
     . rw [hok] at d1
       have hcb:=Dm.1 hok;have hx:=hcb.he;have hy:=hcb.ai;have e1:=Yz hc;have e2:=tY hc;have b1:=Y1 hcs;have b2:=Y2 hcs;have hlen:((p.cs.take i).length:Int)<=12:=by simp;omega
       have v1:IntKind.wrap .i64 (p.bt+p.vh+p.lh+p.ph+heS (p.cs.take i)+c.he)=p.bt+p.vh+p.lh+p.ph+heS (p.cs.take i)+c.he:=AD (by omega) (by omega);have v2:IntKind.wrap .i64 (p.va+p.la+p.pa+aiS (p.cs.take i)+c.ai)=p.va+p.la+p.pa+aiS (p.cs.take i)+c.ai:=AD (by omega) (by omega);simp [sR,hI,hc];refine CLa d1 ?_;simp [hc,hz,v1,v2];refine ⟨i+1,⟨by omega,?_⟩,by omega,?_⟩
       . intro d hd
         rw [List.take_add_one,hc] at hd;simp only [List.mem_append,Option.toList_some,List.mem_singleton] at hd;rcases hd with hd | rfl
         . exact hcs d hd
         . exact hcb
       . rw [e1,e2,<-Int.add_assoc,<-Int.add_assoc]
         exact WK hE (lk [(0,0)])
   . have ei:i=p.cs.length:=by omega
     have hI:¬ (i:Int) < p.cs.length:=by omega
     rw [ei,List.take_length] at hcs
     have hall:p.cs.all Je=true:=by
       rw [List.all_eq_true];exact fun c hc=>Dm.2 (hcs c hc)
     have eo:Ar p=decide (p.bt+p.vh+p.lh+p.ph+heS p.cs=p.ih/\p.va+p.la+p.pa+aiS p.cs=p.ia):=by simp [Ar,hb,hall]
     rw [ei,List.take_length];by_cases hq:p.bt+p.vh+p.lh+p.ph+heS p.cs=p.ih
     . simp [sR,hq]
       apply RZ;simp [results138,eo,hq]
     . simp [sR,hq]
       apply RZ;simp [results138,eo,hq]
theorem S2 (p:Plt) (hl:p.cs.length<=1000000):Ct prog 138 [Cy p (.d (AX p.cs))] (vb (Ar p)) []:=by
 cases h:IR p
 . have e:Ar p=false:=by unfold Ar;rw [h];rfl
   rw [e];exact vY p hl h
 . exact uf p h
theorem se (a b lo hi:Int):Ct prog 208 [vsp a b,vi lo,vi hi] (vb (spB lo hi a b)) []:=by
 have e:spB lo hi a b=(decide (a<=b)&&decide (lo<=a)&&decide (b<=hi)):=by
   rw [Bool.eq_iff_iff,CC];simp;omega
 rw [e];by_cases h:a<=b
 . by_cases h2:lo<=a
   . refine CB func208 yo fun E hE=>?_
     simp [p208,h,h2];apply RZ;simp [results208]
   . refine CB func208 yo fun E hE=>?_
     simp [p208,h,h2];apply RZ;simp [results208]
 . refine CB func208 yo fun E hE=>?_
   simp [p208,h];apply RZ;simp [results208]
theorem S6 (a b lo hi:Int):Ct prog 136 [vsp a b,vi lo,vi hi] (vb (spB lo hi a b)) []:=by
 have e:spB lo hi a b=(decide (a<=b)&&decide (lo<=a)&&decide (b<=hi)):=by
   rw [Bool.eq_iff_iff,CC];simp;omega
 rw [e];by_cases h:a<=b
 . by_cases h2:lo<=a
   . refine CB func136 mA fun E hE=>?_
     simp [p136,h,h2];apply RZ;simp [results136]
   . refine CB func136 mA fun E hE=>?_
     simp [p136,h,h2];apply RZ;simp [results136]
 . refine CB func136 mA fun E hE=>?_
   simp [p136,h];apply RZ;simp [results136]
theorem fn72 (s:Shp) (hl:s.gas.cs.length<=1000000):Ct prog 72 [Cl s (.d (AX s.gas.cs))] (vb (A6 s)) []:=by
 have c1:=S6 s.xl s.xh (-10000000) 10000000;have c2:=S6 s.yl s.yh (-10000000) 10000000;have c3:=S6 s.hl s.hh (-500) 9000;have c4:=S6 s.fl s.fh 0 1000000000;have c5:=S6 s.wl s.wh 0 1000000000;have c6:=S6 s.bl s.bh 0 1000000000000;have c7:=it s.dry 0 1000000000;have c8:=it s.bal 0 1000000000;have c9:=it s.drp 0 1000000000000;have cA:=S2 s.gas hl;have e:A6 s=((spB (-10000000) 10000000 s.xl s.xh&&spB (-10000000) 10000000 s.yl s.yh)&&spB (-500) 9000 s.hl s.hh&&(spB 0 1000000000 s.fl s.fh&&spB 0 1000000000 s.wl s.wh)&&spB 0 1000000000000 s.bl s.bh&&(rgB 0 1000000000 [s.dry]&&rgB 0 1000000000 [s.bal])&&rgB 0 1000000000000 [s.drp]&&Ar s.gas):=by unfold A6;rw [rU]
 rw [e]
 generalize spB (-10000000) 10000000 s.xl s.xh=b1 at*
 generalize spB (-10000000) 10000000 s.yl s.yh=b2 at*
 generalize spB (-500) 9000 s.hl s.hh=b3 at*
 generalize spB 0 1000000000 s.fl s.fh=b4 at*
 generalize spB 0 1000000000 s.wl s.wh=b5 at*
 generalize spB 0 1000000000000 s.bl s.bh=b6 at*
 generalize rgB 0 1000000000 [s.dry]=b7 at*
 generalize rgB 0 1000000000 [s.bal]=b8 at*
 generalize rgB 0 1000000000000 [s.drp]=b9 at*
 generalize Ar s.gas=bA at*
 cases b1
 . refine CB func72 c72 fun E hE=>?_
   simp [p72]
   repeat ((first | (refine CLt c1 ?_ ?_;focus (simp;done)) | (refine CLt c2 ?_ ?_;focus (simp;done)) | (refine CLt c3 ?_ ?_;focus (simp;done)) | (refine CLt c4 ?_ ?_;focus (simp;done)) | (refine CLt c5 ?_ ?_;focus (simp;done)) | (refine CLt c6 ?_ ?_;focus (simp;done)) | (refine CLt c7 ?_ ?_;focus (simp;done)) | (refine CLt c8 ?_ ?_;focus (simp;done)) | (refine CLt c9 ?_ ?_;focus (simp;done)) | (refine CLt cA ?_ ?_;focus (simp;done)));simp)
   apply RZ;simp [results72]
 cases b2
 . refine CB func72 c72 fun E hE=>?_
   simp [p72]
   repeat ((first | (refine CLt c1 ?_ ?_;focus (simp;done)) | (refine CLt c2 ?_ ?_;focus (simp;done)) | (refine CLt c3 ?_ ?_;focus (simp;done)) | (refine CLt c4 ?_ ?_;focus (simp;done)) | (refine CLt c5 ?_ ?_;focus (simp;done)) | (refine CLt c6 ?_ ?_;focus (simp;done)) | (refine CLt c7 ?_ ?_;focus (simp;done)) | (refine CLt c8 ?_ ?_;focus (simp;done)) | (refine CLt c9 ?_ ?_;focus (simp;done)) | (refine CLt cA ?_ ?_;focus (simp;done)));simp)
   apply RZ;simp [results72]
 cases b3
 . refine CB func72 c72 fun E hE=>?_
   simp [p72]
   repeat ((first | (refine CLt c1 ?_ ?_;focus (simp;done)) | (refine CLt c2 ?_ ?_;focus (simp;done)) | (refine CLt c3 ?_ ?_;focus (simp;done)) | (refine CLt c4 ?_ ?_;focus (simp;done)) | (refine CLt c5 ?_ ?_;focus (simp;done)) | (refine CLt c6 ?_ ?_;focus (simp;done)) | (refine CLt c7 ?_ ?_;focus (simp;done)) | (refine CLt c8 ?_ ?_;focus (simp;done)) | (refine CLt c9 ?_ ?_;focus (simp;done)) | (refine CLt cA ?_ ?_;focus (simp;done)));simp)
   apply RZ;simp [results72]
 cases b4
 . refine CB func72 c72 fun E hE=>?_
   simp [p72]
   repeat ((first | (refine CLt c1 ?_ ?_;focus (simp;done)) | (refine CLt c2 ?_ ?_;focus (simp;done)) | (refine CLt c3 ?_ ?_;focus (simp;done)) | (refine CLt c4 ?_ ?_;focus (simp;done)) | (refine CLt c5 ?_ ?_;focus (simp;done)) | (refine CLt c6 ?_ ?_;focus (simp;done)) | (refine CLt c7 ?_ ?_;focus (simp;done)) | (refine CLt c8 ?_ ?_;focus (simp;done)) | (refine CLt c9 ?_ ?_;focus (simp;done)) | (refine CLt cA ?_ ?_;focus (simp;done)));simp)
   apply RZ;simp [results72]
 cases b5
 . refine CB func72 c72 fun E hE=>?_
   simp [p72]
   repeat ((first | (refine CLt c1 ?_ ?_;focus (simp;done)) | (refine CLt c2 ?_ ?_;focus (simp;done)) | (refine CLt c3 ?_ ?_;focus (simp;done)) | (refine CLt c4 ?_ ?_;focus (simp;done)) | (refine CLt c5 ?_ ?_;focus (simp;done)) | (refine CLt c6 ?_ ?_;focus (simp;done)) | (refine CLt c7 ?_ ?_;focus (simp;done)) | (refine CLt c8 ?_ ?_;focus (simp;done)) | (refine CLt c9 ?_ ?_;focus (simp;done)) | (refine CLt cA ?_ ?_;focus (simp;done)));simp)
   apply RZ;simp [results72]
 cases b6
 . refine CB func72 c72 fun E hE=>?_
   simp [p72]
   repeat ((first | (refine CLt c1 ?_ ?_;focus (simp;done)) | (refine CLt c2 ?_ ?_;focus (simp;done)) | (refine CLt c3 ?_ ?_;focus (simp;done)) | (refine CLt c4 ?_ ?_;focus (simp;done)) | (refine CLt c5 ?_ ?_;focus (simp;done)) | (refine CLt c6 ?_ ?_;focus (simp;done)) | (refine CLt c7 ?_ ?_;focus (simp;done)) | (refine CLt c8 ?_ ?_;focus (simp;done)) | (refine CLt c9 ?_ ?_;focus (simp;done)) | (refine CLt cA ?_ ?_;focus (simp;done)));simp)
   apply RZ;simp [results72]
 cases b7
 . refine CB func72 c72 fun E hE=>?_
   simp [p72]
   repeat ((first | (refine CLt c1 ?_ ?_;focus (simp;done)) | (refine CLt c2 ?_ ?_;focus (simp;done)) | (refine CLt c3 ?_ ?_;focus (simp;done)) | (refine CLt c4 ?_ ?_;focus (simp;done)) | (refine CLt c5 ?_ ?_;focus (simp;done)) | (refine CLt c6 ?_ ?_;focus (simp;done)) | (refine CLt c7 ?_ ?_;focus (simp;done)) | (refine CLt c8 ?_ ?_;focus (simp;done)) | (refine CLt c9 ?_ ?_;focus (simp;done)) | (refine CLt cA ?_ ?_;focus (simp;done)));simp)
   apply RZ;simp [results72]
 cases b8
 . refine CB func72 c72 fun E hE=>?_
   simp [p72]
   repeat ((first | (refine CLt c1 ?_ ?_;focus (simp;done)) | (refine CLt c2 ?_ ?_;focus (simp;done)) | (refine CLt c3 ?_ ?_;focus (simp;done)) | (refine CLt c4 ?_ ?_;focus (simp;done)) | (refine CLt c5 ?_ ?_;focus (simp;done)) | (refine CLt c6 ?_ ?_;focus (simp;done)) | (refine CLt c7 ?_ ?_;focus (simp;done)) | (refine CLt c8 ?_ ?_;focus (simp;done)) | (refine CLt c9 ?_ ?_;focus (simp;done)) | (refine CLt cA ?_ ?_;focus (simp;done)));simp)
   apply RZ;simp [results72]
 cases b9
 . refine CB func72 c72 fun E hE=>?_
   simp [p72]
   repeat ((first | (refine CLt c1 ?_ ?_;focus (simp;done)) | (refine CLt c2 ?_ ?_;focus (simp;done)) | (refine CLt c3 ?_ ?_;focus (simp;done)) | (refine CLt c4 ?_ ?_;focus (simp;done)) | (refine CLt c5 ?_ ?_;focus (simp;done)) | (refine CLt c6 ?_ ?_;focus (simp;done)) | (refine CLt c7 ?_ ?_;focus (simp;done)) | (refine CLt c8 ?_ ?_;focus (simp;done)) | (refine CLt c9 ?_ ?_;focus (simp;done)) | (refine CLt cA ?_ ?_;focus (simp;done)));simp)
   apply RZ;simp [results72]
 . refine CB func72 c72 fun E hE=>?_
   simp [p72]
   repeat ((first | (refine CLt c1 ?_ ?_;focus (simp;done)) | (refine CLt c2 ?_ ?_;focus (simp;done)) | (refine CLt c3 ?_ ?_;focus (simp;done)) | (refine CLt c4 ?_ ?_;focus (simp;done)) | (refine CLt c5 ?_ ?_;focus (simp;done)) | (refine CLt c6 ?_ ?_;focus (simp;done)) | (refine CLt c7 ?_ ?_;focus (simp;done)) | (refine CLt c8 ?_ ?_;focus (simp;done)) | (refine CLt c9 ?_ ?_;focus (simp;done)) | (refine CLt cA ?_ ?_;focus (simp;done)));simp)
   apply RZ;simp [results72]
theorem xz (a b:Int) (ha:0<=a/\a<=3000000000000000000) (hb:0 < b):Ct prog 264 [vi a,vi b] (vi (a / b)) []:=by
 have h0:¬ a < 0:=by omega
 have hz:¬ b=0:=by omega
 have t:=J5 (b:=b) ha.1;have d:=NJ ha hb;have w:IntKind.wrap .i64 (a / b)=a / b:=AD (by omega) (by omega);refine CB func264 yt fun E hE=>?_
 simp [p264,h0,hz,t,w];apply RZ;simp [results264]
theorem yX (a b:Int) (ha:0<=a/\a<=3000000000000000000) (hb:0 < b/\b<=1000000000000000000):Ct prog 264 [vi (-a),vi b] (vi (-cdv a b)) []:=by
 have hz:¬ b=0:=by omega
 by_cases h0:0 < a
 . have w0:IntKind.wrap .i64 a=a:=AD (by omega) (by omega)
   have w1:IntKind.wrap .i64 (a+b)=a+b:=AD (by omega) (by omega);have w2:IntKind.wrap .i64 (a+b - 1)=a+b - 1:=AD (by omega) (by omega);have t:=J5 (a:=a+b - 1) (b:=b) (by omega);have d:=NJ (a:=a+b - 1) (b:=b) (M:=4000000000000000000) (by omega) hb.1;have w3:IntKind.wrap .i64 ((a+b - 1) / b)=(a+b - 1) / b:=AD (by omega) (by omega);have w4:IntKind.wrap .i64 (-((a+b - 1) / b))= -((a+b - 1) / b):=AD (by omega) (by omega);refine CB func264 yt fun E hE=>?_
   simp [p264,h0,hz,w0,w1,w2,w3,w4,t];apply RZ;simp [results264,cdv]
 . have e:a=0:=by omega
   subst e;have ed:(b - 1) / b=0:=Int.ediv_eq_zero_of_lt (by omega) (by omega);refine CB func264 yt fun E hE=>?_
   simp [p264,hz];apply RZ;simp [results264,cdv,ed];decide
theorem yA (a b:Int) (ha:0<=a/\a<=3000000000000000000) (hb:0 < b/\b<=1000000000000000000):Ct prog 265 [vi a,vi b] (vi (cdv a b)) []:=by
 have c:=yX a b ha hb;have w0:IntKind.wrap .i64 (-a)= -a:=AD (by omega) (by omega);have d:=NJ (a:=a+b - 1) (b:=b) (M:=4000000000000000000) (by omega) hb.1;have w1:IntKind.wrap .i64 (cdv a b)=cdv a b:=AD (by unfold cdv;omega) (by unfold cdv;omega);refine CB func265 c265 fun E hE=>?_
 simp [p265,w0];refine CLa c ?_;simp [w1];apply RZ;simp [results265]
theorem wC (a b c d:Int):Ct prog 261 [vsp a b,vsp c d] (vsp (max a c) (min b d)) []:=by
 refine CB func261 c261 fun E hE=>?_
 simp [p261,AA];apply RZ;simp [results261]
theorem yB (x y c tl th:Int) (hx:0<=x/\x<=400000000) (hy:0<=y/\y<=400000000) (hc:0 < c/\c<=2000) (ht:1500<=tl/\tl<=th/\th<=3500):Ct prog 213 [vsp x y,vi c,vsp tl th] (vsp (CY (1000000*tl) (341632*c) x) (C9 (1000000*th) (341632*c) y)) []:=by
 obtain ⟨A,hA⟩:∃ A,1000000*tl=A:=⟨_,rfl⟩
 obtain ⟨B,hB⟩:∃ B,1000000*th=B:=⟨_,rfl⟩
 obtain ⟨S,hS⟩:∃ S,341632*c=S:=⟨_,rfl⟩
 have w1:IntKind.wrap .i64 S=S:=AD (by omega) (by omega);have w2:IntKind.wrap .i64 A=A:=AD (by omega) (by omega);have w3:IntKind.wrap .i64 B=B:=AD (by omega) (by omega);have w4:IntKind.wrap .i64 (A - S)=A - S:=AD (by omega) (by omega);have w10:IntKind.wrap .i64 (B+S)=B+S:=AD (by omega) (by omega);have m1:=J4 (x:=x) (y:=A - S) (X:=400000000) (Y:=5000000000) hx (by omega);have m2:=J4 (x:=y) (y:=B) (X:=400000000) (Y:=3500000000) hy (by omega);have w5:IntKind.wrap .i64 (x*(A - S))=x*(A - S):=AD (by omega) (by omega);have w6:IntKind.wrap .i64 (y*B)=y*B:=AD (by omega) (by omega);have c1:=xz (x*(A - S)) A (by omega) (by omega);have c2:=yA (y*B) (B+S) (by omega) (by omega);rw [hA,hB,hS];refine CB func213 c213 fun E hE=>?_
 simp [p213,inC,Nat.testBit,hA,hB,hS,w1,w2,w3,w4,w5,w6,w10];refine CLa c1 ?_;simp [inC,Nat.testBit,hS,w1,w6,w10];refine CLa c2 ?_;simp [AA];apply RZ;simp [results213,CY,C9]
theorem yC (x y c tl th:Int) (hx:0<=x/\x<=400000000) (hy:0<=y/\y<=400000000) (hc:0 < c/\c<=2000) (ht:1500<=tl/\tl<=th/\th<=3500):Ct prog 262 [vsp x y,vi c,vsp tl th] (vsp (Cz (1000000*th) (341632*c) x) (Ec (1000000*tl) (341632*c) y)) []:=by
 obtain ⟨A,hA⟩:∃ A,1000000*tl=A:=⟨_,rfl⟩
 obtain ⟨B,hB⟩:∃ B,1000000*th=B:=⟨_,rfl⟩
 obtain ⟨S,hS⟩:∃ S,341632*c=S:=⟨_,rfl⟩
 have w1:IntKind.wrap .i64 S=S:=AD (by omega) (by omega);have w2:IntKind.wrap .i64 A=A:=AD (by omega) (by omega);have w3:IntKind.wrap .i64 B=B:=AD (by omega) (by omega);have w4:IntKind.wrap .i64 (A - S)=A - S:=AD (by omega) (by omega);have w10:IntKind.wrap .i64 (B+S)=B+S:=AD (by omega) (by omega);have m1:=J4 (x:=x) (y:=B+S) (X:=400000000) (Y:=5000000000) hx (by omega);have m2:=J4 (x:=y) (y:=A) (X:=400000000) (Y:=3500000000) hy (by omega);have w5:IntKind.wrap .i64 (x*(B+S))=x*(B+S):=AD (by omega) (by omega);have w6:IntKind.wrap .i64 (y*A)=y*A:=AD (by omega) (by omega);have c1:=xz (x*(B+S)) B (by omega) (by omega);have c2:=yA (y*A) (A - S) (by omega) (by omega);rw [hA,hB,hS];refine CB func262 c262 fun E hE=>?_
 simp [p262,inC,Nat.testBit,hA,hB,hS,w1,w2,w3,w4,w5,w6,w10];refine CLa c1 ?_;simp [inC,Nat.testBit,hS,w1,w4,w6];refine CLa c2 ?_;simp [AA];apply RZ;simp [results262,Cz,Ec]
theorem fn93 (r:Rig) (hr:r.reg.length<=1000000000):Ct prog 93 [Fj r] (vb (CF r)) []:=by
 have c1:=yF r.reg hr;have c2:=S6 r.gl r.gh 0 120;have c3:=it r.tank 0 1000000000;have c4:=it r.rsv 0 1000000000;have c5:=it r.lo (-500) r.hi;have c6:=it r.hi (-500) 9000
 have e:CF r=(C7 r.reg&&spB 0 120 r.gl r.gh&&rgB 0 1000000000 [r.tank]&&rgB 0 1000000000 [r.rsv]&&rgB (-500) r.hi [r.lo]&&rgB (-500) 9000 [r.hi]):=by
   unfold CF;rw [rU]
   have:spB (-500) 9000 r.lo r.hi=(rgB (-500) r.hi [r.lo]&&rgB (-500) 9000 [r.hi]):=by
     rw [Bool.eq_iff_iff,CC];simp [rgB];omega
   rw [this];cases C7 r.reg<;>cases spB 0 120 r.gl r.gh<;>cases rgB 0 1000000000 [r.tank]<;>simp [Bool.and_assoc]
 rw [e]
 generalize C7 r.reg=b1 at*
 generalize spB 0 120 r.gl r.gh=b2 at*
 generalize rgB 0 1000000000 [r.tank]=b3 at*
 generalize rgB 0 1000000000 [r.rsv]=b4 at*
 generalize rgB (-500) r.hi [r.lo]=b5 at*
 generalize rgB (-500) 9000 [r.hi]=b6 at*
 cases b1
 . refine CB func93 c93 fun E hE=>?_
   simp [p93]
   repeat ((first | (refine CLt c1 ?_ ?_;focus (simp;done)) | (refine CLt c2 ?_ ?_;focus (simp;done)) | (refine CLt c3 ?_ ?_;focus (simp;done)) | (refine CLt c4 ?_ ?_;focus (simp;done)) | (refine CLt c5 ?_ ?_;focus (simp;done)) | (refine CLt c6 ?_ ?_;focus (simp;done)));simp)
   apply RZ;simp [results93]
 cases b2
 . refine CB func93 c93 fun E hE=>?_
   simp [p93]
   repeat ((first | (refine CLt c1 ?_ ?_;focus (simp;done)) | (refine CLt c2 ?_ ?_;focus (simp;done)) | (refine CLt c3 ?_ ?_;focus (simp;done)) | (refine CLt c4 ?_ ?_;focus (simp;done)) | (refine CLt c5 ?_ ?_;focus (simp;done)) | (refine CLt c6 ?_ ?_;focus (simp;done)));simp)
   apply RZ;simp [results93]
 cases b3
 . refine CB func93 c93 fun E hE=>?_
   simp [p93]
   repeat ((first | (refine CLt c1 ?_ ?_;focus (simp;done)) | (refine CLt c2 ?_ ?_;focus (simp;done)) | (refine CLt c3 ?_ ?_;focus (simp;done)) | (refine CLt c4 ?_ ?_;focus (simp;done)) | (refine CLt c5 ?_ ?_;focus (simp;done)) | (refine CLt c6 ?_ ?_;focus (simp;done)));simp)
   apply RZ;simp [results93]
 cases b4
 . refine CB func93 c93 fun E hE=>?_
   simp [p93]
   repeat ((first | (refine CLt c1 ?_ ?_;focus (simp;done)) | (refine CLt c2 ?_ ?_;focus (simp;done)) | (refine CLt c3 ?_ ?_;focus (simp;done)) | (refine CLt c4 ?_ ?_;focus (simp;done)) | (refine CLt c5 ?_ ?_;focus (simp;done)) | (refine CLt c6 ?_ ?_;focus (simp;done)));simp)
   apply RZ;simp [results93]
 cases b5
 . refine CB func93 c93 fun E hE=>?_
   simp [p93]
   repeat ((first | (refine CLt c1 ?_ ?_;focus (simp;done)) | (refine CLt c2 ?_ ?_;focus (simp;done)) | (refine CLt c3 ?_ ?_;focus (simp;done)) | (refine CLt c4 ?_ ?_;focus (simp;done)) | (refine CLt c5 ?_ ?_;focus (simp;done)) | (refine CLt c6 ?_ ?_;focus (simp;done)));simp)
   apply RZ;simp [results93]
 cases b6
 . refine CB func93 c93 fun E hE=>?_
   simp [p93]
   repeat ((first | (refine CLt c1 ?_ ?_;focus (simp;done)) | (refine CLt c2 ?_ ?_;focus (simp;done)) | (refine CLt c3 ?_ ?_;focus (simp;done)) | (refine CLt c4 ?_ ?_;focus (simp;done)) | (refine CLt c5 ?_ ?_;focus (simp;done)) | (refine CLt c6 ?_ ?_;focus (simp;done)));simp)
   apply RZ;simp [results93]
 . refine CB func93 c93 fun E hE=>?_
   simp [p93]
   repeat ((first | (refine CLt c1 ?_ ?_;focus (simp;done)) | (refine CLt c2 ?_ ?_;focus (simp;done)) | (refine CLt c3 ?_ ?_;focus (simp;done)) | (refine CLt c4 ?_ ?_;focus (simp;done)) | (refine CLt c5 ?_ ?_;focus (simp;done)) | (refine CLt c6 ?_ ?_;focus (simp;done)));simp)
   apply RZ;simp [results93]
theorem fn84 (r:Rig):Ct prog 84 [Fj r] (vb (decide (80 < r.reg.length))) []:=by
 have e:decide ((80:Int) < r.reg.length)=decide (80 < r.reg.length):=decide_eq_decide.2 (by omega);refine CB func84 c84 fun E hE=>?_
 simp [p84];apply RZ;simp [results84,e]
theorem fn95 (l:Leg) (hl:l.acts.length<=1000000000):Ct prog 95 [g7 l] (vb (BE l)) []:=by
 have c1:=it l.m 1 600;have c2:=S6 l.axl l.axh (-1000) 1000;have c3:=S6 l.ayl l.ayh (-1000) 1000;have c4:=S6 l.ul l.uh (-300) 300;have c5:=S6 l.bl l.bh 0 1000000;have c6:=it l.dr 0 1000000000;have e:BE l=(rgB 1 600 [l.m]&&(spB (-1000) 1000 l.axl l.axh&&spB (-1000) 1000 l.ayl l.ayh)&&spB (-300) 300 l.ul l.uh&&spB 0 1000000 l.bl l.bh&&rgB 0 1000000000 [l.dr]&&decide (l.acts.length<=12)&&l.acts.all Cb):=rfl;rw [e]
 generalize rgB 1 600 [l.m]=b1 at*
 generalize spB (-1000) 1000 l.axl l.axh=b2 at*
 generalize spB (-1000) 1000 l.ayl l.ayh=b3 at*
 generalize spB (-300) 300 l.ul l.uh=b4 at*
 generalize spB 0 1000000 l.bl l.bh=b5 at*
 generalize rgB 0 1000000000 [l.dr]=b6 at*
 cases b1
 . refine CB func95 c95 fun E hE=>?_
   simp [p95]
   repeat ((first | (refine CLt c1 ?_ ?_;focus (simp;done)) | (refine CLt c2 ?_ ?_;focus (simp;done)) | (refine CLt c3 ?_ ?_;focus (simp;done)) | (refine CLt c4 ?_ ?_;focus (simp;done)) | (refine CLt c5 ?_ ?_;focus (simp;done)) | (refine CLt c6 ?_ ?_;focus (simp;done)));simp)
   apply RZ;simp [results95]
 cases b2
 . refine CB func95 c95 fun E hE=>?_
   simp [p95]
   repeat ((first | (refine CLt c1 ?_ ?_;focus (simp;done)) | (refine CLt c2 ?_ ?_;focus (simp;done)) | (refine CLt c3 ?_ ?_;focus (simp;done)) | (refine CLt c4 ?_ ?_;focus (simp;done)) | (refine CLt c5 ?_ ?_;focus (simp;done)) | (refine CLt c6 ?_ ?_;focus (simp;done)));simp)
   apply RZ;simp [results95]
 cases b3
 . refine CB func95 c95 fun E hE=>?_
   simp [p95]
   repeat ((first | (refine CLt c1 ?_ ?_;focus (simp;done)) | (refine CLt c2 ?_ ?_;focus (simp;done)) | (refine CLt c3 ?_ ?_;focus (simp;done)) | (refine CLt c4 ?_ ?_;focus (simp;done)) | (refine CLt c5 ?_ ?_;focus (simp;done)) | (refine CLt c6 ?_ ?_;focus (simp;done)));simp)
   apply RZ;simp [results95]
 cases b4
 . refine CB func95 c95 fun E hE=>?_
   simp [p95]
   repeat ((first | (refine CLt c1 ?_ ?_;focus (simp;done)) | (refine CLt c2 ?_ ?_;focus (simp;done)) | (refine CLt c3 ?_ ?_;focus (simp;done)) | (refine CLt c4 ?_ ?_;focus (simp;done)) | (refine CLt c5 ?_ ?_;focus (simp;done)) | (refine CLt c6 ?_ ?_;focus (simp;done)));simp)
   apply RZ;simp [results95]
 cases b5
 . refine CB func95 c95 fun E hE=>?_
   simp [p95]
   repeat ((first | (refine CLt c1 ?_ ?_;focus (simp;done)) | (refine CLt c2 ?_ ?_;focus (simp;done)) | (refine CLt c3 ?_ ?_;focus (simp;done)) | (refine CLt c4 ?_ ?_;focus (simp;done)) | (refine CLt c5 ?_ ?_;focus (simp;done)) | (refine CLt c6 ?_ ?_;focus (simp;done)));simp)
   apply RZ;simp [results95]
 cases b6
 . refine CB func95 c95 fun E hE=>?_
   simp [p95]
   repeat ((first | (refine CLt c1 ?_ ?_;focus (simp;done)) | (refine CLt c2 ?_ ?_;focus (simp;done)) | (refine CLt c3 ?_ ?_;focus (simp;done)) | (refine CLt c4 ?_ ?_;focus (simp;done)) | (refine CLt c5 ?_ ?_;focus (simp;done)) | (refine CLt c6 ?_ ?_;focus (simp;done)));simp)
   apply RZ;simp [results95]
 by_cases hm:l.acts.length<=12
 case neg=>
   have hn:(12:Int) < l.acts.length:=by omega
   refine CB func95 c95 fun E hE=>?_
   simp [p95]
   repeat ((first | (refine CLt c1 ?_ ?_;focus (simp;done)) | (refine CLt c2 ?_ ?_;focus (simp;done)) | (refine CLt c3 ?_ ?_;focus (simp;done)) | (refine CLt c4 ?_ ?_;focus (simp;done)) | (refine CLt c5 ?_ ?_;focus (simp;done)) | (refine CLt c6 ?_ ?_;focus (simp;done)));simp [hn])
   apply RZ;simp [results95,hm]
 have hn:¬ (12:Int) < l.acts.length:=by omega
 refine CB func95 c95 fun E hE=>?_
 simp [p95]
 repeat ((first | (refine CLt c1 ?_ ?_;focus (simp;done)) | (refine CLt c2 ?_ ?_;focus (simp;done)) | (refine CLt c3 ?_ ?_;focus (simp;done)) | (refine CLt c4 ?_ ?_;focus (simp;done)) | (refine CLt c5 ?_ ?_;focus (simp;done)) | (refine CLt c6 ?_ ?_;focus (simp;done)));simp [hn])
 refine Al (α:=Nat) (fun i=>⟨AO [(1, .lp 0 0),(3,vi i)],lk [(0,(Pi l).map .d)],1⟩) (fun i=>i<=l.acts.length/\∀ j,j < i->(l.acts[j]?).all Cb=true) (fun i=>l.acts.length - i) 0 ?_ ?_ ?_
 . exact ⟨by omega,fun j hj=>by omega⟩
 . exact WK hE (lk [(0,0)])
 . rintro i ⟨hi,hg⟩
   have hz:=@wz i (by omega);by_cases h:i < l.acts.length
   . have hI:(i:Int) < l.acts.length:=by omega
     obtain ⟨a,hp⟩:=gE h;by_cases hq:Cb a=true
     . have hnx:∀ j,j < i+1->(l.acts[j]?).all Cb=true:=fun j hj=>by
         by_cases e:j=i
         . subst e;rw [hp];simp [hq]
         . exact hg j (by omega)
       by_cases h3:a.k=3
       . simp [PV,hI,hp,h3,hz]
         refine ⟨i+1,⟨by omega,hnx⟩,by omega,?_⟩;exact WK hE (lk [(0,0)])
       . have h4:a.k=4:=by unfold Cb at hq;simpa [h3] using hq
         simp [PV,hI,hp,h4,hz];refine ⟨i+1,⟨by omega,hnx⟩,by omega,?_⟩;exact WK hE (lk [(0,0)])
     . have h3:¬ a.k=3:=fun h=>hq (by unfold Cb;simp [h])
       have h4:¬ a.k=4:=fun h=>hq (by unfold Cb;simp [h])
       have e:l.acts.all Cb=false:=by rw [List.all_eq_false];exact ⟨a,List.mem_of_getElem? hp,hq⟩
       simp [PV,hI,hp,h3,h4];apply RZ;simp [results95,e]
   . have hI:¬ (i:Int) < l.acts.length:=by omega
     have e:l.acts.all Cb=true:=by
       rw [List.all_eq_true];intro x hx;obtain ⟨j,hj⟩:=List.getElem?_of_mem hx;have:=hg j (by have:=(List.getElem?_eq_some_iff.1 hj).1;omega);rw [hj] at this;simpa using this
     simp [PV,hI];apply RZ;simp [results95,e,hm]
theorem ABR (l:List Leg) (h:l.length<=1000000) (ha:∀ x∈l,x.acts.length<=1000000):Ct prog 39 [.d (Bs l)] (vi (C0 l)) []:=by
 refine CB func39 c39 fun E hE=>?_
 by_cases hm:20 < l.length
 . have hm':(20:Int) < l.length:=by omega
   have e:C0 l=4:=by unfold C0;rw [if_pos hm]
   simp [p39,hm'];apply RZ;simp [results39,e]
 have hm':¬ (20:Int) < l.length:=by omega
 simp [p39,hm'];refine Al (α:=Nat) (fun i=>⟨AO [(0, .d (Bs l)),(3,vi (Cv (l.take i))),(4,vi i)],lk [],0⟩) (fun i=>i<=l.length/\∀ j,j < i->(l[j]?).all BE=true) (fun i=>l.length - i) 0 ?_ ?_ ?_
 . exact ⟨by omega,fun j hj=>by omega⟩
 . refine AI.mk hE (lk []) _ _ _ ?_ ?_ ?_ ?_ ?_<;>simp [Cv]
 . rintro i ⟨hi,hg⟩
   have hz:=@wz i (by omega)
   have hok:∀ x∈l.take i,BE x=true:=fun x hx=>by
     obtain ⟨j,hj⟩:=List.getElem?_of_mem hx;have hji:j < i:=by have:=(List.getElem?_eq_some_iff.1 hj).1;simp at this;omega
     rw [List.getElem?_take,if_pos hji] at hj;have:=hg j hji;rw [hj] at this;simpa using this
   have hs:=KA hok;rw [List.length_take,Nat.min_eq_left hi] at hs;by_cases h:i < l.length
   . have hI:(i:Int) < l.length:=by omega
     obtain ⟨p,hp⟩:=gE h;have hnx:=MU hp;have c:=fn95 p (by have:=ha p (List.mem_of_getElem? hp);omega);cases hq:BE p
     . have e:C0 l=53:=by
         have:l.all BE=false:=by rw [List.all_eq_false];exact ⟨p,List.mem_of_getElem? hp,by simp [hq]⟩
         unfold C0;rw [if_neg hm,this];simp
       rw [hq] at c;simp [PR,hI,hp];refine CLa c ?_;simp;apply RZ;simp [results39,e]
     . have hpm:=G5 hq
       have hw:IntKind.wrap .i64 (Cv (l.take i)+p.m)=Cv (l.take (i+1)):=by rw [AD (by omega) (by omega)];omega
       rw [hq] at c;simp [PR,hI,hp];refine CLa c ?_;simp [hp,hw,hz];refine ⟨i+1,⟨by omega,fun j hj=>?_⟩,by omega,?_⟩
       . by_cases e:j=i
         . subst e;rw [hp];simp [hq]
         . exact hg j (by omega)
       . exact WK hE (lk [])
   . have hI:¬ (i:Int) < l.length:=by omega
     have ei:i=l.length:=by omega
     have hall:l.all BE=true:=by
       rw [List.all_eq_true];intro x hx;rw [ei,List.take_length] at hok;exact hok x hx
     have ht:Cv (l.take i)=Cv l:=by rw [ei,List.take_length]
     rw [ht];by_cases hb:600 < Cv l
     . have e:C0 l=4:=by unfold C0;rw [if_neg hm,hall];simp [hb]
       simp [PR,hI,hb];apply RZ;simp [results39,e]
     . have e:C0 l=0:=by unfold C0;rw [if_neg hm,hall];simp [hb]
       simp [PR,hI,hb];apply RZ;simp [results39,e]
def VR (x:Leg):Int:=min (max x.m 0) 1000
theorem S9 (x:Leg):0<=VR x/\VR x<=1000:=by unfold VR;omega
def G9 (l:List Leg):Int:=(l.map VR).sum
theorem VS {l:List Leg} {i:Nat} {x:Leg} (h:l[i]?= some x):G9 (l.take (i+1))=G9 (l.take i)+VR x:=by
 unfold G9;rw [List.take_add_one,h];simp
theorem TB:∀ l:List Leg,0<=G9 l/\G9 l<=l.length*1000
 | []=>by simp [G9]
 | c::l=>by
   have h1:=S9 c;have h2:=TB l;unfold G9 at h2 ⊢;simp only [List.map_cons,List.sum_cons,List.length_cons];omega
theorem M6 (l:List Leg):grL l=(decide (30 < l.length)||l.any (fun x=>decide (20 < x.acts.length))||(decide (60 < G9 l)&&decide (C0 l=0))):=rfl
theorem fn85 (l:List Leg):Ct prog 85 [.d (Bs l)] (vb (grL l)) []:=by
 refine CB func85 c85 fun E hE=>?_
 by_cases hm:30 < l.length
 . have hm':(30:Int) < l.length:=by omega
   have e:grL l=true:=by rw [M6,decide_eq_true hm];rfl
   simp [p85,hm'];apply RZ;simp [results85,e]
 have hm':¬ (30:Int) < l.length:=by omega
 simp [p85,hm'];refine Al (α:=Nat) (fun i=>⟨AO [(0, .d (Bs l)),(3,vi (G9 (l.take i))),(4,vi i)],lk [],0⟩) (fun i=>i<=l.length/\∀ j,j < i->(l[j]?).all (fun x=>decide (x.acts.length<=20))=true) (fun i=>l.length - i) 0 ?_ ?_ ?_
 . exact ⟨by omega,fun j hj=>by omega⟩
 . refine AI.mk hE (lk []) _ _ _ ?_ ?_ ?_ ?_ ?_<;>simp [G9]
 . rintro i ⟨hi,hg⟩
   have hz:=@wz i (by omega);have hs:=TB (l.take i);rw [List.length_take,Nat.min_eq_left hi] at hs;by_cases h:i < l.length
   . have hI:(i:Int) < l.length:=by omega
     obtain ⟨p,hp⟩:=gE h;have hnx:=VS hp;have hb:=S9 p;by_cases hq:20 < p.acts.length
     . have hq':(20:Int) < p.acts.length:=by omega
       have e:grL l=true:=by
         have:l.any (fun x=>decide (20 < x.acts.length))=true:=by rw [List.any_eq_true];exact ⟨p,List.mem_of_getElem? hp,by simpa using hq⟩
         rw [M6,this];simp
       simp [PU,hI,hp,hq'];apply RZ;simp [results85,e]
     . have hq':¬ (20:Int) < p.acts.length:=by omega
       have hw:IntKind.wrap .i64 (G9 (l.take i)+min (max p.m 0) 1000)=G9 (l.take (i+1)):=by
         have e:min (max p.m 0) 1000=VR p:=rfl;rw [e,AD (by omega) (by omega)];omega
       simp [PU,hI,hp,hq',hw,hz];refine ⟨i+1,⟨by omega,fun j hj=>?_⟩,by omega,?_⟩
       . by_cases e:j=i
         . subst e;rw [hp];simp;omega
         . exact hg j (by omega)
       . exact WK hE (lk [])
   . have hI:¬ (i:Int) < l.length:=by omega
     have ei:i=l.length:=by omega
     have hall:l.any (fun x=>decide (20 < x.acts.length))=false:=by
       rw [List.any_eq_false];intro x hx;obtain ⟨j,hj⟩:=List.getElem?_of_mem hx;have:=hg j (by have:=(List.getElem?_eq_some_iff.1 hj).1;omega);rw [hj] at this;simp at this;simp;omega
     have ha:∀ x∈l,x.acts.length<=1000000:=fun x hx=>by
       have:=List.any_eq_false.1 hall x hx;simp at this;omega
     have ht:G9 (l.take i)=G9 l:=by rw [ei,List.take_length]
     rw [ht];have e:grL l=(decide (60 < G9 l)&&decide (C0 l=0)):=by rw [M6,hall,decide_eq_false hm];rfl
     by_cases hb:60 < G9 l
     . simp [PU,hI,hb]
       refine CLa (ABR l (by omega) ha) ?_;simp;apply RZ;simp [results85,e,hb]
     . simp [PU,hI,hb]
       apply RZ;simp [results85,e,hb]
theorem tu (l:List Lev) (lo hi:Int) (hl:l.length<=1000000) (h0:l≠[]) (hlh:lo<=hi):Ct prog 142 [.d (BF l),vi lo,vi hi] (vsp (tmS (knT l) lo hi).1 (tmS (knT l) lo hi).2) []:=by
 have ev:tmS (knT l) lo hi=(Jy (knT l) (lo,hi)).1:=by unfold tmS;rw [show min lo hi=lo by omega,show max lo hi=hi by omega]
 have c:=wF (knT l) (lo,hi) (by rw [Dg];omega);have ekl:(knT l).length=l.length:=Dg
 have bk:∀ H:Hp,H 1=some (AH knL (knT l))->Bor H (.ls 1 0 l.length 3) (.d (DA (knT l))):=fun H hh=>by
   have:=B0 (f:=knL) hfk (l:=knT l) hh;rw [ekl] at this;exact this
 rw [ev];refine CB func142 c142 fun E hE=>?_
 simp [p142];refine Al (α:=Nat) (fun i=>⟨AO [(0, .d (BF l)),(1,vi lo),(2,vi hi),(6, .lp 0 0),(7,hdF 3 (LS l i) 1),(8,vi i)],lk ([(0,[vi 0,vi 0])]++ouF knL (LS l i) 1),2⟩) (fun i=>i<=l.length) (fun i=>l.length - i) 0 ?_ ?_ ?_
 . omega
 . rw [show LS l 0=[] from rfl,Aq,Au]
   exact WK hE (lk [(0,0)])
 . intro i hi
   by_cases h:i < l.length
   . obtain ⟨x,hx⟩:=gE h
     have hz:=@wz i (by omega);have hI:(i:Int) < l.length:=by omega
     have hnx:=WR hx;have hO:(LS l i).length<=1000000:=by unfold LS;simp;omega
     obtain ⟨O,hOe⟩:∃ O,LS l i=O:=⟨_,rfl⟩
     rw [hOe] at hnx hO ⊢;by_cases hne:O=[]
     . subst hne
       rw [Aq,Au];simp [tB,hI,hx,AA,AM,hz];refine ⟨i+1,by omega,by omega,?_⟩;rw [hnx,Ak (by simp),AZ (by simp)];refine AI.mk hE (lk [(0,0),(1,17825794)]) _ _ _ ?_ ?_ ?_ ?_ ?_<;>simp [AH,knOf]
     . have hsl:=Aw hfk O
       have hwh:=E9 hfk O;have n1:(O.length+1)*24<=140737488355328:=by omega
       have n2:O.length+1<=9223372036854775807:=by omega
       rw [Ak hne,AZ hne];simp [tB,hI,hx,AA,AM,hz,hsl,hwh,n1,n2];refine ⟨i+1,by omega,by omega,?_⟩;rw [hnx,Ak (by simp),AZ (by simp),IV];refine AI.mk hE (lk [(0,0),(1,17825794)]) _ _ _ ?_ ?_ ?_ ?_ ?_<;>simp [knOf]
   . have e:i=l.length:=by omega
     have hn:¬ (i:Int) < l.length:=by omega
     have ek:LS l i=knT l:=by unfold LS knT;rw [e,List.take_length]
     have ene:knT l≠[]:=by unfold knT;simpa using h0
     rw [ek,Ak ene,AZ ene,ekl];simp [tB,hn,AA];refine CLb (c) (by simp [bk]) ?_;simp [AA];apply RZ;simp [results142]
def Xm (l:List Lev) (i:Nat):Bool:=match l[i]? with
 | some x=>Dy l i&&spB 1000 12000 x.pl x.ph&&spB 1500 3500 x.tl x.th
 | none=>true
theorem rl {l:List Lev} {i:Nat} (hi:i < l.length) (h:Xm l i=false):GC l=false:=by
 obtain ⟨x,hx⟩:=gE hi;unfold Xm at h;rw [hx] at h;simp only at h;cases h1:Dy l i
 . unfold GC;rw [PK hi h1];rfl
 . rw [h1] at h
   have:l.all Ij=false:=by
     rw [List.all_eq_false];exact ⟨x,List.mem_of_getElem? hx,by unfold Ij;rw [Bool.true_and] at h;rw [h];simp⟩
   unfold GC;rw [this];simp
theorem xo {l:List Lev} (hn:rgB 2 16 [(l.length:Int)]=true) (h:∀ j,j < l.length->Xm l j=true):GC l=true:=by
 unfold GC;rw [Vv fun j hj=>?_,hn,Bool.true_and,List.all_eq_true]
 . intro x hx
   obtain ⟨j,hj⟩:=List.getElem?_of_mem hx;have:=h j (List.getElem?_eq_some_iff.1 hj).1;unfold Xm at this;rw [hj] at this;simp only [Bool.and_eq_true] at this;unfold Ij;rw [this.1.2,this.2];rfl
 . have:=h j hj
   obtain ⟨x,hx⟩:=gE hj;unfold Xm at this;rw [hx] at this;simp only [Bool.and_eq_true] at this;exact this.1.1
theorem u9 (l:List Lev) (hl:l.length<=1000000):Ct prog 139 [.d (BF l)] (vb (GC l)) []:=by
 have c1:=si (l.length:Int) 2 16;cases hn:rgB 2 16 [(l.length:Int)]
 . rw [hn] at c1
   have hbad:GC l=false:=by unfold GC FG;simp [hn]
   refine CB func139 zp fun E hE=>?_
   simp [p139];refine CLa c1 ?_;simp;apply RZ;simp [results139,hbad]
 rw [hn] at c1;refine CB func139 zp fun E hE=>?_
 simp [p139];refine CLa c1 ?_;simp;refine Al (α:=Nat) (fun i=>⟨AO [(0, .d (BF l)),(3,vi i)],lk [],0⟩) (fun i=>i<=l.length/\∀ j,j < i->Xm l j=true) (fun i=>l.length - i) 0 ?_ ?_ ?_
 . exact ⟨by omega,fun j hj=>by omega⟩
 . exact WK hE (lk [])
 . rintro i ⟨hi,hg⟩
   by_cases h:i < l.length
   . obtain ⟨x,hx⟩:=gE h
     have hz:=@wz i (by omega);have hI:(i:Int) < l.length:=by omega
     have c2:=si x.h (-500) 9000;have c3:=se x.pl x.ph 1000 12000;have c4:=se x.tl x.th 1500 3500;have eg:Xm l i=(Dy l i&&spB 1000 12000 x.pl x.ph&&spB 1500 3500 x.tl x.th):=by unfold Xm;rw [hx]
     have fin:Xm l i=true->∀ j,j < i+1->Xm l j=true:=fun he j hj=>by
       by_cases e:j=i
       . rw [e];exact he
       . exact hg j (by omega)
     generalize spB 1000 12000 x.pl x.ph=b3 at*
     generalize spB 1500 3500 x.tl x.th=b4 at*
     cases hb1:rgB (-500) 9000 [x.h]
     . rw [hb1] at c2
       have es:Dy l i=false:=by unfold Dy;rw [hx];simp [hb1]
       have hbad:=rl h (by rw [eg,es];rfl);simp [Xl,hI,hx,AA,inC,Nat.testBit];refine CLa c2 ?_;simp;apply RZ;simp [results139,hbad]
     . rw [hb1] at c2
       by_cases h0:i=0
       . have es:Dy l i=true:=by unfold Dy;rw [hx];simp [hb1,h0]
         rw [es] at eg;have hI0:¬ 0 < i:=by omega
         have c6:=c2;cases b3
         . have hbad:=rl h (by rw [eg];rfl)
           simp [Xl,hI,hx,AA,inC,Nat.testBit]
           repeat ((first | (refine CLt c2 ?_ ?_;focus (simp;done)) | (refine CLt c6 ?_ ?_;focus (simp;done)));simp [hI0])
           refine CLa c3 ?_;simp;apply RZ;simp [results139,hbad]
         . simp [Xl,hI,hx,AA,inC,Nat.testBit]
           repeat ((first | (refine CLt c2 ?_ ?_;focus (simp;done)) | (refine CLt c6 ?_ ?_;focus (simp;done)));simp [hI0])
           refine CLa c3 ?_;simp;refine CLa c4 ?_;cases b4
           . have hbad:=rl h (by rw [eg];rfl)
             simp;apply RZ;simp [results139,hbad]
           . have hok:=fin (by rw [eg];rfl)
             simp [hz];refine ⟨i+1,⟨by omega,hok⟩,by omega,?_⟩;exact WK hE (lk [])
       . obtain ⟨y,hy⟩:∃ y,l[i - 1]?= some y:=⟨_,List.getElem?_eq_getElem (by omega)⟩
         have hw:IntKind.wrap .i64 ((i:Int) - 1)=((i - 1:Nat):Int):=by rw [AD (by omega) (by omega)];omega
         have hI0:0 < i:=by omega
         have hxb: -500<=x.h/\x.h<=9000:=by simp [rgB] at hb1;omega
         have hyb: -500<=y.h/\y.h<=9000:=by
           have:=hg (i - 1) (by omega);unfold Xm Dy at this;rw [hy] at this;simp [rgB] at this;omega
         have hwd:IntKind.wrap .i64 (x.h - y.h)=x.h - y.h:=AD (by omega) (by omega);have c6:=si (x.h - y.h) 1 2000;have es:Dy l i=rgB 1 2000 [x.h - y.h]:=by unfold Dy;rw [hx];simp [hb1,h0,hy]
         cases h2:rgB 1 2000 [x.h - y.h]
         . rw [h2] at c6
           have hbad:=rl h (by rw [eg,es,h2];rfl);simp [Xl,hI,hx,AA,inC,Nat.testBit];refine CLa c2 ?_;simp [hI0,hw,hy,hwd,inC,Nat.testBit];refine CLa c6 ?_;simp;apply RZ;simp [results139,hbad]
         . rw [h2] at c6 es
           rw [es] at eg;cases b3
           . have hbad:=rl h (by rw [eg];rfl)
             simp [Xl,hI,hx,AA,inC,Nat.testBit]
             repeat ((first | (refine CLt c2 ?_ ?_;focus (simp;done)) | (refine CLt c6 ?_ ?_;focus (simp;done)));simp [inC,Nat.testBit,hI0,hw,hy,hwd])
             refine CLa c3 ?_;simp;apply RZ;simp [results139,hbad]
           . simp [Xl,hI,hx,AA,inC,Nat.testBit]
             repeat ((first | (refine CLt c2 ?_ ?_;focus (simp;done)) | (refine CLt c6 ?_ ?_;focus (simp;done)));simp [inC,Nat.testBit,hI0,hw,hy,hwd])
             refine CLa c3 ?_;simp;refine CLa c4 ?_;cases b4
             . have hbad:=rl h (by rw [eg];rfl)
               simp;apply RZ;simp [results139,hbad]
             . have hok:=fin (by rw [eg];rfl)
               simp [hz];refine ⟨i+1,⟨by omega,hok⟩,by omega,?_⟩;exact WK hE (lk [])
   . have e:i=l.length:=by omega
     have hnn:¬ (i:Int) < l.length:=by omega
     have hall:=xo hn (by rw [<-e];exact hg);simp [Xl,hnn];apply RZ;simp [results139,hall]
structure yi (S:List Lev):Prop where
 len:2<=S.length/\S.length<=16
 at':∀ x∈S, -500<=x.h/\x.h<=9000
 pr:∀ x∈S,PrB x
 step:∀ (i:Nat) (a b:Lev),S[i]?= some a->S[i+1]?= some b->(0 < b.h - a.h/\b.h - a.h<=2000)/\TmB (tmS (knT S)) a.h b.h
def rf (S:List Lev) (i:Nat) (a:Lev):Lev:=gsB (tmS (knT S)) (gsA (tmS (knT S)) (if i=0 then none else S[i - 1]?) a) a (S.drop (i+1))
theorem zk (S:List Lev) (i:Nat) (a:Lev) (h:yi S) (ha:S[i]?= some a):Ct prog 206 [.d (BF S),vi i] (vsp (rf S i a).pl (rf S i a).ph) []:=by
 have hlen:=h.len;have hil:=(List.getElem?_eq_some_iff.1 ha).1;have hI:(i:Int) < S.length:=by omega
 have hne:S≠[]:=by intro e;rw [e] at hlen;simp at hlen
 obtain ⟨j,hj⟩:∃ j,j=i+1:=⟨_,rfl⟩
 have w1:IntKind.wrap .i64 ((i:Int)+1)=(j:Int):=by rw [AD (by omega) (by omega)];omega
 have hah:=h.at' a (List.mem_of_getElem? ha);by_cases hi0:0 < i
 . have h0:¬ i=0:=by omega
   obtain ⟨q,hq⟩:∃ q,S[i - 1]?= some q:=⟨_,List.getElem?_eq_getElem (by omega)⟩
   have hqs:=h.step (i - 1) q a hq (by rw [show i - 1+1=i by omega];exact ha);have hqb:=h.pr q (List.mem_of_getElem? hq);have hqh:=h.at' q (List.mem_of_getElem? hq);have w0:IntKind.wrap .i64 ((i:Int) - 1)=((i - 1:Nat):Int):=by rw [AD (by omega) (by omega)];omega
   have wd:IntKind.wrap .i64 (a.h - q.h)=a.h - q.h:=AD (by omega) (by omega);have c1:=tu S q.h a.h (by omega) hne (by omega);have c2:=yB q.pl q.ph (a.h - q.h) (tmS (knT S) q.h a.h).1 (tmS (knT S) q.h a.h).2 hqb.l hqb.h hqs.1 hqs.2.p;have c3:=wC a.pl a.ph (CY (1000000*(tmS (knT S) q.h a.h).1) (341632*(a.h - q.h)) q.pl) (C9 (1000000*(tmS (knT S) q.h a.h).2) (341632*(a.h - q.h)) q.ph);have hA:gsA (tmS (knT S)) (if i=0 then none else S[i - 1]?) a=mt a (cyu (tmS (knT S)) q a):=by rw [if_neg h0,hq];rfl
   by_cases h1:i+1 < S.length
   . obtain ⟨b,hb⟩:∃ b,S[i+1]?= some b:=⟨_,List.getElem?_eq_getElem (by omega)⟩
     have hbs:=h.step i a b ha hb;have hbb:=h.pr b (List.mem_of_getElem? hb);have hbh:=h.at' b (List.mem_of_getElem? hb);have wb:IntKind.wrap .i64 (b.h - a.h)=b.h - a.h:=AD (by omega) (by omega);have hdrop:∃ r,S.drop (i+1)=b::r:=⟨_,by rw [List.drop_eq_getElem?_toList_append,hb];rfl⟩
     obtain ⟨rr,hdrop⟩:=hdrop;have hn1:(j:Int) < S.length:=by omega
     rw [<-hj] at hb;have c4:=tu S a.h b.h (by omega) hne (by omega);have c5:=yC b.pl b.ph (b.h - a.h) (tmS (knT S) a.h b.h).1 (tmS (knT S) a.h b.h).2 hbb.l hbb.h hbs.1 hbs.2.p;have e:rf S i a=mt (mt a (cyu (tmS (knT S)) q a)) (cyd (tmS (knT S)) a b):=by unfold rf;rw [hA,hdrop];rfl
     rw [e];have c6:=wC (max a.pl (CY (1000000*(tmS (knT S) q.h a.h).1) (341632*(a.h - q.h)) q.pl)) (min a.ph (C9 (1000000*(tmS (knT S) q.h a.h).2) (341632*(a.h - q.h)) q.ph)) (Cz (1000000*(tmS (knT S) a.h b.h).2) (341632*(b.h - a.h)) b.pl) (Ec (1000000*(tmS (knT S) a.h b.h).1) (341632*(b.h - a.h)) b.ph);refine CB func206 yn fun E hE=>?_
     simp [p206,AA,ha,hi0,hq,w0,wd,inC,Nat.testBit];refine CLa c1 ?_;simp;refine CLa c2 ?_;simp;refine CLa c3 ?_;simp [AA,ha,hb,w1,wb,hn1,inC,Nat.testBit];refine CLa c4 ?_;simp;refine CLa c5 ?_;simp;refine CLa c6 ?_;simp [AA];apply RZ;simp [results206,Air.mt,cyu,cyd,lc,lw,ls]
   . have hdrop:S.drop (i+1)=[]:=List.drop_eq_nil_of_le (by omega)
     have e:rf S i a=mt a (cyu (tmS (knT S)) q a):=by unfold rf;rw [hA,hdrop];rfl
     rw [e];have hn1:¬ (j:Int) < S.length:=by omega
     refine CB func206 yn fun E hE=>?_
     simp [p206,AA,ha,hi0,hq,w0,wd,inC,Nat.testBit];refine CLa c1 ?_;simp;refine CLa c2 ?_;simp;refine CLa c3 ?_;simp [AA,w1,hn1];apply RZ;simp [results206,Air.mt,cyu,lc,lw,ls]
 . have h0:i=0:=by omega
   have hA:gsA (tmS (knT S)) (if i=0 then none else S[i - 1]?) a=a:=by rw [if_pos h0];rfl
   have h1:i+1 < S.length:=by omega
   obtain ⟨b,hb⟩:∃ b,S[i+1]?= some b:=⟨_,List.getElem?_eq_getElem (by omega)⟩
   have hbs:=h.step i a b ha hb;have hbb:=h.pr b (List.mem_of_getElem? hb);have hbh:=h.at' b (List.mem_of_getElem? hb);have wb:IntKind.wrap .i64 (b.h - a.h)=b.h - a.h:=AD (by omega) (by omega);have hdrop:∃ r,S.drop (i+1)=b::r:=⟨_,by rw [List.drop_eq_getElem?_toList_append,hb];rfl⟩
   obtain ⟨rr,hdrop⟩:=hdrop;have hn1:(j:Int) < S.length:=by omega
   rw [<-hj] at hb;have c4:=tu S a.h b.h (by omega) hne (by omega);have c5:=yC b.pl b.ph (b.h - a.h) (tmS (knT S) a.h b.h).1 (tmS (knT S) a.h b.h).2 hbb.l hbb.h hbs.1 hbs.2.p;have e:rf S i a=mt a (cyd (tmS (knT S)) a b):=by unfold rf;rw [hA,hdrop];rfl
   rw [e];have c6:=wC a.pl a.ph (Cz (1000000*(tmS (knT S) a.h b.h).2) (341632*(b.h - a.h)) b.pl) (Ec (1000000*(tmS (knT S) a.h b.h).1) (341632*(b.h - a.h)) b.ph);refine CB func206 yn fun E hE=>?_
   simp [p206,AA,ha,hi0,hb,w1,wb,hn1,inC,Nat.testBit];refine CLa c4 ?_;simp;refine CLa c5 ?_;simp;refine CLa c6 ?_;simp [AA];apply RZ;simp [results206,Air.mt,cyd,lc,lw,ls]
def gsK (T:Tm):Nat->Option Lev->List Lev->List Lev
 | 0,_,l=>l
 | i+1,p,a::r=>gsB T (gsA T p a) a r::gsK T i (some (gsB T (gsA T p a) a r)) r
 | _+1,_,[]=>[]
theorem ur (T:Tm):∀ (i:Nat) (p:Option Lev) (l:List Lev),l.length<=i->gsK T i p l=gsP T p l
 | 0,p,[],_=>rfl
 | 0,p,_::_,h=>by simp at h
 | i+1,p,[],_=>rfl
 | i+1,p,a::r,h=>by
   show gsB T (gsA T p a) a r::gsK T i _ r=gsB T (gsA T p a) a r::gsP T _ r
   rw [ur T i _ r (by simpa using h)]
theorem su (T:Tm):∀ (i:Nat) (p:Option Lev) (l:List Lev),LeL l (gsK T i p l)
 | 0,_,l=>LeL.refl l
 | _+1,_,[]=>trivial
 | i+1,p,a::r=>⟨(sL T p a).trans (sM T _ a r),su T i _ r⟩
theorem tU (T:Tm):∀ (i:Nat) (p:Option Lev) (l:List Lev),LeL (gsK T i p l) (gsP T p l)
 | 0,p,l=>ux T l p
 | _+1,_,[]=>trivial
 | i+1,_,_::r=>⟨Le.refl _,tU T i _ r⟩
theorem xO (T:Tm) (i:Nat) (p:Option Lev) (l:List Lev):(gsK T i p l).length=l.length:=(su T i p l).len.symm
theorem tV (T:Tm):∀ (i:Nat) (p:Option Lev) (l:List Lev) (j:Nat),i<=j->(gsK T i p l)[j]?= l[j]?
 | 0,p,l,j,_=>rfl
 | i+1,p,[],j,_=>rfl
 | i+1,p,a::r,0,h=>by omega
 | i+1,p,a::r,j+1,h=>by
   show (gsK T i _ r)[j]?= r[j]?
   exact tV T i _ r j (by omega)
theorem tW (T:Tm):∀ (i:Nat) (p:Option Lev) (l:List Lev) (a:Lev),l[i]?= some a->gsK T (i+1) p l=(gsK T i p l).set i (gsB T (gsA T (if i=0 then p else (gsK T i p l)[i - 1]?) a) a ((gsK T i p l).drop (i+1)))
 | _,p,[],a,h=>by simp at h
 | 0,p,b::r,a,h=>by simp at h;subst h;rfl
 | i+1,p,b::r,a,h=>by
   have h1:gsK T (i+1) p (b::r)=gsB T (gsA T p b) b r::gsK T i (some (gsB T (gsA T p b) b r)) r:=rfl;have h2:gsK T (i+1+1) p (b::r)=gsB T (gsA T p b) b r::gsK T (i+1) (some (gsB T (gsA T p b) b r)) r:=rfl;have ih:=tW T i (some (gsB T (gsA T p b) b r)) r a (by simpa using h);rw [h2,h1,List.set_cons_succ,List.drop_succ_cons]
   have e0:(if i+1=0 then p else (gsB T (gsA T p b) b r::gsK T i (some (gsB T (gsA T p b) b r)) r)[i+1 - 1]?)=(if i=0 then some (gsB T (gsA T p b) b r) else (gsK T i (some (gsB T (gsA T p b) b r)) r)[i - 1]?):=by
     cases i with
     | zero=>rfl
     | succ j=>rfl
   rw [e0,<-ih]
theorem xP {l m:List Lev} (h1:LeL l m) (i:Nat):knT (gsK (tmS (knT l)) i none m)=knT l:=(Yt (LeL.trans h1 (su _ i none m))).symm
section
variable {l m:List Lev} (h:OkS l) (h1:LeL l m) (h2:LeL m (swp l))
include h h1 h2
theorem xR (i:Nat):yi (gsK (tmS (knT l)) i none m):=by
 have hp:=uy h.lks h.pos h1 h2;have a1:LeL l (gsK (tmS (knT l)) i none m):=LeL.trans h1 (su _ i none m);have a2:LeL (gsK (tmS (knT l)) i none m) (swp l):=LeL.trans (tU _ i none m) hp.2.1;have hlen:=a1.len;have key:∀ (j:Nat) (y:Lev),(gsK (tmS (knT l)) i none m)[j]?= some y->∃ x,l[j]?= some x/\Le x y:=fun j y hy=>EM a1 j y hy
 have upper:∀ (j:Nat) (y:Lev),(gsK (tmS (knT l)) i none m)[j]?= some y->∃ z,z∈swp l/\Le y z:=fun j y hy=>by
   obtain ⟨z,hz⟩:∃ z,(swp l)[j]?= some z:=⟨_,List.getElem?_eq_getElem (by have:=(List.getElem?_eq_some_iff.1 hy).1;have:=a2.len;omega)⟩
   obtain ⟨y',hy',q⟩:=EM a2 j z hz;rw [hy] at hy';cases hy';exact ⟨z,List.mem_of_getElem? hz,q⟩
 refine ⟨by rw [<-hlen];exact h.len,fun y hy=>?_,fun y hy=>?_,fun j a b ha hb=>?_⟩
 . obtain ⟨j,hj⟩:=List.getElem?_of_mem hy
   obtain ⟨x,hx,q⟩:=key j y hj;have:=h.at' x (List.mem_of_getElem? hx);have:=q.s.1;omega
 . obtain ⟨j,hj⟩:=List.getElem?_of_mem hy
   obtain ⟨x,hx,q⟩:=key j y hj;obtain ⟨z,hz,q'⟩:=upper j y hj;have b1:=h.lev x (List.mem_of_getElem? hx);have b2:=cP h z hz;have c1:=q.lo;have c2:=q.hi;have c3:=q'.lo;have c4:=q'.hi;have d1:=b2.1;have d2:=b2.2;exact ⟨by omega,by omega⟩
 . obtain ⟨x,hx,q⟩:=key j a ha
   obtain ⟨y,hy,q'⟩:=key (j+1) b hb;have hs:=h.step j x y hx hy;have ht:=Oq h (h.inS hx) (h.inS hy);have e1:=q.s.1;have e2:=q'.s.1;rw [<-Yt a1];rw [e1,e2] at ht;exact ⟨by omega,ht⟩
end
theorem xS {l m:List Lev} (h1:LeL l m) (i:Nat) (a:Lev) (ha:m[i]?= some a):gsK (tmS (knT l)) (i+1) none m=(gsK (tmS (knT l)) i none m).set i (rf (gsK (tmS (knT l)) i none m) i a):=by
 unfold rf;rw [xP h1 i];exact tW _ i none m a ha
end Go.Proofs.Tryz
namespace Go.Proofs.Tryz
open Go.Psl
open Go.Air
theorem vA (a b c d:V):AA [a,b] 0 [c,d]=[c,d]:=rfl
theorem y2 (S:List Lev) (i:Nat) (a:Lev):Le a (rf S i a):=(sL _ _ a).trans (sM _ _ a _)
theorem vg {L m:List Lev} {i:Nat} {a b:Lev} (ha:L[i]?= some a) (hm:m[i]?= some a) (hb:Le a b):L.set i b=m↔(L=m/\b.pl=a.pl/\b.ph=a.ph):=by
 constructor
 . intro e
   have h1:(L.set i b)[i]?= some b:=by
     rw [List.getElem?_set_self (List.getElem?_eq_some_iff.1 ha).1]
   rw [e,hm] at h1;cases h1;rw [Pn ha] at e;exact ⟨e,rfl,rfl⟩
 . rintro ⟨rfl,h1,h2⟩
   have:b=a:=by
     obtain ⟨⟨q1,q2,q3⟩,_,_⟩:=hb;cases a;cases b;simp only [Lev.mk.injEq] at*;exact ⟨q1.symm,h1,h2,q2.symm,q3.symm⟩
   rw [this,Pn ha]
theorem xr (m:List Lev) (n:Nat) (S:Nat->List Lev) (hn:n<=16) (hml:m.length=n) (hW:∀ i,yi (S i)) (hlen:∀ i,(S i).length=n) (hm:∀ i a,m[i]?= some a->(S i)[i]?= some a) (hnx:∀ i a,m[i]?= some a->S (i+1)=(S i).set i (rf (S i) i a)) {E:Ent} (hE:∀ i,¬ E.stab i) {Q:Av->St->Prop}:∀ i:Nat,i<=n->PW prog tys eqs E sP
   (DP (fun st'=>∃ j,j<=n/\n - j < n - i/\AI prog E st' ⟨AO [(5, .ls 0 0 n 5),(6,vb (!decide (S j=m))),(7,vi j)],lk [(0,AH A5 (S j))],1⟩)
     (exC prog E Q 2 (fun _:Unit=>⟨AO [(5, .ls 0 0 n 5),(6,vb (!decide (S n=m)))],lk [(0,AH A5 (S n))],1⟩) (fun _=>True)))
   ⟨AO [(5, .ls 0 0 n 5),(6,vb (!decide (S i=m))),(7,vi i)],lk [(0,AH A5 (S i))],1⟩:=by
 intro i hi;by_cases h:i < n
 . obtain ⟨a,ha⟩:∃ a,m[i]?= some a:=⟨_,List.getElem?_eq_getElem (by omega)⟩
   have hSa:=hm i a ha;have hN:=hnx i a ha;have hz:=@wz i (by omega);have hI:(i:Int) < n:=by omega
   have c:=zk (S i) i a (hW i) hSa;have hble:=y2 (S i) i a;have hfl:=vg hSa ha hble;rw [<-hN] at hfl;have hl2:=hlen i
   generalize hbe:rf (S i) i a=b at*
   generalize hLe:S i=L at*
   have bL:=JO (b:=0) hl2;have e2:List.take 2 (List.drop (i*5+1) (AH A5 L))=[vi a.pl,vi a.ph]:=Bg Tryz.hfl hSa (by omega)
   have e3:AA (AH A5 L) (i*5+1) [vi b.pl,vi b.ph]=AH A5 (S (i+1)):=by
     rw [hN];refine Cq Tryz.hfl (vs:=[di b.pl,di b.ph]) hSa (by simp) ?_;simp [A5,hble.s.1,hble.s.2.1,hble.s.2.2]
   have hsl:=Aw Tryz.hfl L;have f3:i*5+1+2<=n*5:=by omega
   rw [hl2] at hsl;by_cases hc:L=m
   . have hd:decide (L=m)=true:=decide_eq_true hc
     have hd2:decide (S (i+1)=m)=(decide (b.pl=a.pl)&&decide (b.ph=a.ph)):=by
       rw [Bool.eq_iff_iff];simp only [decide_eq_true_eq,Bool.and_eq_true];rw [hfl];simp [hc]
     rw [hd];simp [sP,hI];refine CLb (c) (by simp [bL]) ?_;simp [vA,e2,e3,hsl,f3,hI,hz,inC,Nat.testBit];refine ⟨i+1,by omega,by omega,?_⟩;rw [hd2];exact WK hE (lk [(0,0)])
   . have hd:decide (L=m)=false:=decide_eq_false hc
     have hd2:decide (S (i+1)=m)=false:=decide_eq_false fun h=>hc (hfl.1 h).1
     rw [hd];simp [sP,hI];refine CLb (c) (by simp [bL]) ?_;simp [vA,e3,hsl,f3,hI,hz];refine ⟨i+1,by omega,by omega,?_⟩;rw [hd2];exact WK hE (lk [(0,0)])
 . have e:i=n:=by omega
   subst e;simp [sP];exact WK hE (lk [(0,0)])
theorem tT (l:List Lev) (h:OkS l) {E:Ent} (hE:∀ i,¬ E.stab i) {Q:Av->St->Prop}:∀ y:List Lev × Bool,(LeL l y.1/\LeL y.1 (swp l)/\(y.2=false->y.1=swp l))->PW prog tys eqs E tA
   (DP (fun st'=>∃ z:List Lev × Bool,(LeL l z.1/\LeL z.1 (swp l)/\(z.2=false->z.1=swp l))/\(2*far z.1 (swp l)+cond z.2 1 0) < (2*far y.1 (swp l)+cond y.2 1 0)/\AI prog E st' ⟨AO [(5, .ls 0 0 l.length 5),(6,vb z.2)],lk [(0,AH A5 z.1)],1⟩)
     (exC prog E Q 0 (fun _:Unit=>⟨AO [(5, .ls 0 0 l.length 5)],lk [(0,AH A5 (swp l))],1⟩) (fun _=>True)))
   ⟨AO [(5, .ls 0 0 l.length 5),(6,vb y.2)],lk [(0,AH A5 y.1)],1⟩:=by
 rintro ⟨m,c⟩ ⟨h1,h2,h3⟩
 simp only at h1 h2 h3;have hlen:=h.len;cases c with
 | false=>
   have e:=h3 rfl;subst e;simp [tA];exact WK hE (lk [(0,0)])
 | true=>
   have hml:=h1.len;have hp:=uy h.lks h.pos h1 h2;have eall:gsK (tmS (knT l)) l.length none m=gsP (tmS (knT l)) none m:=ur _ _ _ _ (by omega);simp [tA];refine BL (α:=Nat) 2 (fun _:Unit=>⟨AO [(5, .ls 0 0 l.length 5),(6,vb (!decide (gsK (tmS (knT l)) l.length none m=m)))],lk [(0,AH A5 (gsK (tmS (knT l)) l.length none m))],1⟩) (fun _=>True) (fun j=>⟨AO [(5, .ls 0 0 l.length 5),(6,vb (!decide (gsK (tmS (knT l)) j none m=m))),(7,vi j)],lk [(0,AH A5 (gsK (tmS (knT l)) j none m))],1⟩) (fun j=>j<=l.length) (fun j=>l.length - j) 0 ?_ ?_ (xr m l.length (fun i=>gsK (tmS (knT l)) i none m) hlen.2 hml.symm (xR h h1 h2) (fun i=>by rw [xO];exact hml.symm) (fun i a ha=>by rw [tV _ i none m i (by omega)];exact ha) (xS h1) hE) fun _ _=>?_
   . omega
   . rw [show gsK (tmS (knT l)) 0 none m=m from rfl,decide_eq_true rfl]
     exact WK hE (lk [(0,0)])
   . rw [eall]
     simp;refine ⟨gsP (tmS (knT l)) none m,?_⟩;by_cases e:gsP (tmS (knT l)) none m=m
     . left
       have e2:=hp.2.2.1 e;refine ⟨⟨hp.1,hp.2.1,by rw [e];exact e2⟩,by rw [e];omega,?_⟩;rw [decide_eq_true e];exact WK hE (lk [(0,0)])
     . right
       refine ⟨⟨hp.1,hp.2.1⟩,hp.2.2.2 e,?_⟩;rw [decide_eq_false e];exact WK hE (lk [(0,0)])
theorem tv (l:List Lev) (h:OkS l) (hq:0<=ixF unf (swp l)):Ct prog 134 [.d (BF l)] (.tup [.d (.lit (.slice none 0 0)),vi (ixF unf (swp l)),vi 21]) []:=by
 have hlen:=h.len;have h0:l≠[]:=by intro e;rw [e] at hlen;simp at hlen
 have hl2:=Dj (l:=l);have c1:=u9 l (by omega);rw [B8.2 h] at c1;obtain ⟨x0,r0,e0⟩:=List.exists_cons_of_ne_nil h0;have hmx:(r0.length+1)*40<=140737488355328/\r0.length+1<=9223372036854775807:=by rw [e0] at hlen;simp at hlen;omega
 have ee:BF l= .sl 5 (A5 x0::r0.map A5):=by rw [e0];rfl
 have ef:(r0.map (List.map V.d ∘ A5)).flatten=AH A5 r0:=by simp [AH,List.map_flatten]
 have hcl:(∀ x∈AH A5 r0,x.isCell=true)=True:=eq_true BU;have eln:l.length=r0.length+1:=by rw [e0];simp
 have efc:AH A5 l=vi x0.h::vi x0.pl::vi x0.ph::vi x0.tl::vi x0.th::AH A5 r0:=by rw [e0,CQ];rfl
 refine CB func134 ym fun E hE=>?_
 simp [p134];refine CLa c1 ?_;simp [ee,ef,hcl,AM,hmx];refine BL (α:=List Lev × Bool) 0 (fun _:Unit=>⟨AO [(5, .ls 0 0 l.length 5)],lk [(0,AH A5 (swp l))],1⟩) (fun _=>True) (fun z=>⟨AO [(5, .ls 0 0 l.length 5),(6,vb z.2)],lk [(0,AH A5 z.1)],1⟩) (fun z=>LeL l z.1/\LeL z.1 (swp l)/\(z.2=false->z.1=swp l)) (fun z=>2*far z.1 (swp l)+cond z.2 1 0) (l,true) ?_ ?_ (tT l h hE) fun _ _=>?_
 . exact ⟨LeL.refl l,Es l,by simp⟩
 . simp only
   rw [efc,eln];refine AI.mk hE (lk [(0,8388608)]) _ _ _ ?_ ?_ ?_ ?_ ?_<;>simp [hcl]
 . simp
   refine Al (α:=Nat) (fun i=>⟨AO [(5, .ls 0 0 l.length 5),(9,vi i)],lk [(0,AH A5 (swp l))],1⟩) (fun i=>i<=l.length/\∀ j,j < i->((swp l)[j]?).all (fun x=>!unf x)=true) (fun i=>l.length - i) 0 ?_ ?_ ?_
   . exact ⟨by omega,fun j hj=>by omega⟩
   . exact WK hE (lk [(0,0)])
   . rintro i ⟨hi,hg3⟩
     have hg2:∀ (j:Nat) (x:Lev),j < i->(swp l)[j]?= some x->unf x=false:=fun j x hj hx=>by
       have:=hg3 j hj;rw [hx] at this;have h9:(!unf x)=true:=this;simpa using h9
     by_cases hil:i < l.length
     . obtain ⟨x,hx⟩:∃ x,(swp l)[i]?= some x:=⟨_,List.getElem?_eq_getElem (by omega)⟩
       have hz:=@wz i (by omega);have hI:(i:Int) < l.length:=by omega
       have e1:(AH A5 (swp l))[i*5+1]?= some (vi x.pl):=Jg Tryz.hfl hx rfl;have e2:(AH A5 (swp l))[i*5+2]?= some (vi x.ph):=Jg Tryz.hfl hx rfl;have e3:List.take 1 (List.drop (i*5+1) (AH A5 (swp l)))=[vi x.pl]:=Bg Tryz.hfl hx (by omega);have e4:List.take 1 (List.drop (i*5+2) (AH A5 (swp l)))=[vi x.ph]:=Bg Tryz.hfl hx (by omega);have hsl:=Aw Tryz.hfl (swp l);rw [hl2] at hsl;have f1:i*5+1+1<=l.length*5:=by omega
       have f2:i*5+2+1<=l.length*5:=by omega
       have f3:i*5+1 < l.length*5:=by omega
       have f4:i*5+2 < l.length*5:=by omega
       by_cases hu:x.ph < x.pl
       . have hui:ixF unf (swp l)=i:=IY hx (decide_eq_true hu) fun j y hj hy=>hg2 j y hj hy
         (rw [hui];simp [sQ,hI,e3,e4,hsl,f1,f2,hu,inC,Nat.testBit];apply RZ;simp [results134])
       . simp [sQ,hI,e3,e4,hsl,f1,f2,hu,hz,inC,Nat.testBit]
         refine ⟨i+1,⟨by omega,fun j hj=>?_⟩,by omega,?_⟩
         . by_cases e:j=i
           . subst e;rw [hx]
             have:unf x=false:=decide_eq_false hu
             show (!unf x)=true
             rw [this];rfl
           . exact hg3 j (by omega)
         . exact WK hE (lk [(0,0)])
     . have ei:i=l.length:=by omega
       have hI:¬ (i:Int) < l.length:=by omega
       (have:=IX (q:=unf) (l:=swp l) fun j x hx=>hg2 j x (by have:=(List.getElem?_eq_some_iff.1 hx).1;omega) hx;omega)
theorem vq (l:List Lev) (h:OkS l) (hq:¬ 0<=ixF unf (swp l)):Ct prog 134 [.d (BF l)] (.tup [.ls 0 0 l.length 5,vi 0,vi 0]) [(0,AH A5 (swp l))]:=by
 have hlen:=h.len;have h0:l≠[]:=by intro e;rw [e] at hlen;simp at hlen
 have hl2:=Dj (l:=l);have c1:=u9 l (by omega);rw [B8.2 h] at c1;obtain ⟨x0,r0,e0⟩:=List.exists_cons_of_ne_nil h0;have hmx:(r0.length+1)*40<=140737488355328/\r0.length+1<=9223372036854775807:=by rw [e0] at hlen;simp at hlen;omega
 have ee:BF l= .sl 5 (A5 x0::r0.map A5):=by rw [e0];rfl
 have ef:(r0.map (List.map V.d ∘ A5)).flatten=AH A5 r0:=by simp [AH,List.map_flatten]
 have hcl:(∀ x∈AH A5 r0,x.isCell=true)=True:=eq_true BU;have eln:l.length=r0.length+1:=by rw [e0];simp
 have efc:AH A5 l=vi x0.h::vi x0.pl::vi x0.ph::vi x0.tl::vi x0.th::AH A5 r0:=by rw [e0,CQ];rfl
 refine CB func134 ym fun E hE=>?_
 simp [p134];refine CLa c1 ?_;simp [ee,ef,hcl,AM,hmx];refine BL (α:=List Lev × Bool) 0 (fun _:Unit=>⟨AO [(5, .ls 0 0 l.length 5)],lk [(0,AH A5 (swp l))],1⟩) (fun _=>True) (fun z=>⟨AO [(5, .ls 0 0 l.length 5),(6,vb z.2)],lk [(0,AH A5 z.1)],1⟩) (fun z=>LeL l z.1/\LeL z.1 (swp l)/\(z.2=false->z.1=swp l)) (fun z=>2*far z.1 (swp l)+cond z.2 1 0) (l,true) ?_ ?_ (tT l h hE) fun _ _=>?_
 . exact ⟨LeL.refl l,Es l,by simp⟩
 . simp only
   rw [efc,eln];refine AI.mk hE (lk [(0,8388608)]) _ _ _ ?_ ?_ ?_ ?_ ?_<;>simp [hcl]
 . simp
   refine Al (α:=Nat) (fun i=>⟨AO [(5, .ls 0 0 l.length 5),(9,vi i)],lk [(0,AH A5 (swp l))],1⟩) (fun i=>i<=l.length/\∀ j,j < i->((swp l)[j]?).all (fun x=>!unf x)=true) (fun i=>l.length - i) 0 ?_ ?_ ?_
   . exact ⟨by omega,fun j hj=>by omega⟩
   . exact WK hE (lk [(0,0)])
   . rintro i ⟨hi,hg3⟩
     have hg2:∀ (j:Nat) (x:Lev),j < i->(swp l)[j]?= some x->unf x=false:=fun j x hj hx=>by
       have:=hg3 j hj;rw [hx] at this;have h9:(!unf x)=true:=this;simpa using h9
     by_cases hil:i < l.length
     . obtain ⟨x,hx⟩:∃ x,(swp l)[i]?= some x:=⟨_,List.getElem?_eq_getElem (by omega)⟩
       have hz:=@wz i (by omega);have hI:(i:Int) < l.length:=by omega
       have e1:(AH A5 (swp l))[i*5+1]?= some (vi x.pl):=Jg Tryz.hfl hx rfl;have e2:(AH A5 (swp l))[i*5+2]?= some (vi x.ph):=Jg Tryz.hfl hx rfl;have e3:List.take 1 (List.drop (i*5+1) (AH A5 (swp l)))=[vi x.pl]:=Bg Tryz.hfl hx (by omega);have e4:List.take 1 (List.drop (i*5+2) (AH A5 (swp l)))=[vi x.ph]:=Bg Tryz.hfl hx (by omega);have hsl:=Aw Tryz.hfl (swp l);rw [hl2] at hsl;have f1:i*5+1+1<=l.length*5:=by omega
       have f2:i*5+2+1<=l.length*5:=by omega
       have f3:i*5+1 < l.length*5:=by omega
       have f4:i*5+2 < l.length*5:=by omega
       by_cases hu:x.ph < x.pl
       . have hui:ixF unf (swp l)=i:=IY hx (decide_eq_true hu) fun j y hj hy=>hg2 j y hj hy
         omega
       . simp [sQ,hI,e3,e4,hsl,f1,f2,hu,hz,inC,Nat.testBit]
         refine ⟨i+1,⟨by omega,fun j hj=>?_⟩,by omega,?_⟩
         . by_cases e:j=i
           . subst e;rw [hx]
             have:unf x=false:=decide_eq_false hu
             show (!unf x)=true
             rw [this];rfl
           . exact hg3 j (by omega)
         . exact WK hE (lk [(0,0)])
     . have ei:i=l.length:=by omega
       have hI:¬ (i:Int) < l.length:=by omega
       (simp [sQ,hI];refine AB.by (lk [(0,0)]) ?_;simp [results134])
theorem vr (l:List Lev) (hl:l.length<=1000000) (h:GC l=false):Ct prog 134 [.d (BF l)] (.tup [.d (.lit (.slice none 0 0)),vi 0,vi 20]) []:=by
 have c1:=u9 l hl;rw [h] at c1;refine CB func134 ym fun E hE=>?_
 simp [p134];refine CLa c1 ?_;simp;apply RZ;simp [results134]
theorem xw (l:List Lev) (hl:l.length<=1000000):Ct prog 134 [.d (BF l)] (gz (D3 l)) []:=by
 cases h:GC l
 . refine Cm.freeze (vr l hl h) ?_
   unfold D3;rw [h];exact ⟨Or.inr ⟨rfl,5,rfl⟩,Or.inl rfl,Or.inl rfl,trivial⟩
 . have ho:=B8.1 h
   by_cases hq:0<=ixF unf (swp l)
   . refine Cm.freeze (tv l ho hq) ?_
     unfold D3;rw [h,if_pos rfl,if_pos hq];exact ⟨Or.inr ⟨rfl,5,rfl⟩,Or.inl rfl,Or.inl rfl,trivial⟩
   . refine Cm.freeze (vq l ho hq) ?_
     unfold D3;rw [h,if_pos rfl,if_neg hq];refine ⟨?_,Or.inl rfl,Or.inl rfl,trivial⟩;have:=JO (ws:=swp l) (b:=0) (Dj (l:=l)) (lk [(0,AH A5 (swp l))]) (by simp);exact this
theorem yN (s:List Lev) (x:Int) (h:OkS s) (hx:E8 s x):Ct prog 141 [.d (BF s),vi x] (vsp (prs (tmS (knT s)) s x).1 (prs (tmS (knT s)) s x).2) []:=by
 have hlen:=h.len;have hp:=Zj s x;obtain ⟨e0,he0⟩:∃ e0,s[0]?= some e0:=⟨_,List.getElem?_eq_getElem (by omega)⟩
 obtain ⟨e1,he1⟩:∃ e1,s[s.length - 1]?= some e1:=⟨_,List.getElem?_eq_getElem (by omega)⟩
 have hx0:=hx.1 e0 he0;have hx1:=hx.2 e1 he1;have hb0:=h.at' e0 (List.mem_of_getElem? he0);have hb1:=h.at' e1 (List.mem_of_getElem? he1)
 have hlt:Ii s x < s.length:=Nat.not_le.1 fun hge=>by
   have:=NN s x (s.length - 1) e1 he1 (by omega);omega
 obtain ⟨r,hr⟩:∃ r,Ii s x=r:=⟨_,rfl⟩
 rw [hr] at hlt;obtain ⟨b,hb⟩:=gE hlt;have hbx:x<=b.h:=Zk s x b (by rw [hr];exact hb);have hin:∀ (j:Nat) (z:Lev),j < r->s[j]?= some z->z.h < x:=fun j z hj hz=>NN s x j z hz (by omega)
 have hbb:=h.lev b (List.mem_of_getElem? hb);have hbh:=h.at' b (List.mem_of_getElem? hb);have hI:(r:Int) < s.length:=by omega
 have hbnx:¬ b.h < x:=by omega
 by_cases hit:b.h=x
 . rw [TY r s b hb hit hin]
   refine CB func141 zq fun E hE=>?_
   simp [p141];refine BL (α:=Nat) 0 (fun _:Unit=>⟨AO [(0, .d (BF s)),(1,vi x),(4, .lp 0 0),(5,vi r)],lk [(0,[vi 0,vi 0])],1⟩) (fun _=>True) (fun i=>⟨AO [(0, .d (BF s)),(1,vi x),(4, .lp 0 0),(5,vi i)],lk [(0,[vi 0,vi 0])],1⟩) (fun i=>i<=r) (fun i=>r - i) 0 ?_ ?_ ?_ fun _ _=>?_
   . omega
   . exact WK hE (lk [(0,0)])
   . intro i hi
     have hIi:(i:Int) < s.length:=by omega
     obtain ⟨z,hz⟩:∃ z,s[i]?= some z:=⟨_,List.getElem?_eq_getElem (by omega)⟩
     have hw:=@wz i (by omega);by_cases h2:i < r
     . have hzx:=hin i z h2 hz
       simp [sS,hz,hzx,hw];refine ⟨i+1,by omega,by omega,?_⟩;exact WK hE (lk [(0,0)])
     . have e:i=r:=by omega
       subst e;simp [sS,hb,hbnx];exact WK hE (lk [(0,0)])
   simp [AA,hb,hit];apply RZ;simp [results141]
 . have hr1:1<=r:=Nat.not_lt.1 fun h0=>by
     have:r=0:=by omega
     subst this;rw [he0] at hb;cases hb;omega
   obtain ⟨q,hq⟩:∃ q,r=q+1:=⟨r - 1,by omega⟩
   obtain ⟨a,ha⟩:∃ a,s[q]?= some a:=⟨_,List.getElem?_eq_getElem (by omega)⟩
   rw [TZ q s a b ha (by rw [<-hq];exact hb) (by omega) fun j z hj hz=>hin j z (by omega) hz];have hax:=hin q a (by omega) ha;have hs:=h.step q a b ha (by rw [<-hq];exact hb);have hal:=(h.lev a (List.mem_of_getElem? ha)).1;have hah:=h.at' a (List.mem_of_getElem? ha);have ht:=(Oq h (h.inS ha) (h.inS hb)).p;have hw:IntKind.wrap .i64 ((r:Int) - 1)=(q:Int):=by rw [AD (by omega) (by omega)];omega
   have hw2:IntKind.wrap .i64 (x - a.h)=x - a.h:=AD (by omega) (by omega);have hQ:(q:Int) < s.length:=by omega
   have c2:=tu s a.h b.h (by omega) (by intro e;rw [e] at hlen;simp at hlen) (by omega);have c3:=yB a.pl a.ph (x - a.h) (tmS (knT s) a.h b.h).1 (tmS (knT s) a.h b.h).2 (by omega) (by omega) (by omega) ht;refine CB func141 zq fun E hE=>?_
   simp [p141];refine BL (α:=Nat) 0 (fun _:Unit=>⟨AO [(0, .d (BF s)),(1,vi x),(4, .lp 0 0),(5,vi r)],lk [(0,[vi 0,vi 0])],1⟩) (fun _=>True) (fun i=>⟨AO [(0, .d (BF s)),(1,vi x),(4, .lp 0 0),(5,vi i)],lk [(0,[vi 0,vi 0])],1⟩) (fun i=>i<=r) (fun i=>r - i) 0 ?_ ?_ ?_ fun _ _=>?_
   . omega
   . exact WK hE (lk [(0,0)])
   . intro i hi
     have hIi:(i:Int) < s.length:=by omega
     obtain ⟨z,hz⟩:∃ z,s[i]?= some z:=⟨_,List.getElem?_eq_getElem (by omega)⟩
     have hw:=@wz i (by omega);by_cases h2:i < r
     . have hzx:=hin i z h2 hz
       simp [sS,hz,hzx,hw];refine ⟨i+1,by omega,by omega,?_⟩;exact WK hE (lk [(0,0)])
     . have e:i=r:=by omega
       subst e;simp [sS,hb,hbnx];exact WK hE (lk [(0,0)])
   simp [AA,ha,hb,hit,hw,hw2,inC,Nat.testBit];refine CLa c2 ?_;simp [inC,Nat.testBit];refine CLa c3 ?_;simp [AA,hb,inC,Nat.testBit];apply RZ;simp [results141,lc,lw]
end Go.Proofs.Tryz
