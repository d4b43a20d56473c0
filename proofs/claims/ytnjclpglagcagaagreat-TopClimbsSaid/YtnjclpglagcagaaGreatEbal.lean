/- Own lemmas, used by the last text. Conditions: those that each theorem states. -/
import Derived.RecoverIn
import Derived.Test.YtnjclpglagcagaaGreatEbae
import Derived.Test.YtnjclpglagcagaaGreatEbag
import Derived.Test.YtnjclpglagcagaaGreatEbah
import Derived.Test.YtnjclpglagcagaaGreatEbai
import Derived.Test.YtnjclpglagcagaaGreatEbaj
import Derived.Test.YtnjclpglagcagaaGreatEbak
set_option maxRecDepth 200000
set_option maxHeartbeats 8000000
namespace Go.Proofs.Tryz
open Go.Psl
open Go.Air
abbrev Nv:V:= .d (.lit (.slice none 0 0))
theorem AQ4:∀ x:Lev,(A5 x).length=5:=fun _=>rfl
theorem AQ5:∀ x:Gal,(galL x).length=6:=fun _=>rfl
@[simp] theorem ASr {α:Type} {f:α->List D} {l:List α} {a b c d e g:D}:Bv (AH f l++[V.d a,V.d b,V.d c,V.d d,V.d e,V.d g])=True:=eq_true (FO rfl)
theorem APd (ns:List Nws) (r:Rts) (t nw:Int) (d:SnD) (hdd:d=⟨ns,r,t,nw⟩) (hd:SnO d) (p:List Pst) (hp:p.length<=1000) (ho:ALW r ns t nw=0) (hc:AMR p=true) (hg:p.any (fun x=>!rgB 0 500 [x.g])=false) (R:V) (L1:List (Nat × List V)) (hRI:LD R L1)
   (hErr:∀ i,i<p.length->(∀ j,j<i->ALQ d j=0)->ALQ d i≠0->R= .tup [Nv,Nv,vi (ALQ d i)]/\L1=[])
   (h21:(∀ j,j<p.length->ALQ d j=0)->ufA d p.length=true->R= .tup [Nv,Nv,vi 21]/\L1=[])
   (hOk:(∀ j,j<p.length->ALQ d j=0)->ufA d p.length=false->R= .tup [.ls 0 0 p.length 5, .ls 1 0 p.length 6,vi 0]/\L1=[(0,AH A5 (lvK d p p.length)),(1,AH galL (glK d p p.length))]):
   Ct prog 10 [.d (ALO p),AMT r, .d (ALV ns),vi t,vi nw] R L1:=by
 have hdt:d.t=t:=by rw [hdd]
 have hdn:d.nw=nw:=by rw [hdd]
 have hdr:cF d.ns d.r=cF ns r:=by rw [hdd]
 have hl2:ns.length<=1000:=by have:=hd.l;rw [hdd] at this;exact this
 have c0:=AN2 r ns t nw (by omega) ho;have c1:=ASa p (by omega);rw [hc] at c1;have c2:=yy p 33 [] (fun x=>!rgB 0 500 [x.g]) (by omega) fun x _=>ASZ x
 rw [hg] at c2;have z:∀ (H:Hp) (x:Int),FzC H (vi x) (vi x):=fun H x=>⟨_,rfl, .inl rfl⟩
 have c0:Cm prog 29 [AMT r, .d (ALV ns),vi 0,vi 1, .ls 8388608 0 2 1] (lk [(8388608,[vi t,vi nw])]) [] _ _:=Cm.give c0 ⟨⟨z _ _,z _ _,z _ _,trivial⟩, .inl rfl, .inl rfl, .inl rfl,Ap (by simp [lk]),trivial⟩
 have hp2:2<=p.length:=by
   unfold AMR at hc;rw [Bool.and_eq_true] at hc;have:=hc.2;simp [rgB] at this;omega
 refine Ct.by gok eok mixed func10 c10 rfl (by simp [ntmps10]) (by simp) hRI fun E hE=>?_
 simp [p10,AA,AM];refine CRs c0 (by simp) ?_;simp;refine CLa c1 ?_;simp;refine CLa c2 ?_;simp [AA];refine Al (α:=Nat) (fun i=>⟨AO [(3,vi d.t),(4,vi d.nw),(13, .d (cF d.ns d.r)),(15, .lp 1 0),(16,hdF 5 (lvK d p i) 2),(17,hdF 6 (glK d p i) 3),(18,vb (ufA d i)),(54, .d (ALO p)),(55,vi p.length),(56,vi i)],lk ([(1,AMa)]++(ouF A5 (lvK d p i) 2++ouF galL (glK d p i) 3)),4⟩) (fun i=>i<=p.length/\∀ j,j<i->ALQ d j=0) (fun i=>p.length-i) 0 ?_ ?_ ?_
 . exact ⟨by omega,fun j hj=>by omega⟩
 . rw [show lvK d p 0=[] from rfl,show glK d p 0=[] from rfl,Aq,Au,Aq,Au,show ufA d 0=false from rfl,hdt,hdn,hdr]
   exact WK hE (lk [(1,35651584)])
 . rintro i ⟨hi,hz⟩
   by_cases h:i<p.length
   . obtain ⟨x,hx⟩:=gE h
     have hI:(i:Int)<p.length:=by omega
     have hw:=@wz i (by omega);have hlx:=ALw (d:=d) hx;have hgx:=ALx (d:=d) hx;by_cases h0:i=0
     . have g1:lvK d p i=[]:=by rw [h0];rfl
       have g2:glK d p i=[]:=by rw [h0];rfl
       rw [g1,g2,Aq,Au,Aq,Au];rw [g1] at hlx;rw [g2] at hgx;simp [qJ,hI,hx,AA];refine BL (α:=Nat) 2 (fun _:Unit=>⟨AO [(3,vi d.t),(4,vi d.nw),(13, .d (cF d.ns d.r)),(15, .lp 1 0),(16,Nv),(17,Nv),(18,vb (ufK d i 4 (ufA d i))),(20, .lp 4 0),(21, .lp 5 0),(54, .d (ALO p)),(55,vi p.length),(56,vi i)],lk [(1,AMa),(4,[vi x.h,vi x.g]),(5,vB d i 4)],6⟩) (fun _=>∀ j,1<=j->j<=4->knE d i j=0) (fun y=>⟨AO [(3,vi d.t),(4,vi d.nw),(13, .d (cF d.ns d.r)),(15, .lp 1 0),(16,Nv),(17,Nv),(18,vb (ufK d i y (ufA d i))),(19,vi i),(20, .lp 4 0),(21, .lp 5 0),(22,vi (y+1:Nat)),(54, .d (ALO p)),(55,vi p.length),(56,vi i)],lk [(1,AMa),(4,[vi x.h,vi x.g]),(5,vB d i y)],6⟩) (fun y=>y<=4/\∀ j,1<=j->j<=y->knE d i j=0) (fun y=>4-y) 0 ?_ ?_ (fun y hy=>AQB d hd p i x (ufA d i) hE ?_ y hy.1 hy.2) fun _ hz4=>?_
       . exact ⟨by omega,fun j h1 h2=>by omega⟩
       . refine AI.mk hE (lk [(1,1),(4,4194308),(5,7340036)]) _ _ _ ?_ ?_ ?_ ?_ ?_<;>simp [ufK,vA]
       . intro e st he hne hn
         subst he;obtain ⟨rfl,rfl⟩:=hErr i h hz hne;simp;apply RZ;simp [results10,hn.a,hn.b,hn.c]
       have hps:=AMm hz4;simp [AA,AM,hw,vA];refine ⟨i+1,⟨by omega,fun j hj=>by rw [show j=i by omega];exact hps⟩,by omega,?_⟩;rw [hlx,hgx,List.nil_append,List.nil_append,Ak (by simp),Ak (by simp),AZ (by simp),AZ (by simp),show ufA d (i+1)=ufK d i 4 (ufA d i) from rfl];refine AI.mk hE (lk [(1,1),(2,9437190),(3,24117254)]) _ _ _ ?_ ?_ ?_ ?_ ?_<;>simp [AH]
     . have n1:lvK d p i≠[]:=fun e=>by have:=ALY (d:=d) hi;rw [e] at this;simp at this;omega
       have n2:glK d p i≠[]:=fun e=>by have:=ALZ (d:=d) hi;rw [e] at this;simp at this;omega
       have l1:=ALY (d:=d) hi;have l2:=ALZ (d:=d) hi;rw [Ak n1,Ak n2,AZ n1,AZ n2]
       generalize lvK d p i=L at*
       generalize glK d p i=G at*
       simp [qJ,hI,hx,AA];refine BL (α:=Nat) 2 (fun _:Unit=>⟨AO [(3,vi d.t),(4,vi d.nw),(13, .d (cF d.ns d.r)),(15, .lp 1 0),(16, .ls 2 0 L.length 5),(17, .ls 3 0 G.length 6),(18,vb (ufK d i 4 (ufA d i))),(20, .lp 4 0),(21, .lp 5 0),(54, .d (ALO p)),(55,vi p.length),(56,vi i)],lk [(1,AMa),(4,[vi x.h,vi x.g]),(5,vB d i 4),(2,AH A5 L),(3,AH galL G)],6⟩) (fun _=>∀ j,1<=j->j<=4->knE d i j=0) (fun y=>⟨AO [(3,vi d.t),(4,vi d.nw),(13, .d (cF d.ns d.r)),(15, .lp 1 0),(16, .ls 2 0 L.length 5),(17, .ls 3 0 G.length 6),(18,vb (ufK d i y (ufA d i))),(19,vi i),(20, .lp 4 0),(21, .lp 5 0),(22,vi (y+1:Nat)),(54, .d (ALO p)),(55,vi p.length),(56,vi i)],lk [(1,AMa),(4,[vi x.h,vi x.g]),(5,vB d i y),(2,AH A5 L),(3,AH galL G)],6⟩) (fun y=>y<=4/\∀ j,1<=j->j<=y->knE d i j=0) (fun y=>4-y) 0 ?_ ?_ (fun y hy=>AQC d hd p i x (ufA d i) L G hE ?_ y hy.1 hy.2) fun _ hz4=>?_
       . exact ⟨by omega,fun j h1 h2=>by omega⟩
       . refine AI.mk hE (lk [(1,1),(4,4194308),(5,7340036),(2,2),(3,3)]) _ _ _ ?_ ?_ ?_ ?_ ?_<;>simp [ufK,vA]
       . intro e st he hne hn
         subst he;obtain ⟨rfl,rfl⟩:=hErr i h hz hne;simp;apply RZ;simp [results10,hn.a,hn.b,hn.c]
       have hps:=AMm hz4;have s1:=Aw AQ4 L;have s2:=E9 AQ4 L;have s3:=Aw AQ5 G;have s4:=E9 AQ5 G;have m1:(L.length+1)*40<=140737488355328:=by omega
       have m2:L.length+1<=9223372036854775807:=by omega
       have m3:(G.length+1)*48<=140737488355328:=by omega
       have m4:G.length+1<=9223372036854775807:=by omega
       simp [AA,AM,hw,vA,s1,s2,s3,s4,m1,m2,m3,m4]
       refine ⟨i+1,⟨by omega,fun j hj=>by
         by_cases e:j=i
         . rw [e];exact hps
         . exact hz j (by omega)⟩,by omega,?_⟩
       rw [hlx,hgx,Ak (by simp),Ak (by simp),AZ (by simp),AZ (by simp),IV,IV,show ufA d (i+1)=ufK d i 4 (ufA d i) from rfl];exact WK hE (lk [(1,1),(2,9437190),(3,24117254)])
   . have hI:¬ (i:Int)<p.length:=by omega
     have e:i=p.length:=by omega
     subst e;have n1:lvK d p p.length≠[]:=fun e=>by have:=ALY (d:=d) hi;rw [e] at this;simp at this;omega
     have n2:glK d p p.length≠[]:=fun e=>by have:=ALZ (d:=d) hi;rw [e] at this;simp at this;omega
     have l1:=ALY (d:=d) hi;have l2:=ALZ (d:=d) hi;rw [Ak n1,Ak n2,AZ n1,AZ n2];cases hu:ufA d p.length with
     | true=>
       obtain ⟨rfl,rfl⟩:=h21 hz hu;simp [qJ,hI];apply RZ;simp [results10]
     | false=>
       obtain ⟨rfl,rfl⟩:=hOk hz hu;simp [qJ,hI,l1,l2];refine AB.by (lk [(0,2),(1,3)]) ?_;simp [results10]
def ALT (p:List Pst) (r:Rts) (ns:List Nws) (t nw:Int):(List Lev × List Gal) × Int:=
 if ALW r ns t nw≠0 then (([],[]),ALW r ns t nw)
 else if !AMR p||p.any (fun x=>!rgB 0 500 [x.g]) then (([],[]),2)
 else match (List.range p.length).find? fun i=>decide (ALQ ⟨ns,r,t,nw⟩ i≠0) with
   | some i=>(([],[]),ALQ ⟨ns,r,t,nw⟩ i)
   | none=>if ufA ⟨ns,r,t,nw⟩ p.length then (([],[]),21) else ((lvK ⟨ns,r,t,nw⟩ p p.length,glK ⟨ns,r,t,nw⟩ p p.length),0)
theorem AQ6 {r:Rts} {ns:List Nws} {t nw:Int} (h:ALW r ns t nw=0):SnO ⟨ns,r,t,nw⟩/\(0<=nw/\nw<=1000000)/\ns.length<=100:=by
 unfold ALW at h;by_cases hc:AL3 ns=0
 . rw [if_neg (by simp [hc])] at h
   have h2:(rgB 0 100 [r.p,r.t,r.w]&&rgB 0 1000000 [t,nw])=true:=by
     cases e:(rgB 0 100 [r.p,r.t,r.w]&&rgB 0 1000000 [t,nw]) with
     | true=>rfl
     | false=>rw [e] at h;simp at h
   rw [Bool.and_eq_true] at h2;simp [rgB] at h2;unfold AL3 at hc;split at hc
   . cases hc
   . rename_i hl
     split at hc
     . rename_i ha
       have hr:OkR r:=⟨by omega,by omega,by omega⟩
       exact ⟨⟨hr,fun x hx=>AQd (List.all_eq_true.1 ha x hx),by show ns.length<=1000;omega,by show 0<=t/\t<=1000000;omega⟩,by omega,by omega⟩
     . cases hc
 . rw [if_pos hc] at h
   exact absurd h hc
theorem ANE {α:Type} {f:α->List D} {sz b:Nat} (hf:∀ x,(f x).length=sz) {H:Hp} {l:List α} (h:H b=some (AH f l)):Fz1 H (.ls b 0 l.length sz) (.d (slD f sz l)):=B0 hf h
theorem APe {H:Hp} {sz:Nat}:Fz1 H Nv (.d (.sl sz [])):=Or.inr ⟨rfl,sz,rfl⟩
theorem AMF {p:List Pst} {r:Rts} {ns:List Nws} {t nw e:Int} (h:Ct prog 10 [.d (ALO p),AMT r, .d (ALV ns),vi t,vi nw] (.tup [Nv,Nv,vi e]) []):Ct prog 10 [.d (ALO p),AMT r, .d (ALV ns),vi t,vi nw] (.tup [.d (BF []), .d (cT []),vi e]) []:=
 Cm.freeze h ⟨APe,APe,Or.inl rfl,trivial⟩
theorem AQH (p:List Pst) (r:Rts) (ns:List Nws) (t nw:Int) (hp:p.length<=1000) (hn:ns.length<=1000000):Ct prog 10 [.d (ALO p),AMT r, .d (ALV ns),vi t,vi nw] (.tup [.d (BF (ALT p r ns t nw).1.1), .d (cT (ALT p r ns t nw).1.2),vi (ALT p r ns t nw).2]) []:=by
 by_cases ho:ALW r ns t nw=0
 case neg=>
   have e:ALT p r ns t nw=(([],[]),ALW r ns t nw):=by unfold ALT;rw [if_pos ho]
   have c0:=APp r ns t nw hn ho;rw [e];refine AMF ?_;refine CB func10 c10 fun E hE=>?_
   simp [p10,AA,AM];refine CLb (c0) (by simp [Ap]) ?_;simp [ho];apply RZ;simp [results10]
 have c0:=AN2 r ns t nw hn ho;have z:∀ (H:Hp) (x:Int),FzC H (vi x) (vi x):=fun H x=>⟨_,rfl, .inl rfl⟩
 have c0:Cm prog 29 [AMT r, .d (ALV ns),vi 0,vi 1, .ls 8388608 0 2 1] (lk [(8388608,[vi t,vi nw])]) [] _ _:=Cm.give c0 ⟨⟨z _ _,z _ _,z _ _,trivial⟩, .inl rfl, .inl rfl, .inl rfl,Ap (by simp [lk]),trivial⟩;have c1:=ASa p (by omega);have c2:=yy p 33 [] (fun x=>!rgB 0 500 [x.g]) (by omega) fun x _=>ASZ x
 cases hc:AMR p with
 | false=>
   have e:ALT p r ns t nw=(([],[]),2):=by unfold ALT;rw [if_neg (by simp [ho]),hc];rfl
   rw [hc] at c1;rw [e];refine AMF ?_;refine CB func10 c10 fun E hE=>?_
   simp [p10,AA,AM];refine CRs c0 (by simp) ?_;simp;refine CLa c1 ?_;simp;apply RZ;simp [results10]
 | true=>
   rw [hc] at c1;cases hg:p.any (fun x=>!rgB 0 500 [x.g]) with
   | true=>
     have e:ALT p r ns t nw=(([],[]),2):=by unfold ALT;rw [if_neg (by simp [ho]),hc,hg];rfl
     rw [hg] at c2;rw [e];refine AMF ?_;refine CB func10 c10 fun E hE=>?_
     simp [p10,AA,AM];refine CRs c0 (by simp) ?_;simp;refine CLa c1 ?_;simp;refine CLa c2 ?_;simp;apply RZ;simp [results10]
   | false=>
     obtain ⟨hd,_,hl⟩:=AQ6 ho
     have e:ALT p r ns t nw=match (List.range p.length).find? fun i=>decide (ALQ ⟨ns,r,t,nw⟩ i≠0) with
       | some i=>(([],[]),ALQ ⟨ns,r,t,nw⟩ i)
       | none=>if ufA ⟨ns,r,t,nw⟩ p.length then (([],[]),21) else ((lvK ⟨ns,r,t,nw⟩ p p.length,glK ⟨ns,r,t,nw⟩ p p.length),0):=by
       unfold ALT;rw [if_neg (by simp [ho]),hc,hg];rfl
     rw [e];have hlp:=fun R L1=>APd ns r t nw ⟨ns,r,t,nw⟩ rfl hd p hp ho hc hg R L1
     generalize (⟨ns,r,t,nw⟩:SnD)=d at*
     cases hf:(List.range p.length).find? fun i=>decide (ALQ d i≠0) with
     | some i=>
       obtain ⟨h1,A,B,hAB,h2⟩:=List.find?_eq_some_iff_append.1 hf
       have hi:i<p.length:=by
         have:=List.mem_of_find?_eq_some hf;simpa using this
       have h3:∀ j,j<i->ALQ d j=0:=fun j hj=>by
         have hA:A.length=i:=by
           have h5:(List.range p.length)[A.length]?= some i:=by rw [hAB];simp
           have h6:=(List.getElem?_eq_some_iff.1 h5).2;simpa using h6
         have h7:j∈A:=by
           have h8:(List.range p.length)[j]?= some j:=List.getElem?_range (by omega);rw [hAB,List.getElem?_append_left (by omega)] at h8;exact List.mem_of_getElem? h8
         simpa using h2 j h7
       have h1':ALQ d i≠0:=by simpa using h1
       refine AMF (hlp _ _ (by simp [LD]) (fun k hk hz hne=>?_) (fun hz=>?_) (fun hz=>?_))
       . rcases Nat.lt_trichotomy k i with h | h | h
         . exact absurd (h3 k h) hne
         . subst h;exact ⟨rfl,rfl⟩
         . exact absurd (hz i h) h1'
       . exact absurd (hz i hi) h1'
       . exact absurd (hz i hi) h1'
     | none=>
       have h1:∀ j,j<p.length->ALQ d j=0:=fun j hj=>by
         have:=List.find?_eq_none.1 hf j (by simpa using hj);simpa using this
       simp only;cases hu:ufA d p.length with
       | true=>
         simp only [if_true];exact AMF (hlp _ _ (by simp [LD]) (fun k hk hz hne=>absurd (h1 k hk) hne) (fun _ _=>⟨rfl,rfl⟩) (fun _ h=>by rw [hu] at h;cases h))
       | false=>
         simp only [Bool.false_eq_true,if_false];refine Cm.freeze (hlp (.tup [.ls 0 0 p.length 5, .ls 1 0 p.length 6,vi 0]) [(0,AH A5 (lvK d p p.length)),(1,AH galL (glK d p p.length))] (by simp [LD]) (fun k hk hz hne=>absurd (h1 k hk) hne) (fun _ h=>by rw [hu] at h;cases h) (fun _ _=>⟨rfl,rfl⟩)) ?_;have l1:=ALY (d:=d) (p:=p) (Nat.le_refl _);have l2:=ALZ (d:=d) (p:=p) (Nat.le_refl _);have k1:=ANE (H:=lk [(0,AH A5 (lvK d p p.length)),(1,AH galL (glK d p p.length))]) (b:=0) AQ4 (l:=lvK d p p.length) (by simp);have k2:=ANE (H:=lk [(0,AH A5 (lvK d p p.length)),(1,AH galL (glK d p p.length))]) (b:=1) AQ5 (l:=glK d p p.length) (by simp);rw [l1] at k1;rw [l2] at k2;exact ⟨k1,k2,Or.inl rfl,trivial⟩
end Go.Proofs.Tryz
namespace Go.Geo
def box (a b p:C):Prop:=(min a.1 b.1<=p.1/\p.1<=max a.1 b.1)/\min a.2 b.2<=p.2/\p.2<=max a.2 b.2
def InR (r:List C) (p:C):Prop:=(∀ e∈cyc r,0<=Ao e.1 e.2 p)/\(2<r.length\/∃ a b,r.head?= some a/\r.getLast?= some b/\box a b p)
theorem dR {a b p:C} (hab:lt a b) (h1:le a p) (h2:le p b) (hc:Ao a b p=0):box a b p:=by
 unfold box;unfold le lt at h1 h2;unfold lt at hab;unfold Ao at hc;rcases hab with hab | ⟨h3,h4⟩
 . have k1:0<=p.1-a.1:=by omega
   have k2:0<=b.1-p.1:=by omega
   have e1:(b.1-a.1)*(p.2-a.2)=(b.2-a.2)*(p.1-a.1):=by omega
   have e2:(b.1-a.1)*(b.2-p.2)=(b.2-a.2)*(b.1-p.1):=by grind
   rcases Int.le_total a.2 b.2 with h | h
   . have q1:=Int.mul_nonneg (show 0<=b.2-a.2 by omega) k1
     have q2:=Int.mul_nonneg (show 0<=b.2-a.2 by omega) k2;have:=C8 (show 0<b.1-a.1 by omega) (by rw [e1];exact q1);have:=C8 (show 0<b.1-a.1 by omega) (by rw [e2];exact q2);omega
   . have q1:=Int.mul_nonneg (show 0<=a.2-b.2 by omega) k1
     have q2:=Int.mul_nonneg (show 0<=a.2-b.2 by omega) k2
     have:=C8 (y:=a.2-p.2) (show 0<b.1-a.1 by omega) (by
      have:(b.1-a.1)*(a.2-p.2)=(a.2-b.2)*(p.1-a.1):=by grind
      rw [this];exact q1)
     have:=C8 (y:=p.2-b.2) (show 0<b.1-a.1 by omega) (by
      have:(b.1-a.1)*(p.2-b.2)=(a.2-b.2)*(b.1-p.1):=by grind
      rw [this];exact q2)
     omega
 . omega
theorem hull_two {l:List C} (h:Sorted l) (h3:¬ l.length<3) (hn:¬ 5<=(chainR l).length+(chainR l.reverse).length):∃ f g,l.head?= some f/\l.getLast?= some g/\lt f g/\Bo l=[f,g]/\chainR l=[g,f]/\chainR l.reverse=[f,g]:=by
 obtain ⟨f,g,lo,up,hf,hg,hfg,e1,e2,b1,b2⟩:=Q2 h (by omega)
 have hgl:lt f g:=by
   rcases lt_tri f g with h1 | h1 | h1
   . exact h1
   . exact absurd h1 hfg
   . exact absurd h1 (Dh h hf g (List.mem_of_getLast? hg))
 refine ⟨f,g,hf,hg,hgl,?_⟩;rw [e1,e2] at hn;unfold Bo;rw [if_neg h3,e1,e2]
 match lo,up,b1,b2,hn with
 | [x],[y],b1,b2,_=>simp at b1 b2;subst b1;subst b2;exact ⟨rfl,rfl,rfl⟩
 | [],_,b1,_,_=>simp at b1
 | _,[],_,b2,_=>simp at b2
 | _::_::_,_::_,_,_,hn=>simp at hn;omega
 | [_],_::_::_,_,_,hn=>simp at hn;omega
theorem hull_len {l:List C} (h3:¬ l.length<3):(Bo l).length+2=(chainR l).length-1+((chainR l.reverse).length-1)+2:=by
 unfold Bo;rw [if_neg h3];simp
theorem chain_len2 {l:List C} (h:Sorted l) (h2:2<=l.length):2<=(chainR l).length/\2<=(chainR l.reverse).length:=by
 obtain ⟨f,g,lo,up,hf,hg,hfg,e1,e2,b1,b2⟩:=Q2 h h2;rw [e1,e2];constructor
 . cases lo with | nil=>simp at b1 | cons=>simp
 . cases up with | nil=>simp at b2 | cons=>simp
theorem hull_in {l:List C} (h:Sorted l):∀ q∈l,InR (Bo l) q:=by
 intro q hq;by_cases h3:l.length<3
 . have e:Bo l=l:=by unfold Bo;rw [if_pos h3]
   rw [e]
   match l,h3,h,hq with
   | [],_,_,hq=>simp at hq
   | [a],_,_,hq=>
     simp at hq;subst hq;refine ⟨fun e he=>?_,Or.inr ⟨q,q,rfl,rfl,by unfold box;omega⟩⟩;simp [cyc,steps] at he;subst he;rw [cross_self];omega
   | [a,b],_,h,hq=>
     refine ⟨fun e he=>?_,Or.inr ⟨a,b,rfl,rfl,?_⟩⟩
     . simp [cyc,steps] at he
       simp at hq;rcases he with rfl | rfl<;>rcases hq with rfl | rfl<;>simp only [cross_self,cross_self2]<;>omega
     . simp at hq
       rcases hq with rfl | rfl<;>(unfold box;omega)
   | _::_::_::_,h3,_,_=>simp at h3;omega
 . have hl:=UN h (by omega)
   refine ⟨fun e he=>hl e he q hq,?_⟩;have hlen:=hull_len h3;have h22:=chain_len2 h (by omega);by_cases hn:5<=(chainR l).length+(chainR l.reverse).length
   . left;omega
   . right
     obtain ⟨f,g,hf,hg,hfg,e,_⟩:=hull_two h h3 hn;refine ⟨f,g,by rw [e];rfl,by rw [e];rfl,?_⟩;have c1:=hl (f,g) (by rw [e];simp [cyc,steps]) q hq;have c2:=hl (g,f) (by rw [e];simp [cyc,steps]) q hq;simp only at c1 c2;rw [cross_swap2] at c2
     have hlast:le q g:=by
       have hs:=Ks h;have:=Dh hs (f:=neg g) (by rw [List.head?_map,List.head?_reverse,hg];rfl) (neg q) (List.mem_map.2 ⟨q,List.mem_reverse.2 hq,rfl⟩);intro hlt;exact this (Qy.2 hlt)
     exact dR hfg (Dh h hf q hq) hlast (by omega)
theorem Eb.mono {d d':List C} (hd:∀ q∈d',q∈d):∀ {st:List C},Eb d st->Eb d' st
 | [],_=>trivial
 | [_],_=>trivial
 | [_,_],h=>⟨h.1,fun q hq=>h.2 q (hd q hq)⟩
 | _::_::_::_,h=>⟨h.1,h.2.1,fun q hq=>h.2.2.1 q (hd q hq),Eb.mono hd h.2.2.2⟩
def dot (d v:C):Int:=d.1*v.1+d.2*v.2
def T (w v:C):C:=(-(xp w v), -(dot w v))
theorem MG:∀ l:List C,(steps l).length=l.length-1
 | []=>rfl
 | [_]=>rfl
 | _::b::r=>by simp only [steps,List.length_cons];rw [MG (b::r)];simp
theorem O3:∀ (l:List C) (i:Nat) (a b:C),l[i]?= some a->l[i+1]?= some b->(steps l)[i]?= some (a,b)
 | [],_,_,_,h,_=>by simp at h
 | [_],i,_,_,_,h=>by simp at h
 | x::y::r,0,a,b,h1,h2=>by simp at h1 h2;subst h1;subst h2;rfl
 | x::y::r,i+1,a,b,h1,h2=>by
   simp only [steps,List.getElem?_cons_succ] at h1 h2 ⊢;exact O3 (y::r) i a b h1 h2
theorem cyc_len (r:List C):(cyc r).length=r.length:=by
 cases r with
 | nil=>rfl
 | cons a t=>simp only [cyc];rw [MG];simp
theorem cyc_at {r:List C} {i j:Nat} {a b:C} (ha:r[i]?= some a) (hj:j=(i+1)%r.length) (hb:r[j]?= some b):(cyc r)[i]?= some (a,b):=by
 cases r with
 | nil=>simp at ha
 | cons x t=>
   have hi:=(List.getElem?_eq_some_iff.1 ha).1;simp only [cyc];refine O3 _ i a b ?_ ?_
   . rw [List.getElem?_append_left hi];exact ha
   . by_cases h:i+1<(x::t).length
     . rw [Nat.mod_eq_of_lt h] at hj
       subst hj;rw [List.getElem?_append_left h];exact hb
     . have e:i+1=(x::t).length:=by omega
       rw [e,Nat.mod_self] at hj;subst hj;simp at hb;subst hb;rw [e,List.getElem?_append_right (Nat.le_refl _),Nat.sub_self];rfl
theorem MH:∀ {l:List C} {e:C × C},e∈steps l->e.1∈l/\e.2∈l
 | [],_,h=>by simp [steps] at h
 | [_],_,h=>by simp [steps] at h
 | a::b::r,e,h=>by
   simp only [steps,List.mem_cons] at h;rcases h with rfl | h
   . simp
   . have:=MH (l:=b::r) h
     exact ⟨List.mem_cons_of_mem _ this.1,List.mem_cons_of_mem _ this.2⟩
theorem cyc_mem {r:List C} {e:C × C} (h:e∈cyc r):e.1∈r/\e.2∈r:=by
 cases r with
 | nil=>simp [cyc] at h
 | cons a t=>
   simp only [cyc] at h;have:=MH h;simp only [List.mem_append,List.mem_cons,List.not_mem_nil,or_false] at this ⊢;constructor
   . rcases this.1 with h | h;exact h;exact Or.inl h
   . rcases this.2 with h | h;exact h;exact Or.inl h
end Go.Geo
namespace Go.Proofs.Tryz
open Go.Psl
open Go.Geo (Ao cyc InR box)
def ZU (p:Int × Int) (es:List ((Int × Int) × (Int × Int))):Bool:=es.all fun e=>decide (0<=Ao e.1 e.2 p)
theorem MJ {p:Int × Int} {es:List ((Int × Int) × (Int × Int))}:ZU p es=true↔∀ e∈es,0<=Ao e.1 e.2 p:=by
 unfold ZU;simp [List.all_eq_true]
def ZV (n lo hi:Int):Bool:=decide (lo<=n)&&decide (n<=hi)
def Lj (r:List (Int × Int)) (p:Int × Int):Bool:=match r with
 | []=>false
 | [a]=>decide (a=p)
 | a::b::t=>ZU p (cyc r)&&(decide (0<t.length)||(ZV p.1 a.1 b.1&&ZV p.2 (min a.2 b.2) (max a.2 b.2)))
theorem ASX (r:List (Int × Int)):Ct prog 199 [.d (An r)] (.cl 212 [.lp 0 0]) [(0,[.d (An r)])]:=by
 refine CB func199 c199 fun E hE=>?_
 simp [p199];refine AB.by (lk [(0,0)]) ?_;simp [results199]
theorem MK (r:List (Int × Int)) (hl:r.length<=1000000) (KS:List Nat) (k a m:Nat) (go:Nat->Bool) (L:Nat->List (Nat × List V)) (hk:k∈KS) (ha:a∈KS) (hN:∀ i∈KS,i<1000000000) (hm:m<=r.length) (hL:∀ i,i<=m->A4 KS (L i))
   (hrec:∀ i,i<m->∃ fr nt ps pa pb jmp,lk (L i) k=some [.lr fr nt ps pa pb jmp]/\ps.length=2) (hbox:∀ i,i<=m->lk (L i) a=some [.d (An r)]) (hgo:∀ j,j+1<m->go j=true) (hend:m=r.length\/(0<m/\go (m-1)=false))
   (hY:∀ i x y,i<m->(cyc r)[i]?= some (x,y)->Ym prog k [vsp x.1 x.2,vsp y.1 y.2] (lk (L i)) KS (.ret (vb (go i))) (lk (L (i+1)))):
   Cm prog 212 [.yl k, .lp a 0] (lk (L 0)) KS (.ret (.tup [])) (lk (L m)):=by
 refine Cm.by gok eok mixed 1000000000 func212 c212 rfl (by simp [ntmps212]) (by simp;exact ⟨hN k hk,hN a ha⟩) (A7.at ((hL 0 (by omega)).ids hN)) hN ⟨by simp,(hL m (Nat.le_refl _)).res⟩ fun E hs hE=>?_
 have haN:=hN a ha;have na:∀ x,1000000000<=x->¬ a=x:=fun x _=>by omega
 have la:∀ x,1000000000<=x->a<x:=fun x _=>by omega
 have b0:=hbox 0 (by omega);simp [p212,b0];refine Al (α:=Nat) (fun i=>⟨AO [(0, .yl k),(1, .lp a 0),(5, .d (An r)),(6,vi r.length),(7,vi i)],lk (L i),1000000000⟩) (fun i=>i<=m/\(i=m->m=r.length)) (fun i=>m-i) 0 ?_ ?_ ?_
 . omega
 . refine AI.keep hs (hL 0 (by omega)) (fun i _=>by simp) hN _ ?_ ?_
   . simp [Cr hk,Cr ha]
   . simp [hN k hk,hN a ha]
 . rintro i ⟨hi,him⟩
   simp [APS];refine Bh (fun h=>?_) (fun h=>?_)
   . simp at h
     have him2:i<m:=by omega
     have bi:=hbox i hi;obtain ⟨x,hx⟩:=gE h;obtain ⟨n,hn⟩:∃ n,r.length=n:=⟨_,rfl⟩
     rw [hn] at h hl hm him hend;obtain ⟨j,hj⟩:∃ j,j=(i+1)%n:=⟨_,rfl⟩
     have hjn:j<n:=by rw [hj];exact Nat.mod_lt _ (by omega)
     obtain ⟨y,hy⟩:∃ y,r[j]?= some y:=⟨r[j],by simp [show j<r.length by omega]⟩
     have hcy:=Go.Geo.cyc_at hx (by rw [hn];exact hj) hy;have hY':=hY i x y him2 hcy;obtain ⟨fr,nt,ps,pa,pb,jmp,hr1,hr2⟩:=hrec i him2;obtain ⟨i1,hi1⟩:∃ i1,i1=i+1:=⟨_,rfl⟩
     have hz:IntKind.wrap .i64 ((i:Int)+1)=(i1:Int):=by rw [AD (by omega) (by omega)];omega
     rw [<-hi1] at hj hY';have q1:(0:Int)<=(i1:Int).tmod (n:Int):=Int.natCast_nonneg (i1%n);have q2:((i1:Int).tmod (n:Int)).toNat=j:=by rw [hj];rfl
     have hnz:¬ (n:Int)=0:=by omega
     have hnz':¬ n=0:=by omega
     simp [hx,hz,hn,inC,Nat.testBit,AA,bi,na,la,hnz',q1,q2,hy];have hne:∀ q∈KS,¬ q=1004194304:=fun q hq e=>by have:=hN q hq;omega
     refine Fp.keep [vsp x.1 x.2,vsp y.1 y.2] (L i) (L i1) KS _ hY' (hL i hi) (hL i1 (by omega)) ⟨fr,nt,ps,pa,pb,jmp,hr1,hr2⟩ (fun q hq=>by simp [hne q hq]) (by simp) ?_;cases hgi:go i
     . have e:i1=m:=by
         by_cases hlt:i+1<m
         . rw [hgo i hlt] at hgi;cases hgi
         . omega
       simp;refine Dc.keep rfl (hL m (Nat.le_refl _)) fun q hq=>by simp [hq,e]
     . simp [hz]
       refine ⟨i1,⟨by omega,fun e=>?_⟩,by omega,?_⟩
       . rcases hend with h1 | ⟨_,h1⟩
         . exact h1
         . rw [show m-1=i by omega,hgi] at h1;cases h1
       . refine AI.keep hs (hL i1 (by omega)) (fun q hq=>by simp [hq]) hN _ ?_ ?_
         . simp [Cr hk,Cr ha]
         . simp [hN k hk,hN a ha]
   . simp at h
     have e:i=m:=by omega
     subst e;simp;exact Dc.keep rfl (hL i (Nat.le_refl _)) fun i _=>by simp
def onS (u v:Int × Int):Bool:=decide (0<=v.1*u.1)&&(decide (0<=v.2*u.2)&&(decide (v.1*v.1<=u.1*u.1)&&decide (v.2*v.2<=u.2*u.2)))
def Ee (sm:Bool) (p:Int × Int) (e:(Int × Int) × (Int × Int)):Bool:=decide (Ao e.1 e.2 p<0)||(decide (Ao e.1 e.2 p=0)&&(sm&&!onS (DU e.1 e.2) (DU e.1 p)))
def EC (sm:Bool) (p:Int × Int) (e:(Int × Int) × (Int × Int)):Option Bool:=if e.1.1=p.1/\e.1.2=p.2 then some true else if Ee sm p e then some false else none
def smS (r:List (Int × Int)):Bool:=decide ((r.length:Int)<3)
def Ll (r:List (Int × Int)) (p:Int × Int):Bool:=((cyc r).findSome? (EC (smS r) p)).getD (decide ((1:Int)<r.length))
def hKS:List Nat:=[5242880,4194304,0,1048576,2097152]
def hL (r:List (Int × Int)) (p:Int × Int) (f:Nat->V) (s:LSt) (v:Bool):List (Nat × List V):=[(5242880,[.lr f 83 [12,13] cP Nd s]),(4194304,[.d (An r)]),(0,[.d (An r)]),(1048576,[vi p.1,vi p.2]),(2097152,[vb v])]
def hAft (r:List (Int × Int)) (p:Int × Int) (f:Nat->V) (o:Option Bool):List (Nat × List V):=match o with | none=>hL r p f .ready false | some v=>hL r p f (.done .ret) v
theorem jG (r:List (Int × Int)) (p:Int × Int) (f:Nat->V) (s:LSt) (v:Bool) (hf:∀ t,AV (·∈hKS) AR (f t)):A4 hKS (hL r p f s v):=by
 refine ⟨rfl,by decide,?_⟩;intro q hq;simp only [hL,List.mem_cons,List.not_mem_nil,or_false] at hq;have hw:WC (rid hKS) (.lr f 83 [12,13] cP Nd s) (.lr f 83 [12,13] cP Nd s):=⟨rfl,fun t=>AV.mono (fun i hi=>Cr hi) (fun _ h=>h) (hf t)⟩
 rcases hq with rfl | rfl | rfl | rfl | rfl
 . exact ⟨by simp,Or.inr (.inl ⟨_,_,_,_,_,_,rfl⟩),fun c hc=>by simp at hc;subst hc;exact hw⟩
 all_goals exact ⟨by simp,Or.inl rfl,fun c hc=>by simp at hc;first | (subst hc;exact rfl) | (rcases hc with rfl | rfl<;>exact rfl)⟩
theorem Vm (r:List (Int × Int)) (p:Int × Int) (f:Nat->V) (hf:∀ t,AV (·∈hKS) AR (f t)) (f2:f 2= .lp 0 0) (f3:f 3= .lp 1048576 0) (f4:f 4= .lp 2097152 0) (_:r.length<=1000000) (hp:bd 268435456 p) (a b:Int × Int) (ba:bd 268435456 a) (bb:bd 268435456 b):
   Ym prog 5242880 [vsp a.1 a.2,vsp b.1 b.2] (lk (hL r p f .ready false)) hKS (.ret (vb (EC (smS r) p (a,b)).isNone)) (lk (hAft r p f (EC (smS r) p (a,b)))):=by
 have hK:=fun s v=>jG r p f s v hf
 have hlt:∀ i∈hKS,i<10000000:=by simp [hKS]
 have key:∀ (s:LSt) (v:Bool),Rnd prog tys eqs 5242880 f 83 [12,13] cP Nd [vsp a.1 a.2,vsp b.1 b.2] (lk (hL r p f .ready false)) hKS s (hL r p f s v) 10000000->Ym prog 5242880 [vsp a.1 a.2,vsp b.1 b.2] (lk (hL r p f .ready false)) hKS (.ret (.d (.lit (.bool (FP s))))) (lk (hL r p f s v)):=fun s v h=>
   Ym.ofR gok eok mixed 10000000 (hK .ready false) (hK s v) hlt (by simp [hL]) (by simp) (by simp) (by simp) h
 by_cases h1:a.1=p.1/\a.2=p.2
 . have e:EC (smS r) p (a,b)=some true:=by unfold EC;rw [if_pos h1]
   rw [e];refine key (.done .ret) true ⟨fun E hE hs=>?_⟩;have hKK:=hK (.done .ret) true;simp only [hL] at hKK ⊢
   generalize V.lr f 83 [12,13] cP Nd=rc at hKK ⊢
   simp [cP,BD,AA];simp [Nd,h1,f3,f4,AA];refine ⟨trivial,Hu.keep hKK ?_ ?_⟩
   . simp
   . simp [hKS]
 . have c1:=rL a b (GM ba (by omega)) (GM bb (by omega))
   have c2:=rL a p (GM ba (by omega)) (GM hp (by omega));have bu:bd 536870912 (DU a b):=NL ba bb rfl;have bv:bd 536870912 (DU a p):=NL ba hp rfl;have c3:=jI (DU a b) (DU a p) (GM bu (by omega)) (GM bv (by omega));have ht:TX (DU a b) (DU a p)=Ao a b p:=rfl;rw [ht] at c3;have e0:EC (smS r) p (a,b)=if Ee (smS r) p (a,b) then some false else none:=by unfold EC;rw [if_neg h1]
   obtain ⟨u,hu⟩:∃ u,DU a b=u:=⟨_,rfl⟩
   obtain ⟨v,hv⟩:∃ v,DU a p=v:=⟨_,rfl⟩
   have eb:Ee (smS r) p (a,b)=(decide (Ao a b p<0)||(decide (Ao a b p=0)&&(smS r&&!onS u v))):=by unfold Ee;rw [hu,hv]
   rw [hu] at c1 c3 bu;rw [hv] at c2 c3 bv;obtain ⟨t,ht⟩:∃ t,Ao a b p=t:=⟨_,rfl⟩
   rw [ht] at c3 eb;have ne:¬ (a.1=p.1/\a.2=p.2):=h1;have nb:(decide (a.1=p.1)&&decide (a.2=p.2))=false:=by rw [<-Bool.not_eq_true,Bool.and_eq_true,decide_eq_true_eq,decide_eq_true_eq];exact h1
   by_cases t1:t<0
   . have e:EC (smS r) p (a,b)=some false:=by rw [e0,eb,decide_eq_true t1];rfl
     rw [e];refine key (.done .ret) false ⟨fun E hE hs=>?_⟩;have hKK:=hK (.done .ret) false;simp only [hL] at hKK ⊢
     generalize V.lr f 83 [12,13] cP Nd=rc at hKK ⊢
     simp [cP,BD,AA];simp [Nd,nb,f3,inC,Nat.testBit];refine CLa c1 ?_;simp [f3,inC,Nat.testBit];refine CLa c2 ?_;simp [AA];refine CLa c3 ?_;simp [t1,f4,AA];refine ⟨trivial,Hu.keep hKK (by simp) (by simp [hKS])⟩
   by_cases t0:t=0
   case neg=>
     have e:EC (smS r) p (a,b)=none:=by rw [e0,eb,decide_eq_false t1,decide_eq_false t0];rfl
     rw [e];refine key .ready false ⟨fun E hE hs=>?_⟩;have hKK:=hK .ready false;simp only [hL] at hKK ⊢
     generalize V.lr f 83 [12,13] cP Nd=rc at hKK ⊢
     simp [cP,BD,AA];simp [Nd,nb,f3,inC,Nat.testBit];refine CLa c1 ?_;simp [f3,inC,Nat.testBit];refine CLa c2 ?_;simp [AA];refine CLa c3 ?_;simp [t1,t0];refine ⟨trivial,Hu.keep hKK (by simp) (by simp [hKS])⟩
   subst t0;by_cases sm:(r.length:Int)<3
   case neg=>
     have e:EC (smS r) p (a,b)=none:=by rw [e0,eb];unfold smS;rw [decide_eq_false sm];rfl
     rw [e];refine key .ready false ⟨fun E hE hs=>?_⟩;have hKK:=hK .ready false;simp only [hL] at hKK ⊢
     generalize V.lr f 83 [12,13] cP Nd=rc at hKK ⊢
     simp [cP,BD,AA];simp [Nd,nb,f3,inC,Nat.testBit];refine CLa c1 ?_;simp [f3,inC,Nat.testBit];refine CLa c2 ?_;simp [AA];refine CLa c3 ?_;simp [sm,f2];refine ⟨trivial,Hu.keep hKK (by simp) (by simp [hKS])⟩
   have eb2:Ee (smS r) p (a,b)=!onS u v:=by rw [eb];unfold smS;rw [decide_eq_true sm];simp
   rw [eb2] at e0
   have mb:∀ x y:Int,(-536870912<=x/\x<=536870912)->(-536870912<=y/\y<=536870912)->IntKind.wrap .i64 (x*y)=x*y:=fun x y hx hy=>by
     have:=NK hx hy;exact AD (by omega) (by omega)
   have w1:=mb v.1 u.1 bv.1 bu.1;have w2:=mb v.2 u.2 bv.2 bu.2;have w3:=mb v.1 v.1 bv.1 bv.1;have w4:=mb u.1 u.1 bu.1 bu.1;have w5:=mb v.2 v.2 bv.2 bv.2;have w6:=mb u.2 u.2 bu.2 bu.2;by_cases g1:0<=v.1*u.1
   case neg=>
     have e:EC (smS r) p (a,b)=some false:=by rw [e0];unfold onS;rw [decide_eq_false g1];rfl
     rw [e];refine key (.done .ret) false ⟨fun E hE hs=>?_⟩;have hKK:=hK (.done .ret) false;simp only [hL] at hKK ⊢
     generalize V.lr f 83 [12,13] cP Nd=rc at hKK ⊢
     simp [cP,BD,AA];simp [Nd,nb,f3,inC,Nat.testBit];refine CLa c1 ?_;simp [f3,inC,Nat.testBit];refine CLa c2 ?_;simp [AA];refine CLa c3 ?_;simp [sm,f2,f4,w1,g1,AA];refine ⟨trivial,Hu.keep hKK (by simp) (by simp [hKS])⟩
   by_cases g2:0<=v.2*u.2
   case neg=>
     have e:EC (smS r) p (a,b)=some false:=by rw [e0];unfold onS;rw [decide_eq_true g1,decide_eq_false g2];rfl
     rw [e];refine key (.done .ret) false ⟨fun E hE hs=>?_⟩;have hKK:=hK (.done .ret) false;simp only [hL] at hKK ⊢
     generalize V.lr f 83 [12,13] cP Nd=rc at hKK ⊢
     simp [cP,BD,AA];simp [Nd,nb,f3,inC,Nat.testBit];refine CLa c1 ?_;simp [f3,inC,Nat.testBit];refine CLa c2 ?_;simp [AA];refine CLa c3 ?_;simp [sm,f2,f4,w1,w2,g1,g2,AA];refine ⟨trivial,Hu.keep hKK (by simp) (by simp [hKS])⟩
   by_cases g3:v.1*v.1<=u.1*u.1
   case neg=>
     have e:EC (smS r) p (a,b)=some false:=by rw [e0];unfold onS;rw [decide_eq_true g1,decide_eq_true g2,decide_eq_false g3];rfl
     rw [e];refine key (.done .ret) false ⟨fun E hE hs=>?_⟩;have hKK:=hK (.done .ret) false;simp only [hL] at hKK ⊢
     generalize V.lr f 83 [12,13] cP Nd=rc at hKK ⊢
     simp [cP,BD,AA];simp [Nd,nb,f3,inC,Nat.testBit];refine CLa c1 ?_;simp [f3,inC,Nat.testBit];refine CLa c2 ?_;simp [AA];refine CLa c3 ?_;simp [sm,f2,f4,w1,w2,w3,w4,g1,g2,g3,AA];refine ⟨trivial,Hu.keep hKK (by simp) (by simp [hKS])⟩
   by_cases g4:v.2*v.2<=u.2*u.2
   case neg=>
     have e:EC (smS r) p (a,b)=some false:=by rw [e0];unfold onS;rw [decide_eq_true g1,decide_eq_true g2,decide_eq_true g3,decide_eq_false g4];rfl
     rw [e];refine key (.done .ret) false ⟨fun E hE hs=>?_⟩;have hKK:=hK (.done .ret) false;simp only [hL] at hKK ⊢
     generalize V.lr f 83 [12,13] cP Nd=rc at hKK ⊢
     simp [cP,BD,AA];simp [Nd,nb,f3,inC,Nat.testBit];refine CLa c1 ?_;simp [f3,inC,Nat.testBit];refine CLa c2 ?_;simp [AA];refine CLa c3 ?_;simp [sm,f2,f4,w1,w2,w3,w4,w5,w6,g1,g2,g3,g4,AA];refine ⟨trivial,Hu.keep hKK (by simp) (by simp [hKS])⟩
   have e:EC (smS r) p (a,b)=none:=by rw [e0];unfold onS;rw [decide_eq_true g1,decide_eq_true g2,decide_eq_true g3,decide_eq_true g4];rfl
   rw [e];refine key .ready false ⟨fun E hE hs=>?_⟩;have hKK:=hK .ready false;simp only [hL] at hKK ⊢
   generalize V.lr f 83 [12,13] cP Nd=rc at hKK ⊢
   simp [cP,BD,AA];simp [Nd,nb,f3,inC,Nat.testBit];refine CLa c1 ?_;simp [f3,inC,Nat.testBit];refine CLa c2 ?_;simp [AA];refine CLa c3 ?_;simp [sm,f2,w1,w2,w3,w4,w5,w6,g1,g2,g3,g4];refine ⟨trivial,Hu.keep hKK (by simp) (by simp [hKS])⟩
theorem Pj {α β:Type} {f:α->Option β} {l:List α} {v:β} (h:l.findSome? f=some v):∃ (j:Nat) (e:α),l[j]?= some e/\f e=some v/\∀ (i:Nat) (e':α),i<j->l[i]?= some e'->f e'=none:=by
 obtain ⟨l1,a,l2,rfl,h1,h2⟩:=List.findSome?_eq_some_iff.1 h;refine ⟨l1.length,a,by simp,h1,fun i e' hi he=>?_⟩;rw [List.getElem?_append_left hi] at he;exact h2 e' (List.mem_of_getElem? he)
theorem Tx (r:List (Int × Int)) (p:Int × Int) (hl:r.length<=1000000) (hr:∀ q∈r,bd 268435456 q) (hp:bd 268435456 p):Ct prog 189 [.d (An r),vsp p.1 p.2] (vb (Ll r p)) []:=by
 refine Ct.byR gok eok mixed func189 c189 rfl (by simp [ntmps189]) (by simp) (by simp [LD]) fun E hE hE2=>?_
 simp [p189];refine CLa (ASX r) ?_;simp;have hnt:E.nt=83:=by rw [hE2.1];exact ntmps189
 rw [<-JI (Γ:=tys) (eqs:=eqs)];obtain ⟨f,hf⟩:∃ f,f=upd (upd (upd (upd (upd (Dn 0 [V.d (An r),vsp p.1 p.2]) 2 (V.lp 0 0)) 3 (V.lp 1048576 0)) 4 (V.lp 2097152 0)) 10 (V.d (An r))) 11 (V.cl 212 [V.lp 4194304 0]):=⟨_,rfl⟩
 have hfA:∀ t,AV (·∈hKS) AR (f t):=fun t=>by
   rw [hf];simp only [AY];split
   . intro c hc;simp at hc;subst hc;exact (by simp [hKS]:(4194304:Nat)∈hKS)
   . split
     . exact trivial
     . split
       . exact (by simp [hKS]:(2097152:Nat)∈hKS)
       . split
         . exact (by simp [hKS]:(1048576:Nat)∈hKS)
         . split
           . exact (by simp [hKS]:(0:Nat)∈hKS)
           . simp only [Dn]
             split
             . exact trivial
             . split
               . intro c hc;simp at hc;rcases hc with rfl | rfl<;>exact trivial
               . exact fun c hc=>by simp at hc
 have f2:f 2= .lp 0 0:=by rw [hf];simp
 have f3:f 3= .lp 1048576 0:=by rw [hf];simp
 have f4:f 4= .lp 2097152 0:=by rw [hf];simp
 have f11:f 11= .cl 212 [.lp 4194304 0]:=by rw [hf];simp
 rw [<-hf];have hN:∀ i∈hKS,i<1000000000:=by simp [hKS]
 have hK:=fun s v=>jG r p f s v hfA
 have hcl:=Go.Geo.cyc_len r;have round:∀ x y,(x,y)∈cyc r->_:=fun x y hxy=>Vm r p f hfA f2 f3 f4 hl hp x y (hr x (Go.Geo.cyc_mem hxy).1) (hr y (Go.Geo.cyc_mem hxy).2)
 have rec0:∀ s v,∃ fr nt ps pa pb jmp,lk (hL r p f s v) 5242880=some [.lr fr nt ps pa pb jmp]/\ps.length=2:=fun s v=>⟨f,83,[12,13],cP,Nd,s,by simp [hL],rfl⟩
 have box0:∀ s v,lk (hL r p f s v) 4194304=some [.d (An r)]:=fun s v=>by simp [hL]
 cases hfs:(cyc r).findSome? (EC (smS r) p) with
 | none=>
   have e:Ll r p=decide ((1:Int)<r.length):=by unfold Ll;rw [hfs];rfl
   have c:=MK r hl hKS 5242880 4194304 r.length (fun _=>true) (fun _=>hL r p f .ready false) (by simp [hKS]) (by simp [hKS]) hN (Nat.le_refl _) (fun _ _=>hK .ready false) (fun _ _=>rec0 _ _) (fun _ _=>box0 _ _) (fun _ _=>rfl) (Or.inl rfl) (fun i x y hi hcy=>by
     have h1:=round x y (List.mem_of_getElem? hcy);have h2:EC (smS r) p (x,y)=none:=List.findSome?_eq_none_iff.1 hfs _ (List.mem_of_getElem? hcy);rw [h2] at h1;exact h1)
   refine E3.keep (hL r p f .ready false).tail (hL r p f .ready false).tail [4194304,0,1048576,2097152] (.tup []) .ready ⟨hE2.2,by rw [hnt];simp [AL4]⟩ (g:=212) (caps:=[.lp 4194304 0]) (by simp [f11]) (by rw [hnt];exact c) (by rw [hnt];exact hK .ready false) (by rw [hnt];exact hK .ready false) (by simp [hL]) (by simp) ?_
   show Ft 0 _ .normal _
   simp [hL,f2,f4];apply RZ;simp [results189,f4,e,AA]
 | some v=>
   have e:Ll r p=v:=by unfold Ll;rw [hfs];rfl
   obtain ⟨j,e0,h1,h2,h3⟩:=Pj hfs;have hj:=(List.getElem?_eq_some_iff.1 h1).1;rw [hcl] at hj
   have c:=MK r hl hKS 5242880 4194304 (j+1) (fun i=>decide (i≠j)) (fun i=>if i<=j then hL r p f .ready false else hL r p f (.done .ret) v) (by simp [hKS]) (by simp [hKS]) hN (by omega)
     (fun i _=>by show A4 hKS (if i<=j then hL r p f .ready false else hL r p f (.done .ret) v);split<;>exact hK _ _)
     (fun i _=>by show ∃ fr nt ps pa pb jmp,lk (if i<=j then hL r p f .ready false else hL r p f (.done .ret) v) 5242880=some [.lr fr nt ps pa pb jmp]/\ps.length=2;split<;>exact rec0 _ _)
     (fun i _=>by show lk (if i<=j then hL r p f .ready false else hL r p f (.done .ret) v) 4194304=_;split<;>exact box0 _ _)
     (fun i hi=>decide_eq_true (by omega)) (Or.inr ⟨by omega,decide_eq_false (by omega)⟩) (fun i x y hi hcy=>by
       have r1:=round x y (List.mem_of_getElem? hcy);by_cases hij:i=j
       . subst hij
         rw [h1] at hcy;cases hcy;rw [h2] at r1;simp only [Nat.le_refl,if_true,show ¬ i+1<=i by omega,if_false,ne_eq,not_true_eq_false,decide_false];exact r1
       . have h4:=h3 i (x,y) (by omega) hcy
         rw [h4] at r1;simp only [show i<=j by omega,show i+1<=j by omega,if_true,ne_eq,hij,not_false_eq_true,decide_true];exact r1)
   simp only [Nat.zero_le,if_true,show ¬ j+1<=j by omega,if_false] at c;refine E3.keep (hL r p f .ready false).tail (hL r p f (.done .ret) v).tail [4194304,0,1048576,2097152] (.tup []) (.done .ret) ⟨hE2.2,by rw [hnt];simp [AL4]⟩ (g:=212) (caps:=[.lp 4194304 0]) (by simp [f11]) (by rw [hnt];exact c) (by rw [hnt];exact hK .ready false) (by rw [hnt];exact hK (.done .ret) v) (by simp [hL]) (by simp) ?_
   show Ft 0 _ .ret _
   simp [hL];apply RZ;simp [results189,f4,e]
open Go.Geo (Ao cyc InR box Bo)
theorem aW {u v:Int}:(0<=v*u/\v*v<=u*u)↔(min 0 u<=v/\v<=max 0 u):=by
 rcases Int.lt_trichotomy u 0 with hu | hu | hu
 . constructor
   . rintro ⟨h1,h2⟩
     have a:v<=0:=by
       apply Int.not_lt.1;intro h
       have:=Int.mul_neg_of_pos_of_neg h hu;omega
     have b:u<=v:=by
       apply Int.not_lt.1;intro h
       have h3:=Int.mul_pos_of_neg_of_neg (show v-u<0 by omega) (show v+u<0 by omega);have e:(v-u)*(v+u)=v*v-u*u:=by grind
       omega
     omega
   . intro ⟨h1,h2⟩
     have a:=Int.mul_nonneg_of_nonpos_of_nonpos (show v<=0 by omega) (show u<=0 by omega);have b:=Int.mul_nonneg (show 0<=v-u by omega) (show 0<= -(v+u) by omega);have e:(v-u)* -(v+u)=u*u-v*v:=by grind
     omega
 . subst hu
   constructor
   . rintro ⟨_,h2⟩
     have:v=0:=by
       rcases Int.lt_trichotomy v 0 with h | h | h
       . have:=Int.mul_pos_of_neg_of_neg h h;omega
       . exact h
       . have:=Int.mul_pos h h;omega
     omega
   . rintro ⟨h1,h2⟩
     have:v=0:=by omega
     subst this;simp
 . constructor
   . rintro ⟨h1,h2⟩
     have a:0<=v:=by
       apply Int.not_lt.1;intro h
       have:=Int.mul_neg_of_neg_of_pos h hu;omega
     have b:v<=u:=by
       apply Int.not_lt.1;intro h
       have h3:=Int.mul_pos (show 0<v-u by omega) (show 0<v+u by omega);have e:(v-u)*(v+u)=v*v-u*u:=by grind
       omega
     omega
   . intro ⟨h1,h2⟩
     have a:=Int.mul_nonneg (show 0<=v by omega) (show 0<=u by omega);have b:=Int.mul_nonneg (show 0<=u-v by omega) (show 0<=u+v by omega);have e:(u-v)*(u+v)=u*u-v*v:=by grind
     omega
theorem J6 {a b p:Int × Int}:onS (DU a b) (DU a p)=true↔box a b p:=by
 unfold onS;simp only [Bool.and_eq_true,decide_eq_true_eq];have h1:=@aW (b.1-a.1) (p.1-a.1);have h2:=@aW (b.2-a.2) (p.2-a.2);unfold box
 show (0<=(p.1-a.1)*(b.1-a.1)/\0<=(p.2-a.2)*(b.2-a.2)/\(p.1-a.1)*(p.1-a.1)<=(b.1-a.1)*(b.1-a.1)/\(p.2-a.2)*(p.2-a.2)<=(b.2-a.2)*(b.2-a.2))↔_
 constructor
 . rintro ⟨q1,q2,q3,q4⟩
   have:=h1.1 ⟨q1,q3⟩;have:=h2.1 ⟨q2,q4⟩;omega
 . intro h
   obtain ⟨q1,q3⟩:=h1.2 (by omega);obtain ⟨q2,q4⟩:=h2.2 (by omega);exact ⟨q1,q2,q3,q4⟩
theorem aX {a b p:Int × Int}:box a b p↔box b a p:=by unfold box;omega
theorem PL {r:List (Int × Int)} (h:C7 r=true):r=Bo (ddC (DK r))/\r≠[]:=by
 unfold C7 at h;simp only [Bool.and_eq_true,decide_eq_true_eq] at h;refine ⟨h.2.symm,fun e=>?_⟩;rw [e] at h;simp at h
theorem aY {l:List (Int × Int)} (hs:Go.Geo.Sorted l) {a b:Int × Int} (h:Bo l=[a,b]):Go.Geo.lt a b:=by
 by_cases h3:l.length<3
 . have e:Bo l=l:=by unfold Bo;rw [if_pos h3]
   rw [h] at e;rw [<-e] at hs;exact (List.pairwise_cons.1 hs).1 b (by simp)
 . by_cases hn:5<=(Go.Geo.chainR l).length+(Go.Geo.chainR l.reverse).length
   . have:=Go.Geo.hull_len h3
     have h2:=Go.Geo.chain_len2 hs (by omega);rw [h] at this;simp at this;omega
   . obtain ⟨f,g,_,_,hfg,e,_⟩:=Go.Geo.hull_two hs h3 hn
     rw [h] at e;cases e;exact hfg
theorem aZ {a p:Int × Int}:InR [a] p↔a=p:=by
 constructor
 . rintro ⟨_,h⟩
   obtain ⟨x,y,h1,h2,hb⟩:∃ x y,[a].head?= some x/\[a].getLast?= some y/\box x y p:=by simpa using h
   simp at h1 h2;subst h1;subst h2;unfold box at hb
   ext<;>omega
 . rintro rfl
   refine ⟨fun e he=>?_,Or.inr ⟨a,a,rfl,rfl,by unfold box;omega⟩⟩;simp [cyc,Go.Geo.steps] at he;subst he;rw [Go.Geo.cross_self];omega
theorem AH2 {a b p:Int × Int}:InR [a,b] p↔Ao a b p=0/\box a b p:=by
 constructor
 . rintro ⟨hc,h⟩
   obtain ⟨x,y,h1,h2,hb⟩:∃ x y,[a,b].head?= some x/\[a,b].getLast?= some y/\box x y p:=by simpa using h
   simp at h1 h2;subst h1;subst h2;have c1:=hc (a,b) (by simp [cyc,Go.Geo.steps]);have c2:=hc (b,a) (by simp [cyc,Go.Geo.steps]);simp only at c1 c2;rw [Go.Geo.cross_swap2] at c2;exact ⟨by omega,hb⟩
 . rintro ⟨hc,hb⟩
   refine ⟨fun e he=>?_,Or.inr ⟨a,b,rfl,rfl,hb⟩⟩;simp [cyc,Go.Geo.steps] at he;rcases he with rfl | rfl
   . simp only;omega
   . simp only;rw [Go.Geo.cross_swap2];omega
theorem ae {r:List (Int × Int)} (h:C7 r=true) (p:Int × Int):Lj r p=true↔InR r p:=by
 obtain ⟨hr,hne⟩:=PL h
 match r,hne,hr with
 | [],hne,_=>exact absurd rfl hne
 | [a],_,_=>rw [aZ];unfold Lj;simp
 | [a,b],_,hr=>
   have hlt:=aY (JN _) hr.symm;rw [AH2];unfold Lj;simp only [Bool.and_eq_true,Bool.or_eq_true,MJ];have e:cyc [a,b]=[(a,b),(b,a)]:=rfl;rw [e];simp only [List.mem_cons,List.not_mem_nil,or_false,forall_eq_or_imp,forall_eq];rw [Go.Geo.cross_swap2 b a p]
   have hw:(ZV p.1 a.1 b.1=true/\ZV p.2 (min a.2 b.2) (max a.2 b.2)=true)↔box a b p:=by
     unfold ZV box Go.Geo.lt at*;simp only [Bool.and_eq_true,decide_eq_true_eq];omega
   rw [hw];simp;omega
 | a::b::c::t,_,_=>
   unfold Lj InR;simp [MJ]
theorem af {r:List (Int × Int)} (h:C7 r=true) (p:Int × Int):Ll r p=true↔InR r p:=by
 obtain ⟨hr,hne⟩:=PL h
 have hcorner:∀ q∈r,InR r q:=fun q hq=>by
   rw [hr] at hq ⊢;exact Go.Geo.hull_in (JN _) q (Go.Geo.hull_sub (JN _) q hq)
 match r,hne,hcorner,hr with
 | [],hne,_,_=>exact absurd rfl hne
 | [a],_,_,_=>
   rw [aZ];have e:cyc [a]=[(a,a)]:=rfl;unfold Ll;rw [e];simp only [List.findSome?_cons,List.findSome?_nil,EC];by_cases h1:a.1=p.1/\a.2=p.2
   . rw [if_pos h1]
     have:a=p:=by ext;exact h1.1;exact h1.2
     simp [this]
   . rw [if_neg h1]
     have hb:Ee (smS [a]) p (a,a)=true:=by
       unfold Ee
       have:onS (DU a a) (DU a p)=false:=by
         rw [<-Bool.not_eq_true,J6];intro hb;unfold box at hb;exact h1 (by omega)
       rw [show Ao (a,a).1 (a,a).2 p=0 from Go.Geo.cross_self3 a p];simp only;rw [this];rfl
     rw [hb];simp;intro e;exact h1 (by rw [e];exact ⟨rfl,rfl⟩)
 | [a,b],_,hcorner,hr=>
   have e:cyc [a,b]=[(a,b),(b,a)]:=rfl;have hsm:smS [a,b]=true:=rfl;unfold Ll;rw [e,hsm];simp only [List.findSome?_cons,List.findSome?_nil,EC];by_cases h1:a.1=p.1/\a.2=p.2
   . rw [if_pos h1]
     have:a=p:=by ext;exact h1.1;exact h1.2
     subst this;simp;exact hcorner a (by simp)
   rw [if_neg h1,AH2];have hsw:=Go.Geo.cross_swap2 b a p;rcases Int.lt_trichotomy (Ao a b p) 0 with hc | hc | hc
   . have hb:Ee true p (a,b)=true:=by unfold Ee;rw [decide_eq_true hc];rfl
     rw [hb];simp;intro h;omega
   . by_cases hbx:box a b p
     . have hb:Ee true p (a,b)=false:=by unfold Ee;rw [J6.2 hbx];simp;omega
       rw [hb];simp only [Bool.false_eq_true,if_false];by_cases h2:b.1=p.1/\b.2=p.2
       . rw [if_pos h2];simp [hc,hbx]
       . rw [if_neg h2]
         have hb2:Ee true p (b,a)=false:=by unfold Ee;rw [J6.2 (aX.1 hbx)];simp;omega
         rw [hb2];simp [hc,hbx]
     . have hb:Ee true p (a,b)=true:=by
         unfold Ee;have:onS (DU a b) (DU a p)=false:=by rw [<-Bool.not_eq_true,J6];exact hbx
         simp only;rw [this,hc];rfl
       rw [hb];simp [hbx]
   . have hb:Ee true p (a,b)=false:=by unfold Ee;simp;omega
     rw [hb];simp only [Bool.false_eq_true,if_false]
     have h2:¬ (b.1=p.1/\b.2=p.2):=fun h2=>by
       have:b=p:=by ext;exact h2.1;exact h2.2
       rw [this,Go.Geo.cross_self2] at hc;omega
     rw [if_neg h2];have hb2:Ee true p (b,a)=true:=by unfold Ee;rw [decide_eq_true (p:=Ao (b,a).1 (b,a).2 p<0) (by simp only;omega)];rfl
     rw [hb2];simp;intro h;omega
 | a::b::c::t,_,hcorner,hr=>
   obtain ⟨R,hR⟩:∃ R,a::b::c::t=R:=⟨_,rfl⟩
   have hl:2<R.length:=by rw [<-hR];simp
   rw [hR] at hcorner ⊢;have hsm:smS R=false:=by unfold smS;rw [decide_eq_false (by omega)]
   have hin:InR R p↔∀ e∈cyc R,0<=Ao e.1 e.2 p:=⟨fun h=>h.1,fun h=>⟨h,Or.inl hl⟩⟩
   unfold Ll;rw [hsm];cases hf:(cyc R).findSome? (EC false p) with
   | none=>
     have:=List.findSome?_eq_none_iff.1 hf;simp only [Option.getD_none,decide_eq_true_eq];refine ⟨fun _=>hin.2 fun e he=>?_,fun _=>by omega⟩;have h1:=this e he;unfold EC at h1;split at h1
     . cases h1
     . split at h1
       . cases h1
       . rename_i h2
         unfold Ee at h2;simp at h2;exact h2
   | some v=>
     obtain ⟨l1,e,l2,h1,h2,_⟩:=List.findSome?_eq_some_iff.1 hf;have he:e∈cyc R:=by rw [h1];simp
     simp only [Option.getD_some];unfold EC at h2;split at h2
     . rename_i h3
       cases h2;have:e.1=p:=by ext;exact h3.1;exact h3.2
       simp only [true_iff];rw [<-this];exact hcorner _ (Go.Geo.cyc_mem he).1
     . split at h2
       . rename_i h4
         cases h2;unfold Ee at h4;simp at h4;simp only [Bool.false_eq_true,false_iff,hin];intro h5;have:=h5 e he;omega
       . cases h2
theorem gf {r:List (Int × Int)} (h:C7 r=true) (p:Int × Int):Ll r p=Lj r p:=by
 rw [Bool.eq_iff_iff,af h,ae h]
def inV (r:List (Int × Int)) (p:Int × Int):Bool:=C7 r&&(okC p&&Lj r p)
def Yj (r:List (Int × Int)):Int:=if C7 r then 0 else 14
theorem Yk (p:Int × Int):EJ [p]=okC p:=by simp [EJ]
theorem kW {H:Hp} {id:Nat} {p:Int × Int} (h:H id=some [vi p.1,vi p.2]):Bor H (.ls id 0 1 2) (.d (An [p])):=z6 [p] h rfl
theorem AAF (hS:SortOk) (r:List (Int × Int)) (p:Int × Int) (hr:r.length<=1000000000):Ct prog 174 [.d (An r),vsp p.1 p.2] (.tup [vb (inV r p),vi (Yj r)]) []:=by
 refine CB func174 c174 fun E hE=>?_
 simp [p174];refine CLa (qu hS r hr) ?_;cases h1:C7 r
 . simp
   apply RZ;simp [results174,inV,Yj,h1]
 . have hb:=dM h1
   have hlen:=Ws h1;simp [AA,AM];refine CLb (jX [p] (by simp)) (by simp [kW]) ?_;rw [Yk];cases h2:okC p
   . simp
     apply RZ;simp [results174,inV,Yj,h1,h2]
   . simp
     refine CLa (Tx r p (by omega) hb (NH.1 h2)) ?_;rw [gf h1];simp;apply RZ;simp [results174,inV,Yj,h1,h2]
end Go.Proofs.Tryz
namespace Go.Proofs.Tryz
open Go.Psl
open Go.Air
def WB (a b:Int × Int):Prop:=b.1<=a.1/\a.2<=b.2
theorem ABY {a k:Kn} {x y:Int} (hlt:a.1<k.1) (hxy:x<=y) (hw:a.2.1<=k.2.1):(Ir a k x).1<=(Ir a k y).1:=by
 unfold Ir;simp only;have:(x-a.1)*(k.2.1-a.2.1)/(k.1-a.1)<=(y-a.1)*(k.2.1-a.2.1)/(k.1-a.1):=Int.ediv_le_ediv (by omega) (Int.mul_le_mul_of_nonneg_right (by omega) (by omega));omega
theorem ABZ {a k:Kn} {x y:Int} (hlt:a.1<k.1) (hxy:x<=y) (hw:k.2.1<=a.2.1):(Ir a k y).1<=(Ir a k x).1:=by
 unfold Ir;simp only;have:(y-a.1)*(k.2.1-a.2.1)/(k.1-a.1)<=(x-a.1)*(k.2.1-a.2.1)/(k.1-a.1):=Int.ediv_le_ediv (by omega) (Int.mul_le_mul_of_nonpos_right (by omega) (by omega));omega
theorem B2 (l:List Kn) (x:Int × Int):∀ (i:Nat),i<=l.length->∀ (j:Nat) (k:Kn),j<i->l[j]?= some k->x.1<k.1->k.1<x.2->(Fk l x i).1<=k.2.1
 | 0,_,j,k,hj,_,_,_=>by omega
 | i+1,hi,j,k,hj,hk,h1,h2=>by
   obtain ⟨c,hc⟩:∃ c,l[i]?= some c:=⟨_,List.getElem?_eq_getElem (by omega)⟩
   rw [ALM hc];by_cases e:j=i
   . subst e
     rw [hk] at hc;cases hc;rw [if_pos ⟨h1,h2⟩];unfold Xa;simp only;omega
   . have ih:=B2 l x i (by omega) j k (by omega) hk h1 h2
     split
     . unfold Xa;simp only;omega
     . exact ih
theorem Ke {l:List Kn} {x:Int × Int} {M:Int} (h1:M<=(atS l x.1).1) (h2:M<=(atS l x.2).1) (h3:∀ (j:Nat) (k:Kn),l[j]?= some k->x.1<k.1->k.1<x.2->M<=k.2.1):∀ i,i<=l.length->M<=(Fk l x i).1
 | 0,_=>by unfold Fk Xa;simp;omega
 | i+1,hi=>by
   obtain ⟨c,hc⟩:∃ c,l[i]?= some c:=⟨_,List.getElem?_eq_getElem (by omega)⟩
   have ih:=Ke h1 h2 h3 i (by omega);rw [ALM hc];split
   . rename_i h
     have:=h3 i c hc h.1 h.2;unfold Xa;simp only;omega
   . exact ih
section
variable {l:List Kn} (ht:Ck l=true)
include ht in
theorem Xp {a b c:Int} (hab:a<=b) (hbc:b<=c) (ha:inR l a) (hb:inR l b) (hc:inR l c):(atS l b).2<=(Fk l (a,c) l.length).2:=by
 have q:=uo l (a,c) l.length (by omega);simp only at q ⊢;obtain ⟨p,k,hp,hk,_,e,_,_,hlt,h1,h2,_⟩:=kS ht hb.1 hb.2;have hjp:=(List.getElem?_eq_some_iff.1 hp).1;have hjk:=(List.getElem?_eq_some_iff.1 hk).1;rw [e];rcases Int.le_total p.2.2 k.2.2 with hw | hw
 . rcases Int.lt_or_le k.1 c with h3 | h3
   . have m:=ABl (y:=k.1) hlt h2 hw
     rw [(Kb hlt).1] at m;rcases Int.lt_or_le a k.1 with h4 | h4
     . have:=FX l (a,c) l.length (by omega) _ k hjk hk h4 h3
       omega
     . have hae:a=k.1:=by omega
       have:=xI ht hk;rw [<-hae] at this;rw [this] at q;omega
   . have m:=ABl (y:=c) hlt hbc hw
     rw [<-Kd ht hc hp hk (by omega) h3] at m;omega
 . rcases Int.lt_or_le a p.1 with h3 | h3
   . have m:=ABm (x:=p.1) hlt h1 hw
     rw [(Kb hlt).2] at m;rcases Int.lt_or_le p.1 c with h4 | h4
     . have:=FX l (a,c) l.length (by omega) _ p hjp hp h3 h4
       omega
     . have hce:c=p.1:=by omega
       have:=xI ht hp;rw [<-hce] at this;rw [this] at q;omega
   . have m:=ABm (x:=a) hlt hab hw
     rw [<-Kd ht ha hp hk h3 (by omega)] at m;omega
include ht in
theorem X0 {a b c:Int} (hab:a<=b) (hbc:b<=c) (ha:inR l a) (hb:inR l b) (hc:inR l c):(Fk l (a,c) l.length).1<=(atS l b).1:=by
 have q:=uo l (a,c) l.length (by omega);simp only at q ⊢;obtain ⟨p,k,hp,hk,_,e,_,_,hlt,h1,h2,_⟩:=kS ht hb.1 hb.2;have hjp:=(List.getElem?_eq_some_iff.1 hp).1;have hjk:=(List.getElem?_eq_some_iff.1 hk).1;rw [e];rcases Int.le_total k.2.1 p.2.1 with hw | hw
 . rcases Int.lt_or_le k.1 c with h3 | h3
   . have m:=ABZ (y:=k.1) hlt h2 hw
     rw [(Kb hlt).1] at m;rcases Int.lt_or_le a k.1 with h4 | h4
     . have:=B2 l (a,c) l.length (by omega) _ k hjk hk h4 h3
       omega
     . have hae:a=k.1:=by omega
       have:=xI ht hk;rw [<-hae] at this;rw [this] at q;omega
   . have m:=ABZ (y:=c) hlt hbc hw
     rw [<-Kd ht hc hp hk (by omega) h3] at m;omega
 . rcases Int.lt_or_le a p.1 with h3 | h3
   . have m:=ABY (x:=p.1) hlt h1 hw
     rw [(Kb hlt).2] at m;rcases Int.lt_or_le p.1 c with h4 | h4
     . have:=B2 l (a,c) l.length (by omega) _ p hjp hp h3 h4
       omega
     . have hce:c=p.1:=by omega
       have:=xI ht hp;rw [<-hce] at this;rw [this] at q;omega
   . have m:=ABY (x:=a) hlt hab hw
     rw [<-Kd ht ha hp hk h3 (by omega)] at m;omega
theorem g0 {a b c:Int} (ha:inR l a) (hc:inR l c) (hab:a<=b) (hbc:b<=c):inR l b:=
 ⟨fun k hk=>by have:=ha.1 k hk;omega,fun k hk=>by have:=hc.2 k hk;omega⟩
include ht in
theorem ABi {a b c d:Int} (hab:a<=b) (hbc:b<=c) (hcd:c<=d) (ha:inR l a) (hd:inR l d):WB (Fk l (b,c) l.length) (Fk l (a,d) l.length):=by
 have hb:=g0 ha hd hab (by omega:b<=d);have hc:=g0 ha hd (by omega:a<=c) hcd;refine ⟨Ke (x:=(b,c)) (X0 ht hab (by omega) ha hb hd) (X0 ht (by omega) hcd ha hc hd) (fun j k hk h1 h2=>B2 l (a,d) l.length (by omega) j k (List.getElem?_eq_some_iff.1 hk).1 hk ?_ ?_) _ (by omega),Kh (x:=(b,c)) (Xp ht hab (by omega) ha hb hd) (Xp ht (by omega) hcd ha hc hd) (fun j k hk h1 h2=>FX l (a,d) l.length (by omega) j k (List.getElem?_eq_some_iff.1 hk).1 hk ?_ ?_) _ (by omega)⟩
 all_goals simp only at h1 h2 ⊢;omega
end
theorem Hz {l:List Lev} {a b c:Int} (ha:E8 l a) (hc:E8 l c) (hab:a<=b) (hbc:b<=c):E8 l b:=
 ⟨fun k hk=>by have:=ha.1 k hk;omega,fun k hk=>by have:=hc.2 k hk;omega⟩
theorem ABq {l:List Lev} (h:OkS l) {a b c d:Int} (hab:a<=b) (hbc:b<=c) (hcd:c<=d) (ha:E8 l a) (hd:E8 l d):WB (tmS (knT l) b c) (tmS (knT l) a d):=by
 have hb:=Hz ha hd hab (by omega:b<=d);have hc:=Hz ha hd (by omega:a<=c) hcd;rw [kc h hb hc,kc h ha hd,show min b c=b by omega,show max b c=c by omega,show min a d=a by omega,show max a d=d by omega];exact ABi (NC h) hab hbc hcd (AMi ha) (AMi hd)
end Go.Proofs.Tryz
namespace Go.Air
theorem ABr {T:Tm} {a b:Lev} {r:List Lev} (hs:Snd T (a::b::r)):b.ph<=a.ph:=by
 have k2:=hs.lk.1;have la:=hs.lev a (by simp);have:=hs.clo.1.1.hi
 have h3:b.ph<=C9 (lw T a b) (ls a b) a.ph:=by
   unfold mt cyu at this;simp only at this;omega
 have h4:=xf (w:=lw T a b) (s:=ls a b) (x:=a.ph) (by have:=k2.s0;have:=k2.sc;have:=k2.cw;omega) (by have:=k2.s0;omega) (by have:=la.lo;have:=la.in';omega);omega
theorem FW {T:Tm}:∀ {l:List Lev} {a:Lev} (h:Int),Snd T (a::l)->(prs T (a::l) h).2<=a.ph
 | [],a,h,hs=>Int.le_refl _
 | b::r,a,h,hs=>by
   unfold prs;by_cases h1:h<=a.h
   . rw [if_pos h1];exact Int.le_refl _
   . rw [if_neg h1]
     by_cases h2:h<b.h
     . rw [if_pos h2]
       exact (Tr hs (show a.h<h by omega) h2).2.2.2
     . rw [if_neg h2]
       have:=FW h hs.tail;have:=ABr hs;omega
theorem Kf {T:Tm}:∀ {l:List Lev} {h h':Int},Snd T l->h<=h'->(prs T l h').2<=(prs T l h).2
 | [],_,_,_,_=>Int.le_refl _
 | [_],_,_,_,_=>Int.le_refl _
 | a::b::r,h,h',hs,hh=>by
   by_cases h1:h<=a.h
   . have:=FW h' hs
     have e:prs T (a::b::r) h=(a.pl,a.ph):=by unfold prs;rw [if_pos h1]
     rw [e];exact this
   . have e1:∀ x,a.h<x->prs T (a::b::r) x=if x<b.h then (max (CY (lc T a b) (341632*(x-a.h)) a.pl) b.pl,C9 (lw T a b) (341632*(x-a.h)) a.ph) else prs T (b::r) x:=fun x hx=>by
       conv=>lhs;unfold prs
       rw [if_neg (by omega)]
     rw [e1 h (by omega),e1 h' (by omega)];have la:=hs.lev a (by simp);have k2:=hs.lk.1;have hw:0<lw T a b:=by have:=k2.s0;have:=k2.sc;have:=k2.cw;omega
     have hp:0<=a.ph:=by have:=la.lo;have:=la.in';omega
     by_cases h2:h' < b.h
     . rw [if_pos h2,if_pos (show h<b.h by omega)]
       exact WG hw (by omega) (by omega) hp
     . rw [if_neg h2]
       by_cases h3:h<b.h
       . rw [if_pos h3]
         have:=FW h' hs.tail;have:=hs.clo.1.1.hi
         have h5:b.ph<=C9 (lw T a b) (ls a b) a.ph:=by
           unfold mt cyu at this;simp only at this;omega
         have h4:=WG (w:=lw T a b) (s:=ls a b) (s':=341632*(h-a.h)) (x:=a.ph) hw (by omega) (by unfold ls;omega) hp;simp only;omega
       . rw [if_neg h3];exact Kf hs.tail hh
structure Nar (a b:Atm):Prop where
 pl:b.pl<=a.pl
 ph:a.ph<=b.ph
 tl:b.tl<=a.tl
 th:a.th<=b.th
end Go.Air
namespace Go.Proofs.Tryz
open Go.Psl
open Go.Air
theorem ABt {l:List Lev} {a b c d:Int} (hab:a<=b) (hbc:b<=c) (hcd:c<=d) (h:yg l a d):yg l b c/\Nar (atA l b c).1 (atA l a d).1:=by
 have hb:=Hz h.ina h.inb hab (by omega:b<=d);have hc:=Hz h.ina h.inb (by omega:a<=c) hcd;have hB:=ACP h.ok h.fit hbc hb hc;refine ⟨hB,?_⟩;have hs:=gZ h.ok h.fit;have ht:=ABq h.ok hab hbc hcd h.ina h.inb;rw [hB.eq,h.eq];exact ⟨ADF hs hcd,Kf hs hab,ht.1,ht.2⟩
def Il (r:List (Int × Int)) (s h:Int × Int):Bool:=inV r (s.1,h.1)&&inV r (s.1,h.2)&&inV r (s.2,h.1)&&inV r (s.2,h.2)
end Go.Proofs.Tryz
namespace Go.Proofs.Tryz
open Go.Psl
open Go.Air
structure OkW (w:List Gal):Prop where
 len:1<=w.length/\w.length<=16
 at':∀ x∈w, -500<=x.h/\x.h<=9000
 g:∀ x∈w,0<=x.g/\x.g<=500
 x:∀ x∈w, -1000<=x.xl/\x.xl<=x.xh/\x.xh<=1000
 y:∀ x∈w, -1000<=x.yl/\x.yl<=x.yh/\x.yh<=1000
 step:∀ (i:Nat) (x y:Gal),w[i]?= some x->w[i+1]?= some y->x.h<y.h
theorem L0 {w:List Gal}:Dr w=true->OkW w:=by
 unfold Dr;simp only [Bool.and_eq_true,List.all_eq_true]
 rintro ⟨h1,h2⟩
 have hg:∀ i x,w[i]?= some x->AAU w i=true:=fun i x hx=>h2 i (by simp [(List.getElem?_eq_some_iff.1 hx).1])
 have hb:∀ x∈w,((-500<=x.h/\x.h<=9000)/\0<=x.g/\x.g<=500)/\(-1000<=x.xl/\x.xl<=x.xh/\x.xh<=1000)/\ -1000<=x.yl/\x.yl<=x.yh/\x.yh<=1000:=fun x hx=>by
   obtain ⟨i,hi⟩:=List.getElem?_of_mem hx;have:=hg i x hi;unfold AAU at this;rw [hi] at this;simp only [Bool.and_eq_true,CC] at this;obtain ⟨⟨⟨⟨q1,_⟩,q2⟩,q3⟩,q4⟩:=this;simp [rgB] at q1 q2;omega
 refine ⟨by simp [rgB] at h1;omega,fun x hx=>(hb x hx).1.1,fun x hx=>(hb x hx).1.2,fun x hx=>(hb x hx).2.1,fun x hx=>(hb x hx).2.2,fun i x y hx hy=>?_⟩;have:=hg (i+1) y hy;unfold AAU at this;rw [hy] at this;simp [hx] at this;omega
def Dd (pk:Gal->Int × Int) (w:List Gal):List Kn:=w.map fun x=>(x.h,pk x)
def HG (x:Gal):Int × Int:=(x.xl,x.xh)
def EY (x:Gal):Int × Int:=(x.yl,x.yh)
theorem EG {pk:Gal->Int × Int} {w:List Gal} {i:Nat}:(Dd pk w)[i]?= (w[i]?).map fun x=>(x.h,pk x):=by unfold Dd;rw [List.getElem?_map]
theorem IH {pk:Gal->Int × Int} {w:List Gal}:(Dd pk w).length=w.length:=by unfold Dd;simp
def EA (w:List Gal) (z:Int):Int:=match w[0]?,w[w.length-1]? with
 | some a,some b=>min (max z a.h) b.h
 | _,_=>z
def Fg (pk:Gal->Int × Int) (w:List Gal) (h:Int × Int):Int × Int:=match w with
 | []=>(0,0)
 | [x]=>pk x
 | _=>(Jy (Dd pk w) (EA w h.1,EA w h.2)).1
def Qq (w:List Gal) (lo:Int):Nat:=(w.takeWhile fun x=>decide (x.h<lo)).length
def upN (w:List Gal) (hi:Int):Nat:=(w.takeWhile fun x=>decide (x.h<=hi)).length
def rS (l:List Gal):Int:=l.foldl (fun m x=>max m x.g) 0
def rO (w:List Gal) (h:Int × Int):Int:=rS ((w.take (upN w h.2+1)).drop (Qq w h.1-1))
def Jr (w:List Gal) (h:Int × Int):Int × Int:=((Fg HG w h).1-rO w h,(Fg HG w h).2+rO w h)
def Js (w:List Gal) (h:Int × Int):Int × Int:=((Fg EY w h).1-rO w h,(Fg EY w h).2+rO w h)
def Lg (w:List Gal) (h:Int × Int):Int:=if Dr w then (if okS h then 0 else 10) else 22
theorem Mx:∀ {l:List Gal} {a m:Int},l.foldl (fun m x=>max m x.g) a<=m↔a<=m/\∀ x∈l,x.g<=m
 | [],a,m=>by simp
 | c::l,a,m=>by
   rw [List.foldl_cons,Mx];simp only [List.mem_cons,forall_eq_or_imp];constructor
   . rintro ⟨h1,h2⟩;exact ⟨by omega,by omega,h2⟩
   . rintro ⟨h1,h2,h3⟩;exact ⟨by omega,h3⟩
theorem AMs {l:List Gal}:0<=rS l/\∀ x∈l,x.g<=rS l:=Mx.1 (Int.le_refl (rS l))
theorem AMt {w:List Gal} {f t:Nat} {x:Gal}:x∈(w.take (t+1)).drop f↔∃ i,(f<=i/\i<=t)/\w[i]?= some x:=by
 constructor
 . intro h
   obtain ⟨i,hi⟩:=List.getElem?_of_mem h;rw [List.getElem?_drop] at hi;have h2:=(List.getElem?_eq_some_iff.1 hi).1;rw [List.length_take] at h2;rw [List.getElem?_take_of_lt (by omega)] at hi;exact ⟨f+i,by omega,hi⟩
 . rintro ⟨i,hi,hx⟩
   refine List.mem_of_getElem? (i:=i-f) ?_;rw [List.getElem?_drop,show f+(i-f)=i by omega,List.getElem?_take_of_lt (by omega)];exact hx
theorem Yb {w:List Gal} (hw:OkW w) (h:Int × Int):0<=rO w h/\rO w h<=500:=by
 refine ⟨AMs.1,Mx.2 ⟨by omega,fun x hx=>?_⟩⟩;obtain ⟨i,_,hx⟩:=AMt.1 hx;exact (hw.g x (List.mem_of_getElem? hx)).2
def PkB (w:List Gal) (pk:Gal->Int × Int):Prop:=∀ x∈w, -1000<=(pk x).1/\(pk x).1<=(pk x).2/\(pk x).2<=1000
theorem AG4 {w:List Gal} (hw:OkW w) {pk:Gal->Int × Int} (hp:PkB w pk) (h2:2<=w.length):Ck (Dd pk w)=true:=by
 unfold Ck;have hl:=hw.len;simp only [Bool.and_eq_true,decide_eq_true_eq,IH];refine ⟨⟨by omega,by omega⟩,?_⟩;unfold DV;rw [List.all_eq_true];intro i hi;have hi':i<w.length:=by simpa using hi
 obtain ⟨x,hx⟩:=gE hi';have hxm:=List.mem_of_getElem? hx;have b1:=hp x hxm;have b2:=hw.at' x hxm;have kx:(Dd pk w)[i]?= some (x.h,pk x):=by rw [EG,hx];rfl
 have ok:okK (x.h,pk x)=true:=by
   rw [FE];simp only;omega
 cases i with
 | zero=>rw [HZ kx,ok]
 | succ i=>
   obtain ⟨y,hy⟩:∃ y,w[i]?= some y:=⟨_,List.getElem?_eq_getElem (by omega)⟩
   have ky:(Dd pk w)[i]?= some (y.h,pk y):=by rw [EG,hy];rfl
   have:=hw.step i y x hy hx;rw [FF kx ky,ok];simp;omega
theorem Yc {w:List Gal} (hw:OkW w) (z:Int): -500<=EA w z/\EA w z<=9000:=by
 have hl:=hw.len;obtain ⟨x,hx⟩:∃ x,w[0]?= some x:=⟨_,List.getElem?_eq_getElem (by omega)⟩
 obtain ⟨y,hy⟩:∃ y,w[w.length-1]?= some y:=⟨_,List.getElem?_eq_getElem (by omega)⟩
 have b1:=hw.at' x (List.mem_of_getElem? hx);have b2:=hw.at' y (List.mem_of_getElem? hy);unfold EA;rw [hx,hy];simp only;omega
theorem sC {w:List Gal} (hw:OkW w):∀ (j i:Nat) (x y:Gal),w[i]?= some x->w[i+j]?= some y->x.h<=y.h
 | 0,i,x,y,hx,hy=>by rw [Nat.add_zero,hx] at hy;cases hy;omega
 | j+1,i,x,y,hx,hy=>by
   have hl:=(List.getElem?_eq_some_iff.1 hy).1;obtain ⟨z,hz⟩:∃ z,w[i+j]?= some z:=⟨_,List.getElem?_eq_getElem (by omega)⟩
   have:=sC hw j i x z hx hz;have:=hw.step (i+j) z y hz hy;omega
theorem My {w:List Gal} (hw:OkW w) {pk:Gal->Int × Int} (z:Int):inR (Dd pk w) (EA w z):=by
 have hl:=hw.len;obtain ⟨x,hx⟩:∃ x,w[0]?= some x:=⟨_,List.getElem?_eq_getElem (by omega)⟩
 obtain ⟨y,hy⟩:∃ y,w[w.length-1]?= some y:=⟨_,List.getElem?_eq_getElem (by omega)⟩
 have hm:=sC hw (w.length-1) 0 x y hx (by rw [Nat.zero_add];exact hy);unfold EA;rw [hx,hy];simp only;refine ⟨fun k hk=>?_,fun k hk=>?_⟩
 . rw [EG,hx] at hk;cases hk;simp only;omega
 . rw [EG,IH,hy] at hk;cases hk;simp only;omega
theorem Yd {w:List Gal} {y z:Int} (h:y<=z):EA w y<=EA w z:=by
 unfold EA;split
 . omega
 . exact h
theorem kP {w:List Gal} (hw:OkW w) {pk:Gal->Int × Int} (hp:PkB w pk) (h2:2<=w.length) {h:Int × Int} (hh:h.1<=h.2):Fg pk w h=Fk (Dd pk w) (EA w h.1,EA w h.2) (Dd pk w).length:=by
 have e:Fg pk w h=(Jy (Dd pk w) (EA w h.1,EA w h.2)).1:=by
   match w,h2 with
   | a::b::r,_=>rfl
 obtain ⟨x,hx⟩:∃ x,w[0]?= some x:=⟨_,List.getElem?_eq_getElem (by omega)⟩
 obtain ⟨y,hy⟩:∃ y,w[w.length-1]?= some y:=⟨_,List.getElem?_eq_getElem (by omega)⟩
 have kx:(Dd pk w)[0]?= some (x.h,pk x):=by rw [EG,hx];rfl
 have ky:(Dd pk w)[(Dd pk w).length-1]?= some (y.h,pk y):=by rw [EG,IH,hy];rfl
 have c1:=Yc hw h.1;have c2:=Yc hw h.2;have c3:=Yd (w:=w) hh;have i1:=(My hw (pk:=pk) h.1).1 _ kx;have i2:=(My hw (pk:=pk) h.2).2 _ ky;rw [e];unfold Jy;rw [if_pos (AG4 hw hp h2),if_pos (CT.2 (by simp only;omega)),kx,ky];simp only at i1 i2 ⊢;rw [if_neg (by omega)]
theorem Mz {w:List Gal} (hw:OkW w) {pk:Gal->Int × Int} (hp:PkB w pk) {h:Int × Int} (hh:h.1<=h.2): -1000<=(Fg pk w h).1/\(Fg pk w h).1<=(Fg pk w h).2/\(Fg pk w h).2<=1000:=by
 have hl:=hw.len;by_cases h2:2<=w.length
 . rw [kP hw hp h2 hh]
   have hk:∀ k∈Dd pk w, -1000<=k.2.1/\k.2.1<=k.2.2/\k.2.2<=1000:=fun k hk=>by
     unfold Dd at hk;obtain ⟨x,hx,rfl⟩:=List.mem_map.1 hk;exact hp x hx
   have n1:=Sn (AG4 hw hp h2) (My hw h.1) hk;have n2:=Sn (AG4 hw hp h2) (My hw h.2) hk;exact QE (l:=Dd pk w) (x:=(EA w h.1,EA w h.2)) n1 n2 hk _ (Nat.le_refl _)
 . obtain ⟨x,rfl⟩:∃ x,w=[x]:=List.length_eq_one_iff.1 (by omega)
   exact hp x (by simp)
theorem kQ {w:List Gal} (hw:OkW w) {h:Int × Int} (hh:h.1<=h.2):(-1500<=(Jr w h).1/\(Jr w h).1<=(Jr w h).2/\(Jr w h).2<=1500)/\ -1500<=(Js w h).1/\(Js w h).1<=(Js w h).2/\(Js w h).2<=1500:=by
 have g:=Yb hw h;have x:=Mz hw (pk:=HG) (fun x hx=>hw.x x hx) hh;have y:=Mz hw (pk:=EY) (fun x hx=>hw.y x hx) hh;unfold Jr Js;simp only;omega
def EK (a:Atm) (c:Cel):Bool:=!decide (Lh c a=1)
theorem fn8 (s:Shp):Ct prog 8 [Cl s (.d (AX s.gas.cs))] (vb (decide (20<s.gas.cs.length))) []:=by
 have e:decide ((20:Int)<s.gas.cs.length)=decide (20<s.gas.cs.length):=decide_eq_decide.2 (by omega);refine CB func8 c8 fun E hE=>?_
 simp [p8];apply RZ;simp [results8,e]
theorem fn14 (k:Sky):Ct prog 14 [Eu k] (vb (decide (24<k.s.length)||decide (24<k.w.length))) []:=by
 have e:decide ((24:Int)<k.w.length)=decide (24<k.w.length):=decide_eq_decide.2 (by omega);by_cases h:24<k.s.length
 . have hI:(24:Int)<k.s.length:=by omega
   refine CB func14 c14 fun E hE=>?_
   simp [p14,hI];apply RZ;simp [results14,h]
 . have hI:¬ (24:Int)<k.s.length:=by omega
   refine CB func14 c14 fun E hE=>?_
   simp [p14,hI];apply RZ;simp [results14,h,e]
end Go.Proofs.Tryz
namespace Go.Psl
variable {P:Program} {Γ:Tys} {eqs:Eqs} {E:Ent}
def RL (G:Gh) (W:World):Option V->FrameMode->Prop
 | none,u=>u= .returning
 | some v,u=>∃ x,u= .panicking [{v:=x,recovered:=false}]/\RV G W v x
def CmD (P:Program) (f:FuncId) (args:List V) (Hin:Hp) (ks:List Nat) (m:Option V) (H1:Hp):Prop:=
 fF P f/\∀ (G:Gh) (W:World) (xs:Array Value) (u:FrameMode),GW G.Im W->AJ (R2 G W) args xs.toList->ANh G W Hin ks->RL G W m u->
   CallsDIn Fence.wide 0 P f xs u W fun e u' W'=>settle u'= .returning/\(∃ v,e= .returned v)/\∃ G',sG G W Hin ks (.ret (.tup [])) H1 e W' G'
def NV:Option V->V
 | none=> .d (.lit .nilIface)
 | some v=>v
theorem ML {fn:Func} {args:List V} {N:Nat} {G:Gh} {W:World} {xs:Array Value} (hcl:∀ v∈args,A2 (· < N) AR v) (hargs:AJ (R2 G W) args xs.toList):
   (∀ t,RV G W (Dn 0 args t) ((xs++Array.replicate (fn.ntmps-xs.size) undef).getD t undef))/\∀ t,AV (· < N) AR (Dn 0 args t):=by
 have hl:args.length=xs.size:=by have:=hargs.length;simpa using this
 refine ⟨fun t=>?_,fun t=>?_⟩
 . rw [H5,if_pos (Nat.zero_le t),Nat.sub_zero,Array.getD_eq_getD_getElem?]
   by_cases ht:t<xs.size
   . rw [Array.getElem?_append_left ht,Array.getElem?_eq_getElem ht]
     have h1:args[t]?= some args[t]:=List.getElem?_eq_getElem (by omega);obtain ⟨x,hx,hrx⟩:=hargs.get h1;rw [h1]
     have:x=xs[t]:=by
       rw [Array.getElem?_toList,Array.getElem?_eq_getElem ht] at hx;cases hx;rfl
     subst this;exact hrx.rv
   . rw [List.getElem?_eq_none (by omega),Array.getElem?_append_right (by omega)]
     have:((Array.replicate (fn.ntmps-xs.size) undef)[t-xs.size]?).getD undef=undef:=by
       rw [Array.getElem?_replicate];split<;>rfl
     rw [this];exact EL
 . rw [H5,if_pos (Nat.zero_le t),Nat.sub_zero]
   cases h1:args[t]? with
   | none=>intro c hc;cases hc
   | some v=>
     obtain ⟨x,_,hx⟩:=hargs.get h1;exact hx.av (hcl v (List.mem_of_getElem? h1))
theorem CmD.by (hΓ:GOk P Γ) (hE:EB P eqs) (hm:P.follows .mixedOrders=true) {f:FuncId} {fn:Func} {id:Nat} {o1 o2:Oper} {rest:Code} {p:PC} {t3 t2:Nat} {args:List V} {Hin:Hp} {ks:List Nat} {m:Option V} {H1:List (Nat × List V)} (N:Nat)
   (hf:P.funcs[f]?= some fn) (hb:fn.body=some (.seq (.region id #[o1,o2] false) rest)) (hname:(fn.name == "runtime.NumGoroutine")=false)
   (g1:o1.guard=none) (g2:o2.guard=none) (d1:o1.dst=some t3) (d2:o2.dst=some t2) (r1:∀ ρ W,(execOp ρ o1).run P W= .ok .recover W) (r2:∀ ρ W,(execOp ρ o2).run P W= .ok (.value (ρ (.tmp t3))) W) (n3:t3<fn.ntmps) (n2:t2<fn.ntmps)
   (hc:AK fn.ntmps rest=some p) (hn:args.length<=fn.ntmps) (hcl:∀ v∈args,A2 (· < N) AR v) (hrv:AV (· < N) AR (NV m)) (hids:H3 N Hin) (hks:∀ i∈ks,i<N) (hri:LD (.tup []) H1)
   (h:∀ E:Ent,(∀ i,E.stab i↔i∈ks)->PW P Γ eqs E p (Mh Γ fn ks (.ret (.tup [])) H1) ⟨Am (Am (Dn 0 args) (some t3) (NV m)) (some t2) (NV m),Hin,N⟩):CmD P f args Hin ks m (lk H1):=by
 refine ⟨⟨fn,hf,by rw [hb];rfl,hname⟩,fun G W xs u hGW hargs hpre hu=>?_⟩;obtain ⟨hfr,hwf⟩:=ML (fn:=fn) hcl hargs;have hl:args.length=xs.size:=by have:=hargs.length;simpa using this
 have hsz:(xs++Array.replicate (fn.ntmps-xs.size) undef).size=fn.ntmps:=by simp;omega
 have hI:=Inv.startN (nt:=fn.ntmps) (rd:=none) (nm:=true) hGW hpre hids hks (tmps:=xs++Array.replicate (fn.ntmps-xs.size) undef) hfr hwf (by rw [hsz];exact Nat.le_refl _);refine callsDIn_of_wpSIn hf hb trivial fun c₀ cs hc0=>?_
 refine wpSIn_seq (wpSIn_region ?_)
 have tail:∀ (x:Value) (c1:Frame) (u':FrameMode),RV G W (NV m) x->c1={c₀ with mode:=u'}->settle u'= .returning->
     Exit.thenS (rest.wpSIn Fence.wide 0 P (bodyPostS P fn c₀ cs fun e u' W'=>settle u'= .returning/\(∃ v,e= .returned v)/\∃ G',sG G W Hin ks (.ret (.tup [])) (lk H1) e W' G')) (bodyPostS P fn c₀ cs fun e u' W'=>settle u'= .returning/\(∃ v,e= .returned v)/\∃ G',sG G W Hin ks (.ret (.tup [])) (lk H1) e W' G') .normal
       ((({tmps:=xs++Array.replicate (fn.ntmps-xs.size) undef,defers:=[]}:Act).put (some t3) x).put (some t2) x) (c1::cs) W:=by
   intro x c1 u' hx hc1 hu';refine wpSIn_of_wpIn rfl ?_;have hI1:=(hI.slot hx hrv (some t3) (fun d hd=>by cases hd;exact n3)).slot (v:=NV m) (x:=x) hx hrv (some t2) (fun d hd=>by cases hd;exact n2);refine wpIn_mono (PW.sound hΓ hE hm rest p hc _ _ (h _ (fun _=>Iff.rfl)) G _ W hI1) fun e a' W' ⟨y,st',G',hI',hy,_,hq⟩=>?_
   have hbase:W=W/\G.Im=G.Im/\(∀ b,Bm G Hin b↔Bm G Hin b)/\∀ i,i∈ks->i∈ks/\G.β i=G.β i/\G.bs i=G.bs i/\G.lo i=G.lo i:=⟨rfl,rfl,fun _=>Iff.rfl,fun _ h=>⟨h,rfl,rfl,rfl⟩⟩
   obtain ⟨ds,hd,hmk⟩:=hI'.df;have hd0:ds=[]:=hmk.nm rfl;subst hd0
   have fin:Dc Γ fn ks (.tup []) H1 st'->bodyPostS P fn c₀ cs (fun e u' W'=>settle u'= .returning/\(∃ v,e= .returned v)/\∃ G',sG G W Hin ks (.ret (.tup [])) (lk H1) e W' G') .ret a' (c1::cs) W':=fun hq=>by
     obtain ⟨ρ,v,hv,hr,h4,h5,h6⟩:=H6 hΓ hI' hq;exact ⟨hd,u',by rw [hc1],v,hv,hu',⟨v,rfl⟩,_,GK (res:= .ret (.tup [])) hbase hri hI' h4 h5 h6 (e:= .returned v) hr⟩
   cases e<;>cases y<;>first | exact fin hq | exact hq.elim | exact False.elim hy
 rw [show List.range (#[o1,o2]:Array Oper).size=[0,1] from rfl];simp only [wpOpsSIn];have w1:Region.wanted o1 (yielded #[o1,o2] (xs++Array.replicate (fn.ntmps-xs.size) undef))=true:=by simp [Region.wanted,g1]
 have w2:∀ T,Region.wanted o2 (yielded #[o1,o2] T)=true:=fun T=>by simp [Region.wanted,g2]
 have e1:(#[o1,o2]:Array Oper)[0]?= some o1:=rfl;have e2:(#[o1,o2]:Array Oper)[1]?= some o2:=rfl
 have ev:∀ x:Value,((({tmps:=xs++Array.replicate (fn.ntmps-xs.size) undef,defers:=[]}:Act).put (some t3) x).eval (.tmp t3))=x:=fun x=>by
   simp [Act.put,Act.eval,Array.getD_eq_getD_getElem?,hsz,n3]
 rw [e1];refine ⟨fun _ _=>trivial,?_⟩;simp only [w1,if_true,r1];cases m with
 | none=>
   have hmode:c₀.mode= .returning:=hc0.trans hu;have hrec:recoverD (c₀::cs)=none:=by simp [recoverD,hmode]
   simp only [hrec,e2];refine ⟨fun _ _=>trivial,?_⟩;simp only [w2,if_true,r2,d1,d2,ev];exact tail .nilIface c₀ .returning (.lit _ rfl) (by rw [<-hmode]) rfl
 | some v=>
   obtain ⟨x,hx,hrx⟩:=hu;have hmode:c₀.mode= .panicking [{v:=x,recovered:=false}]:=hc0.trans hx;have hrec:recoverD (c₀::cs)=some (x,{c₀ with mode:= .panicking [{v:=x,recovered:=true}]}::cs):=by simp [recoverD,hmode]
   simp only [hrec,e2];refine ⟨fun _ _=>trivial,?_⟩;simp only [w2,if_true,r2,d1,d2,ev];exact tail x _ _ hrx rfl rfl
end Go.Psl
namespace Go.Psl
variable {P:Program} {Γ:Tys} {eqs:Eqs} {E:Ent}
theorem jh {α:Type} {l:List α} (h:l.length=2):∃ a b,l=[a,b]:=by
 match l,h with
 | [a,b],_=>exact ⟨a,b,rfl⟩
structure ji (E:Ent) (G0:Gh) (W0:World):Prop where
 w:E.W0=W0
 im:E.Im0=G0.Im
 mu:∀ b,E.mu b↔Bm G0 noH b
 rd:E.rd=none
 dx:E.dx=[]
 nm:E.nm=true
abbrev KO (G0:Gh) (W0:World) (r:V) (H1:List (Nat × List V)):Ending->World->Prop:=fun e W'=>∃ G',sG G0 W0 noH [] (.ret r) (lk H1) e W' G'
def DW (P:Program) (E:Ent) (fn:Func) (r:V) (H1:List (Nat × List V)) (p:PC) (st:St):Prop:=
 LD r H1->∀ (c:Code),AK E.nt c=some p->∀ (G0:Gh) (W0:World),ji E G0 W0->∀ G a W,Inv E (· < st.nx) G st a W->
   c.wpIn Fence.wide 0 P (bodyPostM Fence.wide 0 P fn (KO G0 W0 r H1)) a W
theorem OI {nt:Nat} {c:Code} {pa pb:PC} (h:AK nt c=some (.seq pa pb)):∃ x y,c= .seq x y/\AK nt x=some pa/\AK nt y=some pb:=by
 cases c with
 | seq x y=>
   simp only [AK,Option.bind_eq_some_iff,Option.map_eq_some_iff] at h;obtain ⟨a,ha,b,hb,he⟩:=h;cases he;exact ⟨x,y,rfl,ha,hb⟩
 | region id ops draw=>
   simp only [AK,M8] at h;split at h
   . split at h
     . simp only [Option.some.injEq] at h
       split at h<;>cases h
     . cases h
   . split at h<;>cases h
 | cond c a b=>
   simp only [AK,Option.bind_eq_some_iff,Option.map_eq_some_iff] at h;obtain ⟨a,ha,b,hb,he⟩:=h;cases he
 | rangeFunc f ps a b=>
   simp only [AK,Option.bind_eq_some_iff,Option.map_eq_some_iff] at h;obtain ⟨a,ha,b,hb,he⟩:=h;cases he
 | block id a=>
   simp only [AK,Option.map_eq_some_iff] at h;obtain ⟨a,ha,he⟩:=h;cases he
 | loop a=>
   simp only [AK,Option.map_eq_some_iff] at h;obtain ⟨a,ha,he⟩:=h;cases he
 | _=>simp [AK] at h
theorem XF {nt:Nat} {c:Code} {ops:List PO} (h:AK nt c=some (.reg ops)):∃ id all,c= .region id (List.toArray all) false/\ops=all.map (IO all)/\F3 nt all=true:=by
 cases c with
 | seq x y=>
   simp only [AK,Option.bind_eq_some_iff,Option.map_eq_some_iff] at h;obtain ⟨a,ha,b,hb,he⟩:=h;cases he
 | region id ops draw=>
   simp only [AK,M8] at h;split at h
   . split at h
     . simp only [Option.some.injEq] at h
       split at h<;>cases h
     . cases h
   . rename_i hd
     split at h
     . rename_i hds
       simp only [Option.some.injEq,PC.reg.injEq] at h;refine ⟨id,ops.toList,?_,h.symm,hds⟩;cases draw
       . simp
       . exact absurd rfl hd
     . cases h
 | cond c a b=>
   simp only [AK,Option.bind_eq_some_iff,Option.map_eq_some_iff] at h;obtain ⟨a,ha,b,hb,he⟩:=h;cases he
 | rangeFunc f ps a b=>
   simp only [AK,Option.bind_eq_some_iff,Option.map_eq_some_iff] at h;obtain ⟨a,ha,b,hb,he⟩:=h;cases he
 | block id a=>
   simp only [AK,Option.map_eq_some_iff] at h;obtain ⟨a,ha,he⟩:=h;cases he
 | loop a=>
   simp only [AK,Option.map_eq_some_iff] at h;obtain ⟨a,ha,he⟩:=h;cases he
 | _=>simp [AK] at h
def dwQ (P:Program) (Γ:Tys) (E:Ent) (fn:Func) (r:V) (H1:List (Nat × List V)) (pb:PC):Av->St->Prop
 | .normal,st=>DW P E fn r H1 pb st
 | .ret,st=>Dc Γ fn [] r H1 st
 | _,_=>False
theorem DW.seq (hΓ:GOk P Γ) (hE:EB P eqs) (hm:P.follows .mixedOrders=true) {fn:Func} {r:V} {H1:List (Nat × List V)} {pa pb:PC} {st:St} (h:PW P Γ eqs E pa (dwQ P Γ E fn r H1 pb) st):DW P E fn r H1 (.seq pa pb) st:=by
 intro hri c hc G0 W0 hB G a W hI;obtain ⟨x,y,rfl,hx,hy⟩:=OI hc;have hF:E.F=Fence.wide:=by unfold Ent.F;rw [hB.rd];rfl
 have h1:=PW.sound hΓ hE hm x pa hx _ _ h G a W hI;rw [hF] at h1;refine wpIn_seq (wpIn_mono h1 fun e a' W' ⟨z,st',G',hI',hz,ho,hq⟩=>?_);have hbase:E.W0=W0/\E.Im0=G0.Im/\(∀ b,E.mu b↔Bm G0 noH b)/\∀ i,i∈([]:List Nat)->E.stab i/\E.β0 i=G0.β i/\E.bs0 i=G0.bs i/\E.lo0 i=G0.lo i:=⟨hB.w,hB.im,hB.mu,fun _ h=>by cases h⟩
 cases z with
 | normal=>
   cases e<;>first | exact hq hri y hy G0 W0 hB G' a' W' hI' | exact False.elim hz
 | ret=>
   cases e with
   | ret=>
     show LeavesInM Fence.wide 0 P fn a'.tmps (KO G0 W0 r H1) a'.defers .returning W'
     obtain ⟨ds,hd,hmk⟩:=hI'.df;rw [hmk.nm hB.nm,hB.dx] at hd;rw [hd];obtain ⟨ρ,v,hv,hr,h4,h5,h6⟩:=H6 hΓ hI' hq;exact ⟨v,hv,_,GK (res:= .ret r) hbase hri hI' h4 h5 h6 (e:= .returned v) hr⟩
   | _=>exact False.elim hz
 | _=>exact hq.elim
def Cn (P:Program) (g:FuncId) (ids:List (Nat × Nat)) (m:Option V) (K:St->Prop) (st:St):Prop:=
 (∀ p∈ids,(st.H p.1).isSome=true)/\∃ args Hin ks H1c,CmD P g args Hin ks m H1c/\IB st.H (ids.map fun p=> .lp p.1 p.2) args Hin ks (.ret (.tup [])) H1c/\K ⟨st.fr,BI st.H st.nx Hin ks H1c,st.nx⟩
def XG (P:Program) (Γ:Tys) (fn:Func) (r:V) (H1:List (Nat × List V)) (g:FuncId) (ids:List (Nat × Nat)):Av->St->Prop
 | .normal,st | .ret,st=>Cn P g ids none (Dc Γ fn [] r H1) st
 | .pan v,st=>∃ D,v= .d D/\Cn P g ids (some v) (Dc Γ fn [] r H1) st
 | _,_=>False
theorem JY (hΓ:GOk P Γ) {fn:Func} {r:V} {H1:List (Nat × List V)} {g:FuncId} {ids:List (Nat × Nat)} {cv:Array Value} (hri:LD r H1) {G0:Gh} {W0:World} {E:Ent} (hbase:E.W0=W0/\E.Im0=G0.Im/\(∀ b,E.mu b↔Bm G0 noH b)/\∀ i,i∈([]:List Nat)->E.stab i/\E.β0 i=G0.β i/\E.bs0 i=G0.bs i/\E.lo0 i=G0.lo i)
   (hcv:AJ (fun (p:Nat × Nat) x=>E.stab p.1/\E.lo0 p.1=false/\x= .pointer (some ⟨E.β0 p.1,p.2,none⟩)) ids cv.toList) {st:St} {G:Gh} {a:Act} {W:World} (hI:Inv E (· < st.nx) G st a W) {m:Option V} (hm:∀ v,m=some v->∃ D,v= .d D) {u:FrameMode} (hu0:u≠ .run) (hu:RL G W m u) (h:Cn P g ids m (Dc Γ fn [] r H1) st):
   LeavesInM Fence.wide 0 P fn a.tmps (KO G0 W0 r H1) [{target:= .fn (.func g) cv,args:= #[]}] u W:=by
 obtain ⟨hlive,args,Hin,ks,H1c,⟨⟨f',hfn',hbody,hname⟩,hcm⟩,hcb,hK⟩:=h;have h1:f'.name≠ "runtime.NumGoroutine" :=by simpa using hname
 have h2:f'.body.isNone=false:=by cases h:f'.body<;>simp_all
 have hrel:AJ (RV G W) (ids.map fun p=>V.lp p.1 p.2) cv.toList:=AJ.map_left.2 (AJ.of_get hcv.length fun i p x hp hx=>by
   obtain ⟨y,hy,q1,q2,q3⟩:=hcv.get hp;rw [hx] at hy;cases hy;have hs:=hI.stab p.1 q1 (hlive p (List.mem_of_getElem? hp));refine ⟨⟨hs.2.2.1,hs.2.2.2.trans q2⟩,?_⟩;rw [q3,hs.1])
 obtain ⟨Im,hIm,hall,hpre,hph,hcs⟩:=GR hI hrel hcb;obtain ⟨hin,hlt,hkk,_⟩:=hcb
 have hle:∀ b,G.Im b->Im b:=fun b hb=>by
   rcases hcs with h | ⟨h,_⟩
   . exact (h b).2 hb
   . exact (h b).2 (.inl hb)
 have hmode:RL {G with Im:=Im} W m u:=by
   cases m with
   | none=>exact hu
   | some v=>
     obtain ⟨x,hx,hr⟩:=hu;obtain ⟨D,rfl⟩:=hm v rfl;exact ⟨x,hx,RD.mono (show RD G.Im W D x from hr) fun b hb=>⟨hle b hb,rfl⟩⟩
 refine ⟨hu0, .inr ⟨by simp [Fence.wide], .func g,cv,g,cv,rfl,?_,fun _ _=>trivial,?_⟩⟩
 . simp only [invoke,callFunc,Sem.run_bind,run_program,Result.andThen_ok,hfn']
   simp [h1,h2]
 . refine (hcm {G with Im:=Im} W cv u hIm hall hpre hmode).mono fun e u' W' ⟨hs,⟨v,hv⟩,G',hpost⟩=>?_
   subst hv
   show LeavesInM Fence.wide 0 P fn a.tmps (KO G0 W0 r H1) [] (settle u') W'
   rw [hs];obtain ⟨G'',hI',hrv,hav,_⟩:=hI.call (base:=st.nx) (U':=(· < st.nx+1048576)) (fun j _=>by omega) (fun i hi=>by omega) (fun j hj=>by omega) hin hlt (fun i hi=>(hpre.st i hi).1) hph hpost hcs;obtain ⟨ρ,v',hv',hr,h4,h5,h6⟩:=H6 hΓ hI' hK;exact ⟨v',hv',_,GK (res:= .ret r) hbase hri hI' h4 h5 h6 (e:= .returned v') hr⟩
theorem DW.defer (hΓ:GOk P Γ) (hE:EB P eqs) (hm:P.follows .mixedOrders=true) {fn:Func} {r:V} {H1:List (Nat × List V)} {pb:PC} {t:Nat} {g:FuncId} {caps:Array Operand} {cl:Call} {st:St} (ids:List (Nat × Nat)) (hcal:cl.callee= .value (.tmp t)) (hcl:cl.args= #[])
   (hcaps:BX st.fr caps.toList=ids.map fun p=> .lp p.1 p.2) (_:∀ i,¬ E.stab i)
   (h:∀ E':Ent,E'.nt=E.nt->(∀ i,E'.stab i↔i∈ids.map Prod.fst)->E'.rq->PW P Γ eqs E' pb (XG P Γ fn r H1 g ids) ⟨Am st.fr (some t) (.cl g (ids.map fun p=> .lp p.1 p.2)),st.H,st.nx+2097152⟩):
   DW P E fn r H1 (.seq (.reg [⟨some t, .makeFunc (.func g) #[] caps,none⟩,⟨none, .defer cl,none⟩]) pb) st:=by
 intro hri c hc G0 W0 hB G a W hI;obtain ⟨x,y,rfl,hx,hy⟩:=OI hc;obtain ⟨id,all,rfl,hops,hds⟩:=XF hx;obtain ⟨o1,o2,rfl⟩:=jh (l:=all) (by have:=congrArg List.length hops;simpa using this.symm);simp only [List.map_cons,List.map_nil,List.cons.injEq,IO,PO.mk.injEq,and_true] at hops;obtain ⟨⟨p1,p2,p3⟩,q1,q2,q3⟩:=hops;have g1:o1.guard=none:=by cases h:o1.guard with | none=>rfl | some z=>rw [h] at p3;cases p3
 have g2:o2.guard=none:=by cases h:o2.guard with | none=>rfl | some z=>rw [h] at q3;cases q3
 have hF:E.F=Fence.wide:=by unfold Ent.F;rw [hB.rd];rfl
 refine wpIn_seq (wpIn_region_lit ?_);have w1:Region.wanted o1 (yielded [o1,o2].toArray a.tmps)=true:=by simp [Region.wanted,g1]
 have w2:∀ T,Region.wanted o2 (yielded [o1,o2].toArray T)=true:=fun T=>by simp [Region.wanted,g2]
 simp only [wpListIn,w1,if_true]
 have hlt:t<E.nt:=by
   have:=List.all_eq_true.1 hds o1 (by simp);rw [<-p1] at this;simpa using this
 have hev:A9 Γ eqs st.H st.nx st.fr o1.op=some (.cl g (ids.map fun p=> .lp p.1 p.2), .none):=by
   rw [<-p2];simp only [A9,AN8,hcaps,G8];simp [V.cap]
 have hs:=E4 (U':=(· < st.nx+2097152)) hΓ hE hI (o:=o1) (b:=st.nx) (fun j _=>by omega) (fun i hi=>by omega) (fun j hj=>by omega) (fun d hd=>by rw [<-p1] at hd;cases hd;exact hlt) (.plain _ _ hev)
   (K:=fun a' W'=>wpListIn Fence.wide 0 P [o1,o2].toArray (Exit.then (y.wpIn Fence.wide 0 P (bodyPostM Fence.wide 0 P fn (KO G0 W0 r H1))) (bodyPostM Fence.wide 0 P fn (KO G0 W0 r H1))) [o2] a' W')
   (Q:=Exit.then (y.wpIn Fence.wide 0 P (bodyPostM Fence.wide 0 P fn (KO G0 W0 r H1))) (bodyPostM Fence.wide 0 P fn (KO G0 W0 r H1))) fun G' a' W' hI'=>by
     simp only [wpListIn,w2,if_true];refine ⟨fun _ _=>trivial,?_⟩;have hfr:=hI'.fr t;have hwf:=hI'.wf t;have e0:Am st.fr o1.dst (.cl g (ids.map fun p=> .lp p.1 p.2)) t= .cl g (ids.map fun p=> .lp p.1 p.2):=by rw [<-p1];simp [Am,upd]
     simp only [e0] at hfr hwf;obtain ⟨cv,hx,hcr⟩:=hfr;have hwf':∀ c∈(ids.map fun p=>V.lp p.1 p.2),A0 (· < st.nx+2097152) AR c:=hwf
     have hev2:a'.eval (.tmp t)= .func (.func g) #[] cv:=by
       simpa [Act.eval] using hx
     have hrun:(o2.semAt Fence.wide.round a'.eval).run P W'= .ok (.defer {target:= .fn (.func g) cv,args:= #[]}) W':=by
       have:Fence.wide.round=none:=rfl;rw [this,Oper.semAt_none];simp [execOp,<-q2,resolve,hcal,hcl,hev2,Deferred.ofValue]
     rw [hrun];simp only [Oper.uponIn,<-q1];have hI0:=hI';rw [<-p1] at hI0
     have hlp:∀ i,i∈ids.map Prod.fst->(G'.ph i=false/\G'.lo i=false)/\i<st.nx+2097152:=fun i hi=>by
       obtain ⟨p,hp,rfl⟩:=List.mem_map.1 hi;obtain ⟨k,hk⟩:=List.getElem?_of_mem hp;obtain ⟨z,hz,hr⟩:=(AJ.map_left.1 hcr).get hk;exact ⟨hr.1,hwf' _ (List.mem_map.2 ⟨p,hp,rfl⟩)⟩
     let E':Ent:={E with dx:=[{target:= .fn (.func g) cv,args:= #[]}],nm:=false,stab:=fun i=>i∈ids.map Prod.fst,β0:=G'.β,bs0:=G'.bs,lo0:=G'.lo}
     have hdf:a'.defers=[]:=by
       obtain ⟨ds,hd,hmk⟩:=hI'.df;rw [hmk.nm hB.nm,hB.dx] at hd;exact hd
     have hI2:Inv E' (· < st.nx+2097152) G' ⟨Am st.fr (some t) (.cl g (ids.map fun p=> .lp p.1 p.2)),st.H,st.nx+2097152⟩ {a' with defers:=[{target:= .fn (.func g) cv,args:= #[]}]} W':=
       ⟨hI0.fr,hI0.wf,hI0.hp,hI0.wh,hI0.dom,hI0.inj,hI0.own,hI0.im,hI0.im0,⟨hI0.keep.os,hI0.keep.tape,hI0.keep.output,hI0.keep.drawn,hI0.keep.size,hI0.keep.block⟩,fun i hi _=>⟨rfl,rfl,(hlp i hi).1.1,rfl⟩,fun i hi=>(hlp i hi).2,hI0.nt,⟨[],rfl,List.nodup_nil,fun _ h=>(nomatch h),fun _=>rfl⟩,hI0.gl⟩
     have hF':E'.F=Fence.wide:=by show ({Fence.wide with round:=E.rd}:Fence)=_;rw [hB.rd];rfl
     have hsnd:=PW.sound (E:=E') hΓ hE hm y pb hy _ _ (h E' rfl (fun _=>Iff.rfl) ⟨hB.rd,rfl⟩) G' _ W' hI2;rw [hF'] at hsnd;rw [hdf]
     show y.wpIn Fence.wide 0 P (bodyPostM Fence.wide 0 P fn (KO G0 W0 r H1)) {a' with defers:=[{target:= .fn (.func g) cv,args:= #[]}]} W'
     have hbase:E'.W0=W0/\E'.Im0=G0.Im/\(∀ b,E'.mu b↔Bm G0 noH b)/\∀ i,i∈([]:List Nat)->E'.stab i/\E'.β0 i=G0.β i/\E'.bs0 i=G0.bs i/\E'.lo0 i=G0.lo i:=⟨hB.w,hB.im,hB.mu,fun _ h=>by cases h⟩
     have hcv:AJ (fun (p:Nat × Nat) x=>E'.stab p.1/\E'.lo0 p.1=false/\x= .pointer (some ⟨E'.β0 p.1,p.2,none⟩)) ids cv.toList:=
       AJ.of_get (by have:=hcr.length;simpa using this) fun i p x hp hx=>by
         obtain ⟨z,hz,hr⟩:=(AJ.map_left.1 hcr).get hp;rw [hx] at hz;cases hz;exact ⟨List.mem_map.2 ⟨p,List.mem_of_getElem? hp,rfl⟩,hr.1.2,hr.2⟩
     refine wpIn_mono hsnd fun e a3 W3 ⟨z,st3,G3,hI3,hz,ho,hq⟩=>?_
     obtain ⟨ds,hd,_⟩:=hI3.df
     have fin:Cn P g ids none (Dc Γ fn [] r H1) st3->LeavesInM Fence.wide 0 P fn a3.tmps (KO G0 W0 r H1) a3.defers .returning W3:=fun hq=>by
       rw [hd];refine DI (u:= .returning) nofun ds a3 W3 rfl hd hI3 (W0:=W3) (fun _ _=>rfl) fun a4 W4 ht hI4 _=>?_
       rw [<-ht];exact JY hΓ hri hbase hcv hI4 (m:=none) nofun nofun rfl hq
     cases z with
     | normal=>cases e<;>first | exact fin hq | exact False.elim hz
     | ret=>cases e<;>first | exact fin hq | exact False.elim hz
     | exit _=>exact hq.elim
     | goto _=>exact hq.elim
     | pan v=>
       cases e with
       | panic ch=>
         obtain ⟨D,rfl,hq⟩:=hq;obtain ⟨x,hx,hrx⟩:=hz
         show LeavesInM Fence.wide 0 P fn a3.tmps (KO G0 W0 r H1) a3.defers (.panicking ch) W3
         rw [hd];refine DI (u:= .panicking ch) nofun ds a3 W3 rfl hd hI3 (W0:=W3) (fun _ _=>rfl) fun a4 W4 ht hI4 hW4=>?_
         rw [<-ht];refine JY hΓ hri hbase hcv hI4 (m:=some (.d D)) (fun v hv=>⟨D,by cases hv;rfl⟩) nofun ⟨x,by rw [hx],?_⟩ hq;exact RD.mono (show RD G3.Im W3 D x from hrx) fun b hb=>⟨hb,hW4 b hb⟩
       | _=>exact False.elim hz
 rw [hF] at hs;exact hs
theorem Ct.byD (_:GOk P Γ) {f:FuncId} {fn:Func} {p:PC} {args:List V} {r:V} {H1:List (Nat × List V)} (hf:P.funcs[f]?= some fn) (hc:fn.body.bind (AK fn.ntmps)=some p) (hname:(fn.name == "runtime.NumGoroutine")=false)
   (hn:args.length<=fn.ntmps) (hcl:∀ v∈args,I8 v) (hri:LD r H1) (h:∀ E:Ent,(∀ i,¬ E.stab i)->E.nt=fn.ntmps->DW P E fn r H1 p ⟨Dn 0 args,fun _=>none,0⟩):Ct P f args r H1:=by
 cases hb:fn.body with
 | none=>rw [hb] at hc;cases hc
 | some c=>
   rw [hb] at hc;refine ⟨⟨fn,hf,by rw [hb];rfl,hname⟩,fun G W xs hGW hargs hpre=>?_⟩;have hcl':∀ v∈args,A2 (· < 0) AR v:=fun v hv=>A2.mono (fun _ h=>h.elim) (fun _ h=>h) (hcl v hv)
   obtain ⟨hfr,hwf⟩:=ML (fn:=fn) hcl' hargs;have hl:args.length=xs.size:=by have:=hargs.length;simpa using this
   have hI:=Inv.startN (N:=0) (nt:=fn.ntmps) (rd:=none) (nm:=true) hGW hpre nofun nofun (tmps:=xs++Array.replicate (fn.ntmps-xs.size) undef) hfr hwf (by simp;omega);rw [<-callsIn_wide (n:=0)];refine callsIn_of_wp_marks hf hb trivial ?_;exact h {W0:=W,Im0:=G.Im,mu:=Bm G noH,β0:=G.β,bs0:=G.bs,lo0:=G.lo,stab:=(·∈([]:List Nat)),nt:=fn.ntmps,rd:=none,nm:=true} (fun i hi=>by cases hi) rfl hri c hc G W ⟨rfl,rfl,fun _=>Iff.rfl,rfl,rfl,rfl⟩ G _ W hI
end Go.Psl
namespace Go.Psl
variable {P:Program} {Γ:Tys} {eqs:Eqs} {K:RK} {Kx:V->RK} {b n:Nat} {r:List PO} {f:Nat->V} {H:Hp} {dst:Option Nat}
def mF (Kx:V->RK) (f:Nat->V) (H:Hp) (n:Nat):V->Prop
 | .d (.ifc t ag cs)=>Kx (.d (.ifc t ag cs)) f H n
 | _=>False
theorem ABb {t:TypeId} {ag:Bool} {cs:List D}:mF Kx f H n (.d (.ifc t ag cs))=Kx (.d (.ifc t ag cs)) f H n:=AF rfl
theorem mG {x:Operand}:rr P Γ eqs Kx K b (⟨dst, .panic x,none⟩::r) f H=mF Kx f H (b+1048576) (evF f x):=by
 simp only [rr,H8,PO.run,gV2,Fa,A9,true_and];unfold mF;split
 . rename_i t ag cs h;rw [h];simp
 . rename_i h
   simp only [eq_iff_iff,iff_false,not_and]
   rintro ⟨t,ag,cs,e⟩
   exact absurd e (h t ag cs)
attribute [simp] mG ABb jH
end Go.Psl
namespace Go.Proofs.Tryz
open Go.Psl
open Go.Air
abbrev plB (p:Plt) (c:V):List V:=[c,vi p.bt,vi p.ih,vi p.ia,vi p.vh,vi p.va,vi p.lh,vi p.la,vi p.ph,vi p.pa]
abbrev Fm (e:Int):V:= .d (.ifc 218 true [di e])
theorem Nr:∀ x:Cel,(AP x).length=7:=fun _=>rfl
theorem BP (e:Int):Ct prog 112 [vb true,vi e] (.tup []) []:=by
 refine CB func112 ASd fun E hE=>?_
 simp [p112];apply RZ;simp [results112]
theorem Xt (e:Int):Cm prog 112 [vb false,vi e] (lk []) [] (.pan (Fm e)) (lk []):=by
 refine CM 0 func112 ASd fun E hs hE=>?_
 simp [p112,AA];refine ⟨fun _=>none,?_,?_,?_,?_⟩<;>simp
theorem AQY (a b c d:Int) (h:(-2000000000000<=a/\a<=2000000000000)/\(-2000000000000<=b/\b<=2000000000000)/\(-2000000000000<=c/\c<=2000000000000)/\ -2000000000000<=d/\d<=2000000000000):Ct prog 60 [vsp a b,vsp c d] (vsp (a+c) (b+d)) []:=by
 have w1:IntKind.wrap .i64 (a+c)=a+c:=AD (by omega) (by omega);have w2:IntKind.wrap .i64 (b+d)=b+d:=AD (by omega) (by omega);refine CB func60 c60 fun E hE=>?_
 simp [p60,AA,w1,w2];apply RZ;simp [results60]
def inA (n:Nat) (a:Act):Bool:=rgB 0 ((n:Int)-1) [a.c]&&rgB 1 10000000 [a.n]
theorem EQ {n:Nat} {a:Act}:inA n a=true↔(0<=a.c/\a.c<n)/\1<=a.n/\a.n<=10000000:=by
 unfold inA rgB;simp;omega
theorem Iz (p:Plt) (cs:List Cel) (a:Act) (hl:cs.length<=1000000) (hin:inA cs.length a=true):Cm prog 143 [.lp 0 0,BZ a] (lk [(0,plB p (.ls 1 0 cs.length 7)),(1,AH AP cs)]) [0,1] (.ret (.lp 1 (a.c.toNat*7))) (lk [(0,plB p (.ls 1 0 cs.length 7)),(1,AH AP cs)]):=by
 have h1:=EQ.1 hin;obtain ⟨i,hi⟩:∃ i:Nat,a.c=i:=⟨a.c.toNat,by omega⟩
 have c1:=ALU 0 ((cs.length:Int)-1) [a.c] (by simp);have c2:=ALU 1 10000000 [a.n] (by simp);have c3:=BP 2;unfold inA at hin;simp only [Bool.and_eq_true] at hin;rw [hin.1] at c1;rw [hin.2] at c2;rw [hi] at c1 h1 ⊢;have hI:(i:Int)<cs.length:=by omega
 have hil:i<cs.length:=by omega
 have w:IntKind.wrap .i64 ((cs.length:Int)-1)=(cs.length:Int)-1:=AD (by omega) (by omega);have hsl:=Aw Nr cs;refine CM 2 func143 AQA fun E hs hE=>?_
 simp [p143,AA,AM,inC,Nat.testBit,hi,w]
 repeat ((first | (refine CLt c1 ?_ ?_;focus (simp [AG];done)) | (refine CLt c2 ?_ ?_;focus (simp [AG];done)) | (refine CLt c3 ?_ ?_;focus (simp;done)));simp [AA,AM,inC,Nat.testBit,hI])
 refine AB.by (lk [(0,0),(1,1)]) ?_;simp [results143]
theorem UB (p:Plt) (cs:List Cel) (a:Act) (hl:cs.length<=1000000) (hin:inA cs.length a=false):Cm prog 143 [.lp 0 0,BZ a] (lk [(0,plB p (.ls 1 0 cs.length 7)),(1,AH AP cs)]) [0,1] (.pan (Fm 2)) (lk [(0,plB p (.ls 1 0 cs.length 7)),(1,AH AP cs)]):=by
 have c1:=ALU 0 ((cs.length:Int)-1) [a.c] (by simp);have c2:=ALU 1 10000000 [a.n] (by simp);have c3:=Xt 2;have w:IntKind.wrap .i64 ((cs.length:Int)-1)=(cs.length:Int)-1:=AD (by omega) (by omega);unfold inA at hin
 generalize rgB 0 ((cs.length:Int)-1) [a.c]=b1 at*
 generalize rgB 1 10000000 [a.n]=b2 at*
 cases b1
 . refine CM 2 func143 AQA fun E hs hE=>?_
   simp [p143,AA,AM,inC,Nat.testBit,w]
   repeat ((first | (refine CLt c1 ?_ ?_;focus (simp [AG];done)) | (refine CLt c2 ?_ ?_;focus (simp [AG];done)));simp)
   refine CRs c3 (by simp) ?_;refine ⟨lk [(0,0),(1,1)],?_,?_,?_,?_⟩<;>simp
 . cases b2
   . refine CM 2 func143 AQA fun E hs hE=>?_
     simp [p143,AA,AM,inC,Nat.testBit,w]
     repeat ((first | (refine CLt c1 ?_ ?_;focus (simp [AG];done)) | (refine CLt c2 ?_ ?_;focus (simp [AG];done)));simp [AA,AM])
     refine CRs c3 (by simp) ?_;refine ⟨lk [(0,0),(1,1)],?_,?_,?_,?_⟩<;>simp
   . simp at hin
theorem dG (p:Plt) (a:Act):Cm prog 143 [.lp 0 0,BZ a] (lk [(0,plB p (.ls 1 0 0 7))]) [] (.pan (Fm 2)) (lk []):=by
 have c1:=ALU 0 (-1) [a.c] (by simp);have c3:=Xt 2;have e:rgB 0 (-1) [a.c]=false:=by unfold rgB;simp;omega
 have w:IntKind.wrap .i64 (-1)= -1:=by decide
 rw [e] at c1;refine CM 2 func143 AQA fun E hs hE=>?_
 simp [p143,AA,AM,inC,Nat.testBit,w]
 repeat ((first | (refine CLt c1 ?_ ?_;focus (simp [AG];done)));simp)
 refine CRs c3 (by simp) ?_;refine ⟨fun _=>none,?_,?_,?_,?_⟩<;>simp
def BQ (c:Cel) (n:Int):Int:=n*c.he/(c.he+c.ai)
def I0 (c:Cel) (n:Int):Cel:={c with he:=c.he-BQ c n,ai:=c.ai-(n-BQ c n)}
theorem KE {c:Cel} {n:Int} (h1:0<=c.he) (h2:0<=c.ai) (h3:0<=n) (h4:n<=c.he+c.ai):0<=BQ c n/\BQ c n<=c.he/\BQ c n<=n/\n-BQ c n<=c.ai:=by
 unfold BQ;by_cases h0:c.he+c.ai=0
 . have:n=0:=by omega
   subst this;simp;omega
 have hp:0<c.he+c.ai:=by omega
 have e1:0<=n*c.he:=Int.mul_nonneg h3 h1;have e2:n*c.he<=(c.he+c.ai)*c.he:=Int.mul_le_mul_of_nonneg_right h4 h1;have e3:n*c.he<=n*(c.he+c.ai):=Int.mul_le_mul_of_nonneg_left (by omega) h3;refine ⟨Int.ediv_nonneg e1 (by omega),?_,?_,?_⟩
 . have:=Int.ediv_le_ediv hp e2
   rwa [Int.mul_ediv_cancel_left _ h0] at this
 . have:=Int.ediv_le_ediv hp e3
   rwa [Int.mul_ediv_cancel _ h0] at this
 . have e4:(n-c.ai)*(c.he+c.ai)<=n*c.he:=by
     have a1:(n-c.ai)*(c.he+c.ai)=n*c.he+(n*c.ai-c.ai*(c.he+c.ai)):=by
       rw [Int.sub_mul,Int.mul_add];omega
     have a2:n*c.ai<=(c.he+c.ai)*c.ai:=Int.mul_le_mul_of_nonneg_right h4 h2;have a3:(c.he+c.ai)*c.ai=c.ai*(c.he+c.ai):=Int.mul_comm _ _;omega
   have:=(Int.le_ediv_iff_mul_le hp).2 e4;omega
theorem Sg (cs:List Cel) (i:Nat) (c:Cel) (n:Int) (hc:cs[i]?= some c) (hb:(0<=c.he/\c.he<=10000000)/\0<=c.ai/\c.ai<=10000000) (hn:1<=n/\n<=c.he+c.ai):Cm prog 144 [.lp 1 (i*7),vi n] (lk [(1,AH AP cs)]) [1] (.ret (vsp (BQ c n) (n-BQ c n))) (lk [(1,AH AP (cs.set i (I0 c n)))]):=by
 have q1:=hb.1;have q2:=hb.2;have hbd:=KE q1.1 q2.1 (by omega:0<=n) hn.2;have hz:¬ c.he+c.ai=0:=by omega
 have m1:0<=n*c.he:=Int.mul_nonneg (by omega) (by omega);have m2:n*c.he<=20000000*10000000:=Int.mul_le_mul (by omega) (by omega) (by omega) (by omega);have hd:(n*c.he).tdiv (c.he+c.ai)=BQ c n:=Int.tdiv_eq_ediv_of_nonneg m1;have w1:IntKind.wrap .i64 (c.he+c.ai)=c.he+c.ai:=AD (by omega) (by omega);have w2:IntKind.wrap .i64 (n*c.he)=n*c.he:=AD (by omega) (by omega);have w3:IntKind.wrap .i64 (BQ c n)=BQ c n:=AD (by omega) (by omega);have w4:IntKind.wrap .i64 (c.he-BQ c n)=c.he-BQ c n:=AD (by omega) (by omega);have w5:IntKind.wrap .i64 (n-BQ c n)=n-BQ c n:=AD (by omega) (by omega);have w6:IntKind.wrap .i64 (c.ai-(n-BQ c n))=c.ai-(n-BQ c n):=AD (by omega) (by omega);have g:c.he+c.ai>=n:=by omega
 have c3:=BP 6;have hil:=(List.getElem?_eq_some_iff.1 hc).1
 let c1:Cel:={c with he:=c.he-BQ c n}
 have hc1:(cs.set i c1)[i]?= some c1:=by simp [hil]
 have s0:i*7+1+1<=cs.length*7/\i*7+2+1<=cs.length*7:=by omega
 have hsl:=Aw Nr cs;have hsl1:=Aw Nr (cs.set i c1);have r1:(AH AP cs)[i*7+1]?= some (vi c.he):=Jg Nr hc rfl;have r2:(AH AP cs)[i*7+2]?= some (vi c.ai):=Jg Nr hc rfl;have t1:List.take 1 (List.drop (i*7+1) (AH AP cs))=[vi c.he]:=Bg Nr (j:=1) (k:=1) hc (by omega);have t2:List.take 1 (List.drop (i*7+2) (AH AP cs))=[vi c.ai]:=Bg Nr (j:=2) (k:=1) hc (by omega);have e1:AA (AH AP cs) (i*7+1) [vi (c.he-BQ c n)]=AH AP (cs.set i c1):=Cq Nr (vs:=[di (c.he-BQ c n)]) hc (by simp) rfl;have t3:List.take 1 (List.drop (i*7+2) (AH AP (cs.set i c1)))=[vi c.ai]:=Bg Nr (x:=c1) (j:=2) (k:=1) hc1 (by omega)
 have e2:AA (AH AP (cs.set i c1)) (i*7+2) [vi (c.ai-(n-BQ c n))]=AH AP (cs.set i (I0 c n)):=by
   have:=Cq Nr (y:=I0 c n) (j:=2) (vs:=[di (c.ai-(n-BQ c n))]) hc1 (by simp) rfl;rw [List.set_set] at this;exact this
 refine CM 2 func144 ASg fun E hs hE=>?_
 simp [p144,inC,Nat.testBit,t1,t2,s0,hsl,w1,g];refine CLa c3 ?_;simp [inC,Nat.testBit,t1,t2,t3,e1,e2,s0,hsl,hsl1,w1,w2,w3,w4,w5,w6,hd,hz];refine AB.by (lk [(1,1)]) ?_;simp [results144,AA,Hp.app]
theorem dH (cs:List Cel) (i:Nat) (c:Cel) (n:Int) (hc:cs[i]?= some c) (hb:(0<=c.he/\c.he<=10000000)/\0<=c.ai/\c.ai<=10000000) (hn:c.he+c.ai<n):Cm prog 144 [.lp 1 (i*7),vi n] (lk [(1,AH AP cs)]) [1] (.pan (Fm 6)) (lk [(1,AH AP cs)]):=by
 have q1:=hb.1;have q2:=hb.2;have w1:IntKind.wrap .i64 (c.he+c.ai)=c.he+c.ai:=AD (by omega) (by omega);have g:¬ c.he+c.ai>=n:=by omega
 have g2:¬ n<=c.he+c.ai:=by omega
 have c3:=Xt 6;have hil:=(List.getElem?_eq_some_iff.1 hc).1;have s0:i*7+1+1<=cs.length*7/\i*7+2+1<=cs.length*7:=by omega
 have hsl:=Aw Nr cs;have t1:List.take 1 (List.drop (i*7+1) (AH AP cs))=[vi c.he]:=Bg Nr (j:=1) (k:=1) hc (by omega);have t2:List.take 1 (List.drop (i*7+2) (AH AP cs))=[vi c.ai]:=Bg Nr (j:=2) (k:=1) hc (by omega);refine CM 2 func144 ASg fun E hs hE=>?_
 simp [p144,inC,Nat.testBit,t1,t2,s0,hsl,w1,g2];refine CRs c3 (by simp) ?_;refine ⟨lk [(1,1)],?_,?_,?_,?_⟩<;>simp
abbrev gd (x:Int):Prop:=0<=x/\x<=1000000000000
theorem BG {cs:List Cel} (h:cs≠[]):AH AP cs≠[]:=fun e=>by
 have:=congrArg List.length e;rw [Aw Nr] at this;cases cs with
 | nil=>exact h rfl
 | cons a r=>simp at this
theorem BB {l:List Cel} {p:Nat->Prop}:(∀ c,c∈AH AP l->AC p B9 c)=True:=eq_true (Ou fun x y hy=>by
 simp only [List.mem_cons,List.not_mem_nil,or_false] at hy;rcases hy with rfl | rfl | rfl | rfl | rfl | rfl | rfl<;>exact ⟨_,rfl⟩)
theorem aV (p:Plt) (cs:List Cel) (a:Act) (c:Cel) (hl:cs.length<=1000000) (hin:inA cs.length a=true) (hc:cs[a.c.toNat]?= some c) (hb:B5 c) (hn:a.n<=c.he+c.ai) (hv:gd p.vh) (hw:gd p.va):
   Cm prog 107 [.lp 0 0,BZ a] (lk [(0,plB p (.ls 1 0 cs.length 7)),(1,AH AP cs)]) [0,1] (.ret (.tup [])) (lk [(0,plB {p with vh:=p.vh+BQ c a.n,va:=p.va+(a.n-BQ c a.n)} (.ls 1 0 cs.length 7)),(1,AH AP (cs.set a.c.toNat (I0 c a.n)))]):=by
 have h1:=EQ.1 hin;have q1:=hb.he;have q2:=hb.ai;have hbd:=KE q1.1 q2.1 (by omega:0<=a.n) hn;have d1:=Iz p cs a hl hin;have d2:=Sg cs a.c.toNat c a.n hc ⟨hb.he,hb.ai⟩ ⟨h1.2.1,hn⟩;have d3:=AQY p.vh p.va (BQ c a.n) (a.n-BQ c a.n) ⟨by omega,by omega,by omega,by omega⟩;have hne:cs≠[]:=fun e=>by rw [e] at hc;simp at hc
 have n1:=BG hne;refine CM 2 func107 AP9 fun E hs hE=>?_
 simp [p107];refine AL [(11,1)] (by kernel_rfl) ?_;simp [inC,Nat.testBit];refine CDs d1 (by simp [wrL,inC,Nat.testBit,n1,BB]) ?_;simp [inC,Nat.testBit];refine CDs d2 (by simp [wrL,inC,Nat.testBit,n1,BB]) ?_;simp;refine CLa d3 ?_;simp [AA];refine AB.by (lk [(0,0),(1,1)]) ?_;simp [results107]
theorem Vw (p:Plt) (cs:List Cel) (a:Act) (hl:cs.length<=1000000) (hne:cs≠[]) (hin:inA cs.length a=false):Cm prog 107 [.lp 0 0,BZ a] (lk [(0,plB p (.ls 1 0 cs.length 7)),(1,AH AP cs)]) [] (.pan (Fm 2)) (lk []):=by
 have d1:=UB p cs a hl hin;have n1:=BG hne;refine CM 2 func107 AP9 fun E hs hE=>?_
 simp [p107];refine AL [(11,1)] (by kernel_rfl) ?_;simp [inC,Nat.testBit];refine CDs d1 (by simp [inC,Nat.testBit,n1,BB]) ?_;simp;intro st;refine ⟨fun _=>none,?_,?_,?_,?_⟩<;>simp
theorem Vx (p:Plt) (cs:List Cel) (a:Act) (c:Cel) (hl:cs.length<=1000000) (hin:inA cs.length a=true) (hc:cs[a.c.toNat]?= some c) (hb:B5 c) (hn:c.he+c.ai<a.n):Cm prog 107 [.lp 0 0,BZ a] (lk [(0,plB p (.ls 1 0 cs.length 7)),(1,AH AP cs)]) [] (.pan (Fm 6)) (lk []):=by
 have d1:=Iz p cs a hl hin;have d2:=dH cs a.c.toNat c a.n hc ⟨hb.he,hb.ai⟩ hn;have hne:cs≠[]:=fun e=>by rw [e] at hc;simp at hc
 have n1:=BG hne;refine CM 2 func107 AP9 fun E hs hE=>?_
 simp [p107];refine AL [(11,1)] (by kernel_rfl) ?_;simp [inC,Nat.testBit];refine CDs d1 (by simp [wrL,inC,Nat.testBit,n1,BB]) ?_;simp [inC,Nat.testBit];refine CDs d2 (by simp [inC,Nat.testBit,n1,BB]) ?_;simp;intro st;refine ⟨fun _=>none,?_,?_,?_,?_⟩<;>simp
theorem lf (a b p q:V):AA [a,b] 0 [p,q]=[p,q]:=rfl
def inT (n:Nat) (a:Act):Bool:=rgB 0 ((n:Int)-1) [a.t]&&!decide (a.t=a.c)
def gg (c:Cel) (h i:Int):Cel:={c with he:=c.he+h,ai:=c.ai+i}
theorem gi (p:Plt) (cs:List Cel) (a:Act) (c e:Cel) (hl:cs.length<=1000000) (hin:inA cs.length a=true) (hto:inT cs.length a=true) (hc:cs[a.c.toNat]?= some c) (he:cs[a.t.toNat]?= some e) (hb:B5 c) (hbe:B5 e) (hn:a.n<=c.he+c.ai):
   Cm prog 108 [.lp 0 0,BZ a] (lk [(0,plB p (.ls 1 0 cs.length 7)),(1,AH AP cs)]) [0,1] (.ret (.tup [])) (lk [(0,plB p (.ls 1 0 cs.length 7)),(1,AH AP ((cs.set a.c.toNat (I0 c a.n)).set a.t.toNat (gg e (BQ c a.n) (a.n-BQ c a.n))))]):=by
 have h1:=EQ.1 hin;have q1:=hb.he;have q2:=hb.ai;have q3:=hbe.he;have q4:=hbe.ai;have hbd:=KE q1.1 q2.1 (by omega:0<=a.n) hn;have d1:=Iz p cs a hl hin;have d2:=ALU 0 ((cs.length:Int)-1) [a.t] (by simp);have d3:=BP 2;have d4:=Sg cs a.c.toNat c a.n hc ⟨hb.he,hb.ai⟩ ⟨h1.2.1,hn⟩;unfold inT at hto;simp only [Bool.and_eq_true,Bool.not_eq_true',decide_eq_false_iff_not] at hto;rw [hto.1] at d2;have hT:0<=a.t/\a.t<cs.length:=by have:=hto.1;unfold rgB at this;simp at this;omega
 have hne:cs≠[]:=fun e=>by rw [e] at hc;simp at hc
 have n1:=BG hne;have w:IntKind.wrap .i64 ((cs.length:Int)-1)=(cs.length:Int)-1:=AD (by omega) (by omega);have hij:a.c.toNat≠a.t.toNat:=fun e=>hto.2 (by omega)
 obtain ⟨j,hj⟩:∃ j:Nat,a.t=j:=⟨a.t.toNat,by omega⟩
 have hjt:a.t.toNat=j:=by omega
 rw [hjt] at he hij ⊢;have hT2:(j:Int)<cs.length:=by omega
 have hjl:j<cs.length:=by omega
 have hil:=(List.getElem?_eq_some_iff.1 hc).1;obtain ⟨L,hL⟩:∃ L,cs.set a.c.toNat (I0 c a.n)=L:=⟨_,rfl⟩
 have hLl:L.length=cs.length:=by rw [<-hL];simp
 have heL:L[j]?= some e:=by rw [<-hL,List.getElem?_set_ne hij];exact he
 rw [hL] at d4 ⊢;obtain ⟨h,hh⟩:∃ h,BQ c a.n=h:=⟨_,rfl⟩
 rw [hh] at d4 hbd ⊢
 let e1:Cel:={e with he:=e.he+h}
 have he1:(L.set j e1)[j]?= some e1:=by simp [hLl,hjl]
 have hsl:=Aw Nr L;have hsl1:=Aw Nr (L.set j e1);have s0:j*7+1+1<=cs.length*7/\j*7+2+1<=cs.length*7:=by omega
 have t1:List.take 1 (List.drop (j*7+1) (AH AP L))=[vi e.he]:=Bg Nr (x:=e) (j:=1) (k:=1) heL (by omega);have t2:List.take 1 (List.drop (j*7+2) (AH AP (L.set j e1)))=[vi e.ai]:=Bg Nr (x:=e1) (j:=2) (k:=1) he1 (by omega);have x1:AA (AH AP L) (j*7+1) [vi (e.he+h)]=AH AP (L.set j e1):=Cq Nr (vs:=[di (e.he+h)]) heL (by simp) rfl
 have x2:AA (AH AP (L.set j e1)) (j*7+2) [vi (e.ai+(a.n-h))]=AH AP (L.set j (gg e h (a.n-h))):=by
   have:=Cq Nr (y:=gg e h (a.n-h)) (j:=2) (vs:=[di (e.ai+(a.n-h))]) he1 (by simp) rfl;rw [List.set_set] at this;exact this
 have w5:IntKind.wrap .i64 (e.he+h)=e.he+h:=AD (by omega) (by omega);have w6:IntKind.wrap .i64 (e.ai+(a.n-h))=e.ai+(a.n-h):=AD (by omega) (by omega);have hne2:¬ (j:Int)=a.c:=by rw [<-hj];exact hto.2
 rw [hj] at d2;refine CM 2 func108 AOf fun E hs hE=>?_
 simp [p108];refine CRs d1 (by simp [n1,BB]) ?_;simp [AA,AM,inC,Nat.testBit,hj,w];refine CLb (d2) (by simp [AG,inC,Nat.testBit]) ?_;simp [inC,Nat.testBit,hne2];refine CLa d3 ?_;simp;refine AL [(3,1),(13,37748738)] (by kernel_rfl) ?_;simp [inC,Nat.testBit];refine CDs d4 (by simp [wrL,inC,Nat.testBit,n1,BB]) ?_;simp [inC,Nat.testBit,hT2,hjl,hLl,hsl,hsl1,s0,t1,t2,x1,x2,w5,w6,lf];refine AB.by (lk [(0,0),(1,1)]) ?_;simp [results108]
theorem an (p:Plt) (cs:List Cel) (a:Act) (hl:cs.length<=1000000) (hne:cs≠[]) (hin:inA cs.length a=false):Cm prog 108 [.lp 0 0,BZ a] (lk [(0,plB p (.ls 1 0 cs.length 7)),(1,AH AP cs)]) [] (.pan (Fm 2)) (lk []):=by
 have d1:=UB p cs a hl hin;have n1:=BG hne;refine CM 2 func108 AOf fun E hs hE=>?_
 simp [p108];refine CRs d1 (by simp [n1,BB]) ?_;refine ⟨fun _=>none,?_,?_,?_,?_⟩<;>simp
theorem ap (p:Plt) (cs:List Cel) (a:Act) (hl:cs.length<=1000000) (hin:inA cs.length a=true) (hto:inT cs.length a=false):Cm prog 108 [.lp 0 0,BZ a] (lk [(0,plB p (.ls 1 0 cs.length 7)),(1,AH AP cs)]) [] (.pan (Fm 2)) (lk []):=by
 have h1:=EQ.1 hin;have d1:=Iz p cs a hl hin;have d2:=ALU 0 ((cs.length:Int)-1) [a.t] (by simp);have d3:=Xt 2;have hne:cs≠[]:=fun e=>by rw [e] at h1;simp at h1;omega
 have n1:=BG hne;have w:IntKind.wrap .i64 ((cs.length:Int)-1)=(cs.length:Int)-1:=AD (by omega) (by omega);unfold inT at hto;cases hr:rgB 0 ((cs.length:Int)-1) [a.t]
 . rw [hr] at d2
   refine CM 2 func108 AOf fun E hs hE=>?_
   simp [p108];refine CRs d1 (by simp [n1,BB]) ?_;simp [AA,AM,inC,Nat.testBit,w];refine CLb (d2) (by simp [AG,inC,Nat.testBit]) ?_;simp;refine CRs d3 (by simp) ?_;refine ⟨fun _=>none,?_,?_,?_,?_⟩<;>simp
 . rw [hr] at d2 hto
   have e:a.t=a.c:=by simpa using hto
   refine CM 2 func108 AOf fun E hs hE=>?_
   simp [p108];refine CRs d1 (by simp [n1,BB]) ?_;simp [AA,AM,inC,Nat.testBit,w];refine CLb (d2) (by simp [AG,inC,Nat.testBit]) ?_;simp [inC,Nat.testBit,e];refine CRs d3 (by simp) ?_;refine ⟨fun _=>none,?_,?_,?_,?_⟩<;>simp
theorem aq (p:Plt) (cs:List Cel) (a:Act) (c:Cel) (hl:cs.length<=1000000) (hin:inA cs.length a=true) (hto:inT cs.length a=true) (hc:cs[a.c.toNat]?= some c) (hb:B5 c) (hn:c.he+c.ai<a.n):Cm prog 108 [.lp 0 0,BZ a] (lk [(0,plB p (.ls 1 0 cs.length 7)),(1,AH AP cs)]) [] (.pan (Fm 6)) (lk []):=by
 have h1:=EQ.1 hin;have d1:=Iz p cs a hl hin;have d2:=ALU 0 ((cs.length:Int)-1) [a.t] (by simp);have d3:=BP 2;have d4:=dH cs a.c.toNat c a.n hc ⟨hb.he,hb.ai⟩ hn;unfold inT at hto;simp only [Bool.and_eq_true,Bool.not_eq_true',decide_eq_false_iff_not] at hto;rw [hto.1] at d2;have hT:0<=a.t/\a.t<cs.length:=by have:=hto.1;unfold rgB at this;simp at this;omega
 have hne:cs≠[]:=fun e=>by rw [e] at hc;simp at hc
 have n1:=BG hne;have w:IntKind.wrap .i64 ((cs.length:Int)-1)=(cs.length:Int)-1:=AD (by omega) (by omega);obtain ⟨j,hj⟩:∃ j:Nat,a.t=j:=⟨a.t.toNat,by omega⟩
 have hT2:(j:Int)<cs.length:=by omega
 have hjl:j<cs.length:=by omega
 have hne2:¬ (j:Int)=a.c:=by rw [<-hj];exact hto.2
 rw [hj] at d2;refine CM 2 func108 AOf fun E hs hE=>?_
 simp [p108];refine CRs d1 (by simp [n1,BB]) ?_;simp [AA,AM,inC,Nat.testBit,hj,w];refine CLb (d2) (by simp [AG,inC,Nat.testBit]) ?_;simp [inC,Nat.testBit,hne2];refine CLa d3 ?_;simp;refine AL [(3,1),(13,37748738)] (by kernel_rfl) ?_;simp [inC,Nat.testBit];refine CDs d4 (by simp [inC,Nat.testBit,n1,BB]) ?_;simp [hjl];intro st;refine ⟨fun _=>none,?_,?_,?_,?_⟩<;>simp
theorem gj (p:Plt) (a:Act):Cm prog 107 [.lp 0 0,BZ a] (lk [(0,plB p (.ls 1 0 0 7))]) [] (.pan (Fm 2)) (lk []):=by
 have d1:=dG p a;refine CM 2 func107 AP9 fun E hs hE=>?_
 simp [p107];refine AL [] (by kernel_rfl) ?_;simp [inC,Nat.testBit];refine CDs d1 (by simp [inC,Nat.testBit]) ?_;simp;intro st;refine ⟨fun _=>none,?_,?_,?_,?_⟩<;>simp
theorem ABp (p:Plt) (a:Act):Cm prog 108 [.lp 0 0,BZ a] (lk [(0,plB p (.ls 1 0 0 7))]) [] (.pan (Fm 2)) (lk []):=by
 have d1:=dG p a;refine CM 2 func108 AOf fun E hs hE=>?_
 simp [p108];refine CRs d1 (by simp) ?_;refine ⟨fun _=>none,?_,?_,?_,?_⟩<;>simp
end Go.Proofs.Tryz
