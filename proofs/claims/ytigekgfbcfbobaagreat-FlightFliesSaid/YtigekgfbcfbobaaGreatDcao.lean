/- Own lemmas, used by the last text. Conditions: those that each theorem states. -/
import Derived.Shelf.SlSortCmp.NoneTotal
import Derived.Test.YtigekgfbcfbobaaGreatDcan
set_option maxRecDepth 200000
set_option maxHeartbeats 8000000
namespace Go.Proofs.Tryz
open Go.Psl
open Go.Air
def F6 (a:Except (Int × Evt) (List Shp)):Int × Evt:=match a with | .ok _=>(0,ev0) | .error e=>e
theorem TS {k:Sky} {r:Rig} {l:List Leg} (hT:Va k r) (hl:∀ x∈l,BE x=true):∀ {im:List (Nat × Nat)} {s:Shp},A6 s=true->∀ n∈D6 k r l im s,A6 n=true
 | [],s,_,n,h=>by simp [D6] at h
 | (i,m)::rest,s,hs,n,h=>by
   unfold D6 at h;split at h
   . simp at h
   rename_i x hx;split at h
   . simp at h
   rename_i n1 h1;have h2:=Q7 hT hs (hl x (List.mem_of_getElem? hx)) h1;rcases List.mem_cons.1 h with rfl | h
   . exact h2
   . exact TS hT hl h2 n h
theorem fW {s:Shp} {ns:List Shp} (hs:A6 s=true) (hn:∀ n∈ns,A6 n=true) {j:Nat} (hj:j<=ns.length):A6 (DX s ns j)=true:=by
 unfold DX;split
 . exact hs
 . obtain ⟨n,hnn⟩:∃ n,ns[j - 1]?= some n:=⟨_,List.getElem?_eq_getElem (by omega)⟩
   rw [hnn];exact hn n (List.mem_of_getElem? hnn)
theorem Vb {s n:Shp} {ns:List Shp} {j:Nat} (h:ns[j]?= some n):DX s ns (j+1)=n:=by
 unfold DX;rw [if_neg (by omega),Nat.add_sub_cancel,h];rfl
theorem fX (l:List Shp):∀ (a:Nat) (b:List V),(a,b)∈(0,[hdF 25 l 1])::ouF Ca l 1->∀ c∈b,AC (InB ((0,[hdF 25 l 1])::ouF Ca l 1)) AR c:=by
 by_cases h0:l=[]
 . subst h0;simp [Aq,Au]
 . rw [Ak h0,AZ h0]
   intro a b hab c hc;simp only [List.mem_cons,List.not_mem_nil,or_false,Prod.mk.injEq] at hab;rcases hab with ⟨rfl,rfl⟩ | ⟨rfl,rfl⟩
   . simp at hc;subst hc;simp
   . obtain ⟨d,_,rfl⟩:=List.mem_map.1 (show c∈List.map V.d (List.map Ca l).flatten from hc)
     simp
def fT (k:Sky) (r:Rig) (l:List Leg) (acc:List Shp) (s:Shp) (e:Evt) (er:Int):List (Nat × List V):=
 [(7340033,[.d (Bs l)]),(1,[D2 k r]),(1048577,shB s),(2097153,[.d (Bs l)]),(3145729,[.cl 104 [.lp 0 0]]),(4194305,evL e),(5242881,[vi er]),(0,[hdF 25 acc 7])]++ouF Ca acc 7
theorem Vc (k:Sky) (r:Rig) (l:List Leg) (f:Nat->V) (z:LSt) (acc:List Shp) (s:Shp) (e:Evt) (er:Int):fL k r l f z acc s e er=(8388609,[.lr f 69 [19,20] Az A3 z])::fT k r l acc s e er:=rfl
theorem NG:fKS=8388609::[7340033,1,1048577,2097153,3145729,4194305,5242881,0]:=rfl
theorem pQ (hS:SortOk) (k:Sky) (r:Rig) (l:List Leg) (s:Shp) (hl:l.length<=100) (hok:∀ x∈l,BE x=true) (h1:k.s.length<=1000000) (h2:k.w.length<=1000000) (h3:r.reg.length<=1000000) (hk:BV k=true) (hR:CF r=true) (hg:Ey k r=true) (hs:A6 s=true):
   Cm prog 103 [D2 k r,Cl s (.d (AX s.gas.cs)), .d (Bs l), .cl 104 [.lp 0 0]] (lk [(0,[.d (.lit (.slice none 0 0))])]) [0] (.ret (.tup [Ys (F6 (Dt k r l (BN 0 l) s)).2,vi (F6 (Dt k r l (BN 0 l) s)).1])) (lk ([(0,[hdF 25 (D6 k r l (BN 0 l) s) 1])]++ouF Ca (D6 k r l (BN 0 l) s) 1)):=by
 have hT:Va k r:=⟨hk,Hy hR,hg⟩
 have hlen:=Kv (i:=0) hok
 have hmem:∀ p∈BN 0 l,∃ x,l[p.1]?= some x:=fun p hp=>by
   obtain ⟨x,_,h,_⟩:=Ia hp;exact ⟨x,by simpa using h⟩
 have hend:=LQ (k:=k) (r:=r) (s:=s) hmem;have hrd:∀ {j:Nat} {n:Shp},(D6 k r l (BN 0 l) s)[j]?= some n->_:=fun h=>LP h
 have hnok:=TS hT hok (im:=BN 0 l) hs
 have hlb:(BN 0 l).length<=60000:=by
   have:=KA hok;omega
 obtain ⟨ns,hns⟩:∃ ns,D6 k r l (BN 0 l) s=ns:=⟨_,rfl⟩
 obtain ⟨FK,hFK⟩:∃ FK,Dt k r l (BN 0 l) s=FK:=⟨_,rfl⟩
 rw [hns] at hend hnok hrd ⊢;rw [hFK] at hend ⊢
 have hnl:ns.length<=(BN 0 l).length:=by
   rcases hend with ⟨_,h⟩ | ⟨i,m,x,e,h,_⟩
   . omega
   . have:=(List.getElem?_eq_some_iff.1 h).1;omega
 have hsj:∀ {j:Nat},j<=ns.length->A6 (DX s ns j)=true:=fun hj=>fW hs hnok hj
 refine Cm.by gok eok mixed 1 func103 c103 rfl (by simp [ntmps103]) (by simp) (A7.at (by simp)) (by simp) (by
   refine ⟨by simp,?_⟩;exact fun p hp c hc=>fX ns p.1 p.2 hp c hc) fun E hs' hE=>?_
 simp [p103];refine CLa (qu l) ?_;simp;have hnt:E.nt=69:=by rw [hE.1];exact ntmps103
 rw [<-JI (Γ:=tys) (eqs:=eqs)];obtain ⟨f,hf⟩:∃ f,f=upd (upd (upd (upd (upd (upd (upd (upd (Dn 0 [D2 k r,Cl s (.d (AX s.gas.cs)), .d (Bs l), .cl 104 [.lp 0 0]]) 4 (.lp 1 0)) 5 (.lp 1048577 0)) 6 (.lp 2097153 0)) 7 (.lp 3145729 0)) 8 (.lp 4194305 0)) 9 (.lp 5242881 0)) 17 (.d (Bs l))) 18 (.cl 205 [.lp 7340033 0]):=⟨_,rfl⟩
 have hfA:∀ t,AV (·∈fKS) AR (f t):=fun t=>by
   rw [hf];simp only [AY];split
   . intro c hc;simp at hc;subst hc;exact (by simp [fKS]:(7340033:Nat)∈fKS)
   split
   . exact trivial
   split
   . exact (by simp [fKS]:(5242881:Nat)∈fKS)
   split
   . exact (by simp [fKS]:(4194305:Nat)∈fKS)
   split
   . exact (by simp [fKS]:(3145729:Nat)∈fKS)
   split
   . exact (by simp [fKS]:(2097153:Nat)∈fKS)
   split
   . exact (by simp [fKS]:(1048577:Nat)∈fKS)
   split
   . exact (by simp [fKS]:(1:Nat)∈fKS)
   simp only [Dn];split
   . exact trivial
   split
   . intro c hc;simp at hc;rcases hc with rfl | rfl | rfl | rfl | rfl | rfl | rfl | rfl | rfl | rfl | rfl | rfl | rfl | rfl | rfl | rfl | rfl | rfl | rfl | rfl | rfl | rfl | rfl | rfl | rfl<;>exact trivial
   split
   . exact trivial
   split
   . intro c hc;simp at hc;subst hc;exact (by simp [fKS]:(0:Nat)∈fKS)
   . exact fun c hc=>by simp at hc
 have hFF:kV f:=⟨hfA,by rw [hf];simp,by rw [hf];simp,by rw [hf];simp,by rw [hf];simp,by rw [hf];simp,by rw [hf];simp⟩
 have f18:f 18= .cl 205 [.lp 7340033 0]:=by rw [hf];simp
 obtain ⟨_,f4,f5,f6,f7,f8,f9⟩:=id hFF;rw [<-hf];have hK:=fun z acc t e er=>Ol k r l f z acc t e er hfA
 have hN:∀ i∈fKS,i < 1000000000:=by simp [fKS]
 have hX:∀ i:Nat,∀ x∈fXS (ns.take i),x < 1048576:=fun i x hx=>by
   unfold fXS at hx;split at hx<;>simp at hx;omega
 have hrec:∀ z acc t e er,∃ fr nt ps pa pb jmp,lk (fL k r l f z acc t e er) 8388609=some [.lr fr nt ps pa pb jmp]/\ps.length=2:=fun z acc t e er=>⟨f,69,[19,20],Az,A3,z,by simp [fL],rfl⟩
 have hbox:∀ z acc t e er,lk (fL k r l f z acc t e er) 7340033=some [.d (Bs l)]:=fun z acc t e er=>by simp [fL]
 have hround:∀ j i m,j < ns.length->(BN 0 l)[j]?= some (i,m)->Ym prog 8388609 [vi i,vi m] (lk (fL k r l f .ready (ns.take j) (DX s ns j) ev0 0)) fKS (.ret (vb true)) (lk (fL k r l f .ready (ns.take (j+1)) (DX s ns (j+1)) ev0 0)):=fun j i m hj him=>by
   obtain ⟨n,hn⟩:=gE hj;obtain ⟨i',m',x,e1,e2,e3⟩:=hrd hn;rw [him] at e1;cases e1;have:=VQ hS k r l f hFF (ns.take j) (DX s ns j) n i m x (by omega) (by rw [List.length_take];omega) h1 h2 h3 hk hR hg (hsj (by omega)) (hok x (List.mem_of_getElem? e2)) e2 e3;rw [Vb hn,List.take_add_one,hn];exact this
 rcases hend with ⟨hok1,hlen1⟩ | ⟨i,m,x,e,hm1,hm2,hm3,hm4⟩
 ·
   have c:=Jl l (by omega) hok fKS (fun j=>fXS (ns.take j)) 8388609 7340033 ns.length (fun _=>true) (fun j=>fL k r l f .ready (ns.take j) (DX s ns j) ev0 0) (by simp [fKS]) (by simp [fKS]) hN hX (by omega) (fun j _=>hK _ _ _ _ _) (fun j _=>hrec _ _ _ _ _) (fun j _=>hbox _ _ _ _ _) (fun _ _=>rfl) (Or.inl hlen1) (fun j i m hj him=>hround j i m hj him);have hK0:=hK .ready [] s ev0 0;have hKn:=hK .ready ns (DX s ns ns.length) ev0 0;have c0:fL k r l f .ready (ns.take 0) (DX s ns 0) ev0 0=fL k r l f .ready [] s ev0 0:=rfl;have cn:fL k r l f .ready (ns.take ns.length) (DX s ns ns.length) ev0 0=fL k r l f .ready ns (DX s ns ns.length) ev0 0:=by rw [List.take_length]
   rw [c0,cn,Vc,Vc,NG] at c;rw [Vc,NG] at hK0 hKn;have hFe:F6 FK=(0,ev0):=by rw [hok1];rfl
   rw [hFe];refine E3.keepX (fT k r l [] s ev0 0) (fT k r l ns (DX s ns ns.length) ev0 0) [7340033,1,1048577,2097153,3145729,4194305,5242881,0] (fXS []) (fXS ns) (.tup []) .ready hE.2 (g:=205) (caps:=[.lp 7340033 0]) (by simp [f18]) (by rw [hnt];exact c) (by rw [hnt];exact hK0) (by rw [hnt];exact hKn) (fun x hx=>by have:=hX ns.length x (by rw [List.take_length];exact hx);exact this) (by simp [fXS]) (by simp [fXS,fT,Aq,Au,ev0]) (by simp) fun F h1 h2=>?_
   by_cases h0:ns=[]
   . subst h0
     have F0:=h1 (0,_) (by simp [fT,Aq,Au];rfl);have F8:=h1 (4194305,_) (by simp [fT,Aq,Au];rfl);have F9:=h1 (5242881,_) (by simp [fT,Aq,Au];rfl);simp [sg,BJ,DS,DR] at F0 F8 F9;rw [Aq,Au]
     show Ft 0 _ .normal _
     simp [f8,f9,F8,F9,AA];refine AB.by (lk [(0,0)]) ?_;simp [results103,F0,ev0,f8,f9]
   . have F0:=h1 (0,_) (by simp [fT,Ak h0,AZ h0];rfl)
     have F7:=h1 (7,_) (by simp [fT,Ak h0,AZ h0];rfl);have F8:=h1 (4194305,_) (by simp [fT,Ak h0,AZ h0];rfl);have F9:=h1 (5242881,_) (by simp [fT,Ak h0,AZ h0];rfl);simp [sg,BJ,DS,DR] at F0 F7 F8 F9;rw [Ak h0,AZ h0]
     show Ft 0 _ .normal _
     simp [f8,f9,F8,F9,AA];refine AB.by (lk [(0,0),(1,9437192)]) ?_;simp [results103,F0,F7,ev0,f8,f9]
     all_goals first | exact Or.inl (List.all_eq_true.2 BU) | skip
 . have hal:ns.length < (BN 0 l).length:=(List.getElem?_eq_some_iff.1 hm1).1
   obtain ⟨EZ,hEZ⟩:∃ EZ,FC i m e=EZ:=⟨_,rfl⟩
   have hFe:F6 FK=EZ:=by rw [hm4,hEZ];rfl
   rw [hFe];have hfail:=co hS k r l f hFF ns (DX s ns ns.length) i m x e (by omega) h1 h2 h3 hk hR hg (hsj (Nat.le_refl _)) (hok x (List.mem_of_getElem? hm2)) hm2 hm3;rw [hEZ] at hfail;obtain ⟨SF,hSF⟩:∃ SF,Iw x m (DX s ns ns.length)=SF:=⟨_,rfl⟩
   rw [hSF] at hfail;obtain ⟨LL,hLL⟩:∃ LL:Nat->List (Nat × List V),LL=fun j=>if j<=ns.length then fL k r l f .ready (ns.take j) (DX s ns j) ev0 0 else fL k r l f (.done .ret) ns SF EZ.2 EZ.1:=⟨_,rfl⟩
   have LLa:∀ j,j<=ns.length->LL j=fL k r l f .ready (ns.take j) (DX s ns j) ev0 0:=fun j hj=>by rw [hLL];simp only;rw [if_pos hj]
   have LLb:LL (ns.length+1)=fL k r l f (.done .ret) ns SF EZ.2 EZ.1:=by rw [hLL];simp only;rw [if_neg (by omega)]
   have tk:∀ j,ns.length<=j->ns.take j=ns:=fun j hj=>List.take_of_length_le hj
   have c:=Jl l (by omega) hok fKS (fun j=>fXS (ns.take j)) 8388609 7340033 (ns.length+1) (fun j=>decide (j < ns.length)) LL (by simp [fKS]) (by simp [fKS]) hN hX (by omega) (fun j hj=>by
       by_cases h:j<=ns.length
       . rw [LLa j h];exact hK _ _ _ _ _
       . rw [show j=ns.length+1 by omega,LLb,tk _ (by omega)];exact hK _ _ _ _ _) (fun j hj=>by
       rw [LLa j (by omega)];exact hrec _ _ _ _ _) (fun j hj=>by
       by_cases h:j<=ns.length
       . rw [LLa j h];exact hbox _ _ _ _ _
       . rw [show j=ns.length+1 by omega,LLb];exact hbox _ _ _ _ _) (fun j hj=>decide_eq_true (by omega)) (Or.inr ⟨by omega,decide_eq_false (by omega)⟩) (fun j i' m' hj him=>by
       by_cases h:j < ns.length
       . rw [LLa j (by omega),LLa (j+1) (by omega),decide_eq_true h];exact hround j i' m' h him
       . have e1:j=ns.length:=by omega
         subst e1;rw [hm1] at him;cases him;rw [LLa ns.length (Nat.le_refl _),LLb,decide_eq_false h,List.take_length];exact hfail)
   have hK0:=hK .ready [] s ev0 0;have hKn:=hK (.done .ret) ns SF EZ.2 EZ.1;have c0:LL 0=fL k r l f .ready [] s ev0 0:=by rw [LLa 0 (by omega)];rfl
   rw [c0,LLb,Vc,Vc,NG] at c;rw [Vc,NG] at hK0 hKn;refine E3.keepX (fT k r l [] s ev0 0) (fT k r l ns SF EZ.2 EZ.1) [7340033,1,1048577,2097153,3145729,4194305,5242881,0] (fXS []) (fXS ns) (.tup []) (.done .ret) hE.2 (g:=205) (caps:=[.lp 7340033 0]) (by simp [f18]) (by rw [hnt];exact c) (by rw [hnt];exact hK0) (by rw [hnt];exact hKn) (fun x hx=>by have:=hX ns.length x (by rw [List.take_length];exact hx);exact this) (by simp [fXS]) (by simp [fXS,fT,Aq,Au,ev0]) (by simp) fun F h1 h2=>?_
   by_cases h0:ns=[]
   . subst h0
     have F0:=h1 (0,_) (by simp [fT,Aq,Au];rfl);have F8:=h1 (4194305,_) (by simp [fT,Aq,Au];rfl);have F9:=h1 (5242881,_) (by simp [fT,Aq,Au];rfl);simp [sg,BJ,DS,DR] at F0 F8 F9;rw [Aq,Au]
     show Ft 0 _ .ret _
     simp;refine AB.by (lk [(0,0)]) ?_;simp [results103,F0,F8,F9,f8,f9]
   . have F0:=h1 (0,_) (by simp [fT,Ak h0,AZ h0];rfl)
     have F7:=h1 (7,_) (by simp [fT,Ak h0,AZ h0];rfl);have F8:=h1 (4194305,_) (by simp [fT,Ak h0,AZ h0];rfl);have F9:=h1 (5242881,_) (by simp [fT,Ak h0,AZ h0];rfl);simp [sg,BJ,DS,DR] at F0 F7 F8 F9;rw [Ak h0,AZ h0]
     show Ft 0 _ .ret _
     simp;refine AB.by (lk [(0,0),(1,9437192)]) ?_;simp [results103,F0,F7,F8,F9,f8,f9]
     all_goals first | exact Or.inl (List.all_eq_true.2 BU) | skip
abbrev cD (l:List Shp):D:= .sl 25 (l.map Ca)
def Lp (a:Except (Int × Evt) (List Shp)):List Shp:=match a with | .ok ns=>ns | .error _=>[]
abbrev cE (a:Except (Int × Evt) (List Shp)):V:= .tup [.d (cD (Lp a)),Ys (F6 a).2,vi (F6 a).1]
theorem ABc {k:Sky} {r:Rig} {s:Shp} {a b:Int} (ha:(if A6 s then (0:Int) else 52)=a) (hz:¬ JC k r s b=0):(¬ QG k r a b=0/\QG k r a b=JC k r s b)\/(BV k=true/\CF r=true/\a=0/\b=0/\Ey k r=false/\JC k r s b=2):=by
 unfold QG JC at*;unfold e0 e1;cases h1:BV k
 . left;simp
 . cases h2:CF r
   . left;simp
   . cases h3:A6 s
     . rw [h3] at ha;simp at ha;subst ha;left;simp
     . rw [h3] at ha;simp at ha;subst ha
       by_cases hb0:b=0
       . cases h4:Ey k r
         . right;simp [hb0]
         . rw [h1,h2,h3,h4,hb0] at hz;simp at hz
       . left;simp [hb0]
theorem Tv {l:List Leg} (h:C0 l=0):l.length<=20/\(∀ x∈l,BE x=true)/\Cv l<=600:=by
 unfold C0 at h;split at h
 . simp at h
 split at h
 . rename_i h1 h2
   split at h
   . simp at h
   . exact ⟨by omega,List.all_eq_true.1 h2,by omega⟩
 . simp at h
theorem mK (ID:Nat) (hI:2<=ID) (hS:SortOk) (k:Sky) (r:Rig) (l:List Leg) (s:Shp) (hl:l.length<=100) (hok:∀ x∈l,BE x=true) (h1:k.s.length<=1000000) (h2:k.w.length<=1000000) (h3:r.reg.length<=1000000) (hk:BV k=true) (hR:CF r=true) (hg:Ey k r=true) (hs:A6 s=true):
   Cm prog 103 [D2 k r,Cl s (.d (AX s.gas.cs)), .d (Bs l), .cl 104 [.lp ID 0]] (lk [(ID,[.d (.lit (.slice none 0 0))])]) [ID] (.ret (.tup [Ys (F6 (Dt k r l (BN 0 l) s)).2,vi (F6 (Dt k r l (BN 0 l) s)).1])) (lk ([(ID,[hdF 25 (D6 k r l (BN 0 l) s) 1])]++ouF Ca (D6 k r l (BN 0 l) s) 1)):=by
 have h:=pQ hS k r l s hl hok h1 h2 h3 hk hR hg hs
 generalize D6 k r l (BN 0 l) s=ns at*
 generalize F6 (Dt k r l (BN 0 l) s)=e at*
 have hr:∀ l:List Shp,(AH Ca l).map (BJ fun i=>if i=0 then ID else i)=AH Ca l:=fun l=>by
   simp [AH,List.map_flatten,Function.comp_def]
 have:=Cm.rename (fun i=>if i=0 then ID else i) 2 (by intro i j hi hj;split<;>split<;>omega) h (by simp [BW]) (by
   by_cases h0:ns=[]
   . subst h0;simp [BW,Aq,Au]
   . simp [BW,Ak h0,AZ h0]) (by simp)
 have hc:HR (fun i=>if i=0 then ID else i) (V.cl 104 [.lp 0 0])= .cl 104 [.lp ID 0]:=rfl;by_cases h0:ns=[]
 . subst h0
   rw [Aq,Au] at this ⊢;simpa [Ea,HW,hc] using this
 . rw [Ak h0,AZ h0] at this ⊢
   simpa [Ea,HW,hr,hc] using this
theorem qt (hS:SortOk) (k:Sky) (r:Rig) (s:Shp) (l:List Leg) (h1:k.s.length<=1000000) (h2:k.w.length<=1000000) (h3:r.reg.length<=1000000) (h4:s.gas.cs.length<=1000000) (h5:l.length<=1000000) (h6:∀ x∈l,x.acts.length<=1000000):Ct prog 45 [Eu k,Fj r,Cl s (.d (AX s.gas.cs)), .d (Bs l)] (.tup [hdF 25 (Lp (HA k r s l)) 0,Ys (F6 (HA k r s l)).2,vi (F6 (HA k r s l)).1]) (ouF Ca (Lp (HA k r s l)) 0):=by
 have c1:=fn36 s (by omega);have c2:=fn38 l h5 h6;obtain ⟨a,ha⟩:∃ a:Int,(if A6 s then 0 else 52)=a:=⟨_,rfl⟩
 obtain ⟨b,hb⟩:∃ b:Int,C0 l=b:=⟨_,rfl⟩
 rw [ha] at c1;rw [hb] at c2;unfold HA;rw [hb];by_cases hz:JC k r s b=0
 . rw [if_pos hz]
   obtain ⟨hk,hR,hs,hb0,hg⟩:=MD hz;have ha0:a=0:=by rw [<-ha,hs];rfl
   subst ha0 hb0;obtain ⟨q1,q2,q3⟩:=Tv hb;have c3:=fd 12582912 hS k r h1 h2 h3 hk hR hg;have c4:=mK 22020096 (by omega) hS k r l s (by omega) q2 h1 h2 h3 hk hR hg hs
   have hmem:∀ p∈BN 0 l,∃ x,l[p.1]?= some x:=fun p hp=>by
     obtain ⟨x,_,h,_⟩:=Ia hp;exact ⟨x,by simpa using h⟩
   have hend:=LQ (k:=k) (r:=r) (s:=s) hmem;have herr:=fun e=>NF (k:=k) (r:=r) (l:=l) (im:=BN 0 l) (s:=s) (e:=e) hmem
   generalize D6 k r l (BN 0 l) s=ns at*
   generalize Dt k r l (BN 0 l) s=FK at*
   rcases hend with ⟨e1,_⟩ | ⟨i,m,x,e,_,_,_,e4⟩
   . subst e1
     simp only [Lp,F6] at c4 ⊢;by_cases h0:ns=[]
     . subst h0
       rw [Aq,Au] at c4 ⊢;refine CB func45 c45 fun E hE=>?_
       simp [p45];refine AL [(7,12582912)] (by kernel_rfl) ?_;simp [inC,Nat.testBit];refine CLa c1 ?_;simp [inC,Nat.testBit];refine CLa c2 ?_;simp [AA,AM,inC,Nat.testBit];refine CDs c3 (by simp [wrL,inC,Nat.testBit]) ?_;simp;refine CRs c4 (by simp) ?_;simp [AA,ev0];apply RZ;simp [results45]
     . rw [Ak h0,AZ h0] at c4 ⊢
       refine CB func45 c45 fun E hE=>?_
       simp [p45];refine AL [(7,12582912)] (by kernel_rfl) ?_;simp [inC,Nat.testBit];refine CLa c1 ?_;simp [inC,Nat.testBit];refine CLa c2 ?_;simp [AA,AM,inC,Nat.testBit];refine CDs c3 (by simp [wrL,inC,Nat.testBit]) ?_;simp;refine CRs c4 (by simp) ?_;simp [AA,ev0];refine AB.by (lk [(0,27262977)]) ?_;simp [results45]
       all_goals first | exact Or.inl (List.all_eq_true.2 BU) | skip
   . have he:=(herr _ e4).1
     subst e4;simp only [Lp,F6,Aq,Au] at c4 ⊢
     generalize FC i m e=ee at*
     by_cases h0:ns=[]
     . subst h0
       rw [Aq,Au] at c4;refine CB func45 c45 fun E hE=>?_
       simp [p45];refine AL [(7,12582912)] (by kernel_rfl) ?_;simp [inC,Nat.testBit];refine CLa c1 ?_;simp [inC,Nat.testBit];refine CLa c2 ?_;simp [AA,AM,inC,Nat.testBit];refine CDs c3 (by simp [wrL,inC,Nat.testBit]) ?_;simp;refine CRs c4 (by simp) ?_;simp [AA,he];refine AL [(3,4194304)] (by kernel_rfl) ?_;simp [AA,inC,Nat.testBit];apply RZ;simp [results45]
     . rw [Ak h0,AZ h0] at c4
       refine CB func45 c45 fun E hE=>?_
       simp [p45];refine AL [(7,12582912)] (by kernel_rfl) ?_;simp [inC,Nat.testBit];refine CLa c1 ?_;simp [inC,Nat.testBit];refine CLa c2 ?_;simp [AA,AM,inC,Nat.testBit];refine CDs c3 (by simp [wrL,inC,Nat.testBit]) ?_;simp;refine CRs c4 (by simp) ?_;simp [AA,he];refine AL [(3,4194304)] (by kernel_rfl) ?_;simp [AA,inC,Nat.testBit];apply RZ;simp [results45]
 . rw [if_neg hz]
   simp only [Lp,F6,Aq,Au,ev0];rcases ABc ha hz with ⟨k1,k2⟩ | ⟨k1,k2,k3,k4,k5,k6⟩
   . have c3:=XK hS k r a b h1 h2 h3 k1
     rw [<-k2]
     generalize QG k r a b=e at*
     refine CB func45 c45 fun E hE=>?_
     simp [p45];refine AL [] (by kernel_rfl) ?_;simp [inC,Nat.testBit];refine CLa c1 ?_;simp [inC,Nat.testBit];refine CLa c2 ?_;simp [AA,AM,inC,Nat.testBit];refine CLb (c3) (by simp [Ap,Hcl,inC,Nat.testBit]) ?_;simp [AA,k1];apply RZ;simp [results45]
   . subst k3 k4
     have c3:=XM hS k r h1 h2 h3 k1 k2 k5;rw [k6];refine CB func45 c45 fun E hE=>?_
     simp [p45];refine AL [] (by kernel_rfl) ?_;simp [inC,Nat.testBit];refine CLa c1 ?_;simp [inC,Nat.testBit];refine CLa c2 ?_;simp [AA,AM,inC,Nat.testBit];refine CLb (c3) (by simp [Ap,Hcl,inC,Nat.testBit]) ?_;simp [AA];apply RZ;simp [results45]
theorem fn45 (hS:SortOk) (k:Sky) (r:Rig) (s:Shp) (l:List Leg) (h1:k.s.length<=1000000) (h2:k.w.length<=1000000) (h3:r.reg.length<=1000000) (h4:s.gas.cs.length<=1000000) (h5:l.length<=1000000) (h6:∀ x∈l,x.acts.length<=1000000):Ct prog 45 [Eu k,Fj r,Cl s (.d (AX s.gas.cs)), .d (Bs l)] (cE (HA k r s l)) []:=by
 refine Cm.freeze (qt hS k r s l h1 h2 h3 h4 h5 h6) ?_;obtain ⟨ns,hns⟩:∃ ns,Lp (HA k r s l)=ns:=⟨_,rfl⟩
 unfold cE;rw [hns];have z:∀ (H:Hp) (x:Int),FzC H (vi x) (vi x):=fun H x=>⟨_,rfl, .inl rfl⟩
 refine ⟨?_,⟨z _ _,z _ _,z _ _,z _ _,trivial⟩, .inl rfl,trivial⟩;by_cases h0:ns=[]
 . subst h0
   rw [Aq];exact .inr ⟨rfl,_,rfl⟩
 . rw [Ak h0,AZ h0]
   exact B0 (H:=lk [(0,AH Ca ns)]) (id:=0) WM (l:=ns) (by simp)
theorem AAS {k:Sky} {r:Rig} {l:List Leg} {s:Shp} {ns:List Shp} {FK:Except (Int × Evt) (List Shp)} (hns:D6 k r l (BN 0 l) s=ns) (hFK:Dt k r l (BN 0 l) s=FK) {i m:Nat} {x:Leg} (hx:l[i]?= some x) (hm:m < x.m.toNat) (hj:Cw l i+m<=ns.length):
   (∃ n,ns[Cw l i+m]?= some n/\FA k r x m (DX s ns (Cw l i+m))= .ok n)\/(∃ e,FA k r x m (DX s ns (Cw l i+m))= .error e/\FK= .error (FC i m e)):=by
 have hat:=iE hx hm;have hlt:=(List.getElem?_eq_some_iff.1 hat).1
 have hmem:∀ p∈BN 0 l,∃ x,l[p.1]?= some x:=fun p hp=>by
   obtain ⟨x,_,h,_⟩:=Ia hp;exact ⟨x,by simpa using h⟩
 by_cases h:Cw l i+m < ns.length
 . left
   obtain ⟨n,hn⟩:=gE h;obtain ⟨i',m',x',h1,h2,h3⟩:=LP (k:=k) (r:=r) (l:=l) (im:=BN 0 l) (s:=s) (j:=Cw l i+m) (n:=n) (by rw [hns];exact hn);rw [hat] at h1;cases h1;rw [hx] at h2;cases h2;rw [hns] at h3;exact ⟨n,hn,h3⟩
 . right
   have e:Cw l i+m=ns.length:=by omega
   rcases LQ (k:=k) (r:=r) (s:=s) hmem with ⟨_,h2⟩ | ⟨i',m',x',e',h1,h2,h3,h4⟩
   . rw [hns] at h2;omega
   . rw [hns,<-e] at h1 h3
     rw [hat] at h1;cases h1;rw [hx] at h2;cases h2;rw [hFK] at h4;exact ⟨e',h3,h4⟩
theorem AAe {k:Sky} {r:Rig} {l:List Leg} {s:Shp} {ns:List Shp} {FK:Except (Int × Evt) (List Shp)} (hns:D6 k r l (BN 0 l) s=ns) (hFK:Dt k r l (BN 0 l) s=FK) (h:Cw l l.length<=ns.length):FK= .ok ns/\ns.length=Cw l l.length:=by
 have hmem:∀ p∈BN 0 l,∃ x,l[p.1]?= some x:=fun p hp=>by
   obtain ⟨x,_,h,_⟩:=Ia hp;exact ⟨x,by simpa using h⟩
 rw [cG] at h ⊢;rcases LQ (k:=k) (r:=r) (s:=s) hmem with ⟨h1,h2⟩ | ⟨i',m',x',e',h1,_⟩
 . rw [hns,hFK] at h1;rw [hns] at h2;exact ⟨h1,h2⟩
 . rw [hns] at h1
   have:=(List.getElem?_eq_some_iff.1 h1).1;omega
theorem AAT {k:Sky} {r:Rig} {x:Leg} {s:Shp} {b:Int} (h:Ep s x= .error b):FA k r x 0 s= .error (b,0,0):=by
 unfold FA;rw [if_pos rfl,h]
theorem AAf {k:Sky} {r:Rig} {x:Leg} {m:Nat} {s t:Shp} (h:m=0->Ep s x= .ok t):FA k r x m s=HK k r (if m=0 then t else s) x:=by
 unfold FA;by_cases hm:m=0
 . rw [if_pos hm,if_pos hm,h hm]
 . rw [if_neg hm,if_neg hm]
abbrev skB (k:Sky):List V:=[.d (BF k.s), .d (C2 k.w)]
abbrev ABG (r:Rig):List V:=[.d (An r.reg),vi r.gl,vi r.gh,vi r.tank,vi r.rsv,vi r.lo,vi r.hi]
theorem ABI (k:Sky) (r:Rig) (s:Shp) (l:List Leg) (FK:Except (Int × Evt) (List Shp)) (h1:k.s.length<=1000000) (h2:k.w.length<=1000000) (h3:r.reg.length<=1000000) (hl:l.length<=100) (hok:∀ x∈l,BE x=true) (hk:BV k=true) (hR:CF r=true) (hg:Ey k r=true) (hs:A6 s=true) (hc:C0 l=0) (hFK:Dt k r l (BN 0 l) s=FK):Ct prog 46 [Eu k,Fj r,Cl s (.d (AX s.gas.cs)), .d (Bs l)] (.tup [hdF 25 (Lp FK) 0,Ys (F6 FK).2,vi (F6 FK).1]) (ouF Ca (Lp FK) 0):=by
 have hT:Va k r:=⟨hk,Hy hR,hg⟩
 obtain ⟨ns,hns⟩:∃ ns,D6 k r l (BN 0 l) s=ns:=⟨_,rfl⟩
 have hnok:=TS hT hok (im:=BN 0 l) hs;rw [hns] at hnok;have hsj:∀ {j:Nat},j<=ns.length->A6 (DX s ns j)=true:=fun hj=>fW hs hnok hj
 have hnl:ns.length<=60000:=by
   have:=KA hok;have hlen:=Kv (i:=0) hok
   have hmem:∀ p∈BN 0 l,∃ x,l[p.1]?= some x:=fun p hp=>by
     obtain ⟨x,_,h,_⟩:=Ia hp;exact ⟨x,by simpa using h⟩
   rcases LQ (k:=k) (r:=r) (s:=s) hmem with ⟨_,h2⟩ | ⟨i',m',x',e',h1,_⟩
   . rw [hns] at h2;omega
   . rw [hns] at h1
     have:=(List.getElem?_eq_some_iff.1 h1).1;omega
 have c1:=zN k r s h1 h2 h3 (by have:=CS (CR hs);omega);have c2:=ABR l (by omega) fun x hx=>by have:=(Kz (hok x hx)).1;omega
 have c3:=zO k r hk;rw [show sH k r s=0 by unfold sH;rw [hk,hR,hs];rfl] at c1;rw [hc] at c2;rw [hg] at c3;cases FK with
 | error ee=>
   simp only [Lp,F6,Aq,Au];refine CB func46 c46 fun E hE=>?_
   simp [p46];refine CLa c1 ?_;simp;refine CLa c2 ?_;simp;refine CLa c3 ?_;simp;refine Al (α:=Nat) (fun i=>⟨AO [(3, .d (Bs l)),(4, .lp 0 0),(5, .lp 1 0),(6, .lp 2 0),(9, .lp 3 0),(13,hdF 25 (ns.take (Cw l i)) 4),(14,vi i)],lk ([(0,skB k),(1,ABG r),(2,shB (DX s ns (Cw l i))),(3,[vi 0,vi 0,vi 0,vi 0])]++ouF Ca (ns.take (Cw l i)) 4),5⟩) (fun i=>i<=l.length/\Cw l i<=ns.length) (fun i=>l.length - i) 0 ?_ ?_ ?_
   . exact ⟨by omega,by rw [MW];omega⟩
   . rw [MW,List.take_zero,Aq,Au,show DX s ns 0=s from rfl]
     exact WK hE (lk [(0,0),(1,1048576),(2,2097152),(3,4194304)])
   . rintro i ⟨hi,hp⟩
     by_cases h:i < l.length
     . obtain ⟨x,hx⟩:=gE h
       have hxo:=hok x (List.mem_of_getElem? hx);have hxm:=G5 hxo;have hpn:=WO hx;have hI:(i:Int) < l.length:=by omega
       have hz:=@wz i (by omega);have hso:=hsj hp;have cb:=ABQ (DX s ns (Cw l i)) x hso hxo;cases hb:Ep (DX s ns (Cw l i)) x with
       | error b=>
         rw [hb] at cb;simp only [Oy] at cb;have hbe:=TP hb
         have hE:(Except.error ee:Except (Int × Evt) (List Shp))= .error (b,ev0):=by
           rcases AAS hns hFK (m:=0) hx (by omega) hp with ⟨n,_,h2⟩ | ⟨e,h1,h2⟩
           . rw [Nat.add_zero,AAT hb] at h2;cases h2
           . rw [Nat.add_zero,AAT hb] at h1
             cases h1;rw [h2];unfold FC;simp only;rw [if_neg (mR hb)]
         cases hE;by_cases h0:ns.take (Cw l i)=[]
         . rw [h0,Aq,Au]
           simp [AAZ,hI];refine AL [(10,13631493)] (by kernel_rfl) ?_;simp [inC,Nat.testBit,hx];refine CLa cb ?_;simp [AA,inC,Nat.testBit,hbe];apply RZ;simp [results46,ev0]
         . rw [Ak h0,AZ h0]
           simp [AAZ,hI];refine AL [(10,13631493)] (by kernel_rfl) ?_;simp [inC,Nat.testBit,hx];refine CLa cb ?_;simp [AA,inC,Nat.testBit,hbe];apply RZ;simp [results46,ev0]
       | ok t=>
         rw [hb] at cb;simp only [Oy] at cb;have hto:=ZC hso hxo hb
         have hsig:∀ m:Nat,m<=x.m.toNat->Cw l i+m<=ns.length->A6 (if m=0 then t else DX s ns (Cw l i+m))=true:=fun m _ h2=>by
           split
           . exact hto
           . exact hsj h2
         simp [AAZ,hI];refine AL [(10,13631493)] (by kernel_rfl) ?_;simp [inC,Nat.testBit,hx];refine CLa cb ?_;simp [AA,inC,Nat.testBit];refine Al (α:=Nat) (fun m=>⟨AO [(3, .d (Bs l)),(4, .lp 0 0),(5, .lp 1 0),(6, .lp 2 0),(9, .lp 3 0),(13,hdF 25 (ns.take (Cw l i+m)) 4),(14,vi i),(17,vi m)],lk ([(0,skB k),(1,ABG r),(2,shB (if m=0 then t else DX s ns (Cw l i+m))),(3,[vi 0,vi 0,vi 0,vi 0])]++ouF Ca (ns.take (Cw l i+m)) 4),5⟩) (fun m=>m<=x.m.toNat/\Cw l i+m<=ns.length) (fun m=>x.m.toNat - m) 0 ?_ ?_ ?_
         . exact ⟨by omega,by omega⟩
         . rw [Nat.add_zero,if_pos rfl]
           by_cases h0:ns.take (Cw l i)=[]
           . rw [h0,Aq,Au]
             exact WK hE (lk [(0,0),(1,1),(2,2),(3,3)])
           . rw [Ak h0,AZ h0]
             exact WK hE (lk [(0,0),(1,1),(2,2),(3,3),(4,4)])
         . rintro m ⟨hm1,hm2⟩
           by_cases hm:m < x.m.toNat
           . have hmI:(m:Int) < x.m:=by omega
             have hzm:=@wz m (by omega);have hsm:=hsig m hm1 hm2;have cm:=zM k r (if m=0 then t else DX s ns (Cw l i+m)) x i m h1 h2 h3 hk hR hg hsm hxo;have ho:=AAf (k:=k) (r:=r) (x:=x) (m:=m) (s:=DX s ns (Cw l i+m)) (t:=t) (fun e=>by rw [e,Nat.add_zero];exact hb);rw [<-ho] at cm
             generalize (if m=0 then t else DX s ns (Cw l i+m))=sg at*
             rcases AAS hns hFK hx hm hm2 with ⟨n,hn,h8⟩ | ⟨e,h8,h9⟩
             . rw [h8] at cm
               simp only [Ku] at cm;have hlt:=(List.getElem?_eq_some_iff.1 hn).1;have htk:ns.take (Cw l i+(m+1))=ns.take (Cw l i+m)++[n]:=by rw [<-Nat.add_assoc,List.take_add_one,hn];rfl
               have hsn:DX s ns (Cw l i+(m+1))=n:=by rw [<-Nat.add_assoc];exact Vb hn
               have hal:(ns.take (Cw l i+m)).length<=60000:=by rw [List.length_take];omega
               generalize ns.take (Cw l i+m)=acc at*
               by_cases h0:acc=[]
               . subst h0
                 rw [Aq,Au];simp [dz,hx,hmI];refine AL [(16,22020101),(17,23068677)] (by kernel_rfl) ?_;simp [inC,Nat.testBit,hx];refine CLa cm ?_;simp [AA,AM,inC,Nat.testBit,hzm];refine ⟨m+1,⟨by omega,by omega⟩,by omega,?_⟩;rw [htk,hsn,if_neg (by omega),Ak (by simp),AZ (by simp)];refine AI.mk hE (lk [(0,0),(1,1),(2,2),(3,3),(4,34603013)]) _ _ _ ?_ ?_ ?_ ?_ ?_<;>simp [AH]
               . have hsl:=Aw WM acc
                 have hwh:=E9 WM acc;have n1:(acc.length+1)*216<=140737488355328:=by omega
                 have n2:acc.length+1<=9223372036854775807:=by omega
                 rw [Ak h0,AZ h0];simp [dz,hx,hmI];refine AL [(16,22020101),(17,23068677)] (by kernel_rfl) ?_;simp [inC,Nat.testBit,hx];refine CLa cm ?_;simp [AA,AM,inC,Nat.testBit,hzm,hsl,hwh,n1,n2];refine ⟨m+1,⟨by omega,by omega⟩,by omega,?_⟩;rw [htk,hsn,if_neg (by omega),Ak (by simp),AZ (by simp),IV];refine AI.mk hE (lk [(0,0),(1,1),(2,2),(3,3),(4,34603013)]) _ _ _ ?_ ?_ ?_ ?_ ?_<;>simp
                 refine Or.inl ?_;rw [List.all_append,List.all_eq_true.2 BU];rfl
             . rw [h8] at cm
               simp only [Ku] at cm;have hee:=fU h8;cases h9;by_cases h0:ns.take (Cw l i+m)=[]
               . rw [h0,Aq,Au]
                 simp [dz,hx,hmI];refine AL [(16,22020101),(17,23068677)] (by kernel_rfl) ?_;simp [inC,Nat.testBit,hx];refine CLa cm ?_;simp [AA,inC,Nat.testBit,hee];refine AL [(3,3)] (by kernel_rfl) ?_;simp [AA,inC,Nat.testBit];apply RZ;simp [results46,FC]
               . rw [Ak h0,AZ h0]
                 simp [dz,hx,hmI];refine AL [(16,22020101),(17,23068677)] (by kernel_rfl) ?_;simp [inC,Nat.testBit,hx];refine CLa cm ?_;simp [AA,inC,Nat.testBit,hee];refine AL [(3,3)] (by kernel_rfl) ?_;simp [AA,inC,Nat.testBit];apply RZ;simp [results46,FC]
           . have em:m=x.m.toNat:=by omega
             have hmI:¬ (m:Int) < x.m:=by omega
             have e9:Cw l i+m=Cw l (i+1):=by omega
             have em0:¬ m=0:=by omega
             rw [if_neg em0,e9];simp [dz,hx,hmI,hz];refine ⟨i+1,⟨by omega,by omega⟩,by omega,?_⟩;by_cases h0:ns.take (Cw l (i+1))=[]
             . rw [h0,Aq,Au]
               exact WK hE (lk [(0,0),(1,1),(2,2),(3,3)])
             . rw [Ak h0,AZ h0]
               exact WK hE (lk [(0,0),(1,1),(2,2),(3,3),(4,4)])
     . have ei:i=l.length:=by omega
       have hI:¬ (i:Int) < l.length:=by omega
       rw [ei] at hp;obtain ⟨hE,hlen⟩:=AAe hns hFK hp;cases hE
 | ok ns'=>
   simp only [Lp,F6];by_cases hne:ns'=[]
   . subst hne
     rw [Aq,Au];refine CB func46 c46 fun E hE=>?_
     simp [p46];refine CLa c1 ?_;simp;refine CLa c2 ?_;simp;refine CLa c3 ?_;simp;refine Al (α:=Nat) (fun i=>⟨AO [(3, .d (Bs l)),(4, .lp 0 0),(5, .lp 1 0),(6, .lp 2 0),(9, .lp 3 0),(13,hdF 25 (ns.take (Cw l i)) 4),(14,vi i)],lk ([(0,skB k),(1,ABG r),(2,shB (DX s ns (Cw l i))),(3,[vi 0,vi 0,vi 0,vi 0])]++ouF Ca (ns.take (Cw l i)) 4),5⟩) (fun i=>i<=l.length/\Cw l i<=ns.length) (fun i=>l.length - i) 0 ?_ ?_ ?_
     . exact ⟨by omega,by rw [MW];omega⟩
     . rw [MW,List.take_zero,Aq,Au,show DX s ns 0=s from rfl]
       exact WK hE (lk [(0,0),(1,1048576),(2,2097152),(3,4194304)])
     . rintro i ⟨hi,hp⟩
       by_cases h:i < l.length
       . obtain ⟨x,hx⟩:=gE h
         have hxo:=hok x (List.mem_of_getElem? hx);have hxm:=G5 hxo;have hpn:=WO hx;have hI:(i:Int) < l.length:=by omega
         have hz:=@wz i (by omega);have hso:=hsj hp;have cb:=ABQ (DX s ns (Cw l i)) x hso hxo;cases hb:Ep (DX s ns (Cw l i)) x with
         | error b=>
           rw [hb] at cb;simp only [Oy] at cb;have hbe:=TP hb
           have hE:(Except.ok []:Except (Int × Evt) (List Shp))= .error (b,ev0):=by
             rcases AAS hns hFK (m:=0) hx (by omega) hp with ⟨n,_,h2⟩ | ⟨e,h1,h2⟩
             . rw [Nat.add_zero,AAT hb] at h2;cases h2
             . rw [Nat.add_zero,AAT hb] at h1
               cases h1;rw [h2];unfold FC;simp only;rw [if_neg (mR hb)]
           cases hE
         | ok t=>
           rw [hb] at cb;simp only [Oy] at cb;have hto:=ZC hso hxo hb
           have hsig:∀ m:Nat,m<=x.m.toNat->Cw l i+m<=ns.length->A6 (if m=0 then t else DX s ns (Cw l i+m))=true:=fun m _ h2=>by
             split
             . exact hto
             . exact hsj h2
           simp [AAZ,hI];refine AL [(10,13631493)] (by kernel_rfl) ?_;simp [inC,Nat.testBit,hx];refine CLa cb ?_;simp [AA,inC,Nat.testBit];refine Al (α:=Nat) (fun m=>⟨AO [(3, .d (Bs l)),(4, .lp 0 0),(5, .lp 1 0),(6, .lp 2 0),(9, .lp 3 0),(13,hdF 25 (ns.take (Cw l i+m)) 4),(14,vi i),(17,vi m)],lk ([(0,skB k),(1,ABG r),(2,shB (if m=0 then t else DX s ns (Cw l i+m))),(3,[vi 0,vi 0,vi 0,vi 0])]++ouF Ca (ns.take (Cw l i+m)) 4),5⟩) (fun m=>m<=x.m.toNat/\Cw l i+m<=ns.length) (fun m=>x.m.toNat - m) 0 ?_ ?_ ?_
           . exact ⟨by omega,by omega⟩
           . rw [Nat.add_zero,if_pos rfl]
             by_cases h0:ns.take (Cw l i)=[]
             . rw [h0,Aq,Au]
               exact WK hE (lk [(0,0),(1,1),(2,2),(3,3)])
             . rw [Ak h0,AZ h0]
               exact WK hE (lk [(0,0),(1,1),(2,2),(3,3),(4,4)])
           . rintro m ⟨hm1,hm2⟩
             by_cases hm:m < x.m.toNat
             . have hmI:(m:Int) < x.m:=by omega
               have hzm:=@wz m (by omega);have hsm:=hsig m hm1 hm2;have cm:=zM k r (if m=0 then t else DX s ns (Cw l i+m)) x i m h1 h2 h3 hk hR hg hsm hxo;have ho:=AAf (k:=k) (r:=r) (x:=x) (m:=m) (s:=DX s ns (Cw l i+m)) (t:=t) (fun e=>by rw [e,Nat.add_zero];exact hb);rw [<-ho] at cm
               generalize (if m=0 then t else DX s ns (Cw l i+m))=sg at*
               rcases AAS hns hFK hx hm hm2 with ⟨n,hn,h8⟩ | ⟨e,h8,h9⟩
               . rw [h8] at cm
                 simp only [Ku] at cm;have hlt:=(List.getElem?_eq_some_iff.1 hn).1;have htk:ns.take (Cw l i+(m+1))=ns.take (Cw l i+m)++[n]:=by rw [<-Nat.add_assoc,List.take_add_one,hn];rfl
                 have hsn:DX s ns (Cw l i+(m+1))=n:=by rw [<-Nat.add_assoc];exact Vb hn
                 have hal:(ns.take (Cw l i+m)).length<=60000:=by rw [List.length_take];omega
                 generalize ns.take (Cw l i+m)=acc at*
                 by_cases h0:acc=[]
                 . subst h0
                   rw [Aq,Au];simp [dz,hx,hmI];refine AL [(16,22020101),(17,23068677)] (by kernel_rfl) ?_;simp [inC,Nat.testBit,hx];refine CLa cm ?_;simp [AA,AM,inC,Nat.testBit,hzm];refine ⟨m+1,⟨by omega,by omega⟩,by omega,?_⟩;rw [htk,hsn,if_neg (by omega),Ak (by simp),AZ (by simp)];refine AI.mk hE (lk [(0,0),(1,1),(2,2),(3,3),(4,34603013)]) _ _ _ ?_ ?_ ?_ ?_ ?_<;>simp [AH]
                 . have hsl:=Aw WM acc
                   have hwh:=E9 WM acc;have n1:(acc.length+1)*216<=140737488355328:=by omega
                   have n2:acc.length+1<=9223372036854775807:=by omega
                   rw [Ak h0,AZ h0];simp [dz,hx,hmI];refine AL [(16,22020101),(17,23068677)] (by kernel_rfl) ?_;simp [inC,Nat.testBit,hx];refine CLa cm ?_;simp [AA,AM,inC,Nat.testBit,hzm,hsl,hwh,n1,n2];refine ⟨m+1,⟨by omega,by omega⟩,by omega,?_⟩;rw [htk,hsn,if_neg (by omega),Ak (by simp),AZ (by simp),IV];refine AI.mk hE (lk [(0,0),(1,1),(2,2),(3,3),(4,34603013)]) _ _ _ ?_ ?_ ?_ ?_ ?_<;>simp
                   refine Or.inl ?_;rw [List.all_append,List.all_eq_true.2 BU];rfl
               . rw [h8] at cm
                 simp only [Ku] at cm;have hee:=fU h8;cases h9
             . have em:m=x.m.toNat:=by omega
               have hmI:¬ (m:Int) < x.m:=by omega
               have e9:Cw l i+m=Cw l (i+1):=by omega
               have em0:¬ m=0:=by omega
               rw [if_neg em0,e9];simp [dz,hx,hmI,hz];refine ⟨i+1,⟨by omega,by omega⟩,by omega,?_⟩;by_cases h0:ns.take (Cw l (i+1))=[]
               . rw [h0,Aq,Au]
                 exact WK hE (lk [(0,0),(1,1),(2,2),(3,3)])
               . rw [Ak h0,AZ h0]
                 exact WK hE (lk [(0,0),(1,1),(2,2),(3,3),(4,4)])
       . have ei:i=l.length:=by omega
         have hI:¬ (i:Int) < l.length:=by omega
         rw [ei] at hp;obtain ⟨hE,hlen⟩:=AAe hns hFK hp
         have e5:ns.take (Cw l i)=[]:=by
           have:=Except.ok.inj hE;rw [<-this];exact List.take_nil
         rw [e5,Aq,Au];simp [AAZ,hI,AA];apply RZ;simp [results46,ev0]
   . rw [Ak hne,AZ hne]
     refine CB func46 c46 fun E hE=>?_
     simp [p46];refine CLa c1 ?_;simp;refine CLa c2 ?_;simp;refine CLa c3 ?_;simp;refine Al (α:=Nat) (fun i=>⟨AO [(3, .d (Bs l)),(4, .lp 0 0),(5, .lp 1 0),(6, .lp 2 0),(9, .lp 3 0),(13,hdF 25 (ns.take (Cw l i)) 4),(14,vi i)],lk ([(0,skB k),(1,ABG r),(2,shB (DX s ns (Cw l i))),(3,[vi 0,vi 0,vi 0,vi 0])]++ouF Ca (ns.take (Cw l i)) 4),5⟩) (fun i=>i<=l.length/\Cw l i<=ns.length) (fun i=>l.length - i) 0 ?_ ?_ ?_
     . exact ⟨by omega,by rw [MW];omega⟩
     . rw [MW,List.take_zero,Aq,Au,show DX s ns 0=s from rfl]
       exact WK hE (lk [(0,0),(1,1048576),(2,2097152),(3,4194304)])
     . rintro i ⟨hi,hp⟩
       by_cases h:i < l.length
       . obtain ⟨x,hx⟩:=gE h
         have hxo:=hok x (List.mem_of_getElem? hx);have hxm:=G5 hxo;have hpn:=WO hx;have hI:(i:Int) < l.length:=by omega
         have hz:=@wz i (by omega);have hso:=hsj hp;have cb:=ABQ (DX s ns (Cw l i)) x hso hxo;cases hb:Ep (DX s ns (Cw l i)) x with
         | error b=>
           rw [hb] at cb;simp only [Oy] at cb;have hbe:=TP hb
           have hE:(Except.ok ns':Except (Int × Evt) (List Shp))= .error (b,ev0):=by
             rcases AAS hns hFK (m:=0) hx (by omega) hp with ⟨n,_,h2⟩ | ⟨e,h1,h2⟩
             . rw [Nat.add_zero,AAT hb] at h2;cases h2
             . rw [Nat.add_zero,AAT hb] at h1
               cases h1;rw [h2];unfold FC;simp only;rw [if_neg (mR hb)]
           cases hE
         | ok t=>
           rw [hb] at cb;simp only [Oy] at cb;have hto:=ZC hso hxo hb
           have hsig:∀ m:Nat,m<=x.m.toNat->Cw l i+m<=ns.length->A6 (if m=0 then t else DX s ns (Cw l i+m))=true:=fun m _ h2=>by
             split
             . exact hto
             . exact hsj h2
           simp [AAZ,hI];refine AL [(10,13631493)] (by kernel_rfl) ?_;simp [inC,Nat.testBit,hx];refine CLa cb ?_;simp [AA,inC,Nat.testBit];refine Al (α:=Nat) (fun m=>⟨AO [(3, .d (Bs l)),(4, .lp 0 0),(5, .lp 1 0),(6, .lp 2 0),(9, .lp 3 0),(13,hdF 25 (ns.take (Cw l i+m)) 4),(14,vi i),(17,vi m)],lk ([(0,skB k),(1,ABG r),(2,shB (if m=0 then t else DX s ns (Cw l i+m))),(3,[vi 0,vi 0,vi 0,vi 0])]++ouF Ca (ns.take (Cw l i+m)) 4),5⟩) (fun m=>m<=x.m.toNat/\Cw l i+m<=ns.length) (fun m=>x.m.toNat - m) 0 ?_ ?_ ?_
           . exact ⟨by omega,by omega⟩
           . rw [Nat.add_zero,if_pos rfl]
             by_cases h0:ns.take (Cw l i)=[]
             . rw [h0,Aq,Au]
               exact WK hE (lk [(0,0),(1,1),(2,2),(3,3)])
             . rw [Ak h0,AZ h0]
               exact WK hE (lk [(0,0),(1,1),(2,2),(3,3),(4,4)])
           . rintro m ⟨hm1,hm2⟩
             by_cases hm:m < x.m.toNat
             . have hmI:(m:Int) < x.m:=by omega
               have hzm:=@wz m (by omega);have hsm:=hsig m hm1 hm2;have cm:=zM k r (if m=0 then t else DX s ns (Cw l i+m)) x i m h1 h2 h3 hk hR hg hsm hxo;have ho:=AAf (k:=k) (r:=r) (x:=x) (m:=m) (s:=DX s ns (Cw l i+m)) (t:=t) (fun e=>by rw [e,Nat.add_zero];exact hb);rw [<-ho] at cm
               generalize (if m=0 then t else DX s ns (Cw l i+m))=sg at*
               rcases AAS hns hFK hx hm hm2 with ⟨n,hn,h8⟩ | ⟨e,h8,h9⟩
               . rw [h8] at cm
                 simp only [Ku] at cm;have hlt:=(List.getElem?_eq_some_iff.1 hn).1;have htk:ns.take (Cw l i+(m+1))=ns.take (Cw l i+m)++[n]:=by rw [<-Nat.add_assoc,List.take_add_one,hn];rfl
                 have hsn:DX s ns (Cw l i+(m+1))=n:=by rw [<-Nat.add_assoc];exact Vb hn
                 have hal:(ns.take (Cw l i+m)).length<=60000:=by rw [List.length_take];omega
                 generalize ns.take (Cw l i+m)=acc at*
                 by_cases h0:acc=[]
                 . subst h0
                   rw [Aq,Au];simp [dz,hx,hmI];refine AL [(16,22020101),(17,23068677)] (by kernel_rfl) ?_;simp [inC,Nat.testBit,hx];refine CLa cm ?_;simp [AA,AM,inC,Nat.testBit,hzm];refine ⟨m+1,⟨by omega,by omega⟩,by omega,?_⟩;rw [htk,hsn,if_neg (by omega),Ak (by simp),AZ (by simp)];refine AI.mk hE (lk [(0,0),(1,1),(2,2),(3,3),(4,34603013)]) _ _ _ ?_ ?_ ?_ ?_ ?_<;>simp [AH]
                 . have hsl:=Aw WM acc
                   have hwh:=E9 WM acc;have n1:(acc.length+1)*216<=140737488355328:=by omega
                   have n2:acc.length+1<=9223372036854775807:=by omega
                   rw [Ak h0,AZ h0];simp [dz,hx,hmI];refine AL [(16,22020101),(17,23068677)] (by kernel_rfl) ?_;simp [inC,Nat.testBit,hx];refine CLa cm ?_;simp [AA,AM,inC,Nat.testBit,hzm,hsl,hwh,n1,n2];refine ⟨m+1,⟨by omega,by omega⟩,by omega,?_⟩;rw [htk,hsn,if_neg (by omega),Ak (by simp),AZ (by simp),IV];refine AI.mk hE (lk [(0,0),(1,1),(2,2),(3,3),(4,34603013)]) _ _ _ ?_ ?_ ?_ ?_ ?_<;>simp
                   refine Or.inl ?_;rw [List.all_append,List.all_eq_true.2 BU];rfl
               . rw [h8] at cm
                 simp only [Ku] at cm;have hee:=fU h8;cases h9
             . have em:m=x.m.toNat:=by omega
               have hmI:¬ (m:Int) < x.m:=by omega
               have e9:Cw l i+m=Cw l (i+1):=by omega
               have em0:¬ m=0:=by omega
               rw [if_neg em0,e9];simp [dz,hx,hmI,hz];refine ⟨i+1,⟨by omega,by omega⟩,by omega,?_⟩;by_cases h0:ns.take (Cw l (i+1))=[]
               . rw [h0,Aq,Au]
                 exact WK hE (lk [(0,0),(1,1),(2,2),(3,3)])
               . rw [Ak h0,AZ h0]
                 exact WK hE (lk [(0,0),(1,1),(2,2),(3,3),(4,4)])
       . have ei:i=l.length:=by omega
         have hI:¬ (i:Int) < l.length:=by omega
         rw [ei] at hp;obtain ⟨hE,hlen⟩:=AAe hns hFK hp
         have e5:ns.take (Cw l i)=ns':=by
           have:=Except.ok.inj hE;rw [this,ei,<-hlen,List.take_length]
         rw [e5,Ak hne,AZ hne];simp [AAZ,hI,AA];refine AB.by (lk [(0,4)]) ?_;simp [results46,ev0]
         all_goals first | exact Or.inl (List.all_eq_true.2 BU) | skip
end Go.Proofs.Tryz
namespace Go.Psl
variable {P:Program} {E:Ent}
theorem AI.trans {a b c:St} (h:AI P E a b) (g:AI P E b c):AI P E a c:=fun G x W hI=>by
 obtain ⟨G',h'⟩:=h G x W hI;exact g G' x W h'
def FzE (H:Hp) (v c:V):Prop:=c= .junk\/v=c\/Fz H v c
def FzK (H:Hp) (v c:V):Prop:=v=c\/FzC H v c
def AAa (H:Hp) (ids:List Nat):Hp:=fun i=>if i∈ids then H i else none
theorem FzK.one {G:Gh} {W:World} {H:Hp} (hB:∀ id cs,H id=some cs->HB G W id cs) (hin:De (fun _=>True) AR (fun i=>i) G W {G with Im:=Jw G H} W) {v c:V} {x:Value} (h:FzK H v c) (ha:A1 (fun _=>True) AR v) (hx:R1 G W v x):R1 {G with Im:=Jw G H} W c x:=by
 rcases h with rfl | ⟨y,rfl,hy⟩
 . exact hin.s1 ha hx
 . exact R0.r1 (fz0 hB hy (R2.rv (R1.r2 hx)))
theorem AI.frz (ids:List Nat) {f g:Nat->V} {H h:Hp} {n:Nat} (_:∀ i∈ids,¬ E.stab i) (hf:∀ t,FzE (AAa H ids) (f t) (g t)) (hh:∀ i cs',h i=some cs'->i ∉ ids/\∃ cs,H i=some cs/\AJ (FzK (AAa H ids)) cs cs'):AI P E ⟨f,H,n⟩ ⟨g,h,n⟩:=by
 intro G a W hI
 have hF:∀ id cs,AAa H ids id=some cs->id∈ids/\H id=some cs:=fun id cs e=>by
   unfold AAa at e;split at e
   . rename_i hi;exact ⟨hi,e⟩
   . cases e
 have hB:∀ id cs,AAa H ids id=some cs->HB G W id cs:=fun id cs e=>hI.hp id cs (hF id cs e).2
 have hin:De (fun _=>True) AR (fun i=>i) G W {G with Im:=Jw G (AAa H ids)} W:=⟨fun i _=>⟨rfl,rfl,rfl,rfl⟩,fun x v _ hx=>RD.mono hx fun b hb=>⟨.inl hb,rfl⟩⟩
 have hno:∀ id cs cs',h id=some cs'->H id=some cs->G.ph id=false->¬ G.Im (G.β id)->¬ Jw G (AAa H ids) (G.β id):=by
   rintro id cs cs' h1 h2 hp h3 (h4 | ⟨i,hi,hpi,he⟩)
   . exact h3 h4
   . obtain ⟨x,hx⟩:=Option.isSome_iff_exists.1 hi
     obtain ⟨h5,h6⟩:=hF i x hx;have:i=id:=hI.inj i id (by show (H i).isSome=true;rw [h6];rfl) (by show (H id).isSome=true;rw [h2];rfl) hpi hp he;subst this;exact (hh i cs' h1).1 h5
 refine ⟨{G with Im:=Jw G (AAa H ids)},{fr:=fun t=>?_,wf:=fun t=>?_,hp:=fun id cs' hid=>?_,wh:=fun id cs' hid=>?_,dom:=fun id hid=>?_,inj:=fun i j h1 h2=>?_,own:=fun i h1=>?_,im:=fun b hb=>?_,im0:=fun b hb=> .inl (hI.im0 b hb),keep:=hI.keep,stab:=fun i h1 h2=>?_,sU:=hI.sU,nt:=hI.nt,df:=?_}⟩
 . have h1:=hI.fr t
   have h2:=hI.wf t;rcases hf t with h3 | h3 | h3
   . show RV _ W (g t) _
     rw [h3];trivial
   . show RV _ W (g t) _
     rw [<-h3];exact hin.sv (AV.mono (fun _ _=>trivial) (fun _ h=>h) h2) h1
   . exact ku hB h3 h1
 . rcases hf t with h3 | h3 | h3
   . show AV _ _ (g t)
     rw [h3];trivial
   . show AV _ _ (g t)
     rw [<-h3];exact hI.wf t
   . exact AV.mono (fun _ h=>h.elim) (fun _ h=>h) (pX h3)
 . obtain ⟨h1,cs,h2,h3⟩:=hh id cs' hid
   have hl:=h3.length;rcases hI.hp id cs h2 with ⟨h5,h6⟩ | ⟨h5,h0,h6,c,T,h7,h8,h9,h10,h11⟩ | ⟨h5,h0,h6,fr,nt,ps,pa,pb,jmp,rec,h7,h8,h9⟩
   . subst h6
     have:cs'=[]:=by cases cs' with | nil=>rfl | cons a l=>exact h3.elim
     exact .inl ⟨h5,this⟩
   . refine .inr (.inl ⟨h5,h0,hno id cs cs' hid h2 h5 h6,c,T,h7,h8,by omega,?_,?_⟩)
     . rw [<-hl]
       refine AJ.of_get (by rw [<-hl];exact h10.length) fun i y z hy hz=>?_
       obtain ⟨w,hw,hwy⟩:=h3.get2 hy;obtain ⟨u,hu,hwu⟩:=h10.get hw;rw [hz] at hu;cases hu;exact hwy.one hB hin (R1.ac hwu (AC.mono (fun _ _=>trivial) (fun _ h=>h) (hI.wh id cs h2 _ (List.mem_of_getElem? hw)))) hwu
     . refine List.all_eq_true.2 fun y hy=>?_
       obtain ⟨i,hi⟩:=List.getElem?_of_mem hy;obtain ⟨w,hw,hwy⟩:=h3.get2 hi;rcases hwy with rfl | ⟨d,rfl,_⟩
       . exact List.all_eq_true.1 h11 _ (List.mem_of_getElem? hw)
       . rfl
   . subst h7
     match cs',h3 with
     | [c0],h3=>
       rcases h3.1 with h4 | ⟨y,rfl,hy⟩
       . subst h4
         obtain ⟨q1,q2,q3,q4,q5,q6⟩:=h9;refine .inr (.inr ⟨h5,h0,hno id _ _ hid h2 h5 h6,fr,nt,ps,pa,pb,jmp,rec,rfl,h8,q1,q2,q3,q4,fun t=>?_,q6⟩);have q7:AC _ AR (V.lr fr nt ps pa pb jmp):=hI.wh id _ h2 _ (by simp);exact hin.sv (AV.mono (fun _ _=>trivial) (fun _ h=>h) (q7 t)) (q5 t)
       . exact (show False from hy).elim
     | [],h3=>exact h3.elim
     | _::_::_,h3=>exact h3.2.elim
 . obtain ⟨h1,cs,h2,h3⟩:=hh id cs' hid
   intro c hc;obtain ⟨i,hi⟩:=List.getElem?_of_mem hc;obtain ⟨w,hw,hwy⟩:=h3.get2 hi;rcases hwy with rfl | ⟨d,rfl,_⟩
   . exact hI.wh id cs h2 _ (List.mem_of_getElem? hw)
   . trivial
 . obtain ⟨cs',hc⟩:=Option.isSome_iff_exists.1 hid
   obtain ⟨h1,cs,h2,h3⟩:=hh id cs' hc;exact hI.dom id (by show (H id).isSome=true;rw [h2];rfl)
 . obtain ⟨x,hx⟩:=Option.isSome_iff_exists.1 h1
   obtain ⟨y,hy⟩:=Option.isSome_iff_exists.1 h2;obtain ⟨_,cs,e1,_⟩:=hh i x hx;obtain ⟨_,ds,e2,_⟩:=hh j y hy;exact hI.inj i j (by show (H i).isSome=true;rw [e1];rfl) (by show (H j).isSome=true;rw [e2];rfl)
 . obtain ⟨x,hx⟩:=Option.isSome_iff_exists.1 h1
   obtain ⟨_,cs,e1,_⟩:=hh i x hx;exact hI.own i (by show (H i).isSome=true;rw [e1];rfl)
 . rcases hb with hb | ⟨i,hi,hp,rfl⟩
   . exact hI.im b hb
   . obtain ⟨x,hx⟩:=Option.isSome_iff_exists.1 hi
     obtain ⟨h5,h6⟩:=hF i x hx;exact ⟨(hI.hp i x h6).lt hp, .inr (hI.own i (by show (H i).isSome=true;rw [h6];rfl) hp)⟩
 . obtain ⟨x,hx⟩:=Option.isSome_iff_exists.1 h2
   obtain ⟨_,cs,e1,_⟩:=hh i x hx;exact hI.stab i h1 (by show (H i).isSome=true;rw [e1];rfl)
 . obtain ⟨ds,h1,h2⟩:=hI.df
   refine ⟨ds,h1,h2.nodup,fun D hD=>?_,h2.nm⟩;obtain ⟨h3,h4,h5⟩:=h2.at' D hD;refine ⟨h3,h4,?_⟩
   rintro (h6 | ⟨i,hi,hp,rfl⟩)
   . exact h5 h6
   . obtain ⟨x,hx⟩:=Option.isSome_iff_exists.1 hi
     exact (hI.hp i x (hF i x hx).2).kind hp h3
theorem AI.frzR (ids:List Nat) {f:Nat->V} {m:List (Nat × V)} {H:Hp} {h:List (Nat × List V)} {n:Nat} (hs:∀ i,¬ E.stab i) (hf:∀ p∈m,FzE (AAa H ids) (f p.1) p.2) (hh:∀ p∈h,p.1 ∉ ids/\∃ cs,H p.1=some cs/\AJ (FzK (AAa H ids)) cs p.2):AI P E ⟨f,H,n⟩ ⟨AO m,lk h,n⟩:=by
 refine AI.frz ids (fun i _=>hs i) (fun t=>?_) fun i cs' hi=>?_
 . show FzE _ _ ((lk m t).getD .junk)
   cases h1:lk m t with
   | none=>exact .inl rfl
   | some v=>
     have:∃ p∈m,p.1=t/\p.2=v:=by
       clear hf;induction m with
       | nil=>simp [lk] at h1
       | cons p r ih=>
         simp only [lk] at h1;split at h1
         . rename_i e;exact ⟨p,by simp,e.symm,Option.some.inj h1⟩
         . obtain ⟨q,hq,e⟩:=ih h1;exact ⟨q,by simp [hq],e⟩
     obtain ⟨p,hp,rfl,rfl⟩:=this;exact hf p hp
 . have:∃ p∈h,p.1=i/\p.2=cs':=by
     clear hh;induction h with
     | nil=>simp [lk] at hi
     | cons p r ih=>
       simp only [lk] at hi;split at hi
       . rename_i e;exact ⟨p,by simp,e.symm,Option.some.inj hi⟩
       . obtain ⟨q,hq,e⟩:=ih hi;exact ⟨q,by simp [hq],e⟩
   obtain ⟨p,hp,rfl,rfl⟩:=this;exact hh p hp
end Go.Psl
namespace Go.Proofs.Tryz
open Go.Psl
open Go.Air
theorem AA3:∀ x:Leg,(Pi x).length=11:=fun _=>rfl
theorem MM {α:Type} {R:α->α->Prop} (h:∀ a,R a a):∀ l:List α,AJ R l l
 | []=>trivial
 | a::l=>⟨h a,MM h l⟩
theorem AAd {R:V->V->Prop} (h:∀ a,R a a) {v c:V} (hv:R v c):∀ {cs:List V} {o:Nat},cs[o]?= some c->AJ R (cs.take o++v::cs.drop (o+1)) cs
 | [],o,hc=>by simp at hc
 | a::cs,0,hc=>by
   simp at hc;subst hc;exact ⟨hv,MM h cs⟩
 | a::cs,o+1,hc=>⟨h a,AAd h hv (cs:=cs) (o:=o) (by simpa using hc)⟩
theorem AA5 (l:List Leg) (hl:l.length<=1000000) (ha:∀ x∈l,x.acts.length<=1000000):Ct prog 44 [.d (Bs l)] (.ls 0 0 l.length 11) [(0,AH Pi l)]:=by
 have hres:∀ (E:List (Nat × List V)),E=[(0,AH Pi l)]->LD (.ls 0 0 l.length 11) E:=fun E hE=>by
   subst hE;refine ⟨by simp,?_⟩;intro q hq c hc;simp only [List.mem_cons,List.not_mem_nil,or_false] at hq;subst hq;obtain ⟨d,_,rfl⟩:=List.mem_map.1 (show c∈List.map V.d (List.map Pi l).flatten from hc);trivial
 refine Ct.by gok eok mixed func44 c44 rfl (by simp [ntmps44]) (by simp) (hres _ rfl) fun E hE=>?_
 by_cases h0:l=[]
 . subst h0
   simp [p44,AM];refine Al (α:=Nat) (fun i=>⟨AO [(0, .ls 0 0 0 11),(8,vi 0),(9,vi 0)],lk [(0,[])],1⟩) (fun i=>i<=0) (fun i=>0 - i) 0 ?_ ?_ ?_
   . omega
   . exact WK hE (lk [(0,3145728)])
   . intro i hi
     simp [AAg];refine AB.by (lk [(0,0)]) ?_;simp [results44,AH]
 . obtain ⟨a,t,e⟩:=List.exists_cons_of_ne_nil h0
   have hmx:(t.length+1)*104<=140737488355328/\t.length+1<=9223372036854775807:=by rw [e] at hl;simp at hl;omega
   have ee:Bs l= .sl 11 (Pi a::t.map Pi):=by rw [e];rfl
   have ef:(t.map (List.map V.d ∘ Pi)).flatten=AH Pi t:=by simp [AH,List.map_flatten]
   have hcl:(∀ x∈AH Pi t,x.isCell=true)=True:=eq_true BU;have eln:l.length=t.length+1:=by rw [e];simp
   rw [ee];simp [p44,AM,ef,hcl,hmx];have efl:AH Pi l=V.d (di a.m)::V.d (di a.axl)::V.d (di a.axh)::V.d (di a.ayl)::V.d (di a.ayh)::V.d (di a.ul)::V.d (di a.uh)::V.d (di a.bl)::V.d (di a.bh)::V.d (di a.dr)::V.d (JZ a.acts)::AH Pi t:=by rw [e,CQ];rfl
   rw [<-efl];refine Al (α:=Nat) (fun i=>⟨AO [(0, .ls 0 0 l.length 11),(8,vi l.length),(9,vi i)],lk [(0,AH Pi l)],1⟩) (fun i=>i<=l.length) (fun i=>l.length - i) 0 ?_ ?_ ?_
   . omega
   . rw [show ((t.length:Int)+1)=(l.length:Int) by omega,<-eln]
     exact WK hE (lk [(0,3145728)])
   . intro i hi
     by_cases h:i < l.length
     . obtain ⟨x,hx⟩:=gE h
       have hz:=@wz i (by omega);have hI:(i:Int) < l.length:=by omega
       have hsl:=Aw AA3 l;have s0:i*11+10+1<=l.length*11:=by omega
       have t10:List.take 1 (List.drop (i*11+10) (AH Pi l))=[.d (JZ x.acts)]:=Bg AA3 (x:=x) (j:=10) (k:=1) hx (by omega);have hcell:(AH Pi l)[i*11+10]?= some (.d (JZ x.acts)):=Jg AA3 (x:=x) (j:=10) hx rfl;have hxa:=ha x (List.mem_of_getElem? hx);by_cases ha0:x.acts=[]
       . rw [show JZ x.acts= .sl 4 [] by rw [ha0];rfl] at t10 hcell
         simp [AAg,hI,AA,AM,hsl,s0,t10,hz];refine ⟨i+1,by omega,by omega,?_⟩
         skip
         refine AI.trans (AI.frzR [11534337] (m:=[(0, .ls 0 0 l.length 11),(8,vi l.length),(9,vi (i+1:Nat))]) (h:=[(0,AH Pi l)]) hE ?_ ?_) ?_
         . intro p hp
           simp only [List.mem_cons,List.not_mem_nil,or_false] at hp;rcases hp with rfl | rfl | rfl
           . exact .inr (.inl (by simp))
           . exact .inr (.inl (by simp))
           . exact .inr (.inl (by simp))
         . intro p hp
           simp only [List.mem_cons,List.not_mem_nil,or_false] at hp;subst hp;refine ⟨by simp,(AH Pi l).take (i*11+10)++ .ls 11534337 0 0 4::(AH Pi l).drop (i*11+10+1),by simp,AAd (fun _=> .inl rfl) (.inr ⟨_,rfl,?_⟩) hcell⟩;exact ⟨rfl,rfl,by simp,[],by simp [AAa],by simp⟩
         . exact WK hE (lk [(0,0)])
       . obtain ⟨b,u,e⟩:=List.exists_cons_of_ne_nil ha0
         have hmx2:(u.length+1)*32<=140737488355328/\u.length+1<=9223372036854775807:=by rw [e] at hxa;simp at hxa;omega
         have ee2:JZ x.acts= .sl 4 (XO b::u.map XO):=by rw [e];rfl
         have ef2:(u.map (List.map V.d ∘ XO)).flatten=AH XO u:=by simp [AH,List.map_flatten]
         have hcl2:(∀ x∈AH XO u,x.isCell=true)=True:=eq_true BU;rw [ee2] at t10 hcell;simp [AAg,hI,AA,AM,hsl,s0,t10,hz,ef2,hcl2,hmx2];have efa:V.d (D.lit (Value.int IntKind.u8 b.k))::V.d (di b.c)::V.d (di b.t)::V.d (di b.n)::AH XO u=AH XO x.acts:=by rw [e,CQ];rfl
         have hxl:x.acts.length=u.length+1:=by rw [e];simp
         rw [<-ee2] at hcell;rw [efa,<-hxl];refine ⟨i+1,by omega,by omega,?_⟩
         skip
         refine AI.trans (AI.frzR [11534337] (m:=[(0, .ls 0 0 l.length 11),(8,vi l.length),(9,vi (i+1:Nat))]) (h:=[(0,AH Pi l)]) hE ?_ ?_) ?_
         . intro p hp
           simp only [List.mem_cons,List.not_mem_nil,or_false] at hp;rcases hp with rfl | rfl | rfl
           . exact .inr (.inl (by simp))
           . exact .inr (.inl (by simp))
           . exact .inr (.inl (by simp))
         . intro p hp
           simp only [List.mem_cons,List.not_mem_nil,or_false] at hp;subst hp;refine ⟨by simp,(AH Pi l).take (i*11+10)++ .ls 11534337 0 x.acts.length 4::(AH Pi l).drop (i*11+10+1),by simp,AAd (fun _=> .inl rfl) (.inr ⟨_,rfl,?_⟩) hcell⟩;exact B0 (f:=XO) hfa (l:=x.acts) (by simp [AAa])
         . exact WK hE (lk [(0,0)])
     . have hI:¬ (i:Int) < l.length:=by omega
       have ei:i=l.length:=by omega
       simp [AAg,hI];refine AB.by (lk [(0,0)]) ?_;simp [results44]
theorem ABO (k:Sky) (r:Rig) (s:Shp) (l:List Leg) (h1:k.s.length<=1000000) (h2:k.w.length<=1000000) (h3:r.reg.length<=1000000) (h4:s.gas.cs.length<=1000000) (h5:l.length<=1000000) (h6:∀ x∈l,x.acts.length<=1000000):Ct prog 46 [Eu k,Fj r,Cl s (.d (AX s.gas.cs)), .d (Bs l)] (.tup [hdF 25 (Lp (HA k r s l)) 0,Ys (F6 (HA k r s l)).2,vi (F6 (HA k r s l)).1]) (ouF Ca (Lp (HA k r s l)) 0):=by
 by_cases hz:JC k r s (C0 l)=0
 . obtain ⟨hk,hR,hs,hb0,hg⟩:=MD hz
   obtain ⟨q1,q2,q3⟩:=Tv hb0;have e:HA k r s l=Dt k r l (BN 0 l) s:=by unfold HA;rw [if_pos hz]
   rw [e];exact ABI k r s l _ h1 h2 h3 (by omega) q2 hk hR hg hs hb0 rfl
 . have e:HA k r s l= .error (JC k r s (C0 l),ev0):=by unfold HA;rw [if_neg hz]
   rw [e];simp only [Lp,F6,Aq,Au,ev0];have c1:=zN k r s h1 h2 h3 h4;have c2:=ABR l h5 h6;rw [zP] at hz ⊢;by_cases ha:sH k r s=0
   . rw [if_pos ha] at hz ⊢
     rw [ha] at c1;obtain ⟨hk,hR,hs⟩:=xV ha;by_cases hb:C0 l=0
     . rw [if_pos hb] at hz ⊢
       rw [hb] at c2;have c3:=zO k r hk;cases hg:Ey k r
       . rw [hg] at c3
         refine CB func46 c46 fun E hE=>?_
         simp [p46];refine CLa c1 ?_;simp;refine CLa c2 ?_;simp;refine CLa c3 ?_;simp [AA];apply RZ;simp [results46]
       . rw [hg] at hz;simp at hz
     . rw [if_neg hb] at hz ⊢
       generalize C0 l=b at*
       refine CB func46 c46 fun E hE=>?_
       simp [p46];refine CLa c1 ?_;simp;refine CLa c2 ?_;simp [AA,hb];apply RZ;simp [results46]
   . rw [if_neg ha] at hz ⊢
     generalize sH k r s=b at*
     refine CB func46 c46 fun E hE=>?_
     simp [p46];refine CLa c1 ?_;simp [AA,ha];apply RZ;simp [results46]
theorem fn46 (k:Sky) (r:Rig) (s:Shp) (l:List Leg) (h1:k.s.length<=1000000) (h2:k.w.length<=1000000) (h3:r.reg.length<=1000000) (h4:s.gas.cs.length<=1000000) (h5:l.length<=1000000) (h6:∀ x∈l,x.acts.length<=1000000):Ct prog 46 [Eu k,Fj r,Cl s (.d (AX s.gas.cs)), .d (Bs l)] (cE (HA k r s l)) []:=by
 refine Cm.freeze (ABO k r s l h1 h2 h3 h4 h5 h6) ?_;obtain ⟨ns,hns⟩:∃ ns,Lp (HA k r s l)=ns:=⟨_,rfl⟩
 unfold cE;rw [hns];have z:∀ (H:Hp) (x:Int),FzC H (vi x) (vi x):=fun H x=>⟨_,rfl, .inl rfl⟩
 refine ⟨?_,⟨z _ _,z _ _,z _ _,z _ _,trivial⟩, .inl rfl,trivial⟩;by_cases h0:ns=[]
 . subst h0
   rw [Aq];exact .inr ⟨rfl,_,rfl⟩
 . rw [Ak h0,AZ h0]
   exact B0 (H:=lk [(0,AH Ca ns)]) (id:=0) WM (l:=ns) (by simp)
theorem ABV (l:List Shp) (hl:l.length<=1000000) (hc:∀ x∈l,x.gas.cs.length<=1000000):Ct prog 47 [.d (cD l), .d (cD l)] (vb true) []:=by
 refine CB func47 c47 fun E hE=>?_
 simp [p47];refine Al (α:=Nat) (fun i=>⟨AO [(0, .d (cD l)),(1, .d (cD l)),(5,vi i)],lk [],0⟩) (fun i=>i<=l.length) (fun i=>l.length - i) 0 ?_ ?_ ?_
 . omega
 . exact WK hE (lk [])
 . intro i hi
   by_cases h:i < l.length
   . obtain ⟨x,hx⟩:=gE h
     have hz:=@wz i (by omega);have hI:(i:Int) < l.length:=by omega
     have c:=ABP x (hc x (List.mem_of_getElem? hx));simp [ABK,hI,hx];refine CLa c ?_;simp [hz];refine ⟨i+1,by omega,by omega,?_⟩;exact WK hE (lk [])
   . have hn:¬ (i:Int) < l.length:=by omega
     simp [ABK,hn];apply RZ;simp [results47]
theorem cj {k:Sky} {r:Rig} {s:Shp} {l:List Leg} {ns:List Shp} (h:HA k r s l= .ok ns):Va k r/\A6 s=true/\(∀ x∈l,BE x=true)/\(l.length<=20/\Cv l<=600)/\CF r=true/\Dt k r l (BN 0 l) s= .ok ns:=by
 unfold HA at h;split at h
 . rename_i hz
   obtain ⟨h1,h2,h3,h4,h5⟩:=MD hz;obtain ⟨q1,q2,q3⟩:=Tv h4;exact ⟨⟨h1,Hy h2,h5⟩,h3,q2,⟨q1,q3⟩,h2,h⟩
 . cases h
theorem ABL (l:List Leg) (hl:l.length<=1000000) (ha:∀ x∈l,x.acts.length<=1000000):Ct prog 44 [.d (Bs l)] (.d (Bs l)) []:=by
 refine Cm.freeze (AA5 l hl ha) ?_;exact B0 (H:=lk [(0,AH Pi l)]) (id:=0) AA3 (l:=l) (by simp)
theorem xJ (s:Shp) (hl:s.gas.cs.length<=1000000):Ct prog 20 [Cl s (.d (AX s.gas.cs))] (Cl s (.d (AX s.gas.cs))) []:=by
 refine Cm.freeze (fn20 s hl) ?_;have z:∀ (H:Hp) (x:Int),FzC H (vi x) (vi x):=fun H x=>⟨_,rfl, .inl rfl⟩
 exact ⟨z _ _,z _ _,z _ _,z _ _,z _ _,z _ _,z _ _,z _ _,z _ _,z _ _,z _ _,z _ _,z _ _,z _ _,z _ _,⟨_,rfl,B0 (f:=AP) Nr (l:=s.gas.cs) (by simp)⟩,z _ _,z _ _,z _ _,z _ _,z _ _,z _ _,z _ _,z _ _,z _ _,trivial⟩
theorem ABM {k:Sky} {r:Rig} {s:Shp} {l:List Leg}:(Lp (HA k r s l)).length<=600/\∀ n∈Lp (HA k r s l),n.gas.cs.length<=12:=by
 cases hf:HA k r s l with
 | error e=>simp [Lp]
 | ok ns=>
   obtain ⟨hT,hs,hl,⟨l1,l2⟩,hR,hK⟩:=cj hf;have hlen:=TM hK;have hml:=Kv (i:=0) hl;have hok:=ZD hT hl hs hK;simp only [Lp];exact ⟨by omega,fun n hn=>CS (CR (hok n hn))⟩
theorem fn6 (hS:SortOk) (k:Sky) (r:Rig) (s:Shp) (l:List Leg):Ct prog 6 [Eu k,Fj r,Cl s (.d (AX s.gas.cs)), .d (Bs l)] (vb true) []:=by
 have d1:=fn29 k r s l;cases hg:grA k r s l
 case true=>
   rw [hg] at d1;refine CB func6 c6 fun E hE=>?_
   simp [p6];refine CLa d1 ?_;simp;apply RZ;simp [results6]
 rw [hg] at d1;obtain ⟨⟨g1,g2⟩,g3,g4,g5,g6⟩:=l0 hg;have d2:=xJ s (by omega);have d3:=ABL l (by omega) fun x hx=>by have:=g6 x hx;omega
 have d4:=fn45 hS k r s l (by omega) (by omega) (by omega) (by omega) (by omega) fun x hx=>by have:=g6 x hx;omega
 have d5:=fn46 k r s l (by omega) (by omega) (by omega) (by omega) (by omega) fun x hx=>by have:=g6 x hx;omega
 obtain ⟨b1,b2⟩:=ABM (k:=k) (r:=r) (s:=s) (l:=l);have d6:=ABV (Lp (HA k r s l)) (by omega) fun x hx=>by have:=b2 x hx;omega
 have d7:=ABP s (by omega);simp only [cE] at d4 d5
 generalize Lp (HA k r s l)=O at*
 generalize F6 (HA k r s l)=Z at*
 refine CB func6 c6 fun E hE=>?_
 simp [p6];refine CLa d1 ?_;simp;refine CLa d2 ?_;simp;refine CLa d3 ?_;simp [AA];refine CLa d4 ?_;simp [AA];refine CLa d5 ?_;simp [AA];refine CLa d6 ?_;simp;refine CLa d7 ?_;simp;refine Al (α:=Nat) (fun i=>⟨AO [(3, .d (Bs l)),(10, .d (Bs l)),(17,vb true),(72,vi l.length),(73,vi i)],lk [],0⟩) (fun i=>i<=l.length) (fun i=>l.length - i) 0 ?_ ?_ ?_
 . omega
 . exact WK hE (lk [])
 . intro i hi
   by_cases h:i < l.length
   . obtain ⟨x,hx⟩:=gE h
     have hz:=@wz i (by omega);have hI:(i:Int) < l.length:=by omega
     have c:=ABT x.acts (by have:=g6 x (List.mem_of_getElem? hx);omega);simp [ABS,hI,hx];refine CLa c ?_;simp [hz];refine ⟨i+1,by omega,by omega,?_⟩;exact WK hE (lk [])
   . have hn:¬ (i:Int) < l.length:=by omega
     simp [ABS,hn];apply RZ;simp [results6]
end Go.Proofs.Tryz
namespace Go.Psl
open Go.Shelf Go.RowKit Go.Lib Go.Sort
variable {P:Program} {ρ:Ren} {α:Type} [Inhabited α]
theorem dJ {W W':World} (hos:W'.os=W.os) (hta:W'.tape=W.tape) (hou:W'.output=W.output) (hdr:W.drawn<=W'.drawn) (hsz:W.heap.size<=W'.heap.size) (hb:∀ b,b < W.heap.size->W'.heap[b]?= W.heap[b]?):
   ∃ q os',W'=grow (W.drewN q) os':=by
 refine ⟨W'.drawn - W.drawn,W'.heap.extract W.heap.size W'.heap.size,?_⟩;obtain ⟨h,t,d,o,u⟩:=W;obtain ⟨h',t',d',o',u'⟩:=W';simp only at hos hta hou hdr hsz hb;subst hos hta hou;simp only [grow,World.drewN];congr 1
 . apply Array.ext_getElem?
   intro i;by_cases hi:i < h.size
   . rw [Array.getElem?_append_left hi,hb i hi]
   . rw [Array.getElem?_append_right (by omega),Array.getElem?_extract]
     split
     . congr 1;omega
     . rw [Array.getElem?_eq_none (by omega)]
 . omega
theorem Mg {enc:α->List Value} {k:Nat} (h0:0 < k) (hk:∀ x,(enc x).length=k) (l:List α) (j:Nat) (hj:j < l.length*k):(l.flatMap enc)[j]?= some (flatK enc k l.toArray)[j]! :=by
 rw [get_flatK _ _ _ _ (by simpa using hj),List.flatMap_def,CI h0 _ (fun e he=>by obtain ⟨x,_,rfl⟩:=List.mem_map.1 he;exact hk x)];have h1:j / k < l.length:=by rw [Nat.div_lt_iff_lt_mul h0];exact hj
 have hm:j % k < k:=Nat.mod_lt _ h0;rw [List.getElem?_map,List.getElem?_eq_getElem h1];simp only [Option.map_some,Option.bind_some];have e1:l.toArray[j / k]! =l[j / k]:=by rw [getElem!_pos _ _ (by simpa using h1)];simp
 rw [e1,List.getElem?_eq_getElem (by rw [hk];exact hm),getElem!_pos _ _ (by rw [hk];exact hm)]
omit [Inhabited α] in
theorem N2 {enc:α->List Value} {k:Nat} (hk:∀ x,(enc x).length=k) (l:List α):(l.flatMap enc).length=l.length*k:=by
 rw [List.flatMap_def,B3 (sz:=k) _ (fun e he=>by obtain ⟨x,_,rfl⟩:=List.mem_map.1 he;exact hk x),List.length_map]
theorem Wo {G:Gh} {W:World} {vs:List Value} (h:∀ v∈vs,CU v=true):AJ (R1 G W) (vs.map cV) vs:=by
 induction vs with
 | nil=>trivial
 | cons v vs ih=>exact ⟨RD.lit v (h v (by simp)),ih fun x hx=>h x (by simp [hx])⟩
theorem P6 {g:Nat} {enc:α->List Value} {k:Nat} {cf:α->α->Int} (hflat:∀ x,∀ v∈enc x,CU v=true) (hcmp:∀ x y,Ct P g [.agg ((enc x).map cV), .agg ((enc y).map cV)] (.d (.lit (.int .i64 (cf x y)))) []) (blk off size:Nat) (w:World):Go.Proofs.CmpLays P g #[] enc k cf blk off size w:=by
 intro m os dk _ x y;refine ((hcmp x y).2 ⟨fun _=>0,fun _=>0,fun _=>true,fun _=>true,fun _=>False⟩ _ #[.agg (enc x).toArray, .agg (enc y).toArray] (fun _ h=>h.elim) ⟨⟨_,rfl,Wo (hflat x)⟩,⟨_,rfl,Wo (hflat y)⟩,trivial⟩ ⟨nofun,fun i _ h=>by simp [InH] at h,nofun⟩).mono fun e W' ⟨G',hp⟩=>?_
 refine ⟨?_,dJ hp.os hp.tape hp.output hp.drawn hp.size fun b hb=>hp.block b hb fun ⟨_,h,_⟩=>by simp [InH] at h⟩;cases e with
 | returned v=>rw [Cg hp.rv]
 | _=>exact hp.rv.elim
theorem N3 (L:Go.Proofs.SlLaysF0.n6 P ρ) (hf:fF P (ρ.f 6)) (k:Nat) (h0:0 < k) (aE:∀ w,(isAgg (ρ.t 24)).run P w= .ok true w) (zE:∀ w,(Go.sizeOf (ρ.t 24)).run P w= .ok k w) (enc:α->List Value) (hk:∀ x,(enc x).length=k) (hflat:∀ x,∀ v∈enc x,CU v=true) (cf:α->α->Int) (hO:SWO (Go.Proofs.ltOf cf)) (hT:∀ x y,(Go.Proofs.ltOf cf) x y=false->(Go.Proofs.ltOf cf) y x=false->x=y)
   (g:Nat) (eg:∀ args w,(callFunc g args).run P w= .ok (.enter g args) w) (hcmp:∀ x y,Ct P g [.agg ((enc x).map cV), .agg ((enc y).map cV)] (.d (.lit (.int .i64 (cf x y)))) []) (l:List α) (hl0:0 < l.length) (hsz:l.length < 4611686018427387904):
   Cm P (ρ.f 6) [.ls 0 0 l.length k, .d (.fn g [])] (lk [(0,(l.flatMap enc).map cV)]) [0] (.ret (.tup [])) (lk [(0,((l.mergeSort fun x y=>!(Go.Proofs.ltOf cf) y x).flatMap enc).map cV)]):=by
 refine ⟨hf,fun G W xs hGW hargs hpre=>?_⟩
 obtain ⟨v1,v2,rfl⟩:∃ v1 v2,xs= #[v1,v2]:=by
   have:=hargs.length;obtain ⟨xs⟩:=xs
   match xs,this with
   | [a,b],_=>exact ⟨a,b,rfl⟩
   | [],h=>simp at h
   | [_],h=>simp at h
   | _::_::_::_,h=>simp at h
 obtain ⟨h1,h2,_⟩:=hargs;obtain ⟨hIn,hph⟩:=hpre.st 0 (by simp);obtain ⟨hml,⟨_,h,_⟩ | ⟨hphl,o,cap,rfl,hcap,ho⟩⟩:=h1
 . omega
 obtain ⟨rfl,hbs0⟩:=ho (by omega)
 obtain ⟨cv,rfl,hcv⟩:∃ cv,v2= .func (.func g) #[] cv/\cv.size=0:=by
   cases h2 with
   | fn _ _ cv hl _=>exact ⟨cv,rfl,hl⟩
 obtain rfl:cv= #[]:=Array.eq_empty_of_size_eq_zero hcv;have hHB:=hpre.hb 0 _ rfl;obtain ⟨hnim,c,T,hb,hbs,hcl,hcr,hca⟩:=hHB.read hphl;have hblk:G.β 0 < W.heap.size:=(Array.getElem?_eq_some_iff.1 hb).1;have hfl:=N2 hk l;rw [List.length_map,hfl] at hcl hcr
 have hcell:∀ j,j < l.length*k->c[j]?= some (flatK enc k l.toArray)[j]! :=fun j hj=>by
   have h3:=Mg h0 hk l j hj;have h4:((l.flatMap enc).map cV)[j]?= some (cV (flatK enc k l.toArray)[j]!):=by rw [List.getElem?_map,h3];rfl
   obtain ⟨x,hx,hr⟩:=hcr.get h4;rw [List.getElem?_take,if_pos hj,Array.getElem?_toList] at hx;rw [hx,BO hr.r2.rv]
 have hH:HoldsK enc k W (G.β 0) 0 l.toArray:=fun j hj=>by
   have hj':j < l.length*k:=by simpa using hj
   refine ⟨?_,?_⟩
   . unfold World.cell?
     simp only [Nat.zero_add,hb,Option.isSome_none,Bool.false_eq_true,if_false];exact hcell j hj'
   . unfold World.frozen?
     simp [hb]
 have h1c:∀ x,∀ v∈enc x,v.oneCell'=true:=fun x v hv=>RD.oneCell (Im:=fun _=>True) (W:=W) (RD.lit v (hflat x v hv))
 have key:=Go.Proofs.AnyQ.slices_SortFunc_total L k aE zE enc hk h1c cf hO g #[] (G.β 0) 0 cap l.toArray W eg (P6 hflat hcmp _ _ _ _) hH hblk (by simpa using hsz) hT;have hperm:(l.mergeSort fun x y=>!(Go.Proofs.ltOf cf) y x).length=l.length:=List.length_mergeSort _
 generalize (l.mergeSort fun x y=>!(Go.Proofs.ltOf cf) y x)=l' at key hperm ⊢
 have key':Calls P (ρ.f 6) #[.slice (some ⟨G.β 0,0,none⟩) l.length cap, .func (.func g) #[] #[]] W fun e w'=>e= .returned (.tuple #[])/\∃ n os,w'=Go.Proofs.sortWorldK enc k W (G.β 0) 0 n l'.toArray os:=by simpa using key
 refine key'.mono fun e W' ⟨he,n,os,hW'⟩=>?_
 subst he
 have hlent:∀ b,Bm G (lk [(0,(l.flatMap enc).map cV)]) b->b=G.β 0:=fun b ⟨i,hi,_,hbi⟩=>by
   have:i=0:=by simp only [InH,lk] at hi;split at hi;assumption;cases hi
   rw [<-hbi,this]
 have hlent0:Bm G (lk [(0,(l.flatMap enc).map cV)]) (G.β 0):=⟨0,hIn,hph,rfl⟩
 have hheap:∀ b,b < W.heap.size->W'.heap[b]?= if b=G.β 0 then some (.cells (putCells id 0 (flatK enc k l'.toArray) c) T (0,0)) else W.heap[b]?:= fun b hlt=>by
   rw [hW']
   show ((putRow id (Sort.ahead W n) (G.β 0) 0 (flatK enc k l'.toArray)).heap++os)[b]?= _
   rw [Array.getElem?_append_left (by simpa using hlt)]
   show (W.heap.modify (G.β 0) _)[b]?= _
   rw [Array.getElem?_modify];by_cases e:b=G.β 0
   . subst e
     simp [hb,onCells]
   . rw [if_neg (fun h=>e h.symm),if_neg e]
 have hsz':W.heap.size<=W'.heap.size:=by rw [hW'];exact Go.Proofs.size_sortWorldK_c enc k W (G.β 0) 0 n l'.toArray os
 refine ⟨G,⟨by rw [hW'];rfl,by rw [hW'];rfl,by rw [hW'];rfl,by rw [hW'];exact Nat.le_add_right _ _,hsz',fun b hlt hn=>?_,fun b hb=>⟨Nat.lt_of_lt_of_le (hGW b hb) hsz', .inl hb⟩,fun _ h=>h,⟨#[],rfl,trivial⟩,fun _ h=>(by cases h),fun i cs hi=>?_,fun i j hi hj _ _ _=>?_,fun i hi _=>⟨rfl,rfl,(hpre.st i hi).2,rfl⟩⟩⟩
 . rw [hheap b hlt,if_neg (fun e:b=G.β 0=>hn (by rw [e];exact hlent0))]
 . have hi0:i=0/\cs=(l'.flatMap enc).map cV:=by
     simp only [lk] at hi;split at hi
     . rename_i e;cases hi;exact ⟨e,rfl⟩
     . cases hi
   obtain ⟨rfl,rfl⟩:=hi0;have hfl':=N2 hk l';refine ⟨.inr (.inl ⟨hphl.1,hphl.2,hnim,_,T,by rw [hheap _ hblk,if_pos rfl],by simp [putCells,hbs],by simp [putCells,hfl',hperm];exact hcl,?_,?_⟩),fun _=> .inr hlent0,fun x hx=>?_⟩
   . refine AJ.of_get ?_ fun j x y hx hy=>?_
     . simp [putCells,hfl',hperm];omega
     . have hj:j < l'.length*k:=by
         have:=(List.getElem?_eq_some_iff.1 hx).1;simpa [hfl'] using this
       rw [List.getElem?_map,Mg h0 hk l' j hj] at hx;cases hx;rw [List.getElem?_take,List.length_map,hfl',if_pos hj,Array.getElem?_toList] at hy;have hjc:j < c.size:=by rw [hperm] at hj;omega
       simp only [putCells,Array.getElem?_mapIdx,Array.getElem?_eq_getElem hjc,Option.map_some,Nat.zero_le,true_and,Nat.zero_add,size_flatK,List.size_toArray,hj,if_true,Option.some.injEq,Nat.sub_zero,id] at hy;subst hy;have hm:=Mg h0 hk l' j hj;have hmem:=List.mem_of_getElem? hm;obtain ⟨a,_,ha⟩:=List.mem_flatMap.1 hmem;exact RD.lit _ (hflat a _ ha)
   . simp only [List.all_map,List.all_eq_true]
     intro v _;rfl
   . obtain ⟨v,_,rfl⟩:=List.mem_map.1 hx
     trivial
 . have e1:i=0:=by simp only [InH,lk] at hi;split at hi;assumption;cases hi
   have e2:j=0:=by simp only [InH,lk] at hj;split at hj;assumption;cases hj
   rw [e1,e2]
end Go.Psl
namespace Go.Proofs
def Tryz.sortL_ren:Go.Shelf.Ren:=⟨fun | 6=>221 | 15=>270 | 14=>269 | 28=>300 | 29=>301 | 20=>292 | 21=>293 | 22=>294 | 23=>295 | 24=>296 | 25=>297 | 26=>298 | 27=>299 | 46=>312 | 47=>313 | 48=>314 | 49=>315 | 50=>316 | 57=>318 | n=>n,fun | 22=>55 | 24=>122 | 25=>275 | 3=>3 | 39=>222 | 0=>0 | 53=>339 | 55=>341 | 4=>4 | 46=>333 | 45=>332 | 50=>266 | 5=>5 | 9=>9 | 66=>348 | 70=>352 | 76=>356 | 77=>50 | n=>n,fun | n=>n⟩
theorem Tryz.sortL:Go.Proofs.SlLaysF0.n6 Tryz.prog Tryz.sortL_ren:={
 mixed:=by kernel_rfl,
 f6:=⟨Tryz.f221.name,by decide,Tryz.func221.trans (congrArg some (by kernel_rfl))⟩,
 f14:=⟨Tryz.f269.name,by decide,Tryz.func269.trans (congrArg some (by kernel_rfl))⟩,
 f15:=Tryz.func270.trans (congrArg some (by kernel_rfl)),
 f20:=⟨Tryz.f292.name,by decide,Tryz.func292.trans (congrArg some (by kernel_rfl))⟩,
 f21:=⟨Tryz.f293.name,by decide,Tryz.func293.trans (congrArg some (by kernel_rfl))⟩,
 f22:=⟨Tryz.f294.name,by decide,Tryz.func294.trans (congrArg some (by kernel_rfl))⟩,
 f23:=⟨Tryz.f295.name,by decide,Tryz.func295.trans (congrArg some (by kernel_rfl))⟩,
 f24:=⟨Tryz.f296.name,by decide,Tryz.func296.trans (congrArg some (by kernel_rfl))⟩,
 f25:=⟨Tryz.f297.name,by decide,Tryz.func297.trans (congrArg some (by kernel_rfl))⟩,
 f26:=⟨Tryz.f298.name,by decide,Tryz.func298.trans (congrArg some (by kernel_rfl))⟩,
 f27:=⟨Tryz.f299.name,by decide,Tryz.func299.trans (congrArg some (by kernel_rfl))⟩,
 f28:=Tryz.func300.trans (congrArg some (by kernel_rfl)),
 f29:=Tryz.func301.trans (congrArg some (by kernel_rfl)),
 f46:=⟨Tryz.f312.name,by decide,Tryz.func312.trans (congrArg some (by kernel_rfl))⟩,
 f47:=Tryz.func313.trans (congrArg some (by kernel_rfl)),
 f48:=Tryz.func314.trans (congrArg some (by kernel_rfl)),
 f49:=⟨Tryz.f315.name,by decide,Tryz.func315.trans (congrArg some (by kernel_rfl))⟩,
 f50:=⟨Tryz.f316.name,by decide,Tryz.func316.trans (congrArg some (by kernel_rfl))⟩,
 f57:=⟨Tryz.f318.name,by decide,Tryz.func318.trans (congrArg some (by kernel_rfl))⟩,
 t0:=Tryz.underlying0,
 a0:=Tryz.isAgg0,
 z0:=Tryz.sizeOf0,
 v0:=Tryz.zeroValue0,
 t3:=Tryz.underlying3,
 a3:=Tryz.isAgg3,
 z3:=Tryz.sizeOf3,
 v3:=Tryz.zeroValue3,
 t4:=Tryz.underlying4,
 a4:=Tryz.isAgg4,
 z4:=Tryz.sizeOf4,
 v4:=Tryz.zeroValue4,
 t5:=Tryz.underlying5,
 a5:=Tryz.isAgg5,
 z5:=Tryz.sizeOf5,
 v5:=Tryz.zeroValue5,
 t9:=Tryz.underlying9,
 a9:=Tryz.isAgg9,
 z9:=Tryz.sizeOf9,
 v9:=Tryz.zeroValue9,
 t22:=Tryz.underlying55,
 a22:=Tryz.isAgg55,
 z22:=Tryz.sizeOf55,
 v22:=Tryz.zeroValue55,
 t25:=Tryz.underlying275,
 a25:=Tryz.isAgg275,
 z25:=Tryz.sizeOf275,
 v25:=Tryz.zeroValue275,
 t39:=Tryz.underlying222,
 a39:=Tryz.isAgg222,
 z39:=Tryz.sizeOf222,
 v39:=Tryz.zeroValue222,
 t45:=Tryz.underlying332,
 a45:=Tryz.isAgg332,
 z45:=Tryz.sizeOf332,
 v45:=Tryz.zeroValue332,
 t46:=Tryz.underlying333,
 a46:=Tryz.isAgg333,
 z46:=Tryz.sizeOf333,
 v46:=Tryz.zeroValue333,
 t50:=Tryz.underlying266,
 a50:=Tryz.isAgg266,
 z50:=Tryz.sizeOf266,
 v50:=Tryz.zeroValue266,
 t53:=Tryz.underlying339,
 a53:=Tryz.isAgg339,
 z53:=Tryz.sizeOf339,
 v53:=Tryz.zeroValue339,
 t55:=Tryz.underlying341,
 a55:=Tryz.isAgg341,
 z55:=Tryz.sizeOf341,
 v55:=Tryz.zeroValue341,
 t66:=Tryz.underlying348,
 a66:=Tryz.isAgg348,
 z66:=Tryz.sizeOf348,
 v66:=Tryz.zeroValue348,
 t70:=Tryz.underlying352,
 a70:=Tryz.isAgg352,
 z70:=Tryz.sizeOf352,
 v70:=Tryz.zeroValue352,
 t76:=Tryz.underlying356,
 a76:=Tryz.isAgg356,
 z76:=Tryz.sizeOf356,
 v76:=Tryz.zeroValue356,
 t77:=Tryz.underlying50,
 a77:=Tryz.isAgg50,
 z77:=Tryz.sizeOf50,
 v77:=Tryz.zeroValue50}
end Go.Proofs
namespace Go.Proofs.Tryz
open Go.Psl
def Yn (p:Int × Int):List Value:=[.int .i64 p.1, .int .i64 p.2]
theorem L8 (l:List (Int × Int)):(l.flatMap Yn).map cV=BC l:=by
 induction l with
 | nil=>rfl
 | cons a l ih=>
   rw [List.flatMap_cons,List.map_append,ih];rfl
theorem Kq (x y:Int × Int):Go.Proofs.ltOf Dw x y=true↔Go.Geo.lt x y:=by
 unfold Go.Proofs.ltOf;rw [decide_eq_true_eq,PX]
theorem F2 (x y:Int × Int):Go.Proofs.ltOf Dw x y=false↔¬ Go.Geo.lt x y:=by
 rw [<-Kq];simp
theorem VT:Go.Sort.SWO (Go.Proofs.ltOf Dw) where
 irrefl x:=by rw [F2];exact Go.Geo.lt_irr x
 trans x y z h1 h2:=by rw [Kq] at*;exact Go.Geo.lt_trans h1 h2
 ntrans x y z h1 h2:=by rw [F2] at*;unfold Go.Geo.lt at*;omega
theorem kX:SortOk:=fun l h1 h2=>by
 have hcmp:∀ x y:Int × Int,Ct prog 222 [.agg ((Yn x).map cV), .agg ((Yn y).map cV)] (.d (.lit (.int .i64 (Dw x y)))) []:=fun x y=>pR x y
 have h:=N3 Tryz.sortL ⟨_,func221,by kernel_rfl,by decide⟩ 2 (by omega) Tryz.isAgg122 Tryz.sizeOf122 Yn (fun _=>rfl) (fun x v hv=>by simp [Yn] at hv;rcases hv with rfl | rfl<;>rfl) Dw VT
   (fun x y a b=>by
     rw [F2] at a b;rcases Go.Geo.lt_tri x y with h | h | h
     . exact absurd h a
     . exact h
     . exact absurd h b) 222 (Go.Proofs.enters_of func222 (by kernel_rfl) rfl) hcmp l h1 (by omega)
 rw [L8,L8] at h;exact h
end Go.Proofs.Tryz
