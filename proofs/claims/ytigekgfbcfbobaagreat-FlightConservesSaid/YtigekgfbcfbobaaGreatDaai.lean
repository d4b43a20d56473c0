/- Own lemmas and contracts of functions, used by the last text of this claim for the given statement. Conditions: those that each theorem states. -/
import Derived.Test.YtigekgfbcfbobaaGreatDaag
import Derived.Test.YtigekgfbcfbobaaGreatDaah
namespace Go.Proofs.Tryz
open Go.Psl
open Go.Air
theorem jN (x:Lev):Ct prog 161 [Wb x] (vb (decide (x.ph < x.pl))) []:=by
 refine CB func161 c161 (by simp [ntmps161]) fun E hE=>?_
 simp [p161];refine AB.by (fun _=>none) ?_;simp [results161]
def D3 (l:List Lev):List Lev × Int × Int:=
 if GC l then (if 0<=ixF (fun x:Lev=>decide (x.ph < x.pl)) (swp l) then ([],ixF (fun x:Lev=>decide (x.ph < x.pl)) (swp l),21) else (swp l,0,0)) else ([],0,20)
abbrev gz (r:List Lev × Int × Int):V:= .tup [.d (BF r.1),vi r.2.1,vi r.2.2]
theorem SK (l:List Lev) (hl:l.length<=1000000) (h:GC l=false):Ct prog 88 [.d (BF l)] (.tup [.d (.lit (.slice none 0 0)),vi 0,vi 20]) []:=by
 have c1:=Tc l hl;rw [h] at c1;refine CB func88 c88 (by simp [ntmps88]) fun E hE=>?_
 simp [p88];refine CLa (c1) ?_;simp;refine AB.by (fun _=>none) ?_;simp [results88]
theorem mC {ws:List Lev} (h:ws=[]):∀ H:Hp,Bor H (.d (.lit (.slice none 0 0))) (.d (BF ws)):=fun H=>by
 subst h;exact Or.inr ⟨rfl,5,rfl⟩
theorem JO {ws:List Lev} {n:Nat} {b:Nat} (h:ws.length=n):∀ H:Hp,H b=some (AH A5 ws)->Bor H (.ls b 0 n 5) (.d (BF ws)):=fun H hh=>by
 subst h;exact B0 (f:=A5) hfl (l:=ws) hh
set_option maxRecDepth 20000 in
set_option maxHeartbeats 4000000 in
theorem Io (l:List Lev) (h:OkS l) (m:List Lev) (SU SD:Nat->List Lev) (hlm:m.length=l.length) (hU:StU (knT l) l.length SU) (hD:StD (knT l) l.length SD) (lU:∀ i,(SU i).length=l.length) (lD:∀ i,(SD i).length=l.length) (e0:SU 0=m) (e1:SU (l.length - 1)=SD (l.length - 1)) (e2:SD 0=swp l) (ws:List Lev) (hws:ws=[]) (hd:decide (ws=m)=false) (k:Nat) (hk:k < 2) {E:Ent} (hE:∀ i,¬ E.stab i) (C:Nat->St) (hC:C (k+1)=⟨AO [(6, .lp 0 0),(8, .cl 156 [.lp 0 0, .lp 2 0]),(9, .ls 3 0 l.length 5)],lk [(0,[.ls 1 0 l.length 5]),(2,[.d (thD (knT l))]),(1,AH A5 (swp l)),(3,AH A5 m)],4⟩) {Q:Av->St->Prop}:PW prog tys eqs E LC
   (DP (fun st'=>∃ j,j<=2/\2 - j < 2 - k/\AI prog E st' (C j)) Q)
   ⟨AO [(6, .lp 0 0),(8, .cl 156 [.lp 0 0, .lp 2 0]),(9, .d (.lit (.slice none 0 0)))],lk [(0,[.ls 1 0 l.length 5]),(2,[.d (thD (knT l))]),(1,AH A5 m)],3⟩:=by
 have bw:=mC hws;have hlen:=h.len;have c1:=cy ws m (by first | (rw [hws];simp;done) | omega) (by omega);rw [hd] at c1;have hm0:m≠[]:=by intro e;rw [e] at hlm;simp at hlm;omega
 have c2:=UA m (by omega) hm0;rw [hlm] at c2
 have bm:∀ H:Hp,H 1=some (AH A5 m)->Bor H (.ls 1 0 l.length 5) (.d (BF m)):=fun H hh=>by
   have:=B0 (f:=A5) hfl (l:=m) hh;rw [hlm] at this;exact this
 have hn1:IntKind.wrap .i64 ((l.length:Int) - 1)=(l.length:Int) - 1:=AD (by omega) (by omega);simp [LC];refine CLb (c1) (by simp [bw,bm]) ?_;simp;refine AU.mk _ _ _ (c2) (by simp [bm]) (by simp) (by first | (left;simp;done) | (right;simp;done) | (right;simp;exact of_eq_true KD)) ?_;simp [hn1];refine BL (α:=Nat) 2 (fun _:Unit=>⟨AO [(6, .lp 0 0),(8, .cl 156 [.lp 0 0, .lp 2 0]),(9, .ls 3 0 l.length 5)],lk [(0,[.ls 1 0 l.length 5]),(2,[.d (thD (knT l))]),(3,AH A5 m),(1,AH A5 (SU (l.length - 1)))],4⟩) (fun _=>True) (fun j=>⟨AO [(6, .lp 0 0),(8, .cl 156 [.lp 0 0, .lp 2 0]),(9, .ls 3 0 l.length 5),(31,vi ((l.length:Int) - 1)),(32,vi j)],lk [(0,[.ls 1 0 l.length 5]),(2,[.d (thD (knT l))]),(3,AH A5 m),(1,AH A5 (SU j))],4⟩) (fun j=>j<=l.length - 1) (fun j=>l.length - 1 - j) 0 ?_ ?_ (MX (knT l) m l.length SU (by rw [Dg];omega) (by omega) lU hU hE) fun _ _=>?_
 . omega
 . rw [e0]
   refine AI.mk hE (lk [(0,0),(1,1),(2,2),(3,5242883)]) _ _ _ ?_ ?_ ?_ ?_ ?_<;>simp
 . simp [hn1]
   refine BL (α:=Nat) 4 (fun _:Unit=>⟨AO [(6, .lp 0 0),(8, .cl 156 [.lp 0 0, .lp 2 0]),(9, .ls 3 0 l.length 5)],lk [(0,[.ls 1 0 l.length 5]),(2,[.d (thD (knT l))]),(3,AH A5 m),(1,AH A5 (SD 0))],4⟩) (fun _=>True) (fun j=>⟨AO [(6, .lp 0 0),(8, .cl 156 [.lp 0 0, .lp 2 0]),(9, .ls 3 0 l.length 5),(11,vi j)],lk [(0,[.ls 1 0 l.length 5]),(2,[.d (thD (knT l))]),(3,AH A5 m),(1,AH A5 (SD j))],4⟩) (fun j=>j<=l.length - 1) (fun j=>j) (l.length - 1) ?_ ?_ (MY (knT l) m l.length SD (by rw [Dg];omega) (by omega) lD hD hE) fun _ _=>?_
   . omega
   . rw [<-e1]
     have hc:((l.length - 1:Nat):Int)=(l.length:Int) - 1:=by omega
     rw [hc];refine AI.mk hE (lk [(0,0),(1,1),(2,2),(3,3)]) _ _ _ ?_ ?_ ?_ ?_ ?_<;>simp
   . rw [e2]
     simp;refine ⟨k+1,by omega,by omega,?_⟩;rw [hC];refine AI.mk hE (lk [(0,0),(1,1),(2,2),(3,3)]) _ _ _ ?_ ?_ ?_ ?_ ?_<;>simp
set_option maxRecDepth 20000 in
set_option maxHeartbeats 4000000 in
theorem Jj (l:List Lev) (h:OkS l) (m:List Lev) (SU SD:Nat->List Lev) (hlm:m.length=l.length) (hU:StU (knT l) l.length SU) (hD:StD (knT l) l.length SD) (lU:∀ i,(SU i).length=l.length) (lD:∀ i,(SD i).length=l.length) (e0:SU 0=m) (e1:SU (l.length - 1)=SD (l.length - 1)) (e2:SD 0=swp l) (ws:List Lev) (hws:ws.length=l.length) (hd:decide (ws=m)=false) (k:Nat) (hk:k < 2) {E:Ent} (hE:∀ i,¬ E.stab i) (C:Nat->St) (hC:C (k+1)=⟨AO [(6, .lp 0 0),(8, .cl 156 [.lp 0 0, .lp 2 0]),(9, .ls 3 0 l.length 5)],lk [(0,[.ls 1 0 l.length 5]),(2,[.d (thD (knT l))]),(1,AH A5 (swp l)),(3,AH A5 m)],4⟩) {Q:Av->St->Prop}:PW prog tys eqs E LC
   (DP (fun st'=>∃ j,j<=2/\2 - j < 2 - k/\AI prog E st' (C j)) Q)
   ⟨AO [(6, .lp 0 0),(8, .cl 156 [.lp 0 0, .lp 2 0]),(9, .ls 3 0 l.length 5)],lk [(0,[.ls 1 0 l.length 5]),(2,[.d (thD (knT l))]),(1,AH A5 m),(3,AH A5 ws)],4⟩:=by
 have bw:=JO (b:=3) hws;have hlen:=h.len;have c1:=cy ws m (by first | (rw [hws];simp;done) | omega) (by omega);rw [hd] at c1;have hm0:m≠[]:=by intro e;rw [e] at hlm;simp at hlm;omega
 have c2:=UA m (by omega) hm0;rw [hlm] at c2
 have bm:∀ H:Hp,H 1=some (AH A5 m)->Bor H (.ls 1 0 l.length 5) (.d (BF m)):=fun H hh=>by
   have:=B0 (f:=A5) hfl (l:=m) hh;rw [hlm] at this;exact this
 have hn1:IntKind.wrap .i64 ((l.length:Int) - 1)=(l.length:Int) - 1:=AD (by omega) (by omega);simp [LC];refine CLb (c1) (by simp [bw,bm]) ?_;simp;refine AU.mk _ _ _ (c2) (by simp [bm]) (by simp) (by first | (left;simp;done) | (right;simp;done) | (right;simp;exact of_eq_true KD)) ?_;simp [hn1];refine BL (α:=Nat) 2 (fun _:Unit=>⟨AO [(6, .lp 0 0),(8, .cl 156 [.lp 0 0, .lp 2 0]),(9, .ls 3 0 l.length 5)],lk [(0,[.ls 1 0 l.length 5]),(2,[.d (thD (knT l))]),(3,AH A5 m),(1,AH A5 (SU (l.length - 1)))],4⟩) (fun _=>True) (fun j=>⟨AO [(6, .lp 0 0),(8, .cl 156 [.lp 0 0, .lp 2 0]),(9, .ls 3 0 l.length 5),(31,vi ((l.length:Int) - 1)),(32,vi j)],lk [(0,[.ls 1 0 l.length 5]),(2,[.d (thD (knT l))]),(3,AH A5 m),(1,AH A5 (SU j))],4⟩) (fun j=>j<=l.length - 1) (fun j=>l.length - 1 - j) 0 ?_ ?_ (MX (knT l) m l.length SU (by rw [Dg];omega) (by omega) lU hU hE) fun _ _=>?_
 . omega
 . rw [e0]
   refine AI.mk hE (lk [(0,0),(1,1),(2,2),(3,5242884)]) _ _ _ ?_ ?_ ?_ ?_ ?_<;>simp
 . simp [hn1]
   refine BL (α:=Nat) 4 (fun _:Unit=>⟨AO [(6, .lp 0 0),(8, .cl 156 [.lp 0 0, .lp 2 0]),(9, .ls 3 0 l.length 5)],lk [(0,[.ls 1 0 l.length 5]),(2,[.d (thD (knT l))]),(3,AH A5 m),(1,AH A5 (SD 0))],4⟩) (fun _=>True) (fun j=>⟨AO [(6, .lp 0 0),(8, .cl 156 [.lp 0 0, .lp 2 0]),(9, .ls 3 0 l.length 5),(11,vi j)],lk [(0,[.ls 1 0 l.length 5]),(2,[.d (thD (knT l))]),(3,AH A5 m),(1,AH A5 (SD j))],4⟩) (fun j=>j<=l.length - 1) (fun j=>j) (l.length - 1) ?_ ?_ (MY (knT l) m l.length SD (by rw [Dg];omega) (by omega) lD hD hE) fun _ _=>?_
   . omega
   . rw [<-e1]
     have hc:((l.length - 1:Nat):Int)=(l.length:Int) - 1:=by omega
     rw [hc];refine AI.mk hE (lk [(0,0),(1,1),(2,2),(3,3)]) _ _ _ ?_ ?_ ?_ ?_ ?_<;>simp
   . rw [e2]
     simp;refine ⟨k+1,by omega,by omega,?_⟩;rw [hC];refine AI.mk hE (lk [(0,0),(1,1),(2,2),(3,3)]) _ _ _ ?_ ?_ ?_ ?_ ?_<;>simp
abbrev unf (x:Lev):Bool:=decide (x.ph < x.pl)
def Pk (l:List Lev):Nat->St
 | 0=>⟨AO [(6, .lp 0 0),(8, .cl 156 [.lp 0 0, .lp 2 0]),(9, .d (.lit (.slice none 0 0)))],lk [(0,[.ls 1 0 l.length 5]),(2,[.d (thD (knT l))]),(1,AH A5 l)],3⟩
 | 1=>⟨AO [(6, .lp 0 0),(8, .cl 156 [.lp 0 0, .lp 2 0]),(9, .ls 3 0 l.length 5)],lk [(0,[.ls 1 0 l.length 5]),(2,[.d (thD (knT l))]),(1,AH A5 (swp l)),(3,AH A5 l)],4⟩
 | _=>⟨AO [(6, .lp 0 0),(8, .cl 156 [.lp 0 0, .lp 2 0]),(9, .ls 3 0 l.length 5)],lk [(0,[.ls 1 0 l.length 5]),(2,[.d (thD (knT l))]),(1,AH A5 (swp l)),(3,AH A5 (swp l))],4⟩
set_option maxRecDepth 20000 in
set_option maxHeartbeats 4000000 in
theorem FN (l:List Lev) (h:OkS l) (ws:List Lev) (hws:ws=swp l) (_:Nat) {E:Ent} (hE:∀ i,¬ E.stab i) {Q:Av->St->Prop} {S:St->Prop}:PW prog tys eqs E LC
   (DP S (exC prog E Q 0 (fun _:Unit=>⟨AO [(6, .lp 0 0),(8, .cl 156 [.lp 0 0, .lp 2 0])],lk [(0,[.ls 1 0 l.length 5]),(2,[.d (thD (knT l))]),(1,AH A5 (swp l))],3⟩) (fun _=>True)))
   ⟨AO [(6, .lp 0 0),(8, .cl 156 [.lp 0 0, .lp 2 0]),(9, .ls 3 0 l.length 5)],lk [(0,[.ls 1 0 l.length 5]),(2,[.d (thD (knT l))]),(1,AH A5 (swp l)),(3,AH A5 ws)],4⟩:=by
 have hlen:=h.len;subst hws;have hl2:=Dj (l:=l);have c1:=cy (swp l) (swp l) (by omega) (by omega);have bw:=JO (b:=3) hl2;have bm:=JO (b:=1) hl2;simp only [decide_true] at c1;simp [LC];refine CLb (c1) (by simp [bw,bm]) ?_;simp;refine AI.mk hE (lk [(0,0),(1,1),(2,2)]) _ _ _ ?_ ?_ ?_ ?_ ?_<;>simp
set_option maxRecDepth 20000 in
set_option maxHeartbeats 4000000 in
theorem Nk (l:List Lev) (h:OkS l) (hq:0<=ixF unf (swp l)):Ct prog 88 [.d (BF l)] (.tup [.d (.lit (.slice none 0 0)),vi (ixF unf (swp l)),vi 21]) []:=by
 have hlen:=h.len;have h0:l≠[]:=by intro e;rw [e] at hlen;simp at hlen
 have hl2:=Dj (l:=l);have c1:=Tc l (by omega);rw [B8.2 h] at c1;have c2:=UA l (by omega) h0;have c3:=Tw l (by omega) h0;have c4:=ct (swp l) 161 [] unf (by omega) fun x _=>jN x
 have bm:=JO (b:=1) hl2;refine CB func88 c88 (by simp [ntmps88]) fun E hE=>?_
 simp [p88];refine CLa (c1) ?_;simp;refine CLa (c2) ?_;simp;refine CLa (c3) ?_;simp [AA];refine BL (α:=Nat) 0 (fun _:Unit=>⟨AO [(6, .lp 0 0),(8, .cl 156 [.lp 0 0, .lp 2 0])],lk [(0,[.ls 1 0 l.length 5]),(2,[.d (thD (knT l))]),(1,AH A5 (swp l))],3⟩) (fun _=>True) (Pk l) (fun k=>k<=2) (fun k=>2 - k) 0 ?_ ?_ ?_ fun _ _=>?_
 . omega
 . unfold Pk
   refine AI.mk hE (lk [(0,12582912),(1,9437184),(2,13631488)]) _ _ _ ?_ ?_ ?_ ?_ ?_<;>simp
 . intro k hk
   match k,hk with
   | 0,_=>
     exact Io l h l _ _ rfl (Po h) (Pp h) (fun i=>(M3 _ i l).len.symm) (fun i=>by rw [<-(M4 _ i _).len,Ew]) rfl (by
       show upK _ _ l=dnK _ _ _
       rw [Jz _ _ _ (by omega),Ki _ _ _ (by rw [Ew];omega)]) rfl [] rfl (by simpa using h0) 0 (by omega) hE (Pk l) rfl
   | 1,_=>
     by_cases he:l=swp l
     . exact FN l h l he 1 hE
     . exact Jj l h (swp l) _ _ hl2 (Pq h) (Ps h) (fun _=>hl2) (fun _=>hl2) rfl rfl rfl l rfl (by simpa using he) 1 (by omega) hE (Pk l) rfl
   | 2,_=>exact FN l h (swp l) rfl 2 hE
   | k+3,hk=>omega
 . simp
   refine CLb (c4) (by simp [bm]) ?_;simp [hq];refine AB.by (fun _=>none) ?_;simp [results88]
set_option maxRecDepth 20000 in
set_option maxHeartbeats 4000000 in
theorem SQ (l:List Lev) (h:OkS l) (hq:¬ 0<=ixF unf (swp l)):Ct prog 88 [.d (BF l)] (.tup [.ls 0 0 l.length 5,vi 0,vi 0]) [(0,AH A5 (swp l))]:=by
 have hlen:=h.len;have h0:l≠[]:=by intro e;rw [e] at hlen;simp at hlen
 have hl2:=Dj (l:=l);have c1:=Tc l (by omega);rw [B8.2 h] at c1;have c2:=UA l (by omega) h0;have c3:=Tw l (by omega) h0;have c4:=ct (swp l) 161 [] unf (by omega) fun x _=>jN x
 have bm:=JO (b:=1) hl2;refine CB func88 c88 (by simp [ntmps88]) fun E hE=>?_
 simp [p88];refine CLa (c1) ?_;simp;refine CLa (c2) ?_;simp;refine CLa (c3) ?_;simp [AA];refine BL (α:=Nat) 0 (fun _:Unit=>⟨AO [(6, .lp 0 0),(8, .cl 156 [.lp 0 0, .lp 2 0])],lk [(0,[.ls 1 0 l.length 5]),(2,[.d (thD (knT l))]),(1,AH A5 (swp l))],3⟩) (fun _=>True) (Pk l) (fun k=>k<=2) (fun k=>2 - k) 0 ?_ ?_ ?_ fun _ _=>?_
 . omega
 . unfold Pk
   refine AI.mk hE (lk [(0,12582912),(1,9437184),(2,13631488)]) _ _ _ ?_ ?_ ?_ ?_ ?_<;>simp
 . intro k hk
   match k,hk with
   | 0,_=>
     exact Io l h l _ _ rfl (Po h) (Pp h) (fun i=>(M3 _ i l).len.symm) (fun i=>by rw [<-(M4 _ i _).len,Ew]) rfl (by
       show upK _ _ l=dnK _ _ _
       rw [Jz _ _ _ (by omega),Ki _ _ _ (by rw [Ew];omega)]) rfl [] rfl (by simpa using h0) 0 (by omega) hE (Pk l) rfl
   | 1,_=>
     by_cases he:l=swp l
     . exact FN l h l he 1 hE
     . exact Jj l h (swp l) _ _ hl2 (Pq h) (Ps h) (fun _=>hl2) (fun _=>hl2) rfl rfl rfl l rfl (by simpa using he) 1 (by omega) hE (Pk l) rfl
   | 2,_=>exact FN l h (swp l) rfl 2 hE
   | k+3,hk=>omega
 . simp
   refine CLb (c4) (by simp [bm]) ?_;simp [hq];refine AB.by (lk [(0,1)]) ?_;simp [results88]
theorem mM (l:List Lev) (hl:l.length<=1000000):Ct prog 88 [.d (BF l)] (gz (D3 l)) []:=by
 cases h:GC l
 . refine Cm.freeze (SK l hl h) ?_
   unfold D3;rw [h];exact ⟨Or.inr ⟨rfl,5,rfl⟩,Or.inl rfl,Or.inl rfl,trivial⟩
 . have ho:=B8.1 h
   by_cases hq:0<=ixF unf (swp l)
   . refine Cm.freeze (Nk l ho hq) ?_
     unfold D3;rw [h,if_pos rfl,if_pos hq];exact ⟨Or.inr ⟨rfl,5,rfl⟩,Or.inl rfl,Or.inl rfl,trivial⟩
   . refine Cm.freeze (SQ l ho hq) ?_
     unfold D3;rw [h,if_pos rfl,if_neg hq];refine ⟨?_,Or.inl rfl,Or.inl rfl,trivial⟩;have:=JO (ws:=swp l) (b:=0) (Dj (l:=l)) (lk [(0,AH A5 (swp l))]) (by simp);exact this
theorem jE (x:Lev) (h:Int) (hw:IntKind.wrap .i64 (x.h - h)=x.h - h):Ct prog 188 [Wb x,vi h] (vi (x.h - h)) []:=by
 refine CB func188 c188 (by simp [ntmps188]) fun E hE=>?_
 simp [p188,hw];refine AB.by (fun _=>none) ?_;simp [results188]
def Ii (s:List Lev) (h:Int):Nat:=(s.takeWhile fun x=>decide (x.h < h)).length
def RF (s:List Lev) (h:Int):Bool:=match s[Ii s h]? with
 | some x=>decide (x.h=h)
 | none=>false
theorem Zj (s:List Lev) (h:Int):Ii s h<=s.length:=by
 unfold Ii;exact (List.takeWhile_sublist _).length_le
theorem NN:∀ (s:List Lev) (h:Int) (i:Nat) (x:Lev),s[i]?= some x->i < Ii s h->x.h < h
 | [],_,_,_,hx,_=>by simp at hx
 | a::s,h,i,x,hx,hi=>by
   unfold Ii at hi;by_cases hc:a.h < h
   . cases i with
     | zero=>simp at hx;subst hx;exact hc
     | succ i=>
       simp [hc] at hi hx;exact NN s h i x hx (by unfold Ii;exact hi)
   . simp [hc] at hi
theorem Zk:∀ (s:List Lev) (h:Int) (x:Lev),s[Ii s h]?= some x->h<=x.h
 | [],_,_,hx=>by simp at hx
 | a::s,h,x,hx=>by
   unfold Ii at hx;by_cases hc:a.h < h
   . simp [hc] at hx
     exact Zk s h x (by unfold Ii;exact hx)
   . simp [hc] at hx
     subst hx;omega
set_option maxRecDepth 20000 in
set_option maxHeartbeats 4000000 in
theorem po (s:List Lev) (h:Int) (hl:s.length<=1000000) (hb:∀ x∈s,IntKind.wrap .i64 (x.h - h)=x.h - h) (hm:∀ (i:Nat) (x:Lev),s[i]?= some x->Ii s h<=i->h<=x.h):Ct prog 187 [.d (BF s),vi h, .d (.fn 188 [])] (.tup [vi (Ii s h),vb (RF s h)]) []:=by
 have hp:=Zj s h;obtain ⟨r,hr⟩:∃ r,Ii s h=r:=⟨_,rfl⟩
 have hmf:∀ (i:Nat) (x:Lev),s[i]?= some x->i < r->x.h < h:=fun i x hx hi=>NN s h i x hx (by omega)
 have hh:RF s h=match s[r]? with | some x=>decide (x.h=h) | none=>false:=by unfold RF;rw [hr]
 rw [hr] at hp hm;rw [hr,hh];refine CB func187 c187 (by simp [ntmps187]) fun E hE=>?_
 simp [p187];refine Al (α:=Nat × Nat) (fun x=>⟨AO [(0, .d (BF s)),(1,vi h),(2, .d (.fn 188 [])),(8,vi s.length),(9,vi x.1),(10,vi x.2)],lk [],0⟩) (fun x=>x.1<=r/\r<=x.2/\x.2<=s.length) (fun x=>x.2 - x.1) (0,s.length) ?_ ?_ ?_
 . simp;omega
 . refine AI.mk hE (lk []) _ _ _ ?_ ?_ ?_ ?_ ?_<;>simp
 . rintro ⟨lo,hi⟩ ⟨g1,g2,g3⟩
   simp only at g1 g2 g3;simp [bL];by_cases hlt:lo < hi
   . have e1:IntKind.wrap .i64 ((lo:Int)+hi)=(lo:Int)+hi:=AD (by omega) (by omega)
     obtain ⟨m,hm'⟩:∃ m:Nat,m=(lo+hi) / 2:=⟨_,rfl⟩
     have e2:IntKind.wrap .u64 ((lo:Int)+hi)=(lo:Int)+hi:=Ay (by omega) (by omega);have e3:IntKind.wrap .i64 (((lo:Int)+hi) / 2)=(m:Int):=by rw [AD (by omega) (by omega)];omega
     have e4:IntKind.wrap .i64 ((m:Int)+1)=((m+1:Nat):Int):=by rw [AD (by omega) (by omega)];rfl
     simp only [Int.natCast_add,Int.cast_ofNat_Int] at e4;obtain ⟨x,hx⟩:∃ x,s[m]?= some x:=⟨_,List.getElem?_eq_getElem (by omega)⟩
     have c:=jE x h (hb x (List.mem_of_getElem? hx));have hml:(m:Int) < s.length:=by omega
     simp [hlt,e1,e2,e3,hx];refine CLa (c) ?_;by_cases hpm:x.h - h < 0
     . have:m < r:=Nat.not_le.1 fun h=>by have:=hm m x hx h;omega
       simp [hpm,e4];refine ⟨m+1,hi,⟨by omega,by omega,by omega⟩,by omega,?_⟩;refine AI.mk hE (lk []) _ _ _ ?_ ?_ ?_ ?_ ?_<;>simp
     . have:r<=m:=Nat.not_lt.1 fun h=>by have:=hmf m x hx h;omega
       simp [hpm];refine ⟨lo,m,⟨by omega,by omega,by omega⟩,by omega,?_⟩;refine AI.mk hE (lk []) _ _ _ ?_ ?_ ?_ ?_ ?_<;>simp
   . have:lo=r:=by omega
     subst this;by_cases hlr:lo < s.length
     . obtain ⟨x,hx⟩:∃ x,s[lo]?= some x:=⟨_,List.getElem?_eq_getElem hlr⟩
       have c:=jE x h (hb x (List.mem_of_getElem? hx));have hlr':(lo:Int) < s.length:=by omega
       have ez:decide (x.h - h=0)=decide (x.h=h):=decide_eq_decide.2 (by omega);simp [hlt,hlr',hx];refine CLa (c) ?_;simp [ez];refine AB.by (fun _=>none) ?_;simp [results187]
     . have hn:¬ (lo:Int) < s.length:=by omega
       have hx:s[lo]?= none:=List.getElem?_eq_none (by omega);simp [hlt,hn,hx];refine AB.by (fun _=>none) ?_;simp [results187]
theorem TY {T:Tm} {x:Int}:∀ (i:Nat) (s:List Lev) (y:Lev),s[i]?= some y->y.h=x->(∀ (j:Nat) (z:Lev),j < i->s[j]?= some z->z.h < x)->prs T s x=(y.pl,y.ph)
 | _,[],_,h,_,_=>by simp at h
 | 0,[c],y,h,_,_=>by simp at h;subst h;rfl
 | 0,c::d::r,y,h,e,_=>by
   simp at h;subst h;unfold prs;rw [if_pos (by omega)]
 | i+1,[c],y,h,_,_=>by simp at h
 | i+1,c::d::r,y,h,e,hj=>by
   have h1:=hj 0 c (by omega) rfl
   have h2:d.h<=x:=by
     cases i with
     | zero=>simp at h;subst h;omega
     | succ i=>have:=hj 1 d (by omega) rfl;omega
   unfold prs;rw [if_neg (by omega),if_neg (by omega)];exact TY i (d::r) y (by simpa using h) e fun j z hji hz=>hj (j+1) z (by omega) (by simpa using hz)
theorem TZ {T:Tm} {x:Int}:∀ (i:Nat) (s:List Lev) (a b:Lev),s[i]?= some a->s[i+1]?= some b->x < b.h->(∀ (j:Nat) (z:Lev),j<=i->s[j]?= some z->z.h < x)->prs T s x=(max (CY (lc T a b) (341632*(x - a.h)) a.pl) b.pl,C9 (lw T a b) (341632*(x - a.h)) a.ph)
 | _,[],_,_,h,_,_,_=>by simp at h
 | 0,[c],_,_,_,h,_,_=>by simp at h
 | 0,c::d::r,a,b,ha,hb,hx,hj=>by
   simp at ha hb;subst ha hb;have h1:=hj 0 c (by omega) rfl;unfold prs;rw [if_neg (by omega),if_pos hx]
 | i+1,[c],_,_,h,_,_,_=>by simp at h
 | i+1,c::d::r,a,b,ha,hb,hx,hj=>by
   have h1:=hj 0 c (by omega) rfl;have h2:=hj 1 d (by omega) rfl;unfold prs;rw [if_neg (by omega),if_neg (by omega)];exact TZ i (d::r) a b (by simpa using ha) (by simpa using hb) hx fun j z hji hz=>hj (j+1) z (by omega) (by simpa using hz)
set_option maxRecDepth 20000 in
set_option maxHeartbeats 4000000 in
theorem jD (s:List Lev) (x:Int) (h:OkS s) (hx:E8 s x):Ct prog 186 [vi x, .d (.ref [BF s]), .d (.ref [thD (knT s)])] (vsp (prs (tmS (knT s)) s x).1 (prs (tmS (knT s)) s x).2) []:=by
 have hlen:=h.len;have hp:=Zj s x;obtain ⟨e0,he0⟩:∃ e0,s[0]?= some e0:=⟨_,List.getElem?_eq_getElem (by omega)⟩
 obtain ⟨e1,he1⟩:∃ e1,s[s.length - 1]?= some e1:=⟨_,List.getElem?_eq_getElem (by omega)⟩
 have hx0:=hx.1 e0 he0;have hx1:=hx.2 e1 he1;have hb0:=h.at' e0 (List.mem_of_getElem? he0);have hb1:=h.at' e1 (List.mem_of_getElem? he1)
 have hlt:Ii s x < s.length:=Nat.not_le.1 fun hge=>by
   have:=NN s x (s.length - 1) e1 he1 (by omega);omega
 obtain ⟨r,hr⟩:∃ r,Ii s x=r:=⟨_,rfl⟩
 rw [hr] at hlt;obtain ⟨b,hb⟩:∃ b,s[r]?= some b:=⟨_,List.getElem?_eq_getElem hlt⟩
 have hbx:x<=b.h:=Zk s x b (by rw [hr];exact hb);have hin:∀ (j:Nat) (z:Lev),j < r->s[j]?= some z->z.h < x:=fun j z hj hz=>NN s x j z hz (by omega)
 have c1:=po s x (by omega) (fun y hy=>by have:=h.at' y hy;exact AD (by omega) (by omega)) (fun i y hy hi=>by
   have:=h.mono (i - r) r b y hb (by rw [show r+(i - r)=i by omega];exact hy);omega)
 have hbb:=h.lev b (List.mem_of_getElem? hb);have hbh:=h.at' b (List.mem_of_getElem? hb);have hI:(r:Int) < s.length:=by omega
 rw [hr] at c1;by_cases hit:b.h=x
 . have hh:RF s x=true:=by unfold RF;rw [hr,hb];simpa using hit
   rw [hh] at c1;rw [TY r s b hb hit hin];refine CB func186 qb (by simp [ntmps186]) fun E hE=>?_
   simp [p186];refine CLa (c1) ?_;simp [AA,hb];refine AB.by (fun _=>none) ?_;simp [results186]
 . have hh:RF s x=false:=by unfold RF;rw [hr,hb];simpa using hit
   rw [hh] at c1
   have hr1:1<=r:=Nat.not_lt.1 fun h0=>by
     have:r=0:=by omega
     subst this;rw [he0] at hb;cases hb;omega
   obtain ⟨q,hq⟩:∃ q,r=q+1:=⟨r - 1,by omega⟩
   obtain ⟨a,ha⟩:∃ a,s[q]?= some a:=⟨_,List.getElem?_eq_getElem (by omega)⟩
   rw [TZ q s a b ha (by rw [<-hq];exact hb) (by omega) fun j z hj hz=>hin j z (by omega) hz];have hax:=hin q a (by omega) ha;have hs:=h.step q a b ha (by rw [<-hq];exact hb);have hal:=(h.lev a (List.mem_of_getElem? ha)).1;have hah:=h.at' a (List.mem_of_getElem? ha);have ht:=(Oq h (h.inS ha) (h.inS hb)).p;have hw:IntKind.wrap .i64 ((r:Int) - 1)=(q:Int):=by rw [AD (by omega) (by omega)];omega
   have hw2:IntKind.wrap .i64 (x - a.h)=x - a.h:=AD (by omega) (by omega);have hQ:(q:Int) < s.length:=by omega
   have c2:=Tx (knT s) a.h b.h (by rw [Dg];omega);have c3:=O6 a.pl a.ph (x - a.h) (tmS (knT s) a.h b.h).1 (tmS (knT s) a.h b.h).2 (by omega) (by omega) (by omega) ht;refine CB func186 qb (by simp [ntmps186]) fun E hE=>?_
   simp [p186];refine CLa (c1) ?_;simp;refine AL [(11,19922944)] (by kernel_rfl) ?_;simp [AA,ha,hb,hw,hw2,inC,Nat.testBit];refine CLa (c2) ?_;simp [inC,Nat.testBit];refine CLa (c3) ?_;simp [AA];refine AB.by (fun _=>none) ?_;simp [results186,lc,lw]
theorem Yt:∀ {l m:List Lev},LeL l m->knT l=knT m
 | [],[],_=>rfl
 | [],_::_,h=>h.elim
 | _::_,[],h=>h.elim
 | a::l,b::m,h=>by
   unfold knT;rw [List.map_cons,List.map_cons];have:=Yt h.2;unfold knT at this;rw [this];have e:knOf a=knOf b:=by unfold knOf;rw [h.1.s.1,h.1.s.2.1,h.1.s.2.2]
   rw [e]
theorem TF (l:List Lev):knT (swp l)=knT l:=(Yt (Es l)).symm
theorem fI {l:List Lev} (h:¬ 0<=ixF unf l):∀ x∈l,x.pl<=x.ph:=fun x hx=>by
 have h1:=IZ unf l;rw [decide_eq_false h] at h1;have:=(List.any_eq_false.1 h1.symm) x hx;simp at this;omega
theorem Yu {l:List Lev} (h:OkS l) (hf:¬ 0<=ixF unf (swp l)):OkS (swp l):=by
 have hle:=Es (T:=tmS (knT l)) l;have key:∀ (i:Nat) (y:Lev),(swp l)[i]?= some y->∃ x,l[i]?= some x/\Le x y:=fun i y hy=>EM hle i y hy
 refine ⟨by rw [Dj];exact h.len,fun y hy=>?_,fun y hy=>?_,fun i a b ha hb=>?_⟩
 . obtain ⟨i,hi⟩:=List.getElem?_of_mem hy
   obtain ⟨x,hx,q⟩:=key i y hi;have h1:=h.lev x (List.mem_of_getElem? hx);have h2:=fI hf y hy;have h3:=q.lo;have h4:=q.hi;have h5:=q.s.2.1;have h6:=q.s.2.2;omega
 . obtain ⟨i,hi⟩:=List.getElem?_of_mem hy
   obtain ⟨x,hx,q⟩:=key i y hi;have h1:=h.at' x (List.mem_of_getElem? hx);have h5:=q.s.1;omega
 . obtain ⟨x,hx,q⟩:=key i a ha
   obtain ⟨y,hy,q'⟩:=key (i+1) b hb;have h1:=h.step i x y hx hy;have h5:=q.s.1;have h6:=q'.s.1;omega
theorem TG {l:List Lev} {x:Int} (h:E8 l x):E8 (swp l) x:=by
 have hle:=Es (T:=tmS (knT l)) l;refine ⟨fun k hk=>?_,fun k hk=>?_⟩
 . obtain ⟨y,hy,q⟩:=EM hle 0 k hk
   have:=h.1 y hy;have:=q.s.1;omega
 . rw [Dj] at hk
   obtain ⟨y,hy,q⟩:=EM hle _ k hk;have:=h.2 y hy;have:=q.s.1;omega
theorem Yv (l:List Lev) (hl:l.length<=1000000) (h:¬ (D3 l).2.2=0):Ct prog 121 [.d (BF l)] (.tup [.d (.lit .nilFunc),vi (D3 l).2.2]) []:=by
 have c:=mM l hl;unfold gz at c
 generalize (D3 l).2.2=e at*
 generalize (D3 l).2.1=i at*
 generalize (D3 l).1=s at*
 refine CB func121 qP (by simp [ntmps121]) fun E hE=>?_
 simp [p121];refine CLa (c) ?_;simp [AA,h];refine AB.by (fun _=>none) ?_;simp [results121]
theorem pB (l:List Lev) (h:OkS l) (hf:¬ 0<=ixF unf (swp l)):Ct prog 121 [.d (BF l)] (.tup [.cl 186 [.lp 0 0, .lp 1 0],vi 0]) [(0,[.d (BF (swp l))]),(1,[.d (thD (knT (swp l)))])]:=by
 have hlen:=h.len;have c:=mM l (by omega);have hS:D3 l=(swp l,0,0):=by unfold D3;rw [B8.2 h,if_pos rfl,if_neg hf]
 rw [hS] at c;unfold gz at c;simp only at c;have c2:=Tw (swp l) (by rw [Dj];omega) (by intro e;have:=Dj (l:=l);rw [e] at this;simp at this;omega);refine CB func121 qP (by simp [ntmps121]) fun E hE=>?_
 simp [p121];refine CLa (c) ?_;simp [AA];refine CLa (c2) ?_;simp [AA];refine AB.by (lk [(0,0),(1,16777216)]) ?_;simp [results121]
theorem VV (l:List Lev) (h:OkS l) (hf:¬ 0<=ixF unf (swp l)):Ct prog 121 [.d (BF l)] (.tup [.d (.fn 186 [.ref [BF (swp l)], .ref [thD (knT (swp l))]]),vi 0]) []:=by
 refine Cm.freeze (pB l h hf) ?_;exact ⟨⟨rfl,Or.inl ⟨_,rfl,rfl⟩,Or.inl ⟨_,rfl,rfl⟩,trivial⟩,Or.inl rfl,trivial⟩
def atA (l:List Lev) (a b:Int):Atm × Int:=
 if GC l then
   if okS (a,b) then
     match l[0]?,l[l.length - 1]? with
     | some x,some y=>
       if rgB x.h y.h [a,b] then
         if (D3 l).2.2=0 then (WH (tmS (knT l)) (swp l) a b,0) else (⟨0,0,0,0⟩,(D3 l).2.2)
       else (⟨0,0,0,0⟩,2)
     | _,_=>(⟨0,0,0,0⟩,2)
   else (⟨0,0,0,0⟩,10)
 else (⟨0,0,0,0⟩,20)
abbrev atV (r:Atm × Int):V:= .tup [Ox r.1,vi r.2]
theorem IQ {l:List Lev} (h:OkS l):(D3 l).2.2=0↔¬ 0<=ixF unf (swp l):=by
 unfold D3;rw [B8.2 h,if_pos rfl];by_cases hq:0<=ixF unf (swp l)
 . rw [if_pos hq];simp [hq]
 . rw [if_neg hq];simp [hq]
set_option maxRecDepth 20000 in
set_option maxHeartbeats 4000000 in
theorem pC (l:List Lev) (a b:Int) (hl:l.length<=1000000):Ct prog 56 [.d (BF l),vsp a b] (atV (atA l a b)) []:=by
 have c1:=Tc l hl;cases hk:GC l
 . rw [hk] at c1
   have e:atA l a b=(⟨0,0,0,0⟩,20):=by unfold atA;rw [hk];rfl
   rw [e];refine CB func56 c56 (by simp [ntmps56]) fun E hE=>?_
   simp [p56];refine CLa (c1) ?_;simp [AA];refine AB.by (fun _=>none) ?_;simp [results56]
 rw [hk] at c1;have h:=B8.1 hk;have hlen:=h.len;have c2:=OM (a,b);cases hs:okS (a,b)
 . rw [hs] at c2
   have e:atA l a b=(⟨0,0,0,0⟩,10):=by unfold atA;rw [hk,hs];rfl
   rw [e];refine CB func56 c56 (by simp [ntmps56]) fun E hE=>?_
   simp [p56];refine CLa (c1) ?_;simp;refine CLa (c2) ?_;simp [AA];refine AB.by (fun _=>none) ?_;simp [results56]
 rw [hs] at c2;obtain ⟨x,hx⟩:∃ x,l[0]?= some x:=⟨_,List.getElem?_eq_getElem (by omega)⟩
 obtain ⟨n,hn⟩:∃ n,n=l.length - 1:=⟨_,rfl⟩
 obtain ⟨y,hy⟩:∃ y,l[n]?= some y:=⟨_,List.getElem?_eq_getElem (by omega)⟩
 have hw:IntKind.wrap .i64 ((l.length:Int) - 1)=(n:Int):=by rw [AD (by omega) (by omega)];omega
 have hI0:(0:Int) < l.length:=by omega
 have hI:(n:Int) < l.length:=by omega
 have c3:=Iu x.h y.h [a,b] (by simp)
 have ea:atA l a b=if rgB x.h y.h [a,b] then (if (D3 l).2.2=0 then (WH (tmS (knT l)) (swp l) a b,0) else (⟨0,0,0,0⟩,(D3 l).2.2)) else (⟨0,0,0,0⟩,2):=by
   unfold atA;rw [hk,hs,hx,<-hn,hy];rfl
 cases hr:rgB x.h y.h [a,b]
 . rw [hr] at c3 ea
   rw [ea];refine CB func56 c56 (by simp [ntmps56]) fun E hE=>?_
   simp [p56];refine CLa (c1) ?_;simp;refine CLa (c2) ?_;simp [AA,AM,hx,hy,hw,inC,Nat.testBit];refine CLb (c3) (by simp [Ap]) ?_;simp [AA];refine AB.by (fun _=>none) ?_;simp [results56]
 rw [hr] at c3 ea;by_cases hz:(D3 l).2.2=0
 . rw [if_pos rfl,if_pos hz] at ea
   rw [ea];have hf:=(IQ h).1 hz;have c4:=VV l h hf;have hso:=Yu h hf
   have hins:∀ z,(z=a\/z=b)->E8 l z:=fun z hzz=>by
     have hq:(x.h<=a/\a<=y.h)/\x.h<=b/\b<=y.h:=by simp [rgB] at hr;omega
     refine ⟨fun k hk'=>?_,fun k hk'=>?_⟩
     . rw [hx] at hk';cases hk';rcases hzz with rfl | rfl<;>omega
     . rw [<-hn,hy] at hk';cases hk';rcases hzz with rfl | rfl<;>omega
   have c5:=jD (swp l) b hso (TG (hins b (Or.inr rfl)));have c6:=jD (swp l) a hso (TG (hins a (Or.inl rfl)));have c7:=Tw l hl (by intro e;rw [e] at hlen;simp at hlen);have c8:=Tx (knT l) a b (by rw [Dg];omega);rw [TF] at c4 c5 c6;refine CB func56 c56 (by simp [ntmps56]) fun E hE=>?_
   simp [p56];refine CLa (c1) ?_;simp;refine CLa (c2) ?_;simp [AA,AM,hx,hy,hw,inC,Nat.testBit];refine CLb (c3) (by simp [Ap]) ?_;simp;refine CLa (c4) ?_;simp [inC,Nat.testBit];refine CLa (c5) ?_;simp [inC,Nat.testBit];refine CLa (c6) ?_;simp [AA,inC,Nat.testBit];refine CLa (c7) ?_;simp [inC,Nat.testBit];refine CLa (c8) ?_;simp [AA];refine AB.by (fun _=>none) ?_;simp [results56,WH]
 . rw [if_pos rfl,if_neg hz] at ea
   rw [ea];have c4:=Yv l hl hz;refine CB func56 c56 (by simp [ntmps56]) fun E hE=>?_
   simp [p56];refine CLa (c1) ?_;simp;refine CLa (c2) ?_;simp [AA,AM,hx,hy,hw,inC,Nat.testBit];refine CLb (c3) (by simp [Ap]) ?_;simp;refine CLa (c4) ?_;simp [AA,hz];refine AB.by (fun _=>none) ?_;simp [results56]
structure Gal where
 h:Int
 xl:Int
 xh:Int
 yl:Int
 yh:Int
 g:Int
deriving DecidableEq
abbrev galL (x:Gal):List D:=[di x.h,di x.xl,di x.xh,di x.yl,di x.yh,di x.g]
abbrev C2 (l:List Gal):D:= .sl 6 (l.map galL)
theorem hfg:∀ x:Gal,(galL x).length=6:=fun _=>rfl
def Kg (l:List Gal) (i:Nat):Bool:=match l[i]? with
 | some x=>rgB (-500) 9000 [x.h]&&(if i=0 then true else match l[i - 1]? with | some y=>decide (y.h < x.h) | none=>true)&&rgB 0 500 [x.g]&&spB (-1000) 1000 x.xl x.xh&&spB (-1000) 1000 x.yl x.yh
 | none=>true
def Dr (l:List Gal):Bool:=rgB 1 16 [(l.length:Int)]&&(List.range l.length).all (Kg l)
theorem Fw {l:List Gal} {i:Nat} (hi:i < l.length) (h:Kg l i=false):Dr l=false:=by
 unfold Dr
 have:(List.range l.length).all (Kg l)=false:=by
   rw [List.all_eq_false];exact ⟨i,by simp [hi],by simp [h]⟩
 simp [this]
set_option maxRecDepth 20000 in
set_option maxHeartbeats 8000000 in
theorem oz (l:List Gal) (hl:l.length<=1000000):Ct prog 89 [.d (C2 l)] (vi (if Dr l then 0 else 22)) []:=by
 have c1:=Iu 1 16 [(l.length:Int)] (by simp);cases hn:rgB 1 16 [(l.length:Int)]
 . rw [hn] at c1
   have hbad:Dr l=false:=by unfold Dr;simp [hn]
   refine CB func89 c89 (by simp [ntmps89]) fun E hE=>?_
   simp [p89,AA,AM];refine CLb (c1) (by simp [AG]) ?_;simp;refine AB.by (fun _=>none) ?_;simp [results89,hbad]
 rw [hn] at c1;refine CB func89 c89 (by simp [ntmps89]) fun E hE=>?_
 simp [p89,AA,AM];refine CLb (c1) (by simp [AG]) ?_;simp;refine Al (α:=Nat) (fun i=>⟨AO [(0, .d (C2 l)),(10, .d (C2 l)),(11,vi l.length),(12,vi i)],lk [],0⟩) (fun i=>i<=l.length/\∀ j,j < i->Kg l j=true) (fun i=>l.length - i) 0 ?_ ?_ ?_
 . exact ⟨by omega,fun j hj=>by omega⟩
 . refine AI.mk hE (lk []) _ _ _ ?_ ?_ ?_ ?_ ?_<;>simp
 . rintro i ⟨hi,hg⟩
   by_cases h:i < l.length
   . obtain ⟨x,hx⟩:∃ x,l[i]?= some x:=⟨_,List.getElem?_eq_getElem h⟩
     have hz:IntKind.wrap .i64 ((i:Int)+1)=((i+1:Nat):Int):=by rw [AD (by omega) (by omega)];omega
     have hI:(i:Int) < l.length:=by omega
     have c2:=Iu (-500) 9000 [x.h] (by simp);have c3:=Iu 0 500 [x.g] (by simp);have c4:=T6 x.xl x.xh (-1000) 1000;have c5:=T6 x.yl x.yh (-1000) 1000;have eg:Kg l i=(rgB (-500) 9000 [x.h]&&(if i=0 then true else match l[i - 1]? with | some y=>decide (y.h < x.h) | none=>true)&&rgB 0 500 [x.g]&&spB (-1000) 1000 x.xl x.xh&&spB (-1000) 1000 x.yl x.yh):=by unfold Kg;rw [hx]
     have fin:Kg l i=true->∀ j,j < i+1->Kg l j=true:=fun he j hj=>by
       by_cases e:j=i
       . rw [e];exact he
       . exact hg j (by omega)
     generalize rgB (-500) 9000 [x.h]=b1 at*
     generalize rgB 0 500 [x.g]=b2 at*
     generalize spB (-1000) 1000 x.xl x.xh=b3 at*
     generalize spB (-1000) 1000 x.yl x.yh=b4 at*
     cases b1
     . have hbad:=Fw h (by rw [eg];rfl)
       simp [HI,hI,hx,AA,AM,inC,Nat.testBit];refine CLb (c2) (by simp [AG,inC,Nat.testBit]) ?_;simp;refine AB.by (fun _=>none) ?_;simp [results89,hbad]
     . by_cases h0:i=0
       . rw [if_pos h0] at eg
         have hI0:¬ 0 < i:=by omega
         cases b2
         . have hbad:=Fw h (by rw [eg];rfl)
           simp [HI,hI,hx,AA,AM,inC,Nat.testBit];refine CLb (c2) (by simp [AG,inC,Nat.testBit]) ?_;simp [AA,AM,hI0];refine CLb (c3) (by simp [AG]) ?_;simp;refine AB.by (fun _=>none) ?_;simp [results89,hbad]
         . cases b3
           . have hbad:=Fw h (by rw [eg];rfl)
             simp [HI,hI,hx,AA,AM,inC,Nat.testBit];refine CLb (c2) (by simp [AG,inC,Nat.testBit]) ?_;simp [AA,AM,hI0];refine CLb (c3) (by simp [AG]) ?_;simp;refine CLa (c4) ?_;simp;refine AB.by (fun _=>none) ?_;simp [results89,hbad]
           . simp [HI,hI,hx,AA,AM,inC,Nat.testBit]
             refine CLb (c2) (by simp [AG,inC,Nat.testBit]) ?_;simp [AA,AM,hI0];refine CLb (c3) (by simp [AG]) ?_;simp;refine CLa (c4) ?_;simp;refine CLa (c5) ?_;cases b4
             . have hbad:=Fw h (by rw [eg];rfl)
               simp;refine AB.by (fun _=>none) ?_;simp [results89,hbad]
             . have hok:=fin (by rw [eg];rfl)
               simp [hz];refine ⟨i+1,⟨by omega,hok⟩,by omega,?_⟩;refine AI.mk hE (lk []) _ _ _ ?_ ?_ ?_ ?_ ?_<;>simp
       . obtain ⟨y,hy⟩:∃ y,l[i - 1]?= some y:=⟨_,List.getElem?_eq_getElem (by omega)⟩
         have hw:IntKind.wrap .i64 ((i:Int) - 1)=((i - 1:Nat):Int):=by rw [AD (by omega) (by omega)];omega
         have hI0:0 < i:=by omega
         rw [if_neg h0,hy] at eg;simp only at eg;by_cases hc:x.h<=y.h
         . have hbad:=Fw h (by rw [eg,decide_eq_false (by omega)];simp)
           simp [HI,hI,hx,AA,AM,inC,Nat.testBit];refine CLb (c2) (by simp [AG,inC,Nat.testBit]) ?_;simp [hI0,hw,hy,hc,inC,Nat.testBit];refine AB.by (fun _=>none) ?_;simp [results89,hbad]
         . rw [decide_eq_true (by omega:y.h < x.h)] at eg
           cases b2
           . have hbad:=Fw h (by rw [eg];rfl)
             simp [HI,hI,hx,AA,AM,inC,Nat.testBit];refine CLb (c2) (by simp [AG,inC,Nat.testBit]) ?_;simp [AA,AM,hI0,hw,hy,hc,inC,Nat.testBit];refine CLb (c3) (by simp [AG]) ?_;simp;refine AB.by (fun _=>none) ?_;simp [results89,hbad]
           . cases b3
             . have hbad:=Fw h (by rw [eg];rfl)
               simp [HI,hI,hx,AA,AM,inC,Nat.testBit];refine CLb (c2) (by simp [AG,inC,Nat.testBit]) ?_;simp [AA,AM,hI0,hw,hy,hc,inC,Nat.testBit];refine CLb (c3) (by simp [AG]) ?_;simp;refine CLa (c4) ?_;simp;refine AB.by (fun _=>none) ?_;simp [results89,hbad]
             . simp [HI,hI,hx,AA,AM,inC,Nat.testBit]
               refine CLb (c2) (by simp [AG,inC,Nat.testBit]) ?_;simp [AA,AM,hI0,hw,hy,hc,inC,Nat.testBit];refine CLb (c3) (by simp [AG]) ?_;simp;refine CLa (c4) ?_;simp;refine CLa (c5) ?_;cases b4
               . have hbad:=Fw h (by rw [eg];rfl)
                 simp;refine AB.by (fun _=>none) ?_;simp [results89,hbad]
               . have hok:=fin (by rw [eg];rfl)
                 simp [hz];refine ⟨i+1,⟨by omega,hok⟩,by omega,?_⟩;refine AI.mk hE (lk []) _ _ _ ?_ ?_ ?_ ?_ ?_<;>simp
   . have e:i=l.length:=by omega
     have hnn:¬ (i:Int) < l.length:=by omega
     have hall:Dr l=true:=by
       unfold Dr;rw [hn,Bool.true_and,List.all_eq_true];intro j hj
       exact hg j (by have:j < l.length:=by simpa using hj
                      omega)
     simp [HI,hnn];refine AB.by (fun _=>none) ?_;simp [results89,hall]
structure Plt where
 cs:List Cel
 bt:Int
 ih:Int
 ia:Int
 vh:Int
 va:Int
 lh:Int
 la:Int
 ph:Int
 pa:Int
deriving DecidableEq
abbrev Cy (p:Plt) (c:V):V:= .agg [c,vi p.bt,vi p.ih,vi p.ia,vi p.vh,vi p.va,vi p.lh,vi p.la,vi p.ph,vi p.pa]
abbrev bkB (p:Int × Int):Bool:=rgB 0 1000000000000 [p.1,p.2]
def Li (p:Plt):List (Int × Int):=[(p.ih,p.ia),(p.vh,p.va),(p.lh,p.la),(p.ph,p.pa)]
def heS (l:List Cel):Int:=(l.map (·.he)).sum
def aiS (l:List Cel):Int:=(l.map (·.ai)).sum
def IR (p:Plt):Bool:=decide (p.cs.length<=12)&&rgB 0 10000000 [p.bt]&&(Li p).all bkB
def Ar (p:Plt):Bool:=IR p&&p.cs.all Je&&decide (p.bt+p.vh+p.lh+p.ph+heS p.cs=p.ih/\p.va+p.la+p.pa+aiS p.cs=p.ia)
theorem Yz {l:List Cel} {i:Nat} {c:Cel} (h:l[i]?= some c):heS (l.take (i+1))=heS (l.take i)+c.he:=by
 unfold heS;rw [List.take_add_one,h];simp
theorem Y0 {l:List Cel} {i:Nat} {c:Cel} (h:l[i]?= some c):aiS (l.take (i+1))=aiS (l.take i)+c.ai:=by
 unfold aiS;rw [List.take_add_one,h];simp
theorem Y1:∀ {l:List Cel},(∀ c∈l,B5 c)->0<=heS l/\heS l<=l.length*10000000
 | [],_=>by simp [heS]
 | c::l,h=>by
   have h1:=(h c (by simp)).he;have h2:=Y1 (l:=l) fun x hx=>h x (by simp [hx])
   unfold heS at h2 ⊢;simp only [List.map_cons,List.sum_cons,List.length_cons];omega
theorem Y2:∀ {l:List Cel},(∀ c∈l,B5 c)->0<=aiS l/\aiS l<=l.length*10000000
 | [],_=>by simp [aiS]
 | c::l,h=>by
   have h1:=(h c (by simp)).ai;have h2:=Y2 (l:=l) fun x hx=>h x (by simp [hx])
   unfold aiS at h2 ⊢;simp only [List.map_cons,List.sum_cons,List.length_cons];omega
theorem TI (a b c d:Int) (h1:IntKind.wrap .i64 (a+c)=a+c) (h2:IntKind.wrap .i64 (b+d)=b+d):Ct prog 115 [vsp a b,vsp c d] (vsp (a+c) (b+d)) []:=by
 refine CB func115 qO (by simp [ntmps115]) fun E hE=>?_
 simp [p115,AA,h1,h2];refine AB.by (fun _=>none) ?_;simp [results115]
theorem pD (p:Int × Int):Ct prog 114 [cr p] (vb (!bkB p)) []:=by
 have c1:=Bq 0 1000000000000 [p.1,p.2] (by simp);refine CB func114 c114 (by simp [ntmps114]) fun E hE=>?_
 simp [p114,AA,AM];refine CLb (c1) (by simp [Ap]) ?_;simp;refine AB.by (fun _=>none) ?_;simp [results114]
def bkI (p:Plt):Nat->Int × Int
 | 0=>(p.bt,0)
 | 1=>(p.bt+p.vh,p.va)
 | 2=>(p.bt+p.vh+p.lh,p.va+p.la)
 | _=>(p.bt+p.vh+p.lh+p.ph,p.va+p.la+p.pa)
theorem ah {H:Hp} {id:Nat} {p:Plt} (h:H id=some [vi p.ih,vi p.ia,vi p.vh,vi p.va,vi p.lh,vi p.la,vi p.ph,vi p.pa]):Bor H (.ls id 0 4 2) (.d (An (Li p))):=by
 rw [Bk];exact ⟨rfl,rfl,by simp [Li],_,h,rfl⟩
theorem K9 {p:Plt} (h:(Li p).all bkB=true):(0<=p.ih/\p.ih<=1000000000000)/\(0<=p.ia/\p.ia<=1000000000000)/\(0<=p.vh/\p.vh<=1000000000000)/\(0<=p.va/\p.va<=1000000000000)/\(0<=p.lh/\p.lh<=1000000000000)/\(0<=p.la/\p.la<=1000000000000)/\(0<=p.ph/\p.ph<=1000000000000)/\(0<=p.pa/\p.pa<=1000000000000):=by
 unfold Li at h;simp [rgB] at h;omega
set_option maxRecDepth 20000 in
set_option maxHeartbeats 4000000 in
theorem Vy (p:Plt) (hl:p.cs.length<=12) (hb:IR p=true) {E:Ent} (hE:∀ i,¬ E.stab i):∀ i:Nat,(i<=p.cs.length/\∀ c∈p.cs.take i,B5 c)->PW prog tys eqs E PT
   (DP (fun st'=>∃ k,(k<=p.cs.length/\∀ c∈p.cs.take k,B5 c)/\p.cs.length - k < p.cs.length - i/\AI prog E st' ⟨AO [(1, .lp 0 0),(4, .lp 2 0),(48, .d (AX p.cs)),(49,vi p.cs.length),(50,vi k)],lk [(0,[.d (AX p.cs),vi p.bt,vi p.ih,vi p.ia,vi p.vh,vi p.va,vi p.lh,vi p.la,vi p.ph,vi p.pa]),(2,[vi ((bkI p 3).1+heS (p.cs.take k)),vi ((bkI p 3).2+aiS (p.cs.take k))])],3⟩)
     (exC prog E (dL tys f53 (vi (if Ar p then 0 else 32)) []) 2 (fun _:Unit=>⟨AO [(1, .lp 0 0),(4, .lp 2 0)],lk [(0,[.d (AX p.cs),vi p.bt,vi p.ih,vi p.ia,vi p.vh,vi p.va,vi p.lh,vi p.la,vi p.ph,vi p.pa]),(2,[vi ((bkI p 3).1+heS p.cs),vi ((bkI p 3).2+aiS p.cs)])],3⟩) (fun _=>∀ c∈p.cs,B5 c)))
   ⟨AO [(1, .lp 0 0),(4, .lp 2 0),(48, .d (AX p.cs)),(49,vi p.cs.length),(50,vi i)],lk [(0,[.d (AX p.cs),vi p.bt,vi p.ih,vi p.ia,vi p.vh,vi p.va,vi p.lh,vi p.la,vi p.ph,vi p.pa]),(2,[vi ((bkI p 3).1+heS (p.cs.take i)),vi ((bkI p 3).2+aiS (p.cs.take i))])],3⟩:=by
 rintro i ⟨hi,hcs⟩
 have hbk:=K9 (p:=p) (by unfold IR at hb;simp at hb;simpa using hb.2);have hbt:0<=p.bt/\p.bt<=10000000:=by unfold IR at hb;simp [rgB] at hb;omega
 by_cases h:i < p.cs.length
 . obtain ⟨c,hc⟩:∃ c,p.cs[i]?= some c:=⟨_,List.getElem?_eq_getElem h⟩
   have hz:IntKind.wrap .i64 ((i:Int)+1)=((i+1:Nat):Int):=by rw [AD (by omega) (by omega)];omega
   have hI:(i:Int) < p.cs.length:=by omega
   have c1:=ir c;cases hok:Je c
   . have hbad:Ar p=false:=by
       unfold Ar
       have:p.cs.all Je=false:=by
         rw [List.all_eq_false];exact ⟨c,List.mem_of_getElem? hc,by simp [hok]⟩
       simp [this]
     rw [hok] at c1;simp [PT,hI,hc,AA];refine CLa (c1) ?_;simp;refine AB.by (fun _=>none) ?_;simp [results53,hbad]
   . rw [hok] at c1
     have hcb:=Dm.1 hok;have hx:=hcb.he;have hy:=hcb.ai;have e1:=Yz hc;have e2:=Y0 hc;have b1:=Y1 hcs;have b2:=Y2 hcs;have hlen:((p.cs.take i).length:Int)<=12:=by simp;omega
     obtain ⟨X,hX⟩:∃ X,(bkI p 3).1+heS (p.cs.take i)=X:=⟨_,rfl⟩
     obtain ⟨Y,hY⟩:∃ Y,(bkI p 3).2+aiS (p.cs.take i)=Y:=⟨_,rfl⟩
     have q1:(bkI p 3).1=p.bt+p.vh+p.lh+p.ph:=rfl;have q2:(bkI p 3).2=p.va+p.la+p.pa:=rfl;have c2:=TI X Y c.he c.ai (AD (by omega) (by omega)) (AD (by omega) (by omega));have z1:(bkI p 3).1+heS (p.cs.take (i+1))=X+c.he:=by omega
     have z2:(bkI p 3).2+aiS (p.cs.take (i+1))=Y+c.ai:=by omega
     rw [hX,hY];simp [PT,hI,hc,AA];refine CLa (c1) ?_;simp [AA];refine CLa (c2) ?_;simp [AA,hz];refine ⟨i+1,⟨by omega,?_⟩,by omega,?_⟩
     . intro d hd
       rw [List.take_add_one,hc] at hd;simp only [List.mem_append,Option.toList_some,List.mem_singleton] at hd;rcases hd with hd | rfl
       . exact hcs d hd
       . exact hcb
     . rw [z1,z2]
       refine AI.mk hE (lk [(0,0),(2,2)]) _ _ _ ?_ ?_ ?_ ?_ ?_<;>simp
 . have e:i=p.cs.length:=by omega
   rw [e,List.take_length] at hcs;rw [e,List.take_length];simp [PT];refine ⟨hcs,?_⟩;refine AI.mk hE (lk [(0,0),(2,2)]) _ _ _ ?_ ?_ ?_ ?_ ?_<;>simp
set_option maxRecDepth 20000 in
set_option maxHeartbeats 4000000 in
theorem Ef (p:Plt) (hl:p.cs.length<=1000000000):Ct prog 53 [Cy p (.d (AX p.cs))] (vi (if Ar p then 0 else 32)) []:=by
 have c1:=Bq 0 10000000 [p.bt] (by simp);have c2:=rK (Li p) 114 [] (fun x=>!bkB x) (by simp [Li]) fun x _=>pD x
 rw [Sa] at c2;by_cases hlen:p.cs.length<=12
 case neg=>
   have hI:(12:Int) < p.cs.length:=by omega
   have hbad:Ar p=false:=by simp [Ar,IR,hlen]
   refine CB func53 c53 (by simp [ntmps53]) fun E hE=>?_
   simp [p53,AA,AM,hI];refine AB.by (fun _=>none) ?_;simp [results53,hbad]
 have hI:¬ (12:Int) < p.cs.length:=by omega
 have hI2:(p.cs.length:Int)<=12:=by omega
 cases h1:rgB 0 10000000 [p.bt]
 . have hbad:Ar p=false:=by simp [Ar,IR,h1]
   rw [h1] at c1;refine CB func53 c53 (by simp [ntmps53]) fun E hE=>?_
   simp [p53,AA,AM,hI];refine CLb (c1) (by simp [AG]) ?_;simp;refine AB.by (fun _=>none) ?_;simp [results53,hbad]
 rw [h1] at c1;cases h2:(Li p).all bkB
 . have hbad:Ar p=false:=by simp [Ar,IR,h2]
   rw [h2] at c2;refine CB func53 c53 (by simp [ntmps53]) fun E hE=>?_
   simp [p53,AA,AM,hI];refine CLb (c1) (by simp [AG]) ?_;simp;refine CLb (c2) (by simp [ah]) ?_;simp;refine AB.by (fun _=>none) ?_;simp [results53,hbad]
 rw [h2] at c2;have hb:IR p=true:=by simp [IR,hlen,h1,h2]
 have hbk:=K9 h2;have hbt:0<=p.bt/\p.bt<=10000000:=by simp [rgB] at h1;omega
 have ww1:IntKind.wrap .i64 1=1:=by decide
 have ww2:IntKind.wrap .i64 2=2:=by decide
 have ww3:IntKind.wrap .i64 3=3:=by decide
 refine CB func53 c53 (by simp [ntmps53]) fun E hE=>?_
 simp [p53,AA,AM,hI];refine CLb (c1) (by simp [AG]) ?_;simp;refine CLb (c2) (by simp [ah]) ?_;simp [AA];refine BL (α:=Nat) 0 (fun _:Unit=>⟨AO [(1, .lp 0 0),(4, .lp 2 0)],lk [(0,[.d (AX p.cs),vi p.bt,vi p.ih,vi p.ia,vi p.vh,vi p.va,vi p.lh,vi p.la,vi p.ph,vi p.pa]),(2,[vi (bkI p 3).1,vi (bkI p 3).2])],3⟩) (fun _=>True) (fun k=>⟨AO [(1, .lp 0 0),(4, .lp 2 0),(37, .ls 1 2 3 2),(38,vi 3),(39,vi k)],lk [(0,[.d (AX p.cs),vi p.bt,vi p.ih,vi p.ia,vi p.vh,vi p.va,vi p.lh,vi p.la,vi p.ph,vi p.pa]),(1,[vi p.ih,vi p.ia,vi p.vh,vi p.va,vi p.lh,vi p.la,vi p.ph,vi p.pa]),(2,[vi (bkI p k).1,vi (bkI p k).2])],3⟩) (fun k=>k<=3) (fun k=>3 - k) 0 ?_ ?_ ?_ fun _ _=>?_
 . omega
 . refine AI.mk hE (lk [(0,0),(1,10485760),(2,31457280)]) _ _ _ ?_ ?_ ?_ ?_ ?_<;>simp [bkI]
 . intro i hi
   match i,hi with
   | 0,_=>
     have d:=TI p.bt 0 p.vh p.va (AD (by omega) (by omega)) (AD (by omega) (by omega));simp [PS,AA,bkI];refine CLa (d) ?_;simp [AA];refine ⟨1,by omega,by omega,?_⟩;refine AI.mk hE (lk [(0,0),(1,1),(2,2)]) _ _ _ ?_ ?_ ?_ ?_ ?_<;>simp [ww1]
   | 1,_=>
     have d:=TI (p.bt+p.vh) p.va p.lh p.la (AD (by omega) (by omega)) (AD (by omega) (by omega));simp [PS,AA,bkI];refine CLa (d) ?_;simp [AA];refine ⟨2,by omega,by omega,?_⟩;refine AI.mk hE (lk [(0,0),(1,1),(2,2)]) _ _ _ ?_ ?_ ?_ ?_ ?_<;>simp [ww2]
   | 2,_=>
     have d:=TI (p.bt+p.vh+p.lh) (p.va+p.la) p.ph p.pa (AD (by omega) (by omega)) (AD (by omega) (by omega));simp [PS,AA,bkI];refine CLa (d) ?_;simp [AA];refine ⟨3,by omega,by omega,?_⟩;refine AI.mk hE (lk [(0,0),(1,1),(2,2)]) _ _ _ ?_ ?_ ?_ ?_ ?_<;>simp [ww3]
   | 3,_=>
     simp [PS];refine AI.mk hE (lk [(0,0),(2,2)]) _ _ _ ?_ ?_ ?_ ?_ ?_<;>simp
   | i+4,hi=>omega
 . simp
   refine BL (α:=Nat) 2 (fun _:Unit=>⟨AO [(1, .lp 0 0),(4, .lp 2 0)],lk [(0,[.d (AX p.cs),vi p.bt,vi p.ih,vi p.ia,vi p.vh,vi p.va,vi p.lh,vi p.la,vi p.ph,vi p.pa]),(2,[vi ((bkI p 3).1+heS p.cs),vi ((bkI p 3).2+aiS p.cs)])],3⟩) (fun _=>∀ c∈p.cs,B5 c) (fun k=>⟨AO [(1, .lp 0 0),(4, .lp 2 0),(48, .d (AX p.cs)),(49,vi p.cs.length),(50,vi k)],lk [(0,[.d (AX p.cs),vi p.bt,vi p.ih,vi p.ia,vi p.vh,vi p.va,vi p.lh,vi p.la,vi p.ph,vi p.pa]),(2,[vi ((bkI p 3).1+heS (p.cs.take k)),vi ((bkI p 3).2+aiS (p.cs.take k))])],3⟩) (fun k=>k<=p.cs.length/\∀ c∈p.cs.take k,B5 c) (fun k=>p.cs.length - k) 0 ?_ ?_ (Vy p hlen hb hE) fun _ hcs=>?_
   . simp
   . refine AI.mk hE (lk [(0,0),(2,2)]) _ _ _ ?_ ?_ ?_ ?_ ?_<;>simp [heS,aiS]
   . have hall:p.cs.all Je=true:=by
       rw [List.all_eq_true];exact fun c hc=>Dm.2 (hcs c hc)
     have q1:(bkI p 3).1=p.bt+p.vh+p.lh+p.ph:=rfl;have q2:(bkI p 3).2=p.va+p.la+p.pa:=rfl;rw [q1,q2];have e:Ar p=decide (p.bt+p.vh+p.lh+p.ph+heS p.cs=p.ih/\p.va+p.la+p.pa+aiS p.cs=p.ia):=by simp [Ar,hb,hall]
     by_cases hq:p.bt+p.vh+p.lh+p.ph+heS p.cs=p.ih/\p.va+p.la+p.pa+aiS p.cs=p.ia
     . rw [decide_eq_true hq] at e
       simp [hq];refine AB.by (fun _=>none) ?_;simp [results53,e]
     . rw [decide_eq_false hq] at e
       have hd:(!decide (p.bt+p.vh+p.lh+p.ph+heS p.cs=p.ih)||!decide (p.va+p.la+p.pa+aiS p.cs=p.ia))=true:=by simp;omega
       simp [hd];refine AB.by (fun _=>none) ?_;simp [results53,e]
set_option maxHeartbeats 4000000 in
set_option maxRecDepth 20000 in
theorem qm (l:List (Int × Int)) (g:FuncId) (ds:List D) (q:(Int × Int)->Bool) (hl:l.length<=1000000000) (hg:∀ p∈l,Ct prog g (vsp p.1 p.2::ds.map .d) (vb (q p)) []):Ct prog 163 [.d (An l), .d (.fn g ds)] (vb (l.all q)) []:=by
 refine CB func163 c163 (by simp [ntmps163]) fun E hE=>?_
 simp [p163];refine Al (α:=Nat) (fun i=>⟨AO [(1, .d (.fn g ds)),(7, .d (An l)),(8,vi l.length),(9,vi i)],lk [],0⟩) (fun i=>i<=l.length/\∀ j,j < i->(l[j]?).all q=true) (fun i=>l.length - i) 0 ?_ ?_ ?_
 . exact ⟨by omega,fun j hj=>by omega⟩
 . refine AI.mk hE (lk []) _ _ _ ?_ ?_ ?_ ?_ ?_<;>simp
 . rintro i ⟨hi,hg3⟩
   have hz:IntKind.wrap .i64 ((i:Int)+1)=((i+1:Nat):Int):=by rw [AD (by omega) (by omega)];omega
   by_cases h:i < l.length
   . have hI:(i:Int) < l.length:=by omega
     obtain ⟨p,hp⟩:∃ p,l[i]?= some p:=⟨_,List.getElem?_eq_getElem h⟩
     simp [SE,hI,hp,AA];refine CLa (hg p (List.mem_of_getElem? hp)) ?_;cases hq:q p
     . have e:l.all q=false:=by rw [List.all_eq_false];exact ⟨p,List.mem_of_getElem? hp,by simp [hq]⟩
       simp;refine AB.by (fun _=>none) ?_;simp [results163,e]
     . simp [hz]
       refine ⟨i+1,⟨by omega,fun j hj=>?_⟩,by omega,?_⟩
       . by_cases e:j=i
         . subst e;rw [hp];simp [hq]
         . exact hg3 j (by omega)
       . refine AI.mk hE (lk []) _ _ _ ?_ ?_ ?_ ?_ ?_<;>simp
   . have hI:¬ (i:Int) < l.length:=by omega
     have e:l.all q=true:=by
       rw [List.all_eq_true];intro x hx;obtain ⟨j,hj⟩:=List.getElem?_of_mem hx;have:=hg3 j (by have:=(List.getElem?_eq_some_iff.1 hj).1;omega);rw [hj] at this;simpa using this
     simp [SE,hI];refine AB.by (fun _=>none) ?_;simp [results163,e]
theorem qn (lo hi:Int) (s:Int × Int):Ct prog 164 [vsp s.1 s.2, .d (.ref [di lo]), .d (.ref [di hi])] (vb (spB lo hi s.1 s.2)) []:=by
 have c:=Pw lo hi [s.1,s.2] (by simp);by_cases h:s.1<=s.2
 . have e:spB lo hi s.1 s.2=rgB lo hi [s.1,s.2]:=by unfold spB;simp [h]
   refine CB func164 qW (by simp [ntmps164]) fun E hE=>?_
   simp [p164,AA,AM,h];refine CLb (c) (by simp [Ap]) ?_;simp;refine AB.by (fun _=>none) ?_;simp [results164,e]
 . have e:spB lo hi s.1 s.2=false:=by unfold spB;simp [h]
   refine CB func164 qW (by simp [ntmps164]) fun E hE=>?_
   simp [p164,h];refine AB.by (fun _=>none) ?_;simp [results164,e]
theorem Lo (lo hi:Int) (l:List (Int × Int)) (hl:l.length<=1000000):Ct prog 90 [vi lo,vi hi, .d (An l)] (vb (l.all fun s=>spB lo hi s.1 s.2)) []:=by
 have c:=qm l 164 [.ref [di lo], .ref [di hi]] (fun s=>spB lo hi s.1 s.2) (by omega) fun s _=>qn lo hi s
 refine CB func90 c90 (by simp [ntmps90]) fun E hE=>?_
 simp [p90];refine CLa (c) ?_;simp;refine AB.by (fun _=>none) ?_;simp [results90]
theorem fn69 (a b:Int):Ct prog 69 [.d (Ch [a,b])] (vi (if a=0 then b else a)) []:=by
 have ww1:IntKind.wrap .i64 1=1:=by decide
 have ww2:IntKind.wrap .i64 2=2:=by decide
 refine CB func69 c69 (by simp [ntmps69]) fun E hE=>?_
 simp [p69];refine Al (α:=Nat) (fun k=>⟨AO [(5, .d (Ch [a,b])),(6,vi 2),(7,vi k)],lk [],0⟩) (fun k=>k<=2/\(0 < k->a=0)/\(1 < k->b=0)) (fun k=>2 - k) 0 ?_ ?_ ?_
 . omega
 . refine AI.mk hE (lk []) _ _ _ ?_ ?_ ?_ ?_ ?_<;>simp
 . rintro i ⟨hi,h1,h2⟩
   match i,hi,h1,h2 with
   | 0,_,_,_=>
     by_cases h:a=0
     . simp [D1,h,ww1]
       refine ⟨1,⟨by omega,by omega⟩,by omega,?_⟩;refine AI.mk hE (lk []) _ _ _ ?_ ?_ ?_ ?_ ?_<;>simp
     . simp [D1,h]
       refine AB.by (fun _=>none) ?_;simp [results69]
   | 1,_,h1,_=>
     have h1:=h1 (by omega);by_cases h:b=0
     . simp [D1,h,ww2]
       refine ⟨2,?_,by omega,?_⟩
       . simp [h1]
       refine AI.mk hE (lk []) _ _ _ ?_ ?_ ?_ ?_ ?_<;>simp
     . simp [D1,h]
       refine AB.by (fun _=>none) ?_;simp [results69,h1]
   | 2,_,h1,h2=>
     have h1:=h1 (by omega);have h2:=h2 (by omega);simp [D1];refine AB.by (fun _=>none) ?_;simp [results69,h1,h2]
   | i+3,hi,_,_=>omega
structure Sky where
 s:List Lev
 w:List Gal
abbrev Eu (k:Sky):V:= .agg [.d (BF k.s), .d (C2 k.w)]
def BV (k:Sky):Bool:=decide ((D3 k.s).2.2=0)&&Dr k.w
theorem g0 (k:Sky) (h1:k.s.length<=1000000) (h2:k.w.length<=1000000):Ct prog 32 [Eu k] (vi (if BV k then 0 else 50)) []:=by
 have c1:=mM k.s h1;have c2:=oz k.w h2;have e:BV k=(decide ((D3 k.s).2.2=0)&&Dr k.w):=rfl;unfold gz at c1
 generalize (D3 k.s).2.2=er at*
 by_cases h:er=0
 . cases hw:Dr k.w
   . rw [hw] at c2 e
     refine CB func32 c32 (by simp [ntmps32]) fun E hE=>?_
     simp [p32];refine CLa (c1) ?_;simp [h];refine CLa (c2) ?_;simp;refine AB.by (fun _=>none) ?_;simp [results32,e]
   . rw [hw] at c2 e
     refine CB func32 c32 (by simp [ntmps32]) fun E hE=>?_
     simp [p32];refine CLa (c1) ?_;simp [h];refine CLa (c2) ?_;simp;refine AB.by (fun _=>none) ?_;simp [results32,e,h]
 . refine CB func32 c32 (by simp [ntmps32]) fun E hE=>?_
   simp [p32];refine CLa (c1) ?_;simp [h];refine AB.by (fun _=>none) ?_;simp [results32,e,h]
structure Shp where
 xl:Int
 xh:Int
 yl:Int
 yh:Int
 hl:Int
 hh:Int
 fl:Int
 fh:Int
 wl:Int
 wh:Int
 bl:Int
 bh:Int
 dry:Int
 bal:Int
 drp:Int
 gas:Plt
abbrev Cl (s:Shp) (c:V):V:= .agg [vi s.xl,vi s.xh,vi s.yl,vi s.yh,vi s.hl,vi s.hh,vi s.fl,vi s.fh,vi s.wl,vi s.wh,vi s.bl,vi s.bh,vi s.dry,vi s.bal,vi s.drp,c,vi s.gas.bt,vi s.gas.ih,vi s.gas.ia,vi s.gas.vh,vi s.gas.va,vi s.gas.lh,vi s.gas.la,vi s.gas.ph,vi s.gas.pa]
def A6 (s:Shp):Bool:=(spB (-10000000) 10000000 s.xl s.xh&&spB (-10000000) 10000000 s.yl s.yh)&&spB (-500) 9000 s.hl s.hh&&(spB 0 1000000000 s.fl s.fh&&spB 0 1000000000 s.wl s.wh)&&spB 0 1000000000000 s.bl s.bh&&rgB 0 1000000000 [s.dry,s.bal]&&rgB 0 1000000000000 [s.drp]&&Ar s.gas
theorem AN {H:Hp} {id:Nat} {a b:Int} (h:H id=some [vi a,vi b]):Bor H (.ls id 0 1 2) (.d (An [(a,b)])):=by
 rw [Bk];exact ⟨rfl,rfl,by simp,_,h,rfl⟩
set_option maxRecDepth 20000 in
set_option maxHeartbeats 8000000 in
theorem qF (s:Shp) (hl:s.gas.cs.length<=1000000000):Ct prog 36 [Cl s (.d (AX s.gas.cs))] (vi (if A6 s then 0 else 52)) []:=by
 have c1:=Lo (-10000000) 10000000 [(s.xl,s.xh),(s.yl,s.yh)] (by simp);have c2:=Lo (-500) 9000 [(s.hl,s.hh)] (by simp);have c3:=Lo 0 1000000000 [(s.fl,s.fh),(s.wl,s.wh)] (by simp);have c4:=Lo 0 1000000000000 [(s.bl,s.bh)] (by simp);have c5:=Pw 0 1000000000 [s.dry,s.bal] (by simp);have c6:=Pw 0 1000000000000 [s.drp] (by simp);have c7:=Ef s.gas hl;simp only [List.all_cons,List.all_nil,Bool.and_true] at c1 c2 c3 c4;have e:A6 s=((spB (-10000000) 10000000 s.xl s.xh&&spB (-10000000) 10000000 s.yl s.yh)&&spB (-500) 9000 s.hl s.hh&&(spB 0 1000000000 s.fl s.fh&&spB 0 1000000000 s.wl s.wh)&&spB 0 1000000000000 s.bl s.bh&&rgB 0 1000000000 [s.dry,s.bal]&&rgB 0 1000000000000 [s.drp]&&Ar s.gas):=rfl
 generalize (spB (-10000000) 10000000 s.xl s.xh&&spB (-10000000) 10000000 s.yl s.yh)=b1 at*
 generalize spB (-500) 9000 s.hl s.hh=b2 at*
 generalize (spB 0 1000000000 s.fl s.fh&&spB 0 1000000000 s.wl s.wh)=b3 at*
 generalize spB 0 1000000000000 s.bl s.bh=b4 at*
 generalize rgB 0 1000000000 [s.dry,s.bal]=b5 at*
 generalize rgB 0 1000000000000 [s.drp]=b6 at*
 generalize Ar s.gas=b7 at*
 rw [e];cases b1
 . refine CB func36 c36 (by simp [ntmps36]) fun E hE=>?_
   simp [p36,AA,AM]
   repeat ((first | (refine CLr (c1) ?_ ?_ ?_;(focus (simp [AQ];done));(focus (first | (left;simp;done) | (right;simp;done)))) | (refine CLr (c2) ?_ ?_ ?_;(focus (simp [AG,Ap,AN,AQ];done));(focus (first | (left;simp;done) | (right;simp;done)))) | (refine CLr (c3) ?_ ?_ ?_;(focus (simp [AG,Ap,AN,AQ];done));(focus (first | (left;simp;done) | (right;simp;done)))) | (refine CLr (c4) ?_ ?_ ?_;(focus (simp [AG,Ap,AN,AQ];done));(focus (first | (left;simp;done) | (right;simp;done)))) | (refine CLr (c5) ?_ ?_ ?_;(focus (simp [AG,Ap,AN,AQ];done));(focus (first | (left;simp;done) | (right;simp;done)))) | (refine CLr (c6) ?_ ?_ ?_;(focus (simp [AG,Ap,AN,AQ];done));(focus (first | (left;simp;done) | (right;simp;done)))) | (refine CLr (c7) ?_ ?_ ?_;(focus (simp [AG,Ap,AN,AQ];done));(focus (first | (left;simp;done) | (right;simp;done)))));simp)
   refine AB.by (fun _=>none) ?_;simp [results36]
 cases b2
 . refine CB func36 c36 (by simp [ntmps36]) fun E hE=>?_
   simp [p36,AA,AM]
   repeat ((first | (refine CLr (c1) ?_ ?_ ?_;(focus (simp [AQ];done));(focus (first | (left;simp;done) | (right;simp;done)))) | (refine CLr (c2) ?_ ?_ ?_;(focus (simp [AN];done));(focus (first | (left;simp;done) | (right;simp;done)))) | (refine CLr (c3) ?_ ?_ ?_;(focus (simp [AG,Ap,AN,AQ];done));(focus (first | (left;simp;done) | (right;simp;done)))) | (refine CLr (c4) ?_ ?_ ?_;(focus (simp [AG,Ap,AN,AQ];done));(focus (first | (left;simp;done) | (right;simp;done)))) | (refine CLr (c5) ?_ ?_ ?_;(focus (simp [AG,Ap,AN,AQ];done));(focus (first | (left;simp;done) | (right;simp;done)))) | (refine CLr (c6) ?_ ?_ ?_;(focus (simp [AG,Ap,AN,AQ];done));(focus (first | (left;simp;done) | (right;simp;done)))) | (refine CLr (c7) ?_ ?_ ?_;(focus (simp [AG,Ap,AN,AQ];done));(focus (first | (left;simp;done) | (right;simp;done)))));simp [AA,AM])
   refine AB.by (fun _=>none) ?_;simp [results36]
 cases b3
 . refine CB func36 c36 (by simp [ntmps36]) fun E hE=>?_
   simp [p36,AA,AM]
   repeat ((first | (refine CLr (c1) ?_ ?_ ?_;(focus (simp [AQ];done));(focus (first | (left;simp;done) | (right;simp;done)))) | (refine CLr (c2) ?_ ?_ ?_;(focus (simp [AN];done));(focus (first | (left;simp;done) | (right;simp;done)))) | (refine CLr (c3) ?_ ?_ ?_;(focus (simp [AQ];done));(focus (first | (left;simp;done) | (right;simp;done)))) | (refine CLr (c4) ?_ ?_ ?_;(focus (simp [AG,Ap,AN,AQ];done));(focus (first | (left;simp;done) | (right;simp;done)))) | (refine CLr (c5) ?_ ?_ ?_;(focus (simp [AG,Ap,AN,AQ];done));(focus (first | (left;simp;done) | (right;simp;done)))) | (refine CLr (c6) ?_ ?_ ?_;(focus (simp [AG,Ap,AN,AQ];done));(focus (first | (left;simp;done) | (right;simp;done)))) | (refine CLr (c7) ?_ ?_ ?_;(focus (simp [AG,Ap,AN,AQ];done));(focus (first | (left;simp;done) | (right;simp;done)))));simp [AA,AM])
   refine AB.by (fun _=>none) ?_;simp [results36]
 cases b4
 . refine CB func36 c36 (by simp [ntmps36]) fun E hE=>?_
   simp [p36,AA,AM]
   repeat ((first | (refine CLr (c1) ?_ ?_ ?_;(focus (simp [AQ];done));(focus (first | (left;simp;done) | (right;simp;done)))) | (refine CLr (c2) ?_ ?_ ?_;(focus (simp [AN];done));(focus (first | (left;simp;done) | (right;simp;done)))) | (refine CLr (c3) ?_ ?_ ?_;(focus (simp [AQ];done));(focus (first | (left;simp;done) | (right;simp;done)))) | (refine CLr (c4) ?_ ?_ ?_;(focus (simp [AN];done));(focus (first | (left;simp;done) | (right;simp;done)))) | (refine CLr (c5) ?_ ?_ ?_;(focus (simp [AG,Ap,AN,AQ];done));(focus (first | (left;simp;done) | (right;simp;done)))) | (refine CLr (c6) ?_ ?_ ?_;(focus (simp [AG,Ap,AN,AQ];done));(focus (first | (left;simp;done) | (right;simp;done)))) | (refine CLr (c7) ?_ ?_ ?_;(focus (simp [AG,Ap,AN,AQ];done));(focus (first | (left;simp;done) | (right;simp;done)))));simp [AA,AM])
   refine AB.by (fun _=>none) ?_;simp [results36]
 cases b5
 . refine CB func36 c36 (by simp [ntmps36]) fun E hE=>?_
   simp [p36,AA,AM]
   repeat ((first | (refine CLr (c1) ?_ ?_ ?_;(focus (simp [AQ];done));(focus (first | (left;simp;done) | (right;simp;done)))) | (refine CLr (c2) ?_ ?_ ?_;(focus (simp [AN];done));(focus (first | (left;simp;done) | (right;simp;done)))) | (refine CLr (c3) ?_ ?_ ?_;(focus (simp [AQ];done));(focus (first | (left;simp;done) | (right;simp;done)))) | (refine CLr (c4) ?_ ?_ ?_;(focus (simp [AN];done));(focus (first | (left;simp;done) | (right;simp;done)))) | (refine CLr (c5) ?_ ?_ ?_;(focus (simp [Ap];done));(focus (first | (left;simp;done) | (right;simp;done)))) | (refine CLr (c6) ?_ ?_ ?_;(focus (simp [AG,Ap,AN,AQ];done));(focus (first | (left;simp;done) | (right;simp;done)))) | (refine CLr (c7) ?_ ?_ ?_;(focus (simp [AG,Ap,AN,AQ];done));(focus (first | (left;simp;done) | (right;simp;done)))));simp [AA,AM])
   refine AB.by (fun _=>none) ?_;simp [results36]
 cases b6
 . refine CB func36 c36 (by simp [ntmps36]) fun E hE=>?_
   simp [p36,AA,AM]
   repeat ((first | (refine CLr (c1) ?_ ?_ ?_;(focus (simp [AQ];done));(focus (first | (left;simp;done) | (right;simp;done)))) | (refine CLr (c2) ?_ ?_ ?_;(focus (simp [AN];done));(focus (first | (left;simp;done) | (right;simp;done)))) | (refine CLr (c3) ?_ ?_ ?_;(focus (simp [AQ];done));(focus (first | (left;simp;done) | (right;simp;done)))) | (refine CLr (c4) ?_ ?_ ?_;(focus (simp [AN];done));(focus (first | (left;simp;done) | (right;simp;done)))) | (refine CLr (c5) ?_ ?_ ?_;(focus (simp [Ap];done));(focus (first | (left;simp;done) | (right;simp;done)))) | (refine CLr (c6) ?_ ?_ ?_;(focus (simp [AG];done));(focus (first | (left;simp;done) | (right;simp;done)))) | (refine CLr (c7) ?_ ?_ ?_;(focus (simp [AG,Ap,AN,AQ];done));(focus (first | (left;simp;done) | (right;simp;done)))));simp [AA,AM])
   refine AB.by (fun _=>none) ?_;simp [results36]
 cases b7
 . refine CB func36 c36 (by simp [ntmps36]) fun E hE=>?_
   simp [p36,AA,AM]
   repeat ((first | (refine CLr (c1) ?_ ?_ ?_;(focus (simp [AQ];done));(focus (first | (left;simp;done) | (right;simp;done)))) | (refine CLr (c2) ?_ ?_ ?_;(focus (simp [AN];done));(focus (first | (left;simp;done) | (right;simp;done)))) | (refine CLr (c3) ?_ ?_ ?_;(focus (simp [AQ];done));(focus (first | (left;simp;done) | (right;simp;done)))) | (refine CLr (c4) ?_ ?_ ?_;(focus (simp [AN];done));(focus (first | (left;simp;done) | (right;simp;done)))) | (refine CLr (c5) ?_ ?_ ?_;(focus (simp [Ap];done));(focus (first | (left;simp;done) | (right;simp;done)))) | (refine CLr (c6) ?_ ?_ ?_;(focus (simp [AG];done));(focus (first | (left;simp;done) | (right;simp;done)))) | (refine CLr (c7) ?_ ?_ ?_;(focus (simp;done));(focus (first | (left;simp;done) | (right;simp;done)))));simp [AA,AM])
   refine AB.by (fun _=>none) ?_;simp [results36]
 . refine CB func36 c36 (by simp [ntmps36]) fun E hE=>?_
   simp [p36,AA,AM]
   repeat ((first | (refine CLr (c1) ?_ ?_ ?_;(focus (simp [AQ];done));(focus (first | (left;simp;done) | (right;simp;done)))) | (refine CLr (c2) ?_ ?_ ?_;(focus (simp [AN];done));(focus (first | (left;simp;done) | (right;simp;done)))) | (refine CLr (c3) ?_ ?_ ?_;(focus (simp [AQ];done));(focus (first | (left;simp;done) | (right;simp;done)))) | (refine CLr (c4) ?_ ?_ ?_;(focus (simp [AN];done));(focus (first | (left;simp;done) | (right;simp;done)))) | (refine CLr (c5) ?_ ?_ ?_;(focus (simp [Ap];done));(focus (first | (left;simp;done) | (right;simp;done)))) | (refine CLr (c6) ?_ ?_ ?_;(focus (simp [AG];done));(focus (first | (left;simp;done) | (right;simp;done)))) | (refine CLr (c7) ?_ ?_ ?_;(focus (simp;done));(focus (first | (left;simp;done) | (right;simp;done)))));simp [AA,AM])
   refine AB.by (fun _=>none) ?_;simp [results36]
theorem qw (a b c d:Int) (h: -100000<=a/\a<=100000) (h1: -100000<=b/\b<=100000) (h2: -100000<=c/\c<=100000) (h3: -100000<=d/\d<=100000):Ct prog 190 [vsp a b,vsp c d] (vsp (a+c) (b+d)) []:=by
 have w1:IntKind.wrap .i64 (a+c)=a+c:=AD (by omega) (by omega);have w2:IntKind.wrap .i64 (b+d)=b+d:=AD (by omega) (by omega);refine CB func190 c190 (by simp [ntmps190]) fun E hE=>?_
 simp [p190,AA,w1,w2];refine AB.by (fun _=>none) ?_;simp [results190]
abbrev putV (c:Cel) (a:Atm):V:= .agg [vi c.rm,vi c.he,vi c.ai,vi c.wl,vi c.wh,vi c.lk,vi c.ow,vi a.pl,vi a.ph,vi a.tl,vi a.th,vi (am c),vi (a.tl+c.wl),vi (a.th+c.wh)]
set_option maxRecDepth 20000 in
theorem jS (c:Cel) (a:Atm) (hc:B5 c) (ha:Fx a):Ct prog 123 [Ky c,Ox a] (.tup [putV c a,vi 0]) []:=by
 have c1:=ir c;have c2:=pO a;rw [Dm.2 hc] at c1;rw [VN.2 ha] at c2;have h1:=hc.he;have h2:=hc.ai;have h3:=hc.w;have h4:=ha.t;have c3:=qw a.tl a.th c.wl c.wh (by omega) (by omega) (by omega) (by omega);have w:IntKind.wrap .i64 (c.he+c.ai)=am c:=by unfold am;exact AD (by omega) (by omega)
 refine CB func123 c123 (by simp [ntmps123]) fun E hE=>?_
 simp [p123];refine CLa (c1) ?_;simp [w,inC,Nat.testBit];refine CLa (c3) ?_;simp [AA,inC,Nat.testBit];refine CLa (c2) ?_;simp [AA];refine AB.by (fun _=>none) ?_;simp [results123]
theorem mO {c:Cel} {a:Atm} (hc:B5 c) (ha:Fx a):(0<=am c*(a.th+c.wh)/\am c*(a.th+c.wh)<=1000000000000)/\(0<=am c*(a.tl+c.wl)/\am c*(a.tl+c.wl)<=1000000000000)/\(0<=c.rm*a.pl/\c.rm*a.pl<=1000000000000)/\0<=c.rm*a.ph/\c.rm*a.ph<=1000000000000:=by
 have h1:=ig hc;have h2:=hc.w;have h3:=ha.t;have h4:=ha.p;have h5:=hc.rm;have m1:=Kh (x:=am c) (y:=a.th+c.wh) (X:=20000000) (Y:=5000) (by omega) (by omega);have m2:=Kh (x:=am c) (y:=a.tl+c.wl) (X:=20000000) (Y:=5000) (by omega) (by omega);have m3:=Kh (x:=c.rm) (y:=a.pl) (X:=10000000) (Y:=12000) (by omega) (by omega);have m4:=Kh (x:=c.rm) (y:=a.ph) (X:=10000000) (Y:=12000) (by omega) (by omega);have p1:0<=am c*(a.th+c.wh):=Int.mul_nonneg h1.1 (by omega);have p2:0<=am c*(a.tl+c.wl):=Int.mul_nonneg h1.1 (by omega);have p3:0<=c.rm*a.pl:=Int.mul_nonneg (by omega) (by omega);have p4:0<=c.rm*a.ph:=Int.mul_nonneg (by omega) (by omega);omega
abbrev vu8 (n:Int):V:= .d (.lit (.int .u8 n))
set_option maxRecDepth 20000 in
theorem fn58 (c:Cel) (a:Atm) (hc:B5 c) (ha:Fx a):Ct prog 58 [Ky c,Ox a] (.tup [vu8 (Lh c a),vi 0]) []:=by
 have c1:=jS c a hc ha;have b:=mO hc ha;have w1:IntKind.wrap .i64 (am c*(a.th+c.wh))=am c*(a.th+c.wh):=AD (by omega) (by omega);have w2:IntKind.wrap .i64 (am c*(a.tl+c.wl))=am c*(a.tl+c.wl):=AD (by omega) (by omega);have w3:IntKind.wrap .i64 (c.rm*a.pl)=c.rm*a.pl:=AD (by omega) (by omega);have w4:IntKind.wrap .i64 (c.rm*a.ph)=c.rm*a.ph:=AD (by omega) (by omega);by_cases h1:am c*(a.th+c.wh)<=c.rm*a.pl
 . refine CB func58 c58 (by simp [ntmps58]) fun E hE=>?_
   simp [p58];refine CLa (c1) ?_;simp [AA,w1,w3,h1];refine AB.by (fun _=>none) ?_;simp [results58,Lh,h1]
 . by_cases h2:c.rm*a.ph < am c*(a.tl+c.wl)
   . refine CB func58 c58 (by simp [ntmps58]) fun E hE=>?_
     simp [p58];refine CLa (c1) ?_;simp [AA,w1,w2,w3,w4,h1,h2];refine AB.by (fun _=>none) ?_;simp [results58,Lh,h1,h2]
   . refine CB func58 c58 (by simp [ntmps58]) fun E hE=>?_
     simp [p58];refine CLa (c1) ?_;simp [AA,w1,w2,w3,w4,h1,h2];refine AB.by (fun _=>none) ?_;simp [results58,Lh,h1,h2]
abbrev prL (r:Int × Int):List D:=[di r.1,di r.2]
def Bj (c:Cel) (w:Int) (t:Int):Int × Int:=(29*am c*w,t)
theorem KP {c:Cel} (hc:B5 c) {w:Int} (hw: -300<=w/\w<=300):(-1000000000<=29*am c/\29*am c<=1000000000)/\ -1000000000000<=29*am c*w/\29*am c*w<=1000000000000:=by
 have h1:=ig hc;have:=Kh (x:=29*am c) (y:=w) (X:=1000000000) (Y:=300) (by omega) (by omega);omega
def ET (c:Cel) (a:Atm) (w:Int) (B:List (Int × Int)) (k:Nat):List (Int × Int):=B++([a.tl,a.th].take k).map (Bj c w)
theorem UI {c:Cel} {a:Atm} {w t:Int} {B:List (Int × Int)} {j:Nat} (h:[a.tl,a.th][j]?= some t):ET c a w B (j+1)=ET c a w B j++[Bj c w t]:=by
 unfold ET;rw [List.take_add_one,h];simp
theorem hfp:∀ r:Int × Int,(prL r).length=2:=fun _=>rfl
set_option maxRecDepth 20000 in
set_option maxHeartbeats 4000000 in
theorem dQ (c:Cel) (a:Atm) (hc:B5 c) (w:Int) (hw: -300<=w/\w<=300) (B:List (Int × Int)) (hB:B.length<=100) (i:Nat) {E:Ent} (hE:∀ i,¬ E.stab i) {Q:Av->St->Prop}:∀ j:Nat,j<=2->PW prog tys eqs E JJ
   (DP (fun st'=>∃ k,k<=2/\2 - k < 2 - j/\AI prog E st' ⟨AO [(2, .lp 0 0),(3, .lp 1 0),(4, .lp 2 0),(6, .lp 3 0),(31, .ls 4 0 2 1),(32,vi 2),(33,vi i),(10,vi w),(43, .ls 5 0 2 1),(44,vi 2),(45,vi k),(8,hdF 2 (ET c a w B k) 6)],lk ([(0,[vi c.rm,vi c.he,vi c.ai,vi c.wl,vi c.wh,vi c.lk,vi c.ow]),(1,[vi a.pl,vi a.ph,vi a.tl,vi a.th]),(2,[vi 0,vi 0]),(3,[vi c.rm,vi c.he,vi c.ai,vi c.wl,vi c.wh,vi c.lk,vi c.ow,vi a.pl,vi a.ph,vi a.tl,vi a.th,vi (am c),vi (a.tl+c.wl),vi (a.th+c.wh)]),(4,[vi c.wl,vi c.wh]),(5,[vi a.tl,vi a.th])]++ouF prL (ET c a w B k) 6),7⟩)
     (exC prog E Q 2 (fun _:Unit=>⟨AO [(2, .lp 0 0),(3, .lp 1 0),(4, .lp 2 0),(6, .lp 3 0),(31, .ls 4 0 2 1),(32,vi 2),(33,vi i),(8,hdF 2 (B++[Bj c w a.tl,Bj c w a.th]) 6)],lk ([(0,[vi c.rm,vi c.he,vi c.ai,vi c.wl,vi c.wh,vi c.lk,vi c.ow]),(1,[vi a.pl,vi a.ph,vi a.tl,vi a.th]),(2,[vi 0,vi 0]),(3,[vi c.rm,vi c.he,vi c.ai,vi c.wl,vi c.wh,vi c.lk,vi c.ow,vi a.pl,vi a.ph,vi a.tl,vi a.th,vi (am c),vi (a.tl+c.wl),vi (a.th+c.wh)]),(4,[vi c.wl,vi c.wh])]++ouF prL (B++[Bj c w a.tl,Bj c w a.th]) 6),7⟩) (fun _=>True)))
   ⟨AO [(2, .lp 0 0),(3, .lp 1 0),(4, .lp 2 0),(6, .lp 3 0),(31, .ls 4 0 2 1),(32,vi 2),(33,vi i),(10,vi w),(43, .ls 5 0 2 1),(44,vi 2),(45,vi j),(8,hdF 2 (ET c a w B j) 6)],lk ([(0,[vi c.rm,vi c.he,vi c.ai,vi c.wl,vi c.wh,vi c.lk,vi c.ow]),(1,[vi a.pl,vi a.ph,vi a.tl,vi a.th]),(2,[vi 0,vi 0]),(3,[vi c.rm,vi c.he,vi c.ai,vi c.wl,vi c.wh,vi c.lk,vi c.ow,vi a.pl,vi a.ph,vi a.tl,vi a.th,vi (am c),vi (a.tl+c.wl),vi (a.th+c.wh)]),(4,[vi c.wl,vi c.wh]),(5,[vi a.tl,vi a.th])]++ouF prL (ET c a w B j) 6),7⟩:=by
 have hb:=KP hc hw;have w1:IntKind.wrap .i64 (29*am c)=29*am c:=AD (by omega) (by omega);have w2:IntKind.wrap .i64 (29*am c*w)=29*am c*w:=AD (by omega) (by omega)
 have step:∀ (j:Nat) (t:Int) (O:List (Int × Int)),O.length<=200->[a.tl,a.th][j]?= some t->ET c a w B j=O->ET c a w B (j+1)=O++[Bj c w t]->PW prog tys eqs E JJ
   (DP (fun st'=>∃ k,k<=2/\2 - k < 2 - j/\AI prog E st' ⟨AO [(2, .lp 0 0),(3, .lp 1 0),(4, .lp 2 0),(6, .lp 3 0),(31, .ls 4 0 2 1),(32,vi 2),(33,vi i),(10,vi w),(43, .ls 5 0 2 1),(44,vi 2),(45,vi k),(8,hdF 2 (ET c a w B k) 6)],lk ([(0,[vi c.rm,vi c.he,vi c.ai,vi c.wl,vi c.wh,vi c.lk,vi c.ow]),(1,[vi a.pl,vi a.ph,vi a.tl,vi a.th]),(2,[vi 0,vi 0]),(3,[vi c.rm,vi c.he,vi c.ai,vi c.wl,vi c.wh,vi c.lk,vi c.ow,vi a.pl,vi a.ph,vi a.tl,vi a.th,vi (am c),vi (a.tl+c.wl),vi (a.th+c.wh)]),(4,[vi c.wl,vi c.wh]),(5,[vi a.tl,vi a.th])]++ouF prL (ET c a w B k) 6),7⟩)
     (exC prog E Q 2 (fun _:Unit=>⟨AO [(2, .lp 0 0),(3, .lp 1 0),(4, .lp 2 0),(6, .lp 3 0),(31, .ls 4 0 2 1),(32,vi 2),(33,vi i),(8,hdF 2 (B++[Bj c w a.tl,Bj c w a.th]) 6)],lk ([(0,[vi c.rm,vi c.he,vi c.ai,vi c.wl,vi c.wh,vi c.lk,vi c.ow]),(1,[vi a.pl,vi a.ph,vi a.tl,vi a.th]),(2,[vi 0,vi 0]),(3,[vi c.rm,vi c.he,vi c.ai,vi c.wl,vi c.wh,vi c.lk,vi c.ow,vi a.pl,vi a.ph,vi a.tl,vi a.th,vi (am c),vi (a.tl+c.wl),vi (a.th+c.wh)]),(4,[vi c.wl,vi c.wh])]++ouF prL (B++[Bj c w a.tl,Bj c w a.th]) 6),7⟩) (fun _=>True)))
   ⟨AO [(2, .lp 0 0),(3, .lp 1 0),(4, .lp 2 0),(6, .lp 3 0),(31, .ls 4 0 2 1),(32,vi 2),(33,vi i),(10,vi w),(43, .ls 5 0 2 1),(44,vi 2),(45,vi j),(8,hdF 2 O 6)],lk ([(0,[vi c.rm,vi c.he,vi c.ai,vi c.wl,vi c.wh,vi c.lk,vi c.ow]),(1,[vi a.pl,vi a.ph,vi a.tl,vi a.th]),(2,[vi 0,vi 0]),(3,[vi c.rm,vi c.he,vi c.ai,vi c.wl,vi c.wh,vi c.lk,vi c.ow,vi a.pl,vi a.ph,vi a.tl,vi a.th,vi (am c),vi (a.tl+c.wl),vi (a.th+c.wh)]),(4,[vi c.wl,vi c.wh]),(5,[vi a.tl,vi a.th])]++ouF prL O 6),7⟩:=by
   intro j t O hO ht _ hnx;have hj:j < 2:=by have:=(List.getElem?_eq_some_iff.1 ht).1;simpa using this
   have hz:IntKind.wrap .i64 ((j:Int)+1)=((j+1:Nat):Int):=by rw [AD (by omega) (by omega)];omega
   have hI:(j:Int) < 2:=by omega
   have hj1:j<=1:=by omega
   have hcel:([vi a.tl,vi a.th]:List V)[j]?= some (vi t):=by
     have:([vi a.tl,vi a.th]:List V)=[a.tl,a.th].map vi:=rfl;rw [this,List.getElem?_map,ht];rfl
   have hcel2:([vi a.tl,vi a.th]:List V).drop j=vi t::([vi a.tl,vi a.th]:List V).drop (j+1):=by
     rw [List.drop_eq_getElem?_toList_append,hcel];rfl
   have hk:(2:Nat) - (j+1) < 2 - j:=by omega
   by_cases hne:O=[]
   . subst hne
     rw [Aq,Au];simp [JJ,hI,hj1,hcel2,AA,AM,w1,w2,hz];refine ⟨j+1,by omega,hk,?_⟩;rw [hnx,Ak (by simp),AZ (by simp)];refine AI.mk hE (lk [(0,0),(1,1),(2,2),(3,3),(4,4),(5,5),(6,13631495)]) _ _ _ ?_ ?_ ?_ ?_ ?_<;>simp [AH,Bj]
   . have hsl:=Aw hfp O
     have hwh:=E9 hfp O;have n1:(O.length+1)*16<=140737488355328:=by omega
     have n2:O.length+1<=9223372036854775807:=by omega
     rw [Ak hne,AZ hne];simp [JJ,hI,hj1,hcel2,AA,AM,w1,w2,hz,hsl,hwh,n1,n2];refine ⟨j+1,by omega,hk,?_⟩;rw [hnx,Ak (by simp),AZ (by simp),IV];refine AI.mk hE (lk [(0,0),(1,1),(2,2),(3,3),(4,4),(5,5),(6,13631495)]) _ _ _ ?_ ?_ ?_ ?_ ?_<;>simp [Bj]
 intro j hj;rcases Nat.lt_or_ge j 2 with h2 | h2
 . obtain ⟨t,ht⟩:∃ t,[a.tl,a.th][j]?= some t:=⟨_,List.getElem?_eq_getElem (by simpa using h2)⟩
   exact step j t (ET c a w B j) (by unfold ET;simp;omega) ht rfl (UI ht)
 . have e:j=2:=by omega
   subst e;have e2:ET c a w B 2=B++[Bj c w a.tl,Bj c w a.th]:=rfl;rw [e2,Ak (by simp),AZ (by simp)];simp [JJ];refine AI.mk hE (lk [(0,0),(1,1),(2,2),(3,3),(4,4),(6,6)]) _ _ _ ?_ ?_ ?_ ?_ ?_<;>simp
def CG (c:Cel) (a:Atm) (i:Nat):List (Int × Int):=([c.wl,c.wh].take i).flatMap fun w=>[Bj c w a.tl,Bj c w a.th]
theorem UJ {c:Cel} {a:Atm} {w:Int} {i:Nat} (h:[c.wl,c.wh][i]?= some w):CG c a (i+1)=CG c a i++[Bj c w a.tl,Bj c w a.th]:=by
 unfold CG;rw [List.take_add_one,h];simp
theorem XH {c:Cel} {a:Atm} (i:Nat):(CG c a i).length<=4:=by
 match i with
 | 0=>simp [CG]
 | 1=>simp [CG]
 | i+2=>simp [CG]
set_option maxRecDepth 20000 in
set_option maxHeartbeats 4000000 in
theorem XI (c:Cel) (a:Atm) (hc:B5 c) {E:Ent} (hE:∀ i,¬ E.stab i) {Q:Av->St->Prop}:∀ i:Nat,i<=2->PW prog tys eqs E LF
   (DP (fun st'=>∃ k,k<=2/\2 - k < 2 - i/\AI prog E st' ⟨AO [(2, .lp 0 0),(3, .lp 1 0),(4, .lp 2 0),(6, .lp 3 0),(31, .ls 4 0 2 1),(32,vi 2),(33,vi k),(8,hdF 2 (CG c a k) 6)],lk ([(0,[vi c.rm,vi c.he,vi c.ai,vi c.wl,vi c.wh,vi c.lk,vi c.ow]),(1,[vi a.pl,vi a.ph,vi a.tl,vi a.th]),(2,[vi 0,vi 0]),(3,[vi c.rm,vi c.he,vi c.ai,vi c.wl,vi c.wh,vi c.lk,vi c.ow,vi a.pl,vi a.ph,vi a.tl,vi a.th,vi (am c),vi (a.tl+c.wl),vi (a.th+c.wh)]),(4,[vi c.wl,vi c.wh])]++ouF prL (CG c a k) 6),7⟩)
     (exC prog E Q 0 (fun _:Unit=>⟨AO [(2, .lp 0 0),(3, .lp 1 0),(4, .lp 2 0),(8, .ls 3 0 4 2)],lk [(0,[vi c.rm,vi c.he,vi c.ai,vi c.wl,vi c.wh,vi c.lk,vi c.ow]),(1,[vi a.pl,vi a.ph,vi a.tl,vi a.th]),(2,[vi 0,vi 0]),(3,AH prL (CG c a 2))],4⟩) (fun _=>True)))
   ⟨AO [(2, .lp 0 0),(3, .lp 1 0),(4, .lp 2 0),(6, .lp 3 0),(31, .ls 4 0 2 1),(32,vi 2),(33,vi i),(8,hdF 2 (CG c a i) 6)],lk ([(0,[vi c.rm,vi c.he,vi c.ai,vi c.wl,vi c.wh,vi c.lk,vi c.ow]),(1,[vi a.pl,vi a.ph,vi a.tl,vi a.th]),(2,[vi 0,vi 0]),(3,[vi c.rm,vi c.he,vi c.ai,vi c.wl,vi c.wh,vi c.lk,vi c.ow,vi a.pl,vi a.ph,vi a.tl,vi a.th,vi (am c),vi (a.tl+c.wl),vi (a.th+c.wh)]),(4,[vi c.wl,vi c.wh])]++ouF prL (CG c a i) 6),7⟩:=by
 intro i hi;rcases Nat.lt_or_ge i 2 with h2 | h2
 . obtain ⟨w,hw⟩:∃ w,[c.wl,c.wh][i]?= some w:=⟨_,List.getElem?_eq_getElem (by simpa using h2)⟩
   have hwm:=List.mem_of_getElem? hw
   have hwb: -300<=w/\w<=300:=by
     have:=hc.w;simp at hwm;rcases hwm with rfl | rfl<;>omega
   have hz:IntKind.wrap .i64 ((i:Int)+1)=((i+1:Nat):Int):=by rw [AD (by omega) (by omega)];omega
   have hI:(i:Int) < 2:=by omega
   have hj1:i<=1:=by omega
   have hcel:([vi c.wl,vi c.wh]:List V)[i]?= some (vi w):=by
     have:([vi c.wl,vi c.wh]:List V)=[c.wl,c.wh].map vi:=rfl;rw [this,List.getElem?_map,hw];rfl
   have hcel2:([vi c.wl,vi c.wh]:List V).drop i=vi w::([vi c.wl,vi c.wh]:List V).drop (i+1):=by
     rw [List.drop_eq_getElem?_toList_append,hcel];rfl
   have hk:(2:Nat) - (i+1) < 2 - i:=by omega
   have hnx:=UJ (a:=a) hw;have hB:=XH (c:=c) (a:=a) i;obtain ⟨B,hBe⟩:∃ B,CG c a i=B:=⟨_,rfl⟩
   rw [hBe] at hnx hB ⊢;have hin:=fun (Q:Av->St->Prop)=>dQ (Q:=Q) c a hc w hwb B (by omega) i hE
   by_cases hne:B=[]
   . subst hne
     rw [Aq,Au];simp [LF,hI,hj1,hcel2,AA,AM];refine BL (α:=Nat) 2 (fun _:Unit=>⟨AO [(2, .lp 0 0),(3, .lp 1 0),(4, .lp 2 0),(6, .lp 3 0),(31, .ls 4 0 2 1),(32,vi 2),(33,vi i),(8,hdF 2 ([]++[Bj c w a.tl,Bj c w a.th]) 6)],lk ([(0,[vi c.rm,vi c.he,vi c.ai,vi c.wl,vi c.wh,vi c.lk,vi c.ow]),(1,[vi a.pl,vi a.ph,vi a.tl,vi a.th]),(2,[vi 0,vi 0]),(3,[vi c.rm,vi c.he,vi c.ai,vi c.wl,vi c.wh,vi c.lk,vi c.ow,vi a.pl,vi a.ph,vi a.tl,vi a.th,vi (am c),vi (a.tl+c.wl),vi (a.th+c.wh)]),(4,[vi c.wl,vi c.wh])]++ouF prL ([]++[Bj c w a.tl,Bj c w a.th]) 6),7⟩) (fun _=>True) (fun k=>⟨AO [(2, .lp 0 0),(3, .lp 1 0),(4, .lp 2 0),(6, .lp 3 0),(31, .ls 4 0 2 1),(32,vi 2),(33,vi i),(10,vi w),(43, .ls 5 0 2 1),(44,vi 2),(45,vi k),(8,hdF 2 (ET c a w [] k) 6)],lk ([(0,[vi c.rm,vi c.he,vi c.ai,vi c.wl,vi c.wh,vi c.lk,vi c.ow]),(1,[vi a.pl,vi a.ph,vi a.tl,vi a.th]),(2,[vi 0,vi 0]),(3,[vi c.rm,vi c.he,vi c.ai,vi c.wl,vi c.wh,vi c.lk,vi c.ow,vi a.pl,vi a.ph,vi a.tl,vi a.th,vi (am c),vi (a.tl+c.wl),vi (a.th+c.wh)]),(4,[vi c.wl,vi c.wh]),(5,[vi a.tl,vi a.th])]++ouF prL (ET c a w [] k) 6),7⟩) (fun k=>k<=2) (fun k=>2 - k) 0 ?_ ?_ (hin _) fun _ _=>?_
     . omega
     . rw [show ET c a w [] 0=[] from rfl,Aq,Au]
       refine AI.mk hE (lk [(0,0),(1,1),(2,2),(3,3),(4,4),(5,10485767)]) _ _ _ ?_ ?_ ?_ ?_ ?_<;>simp
     . rw [Ak (by simp),AZ (by simp)]
       simp [hz];refine ⟨i+1,by omega,hk,?_⟩;rw [hnx,Ak (by simp),AZ (by simp)];refine AI.mk hE (lk [(0,0),(1,1),(2,2),(3,3),(4,4),(6,6)]) _ _ _ ?_ ?_ ?_ ?_ ?_<;>simp
   . rw [Ak hne,AZ hne]
     simp [LF,hI,hj1,hcel2,AA,AM];refine BL (α:=Nat) 2 (fun _:Unit=>⟨AO [(2, .lp 0 0),(3, .lp 1 0),(4, .lp 2 0),(6, .lp 3 0),(31, .ls 4 0 2 1),(32,vi 2),(33,vi i),(8,hdF 2 (B++[Bj c w a.tl,Bj c w a.th]) 6)],lk ([(0,[vi c.rm,vi c.he,vi c.ai,vi c.wl,vi c.wh,vi c.lk,vi c.ow]),(1,[vi a.pl,vi a.ph,vi a.tl,vi a.th]),(2,[vi 0,vi 0]),(3,[vi c.rm,vi c.he,vi c.ai,vi c.wl,vi c.wh,vi c.lk,vi c.ow,vi a.pl,vi a.ph,vi a.tl,vi a.th,vi (am c),vi (a.tl+c.wl),vi (a.th+c.wh)]),(4,[vi c.wl,vi c.wh])]++ouF prL (B++[Bj c w a.tl,Bj c w a.th]) 6),7⟩) (fun _=>True) (fun k=>⟨AO [(2, .lp 0 0),(3, .lp 1 0),(4, .lp 2 0),(6, .lp 3 0),(31, .ls 4 0 2 1),(32,vi 2),(33,vi i),(10,vi w),(43, .ls 5 0 2 1),(44,vi 2),(45,vi k),(8,hdF 2 (ET c a w B k) 6)],lk ([(0,[vi c.rm,vi c.he,vi c.ai,vi c.wl,vi c.wh,vi c.lk,vi c.ow]),(1,[vi a.pl,vi a.ph,vi a.tl,vi a.th]),(2,[vi 0,vi 0]),(3,[vi c.rm,vi c.he,vi c.ai,vi c.wl,vi c.wh,vi c.lk,vi c.ow,vi a.pl,vi a.ph,vi a.tl,vi a.th,vi (am c),vi (a.tl+c.wl),vi (a.th+c.wh)]),(4,[vi c.wl,vi c.wh]),(5,[vi a.tl,vi a.th])]++ouF prL (ET c a w B k) 6),7⟩) (fun k=>k<=2) (fun k=>2 - k) 0 ?_ ?_ (hin _) fun _ _=>?_
     . omega
     . rw [show ET c a w B 0=B by simp [ET],Ak hne,AZ hne]
       refine AI.mk hE (lk [(0,0),(1,1),(2,2),(3,3),(4,4),(5,10485767),(6,6)]) _ _ _ ?_ ?_ ?_ ?_ ?_<;>simp
     . rw [Ak (by simp),AZ (by simp)]
       simp [hz];refine ⟨i+1,by omega,hk,?_⟩;rw [hnx,Ak (by simp),AZ (by simp)];refine AI.mk hE (lk [(0,0),(1,1),(2,2),(3,3),(4,4),(6,6)]) _ _ _ ?_ ?_ ?_ ?_ ?_<;>simp
 . have e:i=2:=by omega
   subst e;have e2:(CG c a 2).length=4:=rfl;rw [Ak (by simp [CG]),AZ (by simp [CG]),e2];simp [LF];refine AI.mk hE (lk [(0,0),(1,1),(2,2),(3,6)]) _ _ _ ?_ ?_ ?_ ?_ ?_<;>simp
theorem O7 {c:Cel} {a:Atm} (hc:B5 c) (ha:Fx a):Ed (Bj c c.wl a.tl) [Bj c c.wl a.th,Bj c c.wh a.tl,Bj c c.wh a.th]=((Bx c a).1 - 25*c.he,(Bx c a).2 - 25*c.he):=by
 obtain ⟨h1,h2⟩:=VO hc ha;unfold Ed Bu rSp Bj Bx;simp only [List.map_cons,List.map_nil,List.foldl_cons,List.foldl_nil,FY];rw [h1,h2]
 ext<;>simp only<;>omega
set_option maxRecDepth 20000 in
set_option maxHeartbeats 4000000 in
theorem pY (c:Cel) (a:Atm) (hc:B5 c) (ha:Fx a):Ct prog 133 [Ky c,Ox a] (.tup [vsp (Bx c a).1 (Bx c a).2,vi 0]) []:=by
 have c1:=jS c a hc ha;have t:=ha.t;have wb:=hc.w;have k1:=(KP hc (w:=c.wl) (by omega)).2;have k2:=(KP hc (w:=c.wh) (by omega)).2
 have okr:∀ w t',(w=c.wl\/w=c.wh)->(t'=a.tl\/t'=a.th)->okR (Bj c w t'):=fun w t' h1 h2=>by
   unfold okR Bj;rcases h1 with rfl | rfl<;>rcases h2 with rfl | rfl<;>simp only<;>omega
 have c2:=pn (Bj c c.wl a.tl) [Bj c c.wl a.th,Bj c c.wh a.tl,Bj c c.wh a.th] (by simp) (okr _ _ (Or.inl rfl) (Or.inl rfl)) (fun q hq=>by
   simp only [List.mem_cons,List.not_mem_nil,or_false] at hq;rcases hq with rfl | rfl | rfl
   . exact okr _ _ (Or.inl rfl) (Or.inr rfl)
   . exact okr _ _ (Or.inr rfl) (Or.inl rfl)
   . exact okr _ _ (Or.inr rfl) (Or.inr rfl))
 rw [O7 hc ha] at c2;have e4:CG c a 2=[Bj c c.wl a.tl,Bj c c.wl a.th,Bj c c.wh a.tl,Bj c c.wh a.th]:=rfl
 have bnd: -10000000000000<=(Bx c a).1 - 25*c.he/\(Bx c a).1 - 25*c.he<=10000000000000/\ -10000000000000<=(Bx c a).2 - 25*c.he/\(Bx c a).2 - 25*c.he<=10000000000000:=by
   have q:∀ x t',(-1000000000000<=x/\x<=1000000000000)->(0 < t')-> -1000000000000<=fl x t'/\fl x t'<=1000000000000:=fun x t' hx ht=>by
     unfold fl;refine ⟨?_,?_⟩
     . rw [Int.le_ediv_iff_mul_le ht]
       have:(-1000000000000:Int)*t'<= -1000000000000*1:=Int.mul_le_mul_of_nonpos_left (by omega) (by omega);omega
     . have h3:x / t' < 1000000000001:=by
         rw [Int.ediv_lt_iff_lt_mul ht];have:(1000000000001:Int)*1<=1000000000001*t':=Int.mul_le_mul_of_nonneg_left (by omega) (by omega);omega
       omega
   have q1:=q _ a.tl k1 (by omega);have q2:=q _ a.th k1 (by omega);have q3:=q (-(29*am c*c.wh)) a.tl (by omega) (by omega);have q4:=q (-(29*am c*c.wh)) a.th (by omega) (by omega);unfold Bx ce;unfold fl at q1 q2 q3 q4 ⊢;simp only;omega
 have he:=hc.he;have w0:IntKind.wrap .i64 (25*c.he)=25*c.he:=AD (by omega) (by omega);have w1:IntKind.wrap .i64 (Bx c a).1=(Bx c a).1:=AD (by omega) (by omega);have w2:IntKind.wrap .i64 (Bx c a).2=(Bx c a).2:=AD (by omega) (by omega);have hb4:∀ H:Hp,H 3=some (AH prL (CG c a 2))->Bor H (.ls 3 0 4 2) (.d (An [Bj c c.wl a.tl,Bj c c.wl a.th,Bj c c.wh a.tl,Bj c c.wh a.th])):=fun H h=>B0 (f:=prL) hfp (l:=CG c a 2) h
 refine CB func133 c133 (by simp [ntmps133]) fun E hE=>?_
 simp [p133];refine CLa (c1) ?_;simp [AA,AM];refine BL (α:=Nat) 0 (fun _:Unit=>⟨AO [(2, .lp 0 0),(3, .lp 1 0),(4, .lp 2 0),(8, .ls 3 0 4 2)],lk [(0,[vi c.rm,vi c.he,vi c.ai,vi c.wl,vi c.wh,vi c.lk,vi c.ow]),(1,[vi a.pl,vi a.ph,vi a.tl,vi a.th]),(2,[vi 0,vi 0]),(3,AH prL (CG c a 2))],4⟩) (fun _=>True) (fun k=>⟨AO [(2, .lp 0 0),(3, .lp 1 0),(4, .lp 2 0),(6, .lp 3 0),(31, .ls 4 0 2 1),(32,vi 2),(33,vi k),(8,hdF 2 (CG c a k) 6)],lk ([(0,[vi c.rm,vi c.he,vi c.ai,vi c.wl,vi c.wh,vi c.lk,vi c.ow]),(1,[vi a.pl,vi a.ph,vi a.tl,vi a.th]),(2,[vi 0,vi 0]),(3,[vi c.rm,vi c.he,vi c.ai,vi c.wl,vi c.wh,vi c.lk,vi c.ow,vi a.pl,vi a.ph,vi a.tl,vi a.th,vi (am c),vi (a.tl+c.wl),vi (a.th+c.wh)]),(4,[vi c.wl,vi c.wh])]++ouF prL (CG c a k) 6),7⟩) (fun k=>k<=2) (fun k=>2 - k) 0 ?_ ?_ (XI c a hc hE) fun _ _=>?_
 . omega
 . rw [show CG c a 0=[] from rfl,Aq,Au]
   refine AI.mk hE (lk [(0,0),(1,1048576),(2,2097152),(3,10485760),(4,23068672)]) _ _ _ ?_ ?_ ?_ ?_ ?_<;>simp
 . simp
   refine AL [(6,5242884)] (by kernel_rfl) ?_;simp [inC,Nat.testBit];refine CLb (c2) (by simp [hb4]) ?_;simp [AA,inC,Nat.testBit,w0,w1,w2];refine AB.by (fun _=>none) ?_;simp [results133]
theorem TE {c:Cel} {a:Atm} (hc:B5 c) (ha:Fx a):(-10000000000000<=(Bx c a).1/\(Bx c a).1<=10000000000000)/\ -10000000000000<=(Bx c a).2/\(Bx c a).2<=10000000000000:=by
 have t:=ha.t;have wb:=hc.w;have he:=hc.he;have k1:=(KP hc (w:=c.wl) (by omega)).2;have k2:=(KP hc (w:=c.wh) (by omega)).2
 have q:∀ x t',(-1000000000000<=x/\x<=1000000000000)->(0 < t')-> -1000000000000<=fl x t'/\fl x t'<=1000000000000:=fun x t' hx ht=>by
   unfold fl;refine ⟨?_,?_⟩
   . rw [Int.le_ediv_iff_mul_le ht]
     have:(-1000000000000:Int)*t'<= -1000000000000*1:=Int.mul_le_mul_of_nonpos_left (by omega) (by omega);omega
   . have h3:x / t' < 1000000000001:=by
       rw [Int.ediv_lt_iff_lt_mul ht];have:(1000000000001:Int)*1<=1000000000001*t':=Int.mul_le_mul_of_nonneg_left (by omega) (by omega);omega
     omega
 have q1:=q _ a.tl k1 (by omega);have q2:=q _ a.th k1 (by omega);have q3:=q (-(29*am c*c.wh)) a.tl (by omega) (by omega);have q4:=q (-(29*am c*c.wh)) a.th (by omega) (by omega);unfold Bx ce;unfold fl at q1 q2 q3 q4 ⊢;simp only;omega
structure VU (s:Shp):Prop where
 h: -500<=s.hl/\s.hl<=s.hh/\s.hh<=9000
 f:0<=s.fl/\s.fl<=s.fh/\s.fh<=1000000000
 w:0<=s.wl/\s.wl<=s.wh/\s.wh<=1000000000
 d:0<=s.dry/\s.dry<=1000000000
 b:0<=s.bal/\s.bal<=1000000000
 n:s.gas.cs.length<=12
 c:∀ c∈s.gas.cs,B5 c
theorem GT {s:Shp} (h:A6 s=true):VU s:=by
 unfold A6 Ar IR at h;simp only [Bool.and_eq_true,CC,List.all_eq_true,decide_eq_true_eq] at h;obtain ⟨⟨⟨⟨⟨⟨h1,h2⟩,h3⟩,h4⟩,h5⟩,h6⟩,⟨⟨⟨h7,h8⟩,h9⟩,h10⟩,h11⟩:=h;have h5':(0<=s.dry/\s.dry<=1000000000)/\0<=s.bal/\s.bal<=1000000000:=by simpa [rgB] using h5
 exact ⟨h2,h3.1,h3.2,h5'.1,h5'.2,h7,fun c hc=>Dm.1 (h10 c hc)⟩
def hvK (a:Atm) (l:List Cel) (o:Int × Int):Int × Int:=l.foldl (fun o c=>(o.1 - (Bx c a).2,o.2 - (Bx c a).1)) o
def hv0 (s:Shp):Int × Int:=(s.dry+s.bal+s.fl+s.wl,s.dry+s.bal+s.fh+s.wh)
def hvS (s:Shp) (a:Atm):Int × Int:=hvK a s.gas.cs (hv0 s)
theorem Oo {a:Atm} {l:List Cel} {o:Int × Int} {i:Nat} {c:Cel} (h:l[i]?= some c):hvK a (l.take (i+1)) o=((hvK a (l.take i) o).1 - (Bx c a).2,(hvK a (l.take i) o).2 - (Bx c a).1):=by
 unfold hvK;rw [List.take_add_one,h];simp
theorem Yr {a:Atm} (ha:Fx a) {o:Int × Int} (ho:(0<=o.1/\o.1<=4000000000)/\0<=o.2/\o.2<=4000000000) {l:List Cel} (hc:∀ c∈l,B5 c):∀ i:Nat,i<=l.length->(-(i*10000000000000)<=(hvK a (l.take i) o).1/\(hvK a (l.take i) o).1<=4000000000+i*10000000000000)/\ -(i*10000000000000)<=(hvK a (l.take i) o).2/\(hvK a (l.take i) o).2<=4000000000+i*10000000000000
 | 0,_=>by simp [hvK];omega
 | i+1,hi=>by
   obtain ⟨c,hcc⟩:∃ c,l[i]?= some c:=⟨_,List.getElem?_eq_getElem (by omega)⟩
   have ih:=Yr ha ho hc i (by omega);have hb:=TE (hc c (List.mem_of_getElem? hcc)) ha;rw [Oo hcc];simp only;omega
set_option maxRecDepth 20000 in
set_option maxHeartbeats 8000000 in
theorem pA (s:Shp) (a:Atm) (hs:VU s) (ha:Fx a):Ct prog 70 [Cl s (.d (AX s.gas.cs)),Ox a] (vsp (hvS s a).1 (hvS s a).2) []:=by
 have q1:=hs.f;have q2:=hs.w;have q3:=hs.d;have q4:=hs.b;have q5:=hs.n;have w1:IntKind.wrap .i64 (s.dry+s.bal)=s.dry+s.bal:=AD (by omega) (by omega);have w2:IntKind.wrap .i64 (s.dry+s.bal+s.fl)=s.dry+s.bal+s.fl:=AD (by omega) (by omega);have w3:IntKind.wrap .i64 (s.dry+s.bal+s.fl+s.wl)=s.dry+s.bal+s.fl+s.wl:=AD (by omega) (by omega);have w4:IntKind.wrap .i64 (s.dry+s.bal+s.fh)=s.dry+s.bal+s.fh:=AD (by omega) (by omega);have w5:IntKind.wrap .i64 (s.dry+s.bal+s.fh+s.wh)=s.dry+s.bal+s.fh+s.wh:=AD (by omega) (by omega);have ho:(0<=(hv0 s).1/\(hv0 s).1<=4000000000)/\0<=(hv0 s).2/\(hv0 s).2<=4000000000:=by unfold hv0;simp only;omega
 refine CB func70 c70 (by simp [ntmps70]) fun E hE=>?_
 simp [p70,AA,w1,w2,w3,w4,w5];refine Al (α:=Nat) (fun i=>⟨AO [(3, .lp 0 0),(4, .lp 1 0),(6, .lp 2 0),(37, .d (AX s.gas.cs)),(38,vi s.gas.cs.length),(39,vi i)],lk [(0,[vi a.pl,vi a.ph,vi a.tl,vi a.th]),(1,[vi 0,vi 0]),(2,[vi (hvK a (s.gas.cs.take i) (hv0 s)).1,vi (hvK a (s.gas.cs.take i) (hv0 s)).2])],3⟩) (fun i=>i<=s.gas.cs.length) (fun i=>s.gas.cs.length - i) 0 ?_ ?_ ?_
 . omega
 . skip
   refine AI.mk hE (lk [(0,1048576),(1,2097152),(2,29360128)]) _ _ _ ?_ ?_ ?_ ?_ ?_<;>simp [hvK,hv0]
 . intro i hi
   by_cases h:i < s.gas.cs.length
   . obtain ⟨c,hc⟩:∃ c,s.gas.cs[i]?= some c:=⟨_,List.getElem?_eq_getElem h⟩
     have hz:IntKind.wrap .i64 ((i:Int)+1)=((i+1:Nat):Int):=by rw [AD (by omega) (by omega)];omega
     have hI:(i:Int) < s.gas.cs.length:=by omega
     have hcb:=hs.c c (List.mem_of_getElem? hc);have c1:=pY c a hcb ha;have hb:=TE hcb ha;have hk:=Yr ha ho hs.c i hi;have hnx:=Oo (a:=a) (o:=hv0 s) hc
     generalize hvK a (s.gas.cs.take i) (hv0 s)=o at*
     have w6:IntKind.wrap .i64 (o.1 - (Bx c a).2)=o.1 - (Bx c a).2:=AD (by omega) (by omega);have w7:IntKind.wrap .i64 (o.2 - (Bx c a).1)=o.2 - (Bx c a).1:=AD (by omega) (by omega);simp [bD,hI,hc,AA];refine CLa (c1) ?_;simp [AA];refine AL [(11,2)] (by kernel_rfl) ?_;simp [AA,w6,w7,hz,inC,Nat.testBit];refine ⟨i+1,by omega,by omega,?_⟩;rw [hnx];refine AI.mk hE (lk [(0,0),(1,1),(2,2)]) _ _ _ ?_ ?_ ?_ ?_ ?_<;>simp
   . have e:i=s.gas.cs.length:=by omega
     have hn:¬ (i:Int) < s.gas.cs.length:=by omega
     rw [e,List.take_length];simp [bD,AA];refine AB.by (fun _=>none) ?_;simp [results70,hvS]
theorem aR:∀ {l:List Lev},(∀ (i:Nat) (x y:Lev),l[i]?= some x->l[i+1]?= some y->x.h < y.h)->Inc l
 | [],_=>trivial
 | [_],_=>trivial
 | a::b::r,h=>⟨h 0 a b rfl rfl,aR fun i x y hx hy=>h (i+1) x y (by simpa using hx) (by simpa using hy)⟩
theorem gZ {l:List Lev} (h:OkS l) (hf:¬ 0<=ixF unf (swp l)):Snd (tmS (knT l)) (swp l):=by
 have ho:=Yu h hf;have hk:=ho.lks;rw [TF] at hk;refine ⟨aR fun i x y hx hy=>by have:=ho.step i x y hx hy;omega,hk,Ns h,fun x hx=>?_⟩;have:=(ho.lev x hx).1;exact ⟨this.1,this.2.1,this.2.2⟩
theorem ld {l:List Lev} (h:OkS l):swp l≠[]:=by
 intro e;have:=Dj (l:=l);rw [e] at this;have:=h.len;simp at*;omega
structure ga (l:List Lev) (a b:Int):Prop where
 ok:OkS l
 fit:¬ 0<=ixF unf (swp l)
 ab:a<=b
 ina:E8 l a
 inb:E8 l b
 eq:atA l a b=(WH (tmS (knT l)) (swp l) a b,0)
theorem NU {l:List Lev} {x y:Lev} {z:Int} (hx:l[0]?= some x) (hy:l[l.length - 1]?= some y) (h1:x.h<=z) (h2:z<=y.h):E8 l z:=by
 refine ⟨fun k hk=>?_,fun k hk=>?_⟩
 . rw [hx] at hk;cases hk;exact h1
 . rw [hy] at hk;cases hk;exact h2
theorem Td {lo hi a b:Int}:rgB lo hi [a,b]=true↔(lo<=a/\a<=hi)/\lo<=b/\b<=hi:=by simp [rgB]
theorem qD {l:List Lev} {a b:Int} (h:(atA l a b).2=0):ga l a b:=by
 unfold atA at h;split at h
 . rename_i h1
   split at h
   . rename_i h2
     split at h
     . rename_i x y hx hy
       split at h
       . rename_i h3
         split at h
         . rename_i h4
           have ho:=B8.1 h1;have hr:=Td.1 h3;have hs:=CT.1 h2;refine ⟨ho,(IQ ho).1 h4,hs.1,NU hx hy hr.1.1 hr.1.2,NU hx hy hr.2.1 hr.2.2,?_⟩;unfold atA;rw [if_pos h1,if_pos h2,hx,hy];simp only;rw [if_pos h3,if_pos h4]
         . rename_i h4;exact absurd h h4
       . simp at h
     . simp at h
   . simp at h
 . simp at h
theorem gc {l:List Lev} {a b:Int} (ho:OkS l) (hf:¬ 0<=ixF unf (swp l)) (hab:a<=b) (ha:E8 l a) (hb:E8 l b):ga l a b:=by
 have hlen:=ho.len;obtain ⟨x,hx⟩:∃ x,l[0]?= some x:=⟨_,List.getElem?_eq_getElem (by omega)⟩
 obtain ⟨y,hy⟩:∃ y,l[l.length - 1]?= some y:=⟨_,List.getElem?_eq_getElem (by omega)⟩
 have q1:=ha.1 x hx;have q2:=ha.2 y hy;have q3:=hb.1 x hx;have q4:=hb.2 y hy;have b1:=ho.at' x (List.mem_of_getElem? hx);have b2:=ho.at' y (List.mem_of_getElem? hy);refine ⟨ho,hf,hab,ha,hb,?_⟩;unfold atA;rw [if_pos (B8.2 ho),if_pos (CT.2 (by simp only;omega)),hx,hy];simp only;rw [if_pos (Td.2 (by omega)),if_pos ((IQ ho).2 hf)]
theorem aU {l:List Lev} {a b:Int} (h:ga l a b):Fx (atA l a b).1:=by
 rw [h.eq];exact mD (gZ h.ok h.fit) (ld h.ok) h.ab (Oq h.ok h.ina h.inb).p
def M2 (k:Sky) (s:Shp):Int:=if BV k then (if A6 s then 0 else 52) else 50
theorem kT (k:Sky) (s:Shp):(if (if BV k then 0 else 50:Int)=0 then (if A6 s then 0 else 52:Int) else (if BV k then 0 else 50))=M2 k s:=by
 unfold M2;cases BV k<;>simp
def hvA (k:Sky) (s:Shp):(Int × Int) × Int:=
 if M2 k s=0 then (if (atA k.s s.hl s.hh).2=0 then (hvS s (atA k.s s.hl s.hh).1,0) else ((0,0),(atA k.s s.hl s.hh).2)) else ((0,0),M2 k s)
theorem Yg {k:Sky} {s:Shp} (h:M2 k s=0):BV k=true/\A6 s=true:=by
 unfold M2 at h;cases h1:BV k<;>cases h2:A6 s<;>simp [h1,h2] at h ⊢
set_option maxRecDepth 20000 in
set_option maxHeartbeats 8000000 in
theorem fn21 (k:Sky) (s:Shp) (h1:k.s.length<=1000000) (h2:k.w.length<=1000000) (h3:s.gas.cs.length<=1000000):Ct prog 21 [Eu k,Cl s (.d (AX s.gas.cs))] (vse (hvA k s)) []:=by
 have c1:=g0 k h1 h2;have c2:=qF s (by omega);have c3:=fn69 (if BV k then 0 else 50) (if A6 s then 0 else 52);rw [kT] at c3;have c4:=pC k.s s.hl s.hh h1;obtain ⟨x,hx⟩:∃ x:Int,(if BV k then 0 else 50)=x:=⟨_,rfl⟩
 obtain ⟨y,hy⟩:∃ y:Int,(if A6 s then 0 else 52)=y:=⟨_,rfl⟩
 rw [hx] at c1;rw [hy] at c2;rw [hx,hy] at c3;by_cases ha:M2 k s=0
 . rw [ha] at c3
   obtain ⟨k1,k2⟩:=Yg ha;by_cases he:(atA k.s s.hl s.hh).2=0
   . have e:hvA k s=(hvS s (atA k.s s.hl s.hh).1,0):=by unfold hvA;rw [if_pos ha,if_pos he]
     have hb:=GT k2;have c5:=pA s (atA k.s s.hl s.hh).1 hb (aU (qD he));unfold atV at c4;rw [he] at c4;rw [e]
     generalize (atA k.s s.hl s.hh).1=a at*
     refine CB func21 c21 (by simp [ntmps21]) fun E hE=>?_
     simp [p21,inC,Nat.testBit];refine CLa (c1) ?_;simp [inC,Nat.testBit];refine CLa (c2) ?_;simp [AA,AM];refine CLb (c3) (by simp [Ap]) ?_;simp;refine CLa (c4) ?_;simp [AA];refine CLa (c5) ?_;simp [AA];refine AB.by (fun _=>none) ?_;simp [results21]
   . have e:hvA k s=((0,0),(atA k.s s.hl s.hh).2):=by unfold hvA;rw [if_pos ha,if_neg he]
     rw [e];unfold atV at c4
     generalize (atA k.s s.hl s.hh).1=a at*
     generalize (atA k.s s.hl s.hh).2=er at*
     refine CB func21 c21 (by simp [ntmps21]) fun E hE=>?_
     simp [p21,inC,Nat.testBit];refine CLa (c1) ?_;simp [inC,Nat.testBit];refine CLa (c2) ?_;simp [AA,AM];refine CLb (c3) (by simp [Ap]) ?_;simp;refine CLa (c4) ?_;simp [AA,he];refine AB.by (fun _=>none) ?_;simp [results21]
 . have e:hvA k s=((0,0),M2 k s):=by unfold hvA;rw [if_neg ha]
   rw [e]
   generalize M2 k s=er at*
   refine CB func21 c21 (by simp [ntmps21]) fun E hE=>?_
   simp [p21,inC,Nat.testBit];refine CLa (c1) ?_;simp [inC,Nat.testBit];refine CLa (c2) ?_;simp [AA,AM];refine CLb (c3) (by simp [Ap]) ?_;simp [AA,ha];refine AB.by (fun _=>none) ?_;simp [results21]
end Go.Proofs.Tryz
