/- Own lemmas, used by the last text. Conditions: those that each theorem states. -/
import Derived.Test.YtigekgfbcfbobaaGreatDcae
import Derived.Test.YtigekgfbcfbobaaGreatDcaf
import Derived.Test.YtigekgfbcfbobaaGreatDcag
import Derived.Test.YtigekgfbcfbobaaGreatDcah
import Derived.Test.YtigekgfbcfbobaaGreatRows
set_option maxRecDepth 200000
set_option maxHeartbeats 8000000
namespace Go.Proofs.YtigekgfbcfbobaaGreat
open Go.Joins Go.ChangeShapes Go.WideShapes Go.ChangeAt Go.RowKit Go.Psl
theorem Tryz.own:ownKnob Tryz.prog.godebug=none:=by kernel_rfl
theorem Tryz.laidOut:laidOutB Tryz.prog=true:=by kernel_rfl
theorem all_map {α β:Type} {f:α->β}:∀ {es:List β},(∀ x∈es,∃ k,x=f k)->∃ t:List α,es=t.map f
 | [],_=>⟨[],rfl⟩
 | e::es,h=>by
   obtain ⟨k,hk⟩:=h e (by simp);obtain ⟨t,ht⟩:=all_map (f:=f) (es:=es) fun x hx=>h x (by simp [hx])
   exact ⟨k::t,by rw [ht,hk];rfl⟩
theorem BM {n:Nat} {ds:List D} (h:Sh' Tryz.prog (n+1) 3 ds):∃ i:Int,ds=[.lit (.int .i64 i)]:=by
 simp only [Sh',Tryz.underlying3] at h;obtain ⟨i,h,_⟩:=h;exact ⟨i,h⟩
theorem CD {n:Nat} {ds:List D} (h:Sh' Tryz.prog (n+2) 27 ds):∃ k:Int × Int,ds=[.lit (.int .i64 k.1), .lit (.int .i64 k.2)]:=by
 rw [Sh',Tryz.underlying27] at h;obtain ⟨a,r,rfl,h1,b,r2,rfl,h2,rfl⟩:=h;obtain ⟨i,rfl⟩:=BM h1;obtain ⟨j,rfl⟩:=BM h2;exact ⟨(i,j),rfl⟩
theorem J0 {n:Nat} {ds:List D} (h:Sh' Tryz.prog (n+2) 30 ds):∃ k:Int × Int,ds=[.lit (.int .i64 k.1), .lit (.int .i64 k.2)]:=by
 rw [Sh',Tryz.underlying30] at h;obtain ⟨a,r,rfl,h1,b,r2,rfl,h2,rfl⟩:=h;obtain ⟨i,rfl⟩:=BM h1;obtain ⟨j,rfl⟩:=BM h2;exact ⟨(i,j),rfl⟩
theorem TJ {n:Nat} {ds:List D} (h:Sh' Tryz.prog (n+3) 74 ds):∃ k:(Int × Int) × Int × Int,ds=[.lit (.int .i64 k.1.1), .lit (.int .i64 k.1.2), .lit (.int .i64 k.2.1), .lit (.int .i64 k.2.2)]:=by
 rw [Sh',Tryz.underlying74] at h;obtain ⟨a,r,rfl,h1,b,r2,rfl,h2,rfl⟩:=h;obtain ⟨i,rfl⟩:=CD h1;obtain ⟨j,rfl⟩:=CD h2;exact ⟨(i,j),rfl⟩
theorem ke {n:Nat} {ds:List D} (h:Sh' Tryz.prog (n+3) 128 ds):∃ k:Go.Air.Lev,ds=Tryz.A5 k:=by
 rw [Sh',Tryz.underlying128] at h;obtain ⟨a,r,rfl,h1,b,r2,rfl,h2,c,r3,rfl,h3,rfl⟩:=h;obtain ⟨i,rfl⟩:=BM h1;obtain ⟨j,rfl⟩:=CD h2;obtain ⟨k,rfl⟩:=CD h3;exact ⟨⟨i,j.1,j.2,k.1,k.2⟩,rfl⟩
theorem kf {n:Nat} {ds:List D} (h:Sh' Tryz.prog (n+4) 174 ds):∃ k:Tryz.Gal,ds=Tryz.galL k:=by
 rw [Sh',Tryz.underlying174] at h;obtain ⟨a,r,rfl,h1,b,r2,rfl,h2,c,r3,rfl,h3,rfl⟩:=h;obtain ⟨i,rfl⟩:=BM h1;obtain ⟨j,rfl⟩:=TJ h2;obtain ⟨k,rfl⟩:=BM h3;exact ⟨⟨i,j.1.1,j.1.2,j.2.1,j.2.2,k⟩,rfl⟩
theorem fK {n:Nat} {ds:List D} (h:Sh' Tryz.prog (n+3) 88 ds):∃ k:Go.Air.Cel,ds=Tryz.AP k:=by
 rw [Sh',Tryz.underlying88] at h;obtain ⟨a,r,rfl,h1,b,r2,rfl,h2,c,r3,rfl,h3,d,r4,rfl,h4,e,r5,rfl,h5,f,r6,rfl,h6,rfl⟩:=h;obtain ⟨i1,rfl⟩:=BM h1;obtain ⟨i2,rfl⟩:=BM h2;obtain ⟨i3,rfl⟩:=BM h3;obtain ⟨i4,rfl⟩:=CD h4;obtain ⟨i5,rfl⟩:=BM h5;obtain ⟨i6,rfl⟩:=BM h6;exact ⟨⟨i1,i2,i3,i4.1,i4.2,i5,i6⟩,rfl⟩
theorem Y4:Tryz.prog.cellsOf 128=5:=by kernel_rfl
theorem fM {n:Nat} {ds:List D} (h:Sh' Tryz.prog (n+4) 22 ds):∃ t:List Go.Air.Lev,ds=[.sl 5 (t.map Tryz.A5)]:=by
 rw [Sh',Tryz.underlying22] at h;obtain ⟨es,rfl,_,h⟩:=h;obtain ⟨t,rfl⟩:=all_map fun x hx=>ke (h x hx)
 exact ⟨t,by rw [Y4]⟩
theorem Y5:Tryz.prog.cellsOf 174=6:=by kernel_rfl
theorem fN {n:Nat} {ds:List D} (h:Sh' Tryz.prog (n+5) 23 ds):∃ t:List Tryz.Gal,ds=[.sl 6 (t.map Tryz.galL)]:=by
 rw [Sh',Tryz.underlying23] at h;obtain ⟨es,rfl,_,h⟩:=h;obtain ⟨t,rfl⟩:=all_map fun x hx=>kf (h x hx)
 exact ⟨t,by rw [Y5]⟩
theorem fO:Tryz.prog.cellsOf 88=7:=by kernel_rfl
theorem Y6 {n:Nat} {ds:List D} (h:Sh' Tryz.prog (n+4) 28 ds):∃ t:List Go.Air.Cel,ds=[.sl 7 (t.map Tryz.AP)]:=by
 rw [Sh',Tryz.underlying28] at h;obtain ⟨es,rfl,_,h⟩:=h;obtain ⟨t,rfl⟩:=all_map fun x hx=>fK (h x hx)
 exact ⟨t,by rw [fO]⟩
theorem Y7 {n:Nat} {ds:List D} (h:Sh' Tryz.prog (n+5) 32 ds):∃ p:Tryz.Plt,ds=[Tryz.AX p.cs, .lit (.int .i64 p.bt), .lit (.int .i64 p.ih), .lit (.int .i64 p.ia), .lit (.int .i64 p.vh), .lit (.int .i64 p.va), .lit (.int .i64 p.lh), .lit (.int .i64 p.la), .lit (.int .i64 p.ph), .lit (.int .i64 p.pa)]:=by
 rw [Sh',Tryz.underlying32] at h;obtain ⟨a,r,rfl,h1,b,r2,rfl,h2,c,r3,rfl,h3,d,r4,rfl,h4,e,r5,rfl,h5,f,r6,rfl,h6,rfl⟩:=h;obtain ⟨i1,rfl⟩:=Y6 h1;obtain ⟨i2,rfl⟩:=BM h2;obtain ⟨i3,rfl⟩:=J0 h3;obtain ⟨i4,rfl⟩:=J0 h4;obtain ⟨i5,rfl⟩:=J0 h5;obtain ⟨i6,rfl⟩:=J0 h6;exact ⟨⟨i1,i2,i3.1,i3.2,i4.1,i4.2,i5.1,i5.2,i6.1,i6.2⟩,rfl⟩
theorem fP {n:Nat} {ds:List D} (h:Sh' Tryz.prog (n+6) 34 ds):∃ s:Tryz.Shp,ds=Tryz.Ca s:=by
 rw [Sh',Tryz.underlying34] at h;obtain ⟨a1,r1,rfl,h1,a2,r2,rfl,h2,a3,r3,rfl,h3,a4,r4,rfl,h4,a5,r5,rfl,h5,a6,r6,rfl,h6,a7,r7,rfl,h7,a8,r8,rfl,h8,a9,r9,rfl,h9,a0,r0,rfl,h0,rfl⟩:=h;obtain ⟨i1,rfl⟩:=CD h1;obtain ⟨i2,rfl⟩:=CD h2;obtain ⟨i3,rfl⟩:=CD h3;obtain ⟨i4,rfl⟩:=CD h4;obtain ⟨i5,rfl⟩:=CD h5;obtain ⟨i6,rfl⟩:=CD h6;obtain ⟨i7,rfl⟩:=BM h7;obtain ⟨i8,rfl⟩:=BM h8;obtain ⟨i9,rfl⟩:=BM h9;obtain ⟨p,rfl⟩:=Y7 h0;exact ⟨⟨i1.1,i1.2,i2.1,i2.2,i3.1,i3.2,i4.1,i4.2,i5.1,i5.2,i6.1,i6.2,i7,i8,i9,p⟩,rfl⟩
theorem kg {n:Nat} {ds:List D} (h:Sh' Tryz.prog (n+6) 25 ds):∃ k:Tryz.Sky,ds=[Tryz.BF k.s,Tryz.C2 k.w]:=by
 rw [Sh',Tryz.underlying25] at h;obtain ⟨a,r,rfl,h1,b,r2,rfl,h2,rfl⟩:=h;obtain ⟨i,rfl⟩:=fM h1;obtain ⟨j,rfl⟩:=fN h2;exact ⟨⟨i,j⟩,rfl⟩
theorem Y8 {G:Gh} {W:World}:∀ {ds:List D} {cv:List Value},AJ (RD G.Im W) ds cv->AJ (R1 G W) (ds.map V.d) cv
 | [],[],_=>trivial
 | _::_,_::_,h=>⟨h.1,Y8 h.2⟩
abbrev GW (W:World):Gh:=⟨fun _=>0,fun _=>0,fun _=>true,fun _=>true,InW W⟩
theorem HX {H:Type} {enc:TypeId × Value->H} {W:World} {base:Nat} {v:Value} {d:DataW H} {p:List MemPlace} {t:TypeId} {fs:Array Field} {n:Nat} (hu:Tryz.prog.underlying t=some (.struct fs)) (hp:E5 Tryz.prog n t=true)
   (hval:Value.okWide Tryz.prog W .any base t v) (h:DataW.Trod enc Tryz.prog W 0 (fun _=>true) true t v d p):∃ ds:List D,Sh' Tryz.prog n t ds/\R2 (GW W) W (.agg (ds.map .d)) v:=by
 obtain ⟨m,hm⟩:=h;obtain ⟨cs,rfl,_⟩:=okWide_struct hu hval;obtain ⟨ds,h1,h2⟩:=HQ n t hp m _ _ hm;exact ⟨ds,h1,_,rfl,Y8 h2⟩
theorem VX {H:Type} {enc:TypeId × Value->H} {W:World} {base:Nat} {v:Value} {d:DataW H} {p:List MemPlace} {t e:TypeId} {n:Nat} (hu:Tryz.prog.underlying t=some (.slice e)) (hp:E5 Tryz.prog n t=true)
   (hval:Value.okWide Tryz.prog W .any base t v) (h:DataW.Trod enc Tryz.prog W 0 (fun _=>true) true t v d p):∃ D:D,Sh' Tryz.prog n t [D]/\R2 (GW W) W (.d D) v:=by
 obtain ⟨m,hm⟩:=h;obtain ⟨a,len,cap,rfl⟩:=okWide_slice hu hval;obtain ⟨ds,h1,h2⟩:=HQ n t hp m _ _ hm
 match ds,h2 with
 | [D],h2=>exact ⟨D,h1,h2.1⟩
theorem fQ {H:Type} {enc:TypeId × Value->H} {W:World} {base:Nat} {v:Value} {d:DataW H} {p:List MemPlace} (hval:Value.okWide Tryz.prog W .any base 25 v) (h:DataW.Trod enc Tryz.prog W 0 (fun _=>true) true 25 v d p):
   ∃ k:Tryz.Sky,R2 (GW W) W (Tryz.Eu k) v:=by
 obtain ⟨ds,h1,h2⟩:=HX (n:=6) Tryz.underlying25 (by kernel_rfl) hval h;obtain ⟨k,rfl⟩:=kg h1;exact ⟨k,h2⟩
theorem Y9 {H:Type} {enc:TypeId × Value->H} {W:World} {base:Nat} {v:Value} {d:DataW H} {p:List MemPlace} (hval:Value.okWide Tryz.prog W .any base 34 v) (h:DataW.Trod enc Tryz.prog W 0 (fun _=>true) true 34 v d p):
   ∃ k:Tryz.Shp,R2 (GW W) W (Tryz.Cl k (.d (Tryz.AX k.gas.cs))) v:=by
 obtain ⟨ds,h1,h2⟩:=HX (n:=6) Tryz.underlying34 (by kernel_rfl) hval h;obtain ⟨k,rfl⟩:=fP h1;exact ⟨k,h2⟩
end Go.Proofs.YtigekgfbcfbobaaGreat
namespace Go.Proofs.Tryz
open Go.Psl
theorem fZ {H:Hp} {id:Nat} {a b:Int} (h:H id=some [vi a,vi b]):Bor H (.ls id 0 2 1) (.d (Ch [a,b])):=by
 rw [Bk];exact ⟨rfl,rfl,by simp,_,h,rfl⟩
theorem pR (a b:Int × Int):Ct prog 222 [vsp a.1 a.2,vsp b.1 b.2] (vi (Dw a b)) []:=by
 refine CB func222 c222 fun E hE=>?_
 simp [p222,inC,Nat.testBit];refine CLa (iz a.1 b.1) ?_;simp [inC,Nat.testBit];refine CLa (iz a.2 b.2) ?_;simp [AA,AM];refine CLb (kv (NM a.1 b.1) (NM a.2 b.2)) (by simp [fZ]) ?_;simp;apply RZ;simp [results222,Dw]
def okC (p:Int × Int):Bool:=decide (max p.1 p.2<=268435456)&&decide (-268435456<=min p.1 p.2)
theorem NH {p:Int × Int}:okC p=true↔bd 268435456 p:=by
 unfold okC bd;simp only [Bool.and_eq_true,decide_eq_true_eq];omega
def EJ (l:List (Int × Int)):Bool:=l.all okC
theorem RA {l:List (Int × Int)} {i:Nat} {s:Int × Int} (hs:l[i]?= some s):EJ (l.take (i+1))=(EJ (l.take i)&&okC s):=by
 simp [EJ,List.take_add_one,hs]
theorem Jh {l:List (Int × Int)} {i:Nat} {s:Int × Int} (hs:l[i]?= some s) (h:okC s=false):EJ l=false:=by
 unfold EJ;rw [List.all_eq_false];exact ⟨s,List.mem_of_getElem? hs,by simp [h]⟩
theorem iu (l:List (Int × Int)) (hl:l.length<=1000000000):Ct prog 125 [.d (An l)] (vb (EJ l)) []:=by
 refine CB func125 c125 fun E hE=>?_
 simp [p125];refine Al (α:=Nat) (fun i=>⟨AO [(5, .d (An l)),(6,vi l.length),(7,vi i)],lk [],0⟩) (fun i=>i<=l.length/\EJ (l.take i)=true) (fun i=>l.length - i) 0 ?_ ?_ ?_
 . simp [EJ]
 . exact WK hE (lk [])
 . rintro i ⟨hi,hg⟩
   have hz:IntKind.wrap .i64 ((i:Int)+1)=((i:Int)+1):=AD (by omega) (by omega);simp [bE];refine Bh (fun h=>?_) (fun h=>?_)
   . simp at h
     have hil:i < l.length:=by omega
     obtain ⟨p,hp⟩:∃ p,l[i]?= some p:=⟨l[i],by simp [hil]⟩
     by_cases h1:268435456 < max p.1 p.2
     . have hb:okC p=false:=by unfold okC;rw [decide_eq_false (by omega)];rfl
       simp [hp,h1,AA];apply RZ;simp [results125,Jh hp hb]
     by_cases h2:min p.1 p.2 < -268435456
     . have hb:okC p=false:=by unfold okC;rw [decide_eq_false (p:= -268435456<=min p.1 p.2) (by omega)];simp
       simp [hp,h1,h2,AA];apply RZ;simp [results125,Jh hp hb]
     have hb:okC p=true:=by unfold okC;simp only [Bool.and_eq_true,decide_eq_true_eq];omega
     simp [hp,h1,h2,hz,AA];refine ⟨i+1,⟨by omega,by rw [RA hp,hg,hb];rfl⟩,by omega,?_⟩;exact WK hE (lk [])
   . simp at h
     have hil:i=l.length:=by omega
     subst hil;rw [List.take_length] at hg;simp;apply RZ;simp [results125,hg]
theorem pS (l m:List (Int × Int)) (hl:l.length<=1000000000) (_:m.length<=1000000000):Ct prog 167 [.d (An l), .d (An m)] (vb (decide (l=m))) []:=by
 refine CB func167 c167 fun E hE=>?_
 by_cases hlen:l.length=m.length
 case neg=>
   have hn:¬ (l.length:Int)=m.length:=by omega
   have hne:¬ l=m:=fun h=>hlen (by rw [h])
   simp [p167,hn];apply RZ;simp [results167,hne]
 simp [p167,hlen];refine Al (α:=Nat) (fun i=>⟨AO [(0, .d (An l)),(1, .d (An m)),(12,vi m.length),(13,vi i)],lk [],0⟩) (fun i=>i<=l.length/\l.take i=m.take i) (fun i=>l.length - i) 0 ?_ ?_ ?_
 . simp
 . exact WK hE (lk [])
 . rintro i ⟨hi,hg⟩
   have hz:IntKind.wrap .i64 ((i:Int)+1)=((i:Int)+1):=AD (by omega) (by omega);simp [bH];refine Bh (fun h=>?_) (fun h=>?_)
   . simp at h
     have hil:i < l.length:=by omega
     obtain ⟨a,ha⟩:∃ a,l[i]?= some a:=⟨l[i],by simp [hil]⟩
     obtain ⟨b,hb⟩:∃ b,m[i]?= some b:=⟨m[i],by simp [show i < m.length by omega]⟩
     by_cases h1:a.1=b.1/\a.2=b.2
     . have hab:a=b:=by ext;exact h1.1;exact h1.2
       simp [ha,hb,h1,hz];refine ⟨i+1,⟨by omega,by simp [List.take_add_one,hg,ha,hb,hab]⟩,by omega,?_⟩;exact WK hE (lk [])
     . have hne:¬ l=m:=fun h=>by
         rw [h,hb] at ha;cases ha;exact h1 ⟨rfl,rfl⟩
       have hd:(!decide (a.1=b.1)||!decide (a.2=b.2))=true:=by simp;omega
       simp [ha,hb,hd];apply RZ;simp [results167,hne]
   . simp at h
     have hil:i=l.length:=by omega
     have hlm:l=m:=by rw [hil,List.take_length,hlen,List.take_length] at hg;exact hg
     simp;apply RZ;simp [results167,hlm]
def spD (l:List (Int × Int)):List D:=l.flatMap fun s=>[di s.1,di s.2]
abbrev BC (l:List (Int × Int)):List V:=(spD l).map .d
@[simp] theorem Di (l:List (Int × Int)):(spD l).length=l.length*2:=by
 induction l with
 | nil=>rfl
 | cons a l ih=>simp [spD] at ih ⊢;omega
theorem bZ (l:List (Int × Int)) (p:Int × Int):spD (l++[p])=spD l++[di p.1,di p.2]:=by simp [spD]
abbrev v3 (a b c:Int):V:= .agg [vi a,vi b,vi c]
def Ju (out:List (Int × Int)) (b:Nat):V:=if out.isEmpty then .d (.lit (.slice none 0 0)) else .ls b 0 out.length 2
def AAV (out:List (Int × Int)) (b:Nat):List (Nat × List V):=if out.isEmpty then [] else [(b,BC out)]
@[simp] theorem o7 (b:Nat):Ju [] b= .d (.lit (.slice none 0 0)):=rfl
@[simp] theorem En (l:List (Int × Int)) (p:Int × Int) (b:Nat):Ju (l++[p]) b= .ls b 0 (l.length+1) 2:=by simp [Ju]
@[simp] theorem zJ (b:Nat):AAV [] b=[]:=rfl
@[simp] theorem y4 (l:List (Int × Int)) (p:Int × Int) (b:Nat):AAV (l++[p]) b=[(b,BC l++[vi p.1,vi p.2])]:=by simp [AAV,BC,bZ]
@[simp] theorem o8 (p:Int × Int) (b:Nat):Ju [p] b= .ls b 0 1 2:=rfl
@[simp] theorem zK (p:Int × Int) (b:Nat):AAV [p] b=[(b,[vi p.1,vi p.2])]:=rfl
@[simp] theorem rM:spD []=[]:=rfl
theorem Eo (p:Int × Int) (l:List (Int × Int)):spD (p::l)=di p.1::di p.2::spD l:=rfl
theorem fG (l m:List (Int × Int)):spD (l++m)=spD l++spD m:=by simp [spD]
theorem Yo:∀ {l:List (Int × Int)} {i:Nat} {p:Int × Int},l[i]?= some p->((spD l).drop (i*2)).take 2=[di p.1,di p.2]
 | [],i,p,h=>by simp at h
 | a::l,0,p,h=>by simp at h;subst h;rfl
 | a::l,i+1,p,h=>by
   simp at h;rw [show (i+1)*2=i*2+2 by omega,Eo,List.drop_succ_cons,List.drop_succ_cons];exact Yo h
theorem Cp {l:List (Int × Int)} {i:Nat} {p:Int × Int} (h:l[i]?= some p):List.take 2 (List.drop (i*2) (List.map V.d (spD l)))=[vi p.1,vi p.2]:=by
 rw [<-List.map_drop,<-List.map_take,Yo h];rfl
theorem TC:∀ {l:List (Int × Int)} {i:Nat} (p:Int × Int),i < l.length->(spD l).take (i*2)++[di p.1,di p.2]++(spD l).drop (i*2+2)=spD (l.set i p)
 | [],i,p,h=>by simp at h
 | a::l,0,p,h=>rfl
 | a::l,i+1,p,h=>by
   have:=TC (l:=l) (i:=i) p (by simpa using h);rw [show (i+1)*2=i*2+1+1 by omega,Eo,List.take_succ_cons,List.take_succ_cons,List.set_cons_succ,Eo,<-this];simp [List.drop_succ_cons]
theorem I9 {l:List (Int × Int)} {i:Nat} (p:Int × Int) (h:i < l.length):AA (List.map V.d (spD l)) (i*2) [vi p.1,vi p.2]=List.map V.d (spD (l.set i p)):=by
 unfold AA;rw [<-TC p h,List.map_append,List.map_append,List.map_take,List.map_drop];rfl
theorem Om (l:List (Int × Int)):(l.map fun s=>[di s.1,di s.2]).flatten=spD l:=rfl
theorem o9 (l:List (Int × Int)) (hl:l.length<=1000000000) (h0:l≠[]):Ct prog 220 [.d (An l)] (.ls 0 0 l.length 2) [(0,BC l)]:=by
 refine CB func220 c220 fun E hE=>?_
 obtain ⟨a,r,rfl⟩:=List.exists_cons_of_ne_nil h0;have hmx:(r.length+1)*16<=140737488355328/\r.length+1<=9223372036854775807:=by simp at hl;omega
 have e:An (a::r)= .sl 2 ([di a.1,di a.2]::r.map fun s=>[di s.1,di s.2]):=rfl;have ef:(r.map fun s=>[di s.1,di s.2]).flatten=spD r:=rfl;simp [p220,e,ef,AM,hmx];refine AB.by (lk [(0,5242880)]) ?_;have ec:BC (a::r)=V.d (di a.1)::V.d (di a.2)::(spD r).map .d:=rfl;simp [results220,ec]
def HC (l:List (Int × Int)):Nat->List (Int × Int)
 | 0=>l
 | i+1=>((HC l i).set i (l.getD (l.length - 1 - i) (0,0))).set (l.length - 1 - i) (l.getD i (0,0))
theorem GB (l:List (Int × Int)):∀ i,(HC l i).length=l.length
 | 0=>rfl
 | i+1=>by simp [HC,GB l i]
theorem J3 (l:List (Int × Int)):∀ i,2*i<=l.length->∀ k,k < l.length->(HC l i)[k]?= if k < i\/l.length - i<=k then l[l.length - 1 - k]? else l[k]?
 | 0,_,k,hk=>by simp [HC];omega
 | i+1,h,k,hk=>by
   have ih:=J3 l i (by omega) k hk
   have g:∀ j,j < l.length->some (l.getD j (0,0))=l[j]?:= fun j hj=>by
     rw [List.getD_eq_getElem?_getD,List.getElem?_eq_getElem hj];rfl
   simp only [HC];by_cases h1:k=l.length - 1 - i
   . subst h1
     rw [List.getElem?_set_self (by simp [GB];omega),g i (by omega),if_pos (by omega)];congr 1;omega
   . rw [List.getElem?_set_ne (by omega)]
     by_cases h2:k=i
     . subst h2
       rw [List.getElem?_set_self (by simp [GB];omega),g _ (by omega),if_pos (by omega)]
     . rw [List.getElem?_set_ne (by omega),ih]
       by_cases h3:k < i\/l.length - i<=k
       . rw [if_pos h3,if_pos (by omega)]
       . rw [if_neg h3,if_neg (by omega)]
theorem ZW {l:List (Int × Int)} {i:Nat} (h:2*i<=l.length) (h2:l.length<=2*i+1):HC l i=l.reverse:=by
 apply List.ext_getElem?;intro k;by_cases hk:k < l.length
 . rw [J3 l i h k hk,List.getElem?_reverse hk]
   by_cases h3:k < i\/l.length - i<=k
   . rw [if_pos h3]
   . rw [if_neg h3];congr 1;omega
 . rw [List.getElem?_eq_none (by rw [GB];omega),List.getElem?_eq_none (by rw [List.length_reverse];omega)]
theorem pW (l z:List (Int × Int)) (hl:l.length<=1000000000):Cm prog 225 [.ls 0 0 l.length 2] (lk [(0,BC (l++z))]) [0] (.ret (.tup [])) (lk [(0,BC (l.reverse++z))]):=by
 refine Cm.by gok eok mixed 1 func225 c225 rfl (by simp [ntmps225]) (by simp) (A7.at ?_) (by simp) ?_ fun E hE hs=>?_
 . simp
 . simp [LD]
 have w0:IntKind.wrap .i64 ((l.length:Int) - 1)=(l.length:Int) - 1:=AD (by omega) (by omega);simp [p225,w0];refine Al (α:=Nat) (fun i=>⟨AO [(0, .ls 0 0 l.length 2),(2,vi i),(3,vi ((l.length:Int) - 1 - i))],lk [(0,BC (HC l i++z))],1⟩) (fun i=>2*i<=l.length) (fun i=>l.length - i) 0 ?_ ?_ ?_
 . simp
 . refine AI.mkM hE (lk [(0,0)]) _ _ _ ?_ ?_ ?_ ?_ ?_ ?_<;>simp [HC]
 . intro i hi
   simp [bR];by_cases h:(i:Int) < (l.length:Int) - 1 - i
   . obtain ⟨j,hj⟩:∃ j,j=l.length - 1 - i:=⟨_,rfl⟩
     have hj':(l.length:Int) - 1 - i=(j:Int):=by omega
     obtain ⟨a,ha⟩:∃ a,l[i]?= some a:=⟨l[i],by simp [show i < l.length by omega]⟩
     obtain ⟨b,hb⟩:∃ b,l[j]?= some b:=⟨l[j],by simp [show j < l.length by omega]⟩
     have hlen:=GB l i;have ha':(HC l i++z)[i]?= some a:=by rw [List.getElem?_append_left (by omega),J3 l i hi i (by omega),if_neg (by omega),ha]
     have hb':(HC l i++z)[j]?= some b:=by rw [List.getElem?_append_left (by omega),J3 l i hi j (by omega),if_neg (by omega),hb]
     have hnx:((HC l i++z).set i b).set j a=HC l (i+1)++z:=by
       have e1:l.getD i (0,0)=a:=by rw [List.getD_eq_getElem?_getD,ha];rfl
       have e2:l.getD j (0,0)=b:=by rw [List.getD_eq_getElem?_getD,hb];rfl
       rw [HC,<-hj,e1,e2,List.set_append_left _ _ (by omega),List.set_append_left _ _ (by simp;omega)]
     generalize HC l i++z=L at ha' hb' hnx ⊢
     have hL1:=(List.getElem?_eq_some_iff.1 ha').1;have hL2:=(List.getElem?_eq_some_iff.1 hb').1;have ca:=Cp ha';have cb:=Cp hb';have s1:=I9 b hL1;have s2:=I9 (l:=L.set i b) a (i:=j) (by simpa using hL2);rw [hnx] at s2;have hdl:=Di L;have hdl2:=Di (L.set i b);have q1:i*2+2<=L.length*2:=by omega
     have q2:j*2+2<=L.length*2:=by omega
     have z1:=@wz i (by omega);have z2:IntKind.wrap .i64 ((j:Int) - 1)=(j:Int) - 1:=AD (by omega) (by omega);have i1:i < l.length:=by omega
     have j1:j < l.length:=by omega
     have hij:i < j:=by omega
     rw [hj'];simp [hij];refine AL [(13,0)] (by kernel_rfl) ?_;simp [inC,Nat.testBit,i1,j1,q1,q2,ca,cb,s1,s2,z1,z2];refine ⟨i+1,by omega,by omega,?_⟩;refine AI.mkM hE (lk [(0,0)]) _ _ _ ?_ ?_ ?_ ?_ ?_ ?_<;>simp
     omega
   . simp [h]
     have he:HC l i=l.reverse:=ZW hi (by omega);refine AB.by (lk [(0,0)]) ?_;simp [results225,he]
def DQ (d:List (Int × Int)) (p:Int × Int):List (Int × Int):=if d.getLast?= some p then d else d++[p]
def ddC (l:List (Int × Int)):List (Int × Int):=l.foldl DQ []
theorem IE {l:List (Int × Int)} {a:Nat} {p:Int × Int} (h:l[a]?= some p):ddC (l.take (a+1))=DQ (ddC (l.take a)) p:=by
 simp [ddC,List.take_add_one,h]
theorem S0 {l:List (Int × Int)}:∀ a,a+1<=l.length->(ddC (l.take (a+1))).getLast?= l[a]?:= fun a h=>by
 obtain ⟨p,hp⟩:∃ p,l[a]?= some p:=⟨l[a],by simp [show a < l.length by omega]⟩
 rw [IE hp,hp,DQ];by_cases h:(ddC (l.take a)).getLast?= some p
 . rw [if_pos h,h]
 . rw [if_neg h];simp
theorem I6 (l:List (Int × Int)):∀ a,(ddC (l.take a)).length<=a
 | 0=>by simp [ddC]
 | a+1=>by
   by_cases h:a < l.length
   . rw [IE (p:=l[a]) (by simp [h]),DQ]
     have:=I6 l a;split
     . omega
     . simp;omega
   . have:=I6 l a
     rw [List.take_of_length_le (by omega)] at this ⊢;omega
theorem KY:∀ (l:List (Int × Int)) (i:Nat),(spD l).take (i*2)=spD (l.take i)
 | l,0=>by simp
 | [],i+1=>by simp
 | a::l,i+1=>by
   rw [show (i+1)*2=i*2+1+1 by omega,Eo,List.take_succ_cons,List.take_succ_cons,List.take_succ_cons,Eo];rw [KY l i]
theorem YY (n:Nat):AM n [vi 0,vi 0]=List.map V.d (spD (List.replicate n ((0:Int),(0:Int)))):=by
 induction n with
 | zero=>rfl
 | succ n ih=>rw [List.replicate_succ,Eo,List.map_cons,List.map_cons,<-ih];rfl
theorem VK {d m:List (Int × Int)} {n:Nat} (hm:(d++m).length=n):AA (List.map V.d (spD (d++m))) (d.length*2) (AM (n - d.length) [vi 0,vi 0])=List.map V.d (spD (d++List.replicate (n - d.length) (0,0))):=by
 have hl:m.length=n - d.length:=by simp at hm;omega
 unfold AA;rw [YY,<-List.map_take,KY,<-List.map_drop]
 have h1:(spD (d++m)).drop (d.length*2+(List.map V.d (spD (List.replicate (n - d.length) ((0:Int),(0:Int))))).length)=[]:=by
   apply List.drop_of_length_le;simp;omega
 rw [h1,List.take_left,fG,List.map_append];simp
theorem ot (l:List (Int × Int)) (hl:l.length<=1000000000):Cm prog 223 [.ls 0 0 l.length 2] (lk [(0,BC l)]) [0] (.ret (.ls 0 0 (ddC l).length 2)) (lk [(0,BC (ddC l++List.replicate (l.length - (ddC l).length) (0,0)))]):=by
 refine Cm.by gok eok mixed 1 func223 c223 rfl (by simp [ntmps223]) (by simp) (A7.at ?_) (by simp) ?_ fun E hE hs=>?_
 . simp
 . simp [LD]
 by_cases h2:l.length < 2
 . have h2':(l.length:Int) < 2:=by omega
   have e:ddC l=l:=by
     clear hE h2'
     match l,h2 with
     | [],_=>rfl
     | [a],_=>rfl
     | _::_::_,h=>simp at h;omega
   simp [p223,h2'];refine AB.by (lk [(0,0)]) ?_;simp [results223,e]
 have h2':¬ (l.length:Int) < 2:=by omega
 simp [p223,h2'];refine Al (α:=Nat) (fun k=>⟨AO [(0, .ls 0 0 l.length 2),(3,vi k)],lk [(0,BC l)],1⟩) (fun k=>1<=k/\k<=l.length/\ddC (l.take k)=l.take k) (fun k=>l.length - k) 1 ?_ ?_ ?_
 . refine ⟨by omega,by omega,?_⟩
   cases l with
   | nil=>rfl
   | cons a l=>rfl
 . exact WKM hE (lk [(0,0)])
 rintro k ⟨k1,k2,hdd⟩
 simp [bP];refine Bh (fun h=>?_) (fun h=>?_)
 . simp at h
   obtain ⟨j,hj⟩:∃ j,k=j+1:=⟨k - 1,by omega⟩
   obtain ⟨a,ha⟩:∃ a,l[k]?= some a:=⟨l[k],by simp [h]⟩
   obtain ⟨b,hb⟩:∃ b,l[j]?= some b:=⟨l[j],by simp [show j < l.length by omega]⟩
   have ca:=Cp ha;have cb:=Cp hb;have q1:k*2+2<=l.length*2:=by omega
   have q2:j*2+2<=l.length*2:=by omega
   have hj1:j < l.length:=by omega
   have w1:IntKind.wrap .i64 ((k:Int) - 1)=(j:Int):=by rw [AD (by omega) (by omega)];omega
   have w2:=@wz k (by omega);have hlast:=S0 (l:=l) j (by omega);rw [hb,<-hj] at hlast;by_cases hab:a.1=b.1/\a.2=b.2
   . have hab':a=b:=by ext;exact hab.1;exact hab.2
     have hst:ddC (l.take (k+1))=l.take k:=by rw [IE ha,DQ,hlast,hab',if_pos rfl,hdd]
     simp [inC,Nat.testBit,h,hj1,q1,q2,ca,cb,w1,hab,k2];have hkl:(k:Int)<=l.length:=by omega
     refine BL (α:=Nat) 2 (fun _:Unit=>⟨AO [(0, .ls 0 0 l.length 2),(3,vi (ddC l).length)],lk [(0,BC (ddC l++l.drop (ddC l).length))],1⟩) (fun _=>(ddC l).length < l.length)
       (fun x=>⟨AO [(0, .ls 0 0 l.length 2),(3,vi (ddC (l.take (k+x))).length),(4, .ls 0 (k*2) (l.length - k) 2),(5,vi x)],lk [(0,BC (ddC (l.take (k+x))++l.drop (ddC (l.take (k+x))).length))],1⟩)
       (fun x=>1<=x/\k+x<=l.length/\(ddC (l.take (k+x))).length < k+x) (fun x=>l.length - x) 1 ?_ ?_ ?_ fun _ hc=>?_
     . refine ⟨by omega,by omega,?_⟩
       rw [hst,List.length_take];omega
     . rw [hst,List.length_take,Nat.min_eq_left (by omega),List.take_append_drop]
       exact WKM hE (lk [(0,0)])
     . rintro x ⟨x1,x2,x3⟩
       obtain ⟨dl,hdl⟩:∃ dl,(ddC (l.take (k+x))).length=dl:=⟨_,rfl⟩
       simp [bO];by_cases hx:x < l.length - k
       . obtain ⟨y,hy⟩:∃ y,x=y+1:=⟨x - 1,by omega⟩
         obtain ⟨c,hc⟩:∃ c,l[k+x]?= some c:=⟨l[k+x],by simp [show k+x < l.length by omega]⟩
         obtain ⟨e,he⟩:∃ e,l[k+y]?= some e:=⟨l[k+y],by simp [show k+y < l.length by omega]⟩
         have hnext:=IE hc;have hlst:=S0 (l:=l) (k+y) (by omega);rw [show k+y+1=k+x by omega,he] at hlst;rw [hdl] at x3
         have hMl:∀ t,dl<=t->(ddC (l.take (k+x))++l.drop dl)[t]?= l[t]?:= fun t ht=>by
           rw [List.getElem?_append_right (by omega),List.getElem?_drop,hdl];congr 1;omega
         have hc':(ddC (l.take (k+x))++l.drop dl)[k+x]?= some c:=by rw [hMl _ (by omega),hc]
         have he':(ddC (l.take (k+x))++l.drop dl)[k+y]?= some e:=by rw [hMl _ (by omega),he]
         have hML:(ddC (l.take (k+x))++l.drop dl).length=l.length:=by rw [List.length_append,hdl,List.length_drop];omega
         have hset:(ddC (l.take (k+x))++l.drop dl).set dl c=(ddC (l.take (k+x))++[c])++l.drop (dl+1):=by
           rw [List.set_append_right _ _ (by omega),hdl,Nat.sub_self];cases hd:l.drop dl with
           | nil=>have:=congrArg List.length hd;simp at this;omega
           | cons p r=>
             have hr:l.drop (dl+1)=r:=by
               have:=congrArg (List.drop 1) hd;rw [List.drop_drop] at this;simpa [Nat.add_comm] using this
             rw [hr];simp
         have cc:=Cp hc';have ce:=Cp he';have sc:=I9 c (l:=ddC (l.take (k+x))++l.drop dl) (i:=dl) (by omega);rw [hset] at sc;have hsl:=Di (ddC (l.take (k+x))++l.drop dl);rw [hML] at hsl;rw [hdl];obtain ⟨M,hM⟩:∃ M,ddC (l.take (k+x))++l.drop dl=M:=⟨_,rfl⟩
         rw [hM] at cc ce sc hsl ⊢;have z1:IntKind.wrap .i64 ((x:Int) - 1)=(y:Int):=by rw [AD (by omega) (by omega)];omega
         have z2:=@wz x (by omega);have z3:=@wz dl (by omega);have r1:(k+x)*2+2<=l.length*2:=by omega
         have r2:(k+y)*2+2<=l.length*2:=by omega
         have r3:dl*2+2<=l.length*2:=by omega
         have m1:k*2+x*2=(k+x)*2:=by omega
         have m2:k*2+y*2=(k+y)*2:=by omega
         have y1:y < l.length - k:=by omega
         have d1:dl < l.length:=by omega
         have xx:(x:Int) < ((l.length - k:Nat):Int):=by omega
         by_cases hce:c.1=e.1/\c.2=e.2
         . have hce':c=e:=by ext;exact hce.1;exact hce.2
           have hd2:ddC (l.take (k+(x+1)))=ddC (l.take (k+x)):=by rw [<-Nat.add_assoc,hnext,DQ,hlst,hce',if_pos rfl]
           simp [xx,inC,Nat.testBit,hx,y1,hsl,r1,r2,m1,m2,cc,ce,z1,z2,hce];refine ⟨x+1,⟨by omega,by omega,by rw [hd2];omega⟩,by omega,?_⟩;rw [hd2,hdl,hM];exact WKM hE (lk [(0,0)])
         . have hd2:ddC (l.take (k+(x+1)))=ddC (l.take (k+x))++[c]:=by rw [<-Nat.add_assoc,hnext,DQ,hlst,if_neg];intro h;cases h;exact hce ⟨rfl,rfl⟩
           have hne:(!decide (c.1=e.1)||!decide (c.2=e.2))=true:=by simp;omega
           have hdl2:(ddC (l.take (k+x))++[c]).length=dl+1:=by simp [hdl]
           simp [xx,inC,Nat.testBit,hx,y1,hsl,r1,r2,r3,m1,m2,cc,ce,z1,z2,z3,hne,d1,sc];refine ⟨x+1,⟨by omega,by omega,by rw [hd2,hdl2];omega⟩,by omega,?_⟩;rw [hd2,hdl2];exact WKM hE (lk [(0,0)])
       . have hkx:k+x=l.length:=by omega
         rw [hkx,List.take_length] at x3 hdl;rw [hkx,List.take_length];simp [hx];refine ⟨by omega,?_⟩;exact WKM hE (lk [(0,0)])
     . obtain ⟨d,hd⟩:∃ d,ddC l=d:=⟨_,rfl⟩
       rw [hd] at hc ⊢;have hML:(d++l.drop d.length).length=l.length:=by simp;omega
       have hcl:=VK hML;have hsl:=Di (d++l.drop d.length);rw [hML] at hsl;have hne:¬ l.length - d.length=0:=by omega
       have hle:d.length<=l.length:=by omega
       have hfit:d.length*2+(l.length - d.length)*2<=l.length*2:=by omega
       simp [hle,hne,hfit,hsl,hcl];refine AB.by (lk [(0,0)]) ?_;simp [results223]
   . have hd:(decide (a.1=b.1)&&decide (a.2=b.2))=false:=by simp;omega
     simp [inC,Nat.testBit,h,hj1,q1,q2,ca,cb,w1,w2,hd];refine ⟨k+1,⟨by omega,by omega,?_⟩,by omega,?_⟩
     . rw [IE ha,DQ,hlast,if_neg,hdd,List.take_add_one (i:=k),ha];rfl
       intro e;cases e;exact hab ⟨rfl,rfl⟩
     . exact WKM hE (lk [(0,0)])
 . simp at h
   have hk:k=l.length:=by omega
   subst hk;rw [List.take_length] at hdd;simp;refine AB.by (lk [(0,0)]) ?_;simp [results223,hdd]
end Go.Proofs.Tryz
namespace Go.Geo
abbrev C:=Int × Int
def lt (a b:C):Prop:=a.1 < b.1\/(a.1=b.1/\a.2 < b.2)
def cross (a b c:C):Int:=(b.1 - a.1)*(c.2 - a.2) - (b.2 - a.2)*(c.1 - a.1)
def xp (u v:C):Int:=u.1*v.2 - u.2*v.1
def pos (u:C):Prop:=0 < u.1\/(u.1=0/\0 < u.2)
def sb (a b:C):C:=(a.1 - b.1,a.2 - b.2)
theorem lt_irr (a:C):¬ lt a a:=by unfold lt;omega
theorem lt_trans {a b c:C} (h1:lt a b) (h2:lt b c):lt a c:=by unfold lt at*;omega
theorem lt_tri (a b:C):lt a b\/a=b\/lt b a:=by
 rcases a with ⟨a1,a2⟩;rcases b with ⟨b1,b2⟩;simp only [lt,Prod.mk.injEq];omega
theorem DT {a b:C} (h:lt a b):pos (sb b a):=by unfold lt at h;unfold pos sb;omega
theorem kh (u v w:C):v.1*xp u w=w.1*xp u v+u.1*xp v w:=by unfold xp;grind
theorem IU (a b c:C):cross a b c=xp (sb b a) (sb c a):=by unfold cross xp sb;grind
theorem cross_xp2 (a b c:C):cross a b c=xp (sb b a) (sb c b):=by unfold cross xp sb;grind
theorem JB (a b c:C):cross a b c=xp (sb c a) (sb c b):=by unfold cross xp sb;grind
theorem Q6 (u v:C):xp u v= - xp v u:=by unfold xp;grind
theorem HY (a b c:C):cross a b c= - cross a c b:=by unfold cross;grind
theorem cross_swap2 (a b c:C):cross a b c= - cross b a c:=by unfold cross;grind
theorem cross_self (a b:C):cross a b a=0:=by unfold cross;grind
theorem cross_self2 (a b:C):cross a b b=0:=by unfold cross;grind
theorem cross_self3 (a b:C):cross a a b=0:=by unfold cross;grind
theorem C8 {x y:Int} (h:0 < x) (hy:0<=x*y):0<=y:=by
 apply Int.not_lt.1;intro hn
 have:=Int.mul_neg_of_pos_of_neg h hn;omega
theorem tr {u v w:C} (hu:pos u) (hv:pos v) (hw:pos w) (h1:0<=xp u v) (h2:0<=xp v w):0<=xp u w:=by
 rcases hv with hv | ⟨hv,hv2⟩
 . refine C8 hv ?_
   rw [kh];have a:=Int.mul_nonneg (show 0<=w.1 by unfold pos at hw;omega) h1;have b:=Int.mul_nonneg (show 0<=u.1 by unfold pos at hu;omega) h2;omega
 . have e1:xp v w=v.2* -w.1:=by unfold xp;rw [hv];grind
   rw [e1] at h2;have:=C8 hv2 h2;have hw1:w.1=0:=by unfold pos at hw;omega
   have hw2:0 < w.2:=by unfold pos at hw;omega
   have e2:xp u w=u.1*w.2:=by unfold xp;rw [hw1];grind
   rw [e2];exact Int.mul_nonneg (by unfold pos at hu;omega) (by omega)
def CV:List C->C->List C
 | b::a::r,p=>if cross a b p<=0 then CV (a::r) p else p::b::a::r
 | st,p=>p::st
def chainR (l:List C):List C:=l.foldl CV []
def edg:List C->List (C × C)
 | b::a::r=>(a,b)::edg (a::r)
 | _=>[]
def Eb (done:List C):List C->Prop
 | c::b::a::r=>lt b c/\0 < cross a b c/\(∀ q∈done,0<=cross b c q)/\Eb done (b::a::r)
 | c::b::[]=>lt b c/\∀ q∈done,0<=cross b c q
 | _=>True
theorem Eb.tail {done:List C} {b:C}:∀ {r:List C},Eb done (b::r)->Eb done r
 | [],_=>trivial
 | [_],_=>trivial
 | _::_::_,h=>h.2.2.2
theorem Eb.lt2 {done:List C} {c b:C}:∀ {r:List C},Eb done (c::b::r)->lt b c
 | [],h=>h.1
 | _::_,h=>h.1
theorem Eb.above {done:List C} {c b:C}:∀ {r:List C},Eb done (c::b::r)->∀ q∈done,0<=cross b c q
 | [],h=>h.2
 | _::_,h=>h.2.2.1
theorem Eb.one {done:List C} {q:C}:∀ {st:List C},Eb done st->(∀ e∈edg st,0<=cross e.1 e.2 q)->Eb (done++[q]) st
 | [],_,_=>trivial
 | [_],_,_=>trivial
 | [c,b],h,hq=>⟨h.1,fun x hx=>by
     rcases List.mem_append.1 hx with hx | hx
     . exact h.2 x hx
     . rw [List.mem_singleton.1 hx];exact hq (b,c) (by simp [edg])⟩
 | c::b::a::r,h,hq=>⟨h.1,h.2.1,fun x hx=>by
     rcases List.mem_append.1 hx with hx | hx
     . exact h.2.2.1 x hx
     . rw [List.mem_singleton.1 hx];exact hq (b,c) (by simp [edg]),Eb.one h.2.2.2 fun e he=>hq e (by simp only [edg,List.mem_cons] at he ⊢;exact Or.inr he)⟩
theorem TK {done:List C} {p:C}:∀ {st:List C},Eb done st->(∀ b∈st,lt b p)->(∀ b a r,st=b::a::r->0<=cross a b p)->∀ e∈edg st,0<=cross e.1 e.2 p
 | [],_,_,_,_,he=>by simp [edg] at he
 | [_],_,_,_,_,he=>by simp [edg] at he
 | [c,b],_,_,h,e,he=>by simp [edg] at he;subst he;exact h c b [] rfl
 | c::b::a::r,hg,hl,h,e,he=>by
   simp only [edg,List.mem_cons] at he;have h0:=h c b (a::r) rfl;have hba:lt a b:=hg.2.2.2.lt2;have hcb:=hg.1;rcases he with rfl | he
   . exact h0
   . refine TK hg.2.2.2 (fun x hx=>hl x (by simp [hx])) (fun x y s hs=>?_) e (by simp only [edg,List.mem_cons];exact he)
     cases hs;have h1:=hg.2.1;rw [cross_xp2] at h1 ⊢;rw [IU] at h0;exact tr (DT hba) (DT hcb) (DT (hl b (by simp))) (Int.le_of_lt h1) h0
theorem ME {done:List C} {p:C} (hp:∀ q∈done,lt q p):∀ {st:List C},Eb done st->(∀ b∈st,b∈done)->(∀ b r,st=b::r->∀ q∈done,¬ lt q b->0<=cross b p q)->(∀ f,st.getLast?= some f->∀ q∈done,¬ lt q f)->Eb (done++[p]) (CV st p)
 | [],_,_,_,_=>trivial
 | [b],_,hs,hk,h1=>by
   refine ⟨hp b (hs b (by simp)),fun q hq=>?_⟩;rcases List.mem_append.1 hq with hq | hq
   . exact hk b [] rfl q hq (h1 b rfl q hq)
   . rw [List.mem_singleton.1 hq,cross_self2];omega
 | b::a::r,hg,hs,hk,h1=>by
   have hab:=hg.lt2;have hbp:=hp b (hs b (by simp));have hap:=hp a (hs a (by simp));unfold CV;by_cases hc:cross a b p<=0
   . rw [if_pos hc]
     refine ME hp hg.tail (fun x hx=>hs x (by simp [hx])) (fun a' r' e q hq hqa=>?_) (fun f e q hq=>h1 f (by rw [List.getLast?_cons_cons];exact e) q hq);cases e;have hqp:=hp q hq;have hba:0<=xp (sb p a) (sb b a):=by rw [HY,IU] at hc;omega
     have hbp2:0<=xp (sb p b) (sb p a):=by rw [JB] at hc;rw [Q6];omega
     rcases lt_tri q b with hqb | rfl | hbq
     . rcases lt_tri a q with haq | rfl | hqa2
       . have h2:=hg.above q hq
         rw [IU] at h2 ⊢;exact tr (DT hap) (DT hab) (DT haq) hba h2
       . rw [cross_self];omega
       . exact absurd hqa2 hqa
     . rw [IU];exact hba
     . have h2:=hk b (a::r) rfl q hq (fun h=>lt_irr _ (lt_trans h hbq))
       rw [HY,JB] at h2;rw [HY,JB];have h3:0<=xp (sb p q) (sb p b):=by rw [Q6];omega
       have:=tr (DT hqp) (DT hbp) (DT hap) h3 hbp2;rw [Q6] at this;omega
   . rw [if_neg hc]
     refine ⟨hbp,by omega,fun q hq=>?_,hg.one (TK hg (fun x hx=>hp x (hs x hx)) fun b' a' r' e=>by cases e;omega)⟩;rcases List.mem_append.1 hq with hq | hq
     . rcases lt_tri q b with hqb | rfl | hbq
       . have h2:=hg.above q hq
         have h3:0<=xp (sb b q) (sb b a):=by
           have:cross a b q=xp (sb b q) (sb b a):=by unfold cross xp sb;grind
           omega
         have h4:0<=xp (sb b a) (sb p b):=by rw [<-cross_xp2];omega
         have:=tr (DT hqb) (DT hab) (DT hbp) h3 h4;have e:cross b p q=xp (sb b q) (sb p b):=by unfold cross xp sb;grind
         omega
       . rw [cross_self];omega
       . exact hk b (a::r) rfl q hq fun h=>lt_irr _ (lt_trans h hbq)
     . rw [List.mem_singleton.1 hq,cross_self2];omega
def Sorted:List C->Prop:=List.Pairwise lt
theorem pushS_head (p:C):∀ st:List C,∃ r,CV st p=p::r/\(st=[]->r=[])/\(st≠[]->r≠[]/\r.getLast?= st.getLast?)/\r.Sublist st
 | []=>⟨[],rfl,fun _=>rfl,fun h=>absurd rfl h,List.Sublist.refl _⟩
 | [b]=>⟨[b],rfl,fun h=>by simp at h,fun _=>⟨by simp,rfl⟩,List.Sublist.refl _⟩
 | b::a::r=>by
   unfold CV;by_cases h:cross a b p<=0
   . rw [if_pos h]
     obtain ⟨r',h1,_,h3,h4⟩:=pushS_head p (a::r);exact ⟨r',h1,fun h=>by simp at h,fun _=>by rw [List.getLast?_cons_cons];exact h3 (by simp),h4.cons b⟩
   . rw [if_neg h]
     exact ⟨b::a::r,rfl,fun h=>by simp at h,fun _=>⟨by simp,rfl⟩,List.Sublist.refl _⟩
structure J1 (l st:List C):Prop where
 good:Eb l st
 sub:st.reverse.Sublist l
 top:st.head?= l.getLast?
 bot:st.getLast?= l.head?
theorem chainR_snoc (l:List C) (p:C):chainR (l++[p])=CV (chainR l) p:=by simp [chainR]
theorem Dh {l:List C} (h:Sorted l) {f:C} (hf:l.head?= some f):∀ q∈l,¬ lt q f:=by
 cases l with
 | nil=>simp at hf
 | cons a r=>
   simp at hf;subst hf;intro q hq hlt;rcases List.mem_cons.1 hq with rfl | hq
   . exact lt_irr _ hlt
   . exact lt_irr _ (lt_trans hlt ((List.pairwise_cons.1 h).1 q hq))
theorem F4 (l:List C) (h:Sorted l):J1 l (chainR l):=by
 have key:∀ n,∀ l:List C,l.length=n->Sorted l->J1 l (chainR l):=by
   intro n;induction n with
   | zero=>
     intro l hl _;rw [List.length_eq_zero_iff] at hl;subst hl;exact ⟨trivial,List.Sublist.refl _,rfl,rfl⟩
   | succ n ih=>
     intro l hl hs;rcases List.eq_nil_or_concat l with rfl | ⟨l',p,rfl⟩
     . simp at hl
     rw [List.concat_eq_append] at hl hs ⊢;have hs':Sorted l':=(List.pairwise_append.1 hs).1;have hp:∀ q∈l',lt q p:=fun q hq=>(List.pairwise_append.1 hs).2.2 q hq p (by simp)
     have hi:=ih l' (by simpa using hl) hs';rw [chainR_snoc];obtain ⟨r,e,e1,e2,e3⟩:=pushS_head p (chainR l');have hmem:∀ b∈chainR l',b∈l':=fun b hb=>hi.sub.subset (List.mem_reverse.2 hb)
     refine ⟨ME hp hi.good hmem ?_ ?_,?_,?_,?_⟩
     . intro b r' hb q hq hqb
       have ht:=hi.top;rw [hb] at ht;simp at ht
       have hql:q=b:=by
         rcases List.eq_nil_or_concat l' with rfl | ⟨l2,x,rfl⟩
         . simp at hq
         . rw [List.concat_eq_append] at ht hq hs'
           simp at ht;subst ht;rcases List.mem_append.1 hq with hq | hq
           . exact absurd ((List.pairwise_append.1 hs').2.2 q hq b (by simp)) hqb
           . exact List.mem_singleton.1 hq
       rw [hql,cross_self];omega
     . intro f hf
       exact Dh hs' (by rw [<-hi.bot];exact hf)
     . rw [e,List.reverse_cons]
       exact ((List.reverse_sublist.2 e3).trans hi.sub).append (List.Sublist.refl _)
     . rw [e];simp
     . rw [e]
       by_cases h0:chainR l'=[]
       . have hl':l'=[]:=by
           have:=hi.top;rw [h0] at this;simp at this;cases l' with
           | nil=>rfl
           | cons a b=>simp [List.getLast?_cons] at this
         subst hl';rw [e1 h0];rfl
       . obtain ⟨h1,h2⟩:=e2 h0
         cases r with
         | nil=>exact absurd rfl h1
         | cons x r=>
           rw [List.getLast?_cons_cons,h2,hi.bot];cases l' with
           | nil=>exact absurd rfl h0
           | cons a b=>rfl
 exact key _ l rfl h
def steps:List C->List (C × C)
 | a::b::r=>(a,b)::steps (b::r)
 | _=>[]
theorem Kr (a b:C):∀ l:List C,steps (l++[a,b])=steps (l++[a])++[(a,b)]
 | []=>rfl
 | [x]=>rfl
 | x::y::r=>by
   have:=Kr a b (y::r);simp only [List.cons_append,steps] at this ⊢;rw [this]
theorem L9:∀ st:List C,steps st.reverse=(edg st).reverse
 | []=>rfl
 | [_]=>rfl
 | b::a::r=>by
   have h:=L9 (a::r);rw [edg,List.reverse_cons (a:=(a,b)),<-h,List.reverse_cons (a:=b),List.reverse_cons,List.append_assoc];exact Kr a b r.reverse
theorem MA (x:C) (u:List C):∀ l:List C,steps (l++x::u)=steps (l++[x])++steps (x::u)
 | []=>rfl
 | [a]=>by simp [steps]
 | a::b::r=>by
   have:=MA x u (b::r);simp only [List.cons_append,steps] at this ⊢;rw [this]
def cyc (r:List C):List (C × C):=match r with | []=>[] | a::t=>steps (a::t++[a])
def neg (p:C):C:=(-p.1, -p.2)
theorem EH (p:C):neg (neg p)=p:=by simp [neg]
theorem MC (a b c:C):cross (neg a) (neg b) (neg c)=cross a b c:=by unfold cross neg;grind
theorem Qy {a b:C}:lt (neg a) (neg b)↔lt b a:=by unfold lt neg;omega
theorem On (p:C):∀ st:List C,CV (st.map neg) (neg p)=(CV st p).map neg
 | []=>rfl
 | [_]=>rfl
 | b::a::r=>by
   have ih:=On p (a::r);simp only [List.map_cons] at ih ⊢;unfold CV;simp only [MC];split
   . exact ih
   . rfl
theorem Qz (l:List C):chainR (l.map neg)=(chainR l).map neg:=by
 have key:∀ (l st:List C),(l.map neg).foldl CV (st.map neg)=(l.foldl CV st).map neg:=by
   intro l;induction l with
   | nil=>intro st;rfl
   | cons a l ih=>intro st;simp only [List.map_cons,List.foldl_cons];rw [On,ih]
 exact key l []
theorem Ks {l:List C} (h:Sorted l):Sorted (l.reverse.map neg):=by
 unfold Sorted at*;rw [List.pairwise_map,List.pairwise_reverse];exact h.imp fun h=>Qy.2 h
theorem TD (f:C->C):∀ st:List C,edg (st.map f)=(edg st).map fun e=>(f e.1,f e.2)
 | []=>rfl
 | [_]=>rfl
 | b::a::r=>by
   have:=TD f (a::r);simp only [List.map_cons,edg] at this ⊢;rw [this]
def Bo (l:List C):List C:=if l.length < 3 then l else (chainR l).tail.reverse++(chainR l.reverse).tail.reverse
theorem Yp {l:List C} (h:Sorted l):J1 (l.reverse.map neg) ((chainR l.reverse).map neg):=by
 rw [<-Qz];exact F4 _ (Ks h)
theorem Yq {l st:List C} (h:J1 l st) {a:C} (ha:l.getLast?= some a):∃ t,st=a::t:=by
 have:=h.top;rw [ha] at this;cases st with
 | nil=>simp at this
 | cons b t=>simp at this;exact ⟨t,by rw [this]⟩
theorem chains {l:List C} (h:Sorted l) (h2:2<=l.length):∃ f g lo up,l.head?= some f/\l.getLast?= some g/\f≠g/\chainR l=g::lo/\chainR l.reverse=f::up/\lo.getLast?= some f/\up.getLast?= some g:=by
 cases l with
 | nil=>simp at h2
 | cons f r=>
   rcases List.eq_nil_or_concat r with rfl | ⟨m,g,rfl⟩
   . simp at h2
   rw [List.concat_eq_append] at*
   have hfg:f≠g:=by
     intro e;have:=(List.pairwise_cons.1 h).1 g (by simp);rw [e] at this;exact lt_irr _ this
   have hl:(f::(m++[g])).getLast?= some g:=by rw [show f::(m++[g])=(f::m)++[g] from rfl,List.getLast?_append];rfl
   obtain ⟨lo,hlo⟩:=Yq (F4 _ h) hl;have hu:=Yp h;have hl2:((f::(m++[g])).reverse.map neg).getLast?= some (neg f):=by rw [List.getLast?_map,List.getLast?_reverse];rfl
   obtain ⟨u',hu'⟩:=Yq hu hl2;have hb:=(F4 _ h).bot;rw [hlo] at hb;have hub:=hu.bot
   obtain ⟨up,hup⟩:∃ up,chainR (f::(m++[g])).reverse=f::up:=by
     cases hc:chainR (f::(m++[g])).reverse with
     | nil=>rw [hc] at hu';simp at hu'
     | cons a t=>
       rw [hc] at hu';simp only [List.map_cons,List.cons.injEq] at hu';have:a=f:=by rw [<-EH a,hu'.1,EH]
       exact ⟨t,by rw [this]⟩
   refine ⟨f,g,lo,up,rfl,hl,hfg,hlo,hup,?_,?_⟩
   . cases lo with
     | nil=>simp at hb;exact absurd hb.symm hfg
     | cons a t=>rw [List.getLast?_cons_cons] at hb;rw [hb];rfl
   . rw [hup] at hub
     simp at hub;cases up with
     | nil=>
       simp at hub;have:f=g:=by rw [<-EH f,hub,EH]
       exact absurd this hfg
     | cons a t=>
       simp [List.getLast?_cons_cons] at hub;rw [<-List.map_cons,List.getLast?_map,Option.map_eq_some_iff] at hub;obtain ⟨x,hx1,hx2⟩:=hub;rw [hx1,show x=g by rw [<-EH x,hx2,EH]]
def le (a b:C):Prop:=¬ lt b a
theorem HE (st:List C) (e:C × C):e∈steps st.reverse↔e∈edg st:=by rw [L9,List.mem_reverse]
theorem XP {l:List C} (h:Sorted l) (h3:3<=l.length) (e:C × C):e∈cyc (Bo l)↔e∈edg (chainR l)\/e∈edg (chainR l.reverse):=by
 obtain ⟨f,g,lo,up,hf,hg,hfg,e1,e2,b1,b2⟩:=chains h (by omega);unfold Bo;rw [if_neg (by omega),e1,e2];simp only [List.tail_cons]
 obtain ⟨lo',rfl⟩:∃ lo',lo=lo'++[f]:=by
   rcases List.eq_nil_or_concat lo with rfl | ⟨x,y,rfl⟩
   . simp at b1
   . rw [List.concat_eq_append] at b1 ⊢;simp at b1;exact ⟨x,by rw [b1]⟩
 obtain ⟨up',rfl⟩:∃ up',up=up'++[g]:=by
   rcases List.eq_nil_or_concat up with rfl | ⟨x,y,rfl⟩
   . simp at b2
   . rw [List.concat_eq_append] at b2 ⊢;simp at b2;exact ⟨x,by rw [b2]⟩
 have hc:cyc ((lo'++[f]).reverse++(up'++[g]).reverse)=steps ((g::(lo'++[f])).reverse)++steps ((f::(up'++[g])).reverse):=by
   simp only [List.reverse_append,List.reverse_cons,List.reverse_nil,List.nil_append,List.cons_append,cyc];have:=MA g (up'.reverse++[f]) (f::lo'.reverse);simpa [List.append_assoc] using this
 rw [hc,List.mem_append,HE,HE]
theorem I5 {done:List C}:∀ {st:List C},Eb done st->∀ e∈edg st,lt e.1 e.2/\∀ q∈done,0<=cross e.1 e.2 q
 | [],_,_,he=>by simp [edg] at he
 | [_],_,_,he=>by simp [edg] at he
 | c::b::r,h,e,he=>by
   simp only [edg,List.mem_cons] at he;rcases he with rfl | he
   . exact ⟨h.lt2,h.above⟩
   . exact I5 h.tail e he
theorem dU {l:List C} (h:Sorted l):∀ e∈edg (chainR l.reverse),lt e.2 e.1/\∀ q∈l,0<=cross e.1 e.2 q:=fun e he=>by
 have hg:=(Yp h).good;obtain ⟨h1,h2⟩:=I5 hg (neg e.1,neg e.2) (by rw [TD];exact List.mem_map.2 ⟨e,he,rfl⟩);refine ⟨Qy.1 h1,fun q hq=>?_⟩;have:=h2 (neg q) (List.mem_map.2 ⟨q,List.mem_reverse.2 hq,rfl⟩)
 rwa [MC] at this
theorem UN {l:List C} (h:Sorted l) (h3:3<=l.length):∀ e∈cyc (Bo l),∀ q∈l,0<=cross e.1 e.2 q:=fun e he=>by
 rcases (XP h h3 e).1 he with he | he
 . exact (I5 (F4 l h).good e he).2
 . exact (dU h e he).2
theorem hull_sub {l:List C} (h:Sorted l):∀ p∈Bo l,p∈l:=fun p hp=>by
 unfold Bo at hp;split at hp
 . exact hp
 . rcases List.mem_append.1 hp with hp | hp
   . exact (F4 l h).sub.subset (List.mem_reverse.2 (List.mem_of_mem_tail (List.mem_reverse.1 hp)))
   . have h1:=List.mem_of_mem_tail (List.mem_reverse.1 hp)
     have h2:=(Yp h).sub.subset (List.mem_reverse.2 (List.mem_map.2 ⟨p,h1,rfl⟩));obtain ⟨q,hq,e⟩:=List.mem_map.1 h2;have:p=q:=by rw [<-EH p,<-e,EH]
     rw [this];exact List.mem_reverse.1 hq
end Go.Geo
namespace Go.Proofs.Tryz
open Go.Psl
open Go.Geo (cross CV chainR)
def Fo:List (Int × Int)->Int × Int->List (Int × Int)
 | b::a::r,p=>if cross a b p<=0 then Fo (a::r) p else b::a::r
 | st,_=>st
theorem Ek (p:Int × Int):∀ st,CV st p=p::Fo st p
 | []=>rfl
 | [_]=>rfl
 | b::a::r=>by
   unfold CV Fo;split
   . exact Ek p (a::r)
   . rfl
theorem N9 (p:Int × Int):∀ st q,q∈Fo st p->q∈st
 | [],q,h=>h
 | [_],q,h=>h
 | b::a::r,q,h=>by
   unfold Fo at h;split at h
   . exact List.mem_cons_of_mem _ (N9 p (a::r) q h)
   . exact h
theorem OA {p a b:Int × Int} {r:List (Int × Int)}:Fo (b::a::r) p=if cross a b p<=0 then Fo (a::r) p else b::a::r:=rfl
theorem KK (p:Int × Int):∀ st,(Fo st p).length<=st.length
 | []=>Nat.le_refl _
 | [_]=>Nat.le_refl _
 | b::a::r=>by
   unfold Fo;split
   . exact Nat.le_succ_of_le (KK p (a::r))
   . exact Nat.le_refl _
theorem Ez:∀ (l:List (Int × Int)),(chainR l).length<=l.length:=fun l=>by
 have key:∀ (l st:List (Int × Int)),(l.foldl CV st).length<=st.length+l.length:=by
   intro l;induction l with
   | nil=>intro st;simp
   | cons a l ih=>
     intro st;have:=ih (CV st a);have h2:=KK a st;rw [Ek] at this;simp only [List.foldl_cons,List.length_cons] at this ⊢;rw [Ek];omega
 have:=key l [];simpa [chainR] using this
theorem QA {l:List (Int × Int)}:∀ q∈chainR l,q∈l:=fun q h=>by
 have key:∀ (l st:List (Int × Int)),∀ q∈l.foldl CV st,q∈l\/q∈st:=by
   intro l;induction l with
   | nil=>intro st q h;exact Or.inr h
   | cons a l ih=>
     intro st q h;rcases ih _ q h with h | h
     . exact Or.inl (List.mem_cons_of_mem _ h)
     . rw [Ek] at h
       rcases List.mem_cons.1 h with rfl | h
       . exact Or.inl (List.mem_cons_self ..)
       . exact Or.inr (N9 a st q h)
 rcases key l [] q h with h | h
 . exact h
 . simp at h
theorem QB {l:List (Int × Int)} {i:Nat} {p:Int × Int} (h:l[i]?= some p):chainR (l.take (i+1))=p::Fo (chainR (l.take i)) p:=by
 rw [List.take_add_one,h]
 show chainR (l.take i++[p])=_
 rw [Go.Geo.chainR_snoc,Ek]
def Ld (out z:List (Int × Int)) (b:Nat):List (Nat × List V):=if out.isEmpty then [] else [(b,BC (out++z))]
@[simp] theorem mX (z:List (Int × Int)) (b:Nat):Ld [] z b=[]:=rfl
theorem CN (l z:List (Int × Int)) (p:Int × Int) (b:Nat):Ld (l++[p]) z b=[(b,BC (l++[p]++z))]:=by simp [Ld]
theorem KL (l z:List (Int × Int)):List.take (l.length*2) (List.map V.d (spD (l++z)))=List.map V.d (spD l):=by
 rw [<-List.map_take,KY,List.take_left]
theorem Sj (p:Int × Int) (l:List (Int × Int)):List.map V.d (spD (l++[p]))=List.map V.d (spD l)++[vi p.1,vi p.2]:=by rw [bZ];simp
theorem CO (O:List (Int × Int)):O=[]\/∃ o x,O=o++[x]:=by
 rcases List.eq_nil_or_concat O with rfl | ⟨o,x,rfl⟩
 . exact Or.inl rfl
 . exact Or.inr ⟨o,x,List.concat_eq_append⟩
theorem GP {O:List (Int × Int)} (h:O≠[]) (b:Nat):Ju O b= .ls b 0 O.length 2:=by
 obtain rfl | ⟨o,x,rfl⟩:=CO O
 . exact absurd rfl h
 . simp
theorem GQ {O z:List (Int × Int)} (h:O≠[]) (b:Nat):Ld O z b=[(b,BC (O++z))]:=by
 obtain rfl | ⟨o,x,rfl⟩:=CO O
 . exact absurd rfl h
 . exact CN o z x b
theorem XN (O z:List (Int × Int)) (b n:Nat) (h:b < n):A7 n (Ld O z b):=by
 obtain rfl | ⟨o,x,rfl⟩:=CO O
 . trivial
 . rw [CN]
   simp [h]
theorem jj (O:List (Int × Int)) (b n:Nat) (h:b < n):AC (· < n) AR (Ju O b):=by
 obtain rfl | ⟨o,x,rfl⟩:=CO O
 . simp
 . simp [h]
theorem OL {Γ:Tys} {t:TypeId} {O:List (Int × Int)} {b:Nat}:Iy Γ t (Ju O b)=(Γ t).bind fun y=>match y.sh with | .slice _=>some (.d (.lit (.int .i64 O.length)), .none) | _=>none:=by
 obtain rfl | ⟨o,x,rfl⟩:=CO O
 . exact OQ
 . rw [En,Sw];congr;funext y;cases y.sh<;>simp
theorem QH (a b p:Int × Int):TX (DU a b) (DU b p)=cross a b p:=(Go.Geo.cross_xp2 a b p).symm
theorem Lv {l:List (Int × Int)} (h2:2<=l.length):∃ top rest,chainR l=top::rest/\rest≠[]:=by
 rcases List.eq_nil_or_concat l with rfl | ⟨l',p,rfl⟩
 . simp at h2
 . rw [List.concat_eq_append,Go.Geo.chainR_snoc]
   obtain ⟨r,e,_,e2,_⟩:=Go.Geo.pushS_head p (chainR l');refine ⟨p,r,e,fun hr=>?_⟩
   have hne:chainR l'≠[]:=by
     cases l' with
     | nil=>simp at h2
     | cons x l'=>
       rcases List.eq_nil_or_concat (x::l') with h | ⟨m,y,h⟩
       . simp at h
       . rw [h,List.concat_eq_append,Go.Geo.chainR_snoc,Ek];simp
   exact (e2 hne).1 hr
theorem ic (B z l zl:List (Int × Int)) (hB:B.length<=100000) (hl:l.length<=100000) (hbd:∀ q∈l,bd 536870912 q) (h2:2<=l.length):
   ∃ z',Cm prog 224 [.lp 0 0, .lp 1 0] (lk ((0,[Ju B 3])::(1,[.ls 2 0 l.length 2])::(2,BC (l++zl))::Ld B z 3)) [0,1,2] (.ret (.tup []))
     (lk ((0,[Ju (B++(chainR l).tail.reverse) 4])::(1,[.ls 2 0 l.length 2])::(2,BC (l++zl))::Ld (B++(chainR l).tail.reverse) z' 4)):=by
 obtain ⟨top,rest,hch,hrest⟩:=Lv h2;refine ⟨[top],?_⟩;rw [hch,List.tail_cons];have hrr:rest.reverse≠[]:=by simp [hrest]
 have hR:B++rest.reverse≠[]:=by simp [hrest]
 rw [GP hR,GQ hR];refine Cm.by gok eok mixed 4 func224 c224 rfl (by simp [ntmps224]) (by simp) (A7.at ?_) (by simp) ?_ fun E hE hs=>?_
 . refine ⟨by show 0 < 4;omega,fun c hc=>?_,by show 1 < 4;omega,fun c hc=>?_,by show 2 < 4;omega,fun c hc=>?_,XN _ _ _ _ (by omega)⟩
   . simp at hc;subst hc;exact jj B 3 4 (by omega)
   . simp at hc;subst hc;simp
   . exact iI c hc
 . simp [LD]
 have hst0:chainR (l.take 0)=[]:=by simp [chainR]
 have hcl:=fun i=>Ez (l.take i)
 have hcm:∀ i,∀ q∈chainR (l.take i),bd 536870912 q:=fun i q hq=>hbd q (List.mem_of_mem_take (QA q hq))
 obtain ⟨dl,hdl⟩:∃ dl,spD (l++zl)=dl:=⟨_,rfl⟩
 have hdl':BC (l++zl)=dl.map V.d:=by rw [<-hdl]
 have hlat:∀ i p,l[i]?= some p->List.take 2 (List.drop (i*2) (dl.map V.d))=[vi p.1,vi p.2]:=fun i p h=>by
   rw [<-hdl];exact Cp (by rw [List.getElem?_append_left (List.getElem?_eq_some_iff.1 h).1];exact h)
 have hlcl:l.length*2<=dl.length:=by rw [<-hdl];simp;omega
 rw [hdl'];simp [p224,OL]
 refine Al (α:=Nat × List (Int × Int)) (fun x=>⟨AO [(0, .lp 0 0),(1, .lp 1 0),(2,vi B.length),(7, .ls 2 0 l.length 2),(8,vi l.length),(9,vi x.1)],lk ((0,[Ju (B++(chainR (l.take x.1)).reverse) 3])::(1,[.ls 2 0 l.length 2])::(2,dl.map .d)::Ld (B++(chainR (l.take x.1)).reverse) x.2 3),4⟩)
   (fun x=>x.1<=l.length/\(x.1=l.length->x.2=[])) (fun x=>l.length - x.1) (0,z) ?_ ?_ ?_
 . exact ⟨by omega,fun h=>by simp only at h;omega⟩
 . simp only [hst0,List.reverse_nil,List.append_nil]
   obtain rfl | ⟨b0,x0,rfl⟩:=CO B
   . exact WKM hE (lk [(0,0),(1,1),(2,2)])
   . rw [CN]
     exact WKM hE (lk [(0,0),(1,1),(2,2),(3,3)])
 rintro ⟨i,z⟩ ⟨hi,hz⟩
 simp only at hi hz;simp [bQ];refine Bh (fun h=>?_) (fun h=>?_)
 . simp at h
   obtain ⟨p,hp⟩:∃ p,l[i]?= some p:=⟨l[i],by simp [h]⟩
   have hpm:=hbd p (List.mem_of_getElem? hp);have cp:=hlat i p hp;have q1:i*2+2<=dl.length:=by omega
   have w1:=@wz i (by omega);have hct:=QB hp;have hci:=hcl i;have hcmi:=hcm i;have wB:IntKind.wrap .i64 ((B.length:Int)+1)=(B.length:Int)+1:=AD (by omega) (by omega);obtain ⟨st0,hst⟩:∃ st0,chainR (l.take i)=st0:=⟨_,rfl⟩
   rw [hst] at hct hci hcmi ⊢;have hl0:st0.length<=100000:=by simp at hci;omega
   simp [h,cp,q1,AA]
   refine BL (α:=List (Int × Int) × List (Int × Int)) 2 (fun z:List (Int × Int)=>⟨AO [(0, .lp 0 0),(1, .lp 1 0),(2,vi B.length),(4, .lp 4 0),(7, .ls 2 0 l.length 2),(8,vi l.length),(9,vi i)],lk ((0,[Ju (B++(Fo st0 p).reverse) 3])::(1,[.ls 2 0 l.length 2])::(2,dl.map .d)::(4,[vi p.1,vi p.2])::Ld (B++(Fo st0 p).reverse) z 3),5⟩) (fun _=>True)
     (fun x=>⟨AO [(0, .lp 0 0),(1, .lp 1 0),(2,vi B.length),(4, .lp 4 0),(7, .ls 2 0 l.length 2),(8,vi l.length),(9,vi i)],lk ((0,[Ju (B++x.1.reverse) 3])::(1,[.ls 2 0 l.length 2])::(2,dl.map .d)::(4,[vi p.1,vi p.2])::Ld (B++x.1.reverse) x.2 3),5⟩)
     (fun x=>Fo x.1 p=Fo st0 p/\x.1.length<=100000/\∀ q∈x.1,bd 536870912 q) (fun x=>x.1.length) (st0,z) ?_ ?_ ?_ fun zz _=>?_
   . exact ⟨rfl,hl0,hcmi⟩
   . obtain e | ⟨b0,x0,e⟩:=CO (B++st0.reverse)<;>rw [e]
     . exact WKM hE (lk [(0,0),(1,1),(2,2),(4,3145732)])
     . rw [CN]
       exact WKM hE (lk [(0,0),(1,1),(2,2),(3,3),(4,3145732)])
   . rintro ⟨st,z⟩ ⟨hpop,hlen,hm⟩
     simp only at hpop hlen hm;by_cases h2s:st.length < 2
     . have hps:Fo st0 p=st:=by
         rw [<-hpop]
         match st,h2s with
         | [],_=>rfl
         | [_],_=>rfl
         | _::_::_,h=>simp at h;omega
       rw [hps];obtain ⟨O,hO⟩:∃ O,B++st.reverse=O:=⟨_,rfl⟩
       have hOl:O.length=B.length+st.length:=by rw [<-hO];simp
       rw [hO];have hlt:¬ ((B.length:Int)+1 < (O.length:Int)):=by omega
       simp [SI,OL,wB,hlt,inC,Nat.testBit];refine ⟨z,?_⟩;obtain rfl | ⟨b0,x0,rfl⟩:=CO O
       . exact WKM hE (lk [(0,0),(1,1),(2,2),(4,4)])
       . rw [CN]
         exact WKM hE (lk [(0,0),(1,1),(2,2),(3,3),(4,4)])
     . obtain ⟨b,a,r,rfl⟩:∃ b a r,st=b::a::r:=by
         match st,h2s with
         | b::a::r,_=>exact ⟨b,a,r,rfl⟩
         | [],h=>simp at h
         | [_],h=>simp at h
       have ba:=hm a (by simp);have bb:=hm b (by simp);obtain ⟨m,hmm⟩:∃ m,m=B.length+r.length:=⟨_,rfl⟩
       obtain ⟨m1,hm1⟩:∃ m1,m1=m+1:=⟨_,rfl⟩
       obtain ⟨O,hO⟩:∃ O,B++(b::a::r).reverse=O:=⟨_,rfl⟩
       have hO2:O=B++r.reverse++[a]++[b]:=by rw [<-hO];simp
       have hO3:B++(a::r).reverse=B++r.reverse++[a]:=by simp
       obtain ⟨N,hN⟩:∃ N,O.length=N:=⟨_,rfl⟩
       have hNm:N=m+2:=by rw [<-hN,hO2,hmm];simp;omega
       have hOne:O≠[]:=by rw [hO2];simp
       have ha':(O++z)[m]?= some a:=by
         rw [hO2,hmm];simp only [List.append_assoc];rw [List.getElem?_append_right (by omega),List.getElem?_append_right (by simp),List.length_reverse,show B.length+r.length - B.length - r.length=0 by omega];rfl
       have hb':(O++z)[m1]?= some b:=by
         rw [hO2,hm1,hmm];simp only [List.append_assoc];rw [List.getElem?_append_right (by omega),List.getElem?_append_right (by simp;omega),List.length_reverse,show B.length+r.length+1 - B.length - r.length=1 by omega];rfl
       have ca:=Cp ha';have cb:=Cp hb';obtain ⟨ds,hds⟩:∃ ds,spD (O++z)=ds:=⟨_,rfl⟩
       have hdsl:N*2<=ds.length:=by rw [<-hds,Di,List.length_append,hN];omega
       rw [hds] at ca cb;rw [hO,GP hOne,GQ hOne,hN,show BC (O++z)=ds.map V.d by rw [<-hds]];have w2:IntKind.wrap .i64 ((N:Int) - 2)=(m:Int):=by simp at hlen;rw [AD (by omega) (by omega)];omega
       have w3:IntKind.wrap .i64 ((N:Int) - 1)=(m1:Int):=by simp at hlen;rw [AD (by omega) (by omega)];omega
       have hlt:(B.length:Int)+1 < (N:Int):=by omega
       have l1:m < N:=by omega
       have l2:m1 < N:=by omega
       have l3:m*2+2<=ds.length:=by omega
       have l4:m1*2+2<=ds.length:=by omega
       have l5:m1<=N:=by omega
       have e1:=NL (N:=1073741824) ba bb (by omega);have e2:=NL (N:=1073741824) bb hpm (by omega);have big:∀ q,bd 536870912 q->bd 1152921504606846976 q:=fun q h=>by unfold bd at*;omega
       have big2:∀ q,bd 1073741824 q->bd 2000000000 q:=fun q h=>by unfold bd at*;omega
       simp [SI,wB,hlt,inC,Nat.testBit,w2,w3,l1,l2,l3,l4,ca,cb];refine CLa (TW a b (big _ ba) (big _ bb)) ?_;simp [inC,Nat.testBit,w3,l2,l4,cb];refine CLa (TW b p (big _ bb) (big _ hpm)) ?_;simp;refine CLa (ix (DU a b) (DU b p) (big2 _ e1) (big2 _ e2)) ?_;rw [QH];by_cases hc:cross a b p<=0
       . simp [hc,w3,l5,AA]
         refine ⟨a::r,⟨by rw [<-hpop,OA,if_pos hc],by simp at hlen ⊢;omega,fun q1 q2 hq=>hm (q1,q2) (List.mem_cons_of_mem _ hq)⟩,by simp,[b]++z,?_⟩;rw [hO3,En,CN,show BC (B++r.reverse++[a]++([b]++z))=ds.map V.d by rw [<-hds,hO2];simp];refine AI.mkM hE (lk [(0,0),(1,1),(2,2),(3,3),(4,4)]) _ _ _ ?_ ?_ ?_ ?_ ?_ ?_<;>simp
         omega
       . have hps:Fo st0 p=b::a::r:=by rw [<-hpop,OA,if_neg hc]
         rw [hps,hO,GP hOne,hN];simp [hc];refine ⟨z,?_⟩;rw [GQ hOne,show BC (O++z)=ds.map V.d by rw [<-hds]];exact WKM hE (lk [(0,0),(1,1),(2,2),(3,3),(4,4)])
   . have hpl:=KK p st0
     obtain ⟨O,hO⟩:∃ O,B++(Fo st0 p).reverse=O:=⟨_,rfl⟩
     have hOl:O.length<=200000:=by rw [<-hO];simp;omega
     have hnx:B++(chainR (l.take (i+1))).reverse=O++[p]:=by rw [hct,<-hO];simp
     rw [hO];have fin:BC (O++[p])=(spD O).map V.d++[vi p.1,vi p.2]:=Sj p O;obtain rfl | ⟨o,x,rfl⟩:=CO O
     . simp [AM,AA,w1]
       refine ⟨i+1,[],⟨by omega,fun _=>rfl⟩,by omega,?_⟩;rw [hnx,En,CN,List.append_nil,fin];exact WKM hE (lk [(0,0),(1,1),(2,2),(3,3145733)])
     . have htk:=KL (o++[x]) zz
       have hdl3:=Di (o++[x]++zz);have hOne:o++[x]≠[]:=by simp
       obtain ⟨N,hN⟩:∃ N,(o++[x]).length=N:=⟨_,rfl⟩
       have hdo:=Di (o++[x]);rw [List.length_append,hN] at hdl3;rw [hN] at htk hOl hdo;rw [GP hOne,GQ hOne,hN];have hcc:BC (o++[x]++zz)=List.map V.d (spD (o++[x]++zz)):=rfl;rw [hcc]
       generalize spD (o++[x]++zz)=ds at htk hdl3 ⊢
       generalize spD (o++[x])=eo at fin htk hdo
       have hfit:N*2<=ds.length/\(N+1)*16<=140737488355328/\N+1<=9223372036854775807:=by omega
       simp [AM,AA,w1,hfit,htk];refine ⟨i+1,[],⟨by omega,fun _=>rfl⟩,by omega,?_⟩;rw [hnx,En,CN,List.append_nil,fin,hN];refine AI.mkM hE (lk [(0,0),(1,1),(2,2),(3,3145733)]) _ _ _ ?_ ?_ ?_ ?_ ?_ ?_<;>simp
       rintro c (⟨a,_,rfl⟩ | rfl | rfl)<;>simp
 . simp at h
   have hil:i=l.length:=by omega
   subst hil;rw [hz rfl,List.take_length,hch,List.reverse_cons,<-List.append_assoc,En,CN];obtain ⟨O,hO⟩:∃ O,B++rest.reverse=O:=⟨_,rfl⟩
   rw [hO]
   try rw [hO] at hR
   have hOl:O.length<=1000000:=by
     have:=hcl l.length;rw [List.take_length,hch] at this;rw [<-hO];simp at this ⊢;omega
   have w2:IntKind.wrap .i64 (O.length:Int)=(O.length:Int):=AD (by omega) (by omega);have hOr:O.length=B.length+rest.length:=by rw [<-hO];simp
   have hOn:(O.length:Int)<=(O.length:Int)+1:=by omega
   have hOm:O.length<=O.length+1:=by omega
   have hcO:=Sj top O;rw [List.append_nil,show BC (O++[top])=(spD O).map V.d++[vi top.1,vi top.2] from hcO];simp [w2,hOn,AA];refine AB.by (lk [(0,0),(1,1),(2,2),(4,3)]) ?_;simp [results224];exact hOr
open Go.Geo (cross CV chainR Bo)
def DK (l:List (Int × Int)):List (Int × Int):=l.mergeSort fun x y=>!decide (Dw y x < 0)
def Fb (l:List (Int × Int)):List (Int × Int):=Bo (ddC (DK l))
theorem El (l:List (Int × Int)):(DK l).length=l.length:=List.length_mergeSort _
theorem Lw (l:List (Int × Int)) (p:Int × Int):p∈DK l↔p∈l:=(List.mergeSort_perm l _).mem_iff
theorem Su {p:Int × Int}:∀ l:List (Int × Int),p∈ddC l↔p∈l:=by
 have key:∀ (l d:List (Int × Int)),p∈l.foldl DQ d↔p∈d\/p∈l:=by
   intro l;induction l with
   | nil=>intro d;simp
   | cons a l ih=>
     intro d;rw [List.foldl_cons,ih];unfold DQ;by_cases h:d.getLast?= some a
     . rw [if_pos h]
       have:=List.mem_of_getLast? h;simp only [List.mem_cons];constructor
       . rintro (h | h);exact Or.inl h;exact Or.inr (Or.inr h)
       . rintro (h | rfl | h);exact Or.inl h;exact Or.inl this;exact Or.inr h
     . rw [if_neg h]
       simp only [List.mem_append,List.mem_cons,List.not_mem_nil,or_false];constructor
       . rintro ((h | h) | h);exact Or.inl h;exact Or.inr (Or.inl h);exact Or.inr (Or.inr h)
       . rintro (h | h | h);exact Or.inl (Or.inl h);exact Or.inl (Or.inr h);exact Or.inr h
 intro l;have:=key l [];simp only [List.not_mem_nil,false_or] at this;exact this
theorem nu (hsort:∀ l:List (Int × Int),0 < l.length->l.length<=100000->Cm prog 221 [.ls 0 0 l.length 2, .d (.fn 222 [])] (lk [(0,BC l)]) [0] (.ret (.tup [])) (lk [(0,BC (DK l))]))
   (l:List (Int × Int)) (h1:0 < l.length) (hl:l.length<=100000) (hbd:∀ q∈l,bd 536870912 q):∃ z,Ct prog 168 [.d (An l)] (.ls 0 0 (Fb l).length 2) [(0,BC (Fb l++z))]:=by
 have hne:l≠[]:=by intro h;rw [h] at h1;simp at h1
 obtain ⟨L,hL⟩:∃ L,ddC (DK l)=L:=⟨_,rfl⟩
 have hLm:∀ q∈L,bd 536870912 q:=fun q hq=>hbd q (by rw [<-hL,Su,Lw] at hq;exact hq)
 have hLl:L.length<=l.length:=by
   have:=I6 (DK l) l.length;rw [List.take_of_length_le (by rw [El];omega),hL] at this;exact this
 have c1:=o9 l (by omega) hne;have c2:=hsort l h1 hl;have c3:=ot (DK l) (by rw [El];omega);rw [El,hL] at c3;obtain ⟨zl,hzl⟩:∃ zl,List.replicate (l.length - L.length) ((0:Int),(0:Int))=zl:=⟨_,rfl⟩
 rw [hzl] at c3;unfold Fb;rw [hL]
 have hLpos:0 < L.length:=by
   obtain ⟨p,hp⟩:=List.exists_mem_of_length_pos h1;have:p∈L:=by rw [<-hL,Su,Lw];exact hp
   exact List.length_pos_of_mem this
 have n1:spD l≠[]:=by intro h;have:=congrArg List.length h;simp at this;omega
 have n2:spD (DK l)≠[]:=by intro h;have:=congrArg List.length h;rw [Di,El] at this;simp at this;omega
 have n3:∀ z,spD (L++z)≠[]:=by intro z h;have:=congrArg List.length h;simp at this;omega
 have d2:=c2.rename (fun _=>2097152) 1 (by omega) (by simp) (by simp) (by simp);have d3:=c3.rename (fun _=>2097152) 1 (by omega) (by simp) (by simp) (by simp);simp [Ea,HW] at d2 d3;by_cases h3:L.length < 3
 . refine ⟨zl,?_⟩
   have e:Bo L=L:=by unfold Bo;rw [if_pos h3]
   have h3':(L.length:Int) < 3:=by omega
   rw [e];refine CB func168 qY fun E hE=>?_
   simp [p168];refine CLa c1 ?_;simp [AA];refine CRs d2 (by simp [n1]) ?_;simp;refine CRs d3 (by simp [n2]) ?_;simp [AA,h3'];refine AB.by (lk [(0,2097152)]) ?_;simp [results168]
 . have h3':¬ (L.length:Int) < 3:=by omega
   obtain ⟨z1,c4⟩:=ic [] [] L zl (by simp) (by omega) hLm (by omega);have c5:=pW L zl (by omega);obtain ⟨lo,hlo⟩:∃ lo,(chainR L).tail.reverse=lo:=⟨_,rfl⟩
   have hlol:lo.length<=100000:=by
     have:=Ez L;rw [<-hlo];simp;omega
   obtain ⟨z2,c6⟩:=ic lo z1 L.reverse zl (by omega) (by rw [List.length_reverse];omega) (fun q hq=>hLm q (List.mem_reverse.1 hq)) (by rw [List.length_reverse];omega);have e:Bo L=lo++(chainR L.reverse).tail.reverse:=by unfold Bo;rw [if_neg h3,hlo]
   rw [<-e] at c6;rw [hlo,List.nil_append] at c4
   have hlone:lo≠[]:=by
     obtain ⟨top,rest,h,hr⟩:=Lv (l:=L) (by omega);rw [<-hlo,h];simpa using hr
   have hRne:Bo L≠[]:=by rw [e];simp [hlone]
   rw [GP hlone,GQ hlone] at c4 c6;rw [GP hRne,GQ hRne,List.length_reverse] at c6;have n4:∀ z,spD (L.reverse++z)≠[]:=by intro z h;have:=congrArg List.length h;simp at this;omega
   have n5:∀ z,spD (lo++z)≠[]:=by intro z h;have:=congrArg List.length h;have h8:=List.length_pos_iff.2 hlone;simp only [Di,List.length_append,List.length_nil] at this;omega
   refine ⟨z2,?_⟩;refine CB func168 qY fun E hE=>?_
   simp [p168];refine CLa c1 ?_;simp [AA];refine CRs d2 (by simp [n1]) ?_;simp;refine CRs d3 (by simp [n2]) ?_;have d4:=c4.rename (fun i=>if i=0 then 13631488 else if i=1 then 3145728 else if i=2 then 2097152 else i) 5 (by intro i j hi hj h;(repeat' split at h)<;>omega) (by simp) (by simp) (by simp);have d5:=c5.rename (fun _=>2097152) 1 (by omega) (by simp) (by simp) (by simp);have d6:=c6.rename (fun i=>if i=0 then 13631488 else if i=1 then 3145728 else if i=2 then 2097152 else if i=3 then 17825796 else i) 5 (by intro i j hi hj h;(repeat' split at h)<;>omega) (by simp) (by simp) (by simp);simp [Ea,HW] at d4 d5 d6;simp [AA,h3'];refine CRs d4 (by simp [n3]) ?_;simp;refine CRs d5 (by simp [n3]) ?_;simp;refine CRs d6 (by simp [n4]) ?_;simp;refine AB.by (lk [(0,22020100)]) ?_;simp [results168]
def SortOk:Prop:=∀ l:List (Int × Int),0 < l.length->l.length<=100000->Cm prog 221 [.ls 0 0 l.length 2, .d (.fn 222 [])] (lk [(0,BC l)]) [0] (.ret (.tup [])) (lk [(0,BC (DK l))])
def C7 (r:List (Int × Int)):Bool:=decide (1<=r.length)&&decide (r.length<=64)&&EJ r&&decide (Fb r=r)
theorem fC {l:List (Int × Int)} (h:EJ l=true):∀ q∈l,bd 536870912 q:=fun q hq=>by
 have:=NH.1 (List.all_eq_true.1 h q hq);unfold bd at*;omega
theorem Yf {l:List (Int × Int)} (h:EJ l=true):∀ q∈l,bd 268435456 q:=fun q hq=>NH.1 (List.all_eq_true.1 h q hq)
theorem VM (l:List (Int × Int)):(Fb l).length<=2*l.length:=by
 have h1:(ddC (DK l)).length<=l.length:=by
   have:=I6 (DK l) l.length;rw [List.take_of_length_le (by rw [El];omega)] at this;exact this
 unfold Fb Bo;split
 . omega
 . have h2:=Ez (ddC (DK l))
   have h3:=Ez (ddC (DK l)).reverse;simp at h3 ⊢;omega
theorem fD {H:Hp} {id:Nat} {l z:List (Int × Int)} (h:H id=some (BC (l++z))):Bor H (.ls id 0 l.length 2) (.d (An l)):=by
 rw [Bk];refine ⟨rfl,by simp,fun e he=>?_,_,h,?_⟩
 . simp only [List.mem_map] at he
   obtain ⟨k,_,rfl⟩:=he;rfl
 . rw [Om,List.drop_zero,KL]
theorem oy (hS:SortOk) (r:List (Int × Int)) (hr:r.length<=1000000000):Ct prog 92 [.d (An r)] (vi (if C7 r then 0 else 14)) []:=by
 refine CB func92 c92 fun E hE=>?_
 by_cases h1:r.length < 1
 . have h1':(r.length:Int) < 1:=by omega
   have e:C7 r=false:=by unfold C7;rw [decide_eq_false (p:=1<=r.length) (by omega)];simp
   simp [p92,h1'];apply RZ;simp [results92,e]
 have h1':¬ (r.length:Int) < 1:=by omega
 by_cases h2:64 < r.length
 . have h2':(64:Int) < r.length:=by omega
   have e:C7 r=false:=by unfold C7;rw [decide_eq_false (p:=r.length<=64) (by omega)];simp
   simp [p92,h1',h2'];apply RZ;simp [results92,e]
 have h2':¬ (64:Int) < r.length:=by omega
 simp [p92,h1',h2'];refine CLa (iu r hr) ?_;by_cases h3:EJ r=true
 . simp [h3]
   obtain ⟨z,c⟩:=nu hS r (by omega) (by omega) (fC h3);refine CLa c ?_;simp;have hpl:=VM r;refine CLb (pS (Fb r) r (by omega) (by omega)) (by simp [fD (z:=z)]) ?_;have e:C7 r=decide (Fb r=r):=by unfold C7;rw [decide_eq_true (p:=1<=r.length) (by omega),decide_eq_true (p:=r.length<=64) (by omega),h3];rfl
   by_cases h4:Fb r=r
   . simp [h4]
     apply RZ;simp [results92,e,h4]
   . simp [h4]
     apply RZ;simp [results92,e,h4]
 . simp [h3]
   have e:C7 r=false:=by unfold C7;simp [h3]
   apply RZ;simp [results92,e]
open Go.Air
structure Rig where
 reg:List (Int × Int)
 gl:Int
 gh:Int
 tank:Int
 rsv:Int
 lo:Int
 hi:Int
abbrev rigL (r:Rig):List D:=[An r.reg,di r.gl,di r.gh,di r.tank,di r.rsv,di r.lo,di r.hi]
abbrev Fj (r:Rig):V:= .agg [.d (An r.reg),vi r.gl,vi r.gh,vi r.tank,vi r.rsv,vi r.lo,vi r.hi]
structure Leg where
 m:Int
 axl:Int
 axh:Int
 ayl:Int
 ayh:Int
 ul:Int
 uh:Int
 bl:Int
 bh:Int
 dr:Int
 acts:List Act
abbrev Pi (l:Leg):List D:=[di l.m,di l.axl,di l.axh,di l.ayl,di l.ayh,di l.ul,di l.uh,di l.bl,di l.bh,di l.dr,JZ l.acts]
abbrev g7 (l:Leg):V:= .agg [vi l.m,vi l.axl,vi l.axh,vi l.ayl,vi l.ayh,vi l.ul,vi l.uh,vi l.bl,vi l.bh,vi l.dr, .d (JZ l.acts)]
abbrev Bs (l:List Leg):D:= .sl 11 (l.map Pi)
def CF (r:Rig):Bool:=spB 0 120 r.gl r.gh&&rgB 0 1000000000 [r.tank,r.rsv]&&spB (-500) 9000 r.lo r.hi&&C7 r.reg
def Cb (a:Act):Bool:=decide (a.k=3)||decide (a.k=4)
def BE (l:Leg):Bool:=rgB 1 600 [l.m]&&(spB (-1000) 1000 l.axl l.axh&&spB (-1000) 1000 l.ayl l.ayh)&&spB (-300) 300 l.ul l.uh&&spB 0 1000000 l.bl l.bh&&rgB 0 1000000000 [l.dr]&&decide (l.acts.length<=12)&&l.acts.all Cb
def Cv (l:List Leg):Int:=(l.map (·.m)).sum
def C0 (l:List Leg):Int:=if 20 < l.length then 4 else if l.all BE then (if 600 < Cv l then 4 else 0) else 53
def grL (l:List Leg):Bool:=decide (30 < l.length)||l.any (fun x=>decide (20 < x.acts.length))||(decide (60 < (l.map fun x=>min (max x.m 0) 1000).sum)&&decide (C0 l=0))
theorem G5 {l:Leg} (h:BE l=true):1<=l.m/\l.m<=600:=by
 unfold BE at h;simp only [Bool.and_eq_true] at h;have:=h.1.1.1.1.1.1;simpa [rgB] using this
theorem MU {l:List Leg} {i:Nat} {x:Leg} (h:l[i]?= some x):Cv (l.take (i+1))=Cv (l.take i)+x.m:=by
 unfold Cv;rw [List.take_add_one,h];simp
theorem KA:∀ {l:List Leg},(∀ x∈l,BE x=true)->0<=Cv l/\Cv l<=l.length*600
 | [],_=>by simp [Cv]
 | c::l,h=>by
   have h1:=G5 (h c (by simp));have h2:=KA (l:=l) fun x hx=>h x (by simp [hx])
   unfold Cv at h2 ⊢;simp only [List.map_cons,List.sum_cons,List.length_cons];omega
theorem qp (a:Act):Ct prog 171 [BZ a] (vb (Cb a)) []:=by
 by_cases h3:a.k=3
 . have e:Cb a=true:=by unfold Cb;simp [h3]
   refine CB func171 mB fun E hE=>?_
   simp [p171,h3];apply RZ;simp [results171,e]
 . by_cases h4:a.k=4
   . have e:Cb a=true:=by unfold Cb;simp [h4]
     refine CB func171 mB fun E hE=>?_
     simp [p171,h4];apply RZ;simp [results171,e]
   . have e:Cb a=false:=by unfold Cb;simp [h3,h4]
     refine CB func171 mB fun E hE=>?_
     simp [p171,h3,h4];apply RZ;simp [results171,e]
theorem qq (l:List Act) (g:FuncId) (ds:List D) (q:Act->Bool) (hl:l.length<=1000000000) (hg:∀ p∈l,Ct prog g (BZ p::ds.map .d) (vb (q p)) []):Ct prog 170 [.d (JZ l), .d (.fn g ds)] (vb (l.all q)) []:=by
 refine CB func170 c170 fun E hE=>?_
 simp [p170];refine Al (α:=Nat) (fun i=>⟨AO [(1, .d (.fn g ds)),(7, .d (JZ l)),(8,vi l.length),(9,vi i)],lk [],0⟩) (fun i=>i<=l.length/\∀ j,j < i->(l[j]?).all q=true) (fun i=>l.length - i) 0 ?_ ?_ ?_
 . exact ⟨by omega,fun j hj=>by omega⟩
 . exact WK hE (lk [])
 . rintro i ⟨hi,hg3⟩
   have hz:=@wz i (by omega);by_cases h:i < l.length
   . have hI:(i:Int) < l.length:=by omega
     obtain ⟨p,hp⟩:=gE h;simp [SG,hI,hp,AA];refine CLa (hg p (List.mem_of_getElem? hp)) ?_;cases hq:q p
     . have e:l.all q=false:=by rw [List.all_eq_false];exact ⟨p,List.mem_of_getElem? hp,by simp [hq]⟩
       simp;apply RZ;simp [results170,e]
     . simp [hz]
       refine ⟨i+1,⟨by omega,fun j hj=>?_⟩,by omega,?_⟩
       . by_cases e:j=i
         . subst e;rw [hp];simp [hq]
         . exact hg3 j (by omega)
       . exact WK hE (lk [])
   . have hI:¬ (i:Int) < l.length:=by omega
     have e:l.all q=true:=by
       rw [List.all_eq_true];intro x hx;obtain ⟨j,hj⟩:=List.getElem?_of_mem hx;have:=hg3 j (by have:=(List.getElem?_eq_some_iff.1 hj).1;omega);rw [hj] at this;simpa using this
     simp [SG,hI];apply RZ;simp [results170,e]
theorem fn94 (l:Leg) (hl:l.acts.length<=1000000000):Ct prog 94 [g7 l] (vi (if BE l then 0 else 53)) []:=by
 have c1:=Pw 1 600 [l.m] (by simp);have c2:=Lo (-1000) 1000 [(l.axl,l.axh),(l.ayl,l.ayh)] (by simp);have c3:=Lo (-300) 300 [(l.ul,l.uh)] (by simp);have c4:=Lo 0 1000000 [(l.bl,l.bh)] (by simp);have c5:=Pw 0 1000000000 [l.dr] (by simp);have c6:=qq l.acts 171 [] Cb hl fun a _=>qp a
 simp only [List.all_cons,List.all_nil,Bool.and_true] at c1 c2 c3 c4;have e:BE l=(rgB 1 600 [l.m]&&(spB (-1000) 1000 l.axl l.axh&&spB (-1000) 1000 l.ayl l.ayh)&&spB (-300) 300 l.ul l.uh&&spB 0 1000000 l.bl l.bh&&rgB 0 1000000000 [l.dr]&&decide (l.acts.length<=12)&&l.acts.all Cb):=rfl
 generalize rgB 1 600 [l.m]=b1 at*
 generalize (spB (-1000) 1000 l.axl l.axh&&spB (-1000) 1000 l.ayl l.ayh)=b2 at*
 generalize spB (-300) 300 l.ul l.uh=b3 at*
 generalize spB 0 1000000 l.bl l.bh=b4 at*
 generalize rgB 0 1000000000 [l.dr]=b5 at*
 generalize l.acts.all Cb=b6 at*
 rw [e];by_cases hm:l.acts.length<=12
 . have hn:¬ (12:Int) < l.acts.length:=by omega
   cases b1
   . refine CB func94 c94 fun E hE=>?_
     simp [p94,AA,AM]
     repeat ((first | (refine CLt c1 ?_ ?_;focus (simp [AG];done)) | (refine CLt c2 ?_ ?_;focus (simp [AG,AN,AQ];done)) | (refine CLt c3 ?_ ?_;focus (simp [AG,AN,AQ];done)) | (refine CLt c4 ?_ ?_;focus (simp [AG,AN,AQ];done)) | (refine CLt c5 ?_ ?_;focus (simp [AG,AN,AQ];done)) | (refine CLt c6 ?_ ?_;focus (simp [AG,AN,AQ];done)));simp)
     apply RZ;simp [results94]
   cases b2
   . refine CB func94 c94 fun E hE=>?_
     simp [p94,AA,AM]
     repeat ((first | (refine CLt c1 ?_ ?_;focus (simp [AG];done)) | (refine CLt c2 ?_ ?_;focus (simp [AQ];done)) | (refine CLt c3 ?_ ?_;focus (simp [AG,AN,AQ];done)) | (refine CLt c4 ?_ ?_;focus (simp [AG,AN,AQ];done)) | (refine CLt c5 ?_ ?_;focus (simp [AG,AN,AQ];done)) | (refine CLt c6 ?_ ?_;focus (simp [AG,AN,AQ];done)));simp [AA,AM])
     apply RZ;simp [results94]
   cases b3
   . refine CB func94 c94 fun E hE=>?_
     simp [p94,AA,AM]
     repeat ((first | (refine CLt c1 ?_ ?_;focus (simp [AG];done)) | (refine CLt c2 ?_ ?_;focus (simp [AQ];done)) | (refine CLt c3 ?_ ?_;focus (simp [AN];done)) | (refine CLt c4 ?_ ?_;focus (simp [AG,AN,AQ];done)) | (refine CLt c5 ?_ ?_;focus (simp [AG,AN,AQ];done)) | (refine CLt c6 ?_ ?_;focus (simp [AG,AN,AQ];done)));simp [AA,AM])
     apply RZ;simp [results94]
   cases b4
   . refine CB func94 c94 fun E hE=>?_
     simp [p94,AA,AM]
     repeat ((first | (refine CLt c1 ?_ ?_;focus (simp [AG];done)) | (refine CLt c2 ?_ ?_;focus (simp [AQ];done)) | (refine CLt c3 ?_ ?_;focus (simp [AN];done)) | (refine CLt c4 ?_ ?_;focus (simp [AN];done)) | (refine CLt c5 ?_ ?_;focus (simp [AG,AN,AQ];done)) | (refine CLt c6 ?_ ?_;focus (simp [AG,AN,AQ];done)));simp [AA,AM])
     apply RZ;simp [results94]
   cases b5
   . refine CB func94 c94 fun E hE=>?_
     simp [p94,AA,AM]
     repeat ((first | (refine CLt c1 ?_ ?_;focus (simp [AG];done)) | (refine CLt c2 ?_ ?_;focus (simp [AQ];done)) | (refine CLt c3 ?_ ?_;focus (simp [AN];done)) | (refine CLt c4 ?_ ?_;focus (simp [AN];done)) | (refine CLt c5 ?_ ?_;focus (simp [AG];done)) | (refine CLt c6 ?_ ?_;focus (simp [AG,AN,AQ];done)));simp [AA,AM])
     apply RZ;simp [results94]
   cases b6
   . refine CB func94 c94 fun E hE=>?_
     simp [p94,AA,AM]
     repeat ((first | (refine CLt c1 ?_ ?_;focus (simp [AG];done)) | (refine CLt c2 ?_ ?_;focus (simp [AQ];done)) | (refine CLt c3 ?_ ?_;focus (simp [AN];done)) | (refine CLt c4 ?_ ?_;focus (simp [AN];done)) | (refine CLt c5 ?_ ?_;focus (simp [AG];done)) | (refine CLt c6 ?_ ?_;focus (simp;done)));simp [AA,AM,hn])
     apply RZ;simp [results94]
   . refine CB func94 c94 fun E hE=>?_
     simp [p94,AA,AM]
     repeat ((first | (refine CLt c1 ?_ ?_;focus (simp [AG];done)) | (refine CLt c2 ?_ ?_;focus (simp [AQ];done)) | (refine CLt c3 ?_ ?_;focus (simp [AN];done)) | (refine CLt c4 ?_ ?_;focus (simp [AN];done)) | (refine CLt c5 ?_ ?_;focus (simp [AG];done)) | (refine CLt c6 ?_ ?_;focus (simp;done)));simp [AA,AM,hn])
     apply RZ;simp [results94,hm]
 . have hn:(12:Int) < l.acts.length:=by omega
   cases b1
   . refine CB func94 c94 fun E hE=>?_
     simp [p94,AA,AM]
     repeat ((first | (refine CLt c1 ?_ ?_;focus (simp [AG];done)) | (refine CLt c2 ?_ ?_;focus (simp [AG,AN,AQ];done)) | (refine CLt c3 ?_ ?_;focus (simp [AG,AN,AQ];done)) | (refine CLt c4 ?_ ?_;focus (simp [AG,AN,AQ];done)) | (refine CLt c5 ?_ ?_;focus (simp [AG,AN,AQ];done)) | (refine CLt c6 ?_ ?_;focus (simp [AG,AN,AQ];done)));simp)
     apply RZ;simp [results94]
   cases b2
   . refine CB func94 c94 fun E hE=>?_
     simp [p94,AA,AM]
     repeat ((first | (refine CLt c1 ?_ ?_;focus (simp [AG];done)) | (refine CLt c2 ?_ ?_;focus (simp [AQ];done)) | (refine CLt c3 ?_ ?_;focus (simp [AG,AN,AQ];done)) | (refine CLt c4 ?_ ?_;focus (simp [AG,AN,AQ];done)) | (refine CLt c5 ?_ ?_;focus (simp [AG,AN,AQ];done)) | (refine CLt c6 ?_ ?_;focus (simp [AG,AN,AQ];done)));simp [AA,AM])
     apply RZ;simp [results94]
   cases b3
   . refine CB func94 c94 fun E hE=>?_
     simp [p94,AA,AM]
     repeat ((first | (refine CLt c1 ?_ ?_;focus (simp [AG];done)) | (refine CLt c2 ?_ ?_;focus (simp [AQ];done)) | (refine CLt c3 ?_ ?_;focus (simp [AN];done)) | (refine CLt c4 ?_ ?_;focus (simp [AG,AN,AQ];done)) | (refine CLt c5 ?_ ?_;focus (simp [AG,AN,AQ];done)) | (refine CLt c6 ?_ ?_;focus (simp [AG,AN,AQ];done)));simp [AA,AM])
     apply RZ;simp [results94]
   cases b4
   . refine CB func94 c94 fun E hE=>?_
     simp [p94,AA,AM]
     repeat ((first | (refine CLt c1 ?_ ?_;focus (simp [AG];done)) | (refine CLt c2 ?_ ?_;focus (simp [AQ];done)) | (refine CLt c3 ?_ ?_;focus (simp [AN];done)) | (refine CLt c4 ?_ ?_;focus (simp [AN];done)) | (refine CLt c5 ?_ ?_;focus (simp [AG,AN,AQ];done)) | (refine CLt c6 ?_ ?_;focus (simp [AG,AN,AQ];done)));simp [AA,AM])
     apply RZ;simp [results94]
   cases b5
   . refine CB func94 c94 fun E hE=>?_
     simp [p94,AA,AM]
     repeat ((first | (refine CLt c1 ?_ ?_;focus (simp [AG];done)) | (refine CLt c2 ?_ ?_;focus (simp [AQ];done)) | (refine CLt c3 ?_ ?_;focus (simp [AN];done)) | (refine CLt c4 ?_ ?_;focus (simp [AN];done)) | (refine CLt c5 ?_ ?_;focus (simp [AG];done)) | (refine CLt c6 ?_ ?_;focus (simp [AG,AN,AQ];done)));simp [AA,AM])
     apply RZ;simp [results94]
   . refine CB func94 c94 fun E hE=>?_
     simp [p94,AA,AM]
     repeat ((first | (refine CLt c1 ?_ ?_;focus (simp [AG];done)) | (refine CLt c2 ?_ ?_;focus (simp [AQ];done)) | (refine CLt c3 ?_ ?_;focus (simp [AN];done)) | (refine CLt c4 ?_ ?_;focus (simp [AN];done)) | (refine CLt c5 ?_ ?_;focus (simp [AG];done)) | (refine CLt c6 ?_ ?_;focus (simp [AG,AN,AQ];done)));simp [AA,AM,hn])
     apply RZ;simp [results94,hm]
theorem fn38 (l:List Leg) (h:l.length<=1000000) (ha:∀ x∈l,x.acts.length<=1000000):Ct prog 38 [.d (Bs l)] (vi (C0 l)) []:=by
 refine CB func38 c38 fun E hE=>?_
 by_cases hm:20 < l.length
 . have hm':(20:Int) < l.length:=by omega
   have e:C0 l=4:=by unfold C0;rw [if_pos hm]
   simp [p38,hm'];apply RZ;simp [results38,e]
 have hm':¬ (20:Int) < l.length:=by omega
 simp [p38,hm'];refine Al (α:=Nat) (fun i=>⟨AO [(3,vi (600 - Cv (l.take i))),(10, .d (Bs l)),(11,vi l.length),(12,vi i)],lk [],0⟩) (fun i=>i<=l.length/\∀ j,j < i->(l[j]?).all BE=true) (fun i=>l.length - i) 0 ?_ ?_ ?_
 . exact ⟨by omega,fun j hj=>by omega⟩
 . refine AI.mk hE (lk []) _ _ _ ?_ ?_ ?_ ?_ ?_<;>simp [Cv]
 . rintro i ⟨hi,hg⟩
   have hz:=@wz i (by omega)
   have hok:∀ x∈l.take i,BE x=true:=fun x hx=>by
     obtain ⟨j,hj⟩:=List.getElem?_of_mem hx;have hji:j < i:=by have:=(List.getElem?_eq_some_iff.1 hj).1;simp at this;omega
     rw [List.getElem?_take,if_pos hji] at hj;have:=hg j hji;rw [hj] at this;simpa using this
   have hs:=KA hok;rw [List.length_take,Nat.min_eq_left hi] at hs;by_cases h:i < l.length
   . have hI:(i:Int) < l.length:=by omega
     obtain ⟨p,hp⟩:=gE h;have hnx:=MU hp;have c:=fn94 p (by have:=ha p (List.mem_of_getElem? hp);omega);cases hq:BE p
     . have e:C0 l=53:=by
         have:l.all BE=false:=by rw [List.all_eq_false];exact ⟨p,List.mem_of_getElem? hp,by simp [hq]⟩
         unfold C0;rw [if_neg hm,this];simp
       rw [hq] at c;simp [PQ,hI,hp,AA];refine CLa c ?_;simp;apply RZ;simp [results38,e]
     . have hpm:=G5 hq
       have hw:IntKind.wrap .i64 (600 - Cv (l.take i) - p.m)=600 - Cv (l.take (i+1)):=by rw [AD (by omega) (by omega)];omega
       rw [hq] at c;simp [PQ,hI,hp,AA];refine CLa c ?_;simp [hw,hz];refine ⟨i+1,⟨by omega,fun j hj=>?_⟩,by omega,?_⟩
       . by_cases e:j=i
         . subst e;rw [hp];simp [hq]
         . exact hg j (by omega)
       . exact WK hE (lk [])
   . have hI:¬ (i:Int) < l.length:=by omega
     have ei:i=l.length:=by omega
     have hall:l.all BE=true:=by
       rw [List.all_eq_true];intro x hx;rw [ei,List.take_length] at hok;exact hok x hx
     have ht:Cv (l.take i)=Cv l:=by rw [ei,List.take_length]
     rw [ht];by_cases hb:600 < Cv l
     . have e:C0 l=4:=by unfold C0;rw [if_neg hm,hall];simp [hb]
       have hb':600 - Cv l < 0:=by omega
       simp [PQ,hI,hb'];apply RZ;simp [results38,e]
     . have e:C0 l=0:=by unfold C0;rw [if_neg hm,hall];simp [hb]
       have hb':¬ 600 - Cv l < 0:=by omega
       simp [PQ,hI,hb'];apply RZ;simp [results38,e]
theorem mH (hS:SortOk) (r:Rig) (hr:r.reg.length<=1000000000):Ct prog 34 [Fj r] (vi (if CF r then 0 else 51)) []:=by
 have c1:=Lo 0 120 [(r.gl,r.gh)] (by simp);have c2:=Pw 0 1000000000 [r.tank,r.rsv] (by simp);have c3:=Lo (-500) 9000 [(r.lo,r.hi)] (by simp);have c4:=oy hS r.reg hr;simp only [List.all_cons,List.all_nil,Bool.and_true] at c1 c2 c3;have e:CF r=(spB 0 120 r.gl r.gh&&rgB 0 1000000000 [r.tank,r.rsv]&&spB (-500) 9000 r.lo r.hi&&C7 r.reg):=rfl
 generalize spB 0 120 r.gl r.gh=b1 at*
 generalize rgB 0 1000000000 [r.tank,r.rsv]=b2 at*
 generalize spB (-500) 9000 r.lo r.hi=b3 at*
 generalize C7 r.reg=b4 at*
 rw [e];cases b1
 . refine CB func34 c34 fun E hE=>?_
   simp [p34,AA,AM]
   repeat ((first | (refine CLt c1 ?_ ?_;focus (simp [AN];done)) | (refine CLt c2 ?_ ?_;focus (simp [Ap,AN];done)) | (refine CLt c3 ?_ ?_;focus (simp [Ap,AN];done)) | (refine CLt c4 ?_ ?_;focus (simp [Ap,AN];done)));simp)
   apply RZ;simp [results34]
 cases b2
 . refine CB func34 c34 fun E hE=>?_
   simp [p34,AA,AM]
   repeat ((first | (refine CLt c1 ?_ ?_;focus (simp [AN];done)) | (refine CLt c2 ?_ ?_;focus (simp [Ap];done)) | (refine CLt c3 ?_ ?_;focus (simp [Ap,AN];done)) | (refine CLt c4 ?_ ?_;focus (simp [Ap,AN];done)));simp [AA,AM])
   apply RZ;simp [results34]
 cases b3
 . refine CB func34 c34 fun E hE=>?_
   simp [p34,AA,AM]
   repeat ((first | (refine CLt c1 ?_ ?_;focus (simp [AN];done)) | (refine CLt c2 ?_ ?_;focus (simp [Ap];done)) | (refine CLt c3 ?_ ?_;focus (simp [AN];done)) | (refine CLt c4 ?_ ?_;focus (simp [Ap,AN];done)));simp [AA,AM])
   apply RZ;simp [results34]
 cases b4
 . refine CB func34 c34 fun E hE=>?_
   simp [p34,AA,AM]
   repeat ((first | (refine CLt c1 ?_ ?_;focus (simp [AN];done)) | (refine CLt c2 ?_ ?_;focus (simp [Ap];done)) | (refine CLt c3 ?_ ?_;focus (simp [AN];done)) | (refine CLt c4 ?_ ?_;focus (simp;done)));simp [AA,AM])
   apply RZ;simp [results34]
 . refine CB func34 c34 fun E hE=>?_
   simp [p34,AA,AM]
   repeat ((first | (refine CLt c1 ?_ ?_;focus (simp [AN];done)) | (refine CLt c2 ?_ ?_;focus (simp [Ap];done)) | (refine CLt c3 ?_ ?_;focus (simp [AN];done)) | (refine CLt c4 ?_ ?_;focus (simp;done)));simp [AA,AM])
   apply RZ;simp [results34]
end Go.Proofs.Tryz
namespace Go.Proofs.YtigekgfbcfbobaaGreat
open Go.Joins Go.ChangeShapes Go.WideShapes Go.ChangeAt Go.RowKit Go.Psl
section
variable {H:Type} {enc:TypeId × Value->H} {P:Program} {w:World} {base:Nat} {spare:Nat->Bool} {held:Bool}
end
theorem fe {n:Nat} {ds:List D} (h:Sh' Tryz.prog (n+1) 5 ds):∃ i:Int,ds=[.lit (.int .u8 i)]:=by
 simp only [Sh',Tryz.underlying5] at h;obtain ⟨i,h,_⟩:=h;exact ⟨i,h⟩
theorem Vk {n:Nat} {ds:List D} (h:Sh' Tryz.prog (n+2) 122 ds):∃ k:Int × Int,ds=[Tryz.di k.1,Tryz.di k.2]:=by
 rw [Sh',Tryz.underlying122] at h;obtain ⟨a,r,rfl,h1,b,r2,rfl,h2,rfl⟩:=h;obtain ⟨i,rfl⟩:=BM h1;obtain ⟨j,rfl⟩:=BM h2;exact ⟨(i,j),rfl⟩
theorem kq {n:Nat} {ds:List D} (h:Sh' Tryz.prog (n+2) 135 ds):∃ k:Tryz.Act,ds=Tryz.XO k:=by
 rw [Sh',Tryz.underlying135] at h;obtain ⟨a,r,rfl,h1,b,r2,rfl,h2,c,r3,rfl,h3,d,r4,rfl,h4,rfl⟩:=h;obtain ⟨i1,rfl⟩:=fe h1;obtain ⟨i2,rfl⟩:=BM h2;obtain ⟨i3,rfl⟩:=BM h3;obtain ⟨i4,rfl⟩:=BM h4;exact ⟨⟨i1,i2,i3,i4⟩,rfl⟩
theorem ZZ:Tryz.prog.cellsOf 122=2:=by kernel_rfl
theorem RC {n:Nat} {ds:List D} (h:Sh' Tryz.prog (n+3) 55 ds):∃ t:List (Int × Int),ds=[.sl 2 (t.map (fun k:Int × Int=>[Tryz.di k.1,Tryz.di k.2]))]:=by
 rw [Sh',Tryz.underlying55] at h;obtain ⟨es,rfl,_,h⟩:=h;obtain ⟨t,rfl⟩:=all_map (f:=(fun k:Int × Int=>[Tryz.di k.1,Tryz.di k.2])) fun x hx=>Vk (h x hx)
 exact ⟨t,by rw [ZZ]⟩
theorem Za:Tryz.prog.cellsOf 135=4:=by kernel_rfl
theorem ff {n:Nat} {ds:List D} (h:Sh' Tryz.prog (n+3) 43 ds):∃ t:List (Tryz.Act),ds=[.sl 4 (t.map Tryz.XO)]:=by
 rw [Sh',Tryz.underlying43] at h;obtain ⟨es,rfl,_,h⟩:=h;obtain ⟨t,rfl⟩:=all_map (f:=Tryz.XO) fun x hx=>kq (h x hx)
 exact ⟨t,by rw [Za]⟩
theorem kr {n:Nat} {ds:List D} (h:Sh' Tryz.prog (n+4) 57 ds):∃ k:Tryz.Rig,ds=Tryz.rigL k:=by
 rw [Sh',Tryz.underlying57] at h;obtain ⟨a,r,rfl,h1,b,r2,rfl,h2,c,r3,rfl,h3,d,r4,rfl,h4,e,r5,rfl,h5,f,r6,rfl,h6,rfl⟩:=h;obtain ⟨i1,rfl⟩:=RC h1;obtain ⟨i2,rfl⟩:=CD h2;obtain ⟨i3,rfl⟩:=BM h3;obtain ⟨i4,rfl⟩:=BM h4;obtain ⟨i5,rfl⟩:=BM h5;obtain ⟨i6,rfl⟩:=BM h6;exact ⟨⟨i1,i2.1,i2.2,i3,i4,i5,i6⟩,rfl⟩
theorem kt {n:Nat} {ds:List D} (h:Sh' Tryz.prog (n+4) 76 ds):∃ k:Tryz.Leg,ds=Tryz.Pi k:=by
 rw [Sh',Tryz.underlying76] at h;obtain ⟨a,r,rfl,h1,b,r2,rfl,h2,c,r3,rfl,h3,d,r4,rfl,h4,e,r5,rfl,h5,f,r6,rfl,h6,rfl⟩:=h;obtain ⟨i1,rfl⟩:=BM h1;obtain ⟨i2,rfl⟩:=TJ h2;obtain ⟨i3,rfl⟩:=CD h3;obtain ⟨i4,rfl⟩:=CD h4;obtain ⟨i5,rfl⟩:=BM h5;obtain ⟨i6,rfl⟩:=ff h6;exact ⟨⟨i1,i2.1.1,i2.1.2,i2.2.1,i2.2.2,i3.1,i3.2,i4.1,i4.2,i5,i6⟩,rfl⟩
theorem fg:Tryz.prog.cellsOf 76=11:=by kernel_rfl
theorem fi {n:Nat} {ds:List D} (h:Sh' Tryz.prog (n+5) 58 ds):∃ t:List (Tryz.Leg),ds=[.sl 11 (t.map Tryz.Pi)]:=by
 rw [Sh',Tryz.underlying58] at h;obtain ⟨es,rfl,_,h⟩:=h;obtain ⟨t,rfl⟩:=all_map (f:=Tryz.Pi) fun x hx=>kt (h x hx)
 exact ⟨t,by rw [fg]⟩
theorem fj {H:Type} {enc:TypeId × Value->H} {W:World} {base:Nat} {v:Value} {d:DataW H} {p:List MemPlace} (hval:Value.okWide Tryz.prog W .any base 57 v) (h:DataW.Trod enc Tryz.prog W 0 (fun _=>true) true 57 v d p):
   ∃ k:Tryz.Rig,R2 (GW W) W (Tryz.Fj k) v:=by
 obtain ⟨ds,h1,h2⟩:=HX (n:=4) Tryz.underlying57 (by kernel_rfl) hval h;obtain ⟨k,hk⟩:=kr h1;cases hk;exact ⟨k,h2⟩
theorem Zb {H:Type} {enc:TypeId × Value->H} {W:World} {base:Nat} {v:Value} {d:DataW H} {p:List MemPlace} (hval:Value.okWide Tryz.prog W .any base 58 v) (h:DataW.Trod enc Tryz.prog W 0 (fun _=>true) true 58 v d p):
   ∃ k:List Tryz.Leg,R2 (GW W) W (.d (Tryz.Bs k)) v:=by
 obtain ⟨ds,h1,h2⟩:=VX (n:=5) Tryz.underlying58 (by kernel_rfl) hval h;obtain ⟨k,hk⟩:=fi h1;cases hk;exact ⟨k,h2⟩
end Go.Proofs.YtigekgfbcfbobaaGreat
namespace Go.Proofs.Tryz
open Go.Psl
theorem dM {r:List (Int × Int)} (h:C7 r=true):∀ q∈r,bd 268435456 q:=Yf (by unfold C7 at h;simp only [Bool.and_eq_true] at h;exact h.1.2)
theorem Ws {r:List (Int × Int)} (h:C7 r=true):1<=r.length/\r.length<=64:=by
 unfold C7 at h;simp only [Bool.and_eq_true,decide_eq_true_eq] at h;exact h.1.1
theorem GM {M N:Int} {p:Int × Int} (h:bd M p) (hm:M<=N):bd N p:=by unfold bd at*;omega
theorem y9 (l m:List (Int × Int)) (hl:l.length<=1000000000) (_:m.length<=1000000000):Ct prog 228 [.d (An l), .d (An m)] (vb (decide (l=m))) []:=by
 refine CB func228 c228 fun E hE=>?_
 by_cases hlen:l.length=m.length
 case neg=>
   have hn:¬ (l.length:Int)=m.length:=by omega
   have hne:¬ l=m:=fun h=>hlen (by rw [h])
   simp [p228,hn];apply RZ;simp [results228,hne]
 simp [p228,hlen];refine Al (α:=Nat) (fun i=>⟨AO [(0, .d (An l)),(1, .d (An m)),(5,vi i)],lk [],0⟩) (fun i=>i<=l.length/\l.take i=m.take i) (fun i=>l.length - i) 0 ?_ ?_ ?_
 . simp
 . exact WK hE (lk [])
 . rintro i ⟨hi,hg⟩
   have hz:IntKind.wrap .i64 ((i:Int)+1)=((i:Int)+1):=AD (by omega) (by omega);simp [wY];refine Bh (fun h=>?_) (fun h=>?_)
   . simp at h
     have hil:i < l.length:=by omega
     obtain ⟨a,ha⟩:∃ a,l[i]?= some a:=⟨l[i],by simp [hil]⟩
     obtain ⟨b,hb⟩:∃ b,m[i]?= some b:=⟨m[i],by simp [show i < m.length by omega]⟩
     by_cases h1:a.1=b.1/\a.2=b.2
     . have hab:a=b:=by ext;exact h1.1;exact h1.2
       simp [ha,hb,h1,hz];refine ⟨i+1,⟨by omega,by simp [List.take_add_one,hg,ha,hb,hab]⟩,by omega,?_⟩;exact WK hE (lk [])
     . have hne:¬ l=m:=fun h=>by
         rw [h,hb] at ha;cases ha;exact h1 ⟨rfl,rfl⟩
       have hd:(!decide (a.1=b.1)||!decide (a.2=b.2))=true:=by simp;omega
       simp [ha,hb,hd];apply RZ;simp [results228,hne]
   . simp at h
     have hil:i=l.length:=by omega
     have hlm:l=m:=by rw [hil,List.take_length,hlen,List.take_length] at hg;exact hg
     simp;apply RZ;simp [results228,hlm]
abbrev vu (n:Int):V:= .d (.lit (.int .u64 n))
theorem UL (x1 x0 y1 y0:Int):(x1*4294967296+x0)*(y1*4294967296+y0)=x1*y1*18446744073709551616+(x1*y0+x0*y1)*4294967296+x0*y0:=by
 have e1:(x1*4294967296)*(y1*4294967296)=x1*y1*18446744073709551616:=by
   rw [show x1*4294967296*(y1*4294967296)=x1*y1*(4294967296*4294967296) by rw [Int.mul_assoc,Int.mul_left_comm 4294967296,<-Int.mul_assoc]];rfl
 rw [Int.mul_add,Int.add_mul,Int.add_mul,e1,Int.add_mul];have e2:x0*(y1*4294967296)=x0*y1*4294967296:=by rw [Int.mul_assoc]
 have e3:x1*4294967296*y0=x1*y0*4294967296:=by rw [Int.mul_assoc,Int.mul_comm 4294967296,<-Int.mul_assoc]
 rw [e2,e3];omega
theorem DE {a b c d:Int} (h1:a<=c) (h2:b<=d) (h0:0<=b) (h3:0<=c):a*b<=c*d:=Int.le_trans (Int.mul_le_mul_of_nonneg_right h1 h0) (Int.mul_le_mul_of_nonneg_left h2 h3)
theorem nr (x y:Int) (hx:0<=x/\x<=1099511627776) (hy:0<=y/\y<=1099511627776):Ct prog 305 [vu x,vu y] (.tup [vu (x*y / 18446744073709551616),vu (x*y % 18446744073709551616)]) []:=by
 refine CB func305 c305 fun E hE=>?_
 obtain ⟨x1,x0,rfl,hx1,hx1',hx0,hx0'⟩:∃ x1 x0:Int,x=x1*4294967296+x0/\0<=x1/\x1<=256/\0<=x0/\x0 < 4294967296:=⟨x / 4294967296,x % 4294967296,by omega,by omega,by omega,by omega,by omega⟩
 obtain ⟨y1,y0,rfl,hy1,hy1',hy0,hy0'⟩:∃ y1 y0:Int,y=y1*4294967296+y0/\0<=y1/\y1<=256/\0<=y0/\y0 < 4294967296:=⟨y / 4294967296,y % 4294967296,by omega,by omega,by omega,by omega,by omega⟩
 have a1:bits .and .u64 (x1*4294967296+x0) 4294967295=x0:=by rw [GA (by omega) (by omega)];omega
 have a2:bits .and .u64 (y1*4294967296+y0) 4294967295=y0:=by rw [GA (by omega) (by omega)];omega
 have a3:(x1*4294967296+x0) / 4294967296=x1:=by omega
 have a4:(y1*4294967296+y0) / 4294967296=y1:=by omega
 have m:=UL x1 x0 y1 y0;have b11:x1*y1<=256*256:=DE hx1' hy1' hy1 (by omega);have b10:x1*y0<=256*4294967295:=DE hx1' (by omega) hy0 (by omega);have b01:x0*y1<=4294967295*256:=DE (by omega) hy1' hy1 (by omega);have b00:x0*y0<=4294967295*4294967295:=DE (by omega) (by omega) hy0 (by omega);have c11:=Int.mul_nonneg hx1 hy1;have c10:=Int.mul_nonneg hx1 hy0;have c01:=Int.mul_nonneg hx0 hy1;have c00:=Int.mul_nonneg hx0 hy0
 generalize hp11:x1*y1=p11 at*
 generalize hp10:x1*y0=p10 at*
 generalize hp01:x0*y1=p01 at*
 generalize hp00:x0*y0=p00 at*
 have e1:IntKind.wrap .u64 p00=p00:=Ay (by omega) (by omega);have e2:IntKind.wrap .u64 p10=p10:=Ay (by omega) (by omega);have e3:IntKind.wrap .u64 p01=p01:=Ay (by omega) (by omega);have e4:IntKind.wrap .u64 p11=p11:=Ay (by omega) (by omega);have e5:IntKind.wrap .u64 (p10+p00 / 4294967296)=p10+p00 / 4294967296:=Ay (by omega) (by omega);have e6:bits .and .u64 (p10+p00 / 4294967296) 4294967295=(p10+p00 / 4294967296) % 4294967296:=GA (by omega) (by omega);have e7:IntKind.wrap .u64 ((p10+p00 / 4294967296) % 4294967296+p01)=(p10+p00 / 4294967296) % 4294967296+p01:=Ay (by omega) (by omega);have e8:IntKind.wrap .u64 (p11+(p10+p00 / 4294967296) / 4294967296)=p11+(p10+p00 / 4294967296) / 4294967296:=Ay (by omega) (by omega);have e9:IntKind.wrap .u64 (p11+(p10+p00 / 4294967296) / 4294967296+((p10+p00 / 4294967296) % 4294967296+p01) / 4294967296)=p11+(p10+p00 / 4294967296) / 4294967296+((p10+p00 / 4294967296) % 4294967296+p01) / 4294967296:=Ay (by omega) (by omega);simp [p305,a1,a2,a3,a4,hp11,hp10,hp01,hp00,e1,e2,e3,e4,e5,e6,e7,e8,e9];apply RZ;simp [results305];rw [m];refine ⟨by omega,?_⟩;rw [Bl]
def Bp (x:Int):Int:=if x=0 then 0 else (Nat.log2 x.toNat:Int)+1
theorem Qr (n k:Nat) (h:2 ^ k<=n):Nat.log2 n=Nat.log2 (n / 2 ^ k)+k:=by
 induction k generalizing n with
 | zero=>simp
 | succ k ih=>
   have h2:2<=n:=by
     have:2 ^ 1<=2 ^ (k+1):=Nat.pow_le_pow_right (by omega) (by omega);omega
   have h1:Nat.log2 n=Nat.log2 (n / 2)+1:=by rw [Nat.log2_def];simp [h2]
   rw [h1,ih (n / 2) (by rw [Nat.pow_succ] at h;omega),Nat.div_div_eq_div_mul,Nat.pow_succ,Nat.mul_comm 2];omega
theorem Fv (x:Int) (k:Nat) (h:2 ^ k<=x):Bp (x / 2 ^ k)+k=Bp x:=by
 obtain ⟨n,rfl⟩:=Int.eq_ofNat_of_zero_le (show 0<=x from Int.le_trans (Int.pow_nonneg (by decide)) h);have h':2 ^ k<=n:=by exact_mod_cast h
 have hp:0 < 2 ^ k:=Nat.pow_pos (by omega);have e:((n:Int) / 2 ^ k)=((n / 2 ^ k:Nat):Int):=by push_cast;rfl
 have h1:1<=n / 2 ^ k:=by rw [Nat.le_div_iff_mul_le hp];omega
 rw [e];unfold Bp;rw [if_neg (by omega),if_neg (by omega)];simp only [Int.toNat_natCast];rw [Qr n k h'];omega
theorem II (x:Int) (h:1<=x):2 ^ (Bp x - 1).toNat<=x/\x < 2 ^ (Bp x).toNat/\1<=Bp x:=by
 obtain ⟨n,rfl⟩:=Int.eq_ofNat_of_zero_le (show 0<=x by omega);unfold Bp;rw [if_neg (by omega)];have e1:(((Nat.log2 (n:Int).toNat:Nat):Int)+1 - 1).toNat=Nat.log2 n:=by simp
 have e2:(((Nat.log2 (n:Int).toNat:Nat):Int)+1).toNat=Nat.log2 n+1:=by simp
 rw [e1,e2];have h1:=Nat.log2_self_le (n:=n) (by omega);have h2:=Nat.lt_log2_self (n:=n);refine ⟨by exact_mod_cast h1,by exact_mod_cast h2,by omega⟩
theorem Ye:∀ m:Fin 256,(⟨#[0,1,2,2,3,3,3,3,4,4,4,4,4,4,4,4,5,5,5,5,5,5,5,5,5,5,5,5,5,5,5,5,6,6,6,6,6,6,6,6,6,6,6,6,6,6,6,6,6,6,6,6,6,6,6,6,6,6,6,6,6,6,6,6,7,7,7,7,7,7,7,7,7,7,7,7,7,7,7,7,7,7,7,7,7,7,7,7,7,7,7,7,7,7,7,7,7,7,7,7,7,7,7,7,7,7,7,7,7,7,7,7,7,7,7,7,7,7,7,7,7,7,7,7,7,7,7,7,8,8,8,8,8,8,8,8,8,8,8,8,8,8,8,8,8,8,8,8,8,8,8,8,8,8,8,8,8,8,8,8,8,8,8,8,8,8,8,8,8,8,8,8,8,8,8,8,8,8,8,8,8,8,8,8,8,8,8,8,8,8,8,8,8,8,8,8,8,8,8,8,8,8,8,8,8,8,8,8,8,8,8,8,8,8,8,8,8,8,8,8,8,8,8,8,8,8,8,8,8,8,8,8,8,8,8,8,8,8,8,8,8,8,8,8,8,8,8,8,8,8,8,8,8,8,8,8]⟩:ByteArray)[m.val]?.map (·.toNat)=some (Bp m.val).toNat:=by decide+kernel
theorem fA (n:Nat) (h:n < 256):∃ b,(⟨#[0,1,2,2,3,3,3,3,4,4,4,4,4,4,4,4,5,5,5,5,5,5,5,5,5,5,5,5,5,5,5,5,6,6,6,6,6,6,6,6,6,6,6,6,6,6,6,6,6,6,6,6,6,6,6,6,6,6,6,6,6,6,6,6,7,7,7,7,7,7,7,7,7,7,7,7,7,7,7,7,7,7,7,7,7,7,7,7,7,7,7,7,7,7,7,7,7,7,7,7,7,7,7,7,7,7,7,7,7,7,7,7,7,7,7,7,7,7,7,7,7,7,7,7,7,7,7,7,8,8,8,8,8,8,8,8,8,8,8,8,8,8,8,8,8,8,8,8,8,8,8,8,8,8,8,8,8,8,8,8,8,8,8,8,8,8,8,8,8,8,8,8,8,8,8,8,8,8,8,8,8,8,8,8,8,8,8,8,8,8,8,8,8,8,8,8,8,8,8,8,8,8,8,8,8,8,8,8,8,8,8,8,8,8,8,8,8,8,8,8,8,8,8,8,8,8,8,8,8,8,8,8,8,8,8,8,8,8,8,8,8,8,8,8,8,8,8,8,8,8,8,8,8,8,8,8]⟩:ByteArray)[n]?= some b/\(b.toNat:Int)=Bp n:=by
 have:=Ye ⟨n,h⟩;simp only [Option.map_eq_some_iff] at this;obtain ⟨b,h1,h2⟩:=this;refine ⟨b,h1,?_⟩;rw [h2];have:0<=Bp n:=by unfold Bp;split<;>omega
 omega
theorem ov (x:Int) (hx:0<=x/\x<=18446744073709551615):Ct prog 301 [vu x] (vi (Bp x)) []:=by
 refine CB func301 c301 fun E hE=>?_
 have fin:∀ (y c:Int),0<=y->y < 256->0<=c->c<=56->Bp y+c=Bp x->∃ b,(⟨#[0,1,2,2,3,3,3,3,4,4,4,4,4,4,4,4,5,5,5,5,5,5,5,5,5,5,5,5,5,5,5,5,6,6,6,6,6,6,6,6,6,6,6,6,6,6,6,6,6,6,6,6,6,6,6,6,6,6,6,6,6,6,6,6,7,7,7,7,7,7,7,7,7,7,7,7,7,7,7,7,7,7,7,7,7,7,7,7,7,7,7,7,7,7,7,7,7,7,7,7,7,7,7,7,7,7,7,7,7,7,7,7,7,7,7,7,7,7,7,7,7,7,7,7,7,7,7,7,8,8,8,8,8,8,8,8,8,8,8,8,8,8,8,8,8,8,8,8,8,8,8,8,8,8,8,8,8,8,8,8,8,8,8,8,8,8,8,8,8,8,8,8,8,8,8,8,8,8,8,8,8,8,8,8,8,8,8,8,8,8,8,8,8,8,8,8,8,8,8,8,8,8,8,8,8,8,8,8,8,8,8,8,8,8,8,8,8,8,8,8,8,8,8,8,8,8,8,8,8,8,8,8,8,8,8,8,8,8,8,8,8,8,8,8,8,8,8,8,8,8,8,8,8,8,8,8]⟩:ByteArray)[y.toNat]?= some b/\IntKind.wrap .u8 y=y/\IntKind.wrap .i64 (b.toNat:Int)=(b.toNat:Int)/\IntKind.wrap .i64 (c+(b.toNat:Int))=Bp x/\0<=y:=fun y c h0 h1 h2 h3 h4=>by
   obtain ⟨b,q1,q2⟩:=fA y.toNat (by omega);have hb:(b.toNat:Int) < 256:=by have:=b.toNat_lt;omega
   rw [Int.toNat_of_nonneg h0] at q2;exact ⟨b,q1,by simp [IntKind.wrap,IntKind.bits,IntKind.signed];omega,AD (by omega) (by omega),by rw [AD (by omega) (by omega)];omega,h0⟩
 have e16:IntKind.wrap .i64 16=16:=by decide
 have e8:IntKind.wrap .i64 8=8:=by decide
 have e48:IntKind.wrap .i64 48=48:=by decide
 have e40:IntKind.wrap .i64 40=40:=by decide
 have e24:IntKind.wrap .i64 24=24:=by decide
 have e56:IntKind.wrap .i64 56=56:=by decide
 have s8:=fun (y:Int) (h:256<=y)=>Fv y 8 (by simpa using h)
 have s16:=fun (y:Int) (h:65536<=y)=>Fv y 16 (by simpa using h)
 have s32:=fun (y:Int) (h:4294967296<=y)=>Fv y 32 (by simpa using h)
 simp at s8 s16 s32;by_cases h1:4294967296<=x
 . have q1:=s32 x h1
   by_cases h2:65536<=x / 4294967296
   . have q2:=s16 _ h2
     by_cases h3:256<=x / 4294967296 / 65536
     . have q3:=s8 _ h3
       obtain ⟨b,r1,r2,r3,r4,r0⟩:=fin (x / 4294967296 / 65536 / 256) 56 (by omega) (by omega) (by omega) (by omega) (by omega);simp [p301,h1,h2,h3,r0,r1,r2,r3,e48,e56];apply RZ;simp [results301,r4]
     . obtain ⟨b,r1,r2,r3,r4,r0⟩:=fin (x / 4294967296 / 65536) 48 (by omega) (by omega) (by omega) (by omega) (by omega)
       simp [p301,h1,h2,h3,r0,r1,r2,r3,e48];apply RZ;simp [results301,r4]
   . by_cases h3:256<=x / 4294967296
     . have q3:=s8 _ h3
       obtain ⟨b,r1,r2,r3,r4,r0⟩:=fin (x / 4294967296 / 256) 40 (by omega) (by omega) (by omega) (by omega) (by omega);simp [p301,h1,h2,h3,r0,r1,r2,r3,e40];apply RZ;simp [results301,r4]
     . obtain ⟨b,r1,r2,r3,r4,r0⟩:=fin (x / 4294967296) 32 (by omega) (by omega) (by omega) (by omega) (by omega)
       simp [p301,h1,h2,h3,r0,r1,r2,r3];apply RZ;simp [results301,r4]
 . by_cases h2:65536<=x
   . have q2:=s16 _ h2
     by_cases h3:256<=x / 65536
     . have q3:=s8 _ h3
       obtain ⟨b,r1,r2,r3,r4,r0⟩:=fin (x / 65536 / 256) 24 (by omega) (by omega) (by omega) (by omega) (by omega);simp [p301,h1,h2,h3,r0,r1,r2,r3,e16,e24];apply RZ;simp [results301,r4]
     . obtain ⟨b,r1,r2,r3,r4,r0⟩:=fin (x / 65536) 16 (by omega) (by omega) (by omega) (by omega) (by omega)
       simp [p301,h1,h2,h3,r0,r1,r2,r3,e16];apply RZ;simp [results301,r4]
   . by_cases h3:256<=x
     . have q3:=s8 _ h3
       obtain ⟨b,r1,r2,r3,r4,r0⟩:=fin (x / 256) 8 (by omega) (by omega) (by omega) (by omega) (by omega);simp [p301,h1,h2,h3,r0,r1,r2,r3,e8];apply RZ;simp [results301,r4]
     . obtain ⟨b,r1,r2,r3,r4,r0⟩:=fin x 0 (by omega) (by omega) (by omega) (by omega) (by omega)
       rw [Int.zero_add,r3] at r4;simp [p301,h1,h2,h3,r0,r1,r2,r3];apply RZ;simp [results301,r4]
theorem Oh (x:Int) (h0:0<=x) (h1:x<=18446744073709551615):0<=Bp x/\Bp x<=64:=by
 by_cases h:x=0
 . subst h;decide
 . obtain ⟨q1,q2,q3⟩:=II x (by omega)
   refine ⟨by omega,?_⟩
   have:¬ 65<=Bp x:=fun hh=>by
     have h2:(2:Int) ^ 64<=2 ^ (Bp x - 1).toNat:=by
       have:2 ^ 64<=2 ^ (Bp x - 1).toNat:=Nat.pow_le_pow_right (by omega) (by omega)
       exact_mod_cast this
     have:(2:Int) ^ 64=18446744073709551616:=by decide
     omega
   omega
theorem ox (x:Int) (hx:0<=x/\x<=18446744073709551615):Ct prog 317 [vu x] (vi (64 - Bp x)) []:=by
 refine CB func317 c317 fun E hE=>?_
 simp [p317];refine CLa (ov x hx) ?_;have:=Oh x hx.1 hx.2;have e:IntKind.wrap .i64 (64 - Bp x)=64 - Bp x:=AD (by omega) (by omega);simp [e];apply RZ;simp [results317]
end Go.Proofs.Tryz
