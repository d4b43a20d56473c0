/- Own lemmas, used by the last text. Conditions: those that each theorem states. -/
import Derived.Test.YtigekgfbcfbobaaGreatDkad
import Derived.Test.YtigekgfbcfbobaaGreatDkae
import Derived.Test.YtigekgfbcfbobaaGreatDkaf
import Derived.Test.YtigekgfbcfbobaaGreatDkag
import Derived.Test.YtigekgfbcfbobaaGreatDkah
import Derived.Test.YtigekgfbcfbobaaGreatDkai
import Derived.Test.YtigekgfbcfbobaaGreatDkaj
import Derived.Test.YtigekgfbcfbobaaGreatDkak
set_option maxRecDepth 200000
set_option maxHeartbeats 8000000
namespace Go.Proofs.Tryz
open Go.Psl
open Go.Air
def fKS:List Nat:=[8388609,7340033,1,1048577,2097153,3145729,4194305,5242881,0]
def fXS (acc:List Shp):List Nat:=if acc=[] then [] else [7]
abbrev evL (e:Evt):List V:=[vi e.1,vi e.2.1,vi e.2.2.1,vi e.2.2.2]
def fL (k:Sky) (r:Rig) (l:List Leg) (f:Nat->V) (z:LSt) (acc:List Shp) (s:Shp) (e:Evt) (er:Int):List (Nat × List V):=
 [(8388609,[.lr f 69 [19,20] Az A3 z]),(7340033,[.d (Bs l)]),(1,[D2 k r]),(1048577,shB s),(2097153,[.d (Bs l)]),(3145729,[.cl 104 [.lp 0 0]]),(4194305,evL e),(5242881,[vi er]),(0,[hdF 25 acc 7])]++ouF Ca acc 7
theorem Ol (k:Sky) (r:Rig) (l:List Leg) (f:Nat->V) (z:LSt) (acc:List Shp) (s:Shp) (e:Evt) (er:Int) (hf:∀ t,AV (·∈fKS) AR (f t)):BT fKS (fXS acc) (fL k r l f z acc s e er):=by
 by_cases h0:acc=[]
 . subst h0
   refine ⟨rfl,by simp [fKS,fXS],?_⟩;intro q hq;simp only [fL,Aq,Au,List.append_nil,List.mem_cons,List.not_mem_nil,or_false] at hq;rcases hq with rfl | rfl | rfl | rfl | rfl | rfl | rfl | rfl | rfl
   . exact ⟨by simp,Or.inr ⟨_,_,_,_,_,_,rfl⟩,fun c hc=>by simp at hc;subst hc;exact hf⟩
   all_goals refine ⟨by simp,Or.inl rfl,fun c hc=>?_⟩
   all_goals simp only [List.mem_cons,List.not_mem_nil,or_false] at hc
   all_goals first
     | (subst hc;exact rfl)
     | (subst hc;simp [CX,W1,W0,rid,fKS,AJ,fXS])
     | (rcases hc with rfl | rfl | rfl | rfl<;>exact rfl)
     | (rcases hc with rfl | rfl | rfl | rfl | rfl | rfl | rfl | rfl | rfl | rfl | rfl | rfl | rfl | rfl | rfl | rfl | rfl | rfl | rfl | rfl | rfl | rfl | rfl | rfl | rfl<;>exact rfl)
 . have hx:fXS acc=[7]:=by simp [fXS,h0]
   rw [hx];refine ⟨by simp [fL,AZ h0,fKS],by simp [fKS],?_⟩;intro q hq;simp only [fL,Ak h0,AZ h0,List.mem_append,List.mem_cons,List.not_mem_nil,or_false] at hq;rcases hq with (rfl | rfl | rfl | rfl | rfl | rfl | rfl | rfl | rfl) | rfl
   . exact ⟨by simp,Or.inr ⟨_,_,_,_,_,_,rfl⟩,fun c hc=>by simp at hc;subst hc;exact hf⟩
   rotate_left 8
   . refine ⟨?_,Or.inl (List.all_eq_true.2 BU),fun c hc=>?_⟩
     . intro e
       have:=congrArg List.length e;rw [Aw WM] at this;cases acc with
       | nil=>exact h0 rfl
       | cons a t=>simp at this
     . obtain ⟨d,_,rfl⟩:=List.mem_map.1 (show c∈List.map V.d (List.map Ca acc).flatten from hc)
       exact rfl
   all_goals refine ⟨by simp,Or.inl rfl,fun c hc=>?_⟩
   all_goals simp only [List.mem_cons,List.not_mem_nil,or_false] at hc
   all_goals first
     | (subst hc;exact rfl)
     | (subst hc;simp [CX,W1,W0,rid,fKS,AJ])
     | (rcases hc with rfl | rfl | rfl | rfl<;>exact rfl)
     | (rcases hc with rfl | rfl | rfl | rfl | rfl | rfl | rfl | rfl | rfl | rfl | rfl | rfl | rfl | rfl | rfl | rfl | rfl | rfl | rfl | rfl | rfl | rfl | rfl | rfl | rfl<;>exact rfl)
theorem kU (acc:List Shp) (n:Shp) (hl:acc.length<=100000):Cm prog 104 [Cl n (.d (AX n.gas.cs)), .lp 0 0] (lk ([(0,[hdF 25 acc 7])]++ouF Ca acc 7)) [0] (.ret (.tup [Cl n (.d (AX n.gas.cs)),vi 0])) (lk ([(0,[hdF 25 (acc++[n]) 7])]++ouF Ca (acc++[n]) 7)):=by
 have hr:∀ l:List Shp,(AH Ca l).map (BJ fun i=>if i=0 then 0 else 7)=AH Ca l:=fun l=>by
   simp [AH,List.map_flatten,Function.comp_def]
 have h:=Cm.rename (fun i=>if i=0 then 0 else 7) 2 (by intro i j hi hj;split<;>split<;>omega) (mI acc n hl) (by
   by_cases h0:acc=[]
   . subst h0;simp [BW,Aq,Au]
   . simp [BW,Ak h0,AZ h0]) (by rw [Ak (by simp),AZ (by simp)];simp [BW]) (by simp)
 by_cases h0:acc=[]
 . subst h0
   rw [Aq,Au,List.nil_append,Ak (by simp),AZ (by simp)] at h ⊢;simpa [Ea,HW,hr] using h
 . rw [Ak h0,AZ h0,Ak (by simp),AZ (by simp)] at h ⊢
   simpa [Ea,HW,hr] using h
structure kV (f:Nat->V):Prop where
 av:∀ t,AV (·∈fKS) AR (f t)
 f4:f 4= .lp 1 0
 f5:f 5= .lp 1048577 0
 f6:f 6= .lp 2097153 0
 f7:f 7= .lp 3145729 0
 f8:f 8= .lp 4194305 0
 f9:f 9= .lp 5242881 0
theorem VQ (hS:SortOk) (k:Sky) (r:Rig) (l:List Leg) (f:Nat->V) (hF:kV f) (acc:List Shp) (s n:Shp) (i m:Nat) (x:Leg) (_:l.length<=1000000) (ha:acc.length<=100000) (h1:k.s.length<=1000000) (h2:k.w.length<=1000000) (h3:r.reg.length<=1000000) (hk:BV k=true) (hR:CF r=true) (hg:Ey k r=true) (hs:A6 s=true) (hlo:BE x=true) (hx:l[i]?= some x) (ho:FA k r x m s= .ok n):
   Ym prog 8388609 [vi i,vi m] (lk (fL k r l f .ready acc s ev0 0)) fKS (.ret (vb true)) (lk (fL k r l f .ready (acc++[n]) n ev0 0)):=by
 obtain ⟨hf,f4,f5,f6,f7,f8,f9⟩:=hF;have hil:=(List.getElem?_eq_some_iff.1 hx).1;have hiI:(i:Int)<l.length:=by omega
 have hK1:=Ol k r l f .ready acc s ev0 0 hf;have hK2:=Ol k r l f .ready (acc++[n]) n ev0 0 hf
 have hlt:∀ j∈fKS++fXS acc,j<10000000:=by
   intro j hj;simp only [fKS,fXS,List.mem_append,List.mem_cons,List.not_mem_nil,or_false] at hj;rcases hj with h | h
   . omega
   . split at h
     . simp at h
     . simp at h;omega
 have hW:∀ (y:Nat) z,WC (lk [(8388609,8388609),(7340033,7340033),(1,1),(1048577,1048577),(2097153,2097153),(3145729,3145729),(4194305,4194305),(5242881,5242881),(0,0),(7,y)]) (.lr f 69 [19,20] Az A3 z) (.lr f 69 [19,20] Az A3 z):=fun y z=>⟨rfl,fun t=>AV.mono (fun j hj=>by simp [fKS] at hj;rcases hj with rfl | rfl | rfl | rfl | rfl | rfl | rfl | rfl | rfl<;>simp [lk]) (fun _ h=>h) (hf t)⟩
 have hC:∀ z,Bv [.lr f 69 [19,20] Az A3 z]:=fun z=>Or.inr ⟨_,_,_,_,_,_,rfl⟩
 have ca:=kU acc n ha;refine Ym.ofX (k:=8388609) (fr:=f) (nt:=69) (ps:=[19,20]) (pa:=Az) (pb:=A3) (args:=[vi i,vi m]) (s:= .ready) gok eok mixed 10000000 hK1 hK2 hlt (by simp [fKS]) (by simp [fL]) (by simp) (by simp) (by simp) ?_;obtain ⟨t,ht,hmo,hnx⟩:=Ib.1 ho;have hto:=Ow hs hlo ht;have cm:=ko hS k r t x h1 h2 h3 hk hR hg hto hlo;rw [H2.2 ⟨hmo,hnx⟩] at cm;simp only [RB] at cm;by_cases hm:m=0
 . rw [if_pos hm] at ht
   subst hm;have cb:=pP s x hs hlo;rw [ht] at cb;simp only [Oy] at cb;by_cases h0:acc=[]
   . subst h0
     rw [Aq,Au,List.nil_append,Ak (by simp),AZ (by simp)] at ca;refine ⟨fun E hE hs=>?_⟩;unfold fL;rw [Aq,Au,List.nil_append,Ak (by simp),AZ (by simp)]
     generalize V.lr f 69 [19,20] Az A3=rc at hW hC ⊢
     simp [Az,BD];simp [A3];refine AL [(10,23631488)] (by kernel_rfl) ?_;simp [inC,Nat.testBit,hx,f5,f6];refine CLa cb ?_;simp [AA,inC,Nat.testBit,f5];refine AL [(13,42505856),(14,43554432)] (by kernel_rfl) ?_;simp [inC,Nat.testBit,hx,f4,f5,f6];refine CLa cm ?_;simp [AA,inC,Nat.testBit,f7];refine CRs ca (by simp) ?_;simp [AA,f5];refine ⟨trivial,by simp,lk [(8388609,8388609),(7340033,7340033),(1,1),(1048577,1048577),(2097153,2097153),(3145729,3145729),(4194305,4194305),(5242881,5242881),(0,0),(7,51943047)],?_⟩;simp [hW,hC,fKS,AH]
   . have n1:AH Ca acc≠[]:=fun e=>by
       have:=congrArg List.length e;rw [Aw WM] at this;cases acc with
       | nil=>exact h0 rfl
       | cons a t=>simp at this
     rw [Ak h0,AZ h0,Ak (by simp),AZ (by simp)] at ca;refine ⟨fun E hE hs=>?_⟩;unfold fL;rw [Ak h0,AZ h0,Ak (by simp),AZ (by simp)]
     generalize V.lr f 69 [19,20] Az A3=rc at hW hC ⊢
     simp [Az,BD];simp [A3];refine AL [(10,23631488)] (by kernel_rfl) ?_;simp [inC,Nat.testBit,hx,f5,f6];refine CLa cb ?_;simp [AA,inC,Nat.testBit,f5];refine AL [(13,42505856),(14,43554432)] (by kernel_rfl) ?_;simp [inC,Nat.testBit,hx,f4,f5,f6];refine CLa cm ?_;simp [AA,inC,Nat.testBit,f7];refine CRs ca (by simp) ?_;simp [AA,f5];refine ⟨trivial,by simp,lk [(8388609,8388609),(7340033,7340033),(1,1),(1048577,1048577),(2097153,2097153),(3145729,3145729),(4194305,4194305),(5242881,5242881),(0,0),(7,51943047)],?_⟩;simp [hW,hC,fKS]
     all_goals first | exact Or.inl (List.all_eq_true.2 BU) | skip
 . rw [if_neg hm] at ht
   subst ht;by_cases h0:acc=[]
   . subst h0
     rw [Aq,Au,List.nil_append,Ak (by simp),AZ (by simp)] at ca;refine ⟨fun E hE hs=>?_⟩;unfold fL;rw [Aq,Au,List.nil_append,Ak (by simp),AZ (by simp)]
     generalize V.lr f 69 [19,20] Az A3=rc at hW hC ⊢
     simp [Az,BD];simp [A3,hm];refine AL [(13,25728640),(14,26777216)] (by kernel_rfl) ?_;simp [inC,Nat.testBit,hx,f4,f5,f6];refine CLa cm ?_;simp [AA,inC,Nat.testBit,f7];refine CRs ca (by simp) ?_;simp [AA,f5];refine ⟨trivial,by simp,lk [(8388609,8388609),(7340033,7340033),(1,1),(1048577,1048577),(2097153,2097153),(3145729,3145729),(4194305,4194305),(5242881,5242881),(0,0),(7,35165831)],?_⟩;simp [hW,hC,fKS,AH]
   . have n1:AH Ca acc≠[]:=fun e=>by
       have:=congrArg List.length e;rw [Aw WM] at this;cases acc with
       | nil=>exact h0 rfl
       | cons a t=>simp at this
     rw [Ak h0,AZ h0,Ak (by simp),AZ (by simp)] at ca;refine ⟨fun E hE hs=>?_⟩;unfold fL;rw [Ak h0,AZ h0,Ak (by simp),AZ (by simp)]
     generalize V.lr f 69 [19,20] Az A3=rc at hW hC ⊢
     simp [Az,BD];simp [A3,hm];refine AL [(13,25728640),(14,26777216)] (by kernel_rfl) ?_;simp [inC,Nat.testBit,hx,f4,f5,f6];refine CLa cm ?_;simp [AA,inC,Nat.testBit,f7];refine CRs ca (by simp) ?_;simp [AA,f5];refine ⟨trivial,by simp,lk [(8388609,8388609),(7340033,7340033),(1,1),(1048577,1048577),(2097153,2097153),(3145729,3145729),(4194305,4194305),(5242881,5242881),(0,0),(7,35165831)],?_⟩;simp [hW,hC,fKS]
     all_goals first | exact Or.inl (List.all_eq_true.2 BU) | skip
theorem T7:∀ {acts:List Act} {p:Plt} {i:Nat},¬ (B7 p acts i).2.2=54
 | [],p,i=>by simp [B7]
 | a::rr,p,i=>by
   unfold B7;cases hd:doS p a with
   | ok q=>exact T7
   | error e=>
     show ¬ e=54
     unfold doS vlS mvS at hd
     repeat' split at hd
     all_goals first | (have:=K8 hd;omega) | (cases hd;omega)
theorem mR {s:Shp} {x:Leg} {e:Int} (h:Ep s x= .error e):¬ e=54:=by
 unfold Ep at h;split at h
 . split at h
   . cases h;decide
   split at h
   . cases h;decide
   . cases h
 . cases h;exact T7
theorem ck {k:Sky} {r:Rig} {s:Shp} {x:Leg} {e:Int × Int × Int} (h:HK k r s x= .error e):(e.1=54/\True)\/(e.1=9/\e.2.1=0/\e.2.2=0):=by
 unfold HK at h;split at h
 . split at h
   . cases h;exact .inr ⟨rfl,rfl,rfl⟩
   . cases h
 . cases h;exact .inl ⟨rfl,trivial⟩
def Iw (x:Leg) (m:Nat) (s:Shp):Shp:=if m=0 then (match Ep s x with | .ok t=>t | .error _=>s) else s
theorem co (hS:SortOk) (k:Sky) (r:Rig) (l:List Leg) (f:Nat->V) (hF:kV f) (acc:List Shp) (s:Shp) (i m:Nat) (x:Leg) (e:Int × Int × Int) (_:l.length<=1000000) (h1:k.s.length<=1000000) (h2:k.w.length<=1000000) (h3:r.reg.length<=1000000) (hk:BV k=true) (hR:CF r=true) (hg:Ey k r=true) (hs:A6 s=true) (hlo:BE x=true) (hx:l[i]?= some x) (ho:FA k r x m s= .error e):
   Ym prog 8388609 [vi i,vi m] (lk (fL k r l f .ready acc s ev0 0)) fKS (.ret (vb false)) (lk (fL k r l f (.done .ret) acc (Iw x m s) (FC i m e).2 (FC i m e).1)):=by
 obtain ⟨hf,f4,f5,f6,f7,f8,f9⟩:=hF;have hil:=(List.getElem?_eq_some_iff.1 hx).1;have hiI:(i:Int)<l.length:=by omega
 have hK1:=Ol k r l f .ready acc s ev0 0 hf;have hK2:=Ol k r l f (.done .ret) acc (Iw x m s) (FC i m e).2 (FC i m e).1 hf
 have hlt:∀ j∈fKS++fXS acc,j<10000000:=by
   intro j hj;simp only [fKS,fXS,List.mem_append,List.mem_cons,List.not_mem_nil,or_false] at hj;rcases hj with h | h
   . omega
   . split at h
     . simp at h
     . simp at h;omega
 have hW:∀ (y:Nat) z,WC (lk [(8388609,8388609),(7340033,7340033),(1,1),(1048577,1048577),(2097153,2097153),(3145729,3145729),(4194305,4194305),(5242881,5242881),(0,0),(7,y)]) (.lr f 69 [19,20] Az A3 z) (.lr f 69 [19,20] Az A3 z):=fun y z=>⟨rfl,fun t=>AV.mono (fun j hj=>by simp [fKS] at hj;rcases hj with rfl | rfl | rfl | rfl | rfl | rfl | rfl | rfl | rfl<;>simp [lk]) (fun _ h=>h) (hf t)⟩
 have hC:∀ z,Bv [.lr f 69 [19,20] Az A3 z]:=fun z=>Or.inr ⟨_,_,_,_,_,_,rfl⟩
 refine Ym.ofX (k:=8388609) (fr:=f) (nt:=69) (ps:=[19,20]) (pa:=Az) (pb:=A3) (args:=[vi i,vi m]) (s:= .done .ret) gok eok mixed 10000000 hK1 hK2 hlt (by simp [fKS]) (by simp [fL]) (by simp) (by simp) (by simp) ?_;clear hK1 hK2;unfold FA at ho;by_cases hm:m=0
 . rw [if_pos hm] at ho
   subst hm;have cb:=pP s x hs hlo;cases hbs:Ep s x with
   | error b=>
     rw [hbs] at ho cb;simp only [Oy] at cb;have he:e=(b,0,0):=by cases ho;rfl
     subst he;have hbe:=TP hbs;have h54:=mR hbs;have e1:Iw x 0 s=s:=by unfold Iw;rw [if_pos rfl,hbs]
     have e2:FC i 0 (b,0,0)=(b,ev0):=by unfold FC;simp only;rw [if_neg h54]
     rw [e1,e2];simp only;by_cases h0:acc=[]
     . subst h0
       refine ⟨fun E hE hs=>?_⟩;unfold fL;rw [Aq,Au]
       generalize V.lr f 69 [19,20] Az A3=rc at hW hC ⊢
       simp [Az,BD];simp [A3];refine AL [(10,23631488)] (by kernel_rfl) ?_;simp [inC,Nat.testBit,hx,f5,f6];refine CLa cb ?_;simp [AA,inC,Nat.testBit,f8,f9,hbe];refine ⟨trivial,by simp,lk [(8388609,8388609),(7340033,7340033),(1,1),(1048577,1048577),(2097153,2097153),(3145729,3145729),(4194305,4194305),(5242881,5242881),(0,0),(7,7)],?_⟩;simp [hW,hC,fKS,ev0]
     . refine ⟨fun E hE hs=>?_⟩
       unfold fL;rw [Ak h0,AZ h0]
       generalize V.lr f 69 [19,20] Az A3=rc at hW hC ⊢
       simp [Az,BD];simp [A3];refine AL [(10,23631488)] (by kernel_rfl) ?_;simp [inC,Nat.testBit,hx,f5,f6];refine CLa cb ?_;simp [AA,inC,Nat.testBit,f8,f9,hbe];refine ⟨trivial,by simp,lk [(8388609,8388609),(7340033,7340033),(1,1),(1048577,1048577),(2097153,2097153),(3145729,3145729),(4194305,4194305),(5242881,5242881),(0,0),(7,7)],?_⟩;simp [hW,hC,fKS,ev0]
       all_goals first | exact Or.inl (List.all_eq_true.2 BU) | skip
   | ok t=>
     rw [hbs] at ho cb;simp only [Oy] at cb;simp only at ho;have hto:=ZC hs hlo hbs;have cm:=ko hS k r t x h1 h2 h3 hk hR hg hto hlo;rw [ho] at cm;simp only [RB] at cm;have e1:Iw x 0 s=t:=by unfold Iw;rw [if_pos rfl,hbs]
     rw [e1];rcases ck ho with ⟨h54,_⟩ | ⟨h9,k1,k2⟩
     . have e2:FC i 0 e=((54:Int),e.2.1,(i:Int),(0:Int),e.2.2):=by unfold FC;rw [h54,if_pos rfl];rfl
       rw [e2];rw [h54] at cm;simp only;by_cases h0:acc=[]
       . subst h0
         refine ⟨fun E hE hs=>?_⟩;unfold fL;rw [Aq,Au]
         generalize V.lr f 69 [19,20] Az A3=rc at hW hC ⊢
         simp [Az,BD];simp [A3];refine AL [(10,23631488)] (by kernel_rfl) ?_;simp [inC,Nat.testBit,hx,f5,f6];refine CLa cb ?_;simp [AA,inC,Nat.testBit,f5];refine AL [(13,42505856),(14,43554432)] (by kernel_rfl) ?_;simp [inC,Nat.testBit,hx,f4,f5,f6];refine CLa cm ?_;simp [AA,inC,Nat.testBit,f8,f9];refine ⟨trivial,by simp,lk [(8388609,8388609),(7340033,7340033),(1,1),(1048577,1048577),(2097153,2097153),(3145729,3145729),(4194305,4194305),(5242881,5242881),(0,0),(7,7)],?_⟩;simp [hW,hC,fKS,ev0]
       . refine ⟨fun E hE hs=>?_⟩
         unfold fL;rw [Ak h0,AZ h0]
         generalize V.lr f 69 [19,20] Az A3=rc at hW hC ⊢
         simp [Az,BD];simp [A3];refine AL [(10,23631488)] (by kernel_rfl) ?_;simp [inC,Nat.testBit,hx,f5,f6];refine CLa cb ?_;simp [AA,inC,Nat.testBit,f5];refine AL [(13,42505856),(14,43554432)] (by kernel_rfl) ?_;simp [inC,Nat.testBit,hx,f4,f5,f6];refine CLa cm ?_;simp [AA,inC,Nat.testBit,f8,f9];refine ⟨trivial,by simp,lk [(8388609,8388609),(7340033,7340033),(1,1),(1048577,1048577),(2097153,2097153),(3145729,3145729),(4194305,4194305),(5242881,5242881),(0,0),(7,7)],?_⟩;simp [hW,hC,fKS,ev0]
         all_goals first | exact Or.inl (List.all_eq_true.2 BU) | skip
     . have e2:FC i 0 e=(9,ev0):=by unfold FC;rw [h9,if_neg (by decide)]
       rw [e2];rw [h9,k1,k2] at cm;simp only;by_cases h0:acc=[]
       . subst h0
         refine ⟨fun E hE hs=>?_⟩;unfold fL;rw [Aq,Au]
         generalize V.lr f 69 [19,20] Az A3=rc at hW hC ⊢
         simp [Az,BD];simp [A3];refine AL [(10,23631488)] (by kernel_rfl) ?_;simp [inC,Nat.testBit,hx,f5,f6];refine CLa cb ?_;simp [AA,inC,Nat.testBit,f5];refine AL [(13,42505856),(14,43554432)] (by kernel_rfl) ?_;simp [inC,Nat.testBit,hx,f4,f5,f6];refine CLa cm ?_;simp [AA,inC,Nat.testBit,f8,f9];refine ⟨trivial,by simp,lk [(8388609,8388609),(7340033,7340033),(1,1),(1048577,1048577),(2097153,2097153),(3145729,3145729),(4194305,4194305),(5242881,5242881),(0,0),(7,7)],?_⟩;simp [hW,hC,fKS,ev0]
       . refine ⟨fun E hE hs=>?_⟩
         unfold fL;rw [Ak h0,AZ h0]
         generalize V.lr f 69 [19,20] Az A3=rc at hW hC ⊢
         simp [Az,BD];simp [A3];refine AL [(10,23631488)] (by kernel_rfl) ?_;simp [inC,Nat.testBit,hx,f5,f6];refine CLa cb ?_;simp [AA,inC,Nat.testBit,f5];refine AL [(13,42505856),(14,43554432)] (by kernel_rfl) ?_;simp [inC,Nat.testBit,hx,f4,f5,f6];refine CLa cm ?_;simp [AA,inC,Nat.testBit,f8,f9];refine ⟨trivial,by simp,lk [(8388609,8388609),(7340033,7340033),(1,1),(1048577,1048577),(2097153,2097153),(3145729,3145729),(4194305,4194305),(5242881,5242881),(0,0),(7,7)],?_⟩;simp [hW,hC,fKS,ev0]
         all_goals first | exact Or.inl (List.all_eq_true.2 BU) | skip
 . rw [if_neg hm] at ho
   have cm:=ko hS k r s x h1 h2 h3 hk hR hg hs hlo;rw [ho] at cm;simp only [RB] at cm;have e1:Iw x m s=s:=by unfold Iw;rw [if_neg hm]
   rw [e1];rcases ck ho with ⟨h54,_⟩ | ⟨h9,k1,k2⟩
   . have e2:FC i m e=((54:Int),e.2.1,(i:Int),(m:Int),e.2.2):=by unfold FC;rw [h54,if_pos rfl]
     rw [e2];rw [h54] at cm;simp only;by_cases h0:acc=[]
     . subst h0
       refine ⟨fun E hE hs=>?_⟩;unfold fL;rw [Aq,Au]
       generalize V.lr f 69 [19,20] Az A3=rc at hW hC ⊢
       simp [Az,BD];simp [A3,hm];refine AL [(13,25728640),(14,26777216)] (by kernel_rfl) ?_;simp [inC,Nat.testBit,hx,f4,f5,f6];refine CLa cm ?_;simp [AA,inC,Nat.testBit,f8,f9];refine ⟨trivial,by simp,lk [(8388609,8388609),(7340033,7340033),(1,1),(1048577,1048577),(2097153,2097153),(3145729,3145729),(4194305,4194305),(5242881,5242881),(0,0),(7,7)],?_⟩;simp [hW,hC,fKS,ev0]
     . refine ⟨fun E hE hs=>?_⟩
       unfold fL;rw [Ak h0,AZ h0]
       generalize V.lr f 69 [19,20] Az A3=rc at hW hC ⊢
       simp [Az,BD];simp [A3,hm];refine AL [(13,25728640),(14,26777216)] (by kernel_rfl) ?_;simp [inC,Nat.testBit,hx,f4,f5,f6];refine CLa cm ?_;simp [AA,inC,Nat.testBit,f8,f9];refine ⟨trivial,by simp,lk [(8388609,8388609),(7340033,7340033),(1,1),(1048577,1048577),(2097153,2097153),(3145729,3145729),(4194305,4194305),(5242881,5242881),(0,0),(7,7)],?_⟩;simp [hW,hC,fKS,ev0]
       all_goals first | exact Or.inl (List.all_eq_true.2 BU) | skip
   . have e2:FC i m e=(9,ev0):=by unfold FC;rw [h9,if_neg (by decide)]
     rw [e2];rw [h9,k1,k2] at cm;simp only;by_cases h0:acc=[]
     . subst h0
       refine ⟨fun E hE hs=>?_⟩;unfold fL;rw [Aq,Au]
       generalize V.lr f 69 [19,20] Az A3=rc at hW hC ⊢
       simp [Az,BD];simp [A3,hm];refine AL [(13,25728640),(14,26777216)] (by kernel_rfl) ?_;simp [inC,Nat.testBit,hx,f4,f5,f6];refine CLa cm ?_;simp [AA,inC,Nat.testBit,f8,f9];refine ⟨trivial,by simp,lk [(8388609,8388609),(7340033,7340033),(1,1),(1048577,1048577),(2097153,2097153),(3145729,3145729),(4194305,4194305),(5242881,5242881),(0,0),(7,7)],?_⟩;simp [hW,hC,fKS,ev0]
     . refine ⟨fun E hE hs=>?_⟩
       unfold fL;rw [Ak h0,AZ h0]
       generalize V.lr f 69 [19,20] Az A3=rc at hW hC ⊢
       simp [Az,BD];simp [A3,hm];refine AL [(13,25728640),(14,26777216)] (by kernel_rfl) ?_;simp [inC,Nat.testBit,hx,f4,f5,f6];refine CLa cm ?_;simp [AA,inC,Nat.testBit,f8,f9];refine ⟨trivial,by simp,lk [(8388609,8388609),(7340033,7340033),(1,1),(1048577,1048577),(2097153,2097153),(3145729,3145729),(4194305,4194305),(5242881,5242881),(0,0),(7,7)],?_⟩;simp [hW,hC,fKS,ev0]
       all_goals first | exact Or.inl (List.all_eq_true.2 BU) | skip
def F6 (a:Except (Int × Evt) (List Shp)):Int × Evt:=match a with | .ok _=>(0,ev0) | .error e=>e
theorem TS {k:Sky} {r:Rig} {l:List Leg} (hT:Va k r) (hl:∀ x∈l,BE x=true):∀ {im:List (Nat × Nat)} {s:Shp},A6 s=true->∀ n∈D6 k r l im s,A6 n=true
 | [],s,_,n,h=>by simp [D6] at h
 | (i,m)::rest,s,hs,n,h=>by
   unfold D6 at h;split at h
   . simp at h
   rename_i x hx;split at h
   . simp at h
   rename_i n1 h1;have h2:=Q7 hT hs (hl x (List.mem_of_getElem? hx)) h1;rcases List.mem_cons.1 h with rfl | h
   . exact h2
   . exact TS hT hl h2 n h
theorem fW {s:Shp} {ns:List Shp} (hs:A6 s=true) (hn:∀ n∈ns,A6 n=true) {j:Nat} (hj:j<=ns.length):A6 (DX s ns j)=true:=by
 unfold DX;split
 . exact hs
 . obtain ⟨n,hnn⟩:∃ n,ns[j-1]?= some n:=⟨_,List.getElem?_eq_getElem (by omega)⟩
   rw [hnn];exact hn n (List.mem_of_getElem? hnn)
theorem Vb {s n:Shp} {ns:List Shp} {j:Nat} (h:ns[j]?= some n):DX s ns (j+1)=n:=by
 unfold DX;rw [if_neg (by omega),Nat.add_sub_cancel,h];rfl
theorem fX (l:List Shp):∀ (a:Nat) (b:List V),(a,b)∈(0,[hdF 25 l 1])::ouF Ca l 1->∀ c∈b,AC (InB ((0,[hdF 25 l 1])::ouF Ca l 1)) AR c:=by
 by_cases h0:l=[]
 . subst h0;simp [Aq,Au]
 . rw [Ak h0,AZ h0]
   intro a b hab c hc;simp only [List.mem_cons,List.not_mem_nil,or_false,Prod.mk.injEq] at hab;rcases hab with ⟨rfl,rfl⟩ | ⟨rfl,rfl⟩
   . simp at hc;subst hc;simp
   . obtain ⟨d,_,rfl⟩:=List.mem_map.1 (show c∈List.map V.d (List.map Ca l).flatten from hc)
     simp
def fT (k:Sky) (r:Rig) (l:List Leg) (acc:List Shp) (s:Shp) (e:Evt) (er:Int):List (Nat × List V):=
 [(7340033,[.d (Bs l)]),(1,[D2 k r]),(1048577,shB s),(2097153,[.d (Bs l)]),(3145729,[.cl 104 [.lp 0 0]]),(4194305,evL e),(5242881,[vi er]),(0,[hdF 25 acc 7])]++ouF Ca acc 7
theorem Vc (k:Sky) (r:Rig) (l:List Leg) (f:Nat->V) (z:LSt) (acc:List Shp) (s:Shp) (e:Evt) (er:Int):fL k r l f z acc s e er=(8388609,[.lr f 69 [19,20] Az A3 z])::fT k r l acc s e er:=rfl
theorem NG:fKS=8388609::[7340033,1,1048577,2097153,3145729,4194305,5242881,0]:=rfl
theorem pQ (hS:SortOk) (k:Sky) (r:Rig) (l:List Leg) (s:Shp) (hl:l.length<=100) (hok:∀ x∈l,BE x=true) (h1:k.s.length<=1000000) (h2:k.w.length<=1000000) (h3:r.reg.length<=1000000) (hk:BV k=true) (hR:CF r=true) (hg:Ey k r=true) (hs:A6 s=true):
   Cm prog 103 [D2 k r,Cl s (.d (AX s.gas.cs)), .d (Bs l), .cl 104 [.lp 0 0]] (lk [(0,[.d (.lit (.slice none 0 0))])]) [0] (.ret (.tup [Ys (F6 (Dt k r l (BN 0 l) s)).2,vi (F6 (Dt k r l (BN 0 l) s)).1])) (lk ([(0,[hdF 25 (D6 k r l (BN 0 l) s) 1])]++ouF Ca (D6 k r l (BN 0 l) s) 1)):=by
 have hT:Va k r:=⟨hk,Hy hR,hg⟩
 have hlen:=Kv (i:=0) hok
 have hmem:∀ p∈BN 0 l,∃ x,l[p.1]?= some x:=fun p hp=>by
   obtain ⟨x,_,h,_⟩:=zn hp;exact ⟨x,by simpa using h⟩
 have hend:=LQ (k:=k) (r:=r) (s:=s) hmem;have hrd:∀ {j:Nat} {n:Shp},(D6 k r l (BN 0 l) s)[j]?= some n->_:=fun h=>LP h
 have hnok:=TS hT hok (im:=BN 0 l) hs
 have hlb:(BN 0 l).length<=60000:=by
   have:=KA hok;omega
 obtain ⟨ns,hns⟩:∃ ns,D6 k r l (BN 0 l) s=ns:=⟨_,rfl⟩
 obtain ⟨FK,hFK⟩:∃ FK,Dt k r l (BN 0 l) s=FK:=⟨_,rfl⟩
 rw [hns] at hend hnok hrd ⊢;rw [hFK] at hend ⊢
 have hnl:ns.length<=(BN 0 l).length:=by
   rcases hend with ⟨_,h⟩ | ⟨i,m,x,e,h,_⟩
   . omega
   . have:=(List.getElem?_eq_some_iff.1 h).1;omega
 have hsj:∀ {j:Nat},j<=ns.length->A6 (DX s ns j)=true:=fun hj=>fW hs hnok hj
 refine Cm.by gok eok mixed 1 func103 AFN rfl (by simp [ntmps103]) (by simp) (A7.at (by simp)) (by simp) (by
   refine ⟨by simp,?_⟩;exact fun p hp c hc=>fX ns p.1 p.2 hp c hc) fun E hs' hE=>?_
 simp [p103];refine CLa (qu l) ?_;simp;have hnt:E.nt=69:=by rw [hE.1];exact ntmps103
 rw [<-JI (Γ:=tys) (eqs:=eqs)];obtain ⟨f,hf⟩:∃ f,f=upd (upd (upd (upd (upd (upd (upd (upd (Dn 0 [D2 k r,Cl s (.d (AX s.gas.cs)), .d (Bs l), .cl 104 [.lp 0 0]]) 4 (.lp 1 0)) 5 (.lp 1048577 0)) 6 (.lp 2097153 0)) 7 (.lp 3145729 0)) 8 (.lp 4194305 0)) 9 (.lp 5242881 0)) 17 (.d (Bs l))) 18 (.cl 205 [.lp 7340033 0]):=⟨_,rfl⟩
 have hfA:∀ t,AV (·∈fKS) AR (f t):=fun t=>by
   rw [hf];simp only [AY];split
   . intro c hc;simp at hc;subst hc;exact (by simp [fKS]:(7340033:Nat)∈fKS)
   split
   . exact trivial
   split
   . exact (by simp [fKS]:(5242881:Nat)∈fKS)
   split
   . exact (by simp [fKS]:(4194305:Nat)∈fKS)
   split
   . exact (by simp [fKS]:(3145729:Nat)∈fKS)
   split
   . exact (by simp [fKS]:(2097153:Nat)∈fKS)
   split
   . exact (by simp [fKS]:(1048577:Nat)∈fKS)
   split
   . exact (by simp [fKS]:(1:Nat)∈fKS)
   simp only [Dn];split
   . exact trivial
   split
   . intro c hc;simp at hc;rcases hc with rfl | rfl | rfl | rfl | rfl | rfl | rfl | rfl | rfl | rfl | rfl | rfl | rfl | rfl | rfl | rfl | rfl | rfl | rfl | rfl | rfl | rfl | rfl | rfl | rfl<;>exact trivial
   split
   . exact trivial
   split
   . intro c hc;simp at hc;subst hc;exact (by simp [fKS]:(0:Nat)∈fKS)
   . exact fun c hc=>by simp at hc
 have hFF:kV f:=⟨hfA,by rw [hf];simp,by rw [hf];simp,by rw [hf];simp,by rw [hf];simp,by rw [hf];simp,by rw [hf];simp⟩
 have f18:f 18= .cl 205 [.lp 7340033 0]:=by rw [hf];simp
 obtain ⟨_,f4,f5,f6,f7,f8,f9⟩:=id hFF;rw [<-hf];have hK:=fun z acc t e er=>Ol k r l f z acc t e er hfA
 have hN:∀ i∈fKS,i<1000000000:=by simp [fKS]
 have hX:∀ i:Nat,∀ x∈fXS (ns.take i),x<1048576:=fun i x hx=>by
   unfold fXS at hx;split at hx<;>simp at hx;omega
 have hrec:∀ z acc t e er,∃ fr nt ps pa pb jmp,lk (fL k r l f z acc t e er) 8388609=some [.lr fr nt ps pa pb jmp]/\ps.length=2:=fun z acc t e er=>⟨f,69,[19,20],Az,A3,z,by simp [fL],rfl⟩
 have hbox:∀ z acc t e er,lk (fL k r l f z acc t e er) 7340033=some [.d (Bs l)]:=fun z acc t e er=>by simp [fL]
 have hround:∀ j i m,j<ns.length->(BN 0 l)[j]?= some (i,m)->Ym prog 8388609 [vi i,vi m] (lk (fL k r l f .ready (ns.take j) (DX s ns j) ev0 0)) fKS (.ret (vb true)) (lk (fL k r l f .ready (ns.take (j+1)) (DX s ns (j+1)) ev0 0)):=fun j i m hj him=>by
   obtain ⟨n,hn⟩:=gE hj;obtain ⟨i',m',x,e1,e2,e3⟩:=hrd hn;rw [him] at e1;cases e1;have:=VQ hS k r l f hFF (ns.take j) (DX s ns j) n i m x (by omega) (by rw [List.length_take];omega) h1 h2 h3 hk hR hg (hsj (by omega)) (hok x (List.mem_of_getElem? e2)) e2 e3;rw [Vb hn,List.take_add_one,hn];exact this
 rcases hend with ⟨hok1,hlen1⟩ | ⟨i,m,x,e,hm1,hm2,hm3,hm4⟩
 ·
   have c:=Jl l (by omega) hok fKS (fun j=>fXS (ns.take j)) 8388609 7340033 ns.length (fun _=>true) (fun j=>fL k r l f .ready (ns.take j) (DX s ns j) ev0 0) (by simp [fKS]) (by simp [fKS]) hN hX (by omega) (fun j _=>hK _ _ _ _ _) (fun j _=>hrec _ _ _ _ _) (fun j _=>hbox _ _ _ _ _) (fun _ _=>rfl) (Or.inl hlen1) (fun j i m hj him=>hround j i m hj him);have hK0:=hK .ready [] s ev0 0;have hKn:=hK .ready ns (DX s ns ns.length) ev0 0;have c0:fL k r l f .ready (ns.take 0) (DX s ns 0) ev0 0=fL k r l f .ready [] s ev0 0:=rfl;have cn:fL k r l f .ready (ns.take ns.length) (DX s ns ns.length) ev0 0=fL k r l f .ready ns (DX s ns ns.length) ev0 0:=by rw [List.take_length]
   rw [c0,cn,Vc,Vc,NG] at c;rw [Vc,NG] at hK0 hKn;have hFe:F6 FK=(0,ev0):=by rw [hok1];rfl
   rw [hFe];refine E3.keepX (fT k r l [] s ev0 0) (fT k r l ns (DX s ns ns.length) ev0 0) [7340033,1,1048577,2097153,3145729,4194305,5242881,0] (fXS []) (fXS ns) (.tup []) .ready hE.2 (g:=205) (caps:=[.lp 7340033 0]) (by simp [f18]) (by rw [hnt];exact c) (by rw [hnt];exact hK0) (by rw [hnt];exact hKn) (fun x hx=>by have:=hX ns.length x (by rw [List.take_length];exact hx);exact this) (by simp [fXS]) (by simp [fXS,fT,Aq,Au,ev0]) (by simp) fun F h1 h2=>?_
   by_cases h0:ns=[]
   . subst h0
     have F0:=h1 (0,_) (by simp [fT,Aq,Au];rfl);have F8:=h1 (4194305,_) (by simp [fT,Aq,Au];rfl);have F9:=h1 (5242881,_) (by simp [fT,Aq,Au];rfl);simp [sg,BJ,DS,DR] at F0 F8 F9;rw [Aq,Au]
     show Ft 0 _ .normal _
     simp [f8,f9,F8,F9,AA];refine AB.by (lk [(0,0)]) ?_;simp [results103,F0,ev0,f8,f9]
   . have F0:=h1 (0,_) (by simp [fT,Ak h0,AZ h0];rfl)
     have F7:=h1 (7,_) (by simp [fT,Ak h0,AZ h0];rfl);have F8:=h1 (4194305,_) (by simp [fT,Ak h0,AZ h0];rfl);have F9:=h1 (5242881,_) (by simp [fT,Ak h0,AZ h0];rfl);simp [sg,BJ,DS,DR] at F0 F7 F8 F9;rw [Ak h0,AZ h0]
     show Ft 0 _ .normal _
     simp [f8,f9,F8,F9,AA];refine AB.by (lk [(0,0),(1,9437192)]) ?_;simp [results103,F0,F7,ev0,f8,f9]
     all_goals first | exact Or.inl (List.all_eq_true.2 BU) | skip
 . have hal:ns.length<(BN 0 l).length:=(List.getElem?_eq_some_iff.1 hm1).1
   obtain ⟨EZ,hEZ⟩:∃ EZ,FC i m e=EZ:=⟨_,rfl⟩
   have hFe:F6 FK=EZ:=by rw [hm4,hEZ];rfl
   rw [hFe];have hfail:=co hS k r l f hFF ns (DX s ns ns.length) i m x e (by omega) h1 h2 h3 hk hR hg (hsj (Nat.le_refl _)) (hok x (List.mem_of_getElem? hm2)) hm2 hm3;rw [hEZ] at hfail;obtain ⟨SF,hSF⟩:∃ SF,Iw x m (DX s ns ns.length)=SF:=⟨_,rfl⟩
   rw [hSF] at hfail;obtain ⟨LL,hLL⟩:∃ LL:Nat->List (Nat × List V),LL=fun j=>if j<=ns.length then fL k r l f .ready (ns.take j) (DX s ns j) ev0 0 else fL k r l f (.done .ret) ns SF EZ.2 EZ.1:=⟨_,rfl⟩
   have LLa:∀ j,j<=ns.length->LL j=fL k r l f .ready (ns.take j) (DX s ns j) ev0 0:=fun j hj=>by rw [hLL];simp only;rw [if_pos hj]
   have LLb:LL (ns.length+1)=fL k r l f (.done .ret) ns SF EZ.2 EZ.1:=by rw [hLL];simp only;rw [if_neg (by omega)]
   have tk:∀ j,ns.length<=j->ns.take j=ns:=fun j hj=>List.take_of_length_le hj
   have c:=Jl l (by omega) hok fKS (fun j=>fXS (ns.take j)) 8388609 7340033 (ns.length+1) (fun j=>decide (j<ns.length)) LL (by simp [fKS]) (by simp [fKS]) hN hX (by omega) (fun j hj=>by
       by_cases h:j<=ns.length
       . rw [LLa j h];exact hK _ _ _ _ _
       . rw [show j=ns.length+1 by omega,LLb,tk _ (by omega)];exact hK _ _ _ _ _) (fun j hj=>by
       rw [LLa j (by omega)];exact hrec _ _ _ _ _) (fun j hj=>by
       by_cases h:j<=ns.length
       . rw [LLa j h];exact hbox _ _ _ _ _
       . rw [show j=ns.length+1 by omega,LLb];exact hbox _ _ _ _ _) (fun j hj=>decide_eq_true (by omega)) (Or.inr ⟨by omega,decide_eq_false (by omega)⟩) (fun j i' m' hj him=>by
       by_cases h:j<ns.length
       . rw [LLa j (by omega),LLa (j+1) (by omega),decide_eq_true h];exact hround j i' m' h him
       . have e1:j=ns.length:=by omega
         subst e1;rw [hm1] at him;cases him;rw [LLa ns.length (Nat.le_refl _),LLb,decide_eq_false h,List.take_length];exact hfail)
   have hK0:=hK .ready [] s ev0 0;have hKn:=hK (.done .ret) ns SF EZ.2 EZ.1;have c0:LL 0=fL k r l f .ready [] s ev0 0:=by rw [LLa 0 (by omega)];rfl
   rw [c0,LLb,Vc,Vc,NG] at c;rw [Vc,NG] at hK0 hKn;refine E3.keepX (fT k r l [] s ev0 0) (fT k r l ns SF EZ.2 EZ.1) [7340033,1,1048577,2097153,3145729,4194305,5242881,0] (fXS []) (fXS ns) (.tup []) (.done .ret) hE.2 (g:=205) (caps:=[.lp 7340033 0]) (by simp [f18]) (by rw [hnt];exact c) (by rw [hnt];exact hK0) (by rw [hnt];exact hKn) (fun x hx=>by have:=hX ns.length x (by rw [List.take_length];exact hx);exact this) (by simp [fXS]) (by simp [fXS,fT,Aq,Au,ev0]) (by simp) fun F h1 h2=>?_
   by_cases h0:ns=[]
   . subst h0
     have F0:=h1 (0,_) (by simp [fT,Aq,Au];rfl);have F8:=h1 (4194305,_) (by simp [fT,Aq,Au];rfl);have F9:=h1 (5242881,_) (by simp [fT,Aq,Au];rfl);simp [sg,BJ,DS,DR] at F0 F8 F9;rw [Aq,Au]
     show Ft 0 _ .ret _
     simp;refine AB.by (lk [(0,0)]) ?_;simp [results103,F0,F8,F9,f8,f9]
   . have F0:=h1 (0,_) (by simp [fT,Ak h0,AZ h0];rfl)
     have F7:=h1 (7,_) (by simp [fT,Ak h0,AZ h0];rfl);have F8:=h1 (4194305,_) (by simp [fT,Ak h0,AZ h0];rfl);have F9:=h1 (5242881,_) (by simp [fT,Ak h0,AZ h0];rfl);simp [sg,BJ,DS,DR] at F0 F7 F8 F9;rw [Ak h0,AZ h0]
     show Ft 0 _ .ret _
     simp;refine AB.by (lk [(0,0),(1,9437192)]) ?_;simp [results103,F0,F7,F8,F9,f8,f9]
     all_goals first | exact Or.inl (List.all_eq_true.2 BU) | skip
abbrev cD (l:List Shp):D:= .sl 25 (l.map Ca)
def Lp (a:Except (Int × Evt) (List Shp)):List Shp:=match a with | .ok ns=>ns | .error _=>[]
abbrev AFC (a:Except (Int × Evt) (List Shp)):V:= .tup [.d (cD (Lp a)),Ys (F6 a).2,vi (F6 a).1]
theorem ABc {k:Sky} {r:Rig} {s:Shp} {a b:Int} (ha:(if A6 s then (0:Int) else 52)=a) (hz:¬ JC k r s b=0):(¬ QG k r a b=0/\QG k r a b=JC k r s b)\/(BV k=true/\CF r=true/\a=0/\b=0/\Ey k r=false/\JC k r s b=2):=by
 unfold QG JC at*;unfold e0 e1;cases h1:BV k
 . left;simp
 . cases h2:CF r
   . left;simp
   . cases h3:A6 s
     . rw [h3] at ha;simp at ha;subst ha;left;simp
     . rw [h3] at ha;simp at ha;subst ha
       by_cases hb0:b=0
       . cases h4:Ey k r
         . right;simp [hb0]
         . rw [h1,h2,h3,h4,hb0] at hz;simp at hz
       . left;simp [hb0]
theorem Tv {l:List Leg} (h:C0 l=0):l.length<=20/\(∀ x∈l,BE x=true)/\Cv l<=600:=by
 unfold C0 at h;split at h
 . simp at h
 split at h
 . rename_i h1 h2
   split at h
   . simp at h
   . exact ⟨by omega,List.all_eq_true.1 h2,by omega⟩
 . simp at h
theorem mK (ID:Nat) (hI:2<=ID) (hS:SortOk) (k:Sky) (r:Rig) (l:List Leg) (s:Shp) (hl:l.length<=100) (hok:∀ x∈l,BE x=true) (h1:k.s.length<=1000000) (h2:k.w.length<=1000000) (h3:r.reg.length<=1000000) (hk:BV k=true) (hR:CF r=true) (hg:Ey k r=true) (hs:A6 s=true):
   Cm prog 103 [D2 k r,Cl s (.d (AX s.gas.cs)), .d (Bs l), .cl 104 [.lp ID 0]] (lk [(ID,[.d (.lit (.slice none 0 0))])]) [ID] (.ret (.tup [Ys (F6 (Dt k r l (BN 0 l) s)).2,vi (F6 (Dt k r l (BN 0 l) s)).1])) (lk ([(ID,[hdF 25 (D6 k r l (BN 0 l) s) 1])]++ouF Ca (D6 k r l (BN 0 l) s) 1)):=by
 have h:=pQ hS k r l s hl hok h1 h2 h3 hk hR hg hs
 generalize D6 k r l (BN 0 l) s=ns at*
 generalize F6 (Dt k r l (BN 0 l) s)=e at*
 have hr:∀ l:List Shp,(AH Ca l).map (BJ fun i=>if i=0 then ID else i)=AH Ca l:=fun l=>by
   simp [AH,List.map_flatten,Function.comp_def]
 have:=Cm.rename (fun i=>if i=0 then ID else i) 2 (by intro i j hi hj;split<;>split<;>omega) h (by simp [BW]) (by
   by_cases h0:ns=[]
   . subst h0;simp [BW,Aq,Au]
   . simp [BW,Ak h0,AZ h0]) (by simp)
 have hc:HR (fun i=>if i=0 then ID else i) (V.cl 104 [.lp 0 0])= .cl 104 [.lp ID 0]:=rfl;by_cases h0:ns=[]
 . subst h0
   rw [Aq,Au] at this ⊢;simpa [Ea,HW,hc] using this
 . rw [Ak h0,AZ h0] at this ⊢
   simpa [Ea,HW,hr,hc] using this
theorem qt (hS:SortOk) (k:Sky) (r:Rig) (s:Shp) (l:List Leg) (h1:k.s.length<=1000000) (h2:k.w.length<=1000000) (h3:r.reg.length<=1000000) (h4:s.gas.cs.length<=1000000) (h5:l.length<=1000000) (h6:∀ x∈l,x.acts.length<=1000000):Ct prog 45 [Eu k,Fj r,Cl s (.d (AX s.gas.cs)), .d (Bs l)] (.tup [hdF 25 (Lp (HA k r s l)) 0,Ys (F6 (HA k r s l)).2,vi (F6 (HA k r s l)).1]) (ouF Ca (Lp (HA k r s l)) 0):=by
 have c1:=qF s (by omega);have c2:=AEM l h5 h6;obtain ⟨a,ha⟩:∃ a:Int,(if A6 s then 0 else 52)=a:=⟨_,rfl⟩
 obtain ⟨b,hb⟩:∃ b:Int,C0 l=b:=⟨_,rfl⟩
 rw [ha] at c1;rw [hb] at c2;unfold HA;rw [hb];by_cases hz:JC k r s b=0
 . rw [if_pos hz]
   obtain ⟨hk,hR,hs,hb0,hg⟩:=MD hz;have ha0:a=0:=by rw [<-ha,hs];rfl
   subst ha0 hb0;obtain ⟨q1,q2,q3⟩:=Tv hb;have c3:=fd 12582912 hS k r h1 h2 h3 hk hR hg;have c4:=mK 22020096 (by omega) hS k r l s (by omega) q2 h1 h2 h3 hk hR hg hs
   have hmem:∀ p∈BN 0 l,∃ x,l[p.1]?= some x:=fun p hp=>by
     obtain ⟨x,_,h,_⟩:=zn hp;exact ⟨x,by simpa using h⟩
   have hend:=LQ (k:=k) (r:=r) (s:=s) hmem;have herr:=fun e=>NF (k:=k) (r:=r) (l:=l) (im:=BN 0 l) (s:=s) (e:=e) hmem
   generalize D6 k r l (BN 0 l) s=ns at*
   generalize Dt k r l (BN 0 l) s=FK at*
   rcases hend with ⟨e1,_⟩ | ⟨i,m,x,e,_,_,_,e4⟩
   . subst e1
     simp only [Lp,F6] at c4 ⊢;by_cases h0:ns=[]
     . subst h0
       rw [Aq,Au] at c4 ⊢;refine CB func45 c45 fun E hE=>?_
       simp [p45];refine AL [(7,12582912)] (by kernel_rfl) ?_;simp [inC,Nat.testBit];refine CLa c1 ?_;simp [inC,Nat.testBit];refine CLa c2 ?_;simp [AA,AM,inC,Nat.testBit];refine CDs c3 (by simp [wrL,inC,Nat.testBit]) ?_;simp;refine CRs c4 (by simp) ?_;simp [AA,ev0];apply RZ;simp [results45]
     . rw [Ak h0,AZ h0] at c4 ⊢
       refine CB func45 c45 fun E hE=>?_
       simp [p45];refine AL [(7,12582912)] (by kernel_rfl) ?_;simp [inC,Nat.testBit];refine CLa c1 ?_;simp [inC,Nat.testBit];refine CLa c2 ?_;simp [AA,AM,inC,Nat.testBit];refine CDs c3 (by simp [wrL,inC,Nat.testBit]) ?_;simp;refine CRs c4 (by simp) ?_;simp [AA,ev0];refine AB.by (lk [(0,27262977)]) ?_;simp [results45]
       all_goals first | exact Or.inl (List.all_eq_true.2 BU) | skip
   . have he:=(herr _ e4).1
     subst e4;simp only [Lp,F6,Aq,Au] at c4 ⊢
     generalize FC i m e=ee at*
     by_cases h0:ns=[]
     . subst h0
       rw [Aq,Au] at c4;refine CB func45 c45 fun E hE=>?_
       simp [p45];refine AL [(7,12582912)] (by kernel_rfl) ?_;simp [inC,Nat.testBit];refine CLa c1 ?_;simp [inC,Nat.testBit];refine CLa c2 ?_;simp [AA,AM,inC,Nat.testBit];refine CDs c3 (by simp [wrL,inC,Nat.testBit]) ?_;simp;refine CRs c4 (by simp) ?_;simp [AA,he];refine AL [(3,4194304)] (by kernel_rfl) ?_;simp [AA,inC,Nat.testBit];apply RZ;simp [results45]
     . rw [Ak h0,AZ h0] at c4
       refine CB func45 c45 fun E hE=>?_
       simp [p45];refine AL [(7,12582912)] (by kernel_rfl) ?_;simp [inC,Nat.testBit];refine CLa c1 ?_;simp [inC,Nat.testBit];refine CLa c2 ?_;simp [AA,AM,inC,Nat.testBit];refine CDs c3 (by simp [wrL,inC,Nat.testBit]) ?_;simp;refine CRs c4 (by simp) ?_;simp [AA,he];refine AL [(3,4194304)] (by kernel_rfl) ?_;simp [AA,inC,Nat.testBit];apply RZ;simp [results45]
 . rw [if_neg hz]
   simp only [Lp,F6,Aq,Au,ev0];rcases ABc ha hz with ⟨k1,k2⟩ | ⟨k1,k2,k3,k4,k5,k6⟩
   . have c3:=XK hS k r a b h1 h2 h3 k1
     rw [<-k2]
     generalize QG k r a b=e at*
     refine CB func45 c45 fun E hE=>?_
     simp [p45];refine AL [] (by kernel_rfl) ?_;simp [inC,Nat.testBit];refine CLa c1 ?_;simp [inC,Nat.testBit];refine CLa c2 ?_;simp [AA,AM,inC,Nat.testBit];refine CLb (c3) (by simp [Ap,Hcl,inC,Nat.testBit]) ?_;simp [AA,k1];apply RZ;simp [results45]
   . subst k3 k4
     have c3:=XM hS k r h1 h2 h3 k1 k2 k5;rw [k6];refine CB func45 c45 fun E hE=>?_
     simp [p45];refine AL [] (by kernel_rfl) ?_;simp [inC,Nat.testBit];refine CLa c1 ?_;simp [inC,Nat.testBit];refine CLa c2 ?_;simp [AA,AM,inC,Nat.testBit];refine CLb (c3) (by simp [Ap,Hcl,inC,Nat.testBit]) ?_;simp [AA];apply RZ;simp [results45]
theorem mL (hS:SortOk) (k:Sky) (r:Rig) (s:Shp) (l:List Leg) (h1:k.s.length<=1000000) (h2:k.w.length<=1000000) (h3:r.reg.length<=1000000) (h4:s.gas.cs.length<=1000000) (h5:l.length<=1000000) (h6:∀ x∈l,x.acts.length<=1000000):Ct prog 45 [Eu k,Fj r,Cl s (.d (AX s.gas.cs)), .d (Bs l)] (AFC (HA k r s l)) []:=by
 refine Cm.freeze (qt hS k r s l h1 h2 h3 h4 h5 h6) ?_;obtain ⟨ns,hns⟩:∃ ns,Lp (HA k r s l)=ns:=⟨_,rfl⟩
 unfold AFC;rw [hns];have z:∀ (H:Hp) (x:Int),FzC H (vi x) (vi x):=fun H x=>⟨_,rfl, .inl rfl⟩
 refine ⟨?_,⟨z _ _,z _ _,z _ _,z _ _,trivial⟩, .inl rfl,trivial⟩;by_cases h0:ns=[]
 . subst h0
   rw [Aq];exact .inr ⟨rfl,_,rfl⟩
 . rw [Ak h0,AZ h0]
   exact B0 (H:=lk [(0,AH Ca ns)]) (id:=0) WM (l:=ns) (by simp)
def xb (k:Sky) (r:Rig) (l:List Leg):List (Nat × Nat)->Shp->List Shp->Int × Evt
 | [],_,_=>(0,ev0)
 | (i,m)::rest,s,cs=>match l[i]?,cs with
   | some x,c::cs=>match FA k r x m s with
     | .error e=>FC i m e
     | .ok n=>if Xo c n then xb k r l rest c cs else (8,ev0)
   | _,_=>(8,ev0)
theorem ACd {k:Sky} {r:Rig} {l:List Leg}:∀ {im:List (Nat × Nat)} {s:Shp} {cs:List Shp},(xb k r l im s cs).1=ACa k r l im s cs
 | [],s,cs=>by unfold xb ACa;rfl
 | (i,m)::rest,s,cs=>by
   unfold xb ACa;cases hx:l[i]? with
   | none=>rfl
   | some x=>
     cases cs with
     | nil=>rfl
     | cons c cs=>
       simp only;cases ho:FA k r x m s with
       | error e=>rfl
       | ok n=>
         simp only;split
         . exact ACd
         . rfl
def eN (s:Shp) (cs:List Shp) (j:Nat):Shp:=if j=0 then s else (cs[j-1]?).getD s
theorem ACh {s c:Shp} {cs:List Shp} {j:Nat} (h:cs[j]?= some c):eN s cs (j+1)=c:=by
 unfold eN;rw [if_neg (by omega),Nat.add_sub_cancel,h];rfl
theorem ACi {s c:Shp} {cs:List Shp} {j:Nat} (h:j<=cs.length):eN s (c::cs) (j+1)=eN c cs j:=by
 unfold eN;cases j with
 | zero=>simp
 | succ j=>
   rw [if_neg (by omega),if_neg (by omega)];have h1:j<cs.length:=by omega
   simp [h1]
theorem ACm {k:Sky} {r:Rig} {l:List Leg}:∀ {im:List (Nat × Nat)} {s:Shp} {cs:List Shp},(∀ p∈im,∃ x,l[p.1]?= some x)->im.length=cs.length->
   ∃ M,M<=im.length/\(∀ j,j<M->∃ i m x n c,im[j]?= some (i,m)/\l[i]?= some x/\cs[j]?= some c/\FA k r x m (eN s cs j)= .ok n/\Xo c n=true)/\
     ((M=im.length/\xb k r l im s cs=(0,ev0))\/
      (∃ i m x e,im[M]?= some (i,m)/\l[i]?= some x/\FA k r x m (eN s cs M)= .error e/\xb k r l im s cs=FC i m e)\/
      (∃ i m x n c,im[M]?= some (i,m)/\l[i]?= some x/\cs[M]?= some c/\FA k r x m (eN s cs M)= .ok n/\Xo c n=false/\xb k r l im s cs=(8,ev0)))
 | [],s,cs,_,_=>⟨0,Nat.le_refl _,fun j h=>absurd h (by omega), .inl ⟨rfl,rfl⟩⟩
 | (i,m)::rest,s,[],_,h=>by simp at h
 | (i,m)::rest,s,c::cs,hm,hlen=>by
   obtain ⟨x,hx⟩:=hm (i,m) (by simp);simp only at hx;have hl':rest.length=cs.length:=by simpa using hlen
   cases h1:FA k r x m s with
   | error e=>
     refine ⟨0,Nat.zero_le _,fun j h=>absurd h (by omega), .inr (.inl ⟨i,m,x,e,rfl,hx,h1,?_⟩)⟩;unfold xb;rw [hx];simp only;rw [h1]
   | ok n=>
     cases h2:Xo c n with
     | false=>
       refine ⟨0,Nat.zero_le _,fun j h=>absurd h (by omega), .inr (.inr ⟨i,m,x,n,c,rfl,hx,rfl,h1,h2,?_⟩)⟩;unfold xb;rw [hx];simp only;rw [h1];simp only;rw [h2];rfl
     | true=>
       have e0:xb k r l ((i,m)::rest) s (c::cs)=xb k r l rest c cs:=by
         conv=>lhs;unfold xb
         rw [hx];simp only;rw [h1];simp only;rw [h2,if_pos rfl]
       obtain ⟨M,hM,hr,hend⟩:=ACm (im:=rest) (s:=c) (cs:=cs) (fun p hp=>hm p (by simp [hp])) hl';refine ⟨M+1,by simpa using hM,fun j hj=>?_,?_⟩
       . cases j with
         | zero=>exact ⟨i,m,x,n,c,rfl,hx,rfl,h1,h2⟩
         | succ j=>
           obtain ⟨i',m',x',n',c',a1,a2,a3,a4,a5⟩:=hr j (by omega);refine ⟨i',m',x',n',c',by simpa using a1,a2,by simpa using a3,?_,a5⟩;rw [ACi (by omega)];exact a4
       . rw [e0,ACi (by omega)]
         rcases hend with ⟨a1,a2⟩ | ⟨i',m',x',e,a1,a2,a3,a4⟩ | ⟨i',m',x',n',c',a1,a2,a3,a4,a5,a6⟩
         . exact .inl ⟨by simp [a1],a2⟩
         . exact .inr (.inl ⟨i',m',x',e,by simpa using a1,a2,a3,a4⟩)
         . exact .inr (.inr ⟨i',m',x',n',c',by simpa using a1,a2,by simpa using a3,a4,a5,a6⟩)
theorem AD2 (cert:List Shp) (n c:Shp) (j:Nat) (hc:cert[j]?= some c) (hl:cert.length<=100000) (h:Xo c n=true) (h1:A6 c=true) (h2:A6 n=true):Cm prog 132 [Cl n (.d (AX n.gas.cs)), .lp 0 0, .lp 1 0] (lk [(0,[vi ((j:Int)-1)]),(1,[.d (cD cert)])]) [0,1] (.ret (.tup [Cl c (.d (AX c.gas.cs)),vi 0])) (lk [(0,[vi j]),(1,[.d (cD cert)])]):=by
 have d1:=AD9 c n h1 h2;rw [h] at d1;have hj:=(List.getElem?_eq_some_iff.1 hc).1;have hjI:(j:Int)<cert.length:=by omega
 have w:IntKind.wrap .i64 (j:Int)=(j:Int):=AD (by omega) (by omega);refine CM 2 func132 AEI fun E hs hE=>?_
 simp [p132,AA,w,inC,Nat.testBit,hc];refine CLa d1 ?_;simp [AA,hc];refine AB.by (lk [(0,0),(1,1)]) ?_;simp [results132]
theorem AD3 (cert:List Shp) (n c:Shp) (j:Nat) (hc:cert[j]?= some c) (hl:cert.length<=100000) (h:Xo c n=false) (h1:A6 c=true) (h2:A6 n=true):Cm prog 132 [Cl n (.d (AX n.gas.cs)), .lp 0 0, .lp 1 0] (lk [(0,[vi ((j:Int)-1)]),(1,[.d (cD cert)])]) [0,1] (.ret (.tup [.agg shZ,vi 8])) (lk [(0,[vi j]),(1,[.d (cD cert)])]):=by
 have d1:=AD9 c n h1 h2;rw [h] at d1;have hj:=(List.getElem?_eq_some_iff.1 hc).1;have hjI:(j:Int)<cert.length:=by omega
 have w:IntKind.wrap .i64 (j:Int)=(j:Int):=AD (by omega) (by omega);refine CM 2 func132 AEI fun E hs hE=>?_
 simp [p132,AA,w,inC,Nat.testBit,hc];refine CLa d1 ?_;simp [AA];refine AB.by (lk [(0,0),(1,1)]) ?_;simp [results132]
def cKS:List Nat:=[8388610,7340034,2,1048578,2097154,3145730,4194306,5242882,0,1]
def cL (k:Sky) (r:Rig) (l:List Leg) (cert:List Shp) (f:Nat->V) (z:LSt) (at':Int) (sb:List V) (e:Evt) (er:Int):List (Nat × List V):=
 [(8388610,[.lr f 69 [19,20] Az A3 z]),(7340034,[.d (Bs l)]),(2,[D2 k r]),(1048578,sb),(2097154,[.d (Bs l)]),(3145730,[.cl 132 [.lp 0 0, .lp 1 0]]),(4194306,evL e),(5242882,[vi er]),(0,[vi at']),(1,[.d (cD cert)])]
def SbD (sb:List V):Prop:=¬ sb=[]/\∀ c∈sb,∃ d,c=V.d d
theorem ADq {sb:List V} (h:SbD sb):Bv sb:=Or.inl (List.all_eq_true.2 fun c hc=>by obtain ⟨d,rfl⟩:=h.2 c hc;rfl)
theorem Qk (s:Shp):SbD (shB s):=⟨by simp,fun c hc=>by
 simp only [shB,List.mem_cons,List.not_mem_nil,or_false] at hc;rcases hc with rfl | rfl | rfl | rfl | rfl | rfl | rfl | rfl | rfl | rfl | rfl | rfl | rfl | rfl | rfl | rfl | rfl | rfl | rfl | rfl | rfl | rfl | rfl | rfl | rfl<;>exact ⟨_,rfl⟩⟩
theorem ADr:SbD shZ:=⟨by simp,fun c hc=>by
 simp only [shZ,List.mem_cons,List.not_mem_nil,or_false] at hc;rcases hc with rfl | rfl | rfl | rfl | rfl | rfl | rfl | rfl | rfl | rfl | rfl | rfl | rfl | rfl | rfl | rfl | rfl | rfl | rfl | rfl | rfl | rfl | rfl | rfl | rfl<;>exact ⟨_,rfl⟩⟩
theorem ACf (k:Sky) (r:Rig) (l:List Leg) (cert:List Shp) (f:Nat->V) (z:LSt) (at':Int) (sb:List V) (e:Evt) (er:Int) (hf:∀ t,AV (·∈cKS) AR (f t)) (hb:SbD sb):BT cKS [] (cL k r l cert f z at' sb e er):=by
 refine ⟨rfl,by simp [cKS],?_⟩;intro q hq;simp only [cL,List.mem_cons,List.not_mem_nil,or_false] at hq;rcases hq with rfl | rfl | rfl | rfl | rfl | rfl | rfl | rfl | rfl | rfl
 . exact ⟨by simp,Or.inr ⟨_,_,_,_,_,_,rfl⟩,fun c hc=>by simp at hc;subst hc;exact hf⟩
 rotate_left 2
 . refine ⟨by simpa using hb.1,ADq hb,fun c hc=>?_⟩
   obtain ⟨d,rfl⟩:=hb.2 c hc;exact rfl
 all_goals refine ⟨by simp,Or.inl rfl,fun c hc=>?_⟩
 all_goals simp only [List.mem_cons,List.not_mem_nil,or_false] at hc
 all_goals first
   | (subst hc;exact rfl)
   | (subst hc;simp [CX,W1,W0,rid,cKS,AJ])
   | (rcases hc with rfl | rfl | rfl | rfl<;>exact rfl)
structure ADz (f:Nat->V):Prop where
 av:∀ t,AV (·∈cKS) AR (f t)
 f4:f 4= .lp 2 0
 f5:f 5= .lp 1048578 0
 f6:f 6= .lp 2097154 0
 f7:f 7= .lp 3145730 0
 f8:f 8= .lp 4194306 0
 f9:f 9= .lp 5242882 0
theorem ADc (hS:SortOk) (k:Sky) (r:Rig) (l:List Leg) (cert:List Shp) (f:Nat->V) (hF:ADz f) (j:Nat) (s n c:Shp) (i m:Nat) (x:Leg) (_:l.length<=1000000) (hc:cert.length<=100000) (h1:k.s.length<=1000000) (h2:k.w.length<=1000000) (h3:r.reg.length<=1000000) (hk:BV k=true) (hR:CF r=true) (hg:Ey k r=true) (hs:A6 s=true) (hlo:BE x=true) (hx:l[i]?= some x) (hcj:cert[j]?= some c) (hco:A6 c=true) (hh:Xo c n=true) (ho:FA k r x m s= .ok n):
   Ym prog 8388610 [vi i,vi m] (lk (cL k r l cert f .ready ((j:Int)-1) (shB s) ev0 0)) cKS (.ret (vb true)) (lk (cL k r l cert f .ready j (shB c) ev0 0)):=by
 obtain ⟨hf,f4,f5,f6,f7,f8,f9⟩:=hF;have hil:=(List.getElem?_eq_some_iff.1 hx).1;have hiI:(i:Int)<l.length:=by omega
 have hlt:∀ j∈cKS++[],j<10000000:=by
   intro j hj;simp only [cKS,List.mem_append,List.mem_cons,List.not_mem_nil,or_false] at hj;omega
 have hW:∀ z,WC (lk [(8388610,8388610),(7340034,7340034),(2,2),(1048578,1048578),(2097154,2097154),(3145730,3145730),(4194306,4194306),(5242882,5242882),(0,0),(1,1)]) (.lr f 69 [19,20] Az A3 z) (.lr f 69 [19,20] Az A3 z):=fun z=>⟨rfl,fun t=>AV.mono (fun j hj=>by simp [cKS] at hj;rcases hj with rfl | rfl | rfl | rfl | rfl | rfl | rfl | rfl | rfl | rfl<;>simp [lk]) (fun _ h=>h) (hf t)⟩
 have hC:∀ z,Bv [.lr f 69 [19,20] Az A3 z]:=fun z=>Or.inr ⟨_,_,_,_,_,_,rfl⟩
 have hT:Va k r:=⟨hk,Hy hR,hg⟩
 have hno:=Q7 hT hs hlo ho;have hK1:=ACf k r l cert f .ready ((j:Int)-1) (shB s) ev0 0 hf (Qk s);have hK2:=ACf k r l cert f .ready j (shB c) ev0 0 hf (Qk c);have ca:=AD2 cert n c j hcj hc hh hco hno;refine Ym.ofX (k:=8388610) (fr:=f) (nt:=69) (ps:=[19,20]) (pa:=Az) (pb:=A3) (args:=[vi i,vi m]) (s:= .ready) gok eok mixed 10000000 hK1 hK2 hlt (by simp [cKS]) (by simp [cL]) (by simp) (by simp) (by simp) ?_;obtain ⟨t,ht,hmo,hnx⟩:=Ib.1 ho;have hto:=Ow hs hlo ht;have cm:=ko hS k r t x h1 h2 h3 hk hR hg hto hlo;rw [H2.2 ⟨hmo,hnx⟩] at cm;simp only [RB] at cm;by_cases hm:m=0
 . rw [if_pos hm] at ht
   subst hm;have cb:=pP s x hs hlo;rw [ht] at cb;simp only [Oy] at cb;refine ⟨fun E hE hs=>?_⟩;unfold cL
   generalize V.lr f 69 [19,20] Az A3=rc at hW hC ⊢
   simp [Az,BD];simp [A3];refine AL [(10,23631488)] (by kernel_rfl) ?_;simp [inC,Nat.testBit,hx,f5,f6];refine CLa cb ?_;simp [AA,inC,Nat.testBit,f5];refine AL [(13,42505856),(14,43554432)] (by kernel_rfl) ?_;simp [inC,Nat.testBit,hx,f4,f5,f6];refine CLa cm ?_;simp [AA,inC,Nat.testBit,f7];refine CRs ca (by simp) ?_;simp [AA,f5];refine ⟨trivial,by simp,lk [(8388610,8388610),(7340034,7340034),(2,2),(1048578,1048578),(2097154,2097154),(3145730,3145730),(4194306,4194306),(5242882,5242882),(0,0),(1,1)],?_⟩;simp [hW,hC,cKS,ev0]
 . rw [if_neg hm] at ht
   subst ht;refine ⟨fun E hE hs=>?_⟩;unfold cL
   generalize V.lr f 69 [19,20] Az A3=rc at hW hC ⊢
   simp [Az,BD];simp [A3,hm];refine AL [(13,25728640),(14,26777216)] (by kernel_rfl) ?_;simp [inC,Nat.testBit,hx,f4,f5,f6];refine CLa cm ?_;simp [AA,inC,Nat.testBit,f7];refine CRs ca (by simp) ?_;simp [AA,f5];refine ⟨trivial,by simp,lk [(8388610,8388610),(7340034,7340034),(2,2),(1048578,1048578),(2097154,2097154),(3145730,3145730),(4194306,4194306),(5242882,5242882),(0,0),(1,1)],?_⟩;simp [hW,hC,cKS,ev0]
theorem ADi (hS:SortOk) (k:Sky) (r:Rig) (l:List Leg) (cert:List Shp) (f:Nat->V) (hF:ADz f) (at':Int) (s:Shp) (i m:Nat) (x:Leg) (e:Int × Int × Int) (_:l.length<=1000000) (_:cert.length<=100000) (h1:k.s.length<=1000000) (h2:k.w.length<=1000000) (h3:r.reg.length<=1000000) (hk:BV k=true) (hR:CF r=true) (hg:Ey k r=true) (hs:A6 s=true) (hlo:BE x=true) (hx:l[i]?= some x) (ho:FA k r x m s= .error e):
   Ym prog 8388610 [vi i,vi m] (lk (cL k r l cert f .ready at' (shB s) ev0 0)) cKS (.ret (vb false)) (lk (cL k r l cert f (.done .ret) at' (shB (Iw x m s)) (FC i m e).2 (FC i m e).1)):=by
 obtain ⟨hf,f4,f5,f6,f7,f8,f9⟩:=hF;have hil:=(List.getElem?_eq_some_iff.1 hx).1;have hiI:(i:Int)<l.length:=by omega
 have hlt:∀ j∈cKS++[],j<10000000:=by
   intro j hj;simp only [cKS,List.mem_append,List.mem_cons,List.not_mem_nil,or_false] at hj;omega
 have hW:∀ z,WC (lk [(8388610,8388610),(7340034,7340034),(2,2),(1048578,1048578),(2097154,2097154),(3145730,3145730),(4194306,4194306),(5242882,5242882),(0,0),(1,1)]) (.lr f 69 [19,20] Az A3 z) (.lr f 69 [19,20] Az A3 z):=fun z=>⟨rfl,fun t=>AV.mono (fun j hj=>by simp [cKS] at hj;rcases hj with rfl | rfl | rfl | rfl | rfl | rfl | rfl | rfl | rfl | rfl<;>simp [lk]) (fun _ h=>h) (hf t)⟩
 have hC:∀ z,Bv [.lr f 69 [19,20] Az A3 z]:=fun z=>Or.inr ⟨_,_,_,_,_,_,rfl⟩
 have hK1:=ACf k r l cert f .ready at' (shB s) ev0 0 hf (Qk s);have hK2:=ACf k r l cert f (.done .ret) at' (shB (Iw x m s)) (FC i m e).2 (FC i m e).1 hf (Qk _);refine Ym.ofX (k:=8388610) (fr:=f) (nt:=69) (ps:=[19,20]) (pa:=Az) (pb:=A3) (args:=[vi i,vi m]) (s:= .done .ret) gok eok mixed 10000000 hK1 hK2 hlt (by simp [cKS]) (by simp [cL]) (by simp) (by simp) (by simp) ?_;clear hK1 hK2;unfold FA at ho;by_cases hm:m=0
 . rw [if_pos hm] at ho
   subst hm;have cb:=pP s x hs hlo;cases hbs:Ep s x with
   | error b=>
     rw [hbs] at ho cb;simp only [Oy] at cb;have he:e=(b,0,0):=by cases ho;rfl
     subst he;have hbe:=TP hbs;have h54:=mR hbs;have e1:Iw x 0 s=s:=by unfold Iw;rw [if_pos rfl,hbs]
     have e2:FC i 0 (b,0,0)=(b,ev0):=by unfold FC;simp only;rw [if_neg h54]
     rw [e1,e2];simp only;refine ⟨fun E hE hs=>?_⟩;unfold cL
     generalize V.lr f 69 [19,20] Az A3=rc at hW hC ⊢
     simp [Az,BD];simp [A3];refine AL [(10,23631488)] (by kernel_rfl) ?_;simp [inC,Nat.testBit,hx,f5,f6];refine CLa cb ?_;simp [AA,inC,Nat.testBit,f8,f9,hbe];refine ⟨trivial,by simp,lk [(8388610,8388610),(7340034,7340034),(2,2),(1048578,1048578),(2097154,2097154),(3145730,3145730),(4194306,4194306),(5242882,5242882),(0,0),(1,1)],?_⟩;simp [hW,hC,cKS,ev0]
   | ok t=>
     rw [hbs] at ho cb;simp only [Oy] at cb;simp only at ho;have hto:=ZC hs hlo hbs;have cm:=ko hS k r t x h1 h2 h3 hk hR hg hto hlo;rw [ho] at cm;simp only [RB] at cm;have e1:Iw x 0 s=t:=by unfold Iw;rw [if_pos rfl,hbs]
     rw [e1];rcases ck ho with ⟨h54,_⟩ | ⟨h9,k1,k2⟩
     . have e2:FC i 0 e=((54:Int),e.2.1,(i:Int),(0:Int),e.2.2):=by unfold FC;rw [h54,if_pos rfl];rfl
       rw [e2];rw [h54] at cm;simp only;refine ⟨fun E hE hs=>?_⟩;unfold cL
       generalize V.lr f 69 [19,20] Az A3=rc at hW hC ⊢
       simp [Az,BD];simp [A3];refine AL [(10,23631488)] (by kernel_rfl) ?_;simp [inC,Nat.testBit,hx,f5,f6];refine CLa cb ?_;simp [AA,inC,Nat.testBit,f5];refine AL [(13,42505856),(14,43554432)] (by kernel_rfl) ?_;simp [inC,Nat.testBit,hx,f4,f5,f6];refine CLa cm ?_;simp [AA,inC,Nat.testBit,f8,f9];refine ⟨trivial,by simp,lk [(8388610,8388610),(7340034,7340034),(2,2),(1048578,1048578),(2097154,2097154),(3145730,3145730),(4194306,4194306),(5242882,5242882),(0,0),(1,1)],?_⟩;simp [hW,hC,cKS,ev0]
     . have e2:FC i 0 e=(9,ev0):=by unfold FC;rw [h9,if_neg (by decide)]
       rw [e2];rw [h9,k1,k2] at cm;simp only;refine ⟨fun E hE hs=>?_⟩;unfold cL
       generalize V.lr f 69 [19,20] Az A3=rc at hW hC ⊢
       simp [Az,BD];simp [A3];refine AL [(10,23631488)] (by kernel_rfl) ?_;simp [inC,Nat.testBit,hx,f5,f6];refine CLa cb ?_;simp [AA,inC,Nat.testBit,f5];refine AL [(13,42505856),(14,43554432)] (by kernel_rfl) ?_;simp [inC,Nat.testBit,hx,f4,f5,f6];refine CLa cm ?_;simp [AA,inC,Nat.testBit,f8,f9];refine ⟨trivial,by simp,lk [(8388610,8388610),(7340034,7340034),(2,2),(1048578,1048578),(2097154,2097154),(3145730,3145730),(4194306,4194306),(5242882,5242882),(0,0),(1,1)],?_⟩;simp [hW,hC,cKS,ev0]
 . rw [if_neg hm] at ho
   have cm:=ko hS k r s x h1 h2 h3 hk hR hg hs hlo;rw [ho] at cm;simp only [RB] at cm;have e1:Iw x m s=s:=by unfold Iw;rw [if_neg hm]
   rw [e1];rcases ck ho with ⟨h54,_⟩ | ⟨h9,k1,k2⟩
   . have e2:FC i m e=((54:Int),e.2.1,(i:Int),(m:Int),e.2.2):=by unfold FC;rw [h54,if_pos rfl]
     rw [e2];rw [h54] at cm;simp only;refine ⟨fun E hE hs=>?_⟩;unfold cL
     generalize V.lr f 69 [19,20] Az A3=rc at hW hC ⊢
     simp [Az,BD];simp [A3,hm];refine AL [(13,25728640),(14,26777216)] (by kernel_rfl) ?_;simp [inC,Nat.testBit,hx,f4,f5,f6];refine CLa cm ?_;simp [AA,inC,Nat.testBit,f8,f9];refine ⟨trivial,by simp,lk [(8388610,8388610),(7340034,7340034),(2,2),(1048578,1048578),(2097154,2097154),(3145730,3145730),(4194306,4194306),(5242882,5242882),(0,0),(1,1)],?_⟩;simp [hW,hC,cKS,ev0]
   . have e2:FC i m e=(9,ev0):=by unfold FC;rw [h9,if_neg (by decide)]
     rw [e2];rw [h9,k1,k2] at cm;simp only;refine ⟨fun E hE hs=>?_⟩;unfold cL
     generalize V.lr f 69 [19,20] Az A3=rc at hW hC ⊢
     simp [Az,BD];simp [A3,hm];refine AL [(13,25728640),(14,26777216)] (by kernel_rfl) ?_;simp [inC,Nat.testBit,hx,f4,f5,f6];refine CLa cm ?_;simp [AA,inC,Nat.testBit,f8,f9];refine ⟨trivial,by simp,lk [(8388610,8388610),(7340034,7340034),(2,2),(1048578,1048578),(2097154,2097154),(3145730,3145730),(4194306,4194306),(5242882,5242882),(0,0),(1,1)],?_⟩;simp [hW,hC,cKS,ev0]
theorem ADv (hS:SortOk) (k:Sky) (r:Rig) (l:List Leg) (cert:List Shp) (f:Nat->V) (hF:ADz f) (j:Nat) (s n c:Shp) (i m:Nat) (x:Leg) (_:l.length<=1000000) (hc:cert.length<=100000) (h1:k.s.length<=1000000) (h2:k.w.length<=1000000) (h3:r.reg.length<=1000000) (hk:BV k=true) (hR:CF r=true) (hg:Ey k r=true) (hs:A6 s=true) (hlo:BE x=true) (hx:l[i]?= some x) (hcj:cert[j]?= some c) (hco:A6 c=true) (hh:Xo c n=false) (ho:FA k r x m s= .ok n):
   Ym prog 8388610 [vi i,vi m] (lk (cL k r l cert f .ready ((j:Int)-1) (shB s) ev0 0)) cKS (.ret (vb false)) (lk (cL k r l cert f (.done .ret) j shZ ev0 8)):=by
 obtain ⟨hf,f4,f5,f6,f7,f8,f9⟩:=hF;have hil:=(List.getElem?_eq_some_iff.1 hx).1;have hiI:(i:Int)<l.length:=by omega
 have hlt:∀ j∈cKS++[],j<10000000:=by
   intro j hj;simp only [cKS,List.mem_append,List.mem_cons,List.not_mem_nil,or_false] at hj;omega
 have hW:∀ z,WC (lk [(8388610,8388610),(7340034,7340034),(2,2),(1048578,1048578),(2097154,2097154),(3145730,3145730),(4194306,4194306),(5242882,5242882),(0,0),(1,1)]) (.lr f 69 [19,20] Az A3 z) (.lr f 69 [19,20] Az A3 z):=fun z=>⟨rfl,fun t=>AV.mono (fun j hj=>by simp [cKS] at hj;rcases hj with rfl | rfl | rfl | rfl | rfl | rfl | rfl | rfl | rfl | rfl<;>simp [lk]) (fun _ h=>h) (hf t)⟩
 have hC:∀ z,Bv [.lr f 69 [19,20] Az A3 z]:=fun z=>Or.inr ⟨_,_,_,_,_,_,rfl⟩
 have hT:Va k r:=⟨hk,Hy hR,hg⟩
 have hno:=Q7 hT hs hlo ho;have hK1:=ACf k r l cert f .ready ((j:Int)-1) (shB s) ev0 0 hf (Qk s);have hK2:=ACf k r l cert f (.done .ret) j shZ ev0 8 hf ADr;have ca:=AD3 cert n c j hcj hc hh hco hno;refine Ym.ofX (k:=8388610) (fr:=f) (nt:=69) (ps:=[19,20]) (pa:=Az) (pb:=A3) (args:=[vi i,vi m]) (s:= .done .ret) gok eok mixed 10000000 hK1 hK2 hlt (by simp [cKS]) (by simp [cL]) (by simp) (by simp) (by simp) ?_;obtain ⟨t,ht,hmo,hnx⟩:=Ib.1 ho;have hto:=Ow hs hlo ht;have cm:=ko hS k r t x h1 h2 h3 hk hR hg hto hlo;rw [H2.2 ⟨hmo,hnx⟩] at cm;simp only [RB] at cm;by_cases hm:m=0
 . rw [if_pos hm] at ht
   subst hm;have cb:=pP s x hs hlo;rw [ht] at cb;simp only [Oy] at cb;refine ⟨fun E hE hs=>?_⟩;unfold cL
   generalize V.lr f 69 [19,20] Az A3=rc at hW hC ⊢
   simp [Az,BD];simp [A3];refine AL [(10,23631488)] (by kernel_rfl) ?_;simp [inC,Nat.testBit,hx,f5,f6];refine CLa cb ?_;simp [AA,inC,Nat.testBit,f5];refine AL [(13,42505856),(14,43554432)] (by kernel_rfl) ?_;simp [inC,Nat.testBit,hx,f4,f5,f6];refine CLa cm ?_;simp [AA,inC,Nat.testBit,f7];refine CRs ca (by simp) ?_;simp [AA,f5,f8,f9];refine ⟨trivial,by simp,lk [(8388610,8388610),(7340034,7340034),(2,2),(1048578,1048578),(2097154,2097154),(3145730,3145730),(4194306,4194306),(5242882,5242882),(0,0),(1,1)],?_⟩;simp [hW,hC,cKS,ev0]
 . rw [if_neg hm] at ht
   subst ht;refine ⟨fun E hE hs=>?_⟩;unfold cL
   generalize V.lr f 69 [19,20] Az A3=rc at hW hC ⊢
   simp [Az,BD];simp [A3,hm];refine AL [(13,25728640),(14,26777216)] (by kernel_rfl) ?_;simp [inC,Nat.testBit,hx,f4,f5,f6];refine CLa cm ?_;simp [AA,inC,Nat.testBit,f7];refine CRs ca (by simp) ?_;simp [AA,f5,f8,f9];refine ⟨trivial,by simp,lk [(8388610,8388610),(7340034,7340034),(2,2),(1048578,1048578),(2097154,2097154),(3145730,3145730),(4194306,4194306),(5242882,5242882),(0,0),(1,1)],?_⟩;simp [hW,hC,cKS,ev0]
def cT (k:Sky) (r:Rig) (l:List Leg) (cert:List Shp) (at':Int) (sb:List V) (e:Evt) (er:Int):List (Nat × List V):=
 [(7340034,[.d (Bs l)]),(2,[D2 k r]),(1048578,sb),(2097154,[.d (Bs l)]),(3145730,[.cl 132 [.lp 0 0, .lp 1 0]]),(4194306,evL e),(5242882,[vi er]),(0,[vi at']),(1,[.d (cD cert)])]
theorem ACg (k:Sky) (r:Rig) (l:List Leg) (cert:List Shp) (f:Nat->V) (z:LSt) (at':Int) (sb:List V) (e:Evt) (er:Int):cL k r l cert f z at' sb e er=(8388610,[.lr f 69 [19,20] Az A3 z])::cT k r l cert at' sb e er:=rfl
theorem ACV:cKS=8388610::[7340034,2,1048578,2097154,3145730,4194306,5242882,0,1]:=rfl
theorem AD0 {s:Shp} {cs:List Shp} (hs:A6 s=true) (hn:∀ n∈cs,A6 n=true) {j:Nat} (hj:j<=cs.length):A6 (eN s cs j)=true:=by
 unfold eN;split
 . exact hs
 . obtain ⟨n,hnn⟩:∃ n,cs[j-1]?= some n:=⟨_,List.getElem?_eq_getElem (by omega)⟩
   rw [hnn];exact hn n (List.mem_of_getElem? hnn)
theorem AEO (hS:SortOk) (k:Sky) (r:Rig) (l:List Leg) (s:Shp) (cert:List Shp) (hl:l.length<=100) (hok:∀ x∈l,BE x=true) (h1:k.s.length<=1000000) (h2:k.w.length<=1000000) (h3:r.reg.length<=1000000) (hk:BV k=true) (hR:CF r=true) (hg:Ey k r=true) (hs:A6 s=true) (hcl:(BN 0 l).length=cert.length) (hco:∀ c∈cert,A6 c=true):
   ∃ q:Int,Cm prog 103 [D2 k r,Cl s (.d (AX s.gas.cs)), .d (Bs l), .cl 132 [.lp 0 0, .lp 1 0]] (lk [(0,[vi (-1)]),(1,[.d (cD cert)])]) [0,1] (.ret (.tup [Ys (xb k r l (BN 0 l) s cert).2,vi (xb k r l (BN 0 l) s cert).1])) (lk [(0,[vi q]),(1,[.d (cD cert)])]):=by
 have hlen:=Kv (i:=0) hok
 have hmem:∀ p∈BN 0 l,∃ x,l[p.1]?= some x:=fun p hp=>by
   obtain ⟨x,_,h,_⟩:=zn hp;exact ⟨x,by simpa using h⟩
 have hlb:(BN 0 l).length<=60000:=by
   have:=KA hok;omega
 obtain ⟨M,hM,hrd,hend⟩:=ACm (k:=k) (r:=r) (s:=s) hmem hcl;obtain ⟨AE,hAE⟩:∃ AE,xb k r l (BN 0 l) s cert=AE:=⟨_,rfl⟩
 rw [hAE] at hend ⊢;have hsj:∀ {j:Nat},j<=cert.length->A6 (eN s cert j)=true:=fun hj=>AD0 hs hco hj
 obtain ⟨q,hend⟩:∃ q:Int,((M=(BN 0 l).length/\AE=(0,ev0))/\q=(M:Int)-1)\/
      ((∃ i m x e,(BN 0 l)[M]?= some (i,m)/\l[i]?= some x/\FA k r x m (eN s cert M)= .error e/\AE=FC i m e)/\q=(M:Int)-1)\/
      ((∃ i m x n c,(BN 0 l)[M]?= some (i,m)/\l[i]?= some x/\cert[M]?= some c/\FA k r x m (eN s cert M)= .ok n/\Xo c n=false/\AE=(8,ev0))/\q=(M:Int)):=by
   rcases hend with h | h | h
   . exact ⟨_, .inl ⟨h,rfl⟩⟩
   . exact ⟨_, .inr (.inl ⟨h,rfl⟩)⟩
   . exact ⟨_, .inr (.inr ⟨h,rfl⟩)⟩
 refine ⟨q,?_⟩;refine CM 2 func103 AFN fun E hs' hE=>?_
 simp [p103];refine CLa (qu l) ?_;simp;have hnt:E.nt=69:=by rw [hE.1];exact ntmps103
 rw [<-JI (Γ:=tys) (eqs:=eqs)];obtain ⟨f,hf⟩:∃ f,f=upd (upd (upd (upd (upd (upd (upd (upd (Dn 0 [D2 k r,Cl s (.d (AX s.gas.cs)), .d (Bs l), .cl 132 [.lp 0 0, .lp 1 0]]) 4 (.lp 2 0)) 5 (.lp 1048578 0)) 6 (.lp 2097154 0)) 7 (.lp 3145730 0)) 8 (.lp 4194306 0)) 9 (.lp 5242882 0)) 17 (.d (Bs l))) 18 (.cl 205 [.lp 7340034 0]):=⟨_,rfl⟩
 have hfA:∀ t,AV (·∈cKS) AR (f t):=fun t=>by
   rw [hf];simp only [AY];split
   . intro c hc;simp at hc;subst hc;exact (by simp [cKS]:(7340034:Nat)∈cKS)
   split
   . exact trivial
   split
   . exact (by simp [cKS]:(5242882:Nat)∈cKS)
   split
   . exact (by simp [cKS]:(4194306:Nat)∈cKS)
   split
   . exact (by simp [cKS]:(3145730:Nat)∈cKS)
   split
   . exact (by simp [cKS]:(2097154:Nat)∈cKS)
   split
   . exact (by simp [cKS]:(1048578:Nat)∈cKS)
   split
   . exact (by simp [cKS]:(2:Nat)∈cKS)
   simp only [Dn];split
   . exact trivial
   split
   . intro c hc;simp at hc;rcases hc with rfl | rfl | rfl | rfl | rfl | rfl | rfl | rfl | rfl | rfl | rfl | rfl | rfl | rfl | rfl | rfl | rfl | rfl | rfl | rfl | rfl | rfl | rfl | rfl | rfl<;>exact trivial
   split
   . exact trivial
   split
   . intro c hc;simp at hc;rcases hc with rfl | rfl
     . exact (by simp [cKS]:(0:Nat)∈cKS)
     . exact (by simp [cKS]:(1:Nat)∈cKS)
   . exact fun c hc=>by simp at hc
 have hFF:ADz f:=⟨hfA,by rw [hf];simp,by rw [hf];simp,by rw [hf];simp,by rw [hf];simp,by rw [hf];simp,by rw [hf];simp⟩
 have f18:f 18= .cl 205 [.lp 7340034 0]:=by rw [hf];simp
 obtain ⟨_,f4,f5,f6,f7,f8,f9⟩:=id hFF;rw [<-hf];have hK:=fun z at' sb e er (h:SbD sb)=>ACf k r l cert f z at' sb e er hfA h
 have hN:∀ i∈cKS,i<1000000000:=by simp [cKS]
 have hX:∀ i:Nat,∀ x∈(fun _:Nat=>([]:List Nat)) i,x<1048576:=fun i x hx=>by simp at hx
 have hrec:∀ z at' sb e er,∃ fr nt ps pa pb jmp,lk (cL k r l cert f z at' sb e er) 8388610=some [.lr fr nt ps pa pb jmp]/\ps.length=2:=fun z at' sb e er=>⟨f,69,[19,20],Az,A3,z,by simp [cL],rfl⟩
 have hbox:∀ z at' sb e er,lk (cL k r l cert f z at' sb e er) 7340034=some [.d (Bs l)]:=fun z at' sb e er=>by simp [cL]
 have hround:∀ j i m,j<M->(BN 0 l)[j]?= some (i,m)->Ym prog 8388610 [vi i,vi m] (lk (cL k r l cert f .ready ((j:Int)-1) (shB (eN s cert j)) ev0 0)) cKS (.ret (vb true)) (lk (cL k r l cert f .ready (((j+1:Nat):Int)-1) (shB (eN s cert (j+1))) ev0 0)):=fun j i m hj him=>by
   obtain ⟨i',m',x,n,c,e1,e2,e3,e4,e5⟩:=hrd j hj;rw [him] at e1;cases e1;have:=ADc hS k r l cert f hFF j (eN s cert j) n c i m x (by omega) (by omega) h1 h2 h3 hk hR hg (hsj (by omega)) (hok x (List.mem_of_getElem? e2)) e2 e3 (hco c (List.mem_of_getElem? e3)) e5 e4;rw [ACh e3,show ((j+1:Nat):Int)-1=j by omega];exact this
 have hK0:=hK .ready (-1) (shB s) ev0 0 (Qk s);rw [ACg,ACV] at hK0;by_cases hMl:M=(BN 0 l).length
 . rcases hend with ⟨⟨_,hA⟩,rfl⟩ | ⟨⟨i,m,x,e,hm1,_⟩,_⟩ | ⟨⟨i,m,x,n,c,hm1,_⟩,_⟩
   rotate_left
   . have:=(List.getElem?_eq_some_iff.1 hm1).1;omega
   . have:=(List.getElem?_eq_some_iff.1 hm1).1;omega
   have c:=Jl l (by omega) hok cKS (fun _=>[]) 8388610 7340034 M (fun _=>true) (fun j=>cL k r l cert f .ready ((j:Int)-1) (shB (eN s cert j)) ev0 0) (by simp [cKS]) (by simp [cKS]) hN hX (by omega) (fun j _=>hK _ _ _ _ _ (Qk _)) (fun j _=>hrec _ _ _ _ _) (fun j _=>hbox _ _ _ _ _) (fun _ _=>rfl) (Or.inl hMl) (fun j i m hj him=>hround j i m hj him);have hKn:=hK .ready ((M:Int)-1) (shB (eN s cert M)) ev0 0 (Qk _);have c0:cL k r l cert f .ready (((0:Nat):Int)-1) (shB (eN s cert 0)) ev0 0=cL k r l cert f .ready (-1) (shB s) ev0 0:=rfl;rw [c0,ACg,ACg,ACV] at c;rw [ACg,ACV] at hKn;rw [hA];refine E3.keepX (cT k r l cert (-1) (shB s) ev0 0) (cT k r l cert ((M:Int)-1) (shB (eN s cert M)) ev0 0) [7340034,2,1048578,2097154,3145730,4194306,5242882,0,1] [] [] (.tup []) .ready hE.2 (g:=205) (caps:=[.lp 7340034 0]) (by simp [f18]) (by rw [hnt];exact c) (by rw [hnt];exact hK0) (by rw [hnt];exact hKn) (fun x hx=>by simp at hx) (by simp) (by simp [cT,ev0]) (by simp) fun F h1 h2=>?_
   have F0:=h1 (0,_) (by simp [cT];rfl);have F1:=h1 (1,_) (by simp [cT];rfl);have F8:=h1 (4194306,_) (by simp [cT];rfl);have F9:=h1 (5242882,_) (by simp [cT];rfl);simp [sg,BJ,DS,DR] at F0 F1 F8 F9
   show Ft 0 _ .normal _
   simp [f8,f9,F8,F9,AA];refine AB.by (lk [(0,0),(1,1)]) ?_;simp [results103,F0,F1,ev0,f8,f9]
 . have hMlt:M<(BN 0 l).length:=by omega
   have key:∀ (q:Int) (SF:List V) (hSF:SbD SF) (hfail:∀ i m,(BN 0 l)[M]?= some (i,m)->Ym prog 8388610 [vi i,vi m] (lk (cL k r l cert f .ready ((M:Int)-1) (shB (eN s cert M)) ev0 0)) cKS (.ret (vb false)) (lk (cL k r l cert f (.done .ret) q SF AE.2 AE.1))),
       Cm prog 205 [.yl 8388610, .lp 7340034 0] (lk (cL k r l cert f .ready (-1) (shB s) ev0 0)) cKS (.ret (.tup [])) (lk (cL k r l cert f (.done .ret) q SF AE.2 AE.1)):=fun q SF hSF hfail=>by
     obtain ⟨LL,hLL⟩:∃ LL:Nat->List (Nat × List V),LL=fun j=>if j<=M then cL k r l cert f .ready ((j:Int)-1) (shB (eN s cert j)) ev0 0 else cL k r l cert f (.done .ret) q SF AE.2 AE.1:=⟨_,rfl⟩
     have LLa:∀ j,j<=M->LL j=cL k r l cert f .ready ((j:Int)-1) (shB (eN s cert j)) ev0 0:=fun j hj=>by rw [hLL];simp only;rw [if_pos hj]
     have LLb:LL (M+1)=cL k r l cert f (.done .ret) q SF AE.2 AE.1:=by rw [hLL];simp only;rw [if_neg (by omega)]
     have c:=Jl l (by omega) hok cKS (fun _=>[]) 8388610 7340034 (M+1) (fun j=>decide (j<M)) LL (by simp [cKS]) (by simp [cKS]) hN hX (by omega) (fun j hj=>by
         by_cases h:j<=M
         . rw [LLa j h];exact hK _ _ _ _ _ (Qk _)
         . rw [show j=M+1 by omega,LLb];exact hK _ _ _ _ _ hSF) (fun j hj=>by
         rw [LLa j (by omega)];exact hrec _ _ _ _ _) (fun j hj=>by
         by_cases h:j<=M
         . rw [LLa j h];exact hbox _ _ _ _ _
         . rw [show j=M+1 by omega,LLb];exact hbox _ _ _ _ _) (fun j hj=>decide_eq_true (by omega)) (Or.inr ⟨by omega,decide_eq_false (by omega)⟩) (fun j i' m' hj him=>by
         by_cases h:j<M
         . rw [LLa j (by omega),LLa (j+1) (by omega),decide_eq_true h];exact hround j i' m' h him
         . have e1:j=M:=by omega
           subst e1;rw [LLa j (Nat.le_refl _),LLb,decide_eq_false h];exact hfail i' m' him)
     have c0:LL 0=cL k r l cert f .ready (-1) (shB s) ev0 0:=by rw [LLa 0 (by omega)];rfl
     rw [c0,LLb] at c;exact c
   rcases hend with ⟨⟨hM2,_⟩,_⟩ | ⟨⟨i,m,x,e,hm1,hm2,hm3,hA⟩,rfl⟩ | ⟨⟨i,m,x,n,c,hm1,hm2,hm4,hm3,hm5,hA⟩,rfl⟩
   . exact absurd hM2 hMl
   . obtain ⟨SF,hSF⟩:∃ SF,Iw x m (eN s cert M)=SF:=⟨_,rfl⟩
     have c:=key ((M:Int)-1) (shB SF) (Qk _) fun i' m' him=>by
       rw [hm1] at him;cases him;have:=ADi hS k r l cert f hFF ((M:Int)-1) (eN s cert M) i m x e (by omega) (by omega) h1 h2 h3 hk hR hg (hsj (by omega)) (hok x (List.mem_of_getElem? hm2)) hm2 hm3;rw [hSF,<-hA] at this;exact this
     have hKn:=hK (.done .ret) ((M:Int)-1) (shB SF) AE.2 AE.1 (Qk _);rw [ACg,ACg,ACV] at c;rw [ACg,ACV] at hKn;refine E3.keepX (cT k r l cert (-1) (shB s) ev0 0) (cT k r l cert ((M:Int)-1) (shB SF) AE.2 AE.1) [7340034,2,1048578,2097154,3145730,4194306,5242882,0,1] [] [] (.tup []) (.done .ret) hE.2 (g:=205) (caps:=[.lp 7340034 0]) (by simp [f18]) (by rw [hnt];exact c) (by rw [hnt];exact hK0) (by rw [hnt];exact hKn) (fun x hx=>by simp at hx) (by simp) (by simp [cT,ev0]) (by simp) fun F h1 h2=>?_
     have F0:=h1 (0,_) (by simp [cT];rfl);have F1:=h1 (1,_) (by simp [cT];rfl);have F8:=h1 (4194306,_) (by simp [cT];rfl);have F9:=h1 (5242882,_) (by simp [cT];rfl);simp [sg,BJ,DS,DR] at F0 F1 F8 F9
     show Ft 0 _ .ret _
     simp;refine AB.by (lk [(0,0),(1,1)]) ?_;simp [results103,F0,F1,F8,F9,f8,f9]
   . have c:=key M shZ ADr fun i' m' him=>by
       rw [hm1] at him;cases him;have:=ADv hS k r l cert f hFF M (eN s cert M) n c i m x (by omega) (by omega) h1 h2 h3 hk hR hg (hsj (by omega)) (hok x (List.mem_of_getElem? hm2)) hm2 hm4 (hco c (List.mem_of_getElem? hm4)) hm5 hm3;rw [hA];exact this
     have hKn:=hK (.done .ret) M shZ AE.2 AE.1 ADr;rw [ACg,ACg,ACV] at c;rw [ACg,ACV] at hKn;refine E3.keepX (cT k r l cert (-1) (shB s) ev0 0) (cT k r l cert (M:Int) shZ AE.2 AE.1) [7340034,2,1048578,2097154,3145730,4194306,5242882,0,1] [] [] (.tup []) (.done .ret) hE.2 (g:=205) (caps:=[.lp 7340034 0]) (by simp [f18]) (by rw [hnt];exact c) (by rw [hnt];exact hK0) (by rw [hnt];exact hKn) (fun x hx=>by simp at hx) (by simp) (by simp [cT,ev0]) (by simp) fun F h1 h2=>?_
     have F0:=h1 (0,_) (by simp [cT];rfl);have F1:=h1 (1,_) (by simp [cT];rfl);have F8:=h1 (4194306,_) (by simp [cT];rfl);have F9:=h1 (5242882,_) (by simp [cT];rfl);simp [sg,BJ,DS,DR] at F0 F1 F8 F9
     show Ft 0 _ .ret _
     simp;refine AB.by (lk [(0,0),(1,1)]) ?_;simp [results103,F0,F1,F8,F9,f8,f9]
end Go.Proofs.Tryz
namespace Go.Psl
variable {P:Program} {Γ:Tys} {eqs:Eqs} {E:Ent}
def PWk (P:Program) (Γ:Tys) (eqs:Eqs) (E:Ent):Nat->PC->(Av->St->Prop)->St->Prop
 | 0,p,Q,st=>∃ st',AI P E st st'/\PW P Γ eqs E p Q st'
 | n+1, .seq a b,Q,st=>PW P Γ eqs E a (DP (fun st=>PWk P Γ eqs E n b Q st) Q) st
 | _+1,_,_,_=>False
theorem ADm {p:PC} {Q:Av->St->Prop} {st:St}:PWk P Γ eqs E 0 p Q st=∃ st',AI P E st st'/\PW P Γ eqs E p Q st':=AF rfl
theorem ADn {n:Nat} {a b:PC} {Q:Av->St->Prop} {st:St}:PWk P Γ eqs E (n+1) (.seq a b) Q st=PW P Γ eqs E a (DP (fun st=>PWk P Γ eqs E n b Q st) Q) st:=AF rfl
theorem PWk.sound (hΓ:GOk P Γ) (hE:EB P eqs) (hm:P.follows .mixedOrders=true):∀ (n:Nat) (c:Code) (p:PC),AK E.nt c=some p->∀ (Q:Av->St->Prop) (st:St),PWk P Γ eqs E n p Q st->AW P E c Q st
 | 0,c,p,hc,Q,st,⟨st',hw,h⟩=>AW.weak hw (PW.sound hΓ hE hm c p hc Q st' h)
 | n+1,c,p,hc,Q,st,h=>by
   cases c with
   | seq a b=>
     simp only [AK,Option.bind_eq_some_iff,Option.map_eq_some_iff] at hc;obtain ⟨x,hx,y,hy,rfl⟩:=hc;refine AW.seq (AW.mono (PW.sound hΓ hE hm a x hx _ _ h) fun e st hq=>?_);cases e with
     | normal=>exact PWk.sound hΓ hE hm n b y hy Q st hq
     | _=>exact hq
   | region id ops draw=>
     exfalso;cases draw with
     | false=>
       simp only [AK,Bool.false_eq_true,if_false,Option.ite_none_right_eq_some,Option.some.injEq] at hc;obtain ⟨hd,rfl⟩:=hc;exact h
     | true=>
       simp only [AK,if_true,Option.ite_none_right_eq_some,Option.some.injEq] at hc;obtain ⟨hd,rfl⟩:=hc;revert h;unfold M8;split<;>exact fun h=>h
   | cond c a b=>
     simp only [AK,Option.bind_eq_some_iff,Option.map_eq_some_iff] at hc;obtain ⟨x,hx,y,hy,rfl⟩:=hc;exact False.elim h
   | block id a=>
     simp only [AK,Option.map_eq_some_iff] at hc;obtain ⟨x,hx,rfl⟩:=hc;exact False.elim h
   | loop a=>
     simp only [AK,Option.map_eq_some_iff] at hc;obtain ⟨x,hx,rfl⟩:=hc;exact False.elim h
   | rangeFunc fo ps a b=>
     simp only [AK,Option.bind_eq_some_iff,Option.map_eq_some_iff] at hc;obtain ⟨x,hx,y,hy,rfl⟩:=hc;exact False.elim h
   | skip=>cases hc;exact False.elim h
   | ret=>cases hc;exact False.elim h
   | exit id=>cases hc;exact False.elim h
   | _=>cases hc
theorem Cm.byK {f:FuncId} {fn:Func} {p:PC} {args:List V} {Hin:Hp} {ks:List Nat} {res:Res} {H1:List (Nat × List V)} (n:Nat) (hΓ:GOk P Γ) (hE:EB P eqs) (hm:P.follows .mixedOrders=true) (N:Nat) (hf:P.funcs[f]?= some fn) (hc:fn.body.bind (AK fn.ntmps)=some p) (hname:(fn.name == "runtime.NumGoroutine")=false)
   (hn:args.length<=fn.ntmps) (hcl:∀ v∈args,A2 (· < N) AR v) (hids:H3 N Hin) (hks:∀ i∈ks,i<N) (hri:LD res.v H1) (h:∀ E:Ent,(∀ i,E.stab i↔i∈ks)->E.nt=fn.ntmps/\E.rq->PWk P Γ eqs E n p (Mh Γ fn ks res H1) ⟨Dn 0 args,Hin,N⟩):Cm P f args Hin ks res (lk H1):=by
 cases hb:fn.body with
 | none=>rw [hb] at hc;cases hc
 | some c=>rw [hb] at hc;exact Cm.intro hΓ N hf hb hname hn hcl hids hks hri fun E hE' hs hrd=>PWk.sound hΓ hE hm n c p (by rw [hE'];exact hc) _ _ (h E hs ⟨hE',hrd⟩)
theorem Ct.byK {f:FuncId} {fn:Func} {p:PC} {args:List V} {r:V} {H1:List (Nat × List V)} (n:Nat) (hΓ:GOk P Γ) (hE:EB P eqs) (hm:P.follows .mixedOrders=true) (hf:P.funcs[f]?= some fn) (hc:fn.body.bind (AK fn.ntmps)=some p) (hname:(fn.name == "runtime.NumGoroutine")=false)
   (hn:args.length<=fn.ntmps) (hcl:∀ v∈args,I8 v) (hri:LD r H1) (h:∀ E:Ent,(∀ i,¬ E.stab i)->E.nt=fn.ntmps/\E.rq->PWk P Γ eqs E n p (dL Γ fn r H1) ⟨Dn 0 args,fun _=>none,0⟩):Ct P f args r H1:=
 Cm.byK n hΓ hE hm 0 hf hc hname hn (fun v hv=>A2.mono (fun _ h=>h.elim) (fun _ h=>h) (hcl v hv)) nofun nofun hri fun E hs hn=>h E (fun i hi=>by have:=(hs i).1 hi;cases this) hn
end Go.Psl
namespace Go.Proofs.Tryz
open Go.Psl
open Go.Air
theorem AEF (l:List Shp) (g:FuncId) (ds:List D) (q:Shp->Bool) (hl:l.length<=1000000000) (hg:∀ p∈l,Ct prog g (Cl p (.d (AX p.gas.cs))::ds.map .d) (vb (q p)) []):Ct prog 130 [.d (cD l), .d (.fn g ds)] (vb (l.all q)) []:=by
 refine CB func130 c130 fun E hE=>?_
 simp [p130];refine Al (α:=Nat) (fun i=>⟨AO [(1, .d (.fn g ds)),(7, .d (cD l)),(8,vi l.length),(9,vi i)],lk [],0⟩) (fun i=>i<=l.length/\∀ j,j<i->(l[j]?).all q=true) (fun i=>l.length-i) 0 ?_ ?_ ?_
 . exact ⟨by omega,fun j hj=>by omega⟩
 . exact WK hE (lk [])
 . rintro i ⟨hi,hg3⟩
   have hz:=@wz i (by omega);by_cases h:i<l.length
   . have hI:(i:Int)<l.length:=by omega
     obtain ⟨p,hp⟩:=gE h;simp [ADT,hI,hp,AA];refine CLa (hg p (List.mem_of_getElem? hp)) ?_;cases hq:q p
     . have e:l.all q=false:=by rw [List.all_eq_false];exact ⟨p,List.mem_of_getElem? hp,by simp [hq]⟩
       simp;apply RZ;simp [results130,e]
     . simp [hz]
       refine ⟨i+1,⟨by omega,fun j hj=>?_⟩,by omega,?_⟩
       . by_cases e:j=i
         . subst e;rw [hp];simp [hq]
         . exact hg3 j (by omega)
       . exact WK hE (lk [])
   . have hI:¬ (i:Int)<l.length:=by omega
     have e:l.all q=true:=by
       rw [List.all_eq_true];intro x hx;obtain ⟨j,hj⟩:=List.getElem?_of_mem hx;have:=hg3 j (by have:=(List.getElem?_eq_some_iff.1 hj).1;omega);rw [hj] at this;simpa using this
     simp [ADT,hI];apply RZ;simp [results130,e]
theorem AEG (s:Shp) (h:s.gas.cs.length<=1000000):Ct prog 131 [Cl s (.d (AX s.gas.cs))] (vb (A6 s)) []:=by
 have c1:=qF s (by omega)
 generalize A6 s=b at*
 cases b
 . refine CB func131 AEH fun E hE=>?_
   simp [p131];refine CLa c1 ?_;simp;apply RZ;simp [results131]
 . refine CB func131 AEH fun E hE=>?_
   simp [p131];refine CLa c1 ?_;simp;apply RZ;simp [results131]
def nKS:List Nat:=[2097155,1048579,0,1,2]
def nL (l:List Leg) (s:Shp) (cert:List Shp) (f:Nat->V) (z:LSt) (j:Int):List (Nat × List V):=
 [(2097155,[.lr f 53 [31,32] ACT ACU z]),(1048579,[.d (Bs l)]),(0,shB s),(1,[.d (cD cert)]),(2,[vi j])]
def nT (l:List Leg) (s:Shp) (cert:List Shp) (j:Int):List (Nat × List V):=
 [(1048579,[.d (Bs l)]),(0,shB s),(1,[.d (cD cert)]),(2,[vi j])]
theorem AD4 (l:List Leg) (s:Shp) (cert:List Shp) (f:Nat->V) (z:LSt) (j:Int):nL l s cert f z j=(2097155,[.lr f 53 [31,32] ACT ACU z])::nT l s cert j:=rfl
theorem ADl:nKS=2097155::[1048579,0,1,2]:=rfl
theorem ADC (l:List Leg) (s:Shp) (cert:List Shp) (f:Nat->V) (z:LSt) (j:Int) (hf:∀ t,AV (·∈nKS) AR (f t)):BT nKS [] (nL l s cert f z j):=by
 refine ⟨rfl,by simp [nKS],?_⟩;intro q hq;simp only [nL,List.mem_cons,List.not_mem_nil,or_false] at hq;rcases hq with rfl | rfl | rfl | rfl | rfl
 . exact ⟨by simp,Or.inr ⟨_,_,_,_,_,_,rfl⟩,fun c hc=>by simp at hc;subst hc;exact hf⟩
 rotate_left 1
 . refine ⟨by simp,ADq (Qk s),fun c hc=>?_⟩
   obtain ⟨d,rfl⟩:=(Qk s).2 c hc;exact rfl
 all_goals refine ⟨by simp,Or.inl rfl,fun c hc=>?_⟩
 all_goals simp only [List.mem_cons,List.not_mem_nil,or_false] at hc
 all_goals (subst hc;exact rfl)
theorem ADb (l:List Leg) (s:Shp) (cert:List Shp) (f:Nat->V) (hf:∀ t,AV (·∈nKS) AR (f t)) (f13:f 13= .lp 2 0) (j i m:Nat) (hj:j<=100000):
   Ym prog 2097155 [vi i,vi m] (lk (nL l s cert f .ready j)) nKS (.ret (vb true)) (lk (nL l s cert f .ready (j+1:Nat))):=by
 have hK1:=ADC l s cert f .ready j hf;have hK2:=ADC l s cert f .ready (j+1:Nat) hf
 have hlt:∀ j∈nKS++[],j<10000000:=by
   intro j hj;simp only [nKS,List.mem_append,List.mem_cons,List.not_mem_nil,or_false] at hj;omega
 have hW:∀ z,WC (lk [(2097155,2097155),(1048579,1048579),(0,0),(1,1),(2,2)]) (.lr f 53 [31,32] ACT ACU z) (.lr f 53 [31,32] ACT ACU z):=fun z=>⟨rfl,fun t=>AV.mono (fun j hj=>by simp [nKS] at hj;rcases hj with rfl | rfl | rfl | rfl | rfl<;>simp [lk]) (fun _ h=>h) (hf t)⟩
 have hC:∀ z,Bv [.lr f 53 [31,32] ACT ACU z]:=fun z=>Or.inr ⟨_,_,_,_,_,_,rfl⟩
 have w:=@wz j (by omega);refine Ym.ofX (k:=2097155) (fr:=f) (nt:=53) (ps:=[31,32]) (pa:=ACT) (pb:=ACU) (args:=[vi i,vi m]) (s:= .ready) gok eok mixed 10000000 hK1 hK2 hlt (by simp [nKS]) (by simp [nL]) (by simp) (by simp) (by simp) ?_;refine ⟨fun E hE hs=>?_⟩;unfold nL
 generalize V.lr f 53 [31,32] ACT ACU=rc at hW hC ⊢
 simp [ACT,BD];simp [ACU,f13,AA,w];refine ⟨trivial,by simp,lk [(2097155,2097155),(1048579,1048579),(0,0),(1,1),(2,2)],?_⟩;simp [hW,hC,nKS]
theorem AD5 (IA IC:Nat) (hI:IA≠IC) (hS:SortOk) (k:Sky) (r:Rig) (l:List Leg) (s:Shp) (cert:List Shp) (hl:l.length<=100) (hok:∀ x∈l,BE x=true) (h1:k.s.length<=1000000) (h2:k.w.length<=1000000) (h3:r.reg.length<=1000000) (hk:BV k=true) (hR:CF r=true) (hg:Ey k r=true) (hs:A6 s=true) (hcl:(BN 0 l).length=cert.length) (hco:∀ c∈cert,A6 c=true):
   ∃ q:Int,Cm prog 103 [D2 k r,Cl s (.d (AX s.gas.cs)), .d (Bs l), .cl 132 [.lp IA 0, .lp IC 0]] (lk [(IA,[vi (-1)]),(IC,[.d (cD cert)])]) [IA,IC] (.ret (.tup [Ys (xb k r l (BN 0 l) s cert).2,vi (ACa k r l (BN 0 l) s cert)])) (lk [(IA,[vi q]),(IC,[.d (cD cert)])]):=by
 obtain ⟨q,h⟩:=AEO hS k r l s cert hl hok h1 h2 h3 hk hR hg hs hcl hco;rw [ACd] at h;refine ⟨q,?_⟩;have:=Cm.rename (fun i=>if i=0 then IA else IC) 2 (by intro i j hi hj;split<;>split<;>omega) h (by simp [BW]) (by simp [BW]) (by simp);have hc:HR (fun i=>if i=0 then IA else IC) (V.cl 132 [.lp 0 0, .lp 1 0])= .cl 132 [.lp IA 0, .lp IC 0]:=rfl;simpa [Ea,HW,hc] using this
theorem AD6 (hS:SortOk) (k:Sky) (r:Rig) (s:Shp) (l:List Leg) (cert:List Shp) (h1:k.s.length<=1000000) (h2:k.w.length<=1000000) (h3:r.reg.length<=1000000) (h4:s.gas.cs.length<=1000000) (h5:l.length<=1000000) (h6:∀ x∈l,x.acts.length<=1000000) (hz:¬ JC k r s (C0 l)=0):Ct prog 62 [Eu k,Fj r,Cl s (.d (AX s.gas.cs)), .d (Bs l), .d (cD cert)] (vi (JC k r s (C0 l))) []:=by
 have c1:=qF s (by omega);have c2:=AEM l h5 h6;obtain ⟨a,ha⟩:∃ a:Int,(if A6 s then 0 else 52)=a:=⟨_,rfl⟩
 obtain ⟨b,hb⟩:∃ b:Int,C0 l=b:=⟨_,rfl⟩
 rw [ha] at c1;rw [hb] at c2 hz ⊢;rcases ABc ha hz with ⟨k1,k2⟩ | ⟨k1,k2,k3,k4,k5,k6⟩
 . have c3:=XK hS k r a b h1 h2 h3 k1
   rw [<-k2]
   generalize QG k r a b=e at*
   refine CB func62 c62 fun E hE=>?_
   simp [p62];refine AL [] (by kernel_rfl) ?_;simp [inC,Nat.testBit];refine CLa c1 ?_;simp [inC,Nat.testBit];refine CLa c2 ?_;simp [AA,AM,inC,Nat.testBit];refine CLb (c3) (by simp [Ap,Hcl,inC,Nat.testBit]) ?_;simp [k1];apply RZ;simp [results62]
 . subst k3 k4
   have c3:=XM hS k r h1 h2 h3 k1 k2 k5;rw [k6];refine CB func62 c62 fun E hE=>?_
   simp [p62];refine AL [] (by kernel_rfl) ?_;simp [inC,Nat.testBit];refine CLa c1 ?_;simp [inC,Nat.testBit];refine CLa c2 ?_;simp [AA,AM,inC,Nat.testBit];refine CLb (c3) (by simp [Ap,Hcl,inC,Nat.testBit]) ?_;simp;apply RZ;simp [results62]
theorem ADy (hS:SortOk) (k:Sky) (r:Rig) (s:Shp) (l:List Leg) (cert:List Shp) (h1:k.s.length<=1000000) (h2:k.w.length<=1000000) (h3:r.reg.length<=1000000) (h5:l.length<=1000000) (h6:∀ x∈l,x.acts.length<=1000000) (hcn:cert.length<=100000) (hcs:∀ c∈cert,c.gas.cs.length<=1000000) (hz:JC k r s (C0 l)=0):Ct prog 62 [Eu k,Fj r,Cl s (.d (AX s.gas.cs)), .d (Bs l), .d (cD cert)] (vi (if decide ((cert.length:Int)=Cv l)&&cert.all A6 then ACa k r l (BN 0 l) s cert else 8)) []:=by
 obtain ⟨hk,hR,hs,hb0,hg⟩:=MD hz;obtain ⟨q1,q2,q3⟩:=Tv hb0;have c1:=qF s (by have:=CS (CR hs);omega);have c2:=AEM l h5 h6;rw [hs] at c1;rw [hb0] at c2;have c3:=fd 11534336 hS k r h1 h2 h3 hk hR hg;have hlen:=Kv (i:=0) q2;have c5:=AEF cert 131 [] A6 (by omega) fun c hc=>AEG c (hcs c hc)
 obtain ⟨R,hR'⟩:∃ R,(if decide ((cert.length:Int)=Cv l)&&cert.all A6 then ACa k r l (BN 0 l) s cert else 8)=R:=⟨_,rfl⟩
 rw [hR'];refine Ct.byK 4 gok eok mixed func62 c62 rfl (by simp [ntmps62]) (by simp) (by simp [LD]) fun E hE hE2=>?_
 simp [p62,ADn,ADm];refine AL [(7,11534336)] (by kernel_rfl) ?_;simp [inC,Nat.testBit];refine CLa c1 ?_;simp [inC,Nat.testBit];refine CLa c2 ?_;simp [AA,AM,inC,Nat.testBit];refine CDs c3 (by simp [wrL,inC,Nat.testBit]) ?_;simp [AA];refine ⟨⟨AO [(3, .d (Bs l)),(7, .lp 0 0),(9, .lp 1 0),(11,D2 k r),(13, .lp 2 0)],lk [(0,shB s),(1,[.d (cD cert)]),(2,[vi 0])],3⟩,?_,?_⟩
 . exact WK hE (lk [(0,2097152),(1,3145728),(2,20971520)])
 simp;refine CLa (qu l) ?_;simp;have hnt:E.nt=53:=by rw [hE2.1];exact ntmps62
 rw [<-JI (Γ:=tys) (eqs:=eqs)];obtain ⟨f,hf⟩:∃ f,f=upd (upd (AO [(3, .d (Bs l)),(7, .lp 0 0),(9, .lp 1 0),(11,D2 k r),(13, .lp 2 0)]) 29 (.d (Bs l))) 30 (.cl 205 [.lp 1048579 0]):=⟨_,rfl⟩
 have hfA:∀ t,AV (·∈nKS) AR (f t):=fun t=>by
   rw [hf];simp only [AY];split
   . intro c hc;simp at hc;subst hc;exact (by simp [nKS]:(1048579:Nat)∈nKS)
   split
   . exact trivial
   show AV _ _ ((lk [(3,V.d (Bs l)),(7, .lp 0 0),(9, .lp 1 0),(11,D2 k r),(13, .lp 2 0)] t).getD .junk)
   simp only [lk];split
   . exact trivial
   split
   . exact (by simp [nKS]:(0:Nat)∈nKS)
   split
   . exact (by simp [nKS]:(1:Nat)∈nKS)
   split
   . exact trivial
   split
   . exact (by simp [nKS]:(2:Nat)∈nKS)
   . exact trivial
 have f13:f 13= .lp 2 0:=by rw [hf];simp
 have f30:f 30= .cl 205 [.lp 1048579 0]:=by rw [hf];simp
 have f9:f 9= .lp 1 0:=by rw [hf];simp
 have f7:f 7= .lp 0 0:=by rw [hf];simp
 have f3:f 3= .d (Bs l):=by rw [hf];simp
 have f11:f 11=D2 k r:=by rw [hf];simp
 rw [<-hf];have hlb:(BN 0 l).length<=60000:=by omega
 have hN:∀ i∈nKS,i<1000000000:=by simp [nKS]
 have hX:∀ i:Nat,∀ x∈(fun _:Nat=>([]:List Nat)) i,x<1048576:=fun i x hx=>by simp at hx
 have c:=Jl l (by omega) q2 nKS (fun _=>[]) 2097155 1048579 (BN 0 l).length (fun _=>true) (fun j=>nL l s cert f .ready j) (by simp [nKS]) (by simp [nKS]) hN hX (Nat.le_refl _) (fun j _=>ADC l s cert f .ready j hfA) (fun j _=>⟨f,53,[31,32],ACT,ACU, .ready,by simp [nL],rfl⟩) (fun j _=>by simp [nL]) (fun _ _=>rfl) (Or.inl rfl) (fun j i m hj him=>ADb l s cert f hfA f13 j i m (by omega));obtain ⟨N,hNN⟩:∃ N,(BN 0 l).length=N:=⟨_,rfl⟩
 rw [hNN] at c hlen hlb;have hK0:=ADC l s cert f .ready ((0:Nat):Int) hfA;have hKn:=ADC l s cert f .ready (N:Int) hfA;rw [AD4,AD4,ADl] at c;rw [AD4,ADl] at hK0 hKn;refine E3.keepX (nT l s cert ((0:Nat):Int)) (nT l s cert N) [1048579,0,1,2] [] [] (.tup []) .ready hE2.2 (g:=205) (caps:=[.lp 1048579 0]) (by simp [f30]) (by rw [hnt];exact c) (by rw [hnt];exact hK0) (by rw [hnt];exact hKn) (fun x hx=>by simp at hx) (by simp) (by simp [nT]) (by simp) fun F h1 h2=>?_
 have F0:=h1 (0,_) (by simp [nT];rfl);have F1:=h1 (1,_) (by simp [nT];rfl);have F2:=h1 (2,_) (by simp [nT];rfl);simp [sg,BJ,DS,DR] at F0 F1 F2
 show Ft 0 _ .normal _
 by_cases hcN:(cert.length:Int)=N
 . cases hall:cert.all A6 with
   | false=>
     rw [hall] at c5;have e:R=8:=by rw [<-hR',hall,Bool.and_false,if_neg (by simp)]
     simp [f13,f9,F1,F2,hcN];refine CLa c5 ?_;simp;apply RZ;simp [results62,e]
   | true=>
     rw [hall] at c5;have e:ACa k r l (BN 0 l) s cert=R:=by rw [<-hR',hall,<-hlen,decide_eq_true hcN];rfl
     obtain ⟨q,c6⟩:=AD5 13631491 1 (by omega) hS k r l s cert (by omega) q2 (by omega) (by omega) (by omega) hk hR hg hs (by omega) fun c hc=>List.all_eq_true.1 hall c hc
     rw [e] at c6;simp [f13,f9,F1,F2,hcN];refine CLa c5 ?_;simp [f9,f7,f3,f11,F0,AA];refine CRs c6 (by simp [F1]) ?_;simp;apply RZ;simp [results62]
 . have e:R=8:=by rw [<-hR',<-hlen,decide_eq_false hcN,Bool.false_and,if_neg (by simp)]
   simp [f13,f9,F1,F2,hcN];apply RZ;simp [results62,e]
theorem AFO (hS:SortOk) (k:Sky) (r:Rig) (s:Shp) (l:List Leg) (cert:List Shp) (h1:k.s.length<=1000000) (h2:k.w.length<=1000000) (h3:r.reg.length<=1000000) (h4:s.gas.cs.length<=1000000) (h5:l.length<=1000000) (h6:∀ x∈l,x.acts.length<=1000000) (hcn:cert.length<=100000) (hcs:∀ c∈cert,c.gas.cs.length<=1000000):Ct prog 62 [Eu k,Fj r,Cl s (.d (AX s.gas.cs)), .d (Bs l), .d (cD cert)] (vi (ADh k r s l cert)) []:=by
 unfold ADh;by_cases hz:JC k r s (C0 l)=0
 . rw [if_pos hz]
   exact ADy hS k r s l cert h1 h2 h3 h5 h6 hcn hcs hz
 . rw [if_neg hz]
   exact AD6 hS k r s l cert h1 h2 h3 h4 h5 h6 hz
theorem ZM (lo hi:Int):Ct prog 51 [vi lo,vi hi] (vsp lo hi) []:=by
 refine CB func51 c51 fun E hE=>?_
 simp [p51,AA];apply RZ;simp [results51]
theorem pT:Ct prog 66 [] (.agg [.ls 0 0 2 5, .ls 1 0 1 6]) [(0,AH A5 B1.s),(1,AH galL B1.w)]:=by
 have sp:=ZM
 show Ct prog 66 [] (.agg [.ls 0 0 2 5, .ls 1 0 1 6]) [(0,[vi 0,vi 10000,vi 10000,vi 2800,vi 2800,vi 1000,vi 8850,vi 8853,vi 2800,vi 2800]),(1,[vi 0,vi 10,vi 20,vi 0,vi 0,vi 0])]
 refine CB func66 c66 fun E hE=>?_
 simp [p66]
 repeat ((first | (refine CLt (sp 10000 10000) ?_ ?_;(focus (simp;done))) | (refine CLt (sp 2800 2800) ?_ ?_;(focus (simp;done))) | (refine CLt (sp 8850 8853) ?_ ?_;(focus (simp;done))) | (refine CLt (sp 10 20) ?_ ?_;(focus (simp;done))));simp [AA,AM])
 refine AB.by (lk [(0,7340032),(1,11534336)]) ?_;simp [results66]
theorem AJE:Ct prog 66 [] (Eu B1) []:=by
 refine Cm.freeze pT ?_;exact ⟨⟨_,rfl,B0 (f:=A5) (fun _=>rfl) (l:=B1.s) (by simp)⟩,⟨_,rfl,B0 (f:=galL) (fun _=>rfl) (l:=B1.w) (by simp)⟩,trivial⟩
theorem pU:Ct prog 67 [] (.agg [.ls 0 0 4 2,vi 50,vi 100,vi 30,vi 100,vi 0,vi 900]) [(0,[vi 0,vi (-2000),vi 200,vi (-2000),vi 200,vi 2000,vi 0,vi 2000])]:=by
 have sp:=ZM;refine CB func67 c67 fun E hE=>?_
 simp [p67,AA,AM]
 repeat ((first | (refine CLt (sp 50 100) ?_ ?_;(focus (simp;done))));simp [AA])
 refine AB.by (lk [(0,5242880)]) ?_;simp [results67]
theorem AJF:Ct prog 67 [] (Fj DM) []:=by
 refine Cm.freeze pU ?_;have z:∀ (H:Hp) (x:Int),FzC H (vi x) (vi x):=fun H x=>⟨_,rfl, .inl rfl⟩
 exact ⟨⟨_,rfl,z6 exReg rfl rfl⟩,z _ _,z _ _,z _ _,z _ _,z _ _,z _ _,trivial⟩
theorem km:Ct prog 64 [] (Cl CZ (.ls 0 0 1 7)) [(0,[vi 70,vi 220,vi 0,vi 0,vi 0,vi 0,vi 0])]:=by
 have sp:=ZM
 show Ct prog 64 [] (.agg [vi 0,vi 0,vi 0,vi 0,vi 100,vi 100,vi 1000,vi 1000,vi 0,vi 0,vi 0,vi 0,vi 4000,vi 500,vi 0, .ls 0 0 1 7,vi 0,vi 220,vi 0,vi 0,vi 0,vi 0,vi 0,vi 0,vi 0]) _
 refine CB func64 c64 fun E hE=>?_
 simp [p64]
 repeat ((first | (refine CLt (sp 100 100) ?_ ?_;(focus (simp;done))) | (refine CLt (sp 1000 1000) ?_ ?_;(focus (simp;done))));simp [AA,AM])
 refine AB.by (lk [(0,4194304)]) ?_;simp [results64]
theorem AJG:Ct prog 64 [] (Cl CZ (.d (AX CZ.gas.cs))) []:=by
 refine Cm.freeze km ?_;have z:∀ (H:Hp) (x:Int),FzC H (vi x) (vi x):=fun H x=>⟨_,rfl, .inl rfl⟩
 exact ⟨z _ _,z _ _,z _ _,z _ _,z _ _,z _ _,z _ _,z _ _,z _ _,z _ _,z _ _,z _ _,z _ _,z _ _,z _ _,⟨_,rfl,B0 (f:=AP) Nr (l:=Tg.cs) rfl⟩,z _ _,z _ _,z _ _,z _ _,z _ _,z _ _,z _ _,z _ _,z _ _,trivial⟩
theorem pV:Ct prog 65 [] (.agg [vi 2,vi 100,vi 100,vi 0,vi 0,vi 40,vi 60,vi 10,vi 20,vi 100, .d (.lit (.slice none 0 0))]) []:=by
 have sp:=ZM;refine CB func65 c65 fun E hE=>?_
 simp [p65]
 repeat ((first | (refine CLt (sp 100 100) ?_ ?_;(focus (simp;done))) | (refine CLt (sp 40 60) ?_ ?_;(focus (simp;done))) | (refine CLt (sp 10 20) ?_ ?_;(focus (simp;done))));simp [AA])
 apply RZ;simp [results65]
theorem AJH:Ct prog 65 [] (cF exLeg) []:=by
 refine Cm.freeze pV ?_;have z:∀ (H:Hp) (x:Int),FzC H (vi x) (vi x):=fun H x=>⟨_,rfl, .inl rfl⟩
 exact ⟨z _ _,z _ _,z _ _,z _ _,z _ _,z _ _,z _ _,z _ _,z _ _,z _ _,⟨_,rfl, .inr ⟨rfl,_,rfl⟩⟩,trivial⟩
end Go.Proofs.Tryz
namespace Go.Psl
variable {P:Program}
theorem Cm.give {f:FuncId} {args args':List V} {Hin:Hp} {res:Res} {H1:Hp} (h:Cm P f args (fun _=>none) [] res H1) (hf:AJ (Fz1 Hin) args' args):Cm P f args' Hin [] res H1:=by
 refine ⟨h.1,fun G W xs him hargs hpre=>?_⟩
 have him':∀ b,Jw G Hin b->b<W.heap.size:=fun b hb=>by
   rcases hb with hb | ⟨i,hi,hph,rfl⟩
   . exact him b hb
   . cases hc:Hin i with
     | none=>simp [InH,hc] at hi
     | some cs=>
       rcases hpre.hb i cs hc with ⟨h1,_⟩ | ⟨_,_,_,c,T,h3,_⟩ | ⟨_,_,_,fr,nt,ps,pa,pb,jmp,rec,_,h4,_⟩
       . rw [h1] at hph;cases hph
       . exact (Array.getElem?_eq_some_iff.1 h3).1
       . exact (Array.getElem?_eq_some_iff.1 h4).1
 have hargs':AJ (R2 {G with Im:=Jw G Hin} W) args xs.toList:=AJ.of_get (by rw [<-hf.length,hargs.length]) fun i a x ha hx=>by
   obtain ⟨a',ha',hr⟩:=hf.get2 ha;obtain ⟨y,hy,hry⟩:=hargs.get ha';rw [hx] at hy;cases hy;exact fz1 hpre.hb hr hry
 have hno:∀ b,¬ Bm {G with Im:=Jw G Hin} (fun _=>none) b:=fun b ⟨i,hi,_⟩=>by simp [InH] at hi
 refine Calls.mono (h.2 {G with Im:=Jw G Hin} W xs him' hargs' ⟨fun i cs hc=>(by cases hc),fun i j hi=>(by simp [InH] at hi),fun i hi=>(by cases hi)⟩) fun e W' ⟨G',p⟩=>?_
 refine ⟨G',p.os,p.tape,p.output,p.drawn,p.size,fun b hb _=>p.block b hb (hno b),fun b hb=>?_,fun b hb=>p.im0 b (.inl hb),p.rv,p.wf,fun i cs hc=>?_,p.inj,fun i hi=>(by cases hi)⟩
 . obtain ⟨h1,h2⟩:=p.im b hb
   refine ⟨h1,?_⟩;rcases h2 with (h2 | ⟨i,hi,hph,rfl⟩) | h2 | h2
   . exact .inl h2
   . exact .inr (.inr ⟨i,hi,hph,rfl⟩)
   . exact .inr (.inl h2)
   . exact absurd h2 (hno b)
 . obtain ⟨h1,h2,h3⟩:=p.hb i cs hc
   refine ⟨h1,fun hp=>?_,h3⟩;rcases h2 hp with h2 | h2
   . exact .inl h2
   . exact absurd h2 (hno _)
end Go.Psl
namespace Go.Proofs.Tryz
open Go.Psl
open Go.Air
abbrev lgV (l:Leg):List V:=[vi l.m,vi l.axl,vi l.axh,vi l.ayl,vi l.ayh,vi l.ul,vi l.uh,vi l.bl,vi l.bh,vi l.dr, .d (JZ l.acts)]
theorem ar {l:Leg}:∀ (H:Hp) (b:Nat),H b=some (lgV l)->Bor H (.ls b 0 1 11) (.d (Bs [l])):=fun _ _ hh=>B0 (f:=Pi) (fun _=>rfl) (l:=[l]) hh
theorem fz_d {H:Hp} (d:D):FzC H (.d d) (.d d):=⟨d,rfl,by cases d<;>first | exact Or.inl rfl | rfl⟩
theorem Tf {H:Hp}:∀ ds:List D,AJ (FzC H) (ds.map .d) (ds.map .d)
 | []=>trivial
 | d::ds=>⟨fz_d d,Tf ds⟩
theorem lm {H:Hp} (k:Sky):Fz1 H (Eu k) (Eu k):=Tf [BF k.s,C2 k.w]
theorem ln {H:Hp} (r:Rig):Fz1 H (Fj r) (Fj r):=Tf [An r.reg,di r.gl,di r.gh,di r.tank,di r.rsv,di r.lo,di r.hi]
theorem lq {H:Hp} (s:Shp):Fz1 H (Cl s (.d (AX s.gas.cs))) (Cl s (.d (AX s.gas.cs))):=Tf (Ca s)
theorem gk {H:Hp} {b:Nat} {l:Leg} (h:H b=some (lgV l)):Fz1 H (.ls b 0 1 11) (.d (Bs [l])):=ar H b h
theorem PM {k:Sky} {r:Rig} {s:Shp} {l:Leg} {R:V} (h:Ct prog 45 [Eu k,Fj r,Cl s (.d (AX s.gas.cs)), .d (Bs [l])] R []) (b:Nat):Cm prog 45 [Eu k,Fj r,Cl s (.d (AX s.gas.cs)), .ls b 0 1 11] (lk [(b,lgV l)]) [] (.ret R) (lk []):=
 Cm.give h ⟨lm k,ln r,lq s,gk (by simp [lk]),trivial⟩
theorem fn48 (hS:SortOk):Ct prog 48 [] (vb true) []:=by
 have sp:=ZM;have e1:=AJE;have e2:=AJF;have e3:=AJG;have e4:=AJH;have d1:=ABz B1 CZ (by decide) (by decide) (by decide);have d2:=mL hS B1 DM CZ [exLeg] (by decide) (by decide) (by decide) (by decide) (by decide) (by decide);have d3:=mL hS B1 HH CZ [exLeg] (by decide) (by decide) (by decide) (by decide) (by decide) (by decide);rw [qH] at d1;rw [lv] at d2;rw [lz] at d3;simp only [AFC,Lp,F6] at d2 d3;have d3:Cm prog 45 [Eu B1, .agg [.d (An DM.reg),vi DM.gl,vi DM.gh,vi DM.tank,vi DM.rsv,vi DM.lo,vi 219],Cl CZ (.d (AX CZ.gas.cs)), .ls 34603008 0 1 11] (lk [(34603008,lgV exLeg)]) [] _ _:=PM d3 34603008;refine CB func48 c48 fun E hE=>?_
 simp [p48]
 repeat ((first | (refine CLt e1 ?_ ?_;focus (simp;done)) | (refine CLt e2 ?_ ?_;focus (simp;done)) | (refine CLt e3 ?_ ?_;focus (simp;done)) | (refine CLt e4 ?_ ?_;focus (simp;done)) | (refine CLt d1 ?_ ?_;focus (simp;done)));simp [AA,AM])
 refine CRs (PM d2 14680064) (by simp) ?_;simp [AA]
 repeat ((first | (refine CLt e1 ?_ ?_;focus (simp;done)) | (refine CLt e2 ?_ ?_;focus (simp;done)) | (refine CLt e3 ?_ ?_;focus (simp;done)) | (refine CLt e4 ?_ ?_;focus (simp;done)));simp [AA])
 refine AL [(5,34603008),(12,40894464)] (by kernel_rfl) ?_;simp [inC,Nat.testBit];refine CLa e1 ?_;simp [inC,Nat.testBit];refine CLa e3 ?_;simp [inC,Nat.testBit];refine CLa e4 ?_;simp [AA,AM,inC,Nat.testBit];refine CDs d3 (by simp [wrL,inC,Nat.testBit]) ?_;simp [AA,inC,Nat.testBit];refine CLa (sp 0 0) ?_;simp [AA,inC,Nat.testBit,ev0];refine AL [(8,82837504)] (by kernel_rfl) ?_;simp [AA,inC,Nat.testBit]
 repeat ((first | (refine CLt (sp 660 720) ?_ ?_;(focus (simp;done))) | (refine CLt (sp 0 0) ?_ ?_;(focus (simp;done))) | (refine CLt (sp 140 160) ?_ ?_;(focus (simp;done))) | (refine CLt (sp 980 990) ?_ ?_;(focus (simp;done))) | (refine CLt (sp 5 20) ?_ ?_;(focus (simp;done))) | (refine CLt (sp 10 20) ?_ ?_;(focus (simp;done))) | (refine CLt (sp 1320 1440) ?_ ?_;(focus (simp;done))) | (refine CLt (sp 180 220) ?_ ?_;(focus (simp;done))) | (refine CLt (sp 960 980) ?_ ?_;(focus (simp;done))) | (refine CLt (sp 10 30) ?_ ?_;(focus (simp;done))) | (refine CLt (sp 20 40) ?_ ?_;(focus (simp;done))));simp [inC,Nat.testBit,exA,exB])
 apply RZ;simp [results48]
theorem cj {k:Sky} {r:Rig} {s:Shp} {l:List Leg} {ns:List Shp} (h:HA k r s l= .ok ns):Va k r/\A6 s=true/\(∀ x∈l,BE x=true)/\(l.length<=20/\Cv l<=600)/\CF r=true/\Dt k r l (BN 0 l) s= .ok ns:=by
 unfold HA at h;split at h
 . rename_i hz
   obtain ⟨h1,h2,h3,h4,h5⟩:=MD hz;obtain ⟨q1,q2,q3⟩:=Tv h4;exact ⟨⟨h1,Hy h2,h5⟩,h3,q2,⟨q1,q3⟩,h2,h⟩
 . cases h
theorem AFL {k:Sky} {r:Rig} {s:Shp} {l:List Leg} {ns:List Shp} (h:HA k r s l= .ok ns):ADh k r s l ns=0:=by
 obtain ⟨hT,hs,hl,⟨l1,l2⟩,hR,hK⟩:=cj h
 have hz:JC k r s (C0 l)=0:=by
   by_cases hz:JC k r s (C0 l)=0
   . exact hz
   . unfold HA at h;rw [if_neg hz] at h;cases h
 have hlen:=TM hK;have hml:=Kv (i:=0) hl;have hok:=ZD hT hl hs hK;unfold ADh;rw [if_pos hz,decide_eq_true (by omega:(ns.length:Int)=Cv l),List.all_eq_true.2 hok];simp [AEV hK]
def L7:Rig:={DM with rsv:=961}
def Np:Rig:={DM with hi:=1001}
def AIi:Plt:=⟨[⟨70,250,0,0,0,0,0⟩],0,250,0,0,0,0,0,0,0⟩
def Na:Shp:={CZ with gas:=AIi}
def Qe:Leg:={exLeg with dr:=501}
def exT2:Shp:={Na with bal:=400,drp:=100}
def AI1:Sky:=⟨[],[]⟩
def AIp:Rig:=⟨[],0,0,0,0,0,0⟩
def AI2:Leg:=⟨0,0,0,0,0,0,0,0,0,0,[]⟩
def AI3:Shp:=⟨1,0,0,0,0,0,0,0,0,0,0,0,0,0,0,⟨[],0,0,0,0,0,0,0,0,0⟩⟩
theorem AIP:BE exLeg=true:=by decide+kernel
theorem AI4:rX CZ exLeg= .ok exT:=by unfold rX;rw [Th,AIP];exact aw
theorem AI5:hvA B1 exT=((-100, -100),0):=by decide+kernel
theorem AIq:CF L7=true:=by
 unfold CF;rw [show L7.reg=exReg from rfl,R8];decide+kernel
theorem AIj:CF Np=true:=by
 unfold CF;rw [show Np.reg=exReg from rfl,R8];decide+kernel
theorem AIr:KI B1 L7 exT exLeg:=⟨by decide+kernel,by decide+kernel,by decide+kernel,by decide+kernel,NX _ _ (by decide+kernel),by decide+kernel,by decide+kernel⟩
theorem AIs:exA=Cj B1 L7 exT exLeg:=by kernel_rfl
theorem AIt:HK B1 L7 exA exLeg= .error (54,4,0):=by
 have e:ER B1 L7 exA exLeg=(4,0):=by
   unfold ER;rw [if_neg (by decide+kernel),if_neg (by decide+kernel),if_neg (by decide+kernel),if_pos (by decide+kernel)]
 unfold HK;rw [e,if_neg (by decide)]
theorem AI6:HA B1 L7 CZ [exLeg]= .error (54,4,0,1,0):=by
 have h0:JC B1 L7 CZ (C0 [exLeg])=0:=by
   unfold JC;rw [au,AIq,Th];decide+kernel
 have e1:=AF7 aw AIr AIs;have e2:FA B1 L7 exLeg 1 exA= .error (54,4,0):=by unfold FA;rw [if_neg (by decide)];exact AIt
 unfold HA;rw [if_pos h0,show BN 0 [exLeg]=[(0,0),(0,1)] from rfl];unfold Dt;rw [show ([exLeg]:List Leg)[0]?= some exLeg from rfl];simp only;rw [e1];simp only;unfold Dt;rw [show ([exLeg]:List Leg)[0]?= some exLeg from rfl];simp only;rw [e2];rfl
theorem AIk:A6 Na=true:=by decide+kernel
theorem AIu:Ep Na exLeg= .ok exT2:=NE.2 ⟨by decide+kernel,rfl⟩
theorem AIl:HK B1 DM exT2 exLeg= .error (54,3,0):=by
 have e:ER B1 DM exT2 exLeg=(3,0):=by
   unfold ER;rw [if_neg (by decide+kernel),if_neg (by decide+kernel),if_pos (by decide+kernel)];decide+kernel
 unfold HK;rw [e,if_neg (by decide)]
theorem AIv:HA B1 DM Na [exLeg]= .error (54,3,0,0,0):=by
 have h0:JC B1 DM Na (C0 [exLeg])=0:=by
   unfold JC;rw [au,lu,AIk];decide+kernel
 have e1:FA B1 DM exLeg 0 Na= .error (54,3,0):=by
   unfold FA;rw [if_pos rfl,AIu];exact AIl
 unfold HA;rw [if_pos h0,show BN 0 [exLeg]=[(0,0),(0,1)] from rfl];unfold Dt;rw [show ([exLeg]:List Leg)[0]?= some exLeg from rfl];simp only;rw [e1];rfl
theorem AI7:ADh B1 DM CZ [exLeg] [exA,exB]=0:=AFL lv
theorem AI8:ADh B1 DM CZ [exLeg] []=8:=by
 have h0:JC B1 DM CZ (C0 [exLeg])=0:=by
   unfold JC;rw [au,lu,Th];decide+kernel
 unfold ADh;rw [if_pos h0];decide+kernel
theorem AI9:AEs CZ exT=(false,0):=by decide+kernel
theorem AIw:rX CZ Qe= .error 2:=by
 unfold rX;rw [Th,show BE Qe=true by decide+kernel,if_pos rfl,if_pos rfl];unfold Ep;rw [if_pos (by decide+kernel),if_pos (by decide+kernel)]
theorem AIx:cC B1 Np CZ exLeg= .error (2,0,0):=by
 have h0:JC B1 Np CZ (if BE exLeg then 0 else 53)=2:=by
   unfold JC;rw [au,AIj,Th,AIP];decide+kernel
 unfold cC;rw [h0,if_neg (by decide)]
theorem AJA:(vnA B1 CZ 0 1001).2=2:=by decide+kernel
theorem AIy:BV AI1=false:=by decide+kernel
theorem AIz:CF AIp=false:=by
 unfold CF;have:C7 AIp.reg=false:=by unfold C7;decide+kernel
 rw [this];simp
theorem AI0:A6 AI3=false:=by decide+kernel
abbrev AIm:List D:=[di 0,di 0,di 0,di 0,di 0,di 0,di 0,di 0,di 0,di 0, .lit (.slice none 0 0)]
theorem AIn:Ct prog 38 [.d (.sl 11 [AIm])] (vi 53) []:=by
 have c:=xg AI2 (by decide);rw [show BE AI2=false by decide+kernel] at c;refine CB func38 c38 fun E hE=>?_
 simp [p38];refine Al (α:=Nat) (fun i=>⟨AO [(3,vi 600),(10, .d (.sl 11 [AIm])),(11,vi 1),(12,vi i)],lk [],0⟩) (fun i=>i=0) (fun i=>1-i) 0 ?_ ?_ ?_
 . rfl
 . exact WK hE (lk [])
 . rintro i rfl
   simp [PQ,AA];refine CLb (c) (by first | (simp;done) | simp [AI2]) ?_;simp;apply RZ;simp [results38]
theorem AIc (es:List (List D)) (h:es.length=21):Ct prog 38 [.d (.sl 11 es)] (vi 4) []:=by
 refine CB func38 c38 fun E hE=>?_
 simp [p38,h];apply RZ;simp [results38]
theorem AId {H:Hp} {i o l z i' o' l' z':Nat}:Fi H (.ls i o l z) (.ls i' o' l' z')=(i=i'/\o=o'/\l=l'/\z=z'):=rfl
theorem AIe (hS:SortOk):Cm prog 45 [Eu B1,Fj DM, .agg [vi 0,vi 0,vi 0,vi 0,vi 100,vi 100,vi 1000,vi 1000,vi 0,vi 0,vi 0,vi 0,vi 4000,vi 500,vi 0, .ls 44040192 0 1 7,vi 0,vi 250,vi 0,vi 0,vi 0,vi 0,vi 0,vi 0,vi 0], .ls 61865984 0 1 11] (lk [(44040192,[vi 70,vi 250,vi 0,vi 0,vi 0,vi 0,vi 0]),(61865984,lgV exLeg)]) [] (.ret (.tup [.d (cD []),evV 3 0 0 0,vi 54])) (lk []):=by
 have d:=mL hS B1 DM Na [exLeg] (by decide) (by decide) (by decide) (by decide) (by decide) (by decide);rw [AIv] at d;simp only [AFC,Lp,F6] at d;have z:∀ (H:Hp) (x:Int),FzC H (vi x) (vi x):=fun H x=>⟨_,rfl, .inl rfl⟩
 refine Cm.give d ⟨lm _,ln _,⟨z _ _,z _ _,z _ _,z _ _,z _ _,z _ _,z _ _,z _ _,z _ _,z _ _,z _ _,z _ _,z _ _,z _ _,z _ _,⟨_,rfl,B0 (f:=AP) Nr (l:=AIi.cs) (by simp [lk];rfl)⟩,z _ _,z _ _,z _ _,z _ _,z _ _,z _ _,z _ _,z _ _,z _ _,trivial⟩,gk (l:=exLeg) (by simp [lk]),trivial⟩
theorem fn17 (hS:SortOk):Ct prog 17 [] (vb true) []:=by
 have d0:=fn48 hS;have sp:=ZM;have e1:=AJE;have e2:=AJF;have e3:=AJG;have e4:=AJH;have b1:=AJD CZ exLeg (by decide) (by decide);rw [AI4] at b1;simp only [Oy] at b1;have h1:=ABz B1 exT (by decide) (by decide) (by decide);rw [AI5] at h1;have f1:=mL hS B1 L7 CZ [exLeg] (by decide) (by decide) (by decide) (by decide) (by decide) (by decide);rw [AI6] at f1;simp only [AFC,Lp,F6] at f1;have f1:Cm prog 45 [Eu B1, .agg [.d (An DM.reg),vi DM.gl,vi DM.gh,vi DM.tank,vi 961,vi DM.lo,vi DM.hi],Cl CZ (.d (AX CZ.gas.cs)), .ls 33554432 0 1 11] (lk [(33554432,lgV exLeg)]) [] _ _:=PM f1 33554432;have f2:=AIe hS;have f3:=mL hS B1 DM CZ [exLeg] (by decide) (by decide) (by decide) (by decide) (by decide) (by decide);rw [lv] at f3;simp only [AFC,Lp,F6] at f3;have a1:=AFO hS B1 DM CZ [exLeg] [exA,exB] (by decide) (by decide) (by decide) (by decide) (by decide) (by decide) (by decide) (by decide);rw [AI7] at a1;have b2:=AJD CZ Qe (by decide) (by decide);rw [AIw] at b2;simp only [Oy] at b2;have s1:=fn42 hS B1 Np CZ exLeg (by decide) (by decide) (by decide) (by decide) (by decide);rw [AIx] at s1;simp only [RB] at s1;have hd:=fn30 CZ exT (by decide) (by decide);rw [AI9] at hd;have vt:=fn23 B1 CZ 0 1001 (by decide) (by decide) (by decide);rw [AJA] at vt;have a2:=AFO hS B1 DM CZ [exLeg] [] (by decide) (by decide) (by decide) (by decide) (by decide) (by decide) (by decide) (by decide);rw [AI8] at a2;have k1:=yy AI1 (by decide) (by decide);rw [AIy] at k1;have k2:=mH hS AIp (by decide);rw [AIz] at k2;have k3:=qF AI3 (by decide);rw [AI0] at k3;refine CB func17 c17 fun E hE=>?_
 simp [p17];refine CLa d0 ?_;simp
 repeat ((first | (refine CLt e3 ?_ ?_;focus (simp;done)) | (refine CLt e4 ?_ ?_;focus (simp;done)) | (refine CLt b1 ?_ ?_;focus (simp;done)));simp [AA])
 refine AL [(7,20971520)] (by kernel_rfl) ?_;simp [inC,Nat.testBit];refine CLa e1 ?_;simp [inC,Nat.testBit];refine CLa h1 ?_;simp [AA,inC,Nat.testBit];refine CLa e2 ?_;simp [AA];refine AL [(5,33554432),(12,39845888)] (by kernel_rfl) ?_;simp [inC,Nat.testBit];refine CLa e1 ?_;simp [inC,Nat.testBit];refine CLa e3 ?_;simp [inC,Nat.testBit];refine CLa e4 ?_;simp [AA,AM,inC,Nat.testBit];refine CDs f1 (by simp [wrL,inC,Nat.testBit]) ?_;simp [AA,inC,Nat.testBit];refine CLa km ?_;simp [AA];refine AL [(5,61865984),(5,44040192),(12,68157440)] (by kernel_rfl) ?_;simp [inC,Nat.testBit];refine CLa e1 ?_;simp [inC,Nat.testBit];refine CLa e2 ?_;simp [inC,Nat.testBit];refine CLa e4 ?_;simp [AA,AM,inC,Nat.testBit];refine CDs f2 (by simp [wrL,CZ,Tg,inC,Nat.testBit,AId]) ?_;simp [AA,inC,Nat.testBit]
 repeat ((first | (refine CLt e1 ?_ ?_;focus (simp;done)) | (refine CLt e2 ?_ ?_;focus (simp;done)) | (refine CLt e3 ?_ ?_;focus (simp;done)) | (refine CLt e4 ?_ ?_;focus (simp;done)));simp [AA,AM])
 refine CRs (PM f3 76546048) (by simp) ?_;simp [AA,inC,Nat.testBit];refine CLa (sp (-100) (-100)) ?_;simp [AA,inC,Nat.testBit]
 repeat ((first | (refine CLt e1 ?_ ?_;focus (simp;done)) | (refine CLt e2 ?_ ?_;focus (simp;done)) | (refine CLt e3 ?_ ?_;focus (simp;done)) | (refine CLt e4 ?_ ?_;focus (simp;done)));simp [AA,AM,inC,Nat.testBit])
 refine CLb (a1) (by simp [ar]) ?_;simp [inC,Nat.testBit]
 repeat ((first | (refine CLt e3 ?_ ?_;focus (simp;done)) | (refine CLt hd ?_ ?_;focus (simp;done)) | (refine CLt e4 ?_ ?_;focus (simp;done)));simp [AA,inC,Nat.testBit])
 refine CLb (b2) (by first | (simp;done) | simp [Qe]) ?_;simp [shZ]
 repeat ((first | (refine CLt e1 ?_ ?_;focus (simp;done)) | (refine CLt e2 ?_ ?_;focus (simp;done)) | (refine CLt e3 ?_ ?_;focus (simp;done)) | (refine CLt e4 ?_ ?_;focus (simp;done)));simp [AA,inC,Nat.testBit])
 refine CLb (s1) (by first | (simp;done) | simp [Np]) ?_;simp [shZ,evV]
 repeat ((first | (refine CLt e1 ?_ ?_;focus (simp;done)) | (refine CLt e3 ?_ ?_;focus (simp;done)) | (refine CLt (sp 0 1001) ?_ ?_;(focus (simp;done))) | (refine CLt vt ?_ ?_;focus (simp;done)));simp)
 repeat ((first | (refine CLt e2 ?_ ?_;focus (simp;done)) | (refine CLt e3 ?_ ?_;focus (simp;done)) | (refine CLt e4 ?_ ?_;focus (simp;done)));simp [AA,AM])
 refine CLb (a2) (by simp [ar,cD]) ?_;simp;refine CLb (k1) (by first | (simp;done) | simp [AI1,BF,C2]) ?_;simp;refine CLb (k2) (by first | (simp;done) | simp [AIp,An]) ?_;simp;refine CLa (sp 1 0) ?_;simp [AA];refine CLb (k3) (by first | (simp;done) | simp [AI3,AX]) ?_;simp [AA,AM];refine CLb (AIn) (by first | (simp;done) | simp [Bk,AIm]) ?_;simp [AM];refine CLb (AIc (List.replicate 21 AIm) rfl) (by simp [Bk,AIm,List.replicate]) ?_;simp;apply RZ;simp [results17]
end Go.Proofs.Tryz
