/- Own lemmas, used by the last text. Conditions: those that each theorem states. -/
import Derived.Shelf.SlSortCmp.NoneTotal
import Derived.Test.YtigekgfbcfbobaaGreatDaag
import Derived.Test.YtigekgfbcfbobaaGreatDaai
import Derived.Test.YtigekgfbcfbobaaGreatDaak
import Derived.Test.YtigekgfbcfbobaaGreatProg
set_option maxRecDepth 200000
set_option maxHeartbeats 8000000
namespace Go.Proofs.Tryz
open Go.Psl
open Go.Air
def fKS:List Nat:=[8388609,7340033,1,1048577,2097153,3145729,4194305,5242881,0]
def fXS (acc:List Shp):List Nat:=if acc=[] then [] else [7]
abbrev evL (e:Evt):List V:=[vi e.1,vi e.2.1,vi e.2.2.1,vi e.2.2.2]
def fL (k:Sky) (r:Rig) (l:List Leg) (f:Nat->V) (z:LSt) (acc:List Shp) (s:Shp) (e:Evt) (er:Int):List (Nat × List V):=
 [(8388609,[.lr f 69 [19,20] Az A3 z]),(7340033,[.d (Bs l)]),(1,[D2 k r]),(1048577,shB s),(2097153,[.d (Bs l)]),(3145729,[.cl 104 [.lp 0 0]]),(4194305,evL e),(5242881,[vi er]),(0,[hdF 25 acc 7])]++ouF Ca acc 7
theorem Ol (k:Sky) (r:Rig) (l:List Leg) (f:Nat->V) (z:LSt) (acc:List Shp) (s:Shp) (e:Evt) (er:Int) (hf:∀ t,AV (·∈fKS) AR (f t)):BT fKS (fXS acc) (fL k r l f z acc s e er):=by
 by_cases h0:acc=[]
 . subst h0
   refine ⟨rfl,by simp [fKS,fXS],?_⟩;intro q hq;simp only [fL,Aq,Au,List.append_nil,List.mem_cons,List.not_mem_nil,or_false] at hq;rcases hq with rfl | rfl | rfl | rfl | rfl | rfl | rfl | rfl | rfl
   . exact ⟨by simp,Or.inr ⟨_,_,_,_,_,_,rfl⟩,fun c hc=>by simp at hc;subst hc;exact hf⟩
   all_goals refine ⟨by simp,Or.inl rfl,fun c hc=>?_⟩
   all_goals simp only [List.mem_cons,List.not_mem_nil,or_false] at hc
   all_goals first
     | (subst hc;exact rfl)
     | (subst hc;simp [CX,W1,W0,rid,fKS,AJ,fXS])
     | (rcases hc with rfl | rfl | rfl | rfl<;>exact rfl)
     | (rcases hc with rfl | rfl | rfl | rfl | rfl | rfl | rfl | rfl | rfl | rfl | rfl | rfl | rfl | rfl | rfl | rfl | rfl | rfl | rfl | rfl | rfl | rfl | rfl | rfl | rfl<;>exact rfl)
 . have hx:fXS acc=[7]:=by simp [fXS,h0]
   rw [hx];refine ⟨by simp [fL,AZ h0,fKS],by simp [fKS],?_⟩;intro q hq;simp only [fL,Ak h0,AZ h0,List.mem_append,List.mem_cons,List.not_mem_nil,or_false] at hq;rcases hq with (rfl | rfl | rfl | rfl | rfl | rfl | rfl | rfl | rfl) | rfl
   . exact ⟨by simp,Or.inr ⟨_,_,_,_,_,_,rfl⟩,fun c hc=>by simp at hc;subst hc;exact hf⟩
   rotate_left 8
   . refine ⟨?_,Or.inl (List.all_eq_true.2 BU),fun c hc=>?_⟩
     . intro e
       have:=congrArg List.length e;rw [Aw WM] at this;cases acc with
       | nil=>exact h0 rfl
       | cons a t=>simp at this
     . obtain ⟨d,_,rfl⟩:=List.mem_map.1 (show c∈List.map V.d (List.map Ca acc).flatten from hc)
       exact rfl
   all_goals refine ⟨by simp,Or.inl rfl,fun c hc=>?_⟩
   all_goals simp only [List.mem_cons,List.not_mem_nil,or_false] at hc
   all_goals first
     | (subst hc;exact rfl)
     | (subst hc;simp [CX,W1,W0,rid,fKS,AJ])
     | (rcases hc with rfl | rfl | rfl | rfl<;>exact rfl)
     | (rcases hc with rfl | rfl | rfl | rfl | rfl | rfl | rfl | rfl | rfl | rfl | rfl | rfl | rfl | rfl | rfl | rfl | rfl | rfl | rfl | rfl | rfl | rfl | rfl | rfl | rfl<;>exact rfl)
theorem kU (acc:List Shp) (n:Shp) (hl:acc.length<=100000):Cm prog 104 [Cl n (.d (AX n.gas.cs)), .lp 0 0] (lk ([(0,[hdF 25 acc 7])]++ouF Ca acc 7)) [0] (.ret (.tup [Cl n (.d (AX n.gas.cs)),vi 0])) (lk ([(0,[hdF 25 (acc++[n]) 7])]++ouF Ca (acc++[n]) 7)):=by
 have hr:∀ l:List Shp,(AH Ca l).map (BJ fun i=>if i=0 then 0 else 7)=AH Ca l:=fun l=>by
   simp [AH,List.map_flatten,Function.comp_def]
 have h:=Cm.rename (fun i=>if i=0 then 0 else 7) 2 (by intro i j hi hj;split<;>split<;>omega) (mI acc n hl) (by
   by_cases h0:acc=[]
   . subst h0;simp [BW,Aq,Au]
   . simp [BW,Ak h0,AZ h0]) (by rw [Ak (by simp),AZ (by simp)];simp [BW]) (by simp)
 by_cases h0:acc=[]
 . subst h0
   rw [Aq,Au,List.nil_append,Ak (by simp),AZ (by simp)] at h ⊢;simpa [Ea,HW,hr] using h
 . rw [Ak h0,AZ h0,Ak (by simp),AZ (by simp)] at h ⊢
   simpa [Ea,HW,hr] using h
structure kV (f:Nat->V):Prop where
 av:∀ t,AV (·∈fKS) AR (f t)
 f4:f 4= .lp 1 0
 f5:f 5= .lp 1048577 0
 f6:f 6= .lp 2097153 0
 f7:f 7= .lp 3145729 0
 f8:f 8= .lp 4194305 0
 f9:f 9= .lp 5242881 0
theorem VQ (hS:SortOk) (k:Sky) (r:Rig) (l:List Leg) (f:Nat->V) (hF:kV f) (acc:List Shp) (s n:Shp) (i m:Nat) (x:Leg) (_:l.length<=1000000) (ha:acc.length<=100000) (h1:k.s.length<=1000000) (h2:k.w.length<=1000000) (h3:r.reg.length<=1000000) (hk:BV k=true) (hR:CF r=true) (hg:Ey k r=true) (hs:A6 s=true) (hlo:BE x=true) (hx:l[i]?= some x) (ho:FA k r x m s= .ok n):
   Ym prog 8388609 [vi i,vi m] (lk (fL k r l f .ready acc s ev0 0)) fKS (.ret (vb true)) (lk (fL k r l f .ready (acc++[n]) n ev0 0)):=by
 obtain ⟨hf,f4,f5,f6,f7,f8,f9⟩:=hF;have hil:=(List.getElem?_eq_some_iff.1 hx).1;have hiI:(i:Int) < l.length:=by omega
 have hK1:=Ol k r l f .ready acc s ev0 0 hf;have hK2:=Ol k r l f .ready (acc++[n]) n ev0 0 hf
 have hlt:∀ j∈fKS++fXS acc,j < 10000000:=by
   intro j hj;simp only [fKS,fXS,List.mem_append,List.mem_cons,List.not_mem_nil,or_false] at hj;rcases hj with h | h
   . omega
   . split at h
     . simp at h
     . simp at h;omega
 have hW:∀ (y:Nat) z,WC (lk [(8388609,8388609),(7340033,7340033),(1,1),(1048577,1048577),(2097153,2097153),(3145729,3145729),(4194305,4194305),(5242881,5242881),(0,0),(7,y)]) (.lr f 69 [19,20] Az A3 z) (.lr f 69 [19,20] Az A3 z):=fun y z=>⟨rfl,fun t=>AV.mono (fun j hj=>by simp [fKS] at hj;rcases hj with rfl | rfl | rfl | rfl | rfl | rfl | rfl | rfl | rfl<;>simp [lk]) (fun _ h=>h) (hf t)⟩
 have hC:∀ z,Bv [.lr f 69 [19,20] Az A3 z]:=fun z=>Or.inr ⟨_,_,_,_,_,_,rfl⟩
 have ca:=kU acc n ha;refine Ym.ofX (k:=8388609) (fr:=f) (nt:=69) (ps:=[19,20]) (pa:=Az) (pb:=A3) (args:=[vi i,vi m]) (s:= .ready) gok eok mixed 10000000 hK1 hK2 hlt (by simp [fKS]) (by simp [fL]) (by simp) (by simp) (by simp) ?_;obtain ⟨t,ht,hmo,hnx⟩:=Ib.1 ho;have hto:=Ow hs hlo ht;have cm:=ko hS k r t x h1 h2 h3 hk hR hg hto hlo;rw [H2.2 ⟨hmo,hnx⟩] at cm;simp only [RB] at cm;by_cases hm:m=0
 . rw [if_pos hm] at ht
   subst hm;have cb:=pP s x hs hlo;rw [ht] at cb;simp only [Oy] at cb;by_cases h0:acc=[]
   . subst h0
     rw [Aq,Au,List.nil_append,Ak (by simp),AZ (by simp)] at ca;refine ⟨fun E hE hs=>?_⟩;unfold fL;rw [Aq,Au,List.nil_append,Ak (by simp),AZ (by simp)]
     generalize V.lr f 69 [19,20] Az A3=rc at hW hC ⊢
     simp [Az,BD];simp [A3];refine AL [(10,23631488)] (by kernel_rfl) ?_;simp [inC,Nat.testBit,hx,f5,f6];refine CLa cb ?_;simp [AA,inC,Nat.testBit,f5];refine AL [(13,42505856),(14,43554432)] (by kernel_rfl) ?_;simp [inC,Nat.testBit,hx,f4,f5,f6];refine CLa cm ?_;simp [AA,inC,Nat.testBit,f7];refine CRs ca (by simp) ?_;simp [AA,f5];refine ⟨trivial,by simp,lk [(8388609,8388609),(7340033,7340033),(1,1),(1048577,1048577),(2097153,2097153),(3145729,3145729),(4194305,4194305),(5242881,5242881),(0,0),(7,51943047)],?_⟩;simp [hW,hC,fKS,AH]
   . have n1:AH Ca acc≠[]:=fun e=>by
       have:=congrArg List.length e;rw [Aw WM] at this;cases acc with
       | nil=>exact h0 rfl
       | cons a t=>simp at this
     rw [Ak h0,AZ h0,Ak (by simp),AZ (by simp)] at ca;refine ⟨fun E hE hs=>?_⟩;unfold fL;rw [Ak h0,AZ h0,Ak (by simp),AZ (by simp)]
     generalize V.lr f 69 [19,20] Az A3=rc at hW hC ⊢
     simp [Az,BD];simp [A3];refine AL [(10,23631488)] (by kernel_rfl) ?_;simp [inC,Nat.testBit,hx,f5,f6];refine CLa cb ?_;simp [AA,inC,Nat.testBit,f5];refine AL [(13,42505856),(14,43554432)] (by kernel_rfl) ?_;simp [inC,Nat.testBit,hx,f4,f5,f6];refine CLa cm ?_;simp [AA,inC,Nat.testBit,f7];refine CRs ca (by simp) ?_;simp [AA,f5];refine ⟨trivial,by simp,lk [(8388609,8388609),(7340033,7340033),(1,1),(1048577,1048577),(2097153,2097153),(3145729,3145729),(4194305,4194305),(5242881,5242881),(0,0),(7,51943047)],?_⟩;simp [hW,hC,fKS]
     all_goals first | exact Or.inl (List.all_eq_true.2 BU) | skip
 . rw [if_neg hm] at ht
   subst ht;by_cases h0:acc=[]
   . subst h0
     rw [Aq,Au,List.nil_append,Ak (by simp),AZ (by simp)] at ca;refine ⟨fun E hE hs=>?_⟩;unfold fL;rw [Aq,Au,List.nil_append,Ak (by simp),AZ (by simp)]
     generalize V.lr f 69 [19,20] Az A3=rc at hW hC ⊢
     simp [Az,BD];simp [A3,hm];refine AL [(13,25728640),(14,26777216)] (by kernel_rfl) ?_;simp [inC,Nat.testBit,hx,f4,f5,f6];refine CLa cm ?_;simp [AA,inC,Nat.testBit,f7];refine CRs ca (by simp) ?_;simp [AA,f5];refine ⟨trivial,by simp,lk [(8388609,8388609),(7340033,7340033),(1,1),(1048577,1048577),(2097153,2097153),(3145729,3145729),(4194305,4194305),(5242881,5242881),(0,0),(7,35165831)],?_⟩;simp [hW,hC,fKS,AH]
   . have n1:AH Ca acc≠[]:=fun e=>by
       have:=congrArg List.length e;rw [Aw WM] at this;cases acc with
       | nil=>exact h0 rfl
       | cons a t=>simp at this
     rw [Ak h0,AZ h0,Ak (by simp),AZ (by simp)] at ca;refine ⟨fun E hE hs=>?_⟩;unfold fL;rw [Ak h0,AZ h0,Ak (by simp),AZ (by simp)]
     generalize V.lr f 69 [19,20] Az A3=rc at hW hC ⊢
     simp [Az,BD];simp [A3,hm];refine AL [(13,25728640),(14,26777216)] (by kernel_rfl) ?_;simp [inC,Nat.testBit,hx,f4,f5,f6];refine CLa cm ?_;simp [AA,inC,Nat.testBit,f7];refine CRs ca (by simp) ?_;simp [AA,f5];refine ⟨trivial,by simp,lk [(8388609,8388609),(7340033,7340033),(1,1),(1048577,1048577),(2097153,2097153),(3145729,3145729),(4194305,4194305),(5242881,5242881),(0,0),(7,35165831)],?_⟩;simp [hW,hC,fKS]
     all_goals first | exact Or.inl (List.all_eq_true.2 BU) | skip
theorem T7:∀ {acts:List Act} {p:Plt} {i:Nat},¬ (B7 p acts i).2.2=54
 | [],p,i=>by simp [B7]
 | a::rr,p,i=>by
   unfold B7;cases hd:doS p a with
   | ok q=>exact T7
   | error e=>
     show ¬ e=54
     unfold doS vlS mvS at hd
     repeat' split at hd
     all_goals first | (have:=K8 hd;omega) | (cases hd;omega)
theorem mR {s:Shp} {x:Leg} {e:Int} (h:Ep s x= .error e):¬ e=54:=by
 unfold Ep at h;split at h
 . split at h
   . cases h;decide
   split at h
   . cases h;decide
   . cases h
 . cases h;exact T7
theorem ck {k:Sky} {r:Rig} {s:Shp} {x:Leg} {e:Int × Int × Int} (h:HK k r s x= .error e):(e.1=54/\True)\/(e.1=9/\e.2.1=0/\e.2.2=0):=by
 unfold HK at h;split at h
 . split at h
   . cases h;exact .inr ⟨rfl,rfl,rfl⟩
   . cases h
 . cases h;exact .inl ⟨rfl,trivial⟩
def Iw (x:Leg) (m:Nat) (s:Shp):Shp:=if m=0 then (match Ep s x with | .ok t=>t | .error _=>s) else s
theorem co (hS:SortOk) (k:Sky) (r:Rig) (l:List Leg) (f:Nat->V) (hF:kV f) (acc:List Shp) (s:Shp) (i m:Nat) (x:Leg) (e:Int × Int × Int) (_:l.length<=1000000) (h1:k.s.length<=1000000) (h2:k.w.length<=1000000) (h3:r.reg.length<=1000000) (hk:BV k=true) (hR:CF r=true) (hg:Ey k r=true) (hs:A6 s=true) (hlo:BE x=true) (hx:l[i]?= some x) (ho:FA k r x m s= .error e):
   Ym prog 8388609 [vi i,vi m] (lk (fL k r l f .ready acc s ev0 0)) fKS (.ret (vb false)) (lk (fL k r l f (.done .ret) acc (Iw x m s) (FC i m e).2 (FC i m e).1)):=by
 obtain ⟨hf,f4,f5,f6,f7,f8,f9⟩:=hF;have hil:=(List.getElem?_eq_some_iff.1 hx).1;have hiI:(i:Int) < l.length:=by omega
 have hK1:=Ol k r l f .ready acc s ev0 0 hf;have hK2:=Ol k r l f (.done .ret) acc (Iw x m s) (FC i m e).2 (FC i m e).1 hf
 have hlt:∀ j∈fKS++fXS acc,j < 10000000:=by
   intro j hj;simp only [fKS,fXS,List.mem_append,List.mem_cons,List.not_mem_nil,or_false] at hj;rcases hj with h | h
   . omega
   . split at h
     . simp at h
     . simp at h;omega
 have hW:∀ (y:Nat) z,WC (lk [(8388609,8388609),(7340033,7340033),(1,1),(1048577,1048577),(2097153,2097153),(3145729,3145729),(4194305,4194305),(5242881,5242881),(0,0),(7,y)]) (.lr f 69 [19,20] Az A3 z) (.lr f 69 [19,20] Az A3 z):=fun y z=>⟨rfl,fun t=>AV.mono (fun j hj=>by simp [fKS] at hj;rcases hj with rfl | rfl | rfl | rfl | rfl | rfl | rfl | rfl | rfl<;>simp [lk]) (fun _ h=>h) (hf t)⟩
 have hC:∀ z,Bv [.lr f 69 [19,20] Az A3 z]:=fun z=>Or.inr ⟨_,_,_,_,_,_,rfl⟩
 refine Ym.ofX (k:=8388609) (fr:=f) (nt:=69) (ps:=[19,20]) (pa:=Az) (pb:=A3) (args:=[vi i,vi m]) (s:= .done .ret) gok eok mixed 10000000 hK1 hK2 hlt (by simp [fKS]) (by simp [fL]) (by simp) (by simp) (by simp) ?_;clear hK1 hK2;unfold FA at ho;by_cases hm:m=0
 . rw [if_pos hm] at ho
   subst hm;have cb:=pP s x hs hlo;cases hbs:Ep s x with
   | error b=>
     rw [hbs] at ho cb;simp only [Oy] at cb;have he:e=(b,0,0):=by cases ho;rfl
     subst he;have hbe:=TP hbs;have h54:=mR hbs;have e1:Iw x 0 s=s:=by unfold Iw;rw [if_pos rfl,hbs]
     have e2:FC i 0 (b,0,0)=(b,ev0):=by unfold FC;simp only;rw [if_neg h54]
     rw [e1,e2];simp only;by_cases h0:acc=[]
     . subst h0
       refine ⟨fun E hE hs=>?_⟩;unfold fL;rw [Aq,Au]
       generalize V.lr f 69 [19,20] Az A3=rc at hW hC ⊢
       simp [Az,BD];simp [A3];refine AL [(10,23631488)] (by kernel_rfl) ?_;simp [inC,Nat.testBit,hx,f5,f6];refine CLa cb ?_;simp [AA,inC,Nat.testBit,f8,f9,hbe];refine ⟨trivial,by simp,lk [(8388609,8388609),(7340033,7340033),(1,1),(1048577,1048577),(2097153,2097153),(3145729,3145729),(4194305,4194305),(5242881,5242881),(0,0),(7,7)],?_⟩;simp [hW,hC,fKS,ev0]
     . refine ⟨fun E hE hs=>?_⟩
       unfold fL;rw [Ak h0,AZ h0]
       generalize V.lr f 69 [19,20] Az A3=rc at hW hC ⊢
       simp [Az,BD];simp [A3];refine AL [(10,23631488)] (by kernel_rfl) ?_;simp [inC,Nat.testBit,hx,f5,f6];refine CLa cb ?_;simp [AA,inC,Nat.testBit,f8,f9,hbe];refine ⟨trivial,by simp,lk [(8388609,8388609),(7340033,7340033),(1,1),(1048577,1048577),(2097153,2097153),(3145729,3145729),(4194305,4194305),(5242881,5242881),(0,0),(7,7)],?_⟩;simp [hW,hC,fKS,ev0]
       all_goals first | exact Or.inl (List.all_eq_true.2 BU) | skip
   | ok t=>
     rw [hbs] at ho cb;simp only [Oy] at cb;simp only at ho;have hto:=ZC hs hlo hbs;have cm:=ko hS k r t x h1 h2 h3 hk hR hg hto hlo;rw [ho] at cm;simp only [RB] at cm;have e1:Iw x 0 s=t:=by unfold Iw;rw [if_pos rfl,hbs]
     rw [e1];rcases ck ho with ⟨h54,_⟩ | ⟨h9,k1,k2⟩
     . have e2:FC i 0 e=((54:Int),e.2.1,(i:Int),(0:Int),e.2.2):=by unfold FC;rw [h54,if_pos rfl];rfl
       rw [e2];rw [h54] at cm;simp only;by_cases h0:acc=[]
       . subst h0
         refine ⟨fun E hE hs=>?_⟩;unfold fL;rw [Aq,Au]
         generalize V.lr f 69 [19,20] Az A3=rc at hW hC ⊢
         simp [Az,BD];simp [A3];refine AL [(10,23631488)] (by kernel_rfl) ?_;simp [inC,Nat.testBit,hx,f5,f6];refine CLa cb ?_;simp [AA,inC,Nat.testBit,f5];refine AL [(13,42505856),(14,43554432)] (by kernel_rfl) ?_;simp [inC,Nat.testBit,hx,f4,f5,f6];refine CLa cm ?_;simp [AA,inC,Nat.testBit,f8,f9];refine ⟨trivial,by simp,lk [(8388609,8388609),(7340033,7340033),(1,1),(1048577,1048577),(2097153,2097153),(3145729,3145729),(4194305,4194305),(5242881,5242881),(0,0),(7,7)],?_⟩;simp [hW,hC,fKS,ev0]
       . refine ⟨fun E hE hs=>?_⟩
         unfold fL;rw [Ak h0,AZ h0]
         generalize V.lr f 69 [19,20] Az A3=rc at hW hC ⊢
         simp [Az,BD];simp [A3];refine AL [(10,23631488)] (by kernel_rfl) ?_;simp [inC,Nat.testBit,hx,f5,f6];refine CLa cb ?_;simp [AA,inC,Nat.testBit,f5];refine AL [(13,42505856),(14,43554432)] (by kernel_rfl) ?_;simp [inC,Nat.testBit,hx,f4,f5,f6];refine CLa cm ?_;simp [AA,inC,Nat.testBit,f8,f9];refine ⟨trivial,by simp,lk [(8388609,8388609),(7340033,7340033),(1,1),(1048577,1048577),(2097153,2097153),(3145729,3145729),(4194305,4194305),(5242881,5242881),(0,0),(7,7)],?_⟩;simp [hW,hC,fKS,ev0]
         all_goals first | exact Or.inl (List.all_eq_true.2 BU) | skip
     . have e2:FC i 0 e=(9,ev0):=by unfold FC;rw [h9,if_neg (by decide)]
       rw [e2];rw [h9,k1,k2] at cm;simp only;by_cases h0:acc=[]
       . subst h0
         refine ⟨fun E hE hs=>?_⟩;unfold fL;rw [Aq,Au]
         generalize V.lr f 69 [19,20] Az A3=rc at hW hC ⊢
         simp [Az,BD];simp [A3];refine AL [(10,23631488)] (by kernel_rfl) ?_;simp [inC,Nat.testBit,hx,f5,f6];refine CLa cb ?_;simp [AA,inC,Nat.testBit,f5];refine AL [(13,42505856),(14,43554432)] (by kernel_rfl) ?_;simp [inC,Nat.testBit,hx,f4,f5,f6];refine CLa cm ?_;simp [AA,inC,Nat.testBit,f8,f9];refine ⟨trivial,by simp,lk [(8388609,8388609),(7340033,7340033),(1,1),(1048577,1048577),(2097153,2097153),(3145729,3145729),(4194305,4194305),(5242881,5242881),(0,0),(7,7)],?_⟩;simp [hW,hC,fKS,ev0]
       . refine ⟨fun E hE hs=>?_⟩
         unfold fL;rw [Ak h0,AZ h0]
         generalize V.lr f 69 [19,20] Az A3=rc at hW hC ⊢
         simp [Az,BD];simp [A3];refine AL [(10,23631488)] (by kernel_rfl) ?_;simp [inC,Nat.testBit,hx,f5,f6];refine CLa cb ?_;simp [AA,inC,Nat.testBit,f5];refine AL [(13,42505856),(14,43554432)] (by kernel_rfl) ?_;simp [inC,Nat.testBit,hx,f4,f5,f6];refine CLa cm ?_;simp [AA,inC,Nat.testBit,f8,f9];refine ⟨trivial,by simp,lk [(8388609,8388609),(7340033,7340033),(1,1),(1048577,1048577),(2097153,2097153),(3145729,3145729),(4194305,4194305),(5242881,5242881),(0,0),(7,7)],?_⟩;simp [hW,hC,fKS,ev0]
         all_goals first | exact Or.inl (List.all_eq_true.2 BU) | skip
 . rw [if_neg hm] at ho
   have cm:=ko hS k r s x h1 h2 h3 hk hR hg hs hlo;rw [ho] at cm;simp only [RB] at cm;have e1:Iw x m s=s:=by unfold Iw;rw [if_neg hm]
   rw [e1];rcases ck ho with ⟨h54,_⟩ | ⟨h9,k1,k2⟩
   . have e2:FC i m e=((54:Int),e.2.1,(i:Int),(m:Int),e.2.2):=by unfold FC;rw [h54,if_pos rfl]
     rw [e2];rw [h54] at cm;simp only;by_cases h0:acc=[]
     . subst h0
       refine ⟨fun E hE hs=>?_⟩;unfold fL;rw [Aq,Au]
       generalize V.lr f 69 [19,20] Az A3=rc at hW hC ⊢
       simp [Az,BD];simp [A3,hm];refine AL [(13,25728640),(14,26777216)] (by kernel_rfl) ?_;simp [inC,Nat.testBit,hx,f4,f5,f6];refine CLa cm ?_;simp [AA,inC,Nat.testBit,f8,f9];refine ⟨trivial,by simp,lk [(8388609,8388609),(7340033,7340033),(1,1),(1048577,1048577),(2097153,2097153),(3145729,3145729),(4194305,4194305),(5242881,5242881),(0,0),(7,7)],?_⟩;simp [hW,hC,fKS,ev0]
     . refine ⟨fun E hE hs=>?_⟩
       unfold fL;rw [Ak h0,AZ h0]
       generalize V.lr f 69 [19,20] Az A3=rc at hW hC ⊢
       simp [Az,BD];simp [A3,hm];refine AL [(13,25728640),(14,26777216)] (by kernel_rfl) ?_;simp [inC,Nat.testBit,hx,f4,f5,f6];refine CLa cm ?_;simp [AA,inC,Nat.testBit,f8,f9];refine ⟨trivial,by simp,lk [(8388609,8388609),(7340033,7340033),(1,1),(1048577,1048577),(2097153,2097153),(3145729,3145729),(4194305,4194305),(5242881,5242881),(0,0),(7,7)],?_⟩;simp [hW,hC,fKS,ev0]
       all_goals first | exact Or.inl (List.all_eq_true.2 BU) | skip
   . have e2:FC i m e=(9,ev0):=by unfold FC;rw [h9,if_neg (by decide)]
     rw [e2];rw [h9,k1,k2] at cm;simp only;by_cases h0:acc=[]
     . subst h0
       refine ⟨fun E hE hs=>?_⟩;unfold fL;rw [Aq,Au]
       generalize V.lr f 69 [19,20] Az A3=rc at hW hC ⊢
       simp [Az,BD];simp [A3,hm];refine AL [(13,25728640),(14,26777216)] (by kernel_rfl) ?_;simp [inC,Nat.testBit,hx,f4,f5,f6];refine CLa cm ?_;simp [AA,inC,Nat.testBit,f8,f9];refine ⟨trivial,by simp,lk [(8388609,8388609),(7340033,7340033),(1,1),(1048577,1048577),(2097153,2097153),(3145729,3145729),(4194305,4194305),(5242881,5242881),(0,0),(7,7)],?_⟩;simp [hW,hC,fKS,ev0]
     . refine ⟨fun E hE hs=>?_⟩
       unfold fL;rw [Ak h0,AZ h0]
       generalize V.lr f 69 [19,20] Az A3=rc at hW hC ⊢
       simp [Az,BD];simp [A3,hm];refine AL [(13,25728640),(14,26777216)] (by kernel_rfl) ?_;simp [inC,Nat.testBit,hx,f4,f5,f6];refine CLa cm ?_;simp [AA,inC,Nat.testBit,f8,f9];refine ⟨trivial,by simp,lk [(8388609,8388609),(7340033,7340033),(1,1),(1048577,1048577),(2097153,2097153),(3145729,3145729),(4194305,4194305),(5242881,5242881),(0,0),(7,7)],?_⟩;simp [hW,hC,fKS,ev0]
       all_goals first | exact Or.inl (List.all_eq_true.2 BU) | skip
def F6 (a:Except (Int × Evt) (List Shp)):Int × Evt:=match a with | .ok _=>(0,ev0) | .error e=>e
theorem TS {k:Sky} {r:Rig} {l:List Leg} (hT:Va k r) (hl:∀ x∈l,BE x=true):∀ {im:List (Nat × Nat)} {s:Shp},A6 s=true->∀ n∈D6 k r l im s,A6 n=true
 | [],s,_,n,h=>by simp [D6] at h
 | (i,m)::rest,s,hs,n,h=>by
   unfold D6 at h;split at h
   . simp at h
   rename_i x hx;split at h
   . simp at h
   rename_i n1 h1;have h2:=Q7 hT hs (hl x (List.mem_of_getElem? hx)) h1;rcases List.mem_cons.1 h with rfl | h
   . exact h2
   . exact TS hT hl h2 n h
theorem fW {s:Shp} {ns:List Shp} (hs:A6 s=true) (hn:∀ n∈ns,A6 n=true) {j:Nat} (hj:j<=ns.length):A6 (DX s ns j)=true:=by
 unfold DX;split
 . exact hs
 . obtain ⟨n,hnn⟩:∃ n,ns[j - 1]?= some n:=⟨_,List.getElem?_eq_getElem (by omega)⟩
   rw [hnn];exact hn n (List.mem_of_getElem? hnn)
theorem Vb {s n:Shp} {ns:List Shp} {j:Nat} (h:ns[j]?= some n):DX s ns (j+1)=n:=by
 unfold DX;rw [if_neg (by omega),Nat.add_sub_cancel,h];rfl
theorem fX (l:List Shp):∀ (a:Nat) (b:List V),(a,b)∈(0,[hdF 25 l 1])::ouF Ca l 1->∀ c∈b,AC (InB ((0,[hdF 25 l 1])::ouF Ca l 1)) AR c:=by
 by_cases h0:l=[]
 . subst h0;simp [Aq,Au]
 . rw [Ak h0,AZ h0]
   intro a b hab c hc;simp only [List.mem_cons,List.not_mem_nil,or_false,Prod.mk.injEq] at hab;rcases hab with ⟨rfl,rfl⟩ | ⟨rfl,rfl⟩
   . simp at hc;subst hc;simp
   . obtain ⟨d,_,rfl⟩:=List.mem_map.1 (show c∈List.map V.d (List.map Ca l).flatten from hc)
     simp
def fT (k:Sky) (r:Rig) (l:List Leg) (acc:List Shp) (s:Shp) (e:Evt) (er:Int):List (Nat × List V):=
 [(7340033,[.d (Bs l)]),(1,[D2 k r]),(1048577,shB s),(2097153,[.d (Bs l)]),(3145729,[.cl 104 [.lp 0 0]]),(4194305,evL e),(5242881,[vi er]),(0,[hdF 25 acc 7])]++ouF Ca acc 7
theorem Vc (k:Sky) (r:Rig) (l:List Leg) (f:Nat->V) (z:LSt) (acc:List Shp) (s:Shp) (e:Evt) (er:Int):fL k r l f z acc s e er=(8388609,[.lr f 69 [19,20] Az A3 z])::fT k r l acc s e er:=rfl
theorem NG:fKS=8388609::[7340033,1,1048577,2097153,3145729,4194305,5242881,0]:=rfl
theorem pQ (hS:SortOk) (k:Sky) (r:Rig) (l:List Leg) (s:Shp) (hl:l.length<=100) (hok:∀ x∈l,BE x=true) (h1:k.s.length<=1000000) (h2:k.w.length<=1000000) (h3:r.reg.length<=1000000) (hk:BV k=true) (hR:CF r=true) (hg:Ey k r=true) (hs:A6 s=true):
   Cm prog 103 [D2 k r,Cl s (.d (AX s.gas.cs)), .d (Bs l), .cl 104 [.lp 0 0]] (lk [(0,[.d (.lit (.slice none 0 0))])]) [0] (.ret (.tup [Ys (F6 (Dt k r l (BN 0 l) s)).2,vi (F6 (Dt k r l (BN 0 l) s)).1])) (lk ([(0,[hdF 25 (D6 k r l (BN 0 l) s) 1])]++ouF Ca (D6 k r l (BN 0 l) s) 1)):=by
 have hT:Va k r:=⟨hk,Hy hR,hg⟩
 have hlen:=Kv (i:=0) hok
 have hmem:∀ p∈BN 0 l,∃ x,l[p.1]?= some x:=fun p hp=>by
   obtain ⟨x,_,h,_⟩:=Ia hp;exact ⟨x,by simpa using h⟩
 have hend:=LQ (k:=k) (r:=r) (s:=s) hmem;have hrd:∀ {j:Nat} {n:Shp},(D6 k r l (BN 0 l) s)[j]?= some n->_:=fun h=>LP h
 have hnok:=TS hT hok (im:=BN 0 l) hs
 have hlb:(BN 0 l).length<=60000:=by
   have:=KA hok;omega
 obtain ⟨ns,hns⟩:∃ ns,D6 k r l (BN 0 l) s=ns:=⟨_,rfl⟩
 obtain ⟨FK,hFK⟩:∃ FK,Dt k r l (BN 0 l) s=FK:=⟨_,rfl⟩
 rw [hns] at hend hnok hrd ⊢;rw [hFK] at hend ⊢
 have hnl:ns.length<=(BN 0 l).length:=by
   rcases hend with ⟨_,h⟩ | ⟨i,m,x,e,h,_⟩
   . omega
   . have:=(List.getElem?_eq_some_iff.1 h).1;omega
 have hsj:∀ {j:Nat},j<=ns.length->A6 (DX s ns j)=true:=fun hj=>fW hs hnok hj
 refine Cm.by gok eok mixed 1 func103 c103 rfl (by simp [ntmps103]) (by simp) (A7.at (by simp)) (by simp) (by
   refine ⟨by simp,?_⟩;exact fun p hp c hc=>fX ns p.1 p.2 hp c hc) fun E hs' hE=>?_
 simp [p103];refine CLa (qu l) ?_;simp;have hnt:E.nt=69:=by rw [hE.1];exact ntmps103
 rw [<-JI (Γ:=tys) (eqs:=eqs)];obtain ⟨f,hf⟩:∃ f,f=upd (upd (upd (upd (upd (upd (upd (upd (Dn 0 [D2 k r,Cl s (.d (AX s.gas.cs)), .d (Bs l), .cl 104 [.lp 0 0]]) 4 (.lp 1 0)) 5 (.lp 1048577 0)) 6 (.lp 2097153 0)) 7 (.lp 3145729 0)) 8 (.lp 4194305 0)) 9 (.lp 5242881 0)) 17 (.d (Bs l))) 18 (.cl 205 [.lp 7340033 0]):=⟨_,rfl⟩
 have hfA:∀ t,AV (·∈fKS) AR (f t):=fun t=>by
   rw [hf];simp only [AY];split
   . intro c hc;simp at hc;subst hc;exact (by simp [fKS]:(7340033:Nat)∈fKS)
   split
   . exact trivial
   split
   . exact (by simp [fKS]:(5242881:Nat)∈fKS)
   split
   . exact (by simp [fKS]:(4194305:Nat)∈fKS)
   split
   . exact (by simp [fKS]:(3145729:Nat)∈fKS)
   split
   . exact (by simp [fKS]:(2097153:Nat)∈fKS)
   split
   . exact (by simp [fKS]:(1048577:Nat)∈fKS)
   split
   . exact (by simp [fKS]:(1:Nat)∈fKS)
   simp only [Dn];split
   . exact trivial
   split
   . intro c hc;simp at hc;rcases hc with rfl | rfl | rfl | rfl | rfl | rfl | rfl | rfl | rfl | rfl | rfl | rfl | rfl | rfl | rfl | rfl | rfl | rfl | rfl | rfl | rfl | rfl | rfl | rfl | rfl<;>exact trivial
   split
   . exact trivial
   split
   . intro c hc;simp at hc;subst hc;exact (by simp [fKS]:(0:Nat)∈fKS)
   . exact fun c hc=>by simp at hc
 have hFF:kV f:=⟨hfA,by rw [hf];simp,by rw [hf];simp,by rw [hf];simp,by rw [hf];simp,by rw [hf];simp,by rw [hf];simp⟩
 have f18:f 18= .cl 205 [.lp 7340033 0]:=by rw [hf];simp
 obtain ⟨_,f4,f5,f6,f7,f8,f9⟩:=id hFF;rw [<-hf];have hK:=fun z acc t e er=>Ol k r l f z acc t e er hfA
 have hN:∀ i∈fKS,i < 1000000000:=by simp [fKS]
 have hX:∀ i:Nat,∀ x∈fXS (ns.take i),x < 1048576:=fun i x hx=>by
   unfold fXS at hx;split at hx<;>simp at hx;omega
 have hrec:∀ z acc t e er,∃ fr nt ps pa pb jmp,lk (fL k r l f z acc t e er) 8388609=some [.lr fr nt ps pa pb jmp]/\ps.length=2:=fun z acc t e er=>⟨f,69,[19,20],Az,A3,z,by simp [fL],rfl⟩
 have hbox:∀ z acc t e er,lk (fL k r l f z acc t e er) 7340033=some [.d (Bs l)]:=fun z acc t e er=>by simp [fL]
 have hround:∀ j i m,j < ns.length->(BN 0 l)[j]?= some (i,m)->Ym prog 8388609 [vi i,vi m] (lk (fL k r l f .ready (ns.take j) (DX s ns j) ev0 0)) fKS (.ret (vb true)) (lk (fL k r l f .ready (ns.take (j+1)) (DX s ns (j+1)) ev0 0)):=fun j i m hj him=>by
   obtain ⟨n,hn⟩:=gE hj;obtain ⟨i',m',x,e1,e2,e3⟩:=hrd hn;rw [him] at e1;cases e1;have:=VQ hS k r l f hFF (ns.take j) (DX s ns j) n i m x (by omega) (by rw [List.length_take];omega) h1 h2 h3 hk hR hg (hsj (by omega)) (hok x (List.mem_of_getElem? e2)) e2 e3;rw [Vb hn,List.take_add_one,hn];exact this
 rcases hend with ⟨hok1,hlen1⟩ | ⟨i,m,x,e,hm1,hm2,hm3,hm4⟩
 ·
   have c:=Jl l (by omega) hok fKS (fun j=>fXS (ns.take j)) 8388609 7340033 ns.length (fun _=>true) (fun j=>fL k r l f .ready (ns.take j) (DX s ns j) ev0 0) (by simp [fKS]) (by simp [fKS]) hN hX (by omega) (fun j _=>hK _ _ _ _ _) (fun j _=>hrec _ _ _ _ _) (fun j _=>hbox _ _ _ _ _) (fun _ _=>rfl) (Or.inl hlen1) (fun j i m hj him=>hround j i m hj him);have hK0:=hK .ready [] s ev0 0;have hKn:=hK .ready ns (DX s ns ns.length) ev0 0;have c0:fL k r l f .ready (ns.take 0) (DX s ns 0) ev0 0=fL k r l f .ready [] s ev0 0:=rfl;have cn:fL k r l f .ready (ns.take ns.length) (DX s ns ns.length) ev0 0=fL k r l f .ready ns (DX s ns ns.length) ev0 0:=by rw [List.take_length]
   rw [c0,cn,Vc,Vc,NG] at c;rw [Vc,NG] at hK0 hKn;have hFe:F6 FK=(0,ev0):=by rw [hok1];rfl
   rw [hFe];refine E3.keepX (fT k r l [] s ev0 0) (fT k r l ns (DX s ns ns.length) ev0 0) [7340033,1,1048577,2097153,3145729,4194305,5242881,0] (fXS []) (fXS ns) (.tup []) .ready hE.2 (g:=205) (caps:=[.lp 7340033 0]) (by simp [f18]) (by rw [hnt];exact c) (by rw [hnt];exact hK0) (by rw [hnt];exact hKn) (fun x hx=>by have:=hX ns.length x (by rw [List.take_length];exact hx);exact this) (by simp [fXS]) (by simp [fXS,fT,Aq,Au,ev0]) (by simp) fun F h1 h2=>?_
   by_cases h0:ns=[]
   . subst h0
     have F0:=h1 (0,_) (by simp [fT,Aq,Au];rfl);have F8:=h1 (4194305,_) (by simp [fT,Aq,Au];rfl);have F9:=h1 (5242881,_) (by simp [fT,Aq,Au];rfl);simp [sg,BJ,DS,DR] at F0 F8 F9;rw [Aq,Au]
     show Ft 0 _ .normal _
     simp [f8,f9,F8,F9,AA];refine AB.by (lk [(0,0)]) ?_;simp [results103,F0,ev0,f8,f9]
   . have F0:=h1 (0,_) (by simp [fT,Ak h0,AZ h0];rfl)
     have F7:=h1 (7,_) (by simp [fT,Ak h0,AZ h0];rfl);have F8:=h1 (4194305,_) (by simp [fT,Ak h0,AZ h0];rfl);have F9:=h1 (5242881,_) (by simp [fT,Ak h0,AZ h0];rfl);simp [sg,BJ,DS,DR] at F0 F7 F8 F9;rw [Ak h0,AZ h0]
     show Ft 0 _ .normal _
     simp [f8,f9,F8,F9,AA];refine AB.by (lk [(0,0),(1,9437192)]) ?_;simp [results103,F0,F7,ev0,f8,f9]
     all_goals first | exact Or.inl (List.all_eq_true.2 BU) | skip
 . have hal:ns.length < (BN 0 l).length:=(List.getElem?_eq_some_iff.1 hm1).1
   obtain ⟨EZ,hEZ⟩:∃ EZ,FC i m e=EZ:=⟨_,rfl⟩
   have hFe:F6 FK=EZ:=by rw [hm4,hEZ];rfl
   rw [hFe];have hfail:=co hS k r l f hFF ns (DX s ns ns.length) i m x e (by omega) h1 h2 h3 hk hR hg (hsj (Nat.le_refl _)) (hok x (List.mem_of_getElem? hm2)) hm2 hm3;rw [hEZ] at hfail;obtain ⟨SF,hSF⟩:∃ SF,Iw x m (DX s ns ns.length)=SF:=⟨_,rfl⟩
   rw [hSF] at hfail;obtain ⟨LL,hLL⟩:∃ LL:Nat->List (Nat × List V),LL=fun j=>if j<=ns.length then fL k r l f .ready (ns.take j) (DX s ns j) ev0 0 else fL k r l f (.done .ret) ns SF EZ.2 EZ.1:=⟨_,rfl⟩
   have LLa:∀ j,j<=ns.length->LL j=fL k r l f .ready (ns.take j) (DX s ns j) ev0 0:=fun j hj=>by rw [hLL];simp only;rw [if_pos hj]
   have LLb:LL (ns.length+1)=fL k r l f (.done .ret) ns SF EZ.2 EZ.1:=by rw [hLL];simp only;rw [if_neg (by omega)]
   have tk:∀ j,ns.length<=j->ns.take j=ns:=fun j hj=>List.take_of_length_le hj
   have c:=Jl l (by omega) hok fKS (fun j=>fXS (ns.take j)) 8388609 7340033 (ns.length+1) (fun j=>decide (j < ns.length)) LL (by simp [fKS]) (by simp [fKS]) hN hX (by omega) (fun j hj=>by
       by_cases h:j<=ns.length
       . rw [LLa j h];exact hK _ _ _ _ _
       . rw [show j=ns.length+1 by omega,LLb,tk _ (by omega)];exact hK _ _ _ _ _) (fun j hj=>by
       rw [LLa j (by omega)];exact hrec _ _ _ _ _) (fun j hj=>by
       by_cases h:j<=ns.length
       . rw [LLa j h];exact hbox _ _ _ _ _
       . rw [show j=ns.length+1 by omega,LLb];exact hbox _ _ _ _ _) (fun j hj=>decide_eq_true (by omega)) (Or.inr ⟨by omega,decide_eq_false (by omega)⟩) (fun j i' m' hj him=>by
       by_cases h:j < ns.length
       . rw [LLa j (by omega),LLa (j+1) (by omega),decide_eq_true h];exact hround j i' m' h him
       . have e1:j=ns.length:=by omega
         subst e1;rw [hm1] at him;cases him;rw [LLa ns.length (Nat.le_refl _),LLb,decide_eq_false h,List.take_length];exact hfail)
   have hK0:=hK .ready [] s ev0 0;have hKn:=hK (.done .ret) ns SF EZ.2 EZ.1;have c0:LL 0=fL k r l f .ready [] s ev0 0:=by rw [LLa 0 (by omega)];rfl
   rw [c0,LLb,Vc,Vc,NG] at c;rw [Vc,NG] at hK0 hKn;refine E3.keepX (fT k r l [] s ev0 0) (fT k r l ns SF EZ.2 EZ.1) [7340033,1,1048577,2097153,3145729,4194305,5242881,0] (fXS []) (fXS ns) (.tup []) (.done .ret) hE.2 (g:=205) (caps:=[.lp 7340033 0]) (by simp [f18]) (by rw [hnt];exact c) (by rw [hnt];exact hK0) (by rw [hnt];exact hKn) (fun x hx=>by have:=hX ns.length x (by rw [List.take_length];exact hx);exact this) (by simp [fXS]) (by simp [fXS,fT,Aq,Au,ev0]) (by simp) fun F h1 h2=>?_
   by_cases h0:ns=[]
   . subst h0
     have F0:=h1 (0,_) (by simp [fT,Aq,Au];rfl);have F8:=h1 (4194305,_) (by simp [fT,Aq,Au];rfl);have F9:=h1 (5242881,_) (by simp [fT,Aq,Au];rfl);simp [sg,BJ,DS,DR] at F0 F8 F9;rw [Aq,Au]
     show Ft 0 _ .ret _
     simp;refine AB.by (lk [(0,0)]) ?_;simp [results103,F0,F8,F9,f8,f9]
   . have F0:=h1 (0,_) (by simp [fT,Ak h0,AZ h0];rfl)
     have F7:=h1 (7,_) (by simp [fT,Ak h0,AZ h0];rfl);have F8:=h1 (4194305,_) (by simp [fT,Ak h0,AZ h0];rfl);have F9:=h1 (5242881,_) (by simp [fT,Ak h0,AZ h0];rfl);simp [sg,BJ,DS,DR] at F0 F7 F8 F9;rw [Ak h0,AZ h0]
     show Ft 0 _ .ret _
     simp;refine AB.by (lk [(0,0),(1,9437192)]) ?_;simp [results103,F0,F7,F8,F9,f8,f9]
     all_goals first | exact Or.inl (List.all_eq_true.2 BU) | skip
abbrev cD (l:List Shp):D:= .sl 25 (l.map Ca)
def Lp (a:Except (Int × Evt) (List Shp)):List Shp:=match a with | .ok ns=>ns | .error _=>[]
abbrev cE (a:Except (Int × Evt) (List Shp)):V:= .tup [.d (cD (Lp a)),Ys (F6 a).2,vi (F6 a).1]
theorem ABc {k:Sky} {r:Rig} {s:Shp} {a b:Int} (ha:(if A6 s then (0:Int) else 52)=a) (hz:¬ JC k r s b=0):(¬ QG k r a b=0/\QG k r a b=JC k r s b)\/(BV k=true/\CF r=true/\a=0/\b=0/\Ey k r=false/\JC k r s b=2):=by
 unfold QG JC at*;unfold e0 e1;cases h1:BV k
 . left;simp
 . cases h2:CF r
   . left;simp
   . cases h3:A6 s
     . rw [h3] at ha;simp at ha;subst ha;left;simp
     . rw [h3] at ha;simp at ha;subst ha
       by_cases hb0:b=0
       . cases h4:Ey k r
         . right;simp [hb0]
         . rw [h1,h2,h3,h4,hb0] at hz;simp at hz
       . left;simp [hb0]
theorem Tv {l:List Leg} (h:C0 l=0):l.length<=20/\(∀ x∈l,BE x=true)/\Cv l<=600:=by
 unfold C0 at h;split at h
 . simp at h
 split at h
 . rename_i h1 h2
   split at h
   . simp at h
   . exact ⟨by omega,List.all_eq_true.1 h2,by omega⟩
 . simp at h
theorem mK (ID:Nat) (hI:2<=ID) (hS:SortOk) (k:Sky) (r:Rig) (l:List Leg) (s:Shp) (hl:l.length<=100) (hok:∀ x∈l,BE x=true) (h1:k.s.length<=1000000) (h2:k.w.length<=1000000) (h3:r.reg.length<=1000000) (hk:BV k=true) (hR:CF r=true) (hg:Ey k r=true) (hs:A6 s=true):
   Cm prog 103 [D2 k r,Cl s (.d (AX s.gas.cs)), .d (Bs l), .cl 104 [.lp ID 0]] (lk [(ID,[.d (.lit (.slice none 0 0))])]) [ID] (.ret (.tup [Ys (F6 (Dt k r l (BN 0 l) s)).2,vi (F6 (Dt k r l (BN 0 l) s)).1])) (lk ([(ID,[hdF 25 (D6 k r l (BN 0 l) s) 1])]++ouF Ca (D6 k r l (BN 0 l) s) 1)):=by
 have h:=pQ hS k r l s hl hok h1 h2 h3 hk hR hg hs
 generalize D6 k r l (BN 0 l) s=ns at*
 generalize F6 (Dt k r l (BN 0 l) s)=e at*
 have hr:∀ l:List Shp,(AH Ca l).map (BJ fun i=>if i=0 then ID else i)=AH Ca l:=fun l=>by
   simp [AH,List.map_flatten,Function.comp_def]
 have:=Cm.rename (fun i=>if i=0 then ID else i) 2 (by intro i j hi hj;split<;>split<;>omega) h (by simp [BW]) (by
   by_cases h0:ns=[]
   . subst h0;simp [BW,Aq,Au]
   . simp [BW,Ak h0,AZ h0]) (by simp)
 have hc:HR (fun i=>if i=0 then ID else i) (V.cl 104 [.lp 0 0])= .cl 104 [.lp ID 0]:=rfl;by_cases h0:ns=[]
 . subst h0
   rw [Aq,Au] at this ⊢;simpa [Ea,HW,hc] using this
 . rw [Ak h0,AZ h0] at this ⊢
   simpa [Ea,HW,hr,hc] using this
theorem qt (hS:SortOk) (k:Sky) (r:Rig) (s:Shp) (l:List Leg) (h1:k.s.length<=1000000) (h2:k.w.length<=1000000) (h3:r.reg.length<=1000000) (h4:s.gas.cs.length<=1000000) (h5:l.length<=1000000) (h6:∀ x∈l,x.acts.length<=1000000):Ct prog 45 [Eu k,Fj r,Cl s (.d (AX s.gas.cs)), .d (Bs l)] (.tup [hdF 25 (Lp (HA k r s l)) 0,Ys (F6 (HA k r s l)).2,vi (F6 (HA k r s l)).1]) (ouF Ca (Lp (HA k r s l)) 0):=by
 have c1:=qF s (by omega);have c2:=fn38 l h5 h6;obtain ⟨a,ha⟩:∃ a:Int,(if A6 s then 0 else 52)=a:=⟨_,rfl⟩
 obtain ⟨b,hb⟩:∃ b:Int,C0 l=b:=⟨_,rfl⟩
 rw [ha] at c1;rw [hb] at c2;unfold HA;rw [hb];by_cases hz:JC k r s b=0
 . rw [if_pos hz]
   obtain ⟨hk,hR,hs,hb0,hg⟩:=MD hz;have ha0:a=0:=by rw [<-ha,hs];rfl
   subst ha0 hb0;obtain ⟨q1,q2,q3⟩:=Tv hb;have c3:=fd 12582912 hS k r h1 h2 h3 hk hR hg;have c4:=mK 22020096 (by omega) hS k r l s (by omega) q2 h1 h2 h3 hk hR hg hs
   have hmem:∀ p∈BN 0 l,∃ x,l[p.1]?= some x:=fun p hp=>by
     obtain ⟨x,_,h,_⟩:=Ia hp;exact ⟨x,by simpa using h⟩
   have hend:=LQ (k:=k) (r:=r) (s:=s) hmem;have herr:=fun e=>NF (k:=k) (r:=r) (l:=l) (im:=BN 0 l) (s:=s) (e:=e) hmem
   generalize D6 k r l (BN 0 l) s=ns at*
   generalize Dt k r l (BN 0 l) s=FK at*
   rcases hend with ⟨e1,_⟩ | ⟨i,m,x,e,_,_,_,e4⟩
   . subst e1
     simp only [Lp,F6] at c4 ⊢;by_cases h0:ns=[]
     . subst h0
       rw [Aq,Au] at c4 ⊢;refine CB func45 c45 fun E hE=>?_
       simp [p45];refine AL [(7,12582912)] (by kernel_rfl) ?_;simp [inC,Nat.testBit];refine CLa c1 ?_;simp [inC,Nat.testBit];refine CLa c2 ?_;simp [AA,AM,inC,Nat.testBit];refine CDs c3 (by simp [wrL,inC,Nat.testBit]) ?_;simp;refine CRs c4 (by simp) ?_;simp [AA,ev0];apply RZ;simp [results45]
     . rw [Ak h0,AZ h0] at c4 ⊢
       refine CB func45 c45 fun E hE=>?_
       simp [p45];refine AL [(7,12582912)] (by kernel_rfl) ?_;simp [inC,Nat.testBit];refine CLa c1 ?_;simp [inC,Nat.testBit];refine CLa c2 ?_;simp [AA,AM,inC,Nat.testBit];refine CDs c3 (by simp [wrL,inC,Nat.testBit]) ?_;simp;refine CRs c4 (by simp) ?_;simp [AA,ev0];refine AB.by (lk [(0,27262977)]) ?_;simp [results45]
       all_goals first | exact Or.inl (List.all_eq_true.2 BU) | skip
   . have he:=(herr _ e4).1
     subst e4;simp only [Lp,F6,Aq,Au] at c4 ⊢
     generalize FC i m e=ee at*
     by_cases h0:ns=[]
     . subst h0
       rw [Aq,Au] at c4;refine CB func45 c45 fun E hE=>?_
       simp [p45];refine AL [(7,12582912)] (by kernel_rfl) ?_;simp [inC,Nat.testBit];refine CLa c1 ?_;simp [inC,Nat.testBit];refine CLa c2 ?_;simp [AA,AM,inC,Nat.testBit];refine CDs c3 (by simp [wrL,inC,Nat.testBit]) ?_;simp;refine CRs c4 (by simp) ?_;simp [AA,he];refine AL [(3,4194304)] (by kernel_rfl) ?_;simp [AA,inC,Nat.testBit];apply RZ;simp [results45]
     . rw [Ak h0,AZ h0] at c4
       refine CB func45 c45 fun E hE=>?_
       simp [p45];refine AL [(7,12582912)] (by kernel_rfl) ?_;simp [inC,Nat.testBit];refine CLa c1 ?_;simp [inC,Nat.testBit];refine CLa c2 ?_;simp [AA,AM,inC,Nat.testBit];refine CDs c3 (by simp [wrL,inC,Nat.testBit]) ?_;simp;refine CRs c4 (by simp) ?_;simp [AA,he];refine AL [(3,4194304)] (by kernel_rfl) ?_;simp [AA,inC,Nat.testBit];apply RZ;simp [results45]
 . rw [if_neg hz]
   simp only [Lp,F6,Aq,Au,ev0];rcases ABc ha hz with ⟨k1,k2⟩ | ⟨k1,k2,k3,k4,k5,k6⟩
   . have c3:=XK hS k r a b h1 h2 h3 k1
     rw [<-k2]
     generalize QG k r a b=e at*
     refine CB func45 c45 fun E hE=>?_
     simp [p45];refine AL [] (by kernel_rfl) ?_;simp [inC,Nat.testBit];refine CLa c1 ?_;simp [inC,Nat.testBit];refine CLa c2 ?_;simp [AA,AM,inC,Nat.testBit];refine CLb (c3) (by simp [Ap,Hcl,inC,Nat.testBit]) ?_;simp [AA,k1];apply RZ;simp [results45]
   . subst k3 k4
     have c3:=XM hS k r h1 h2 h3 k1 k2 k5;rw [k6];refine CB func45 c45 fun E hE=>?_
     simp [p45];refine AL [] (by kernel_rfl) ?_;simp [inC,Nat.testBit];refine CLa c1 ?_;simp [inC,Nat.testBit];refine CLa c2 ?_;simp [AA,AM,inC,Nat.testBit];refine CLb (c3) (by simp [Ap,Hcl,inC,Nat.testBit]) ?_;simp [AA];apply RZ;simp [results45]
theorem mL (hS:SortOk) (k:Sky) (r:Rig) (s:Shp) (l:List Leg) (h1:k.s.length<=1000000) (h2:k.w.length<=1000000) (h3:r.reg.length<=1000000) (h4:s.gas.cs.length<=1000000) (h5:l.length<=1000000) (h6:∀ x∈l,x.acts.length<=1000000):Ct prog 45 [Eu k,Fj r,Cl s (.d (AX s.gas.cs)), .d (Bs l)] (cE (HA k r s l)) []:=by
 refine Cm.freeze (qt hS k r s l h1 h2 h3 h4 h5 h6) ?_;obtain ⟨ns,hns⟩:∃ ns,Lp (HA k r s l)=ns:=⟨_,rfl⟩
 unfold cE;rw [hns];have z:∀ (H:Hp) (x:Int),FzC H (vi x) (vi x):=fun H x=>⟨_,rfl, .inl rfl⟩
 refine ⟨?_,⟨z _ _,z _ _,z _ _,z _ _,trivial⟩, .inl rfl,trivial⟩;by_cases h0:ns=[]
 . subst h0
   rw [Aq];exact .inr ⟨rfl,_,rfl⟩
 . rw [Ak h0,AZ h0]
   exact B0 (H:=lk [(0,AH Ca ns)]) (id:=0) WM (l:=ns) (by simp)
abbrev lgV (l:Leg):List V:=[vi l.m,vi l.axl,vi l.axh,vi l.ayl,vi l.ayh,vi l.ul,vi l.uh,vi l.bl,vi l.bh,vi l.dr, .d (JZ l.acts)]
theorem ar {l:Leg}:∀ (H:Hp) (b:Nat),H b=some (lgV l)->Bor H (.ls b 0 1 11) (.d (Bs [l])):=fun _ _ hh=>B0 (f:=Pi) (fun _=>rfl) (l:=[l]) hh
theorem fz_d {H:Hp} (d:D):FzC H (.d d) (.d d):=⟨d,rfl,by cases d<;>first | exact Or.inl rfl | rfl⟩
theorem Tf {H:Hp}:∀ ds:List D,AJ (FzC H) (ds.map .d) (ds.map .d)
 | []=>trivial
 | d::ds=>⟨fz_d d,Tf ds⟩
theorem lm {H:Hp} (k:Sky):Fz1 H (Eu k) (Eu k):=Tf [BF k.s,C2 k.w]
theorem ln {H:Hp} (r:Rig):Fz1 H (Fj r) (Fj r):=Tf [An r.reg,di r.gl,di r.gh,di r.tank,di r.rsv,di r.lo,di r.hi]
theorem lq {H:Hp} (s:Shp):Fz1 H (Cl s (.d (AX s.gas.cs))) (Cl s (.d (AX s.gas.cs))):=Tf (Ca s)
theorem gk {H:Hp} {b:Nat} {l:Leg} (h:H b=some (lgV l)):Fz1 H (.ls b 0 1 11) (.d (Bs [l])):=ar H b h
theorem PM {k:Sky} {r:Rig} {s:Shp} {l:Leg} {R:V} (h:Ct prog 45 [Eu k,Fj r,Cl s (.d (AX s.gas.cs)), .d (Bs [l])] R []) (b:Nat):Cm prog 45 [Eu k,Fj r,Cl s (.d (AX s.gas.cs)), .ls b 0 1 11] (lk [(b,lgV l)]) [] (.ret R) (lk []):=
 Cm.give h ⟨lm k,ln r,lq s,gk (by simp [lk]),trivial⟩
theorem fn48 (hS:SortOk):Ct prog 48 [] (vb true) []:=by
 have sp:=ZM;have e1:=fn66;have e2:=fn67;have e3:=fn64;have e4:=fn65;have d1:=fn21 B1 CZ (by decide) (by decide) (by decide);have d2:=mL hS B1 DM CZ [exLeg] (by decide) (by decide) (by decide) (by decide) (by decide) (by decide);have d3:=mL hS B1 HH CZ [exLeg] (by decide) (by decide) (by decide) (by decide) (by decide) (by decide);rw [qH] at d1;rw [lv] at d2;rw [lz] at d3;simp only [cE,Lp,F6] at d2 d3;have d3:Cm prog 45 [Eu B1, .agg [.d (An DM.reg),vi DM.gl,vi DM.gh,vi DM.tank,vi DM.rsv,vi DM.lo,vi 219],Cl CZ (.d (AX CZ.gas.cs)), .ls 34603008 0 1 11] (lk [(34603008,lgV exLeg)]) [] _ _:=PM d3 34603008;refine CB func48 c48 fun E hE=>?_
 simp [p48]
 repeat ((first | (refine CLt e1 ?_ ?_;focus (simp;done)) | (refine CLt e2 ?_ ?_;focus (simp;done)) | (refine CLt e3 ?_ ?_;focus (simp;done)) | (refine CLt e4 ?_ ?_;focus (simp;done)) | (refine CLt d1 ?_ ?_;focus (simp;done)));simp [AA,AM])
 refine CRs (PM d2 14680064) (by simp) ?_;simp [AA]
 repeat ((first | (refine CLt e1 ?_ ?_;focus (simp;done)) | (refine CLt e2 ?_ ?_;focus (simp;done)) | (refine CLt e3 ?_ ?_;focus (simp;done)) | (refine CLt e4 ?_ ?_;focus (simp;done)));simp [AA])
 refine AL [(5,34603008),(12,40894464)] (by kernel_rfl) ?_;simp [inC,Nat.testBit];refine CLa e1 ?_;simp [inC,Nat.testBit];refine CLa e3 ?_;simp [inC,Nat.testBit];refine CLa e4 ?_;simp [AA,AM,inC,Nat.testBit];refine CDs d3 (by simp [wrL,inC,Nat.testBit]) ?_;simp [AA,inC,Nat.testBit];refine CLa (sp 0 0) ?_;simp [AA,inC,Nat.testBit,ev0];refine AL [(8,82837504)] (by kernel_rfl) ?_;simp [AA,inC,Nat.testBit]
 repeat ((first | (refine CLt (sp 660 720) ?_ ?_;(focus (simp;done))) | (refine CLt (sp 0 0) ?_ ?_;(focus (simp;done))) | (refine CLt (sp 140 160) ?_ ?_;(focus (simp;done))) | (refine CLt (sp 980 990) ?_ ?_;(focus (simp;done))) | (refine CLt (sp 5 20) ?_ ?_;(focus (simp;done))) | (refine CLt (sp 10 20) ?_ ?_;(focus (simp;done))) | (refine CLt (sp 1320 1440) ?_ ?_;(focus (simp;done))) | (refine CLt (sp 180 220) ?_ ?_;(focus (simp;done))) | (refine CLt (sp 960 980) ?_ ?_;(focus (simp;done))) | (refine CLt (sp 10 30) ?_ ?_;(focus (simp;done))) | (refine CLt (sp 20 40) ?_ ?_;(focus (simp;done))));simp [inC,Nat.testBit,exA,exB])
 apply RZ;simp [results48]
abbrev skB (k:Sky):List V:=[.d (BF k.s), .d (C2 k.w)]
abbrev rgB7 (r:Rig):List V:=[.d (An r.reg),vi r.gl,vi r.gh,vi r.tank,vi r.rsv,vi r.lo,vi r.hi]
theorem jg {r:Rig} {s t:Shp} {n m:Nat} (_:P5 r) (h:JD r s t n) (hn:n<=m):t.wh<=s.wh+(t.bh - s.bh)*r.gh / 100+m+1:=by
 have h1:=h.water
 generalize (t.bh - s.bh)*r.gh=z at*
 omega
theorem iT {k:Sky} {r:Rig} {s:Shp} {l:List Leg} {e:Int × Evt} (h:HA k r s l= .error e):¬ e.1=0:=by
 unfold HA at h;split at h
 . rename_i hz
   exact (NF (fun p hp=>by
     obtain ⟨x,_,h,_⟩:=Ia hp;exact ⟨x,by simpa using h⟩) h).1
 . rename_i hz;cases h;exact hz
theorem cj {k:Sky} {r:Rig} {s:Shp} {l:List Leg} {ns:List Shp} (h:HA k r s l= .ok ns):Va k r/\A6 s=true/\(∀ x∈l,BE x=true)/\(l.length<=20/\Cv l<=600)/\CF r=true/\Dt k r l (BN 0 l) s= .ok ns:=by
 unfold HA at h;split at h
 . rename_i hz
   obtain ⟨h1,h2,h3,h4,h5⟩:=MD hz;obtain ⟨q1,q2,q3⟩:=Tv h4;exact ⟨⟨h1,Hy h2,h5⟩,h3,q2,⟨q1,q3⟩,h2,h⟩
 . cases h
theorem fn8 (hS:SortOk) (k:Sky) (r:Rig) (s:Shp) (l:List Leg):Ct prog 8 [Eu k,Fj r,Cl s (.d (AX s.gas.cs)), .d (Bs l)] (vb true) []:=by
 have d0:=fn48 hS;have d1:=fn29 k r s l;cases hg:grA k r s l
 case true=>
   rw [hg] at d1;refine CB func8 c8 fun E hE=>?_
   simp [p8];refine CLa d0 ?_;simp;refine CLa d1 ?_;simp;apply RZ;simp [results8]
 rw [hg] at d1;obtain ⟨⟨g1,g2⟩,g3,g4,g5,g6⟩:=l0 hg;have d2:=mL hS k r s l (by omega) (by omega) (by omega) (by omega) (by omega) fun x hx=>by have:=g6 x hx;omega
 cases hf:HA k r s l with
 | error e=>
   have he:=iT hf;rw [hf] at d2;simp only [cE,Lp,F6] at d2;refine CB func8 c8 fun E hE=>?_
   simp [p8];refine CLa d0 ?_;simp;refine CLa d1 ?_;simp;refine CLa d2 ?_;simp [AA,he];apply RZ;simp [results8]
 | ok ns=>
   rw [hf] at d2;simp only [cE,Lp,F6] at d2;obtain ⟨hT,hs,hl,⟨l1,l2⟩,hR,hK⟩:=cj hf;have hlen:=TM hK;have hml:=Kv (i:=0) hl;have hok:=ZD hT hl hs hK;have hcons:=Ic hT hl hs (JD.refl r s) hK;have hnl:ns.length<=600:=by omega
   have sB:=GT hs;have sX:=AAb hs;have rg:=hT.rig.g;refine CB func8 c8 fun E hE=>?_
   simp [p8];refine CLa d0 ?_;simp;refine CLa d1 ?_;simp;refine CLa d2 ?_;simp [AA];refine Al (α:=Nat) (fun i=>⟨AO [(4, .lp 0 0),(5, .lp 1 0),(6, .lp 2 0),(9,vb true),(10, .d (cD ns)),(44, .d (cD ns)),(45,vi ns.length),(46,vi i)],lk [(0,skB k),(1,rgB7 r),(2,shB s)],3⟩) (fun i=>i<=ns.length) (fun i=>ns.length - i) 0 ?_ ?_ ?_
   . omega
   . exact WK hE (lk [(0,0),(1,1048576),(2,2097152)])
   . intro i hi
     by_cases h:i < ns.length
     . obtain ⟨n,hn⟩:=gE h
       have hz:=@wz i (by omega);have hI:(i:Int) < ns.length:=by omega
       have hno:=hok n (List.mem_of_getElem? hn);obtain ⟨hc,hw⟩:=hcons i n hn;have hcw:=jg (m:=ns.length) hT.rig hc (by omega);obtain ⟨a1,a2,a3,a4,⟨g1',g2',g3',g4',g5',g6'⟩,a6,a7⟩:=hc;have nB:=GT hno;have nX:=AAb hno;have b1:=sX.p;have b2:=sX.b;have b3:=nX.p;have b4:=nX.b;have b5:=sB.f;have b6:=nB.f;have b7:=sB.w;have b8:=nB.w;have b9:=sB.b;have bA:=nB.b;obtain ⟨S1,hS1⟩:∃ S1,s.bal+s.drp=S1:=⟨_,rfl⟩
       obtain ⟨S2,hS2⟩:∃ S2,s.fl+s.bh=S2:=⟨_,rfl⟩
       obtain ⟨S3,hS3⟩:∃ S3,s.fh+s.bl=S3:=⟨_,rfl⟩
       have e1:IntKind.wrap .i64 (s.bal+s.drp)=S1:=by rw [AD (by omega) (by omega)];exact hS1
       have e1':IntKind.wrap .i64 (n.bal+n.drp)=S1:=by rw [AD (by omega) (by omega)];omega
       have e2:IntKind.wrap .i64 (s.fl+s.bh)=S2:=by rw [AD (by omega) (by omega)];exact hS2
       have e2':IntKind.wrap .i64 (n.fl+n.bh)=S2:=by rw [AD (by omega) (by omega)];omega
       have e3:IntKind.wrap .i64 (s.fh+s.bl)=S3:=by rw [AD (by omega) (by omega)];exact hS3
       have e3':IntKind.wrap .i64 (n.fh+n.bl)=S3:=by rw [AD (by omega) (by omega)];omega
       have d3:=Ef n.gas (by have:=CS (CR hno);omega);rw [CR hno] at d3;have p0:0<=(n.bh - s.bh)*r.gh:=Int.mul_nonneg (by omega) (by omega);have p1:(n.bh - s.bh)*r.gh<=1000000000000*120:=Int.mul_le_mul (by omega) (by omega) (by omega) (by omega);have w1:IntKind.wrap .i64 (n.bh - s.bh)=n.bh - s.bh:=AD (by omega) (by omega);obtain ⟨Z,hZ⟩:∃ Z,(n.bh - s.bh)*r.gh=Z:=⟨_,rfl⟩
       rw [hZ] at p0 p1 hcw;have w2:IntKind.wrap .i64 Z=Z:=AD (by omega) (by omega);have hd:Z.tdiv 100=Z / 100:=Int.tdiv_eq_ediv_of_nonneg p0;obtain ⟨Y,hY⟩:∃ Y,Z / 100=Y:=⟨_,rfl⟩
       rw [hY] at hd hcw;have w2':IntKind.wrap .i64 Y=Y:=AD (by omega) (by omega);have w3:IntKind.wrap .i64 (s.wh+Y)=s.wh+Y:=AD (by omega) (by omega);have w4:IntKind.wrap .i64 (s.wh+Y+ns.length)=s.wh+Y+ns.length:=AD (by omega) (by omega);have w5:IntKind.wrap .i64 (s.wh+Y+ns.length+1)=s.wh+Y+ns.length+1:=AD (by omega) (by omega);have hg1:¬ s.wh+Y+ns.length+1 < n.wh:=by omega
       have hg2:¬ r.tank < n.wh:=by omega
       simp [l9,hI,hn,AA,e1,e1',e2,e2',e3,e3',a4];refine CLa d3 ?_;simp [g1',g2',g3',g4',g5',g6',w1,hZ,w2,hd,w2',w3,w4,w5,hg1,hg2,hz];refine ⟨i+1,by omega,by omega,?_⟩;exact WK hE (lk [(0,0),(1,1),(2,2)])
     . have hn:¬ (i:Int) < ns.length:=by omega
       simp [l9,hn];apply RZ;simp [results8]
end Go.Proofs.Tryz
namespace Go.Psl
open Go.Shelf Go.RowKit Go.Lib Go.Sort
variable {P:Program} {ρ:Ren} {α:Type} [Inhabited α]
theorem dJ {W W':World} (hos:W'.os=W.os) (hta:W'.tape=W.tape) (hou:W'.output=W.output) (hdr:W.drawn<=W'.drawn) (hsz:W.heap.size<=W'.heap.size) (hb:∀ b,b < W.heap.size->W'.heap[b]?= W.heap[b]?):
   ∃ q os',W'=grow (W.drewN q) os':=by
 refine ⟨W'.drawn - W.drawn,W'.heap.extract W.heap.size W'.heap.size,?_⟩;obtain ⟨h,t,d,o,u⟩:=W;obtain ⟨h',t',d',o',u'⟩:=W';simp only at hos hta hou hdr hsz hb;subst hos hta hou;simp only [grow,World.drewN];congr 1
 . apply Array.ext_getElem?
   intro i;by_cases hi:i < h.size
   . rw [Array.getElem?_append_left hi,hb i hi]
   . rw [Array.getElem?_append_right (by omega),Array.getElem?_extract]
     split
     . congr 1;omega
     . rw [Array.getElem?_eq_none (by omega)]
 . omega
theorem Mg {enc:α->List Value} {k:Nat} (h0:0 < k) (hk:∀ x,(enc x).length=k) (l:List α) (j:Nat) (hj:j < l.length*k):(l.flatMap enc)[j]?= some (flatK enc k l.toArray)[j]! :=by
 rw [get_flatK _ _ _ _ (by simpa using hj),List.flatMap_def,CI h0 _ (fun e he=>by obtain ⟨x,_,rfl⟩:=List.mem_map.1 he;exact hk x)];have h1:j / k < l.length:=by rw [Nat.div_lt_iff_lt_mul h0];exact hj
 have hm:j % k < k:=Nat.mod_lt _ h0;rw [List.getElem?_map,List.getElem?_eq_getElem h1];simp only [Option.map_some,Option.bind_some];have e1:l.toArray[j / k]! =l[j / k]:=by rw [getElem!_pos _ _ (by simpa using h1)];simp
 rw [e1,List.getElem?_eq_getElem (by rw [hk];exact hm),getElem!_pos _ _ (by rw [hk];exact hm)]
omit [Inhabited α] in
theorem N2 {enc:α->List Value} {k:Nat} (hk:∀ x,(enc x).length=k) (l:List α):(l.flatMap enc).length=l.length*k:=by
 rw [List.flatMap_def,B3 (sz:=k) _ (fun e he=>by obtain ⟨x,_,rfl⟩:=List.mem_map.1 he;exact hk x),List.length_map]
theorem Wo {G:Gh} {W:World} {vs:List Value} (h:∀ v∈vs,CU v=true):AJ (R1 G W) (vs.map cV) vs:=by
 induction vs with
 | nil=>trivial
 | cons v vs ih=>exact ⟨RD.lit v (h v (by simp)),ih fun x hx=>h x (by simp [hx])⟩
theorem P6 {g:Nat} {enc:α->List Value} {k:Nat} {cf:α->α->Int} (hflat:∀ x,∀ v∈enc x,CU v=true) (hcmp:∀ x y,Ct P g [.agg ((enc x).map cV), .agg ((enc y).map cV)] (.d (.lit (.int .i64 (cf x y)))) []) (blk off size:Nat) (w:World):Go.Proofs.CmpLays P g #[] enc k cf blk off size w:=by
 intro m os dk _ x y;refine ((hcmp x y).2 ⟨fun _=>0,fun _=>0,fun _=>true,fun _=>true,fun _=>False⟩ _ #[.agg (enc x).toArray, .agg (enc y).toArray] (fun _ h=>h.elim) ⟨⟨_,rfl,Wo (hflat x)⟩,⟨_,rfl,Wo (hflat y)⟩,trivial⟩ ⟨nofun,fun i _ h=>by simp [InH] at h,nofun⟩).mono fun e W' ⟨G',hp⟩=>?_
 refine ⟨?_,dJ hp.os hp.tape hp.output hp.drawn hp.size fun b hb=>hp.block b hb fun ⟨_,h,_⟩=>by simp [InH] at h⟩;cases e with
 | returned v=>rw [Cg hp.rv]
 | _=>exact hp.rv.elim
theorem N3 (L:Go.Proofs.SlLaysF0.n6 P ρ) (hf:fF P (ρ.f 6)) (k:Nat) (h0:0 < k) (aE:∀ w,(isAgg (ρ.t 24)).run P w= .ok true w) (zE:∀ w,(Go.sizeOf (ρ.t 24)).run P w= .ok k w) (enc:α->List Value) (hk:∀ x,(enc x).length=k) (hflat:∀ x,∀ v∈enc x,CU v=true) (cf:α->α->Int) (hO:SWO (Go.Proofs.ltOf cf)) (hT:∀ x y,(Go.Proofs.ltOf cf) x y=false->(Go.Proofs.ltOf cf) y x=false->x=y)
   (g:Nat) (eg:∀ args w,(callFunc g args).run P w= .ok (.enter g args) w) (hcmp:∀ x y,Ct P g [.agg ((enc x).map cV), .agg ((enc y).map cV)] (.d (.lit (.int .i64 (cf x y)))) []) (l:List α) (hl0:0 < l.length) (hsz:l.length < 4611686018427387904):
   Cm P (ρ.f 6) [.ls 0 0 l.length k, .d (.fn g [])] (lk [(0,(l.flatMap enc).map cV)]) [0] (.ret (.tup [])) (lk [(0,((l.mergeSort fun x y=>!(Go.Proofs.ltOf cf) y x).flatMap enc).map cV)]):=by
 refine ⟨hf,fun G W xs hGW hargs hpre=>?_⟩
 obtain ⟨v1,v2,rfl⟩:∃ v1 v2,xs= #[v1,v2]:=by
   have:=hargs.length;obtain ⟨xs⟩:=xs
   match xs,this with
   | [a,b],_=>exact ⟨a,b,rfl⟩
   | [],h=>simp at h
   | [_],h=>simp at h
   | _::_::_::_,h=>simp at h
 obtain ⟨h1,h2,_⟩:=hargs;obtain ⟨hIn,hph⟩:=hpre.st 0 (by simp);obtain ⟨hml,⟨_,h,_⟩ | ⟨hphl,o,cap,rfl,hcap,ho⟩⟩:=h1
 . omega
 obtain ⟨rfl,hbs0⟩:=ho (by omega)
 obtain ⟨cv,rfl,hcv⟩:∃ cv,v2= .func (.func g) #[] cv/\cv.size=0:=by
   cases h2 with
   | fn _ _ cv hl _=>exact ⟨cv,rfl,hl⟩
 obtain rfl:cv= #[]:=Array.eq_empty_of_size_eq_zero hcv;have hHB:=hpre.hb 0 _ rfl;obtain ⟨hnim,c,T,hb,hbs,hcl,hcr,hca⟩:=hHB.read hphl;have hblk:G.β 0 < W.heap.size:=(Array.getElem?_eq_some_iff.1 hb).1;have hfl:=N2 hk l;rw [List.length_map,hfl] at hcl hcr
 have hcell:∀ j,j < l.length*k->c[j]?= some (flatK enc k l.toArray)[j]! :=fun j hj=>by
   have h3:=Mg h0 hk l j hj;have h4:((l.flatMap enc).map cV)[j]?= some (cV (flatK enc k l.toArray)[j]!):=by rw [List.getElem?_map,h3];rfl
   obtain ⟨x,hx,hr⟩:=hcr.get h4;rw [List.getElem?_take,if_pos hj,Array.getElem?_toList] at hx;rw [hx,BO hr.r2.rv]
 have hH:HoldsK enc k W (G.β 0) 0 l.toArray:=fun j hj=>by
   have hj':j < l.length*k:=by simpa using hj
   refine ⟨?_,?_⟩
   . unfold World.cell?
     simp only [Nat.zero_add,hb,Option.isSome_none,Bool.false_eq_true,if_false];exact hcell j hj'
   . unfold World.frozen?
     simp [hb]
 have h1c:∀ x,∀ v∈enc x,v.oneCell'=true:=fun x v hv=>RD.oneCell (Im:=fun _=>True) (W:=W) (RD.lit v (hflat x v hv))
 have key:=Go.Proofs.AnyQ.slices_SortFunc_total L k aE zE enc hk h1c cf hO g #[] (G.β 0) 0 cap l.toArray W eg (P6 hflat hcmp _ _ _ _) hH hblk (by simpa using hsz) hT;have hperm:(l.mergeSort fun x y=>!(Go.Proofs.ltOf cf) y x).length=l.length:=List.length_mergeSort _
 generalize (l.mergeSort fun x y=>!(Go.Proofs.ltOf cf) y x)=l' at key hperm ⊢
 have key':Calls P (ρ.f 6) #[.slice (some ⟨G.β 0,0,none⟩) l.length cap, .func (.func g) #[] #[]] W fun e w'=>e= .returned (.tuple #[])/\∃ n os,w'=Go.Proofs.sortWorldK enc k W (G.β 0) 0 n l'.toArray os:=by simpa using key
 refine key'.mono fun e W' ⟨he,n,os,hW'⟩=>?_
 subst he
 have hlent:∀ b,Bm G (lk [(0,(l.flatMap enc).map cV)]) b->b=G.β 0:=fun b ⟨i,hi,_,hbi⟩=>by
   have:i=0:=by simp only [InH,lk] at hi;split at hi;assumption;cases hi
   rw [<-hbi,this]
 have hlent0:Bm G (lk [(0,(l.flatMap enc).map cV)]) (G.β 0):=⟨0,hIn,hph,rfl⟩
 have hheap:∀ b,b < W.heap.size->W'.heap[b]?= if b=G.β 0 then some (.cells (putCells id 0 (flatK enc k l'.toArray) c) T (0,0)) else W.heap[b]?:= fun b hlt=>by
   rw [hW']
   show ((putRow id (Sort.ahead W n) (G.β 0) 0 (flatK enc k l'.toArray)).heap++os)[b]?= _
   rw [Array.getElem?_append_left (by simpa using hlt)]
   show (W.heap.modify (G.β 0) _)[b]?= _
   rw [Array.getElem?_modify];by_cases e:b=G.β 0
   . subst e
     simp [hb,onCells]
   . rw [if_neg (fun h=>e h.symm),if_neg e]
 have hsz':W.heap.size<=W'.heap.size:=by rw [hW'];exact Go.Proofs.size_sortWorldK_c enc k W (G.β 0) 0 n l'.toArray os
 refine ⟨G,⟨by rw [hW'];rfl,by rw [hW'];rfl,by rw [hW'];rfl,by rw [hW'];exact Nat.le_add_right _ _,hsz',fun b hlt hn=>?_,fun b hb=>⟨Nat.lt_of_lt_of_le (hGW b hb) hsz', .inl hb⟩,fun _ h=>h,⟨#[],rfl,trivial⟩,fun _ h=>(by cases h),fun i cs hi=>?_,fun i j hi hj _ _ _=>?_,fun i hi _=>⟨rfl,rfl,(hpre.st i hi).2,rfl⟩⟩⟩
 . rw [hheap b hlt,if_neg (fun e:b=G.β 0=>hn (by rw [e];exact hlent0))]
 . have hi0:i=0/\cs=(l'.flatMap enc).map cV:=by
     simp only [lk] at hi;split at hi
     . rename_i e;cases hi;exact ⟨e,rfl⟩
     . cases hi
   obtain ⟨rfl,rfl⟩:=hi0;have hfl':=N2 hk l';refine ⟨.inr (.inl ⟨hphl.1,hphl.2,hnim,_,T,by rw [hheap _ hblk,if_pos rfl],by simp [putCells,hbs],by simp [putCells,hfl',hperm];exact hcl,?_,?_⟩),fun _=> .inr hlent0,fun x hx=>?_⟩
   . refine AJ.of_get ?_ fun j x y hx hy=>?_
     . simp [putCells,hfl',hperm];omega
     . have hj:j < l'.length*k:=by
         have:=(List.getElem?_eq_some_iff.1 hx).1;simpa [hfl'] using this
       rw [List.getElem?_map,Mg h0 hk l' j hj] at hx;cases hx;rw [List.getElem?_take,List.length_map,hfl',if_pos hj,Array.getElem?_toList] at hy;have hjc:j < c.size:=by rw [hperm] at hj;omega
       simp only [putCells,Array.getElem?_mapIdx,Array.getElem?_eq_getElem hjc,Option.map_some,Nat.zero_le,true_and,Nat.zero_add,size_flatK,List.size_toArray,hj,if_true,Option.some.injEq,Nat.sub_zero,id] at hy;subst hy;have hm:=Mg h0 hk l' j hj;have hmem:=List.mem_of_getElem? hm;obtain ⟨a,_,ha⟩:=List.mem_flatMap.1 hmem;exact RD.lit _ (hflat a _ ha)
   . simp only [List.all_map,List.all_eq_true]
     intro v _;rfl
   . obtain ⟨v,_,rfl⟩:=List.mem_map.1 hx
     trivial
 . have e1:i=0:=by simp only [InH,lk] at hi;split at hi;assumption;cases hi
   have e2:j=0:=by simp only [InH,lk] at hj;split at hj;assumption;cases hj
   rw [e1,e2]
end Go.Psl
namespace Go.Proofs
def Tryz.sortL_ren:Go.Shelf.Ren:=⟨fun | 6=>221 | 15=>270 | 14=>269 | 28=>300 | 29=>301 | 20=>292 | 21=>293 | 22=>294 | 23=>295 | 24=>296 | 25=>297 | 26=>298 | 27=>299 | 46=>312 | 47=>313 | 48=>314 | 49=>315 | 50=>316 | 57=>318 | n=>n,fun | 22=>55 | 24=>122 | 25=>275 | 3=>3 | 39=>222 | 0=>0 | 53=>339 | 55=>341 | 4=>4 | 46=>333 | 45=>332 | 50=>266 | 5=>5 | 9=>9 | 66=>348 | 70=>352 | 76=>356 | 77=>50 | n=>n,fun | n=>n⟩
theorem Tryz.sortL:Go.Proofs.SlLaysF0.n6 Tryz.prog Tryz.sortL_ren:={
 mixed:=by kernel_rfl,
 f6:=⟨Tryz.f221.name,by decide,Tryz.func221.trans (congrArg some (by kernel_rfl))⟩,
 f14:=⟨Tryz.f269.name,by decide,Tryz.func269.trans (congrArg some (by kernel_rfl))⟩,
 f15:=Tryz.func270.trans (congrArg some (by kernel_rfl)),
 f20:=⟨Tryz.f292.name,by decide,Tryz.func292.trans (congrArg some (by kernel_rfl))⟩,
 f21:=⟨Tryz.f293.name,by decide,Tryz.func293.trans (congrArg some (by kernel_rfl))⟩,
 f22:=⟨Tryz.f294.name,by decide,Tryz.func294.trans (congrArg some (by kernel_rfl))⟩,
 f23:=⟨Tryz.f295.name,by decide,Tryz.func295.trans (congrArg some (by kernel_rfl))⟩,
 f24:=⟨Tryz.f296.name,by decide,Tryz.func296.trans (congrArg some (by kernel_rfl))⟩,
 f25:=⟨Tryz.f297.name,by decide,Tryz.func297.trans (congrArg some (by kernel_rfl))⟩,
 f26:=⟨Tryz.f298.name,by decide,Tryz.func298.trans (congrArg some (by kernel_rfl))⟩,
 f27:=⟨Tryz.f299.name,by decide,Tryz.func299.trans (congrArg some (by kernel_rfl))⟩,
 f28:=Tryz.func300.trans (congrArg some (by kernel_rfl)),
 f29:=Tryz.func301.trans (congrArg some (by kernel_rfl)),
 f46:=⟨Tryz.f312.name,by decide,Tryz.func312.trans (congrArg some (by kernel_rfl))⟩,
 f47:=Tryz.func313.trans (congrArg some (by kernel_rfl)),
 f48:=Tryz.func314.trans (congrArg some (by kernel_rfl)),
 f49:=⟨Tryz.f315.name,by decide,Tryz.func315.trans (congrArg some (by kernel_rfl))⟩,
 f50:=⟨Tryz.f316.name,by decide,Tryz.func316.trans (congrArg some (by kernel_rfl))⟩,
 f57:=⟨Tryz.f318.name,by decide,Tryz.func318.trans (congrArg some (by kernel_rfl))⟩,
 t0:=Tryz.underlying0,
 a0:=Tryz.isAgg0,
 z0:=Tryz.sizeOf0,
 v0:=Tryz.zeroValue0,
 t3:=Tryz.underlying3,
 a3:=Tryz.isAgg3,
 z3:=Tryz.sizeOf3,
 v3:=Tryz.zeroValue3,
 t4:=Tryz.underlying4,
 a4:=Tryz.isAgg4,
 z4:=Tryz.sizeOf4,
 v4:=Tryz.zeroValue4,
 t5:=Tryz.underlying5,
 a5:=Tryz.isAgg5,
 z5:=Tryz.sizeOf5,
 v5:=Tryz.zeroValue5,
 t9:=Tryz.underlying9,
 a9:=Tryz.isAgg9,
 z9:=Tryz.sizeOf9,
 v9:=Tryz.zeroValue9,
 t22:=Tryz.underlying55,
 a22:=Tryz.isAgg55,
 z22:=Tryz.sizeOf55,
 v22:=Tryz.zeroValue55,
 t25:=Tryz.underlying275,
 a25:=Tryz.isAgg275,
 z25:=Tryz.sizeOf275,
 v25:=Tryz.zeroValue275,
 t39:=Tryz.underlying222,
 a39:=Tryz.isAgg222,
 z39:=Tryz.sizeOf222,
 v39:=Tryz.zeroValue222,
 t45:=Tryz.underlying332,
 a45:=Tryz.isAgg332,
 z45:=Tryz.sizeOf332,
 v45:=Tryz.zeroValue332,
 t46:=Tryz.underlying333,
 a46:=Tryz.isAgg333,
 z46:=Tryz.sizeOf333,
 v46:=Tryz.zeroValue333,
 t50:=Tryz.underlying266,
 a50:=Tryz.isAgg266,
 z50:=Tryz.sizeOf266,
 v50:=Tryz.zeroValue266,
 t53:=Tryz.underlying339,
 a53:=Tryz.isAgg339,
 z53:=Tryz.sizeOf339,
 v53:=Tryz.zeroValue339,
 t55:=Tryz.underlying341,
 a55:=Tryz.isAgg341,
 z55:=Tryz.sizeOf341,
 v55:=Tryz.zeroValue341,
 t66:=Tryz.underlying348,
 a66:=Tryz.isAgg348,
 z66:=Tryz.sizeOf348,
 v66:=Tryz.zeroValue348,
 t70:=Tryz.underlying352,
 a70:=Tryz.isAgg352,
 z70:=Tryz.sizeOf352,
 v70:=Tryz.zeroValue352,
 t76:=Tryz.underlying356,
 a76:=Tryz.isAgg356,
 z76:=Tryz.sizeOf356,
 v76:=Tryz.zeroValue356,
 t77:=Tryz.underlying50,
 a77:=Tryz.isAgg50,
 z77:=Tryz.sizeOf50,
 v77:=Tryz.zeroValue50}
end Go.Proofs
namespace Go.Proofs.Tryz
open Go.Psl
def Yn (p:Int × Int):List Value:=[.int .i64 p.1, .int .i64 p.2]
theorem L8 (l:List (Int × Int)):(l.flatMap Yn).map cV=BC l:=by
 induction l with
 | nil=>rfl
 | cons a l ih=>
   rw [List.flatMap_cons,List.map_append,ih];rfl
theorem Kq (x y:Int × Int):Go.Proofs.ltOf Dw x y=true↔Go.Geo.lt x y:=by
 unfold Go.Proofs.ltOf;rw [decide_eq_true_eq,PX]
theorem F2 (x y:Int × Int):Go.Proofs.ltOf Dw x y=false↔¬ Go.Geo.lt x y:=by
 rw [<-Kq];simp
theorem VT:Go.Sort.SWO (Go.Proofs.ltOf Dw) where
 irrefl x:=by rw [F2];exact Go.Geo.lt_irr x
 trans x y z h1 h2:=by rw [Kq] at*;exact Go.Geo.lt_trans h1 h2
 ntrans x y z h1 h2:=by rw [F2] at*;unfold Go.Geo.lt at*;omega
theorem kX:SortOk:=fun l h1 h2=>by
 have hcmp:∀ x y:Int × Int,Ct prog 222 [.agg ((Yn x).map cV), .agg ((Yn y).map cV)] (.d (.lit (.int .i64 (Dw x y)))) []:=fun x y=>pR x y
 have h:=N3 Tryz.sortL ⟨_,func221,by kernel_rfl,by decide⟩ 2 (by omega) Tryz.isAgg122 Tryz.sizeOf122 Yn (fun _=>rfl) (fun x v hv=>by simp [Yn] at hv;rcases hv with rfl | rfl<;>rfl) Dw VT
   (fun x y a b=>by
     rw [F2] at a b;rcases Go.Geo.lt_tri x y with h | h | h
     . exact absurd h a
     . exact h
     . exact absurd h b) 222 (Go.Proofs.enters_of func222 (by kernel_rfl) rfl) hcmp l h1 (by omega)
 rw [L8,L8] at h;exact h
end Go.Proofs.Tryz
