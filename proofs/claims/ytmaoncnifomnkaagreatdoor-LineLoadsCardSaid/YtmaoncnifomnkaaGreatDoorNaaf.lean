/- Own lemmas, used by the last text. Conditions: those that each theorem states. -/
import Derived.Deep.Slices
import Derived.Lib.SmallJoins
import Derived.OpenShut
import Derived.ProofKit
import Derived.Test.YtmaoncnifomnkaaGreatDoorNaaa
import Derived.Test.YtmaoncnifomnkaaGreatDoorNaae
set_option maxRecDepth 200000
set_option maxHeartbeats 8000000
namespace Go.Psl
variable {Γ:Tys} {eqs:Eqs} {H:Hp} {t:TypeId} {b:Nat}
theorem UP {cs:List D}:EO Γ H t (.d (.ref cs))=(Γ t).bind fun y=>if y.size<=cs.length then some (mkV y.agg ((cs.take y.size).map .d), .none) else none:=AF rfl
theorem XR {id off:Nat}:EO Γ H t (.lp id off)=(Γ t).bind fun y=>(H id).bind fun cells=>if off+y.size<=cells.length then some (mkV y.agg ((cells.drop off).take y.size), .none) else none:=AF rfl
theorem dW {cs:List V}:mkV true cs= .agg cs:=AF rfl
theorem dX {c:V} {cs:List V}:mkV false (c::cs)=c:=AF rfl
theorem UQ {id off:Nat} {v:V}:ALr Γ H t (.lp id off) v=(Γ t).bind fun y=>(H id).bind fun cells=>if v.cells.length=y.size/\off+y.size<=cells.length/\v.cells.all V.isCell=true then some (.junk, .put id (AA cells off v.cells)) else none:=AF rfl
theorem UR {cs:List V}:V.cells (.agg cs)=cs:=AF rfl
theorem dY {x:D}:V.cells (.d x)=[.d x]:=AF rfl
theorem XT {i o:Nat}:V.cells (.lp i o)=[.lp i o]:=AF rfl
theorem XU {i o l z:Nat}:V.cells (.ls i o l z)=[.ls i o l z]:=AF rfl
theorem XV {f:FuncId} {c:List V}:V.cells (.cl f c)=[.cl f c]:=AF rfl
theorem XW {x:D}:V.isCell (.d x)=true:=AF rfl
theorem US {i o:Nat}:V.isCell (.lp i o)=true:=AF rfl
theorem UT {i o l z:Nat}:V.isCell (.ls i o l z)=true:=AF rfl
theorem UU {f:FuncId} {c:List V}:V.isCell (.cl f c)=true:=AF rfl
theorem XX {f:Nat->V}:ED f []=[]:=AF rfl
theorem UV {f:Nat->V} {i:Nat} {x:Operand} {r:List (Nat × Operand)}:ED f ((i,x)::r)=(i,evF f x)::ED f r:=AF rfl
theorem AIg {f:Nat->V}:BX f []=[]:=AF rfl
theorem UW {f:Nat->V} {x:Operand} {r:List Operand}:BX f (x::r)=evF f x::BX f r:=AF rfl
theorem dZ {f:Nat->V} {t:Nat}:evF f (.tmp t)=f t:=AF rfl
theorem UX {f:Nat->V} {v:Value}:evF f (.const v)=evC v:=AF rfl
theorem XZ {f:Nat->V} {g:FuncId}:evF f (.func g)= .d (.fn g []):=AF rfl
theorem UY {g:FuncId} {cs:List D}:P0 (.d (.fn g cs))=some (g,cs.map .d):=AF rfl
theorem UZ {g:FuncId} {cs:List V}:P0 (.cl g cs)=some (g,cs):=AF rfl
theorem AOv {i:Nat}:V.cells (.yl i)=[.yl i]:=AF rfl
theorem AOE {i:Nat}:V.isCell (.yl i)=true:=AF rfl
theorem QJ {cs:List D} {i:Nat}:Hv Γ t (.d (.ref cs)) i=(Γ t).bind fun y=>match y.sh with
 | .struct fs=>fs[i]?.bind fun p=>(Γ p.2).bind fun yf=>if yf.size=0 then none else some (.d (.ref (cs.drop p.1)), .none)
 | _=>none:=AF rfl
theorem AOF {id off i:Nat}:Hv Γ t (.lp id off) i=(Γ t).bind fun y=>match y.sh with
 | .struct fs=>fs[i]?.bind fun p=>(Γ p.2).bind fun yf=>if yf.size=0 then none else some (.lp id (off+p.1), .none)
 | _=>none:=AF rfl
theorem AZc {sz:Nat} {es:List (List D)}:Iy Γ t (.d (.sl sz es))=(Γ t).bind fun y=>match y.sh with | .slice _=>some (.d (.lit (.int .i64 es.length)), .none) | _=>none:=by
 unfold Iy;congr;funext y;cases y.sh<;>rfl
theorem Sw {i o l z:Nat}:Iy Γ t (.ls i o l z)=(Γ t).bind fun y=>match y.sh with | .slice _=>some (.d (.lit (.int .i64 l)), .none) | _=>none:=by
 unfold Iy;congr;funext y;cases y.sh<;>rfl
theorem OQ {a:Option Addr} {n c:Nat}:Iy Γ t (.d (.lit (.slice a n c)))=(Γ t).bind fun y=>match y.sh with | .slice _=>some (.d (.lit (.int .i64 0)), .none) | _=>none:=by
 unfold Iy;congr;funext y;cases y.sh<;>rfl
theorem vw {o:BinOp} {k k':IntKind} {x y:Int}:FV Γ eqs o t (.d (.lit (.int k x))) (.d (.lit (.int k' y)))=(CJ o k k' x y).map fun v=>(.d (.lit v), .none):=AF rfl
theorem AOG {o:BinOp} {x y:Bool}:FV Γ eqs o t (.d (.lit (.bool x))) (.d (.lit (.bool y)))=(Γ t).bind fun z=>match z.sh,o with
   | .bool, .eql=>some (.d (.lit (.bool (x == y))), .none)
   | .bool, .neq=>some (.d (.lit (.bool (x != y))), .none)
   | _,_=>none:=AF rfl
theorem vx {o:BinOp} {x y:List V}:FV Γ eqs o t (.agg x) (.agg y)=(eqs t).bind fun ks=>match o with
   | .eql=>(Bi ks x y).map fun r=>(.d (.lit (.bool r)), .none)
   | .neq=>(Bi ks x y).map fun r=>(.d (.lit (.bool (!r))), .none)
   | _=>none:=AF rfl
section
variable {k:IntKind} {x y:Int}
theorem vy:CJ .add k k x y=some (.int k (k.wrap (x+y))):=by simp [CJ]
theorem vz:CJ .sub k k x y=some (.int k (k.wrap (x-y))):=by simp [CJ]
theorem Xj:CJ .mul k k x y=some (.int k (k.wrap (x*y))):=by simp [CJ]
theorem ABH:CJ .quo k k x y=if y=0 then none else some (.int k (k.wrap (x.tdiv y))):=by simp [CJ]
theorem u7:CJ .rem k k x y=if y=0 then none else some (.int k (x.tmod y)):=by simp [CJ]
theorem Sx {x y:Int}:(x == y)=decide (x=y):=by by_cases h:x=y<;>simp [h]
theorem db {x y:Int}:(x != y)=!decide (x=y):=by by_cases h:x=y<;>simp [h]
theorem ADd:CJ .eql k k x y=some (.bool (decide (x=y))):=by simp [CJ,Sx]
theorem Xn:CJ .neq k k x y=some (.bool (!decide (x=y))):=by simp [CJ,db]
theorem ADe:CJ .lss k k x y=some (.bool (decide (x<y))):=by simp [CJ]
theorem ABW:CJ .leq k k x y=some (.bool (decide (x<=y))):=by simp [CJ]
theorem ADf:CJ .gtr k k x y=some (.bool (decide (y<x))):=by simp [CJ]
theorem ADg:CJ .geq k k x y=some (.bool (decide (y<=x))):=by simp [CJ]
end
section
variable {k k':IntKind} {x y:Int}
theorem AE8:CJ .shl k k' x y=if 0<=y/\y<=k.bits then some (.int k (k.wrap (x*2^y.toNat))) else none:=AF rfl
theorem AOw:CJ .shr k k' x y=if 0<=y/\y<=k.bits then some (.int k (x/2^y.toNat)) else none:=AF rfl
theorem AFy:CJ .and k k x y=some (.int k (bits .and k x y)):=by simp [CJ]
theorem dc:CJ .or k k x y=some (.int k (bits .or k x y)):=by simp [CJ]
theorem AFz:CJ .xor k k x y=some (.int k (bits .xor k x y)):=by simp [CJ]
theorem AGu:IntKind.bits .u64=64:=AF rfl
theorem AHw:IntKind.bits .i64=64:=AF rfl
end
theorem de {x:Bool}:unF .not (.d (.lit (.bool x)))=some (.d (.lit (.bool (!x))), .none):=AF rfl
theorem dh {k:IntKind} {x:Int}:unF .neg (.d (.lit (.int k x)))=some (.d (.lit (.int k (k.wrap (-x)))), .none):=AF rfl
theorem QK {c:Bool} {x y:Bool}:Jo (.d (.lit (.bool c))) (.d (.lit (.bool x))) (.d (.lit (.bool y)))=some (.d (.lit (.bool (if c then x else y))), .none):=AF rfl
theorem QL {x y:V}:Jo (.d (.lit (.bool true))) x y=some (x, .none):=by
 have:GI true x y=x:=by unfold GI;split<;>rfl
 show some (GI true x y,Eff.none)=_
 rw [this]
theorem OS {x y:V}:Jo (.d (.lit (.bool false))) x y=some (y, .none):=by
 have:GI false x y=y:=by unfold GI;split<;>rfl
 show some (GI false x y,Eff.none)=_
 rw [this]
theorem dj {x:Bool}:gV (.d (.lit (.bool x)))=some (some x):=AF rfl
theorem AIh:gV (.tup [])=some none:=AF rfl
theorem AOH {vs:List V} {i:Nat}:Mc (.tup vs) i=vs[i]?.map fun v=>(v, .none):=AF rfl
theorem dm {v:V}:iW b v=if v.cells.all V.isCell then some (.lp b 0, .new b v.cells) else none:=AF rfl
theorem AOI:Nx Γ b t=(Γ t).bind fun y=>if t == AMD then (if AQ2 y.zero=true then some (.yl b, .new b [.d (.lit (.slice none 0 0)), .d (.lit (.int .i64 0))]) else none) else some (.lp b 0, .new b (y.zero.map cV)):=AF rfl
theorem ABx {v:Value}:cV v= .d (.lit v):=AF rfl
theorem AKe {x y:Bool}:((some x:Option Bool) == some y)=(x == y):=AF rfl
theorem AF0 {y:Bool}:((none:Option Bool) == some y)=false:=AF rfl
theorem X1 {k t:Nat}:Dn k [] t= .tup []:=AF rfl
theorem AOJ {k t:Nat} {a:V} {r:List V}:Dn k (a::r) t=if t=k then a else Dn (k+1) r t:=AF rfl
theorem AOK {t:Nat}:AO [] t= .junk:=AF rfl
theorem QM {k t:Nat} {a:V} {r:List (Nat × V)}:AO ((k,a)::r) t=if t=k then a else AO r t:=by
 simp only [AO,lk];split<;>rfl
theorem jo {α:Type} {t:Nat}:lk ([]:List (Nat × α)) t=none:=AF rfl
theorem dp {α:Type} {k t:Nat} {a:α} {r:List (Nat × α)}:lk ((k,a)::r) t=if t=k then some a else lk r t:=AF rfl
section
variable {ρ:Nat->Option Nat}
theorem X2 {α β:Type} {R:α->β->Prop}:AJ R [] []=True:=AF rfl
theorem AOL {α β:Type} {R:α->β->Prop} {a:α} {b:β} {az:List α} {bs:List β}:AJ R (a::az) (b::bs)=(R a b/\AJ R az bs):=AF rfl
theorem W0_d {v:V} {x:D}:W0 ρ v (.d x)=(v= .d x):=AF rfl
theorem W1_d {v:V} {x:D}:W1 ρ v (.d x)=(v= .d x):=AF rfl
theorem W2_d {v:V} {x:D}:W2 ρ v (.d x)=(v= .d x):=AF rfl
theorem WV_d {v:V} {x:D}:WV ρ v (.d x)=(v= .d x):=AF rfl
theorem dt {v:V}:W0 ρ v .junk=True:=AF rfl
theorem du {v:V}:W1 ρ v .junk=True:=AF rfl
theorem dw {v:V}:W2 ρ v .junk=True:=AF rfl
theorem AU6 {v:V}:WV ρ v .junk=True:=AF rfl
theorem OT {i j o o':Nat}:W0 ρ (.lp j o) (.lp i o')=(ρ i=some j/\o=o'):=by
 simp only [W0,V.lp.injEq,eq_iff_iff];constructor
 . rintro ⟨j',h1,rfl,rfl⟩;exact ⟨h1,rfl⟩
 . rintro ⟨h1,rfl⟩;exact ⟨j,h1,rfl,rfl⟩
theorem AFM {i j o o':Nat}:W1 ρ (.lp j o) (.lp i o')=(ρ i=some j/\o=o'):=OT
theorem nz {i j o o':Nat}:W2 ρ (.lp j o) (.lp i o')=(ρ i=some j/\o=o'):=OT
theorem AIH {i j o o':Nat}:WV ρ (.lp j o) (.lp i o')=(ρ i=some j/\o=o'):=OT
theorem OU {i j o o' l l' z z':Nat}:W0 ρ (.ls j o l z) (.ls i o' l' z')=(ρ i=some j/\o=o'/\l=l'/\z=z'):=by
 simp only [W0,eq_iff_iff];cases ρ i with
 | none=>simp
 | some k=>simp [eq_comm]
theorem n8 {i j o o' l l' z z':Nat}:W1 ρ (.ls j o l z) (.ls i o' l' z')=(ρ i=some j/\o=o'/\l=l'/\z=z'):=OU
theorem n9 {i j o o' l l' z z':Nat}:W2 ρ (.ls j o l z) (.ls i o' l' z')=(ρ i=some j/\o=o'/\l=l'/\z=z'):=OU
theorem oA {i j o o' l l' z z':Nat}:WV ρ (.ls j o l z) (.ls i o' l' z')=(ρ i=some j/\o=o'/\l=l'/\z=z'):=OU
theorem ACX {i o l z:Nat}:W0 ρ (.d (.lit (.slice none 0 0))) (.ls i o l z)=(ρ i=none/\l=0):=by
 simp only [W0,eq_iff_iff];cases ρ i with
 | none=>simp
 | some k=>simp
theorem xD {i o l z:Nat}:W1 ρ (.d (.lit (.slice none 0 0))) (.ls i o l z)=(ρ i=none/\l=0):=ACX
theorem xE {i o l z:Nat}:W2 ρ (.d (.lit (.slice none 0 0))) (.ls i o l z)=(ρ i=none/\l=0):=ACX
theorem AH6 {i o l z:Nat}:WV ρ (.d (.lit (.slice none 0 0))) (.ls i o l z)=(ρ i=none/\l=0):=ACX
theorem jp {az bs:List V}:W2 ρ (.agg az) (.agg bs)=AJ (W1 ρ) az bs:=by simp [W2]
theorem jq {az bs:List V}:WV ρ (.agg az) (.agg bs)=AJ (W1 ρ) az bs:=by simp [WV,W2]
theorem jr {az bs:List V}:WV ρ (.tup az) (.tup bs)=AJ (W2 ρ) az bs:=by simp [WV]
theorem OV {f:Nat->V}:CL ρ f []=True:=AF rfl
theorem Mq {f:Nat->V} {t:Nat} {v:V} {r:List (Nat × V)}:CL ρ f ((t,v)::r)=(WV ρ (f t) v/\CL ρ f r):=AF rfl
theorem X3:Ej ρ H []=True:=AF rfl
theorem AOM {i:Nat} {cs:List V} {r:List (Nat × List V)}:Ej ρ H ((i,cs)::r)=((match ρ i with | some j=>(∃ cs',H j=some cs'/\AJ (WC ρ) cs' cs)/\Bv cs | none=>cs=[])/\Ej ρ H r):=AF rfl
theorem OW:Bv []=True:=by simp [Bv]
theorem Mr {c:V} {cs:List V} (h:V.isCell c=true):Bv (c::cs)=(cs.all V.isCell=true):=by
 simp only [Bv,List.all_cons,h,Bool.true_and,eq_iff_iff,or_iff_left_iff_imp]
 rintro (⟨fr,nt,ps,pa,pb,jmp,e⟩ | ⟨es,e⟩)
 . cases e;cases h
 . cases e;cases h
theorem AKQ {es:List (Value × Bool × List D)} {cs:List V}:AJ (WC ρ) cs (Qo es)=(cs=Qo es):=by
 have hm:∀ t,AV (fun i=>ρ i=some i) AR (mq es t):=fun t=>by
   unfold mq;split
   . intro c hc
     obtain ⟨x,_,rfl⟩:=List.mem_map.1 hc;trivial
   . trivial
 refine propext ⟨fun h=>?_,fun h=>?_⟩
 . match cs,h with
   | [a,b],h=>
     obtain ⟨h1,h2,_⟩:=h;have e1:a=ACA es:=h1.1;have e2:b= .d (.lit (.bool true)):=h2;rw [e1,e2];rfl
   | [],h=>exact h.elim
   | [_],h=>exact h.2.elim
   | _::_::_::_,h=>exact h.2.2.elim
 . subst h
   exact ⟨⟨rfl,hm⟩,rfl,trivial⟩
theorem AJV {es:List (Value × Bool × List D)}:Bv (Qo es)=True:=eq_true (.inr (.inr ⟨es,rfl⟩))
theorem AKf {p:Nat->Prop} {es:List (Value × Bool × List D)}:(∀ c,c∈Qo es->AC p AR c)=True:=eq_true fun c hc=>by
 simp only [Qo,List.mem_cons,List.not_mem_nil,or_false] at hc;rcases hc with rfl | rfl
 . intro t
   unfold mq;split
   . intro c hc
     obtain ⟨x,_,rfl⟩:=List.mem_map.1 hc;trivial
   . trivial
 . trivial
theorem WC_d {v:V} {x:D}:WC ρ v (.d x)=(v= .d x):=AF rfl
theorem oB {i j o o':Nat}:WC ρ (.lp j o) (.lp i o')=(ρ i=some j/\o=o'):=OT
theorem oC {i j o o' l l' z z':Nat}:WC ρ (.ls j o l z) (.ls i o' l' z')=(ρ i=some j/\o=o'/\l=l'/\z=z'):=OU
theorem eB {i o l z:Nat}:WC ρ (.d (.lit (.slice none 0 0))) (.ls i o l z)=(ρ i=none/\l=0):=ACX
theorem Sy {f g:FuncId} {cs ds:List V}:W1 ρ (.cl f cs) (.cl g ds)=(f=g/\AJ (W0 ρ) cs ds):=by
 simp only [W1,V.cl.injEq,eq_iff_iff];constructor
 . rintro ⟨c,⟨rfl,rfl⟩,h⟩;exact ⟨rfl,h⟩
 . rintro ⟨rfl,h⟩;exact ⟨cs,⟨rfl,rfl⟩,h⟩
theorem oD {f g:FuncId} {cs ds:List V}:WC ρ (.cl f cs) (.cl g ds)=(f=g/\AJ (W0 ρ) cs ds):=Sy
theorem oE {f g:FuncId} {cs ds:List V}:W2 ρ (.cl f cs) (.cl g ds)=(f=g/\AJ (W0 ρ) cs ds):=Sy
theorem oG {f g:FuncId} {cs ds:List V}:WV ρ (.cl f cs) (.cl g ds)=(f=g/\AJ (W0 ρ) cs ds):=Sy
theorem Sz {i j:Nat}:W0 ρ (.yl j) (.yl i)=(ρ i=some j):=by
 simp only [W0,V.yl.injEq,eq_iff_iff];constructor
 . rintro ⟨k,h1,rfl⟩;exact h1
 . intro h;exact ⟨j,h,rfl⟩
theorem oH {i j:Nat}:W1 ρ (.yl j) (.yl i)=(ρ i=some j):=Sz
theorem oI {i j:Nat}:W2 ρ (.yl j) (.yl i)=(ρ i=some j):=Sz
theorem oJ {i j:Nat}:WV ρ (.yl j) (.yl i)=(ρ i=some j):=Sz
theorem oK {v:V} {fr:Nat->V} {nt:Nat} {ps:List Nat} {pa pb:PC} {jmp:LSt}:WC ρ v (.lr fr nt ps pa pb jmp)=(v= .lr fr nt ps pa pb jmp/\∀ t,AV (fun i=>ρ i=some i) AR (fr t)):=AF rfl
theorem AON {h:Hp}:DZ ρ H h []=True:=AF rfl
theorem QN {h:Hp} {i:Nat} {r:List Nat}:DZ ρ H h (i::r)=(((h i).isSome=true->ρ i=some i/\(H i).isSome=true)/\DZ ρ H h r):=AF rfl
theorem AOO {h:Hp} {n:Nat}:HD ρ H h n []=True:=AF rfl
theorem QO {h:Hp} {i n:Nat} {r:List Nat}:HD ρ H h n (i::r)=(i<n/\((h i).isSome=true->ρ i=some i/\(H i).isSome=true)/\HD ρ H h n r):=AF rfl
theorem QP:G3 ρ []=True:=AF rfl
theorem OX {i:Nat} {cs:List V} {r:List (Nat × List V)}:G3 ρ ((i,cs)::r)=((∀ q∈r,ρ q.1=none\/ρ q.1≠ρ i\/q.1=i)/\G3 ρ r):=AF rfl
end
section
variable {p:Nat->Prop}
theorem AV_d {x:D}:AV p AR (.d x)=True:=AF rfl
theorem A2_d {x:D}:A2 p AR (.d x)=True:=AF rfl
theorem A1_d {x:D}:A1 p AR (.d x)=True:=AF rfl
theorem A0_d {x:D}:A0 p AR (.d x)=True:=AF rfl
theorem oL {i o:Nat}:AV p AR (.lp i o)=p i:=AF rfl
theorem oM {i o:Nat}:A2 p AR (.lp i o)=p i:=AF rfl
theorem oN {i o:Nat}:A1 p AR (.lp i o)=p i:=AF rfl
theorem oO {i o:Nat}:A0 p AR (.lp i o)=p i:=AF rfl
theorem oP {i o l z:Nat}:AV p AR (.ls i o l z)=p i:=AF rfl
theorem oQ {i o l z:Nat}:A2 p AR (.ls i o l z)=p i:=AF rfl
theorem oS {i o l z:Nat}:A1 p AR (.ls i o l z)=p i:=AF rfl
theorem ASG {i o l z:Nat}:A0 p AR (.ls i o l z)=p i:=AF rfl
theorem js {cs:List V}:AV p AR (.agg cs)=∀ c∈cs,A1 p AR c:=AF rfl
theorem jt {cs:List V}:A2 p AR (.agg cs)=∀ c∈cs,A1 p AR c:=AF rfl
theorem ju {cs:List V}:AV p AR (.tup cs)=∀ c∈cs,A2 p AR c:=AF rfl
theorem oU {f:FuncId} {cs:List V}:AV p AR (.cl f cs)=∀ c∈cs,A0 p AR c:=AF rfl
theorem oV {f:FuncId} {cs:List V}:A2 p AR (.cl f cs)=∀ c∈cs,A0 p AR c:=AF rfl
theorem oW {f:FuncId} {cs:List V}:A1 p AR (.cl f cs)=∀ c∈cs,A0 p AR c:=AF rfl
theorem Ms {n:Nat}:Bw n []=True:=AF rfl
theorem Lf {n t:Nat} {v:V} {r:List (Nat × V)}:Bw n ((t,v)::r)=(AV (· < n) AR v/\Bw n r):=AF rfl
theorem AOP {n:Nat}:A7 n []=True:=AF rfl
theorem QQ {n i:Nat} {cs:List V} {r:List (Nat × List V)}:A7 n ((i,cs)::r)=(i<n/\(∀ c∈cs,AC (· < n) AR c)/\A7 n r):=AF rfl
theorem AC_d {x:D}:AC p AR (.d x)=True:=AF rfl
theorem oX {i o:Nat}:AC p AR (.lp i o)=p i:=AF rfl
theorem oY {i o l z:Nat}:AC p AR (.ls i o l z)=p i:=AF rfl
theorem oZ {i:Nat}:AC p AR (.yl i)=p i:=AF rfl
theorem oc {f:FuncId} {cs:List V}:AC p AR (.cl f cs)=∀ c∈cs,A0 p AR c:=AF rfl
theorem od {fr:Nat->V} {nt:Nat} {ps:List Nat} {pa pb:PC} {jmp:LSt}:AC p AR (.lr fr nt ps pa pb jmp)=∀ t,AV p AR (fr t):=AF rfl
theorem oe {i:Nat}:A0 p AR (.yl i)=p i:=AF rfl
theorem og {i:Nat}:A1 p AR (.yl i)=p i:=AF rfl
theorem oh {i:Nat}:A2 p AR (.yl i)=p i:=AF rfl
theorem oi {i:Nat}:AV p AR (.yl i)=p i:=AF rfl
theorem X4 {x:D}:I8 (.d x)=True:=AF rfl
theorem QR {cs:List V}:I8 (.agg cs)=∀ c∈cs,A1 (fun _=>False) AR c:=AF rfl
theorem jv {H1:List (Nat × List V)} {i:Nat}:InB H1 i=((lk H1 i).isSome=true):=AF rfl
end
theorem X5 {f:Nat->V}:AGe Γ H f []=some []:=AF rfl
theorem X6 {f:Nat->V} {t:Nat} {r:List ResultVar}:AGe Γ H f (.tmp t::r)=(AGe Γ H f r).map (f t::·):=AF rfl
theorem ATI {f:Nat->V} {a T:Nat} {r:List ResultVar}:AGe Γ H f (.cell a T::r)=(EO Γ H T (f a)).bind fun p=>(AGe Γ H f r).map (p.1::·):=AF rfl
theorem X7 {v:V}:P8 [v]=v:=AF rfl
theorem X8 {v w:V} {r:List V}:P8 (v::w::r)= .tup (v::w::r):=AF rfl
theorem eC {x:D}:V.isTup (.d x)=false:=AF rfl
theorem X9 {i o:Nat}:V.isTup (.lp i o)=false:=AF rfl
theorem YA {i o l z:Nat}:V.isTup (.ls i o l z)=false:=AF rfl
theorem Un {cs:List V}:V.isTup (.agg cs)=false:=AF rfl
theorem YB {f:FuncId} {cs:List V}:V.isTup (.cl f cs)=false:=AF rfl
theorem AD {x:Int} (h1: -9223372036854775808<=x) (h2:x<=9223372036854775807):IntKind.wrap .i64 x=x:=by
 have:∀ m:Int,m=x%18446744073709551616->(if m>=9223372036854775808 then m-18446744073709551616 else m)=x:=fun m hm=>by split<;>omega
 simpa [IntKind.wrap,IntKind.bits,IntKind.signed] using this _ rfl
theorem Ay {x:Int} (h1:0<=x) (h2:x<=18446744073709551615):IntKind.wrap .u64 x=x:=by
 have:x%18446744073709551616=x:=by omega
 simpa [IntKind.wrap,IntKind.bits,IntKind.signed] using this
theorem oj {ρ:Nat->Nat} {x:D}:ren ρ (.d x)= .d x:=AF rfl
theorem jw {ρ:Nat->Nat} {i o:Nat}:ren ρ (.lp i o)= .lp (ρ i) o:=AF rfl
theorem jx {ρ:Nat->Nat} {i o l z:Nat}:ren ρ (.ls i o l z)= .ls (ρ i) o l z:=AF rfl
theorem eD {ρ:Nat->Nat} {cs:List V}:ren ρ (.agg cs)= .agg (cs.map (DS ρ)):=AF rfl
theorem eE {ρ:Nat->Nat} {cs:List V}:ren ρ (.tup cs)= .tup (cs.map (HR ρ)):=AF rfl
theorem jy {ρ:Nat->Nat} {x:D}:HR ρ (.d x)= .d x:=AF rfl
theorem eG {ρ:Nat->Nat} {i o l z:Nat}:HR ρ (.ls i o l z)= .ls (ρ i) o l z:=AF rfl
theorem eI {ρ:Nat->Nat} {i o:Nat}:HR ρ (.lp i o)= .lp (ρ i) o:=AF rfl
theorem YC {ρ:Nat->Nat} {cs:List V}:HR ρ (.agg cs)= .agg (cs.map (DS ρ)):=AF rfl
theorem jz {ρ:Nat->Nat} {x:D}:DS ρ (.d x)= .d x:=AF rfl
theorem eJ {ρ:Nat->Nat} {i o l z:Nat}:DS ρ (.ls i o l z)= .ls (ρ i) o l z:=AF rfl
theorem eK {ρ:Nat->Nat} {i o:Nat}:DS ρ (.lp i o)= .lp (ρ i) o:=AF rfl
theorem YD {base:Nat}:I1 H base []=H:=AF rfl
theorem Uo {base i:Nat} {cs:List V} {r:List (Nat × List V)}:I1 H base ((i,cs)::r)=upd (I1 H base r) (base+i) (some (cs.map (BJ (base+·)))):=AF rfl
theorem Up {n:Nat}:BW n []=True:=AF rfl
theorem QS {n i:Nat} {cs:List V} {r:List (Nat × List V)}:BW n ((i,cs)::r)=(i<n/\BW n r):=AF rfl
theorem ol {x y:D}:Bor H (.d x) (.d y)=(x=y\/(x= .lit (.slice none 0 0)/\∃ sz,y= .sl sz [])):=AF rfl
theorem AQe {x y:D}:Fi H (.d x) (.d y)=(x=y\/(x= .lit (.slice none 0 0)/\∃ sz,y= .sl sz [])):=AF rfl
theorem eM {az bs:List V}:Bor H (.agg az) (.agg bs)=AJ (Fi H) az bs:=AF rfl
theorem Bk {i o l z z':Nat} {es:List (List D)}:Bor H (.ls i o l z) (.d (.sl z' es))=(z'=z/\es.length=l/\(∀ e∈es,e.length=z)/\∃ cs,H i=some cs/\(cs.drop o).take (l*z)=es.flatten.map .d):=AF rfl
theorem CP {i o l z z':Nat} {es:List (List D)}:Fi H (.ls i o l z) (.d (.sl z' es))=(z'=z/\es.length=l/\(∀ e∈es,e.length=z)/\∃ cs,H i=some cs/\(cs.drop o).take (l*z)=es.flatten.map .d):=AF rfl
theorem DG {i o:Nat} {ds:List D}:Bor H (.lp i o) (.d (.ref ds))=∃ cs,H i=some cs/\(cs.drop o).take ds.length=ds.map .d:=AF rfl
theorem YE {f g:FuncId} {caps:List V} {ds:List D}:Bor H (.cl f caps) (.d (.fn g ds))=(f=g/\AJ (Df H) caps (ds.map .d)):=AF rfl
theorem ADt {i o:Nat} {ds:List D}:Df H (.lp i o) (.d (.ref ds))=∃ cs,H i=some cs/\(cs.drop o).take ds.length=ds.map .d:=AF rfl
theorem Aaf {x y:D}:Df H (.d x) (.d y)=(x=y\/(x= .lit (.slice none 0 0)/\∃ sz,y= .sl sz [])):=AF rfl
theorem YF {i o i' o':Nat}:Bor H (.lp i o) (.lp i' o')=(i=i'/\o=o'):=AF rfl
theorem YG {i o l z i' o' l' z':Nat}:Bor H (.ls i o l z) (.ls i' o' l' z')=(i=i'/\o=o'/\l=l'/\z=z'):=AF rfl
theorem Aag {i i':Nat}:Bor H (.yl i) (.yl i')=(i=i'):=AF rfl
theorem Aah {f g:FuncId} {cs ds:List V}:Bor H (.cl f cs) (.cl g ds)=(f=g/\cs=ds):=AF rfl
theorem Aai {i:Nat}:noH i=none:=AF rfl
theorem Aaj {ρ:Nat->Nat} {x:D}:BJ ρ (.d x)= .d x:=AF rfl
theorem eO {ρ:Nat->Nat} {i o l z:Nat}:BJ ρ (.ls i o l z)= .ls (ρ i) o l z:=AF rfl
theorem eP {ρ:Nat->Nat} {i o:Nat}:BJ ρ (.lp i o)= .lp (ρ i) o:=AF rfl
theorem eQ {ρ:Nat->Nat} {f:FuncId} {cs:List V}:BJ ρ (.cl f cs)= .cl f (cs.map (DR ρ)):=AF rfl
theorem kA {ρ:Nat->Nat} {x:D}:DR ρ (.d x)= .d x:=AF rfl
theorem eR {ρ:Nat->Nat} {i o l z:Nat}:DR ρ (.ls i o l z)= .ls (ρ i) o l z:=AF rfl
theorem eU {ρ:Nat->Nat} {i o:Nat}:DR ρ (.lp i o)= .lp (ρ i) o:=AF rfl
theorem kB {ρ:Nat->Nat} {f:FuncId} {cs:List V}:ren ρ (.cl f cs)= .cl f (cs.map (DR ρ)):=AF rfl
theorem om {ks:List Nat} {b j:Nat}:sg ks b j=if j∈ks then j else b+j:=AF rfl
theorem Uq:Fr H []=True:=AF rfl
theorem QT {p:Nat × List V} {r:List (Nat × List V)}:Fr H (p::r)=(H p.1=some p.2/\Fr H r):=AF rfl
theorem YH:E0 H []=H:=AF rfl
theorem Ur {p:Nat × List V} {r:List (Nat × List V)}:E0 H (p::r)=upd (E0 H r) p.1 none:=AF rfl
theorem YI {ks:List Nat} {b:Nat}:I2 H ks b []=H:=AF rfl
theorem Us {ks:List Nat} {b:Nat} {p:Nat × List V} {r:List (Nat × List V)}:I2 H ks b (p::r)=upd (I2 H ks b r) (sg ks b p.1) (some (p.2.map (BJ (sg ks b)))):=AF rfl
theorem YJ {b:Nat} {L L1:List (Nat × List V)}:Jq b L L1 []=True:=AF rfl
theorem Ut {b i:Nat} {L L1:List (Nat × List V)} {r:List Nat}:Jq b L L1 (i::r)=(i<b/\(lk L1 i).isSome=true/\(∃ cs,lk L i=some cs/\cs≠[])/\Jq b L L1 r):=AF rfl
theorem QU {r:V} {ρ:Nat->Nat} {Ho:Hp} {Kc Kx:V->Hp->Prop}:ES (.ret r) ρ Ho Kc Kx=Kc (ren ρ r) Ho:=AF rfl
theorem QV {r:V} {ρ:Nat->Nat} {Ho:Hp} {Kc Kx:V->Hp->Prop}:ES (.pan r) ρ Ho Kc Kx=Kx (ren ρ r) Ho:=AF rfl
theorem YK {b:Nat}:(∀ i,InH (lk ([]:List (Nat × List V))) i->i<b)=True:=by simp [InH,lk]
theorem Uu {b:Nat} {p:Nat × List V} {r:List (Nat × List V)}:(∀ i,InH (lk (p::r)) i->i<b)=(p.1<b/\∀ i,InH (lk r) i->i<b):=by
 simp only [InH,lk,eq_iff_iff];constructor
 . intro h
   refine ⟨h p.1 (by simp),fun i hi=>h i ?_⟩;split
   . rfl
   . exact hi
 . rintro ⟨h1,h2⟩ i hi
   split at hi
   . rename_i e;rw [e];exact h1
   . exact h2 i hi
theorem Uv {ps:List (Nat × V)}:JU Γ t ps=(Γ t).bind fun y=>match y.sh with
 | .struct fs=>if fs.all (fun p=>(Γ p.2).isSome) then (Ri (fieldsOf Γ fs) (y.zero.map cV) ps).map fun cs=>(.agg cs, .none) else none
 | .array _ e=>(Γ e).bind fun ye=>(Ri (fun i=>some (i*ye.size,ye.size)) (y.zero.map cV) ps).map fun cs=>(.agg cs, .none)
 | _=>none:=AF rfl
theorem KX {n:Nat} {ps:List (Nat × V)}:Rz Γ b t n ps=(Γ t).bind fun y=>match y.sh with
 | .slice e=>(Γ e).bind fun ye=>if n*ye.size<=16777216/\0<ye.size then (Ri (fun i=>some (i*ye.size,ye.size)) (AM n (ye.zero.map cV)) ps).map fun cs=>(.ls b 0 n ye.size, .new b cs) else none
 | _=>none:=AF rfl
theorem Uw {fs:Nat->Option (Nat × Nat)} {cells:List V}:Ri fs cells []=some cells:=AF rfl
theorem QW {fs:Nat->Option (Nat × Nat)} {cells:List V} {i:Nat} {v:V} {r:List (Nat × V)}:Ri fs cells ((i,v)::r)=match fs i with
   | none=>none
   | some (off,size)=>if v.cells.length=size/\off+size<=cells.length/\v.cells.all V.isCell=true then Ri fs (AA cells off v.cells) r else none:=AF rfl
theorem OY {fs:List (Nat × TypeId)} {i:Nat}:fieldsOf Γ fs i=fs[i]?.bind fun p=>(Γ p.2).map fun y=>(p.1,y.size):=AF rfl
theorem Ux {sz:Nat} {es:List (List D)} {k:IntKind} {n:Int}:DC Γ t (.d (.sl sz es)) (.d (.lit (.int k n)))=(Γ t).bind fun y=>match y.sh with
 | .slice e=>(Γ e).bind fun ye=>if 0<=n/\ye.size=sz then es[n.toNat]?.map fun c=>(.d (.ref c), .none) else none
 | _=>none:=by
 unfold DC;congr;funext y;cases y.sh<;>first | rfl | (simp;done) | (rename_i n e;cases Γ e<;>rfl)
theorem Uy {i o l z:Nat} {k:IntKind} {n:Int}:DC Γ t (.ls i o l z) (.d (.lit (.int k n)))=(Γ t).bind fun y=>match y.sh with
 | .slice e=>(Γ e).bind fun ye=>if 0<=n/\n<l/\ye.size=z then some (.lp i (o+n.toNat*z), .none) else none
 | _=>none:=by
 unfold DC;congr;funext y;cases y.sh<;>first | rfl | (simp;done) | (rename_i n e;cases Γ e<;>rfl)
theorem Uz {sz:Nat} {es:List (List D)} {lo hi:Option V}:CA Γ H t (.d (.sl sz es)) lo hi=(Γ t).bind fun y=>match y.sh with
 | .slice e=>(Γ e).bind fun ye=>if ye.size=sz then (FT es.length lo hi).map fun p=>(.d (.sl sz ((es.take p.2).drop p.1)), .none) else none
 | _=>none:=by
 unfold CA;congr;funext y;cases y.sh<;>first | rfl | (simp;done) | (rename_i n e;cases Γ e<;>rfl)
theorem U0 {i o l z:Nat} {lo hi:Option V}:CA Γ H t (.ls i o l z) lo hi=(Γ t).bind fun y=>match y.sh with
 | .slice e=>(Γ e).bind fun ye=>if ye.size=z then (FT l lo hi).map fun p=>(.ls i (o+p.1*z) (p.2-p.1) z, .none) else none
 | _=>none:=by
 unfold CA;congr;funext y;cases y.sh<;>first | rfl | (simp;done) | (rename_i n e;cases Γ e<;>rfl)
theorem QX {s:ByteArray} {k:IntKind} {n:Int}:FS Γ t (.d (.lit (.string s))) (.d (.lit (.int k n)))=(Γ t).bind fun y=>match y.sh with
 | .str=>if 0<=n then s[n.toNat]?.map fun b=>(.d (.lit (.int .u8 b.toNat)), .none) else none
 | _=>none:=by
 unfold FS;congr;funext y;cases y.sh<;>first | rfl | (simp;done)
theorem QY {cs:List V} {k:IntKind} {n:Int}:FS Γ t (.agg cs) (.d (.lit (.int k n)))=(Γ t).bind fun y=>match y.sh with
 | .array m e=>(Γ e).bind fun ye=>if 0<=n/\n<m/\n.toNat*ye.size+ye.size<=cs.length then some (mkV ye.agg ((cs.drop (n.toNat*ye.size)).take ye.size), .none) else none
 | _=>none:=by
 unfold FS;congr;funext y;cases y.sh<;>first | rfl | (simp;done)
theorem vD {i o:Nat} {k:IntKind} {n:Int}:DC Γ t (.lp i o) (.d (.lit (.int k n)))=(Γ t).bind fun y=>match y.sh with
 | .array m e=>(Γ e).bind fun ye=>if 0<=n/\n<m then some (.lp i (o+n.toNat*ye.size), .none) else none
 | _=>none:=by
 unfold DC;congr;funext y;cases y.sh<;>first | rfl | (simp;done) | (rename_i e;cases Γ e<;>rfl)
theorem QZ {cs:List D} {k:IntKind} {n:Int}:DC Γ t (.d (.ref cs)) (.d (.lit (.int k n)))=(Γ t).bind fun y=>match y.sh with
 | .array m e=>(Γ e).bind fun ye=>if 0<=n/\n<m then some (.d (.ref (cs.drop (n.toNat*ye.size))), .none) else none
 | _=>none:=by
 unfold DC;congr;funext y;cases y.sh<;>first | rfl | (simp;done) | (rename_i e;cases Γ e<;>rfl)
theorem vE {i o:Nat} {lo hi:Option V}:CA Γ H t (.lp i o) lo hi=(Γ t).bind fun y=>match y.sh with
 | .array m e=>(Γ e).bind fun ye=>(H i).bind fun cs=>if o+m*ye.size<=cs.length/\m<=maxL then (FT m lo hi).map fun p=>(.ls i (o+p.1*ye.size) (p.2-p.1) ye.size, .none) else none
 | _=>none:=by
 unfold CA;congr;funext y;cases y.sh<;>first | rfl | (simp;done) | (rename_i e;cases Γ e<;>rfl)
theorem AHe {a:Option Addr} {n c:Nat} {lo hi:Option V}:CA Γ H t (.d (.lit (.slice a n c))) lo hi=(Γ t).bind fun y=>match y.sh with
 | .slice e=>(Γ e).bind fun _=>(FT 0 lo hi).map fun _=>(.d (.lit (.slice none 0 0)), .none)
 | _=>none:=by
 unfold CA;congr;funext y;cases y.sh<;>first | rfl | (simp;done) | (rename_i n e;cases Γ e<;>rfl)
theorem tw {s:ByteArray} {lo hi:Option V}:CA Γ H t (.d (.lit (.string s))) lo hi=(Γ t).bind fun y=>match y.sh with
 | .str=>(FT s.size lo hi).map fun p=>(.d (.lit (.string (s.extract p.1 p.2))), .none)
 | _=>none:=by
 unfold CA;congr;funext y;cases y.sh<;>first | rfl | (simp;done) | (rename_i e;cases Γ e<;>rfl) | (rename_i n e;cases Γ e<;>rfl)
theorem YL {s:ByteArray}:Iy Γ t (.d (.lit (.string s)))=(Γ t).bind fun y=>match y.sh with | .str=>some (.d (.lit (.int .i64 s.size)), .none) | _=>none:=by
 unfold Iy;congr;funext y;cases y.sh<;>rfl
theorem YM {o:BinOp} {a b:ByteArray}:FV Γ eqs o t (.d (.lit (.string a))) (.d (.lit (.string b)))=match o with
   | .eql=>some (.d (.lit (.bool (a == b))), .none)
   | .neq=>some (.d (.lit (.bool (a != b))), .none)
   | .add=>if a.size+b.size<=maxL then some (.d (.lit (.string (a++b))), .none) else none
   | _=>none:=AF rfl
theorem OZ {o:BinOp} {i of l z:Nat}:FV Γ eqs o t (.ls i of l z) (.d (.lit (.slice none 0 0)))=(Γ t).bind fun y=>match y.sh,o with
   | .slice _, .eql=>if 0<l then some (.d (.lit (.bool false)), .none) else none
   | .slice _, .neq=>if 0<l then some (.d (.lit (.bool true)), .none) else none
   | _,_=>none:=by
 unfold FV;simp only [show Ex (.d (.lit (.slice none 0 0)))=true from rfl,if_true];congr;funext y;split<;>simp_all [P3,Nv,cV]<;>(by_cases h:0<l<;>simp [h])
theorem AWm {o:BinOp} {z:Nat} {e:List D} {es:List (List D)}:FV Γ eqs o t (.d (.sl z (e::es))) (.d (.lit (.slice none 0 0)))=(Γ t).bind fun y=>match y.sh,o with
   | .slice _, .eql=>some (.d (.lit (.bool false)), .none)
   | .slice _, .neq=>some (.d (.lit (.bool true)), .none)
   | _,_=>none:=by
 unfold FV;simp only [show Ex (.d (.lit (.slice none 0 0)))=true from rfl,if_true]
 first | rfl | (congr;funext y;split<;>simp_all [P3,Nv,cV])
theorem ADI {o:BinOp} {z:Nat}:FV Γ eqs o t (.d (.sl z [])) (.d (.lit (.slice none 0 0)))=(Γ t).bind fun y=>match y.sh,o with
   | .slice _, .eql=>some (.d .ub, .none)
   | .slice _, .neq=>some (.d .ub, .none)
   | _,_=>none:=by
 unfold FV;simp only [show Ex (.d (.lit (.slice none 0 0)))=true from rfl,if_true]
 first | rfl | (congr;funext y;split<;>simp_all [P3,Nv,cV])
theorem Mt {o:BinOp}:FV Γ eqs o t (.d (.lit (.slice none 0 0))) (.d (.lit (.slice none 0 0)))=(Γ t).bind fun y=>match y.sh,o with
   | .slice _, .eql=>some (.d (.lit (.bool true)), .none)
   | .slice _, .neq=>some (.d (.lit (.bool false)), .none)
   | _,_=>none:=by
 unfold FV;simp only [show Ex (.d (.lit (.slice none 0 0)))=true from rfl,if_true]
 first | rfl | (congr;funext y;split<;>simp_all [P3,Nv,cV])
theorem vF {i o l z:Nat}:d8 Γ H t (.ls i o l z)=(Γ t).bind fun y=>match y.sh with
 | .slice e=>(Γ e).bind fun ye=>if l=0 then some (.tup [], .none) else if z=ye.size/\0<z then (H i).bind fun cs=>if o+l*z<=cs.length then some (.tup [], .put i (AA cs o (AM l (ye.zero.map cV)))) else none else none
 | _=>none:=by
 unfold d8;congr
theorem AZd:maxL=9223372036854775807:=AF rfl
theorem eW:Fh=140737488355328:=AF rfl
theorem Qj {k:IntKind} {a b:Int}:FU .int (.d (.lit (.int k a))) (.d (.lit (.int k b)))=some (decide (a=b)):=by simp [FU,Sx]
theorem AWn {a b:Bool}:FU .bool (.d (.lit (.bool a))) (.d (.lit (.bool b)))=some (a == b):=AF rfl
theorem z7 {a b:ByteArray}:FU .str (.d (.lit (.string a))) (.d (.lit (.string b)))=some (a == b):=AF rfl
theorem AWo:Bi [] [] []=some true:=AF rfl
theorem Mu {k:CK} {ks:List CK} {a b:V} {az bs:List V}:Bi (k::ks) (a::az) (b::bs)=(FU k a b).bind fun r=>(Bi ks az bs).map fun s=>r&&s:=AF rfl
theorem AGf {cs:List V} {i:Nat}:JV Γ t (.agg cs) i=(Γ t).bind fun y=>match y.sh with
 | .struct fs=>fs[i]?.bind fun p=>(Γ p.2).bind fun yf=>if p.1+yf.size<=cs.length then some (mkV yf.agg ((cs.drop p.1).take yf.size), .none) else none
 | _=>none:=AF rfl
theorem VA {s:TypeId} {k:IntKind} {n:Int}:Lb Γ H b s t (.d (.lit (.int k n)))=(Γ s).bind fun ys=>(Γ t).bind fun y=>match y.sh with
 | .int k'=>some (.d (.lit (.int k' (k'.wrap n))), .none)
 | .str=>ANs Γ H ys.sh (.d (.lit (.int k n)))
 | _=>none:=by
 unfold Lb;first | rfl | (congr;done) | (congr;funext _;congr;done) | (congr;funext _;congr;funext y;cases y.sh<;>rfl)
theorem AOQ {s:TypeId} {x:ByteArray}:Lb Γ H b s t (.d (.lit (.string x)))=(Γ s).bind fun ys=>(Γ t).bind fun y=>match y.sh with
 | .str=>ANs Γ H ys.sh (.d (.lit (.string x)))
 | .slice e=>APb Γ b ys.sh e (.d (.lit (.string x)))
 | _=>none:=by
 unfold Lb;first | rfl | (congr;done) | (congr;funext _;congr;done) | (congr;funext _;congr;funext y;cases y.sh<;>rfl)
theorem AOx {e:TypeId} {x:ByteArray}:APb Γ b .str e (.d (.lit (.string x)))=(Γ e).bind fun ye=>if ANr ye.sh=true/\x.size<=maxL then some (.ls b 0 x.size 1, .new b (x.data.toList.map u8V)) else none:=AF rfl
theorem AOy {s:TypeId} {i o l z:Nat}:Lb Γ H b s t (.ls i o l z)=(Γ s).bind fun ys=>(Γ t).bind fun y=>match y.sh with
 | .str=>ANs Γ H ys.sh (.ls i o l z)
 | _=>none:=by
 unfold Lb;first | rfl | (congr;done) | (congr;funext _;congr;done) | (congr;funext _;congr;funext y;cases y.sh<;>rfl)
theorem APq {e:TypeId} {i o l z:Nat}:ANs Γ H (.slice e) (.ls i o l z)=(Γ e).bind fun ye=>if ANr ye.sh=true then (cellsOf H 1 (.ls i o l z)).bind fun p=>(ALm p.2).map fun l=>(.d (.lit (.string ⟨l.toArray⟩)), .none) else none:=AF rfl
theorem APr:ANr (.int .u8)=true:=AF rfl
theorem ANH:ALm []=some []:=AF rfl
theorem AM1 {n:Int} {r:List V}:ALm (.d (.lit (.int .u8 n))::r)=if 0<=n/\n<256 then (ALm r).map (UInt8.ofNat n.toNat::·) else none:=by
 simp only [ALm,AN7];split<;>rfl
theorem YN {k:IntKind} {x:Int} {r:List V}:AYJ (.d (.lit (.int k x))::r)=(Lq k x r).map fun m=>(.d (.lit (.int k m)), .none):=AF rfl
theorem YO {k:IntKind} {x:Int} {r:List V}:AYK (.d (.lit (.int k x))::r)=(Ku k x r).map fun m=>(.d (.lit (.int k m)), .none):=AF rfl
theorem YP {k:IntKind} {m:Int}:Lq k m []=some m:=AF rfl
theorem YQ {k:IntKind} {m:Int}:Ku k m []=some m:=AF rfl
theorem VB {k:IntKind} {m x:Int} {r:List V}:Lq k m (.d (.lit (.int k x))::r)=Lq k (max m x) r:=by simp [Lq]
theorem VC {k:IntKind} {m x:Int} {r:List V}:Ku k m (.d (.lit (.int k x))::r)=Ku k (min m x) r:=by simp [Ku]
theorem YR {t:TypeId} {cs:List V}:Sf Γ t (.agg cs)=(Γ t).bind fun y=>match y.sh with | .ifc _=>none | .other=>none | _=>(Ff cs).map fun ds=>(.d (.ifc t true ds), .none):=AF rfl
theorem kC {t:TypeId} {x:D}:Sf Γ t (.d x)=(Γ t).bind fun y=>match y.sh with | .ifc _=>none | .other=>none | _=>some (.d (.ifc t false [x]), .none):=AF rfl
theorem VD:Ff []=some []:=AF rfl
theorem eX {x:D} {r:List V}:Ff (.d x::r)=(Ff r).map (x::·):=AF rfl
theorem VE {cs:List D}:We cs true=some (.agg (cs.map .d)):=AF rfl
theorem AHf {c:D}:We [c] false=some (.d c):=AF rfl
theorem YS {t t':TypeId} {ag:Bool} {cs:List D}:Wf Γ t (.d (.ifc t' ag cs))=(Γ t).bind fun y=>match y.sh with | .ifc _=>none | .other=>none | _=>if t'=t then (We cs ag).map fun v=>(v, .none) else none:=AF rfl
theorem Mv {op:BinOp} {t t':TypeId} {ag:Bool} {cs:List D}:FV Γ eqs op t (.d (.ifc t' ag cs)) (.d (.lit .nilIface))=(Γ t).bind fun y=>match y.sh,op with | .ifc _, .eql=>some (.d (.lit (.bool false)), .none) | .ifc _, .neq=>some (.d (.lit (.bool true)), .none) | _,_=>none:=AF rfl
theorem VF {op:BinOp} {t:TypeId}:FV Γ eqs op t (.d (.lit .nilIface)) (.d (.lit .nilIface))=(Γ t).bind fun y=>match y.sh,op with | .ifc true, .eql=>some (.d (.lit (.bool true)), .none) | .ifc true, .neq=>some (.d (.lit (.bool false)), .none) | _,_=>none:=AF rfl
theorem eY {id off:Nat}:Se (.lp id off)=some (.lp id off, .none):=AF rfl
theorem YT {cs:List D}:Se (.d (.ref cs))=some (.d (.ref cs), .none):=AF rfl
theorem AGg {g:FuncId} {n:Nat} {caps:List V}:G8 g n caps=if n=0/\caps.all V.cap=true then some (.cl g caps, .none) else none:=AF rfl
theorem oo {x:D}:V.cap (.d x)=true:=AF rfl
theorem kD {i o:Nat}:V.cap (.lp i o)=true:=AF rfl
theorem kE {i o l z:Nat}:V.cap (.ls i o l z)=true:=AF rfl
theorem eZ {n:Nat} {lo hi:Option V}:FT n lo hi=(Sc n hi).bind fun h=>(Sd h lo).bind fun l=>some (l,h):=AF rfl
theorem VG {n:Nat}:Sc n none=some n:=AF rfl
theorem YU {n:Nat} {k:IntKind} {h:Int}:Sc n (some (.d (.lit (.int k h))))=if 0<=h/\h<=n then some h.toNat else none:=AF rfl
theorem VH {n:Nat}:Sd n none=some 0:=AF rfl
theorem YV {n:Nat} {k:IntKind} {h:Int}:Sd n (some (.d (.lit (.int k h))))=if 0<=h/\h<=n then some h.toNat else none:=AF rfl
section
variable {p:Nat->Prop} {v:Value}
theorem kF:AV p B9 (.d (.lit v))=True:=by simp [AV,A2,A1,A0,B9]
theorem kG:A2 p B9 (.d (.lit v))=True:=by simp [A2,A1,A0,B9]
theorem kH:A1 p B9 (.d (.lit v))=True:=by simp [A1,A0,B9]
theorem kI {i o l z:Nat}:AV p B9 (.ls i o l z)=p i:=AF rfl
theorem kJ {i o l z:Nat}:A2 p B9 (.ls i o l z)=p i:=AF rfl
theorem kK {i o l z:Nat}:A1 p B9 (.ls i o l z)=p i:=AF rfl
theorem xF {cs:List V}:AV p B9 (.agg cs)=∀ c∈cs,A1 p B9 c:=AF rfl
theorem ep {cs:List V}:A2 p B9 (.agg cs)=∀ c∈cs,A1 p B9 c:=AF rfl
theorem AK5 {cs:List V}:AV p B9 (.tup cs)=∀ c∈cs,A2 p B9 c:=AF rfl
theorem eu:AC p B9 (.d (.lit v))=True:=by simp [AC,A1,A0,B9]
theorem AQf {i o l z:Nat}:AC p B9 (.ls i o l z)=p i:=AF rfl
theorem kM {i o:Nat}:AC p B9 (.lp i o)=p i:=AF rfl
def Em (p:Nat->Prop):List (Nat × List V)->Prop
 | []=>True
 | x::r=>(∀ c∈x.2,AC p B9 c)/\Em p r
theorem VI:Em p []=True:=AF rfl
theorem AIR {x:Nat × List V} {r:List (Nat × List V)}:Em p (x::r)=((∀ c∈x.2,AC p B9 c)/\Em p r):=AF rfl
theorem AWp:∀ {L:List (Nat × List V)},Em p L->∀ i cs,lk L i=some cs->∀ c∈cs,AC p B9 c
 | [],_,i,cs,h=>by simp [lk] at h
 | x::r,hf,i,cs,h=>by
   simp only [lk] at h;split at h
   . cases h;exact hf.1
   . exact AWp hf.2 i cs h
theorem E6 {r:Res} {L:List (Nat × List V)} (h1:AV (InH (lk L)) B9 r.v) (h2:Em (InH (lk L)) L):GS r (lk L):=⟨h1,AWp h2⟩
theorem kN {h:Hp} {i:Nat}:InH h i=((h i).isSome=true):=AF rfl
theorem YW {r:V}:Res.v (.ret r)=r:=AF rfl
theorem YX {r:V}:Res.v (.pan r)=r:=AF rfl
end
section
variable {P:Program}
theorem AU.mk {m:CM} {Hr H:Hp} {b:Nat} {g:FuncId} {az:List V} {Kc Kx:V->Hp->Prop} (args:List V) (r:V) (H1:List (Nat × List V)) (hf:Ct P g args r H1) (hb:AJ (Bor Hr) az args) (hi:BW 1048576 H1) (hc:AJ (Bor noH) az args\/(AV (InH (lk H1)) B9 r/\Em (InH (lk H1)) H1)) (hk:Kc (ren (b+·) r) (I1 H b H1)):AU P m Hr H b g az Kc Kx:=
 AU.mk0 args r H1 hf hb hi (hc.imp id fun h=>E6 h.1 h.2) hk
theorem AU.mkM {H:Hp} {b:Nat} {g:FuncId} {az:List V} {Kc Kx:V->Hp->Prop} (args:List V) (L:List (Nat × List V)) (ks:List Nat) (res:Res) (L1:List (Nat × List V)) (hf:Cm P g args (lk L) ks res (lk L1)) (hin:Fr H L) (hi:BW 1048576 L1) (hks:Jq b L L1 ks) (hL:∀ i,InH (lk L) i->i<b)
   (hb:AJ (Bor noH) az args\/(AJ (Bor (E0 H L)) az args/\AV (InH (lk L1)) B9 res.v/\Em (InH (lk L1)) L1)) (hk:ES res (sg ks b) (I2 (E0 H L) ks b L1) Kc Kx):AU P none H H b g az Kc Kx:=
 AU.mkM0 args L ks res L1 hf hin hi hks hL (hb.imp id fun h=>⟨h.1,E6 h.2.1 h.2.2⟩) hk
end
def oq (ρ:Nat->Option Nat) (ks:List Nat) (r:V) (H:Hp) (H1:List (Nat × List V)):Option (List V)->Prop
 | some vs=>vs.all (fun v=>!v.isTup)=true/\WV ρ (P8 vs) r/\Ej ρ H H1/\G3 ρ H1/\DZ ρ H (lk H1) ks
 | none=>False
theorem VJ {ρ:Nat->Option Nat} {ks:List Nat} {r:V} {H1:List (Nat × List V)} {vs:List V}:oq ρ ks r H H1 (some vs)=(vs.all (fun v=>!v.isTup)=true/\WV ρ (P8 vs) r/\Ej ρ H H1/\G3 ρ H1/\DZ ρ H (lk H1) ks):=AF rfl
theorem AB.by (ρ:Nat->Option Nat) {fn:Func} {ks:List Nat} {r:V} {H1:List (Nat × List V)} {st:St} (h:oq ρ ks r st.H H1 (AGe Γ st.H st.fr fn.results.toList)):Dc Γ fn ks r H1 st:=by
 cases hr:AGe Γ st.H st.fr fn.results.toList with
 | none=>rw [hr] at h;exact h.elim
 | some vs=>rw [hr] at h;exact ⟨vs,ρ,hr,h⟩
attribute [simp] pt lF Zo fx Zp fy Vn APz Zq lG Zr Lm ACO Zt lI Ab8 gB RG NQ Zv NR Zw Zx AQp ANi PD lJ PB Zu Vo lK lL Vp Zy lM lN Zz Z0 lH Zs AKG AJW AKR AKS AKk AUT AUv AUU AUw AUH AT6 AUV AUI AUW AUJ AT7 AUK AT8 AKl AKm AKn AKo AK6 AK7 AKT AK8 AJX AKU AKQ AJV AKf gC
 Z1 gD ACS gF Z2 AOe Z3 Z4 pv jH pw RH RI
 lV gP gQ pz lO Z5 gG Z6 gK Vr gL Z9 lP aA Ln gM lQ py gN RJ NS aC NT aD aF PF I6 PE aB lR lS gO Z7 gH gI gJ Vq Z8 aG Vs lT
 lW lX gR lY aH gS lZ gT gU gW aI qA PH aL Vt PI aM Vu aQ PJ aP aN aO JI aJ gX gY
 UP XR dW dX UQ UR dY XT XU XV XW US UT UU XX UV AIg UW dZ UX XZ UY UZ AY QJ AOF AZc Sw OQ
 vw AOG vx vy vz Xj ABH u7 ADd Xn ADe ABW ADf ADg AE8 AOw AFy dc AFz AGu AHw de dh QK QL OS dj AIh AOH dm AOI ABx AKe AF0
 kF kG kH kI kJ kK xF ep AK5 eu AQf kM VI AIR kN YW YX
 VJ
 Qj AWn z7 AWo Mu QX QY vD QZ vE AHe tw YL OZ AWm ADI Mt vF YM AZd eW Ux Uy Uz U0 AGf VA AOy AOQ AOx APq APr ANH AM1 YN YO YP YQ VB VC eY YT YR kC VD eX VE AHf YS Mv VF AGg oo kD kE eZ VG YU VH YV
 X1 AOJ AOK QM jo dp X2 AOL W0_d W1_d W2_d WV_d dt du dw AU6 OT AFM nz AIH OU n8 n9 oA ACX xD xE AH6 jp jq jr OV Mq X3 AOM QP OX
 AV_d A2_d A1_d A0_d oL oM oN oO oP oQ oS ASG js jt ju oU oV oW Ms Lf AOP QQ X4 QR jv
 X5 X6 ATI X7 X8 eC X9 YA Un YB WC_d oB oC eB Sy oD oE oG Sz oH oI oJ oK AON QN AOO QO AC_d oX oY oZ oc od oe og oh oi OW Mr AOv AOE oj jw jx eD eE jy eG eI YC jz eJ eK YD Uo Up QS ol AQe eM DG YF YG Aag Aah YE ADt Aaf Aai Aaj eO eP eQ kA eR eU kB om Uq QT YH Ur YI Us YJ Ut QU QV YK Uu
 Uv KX Uw QW OY
 iV cz Sb dA dB dC dD dE
section
variable {P:Program} {m:CM} {Hr H:Hp} {b:Nat} {g:FuncId} {az:List V} {Kc Kx:V->Hp->Prop} {args:List V} {r:V} {H1:List (Nat × List V)}
theorem CLa (hf:Ct P g args r H1) (hk:Kc (ren (b+·) r) (I1 H b H1)) (hb:AJ (Bor Hr) az args:=by first | (simp;done) | simp [Bk,CP]) (hi:BW 1048576 H1:=by simp) (hc:AJ (Bor noH) az args\/(AV (InH (lk H1)) B9 r/\Em (InH (lk H1)) H1):=by first | (left;simp;done) | (right;simp;done)):AU P m Hr H b g az Kc Kx:=
 AU.mk args r H1 hf hb hi hc hk
theorem CLb (hf:Ct P g args r H1) (hb:AJ (Bor Hr) az args) (hk:Kc (ren (b+·) r) (I1 H b H1)) (hi:BW 1048576 H1:=by simp) (hc:AJ (Bor noH) az args\/(AV (InH (lk H1)) B9 r/\Em (InH (lk H1)) H1):=by first | (left;simp;done) | (right;simp;done)):AU P m Hr H b g az Kc Kx:=
 AU.mk args r H1 hf hb hi hc hk
theorem CLr (hf:Ct P g args r H1) (hb:AJ (Bor Hr) az args/\BW 1048576 H1) (hc:AJ (Bor noH) az args\/(AV (InH (lk H1)) B9 r/\Em (InH (lk H1)) H1)) (hk:Kc (ren (b+·) r) (I1 H b H1)):AU P m Hr H b g az Kc Kx:=
 AU.mk args r H1 hf hb.1 hb.2 hc hk
end
section
variable {P:Program} {m:CM} {Hr H:Hp} {b:Nat} {g:FuncId} {az:List V} {Kc Kx:V→Hp→Prop} {args:List V} {r:V} {H1:List (Nat × List V)} {E:Ent}
theorem CLt (hf:Ct P g args r H1) (hb:(AJ (Bor Hr) az args∧BW 1048576 H1)∧(AJ (Bor noH) az args∨(AV (InH (lk H1)) B9 r∧Em (InH (lk H1)) H1))) (hk:Kc (ren (b+·) r) (I1 H b H1)):AU P m Hr H b g az Kc Kx:=
 AU.mk args r H1 hf hb.1.1 hb.1.2 hb.2 hk
theorem RZ {Γ:Tys} {fn:Func} {ks:List Nat} {st:St} (h:oq (fun _=>none) ks r st.H H1 (AGe Γ st.H st.fr fn.results.toList)):Dc Γ fn ks r H1 st:=AB.by _ h
theorem WK {st:St} (hs:∀ i,¬ E.stab i) (ρ:Nat→Option Nat) {l:List (Nat × V)} {h:List (Nat × List V)} {n:Nat} (h1:CL ρ st.fr l:=by simp) (h2:Ej ρ st.H h:=by simp) (h3:G3 ρ h:=by simp) (h4:Bw n l:=by simp) (h5:A7 n h:=by simp):AI P E st ⟨AO l,lk h,n⟩:=AI.mk hs ρ l h n h1 h2 h3 h4 h5
theorem WKM {st:St} {ks:List Nat} (hs:∀ i,E.stab i↔i∈ks) (ρ:Nat→Option Nat) {l:List (Nat × V)} {h:List (Nat × List V)} {n:Nat} (h1:CL ρ st.fr l:=by simp) (h2:Ej ρ st.H h:=by simp) (h3:G3 ρ h:=by simp) (h4:Bw n l:=by simp) (h5:A7 n h:=by simp) (h6:HD ρ st.H (lk h) n ks:=by simp):AI P E st ⟨AO l,lk h,n⟩:=AI.mkM hs ρ l h n h1 h2 h3 h4 h5 h6
theorem wz {i:Nat} (h:i<9223372036854775807):IntKind.wrap .i64 ((i:Int)+1)=((i+1:Nat):Int):=by
 rw [AD (by omega) (by omega)];omega
theorem gE {α:Type} {l:List α} {i:Nat} (h:i<l.length):∃ x,l[i]?= some x:=⟨_,List.getElem?_eq_getElem h⟩
end
end Go.Psl
namespace Go.Psl
open Go.ChangeShapes Go.WideShapes Go.ChangeAt Go.RowKit
variable {P:Program} {H:Type} {enc:TypeId × Value->H}
def J7 (P:Program) (ts:List TypeId):Bool:=ts.all fun t=>P.readableRec t&&decide (t<P.types.size)
theorem Ik (hl:laidOutB P=true) {W W':World} (hb:Below W.heap.size W W') {sp:Nat->Bool}:∀ {ts:List TypeId} {vs:List Value} {ds:List (DataW H)} {ps:List MemPlace},J7 P ts=true->
   DataW.TrodAll enc P W 0 (fun _=>true) true ts vs ds ps->(∀ p∈ps,p.block<W.heap.size)->(∀ p∈ps,sp p.block=true)->DataW.TrodAll enc P W' 0 sp true ts vs ds ps
 | [],[],[],ps,_,h,_,_=>h
 | t::ts,v::vs,d::ds,ps,hr,h,h1,h2=>by
   obtain ⟨p,q,h3,h4,rfl⟩:=h;simp only [J7,List.all_cons,Bool.and_eq_true,decide_eq_true_eq] at hr
   exact ⟨p,q,WideElems.Trod_stays hl hr.1.1 hr.1.2 h3 (fun x hx=>hb.same (h1 x (by simp [hx]))) (fun x hx=>h2 x (by simp [hx])),
     Ik hl hb (by simpa [J7] using hr.2) h4 (fun x hx=>h1 x (by simp [hx])) (fun x hx=>h2 x (by simp [hx])),rfl⟩
 | [],_::_,_,_,_,h,_,_=>h.elim
 | [],[],_::_,_,_,h,_,_=>h.elim
 | _::_,[],_,_,_,h,_,_=>h.elim
 | _::_,_::_,[],_,_,h,_,_=>h.elim
def Te (P:Program) (f:FuncId) (args:Array Value) (W:World):Prop:=Calls P f args W fun e W'=>e= .returned (.bool true)/\Below W.heap.size W W'
theorem Te.of_ct {f:FuncId} {az:List V} {xs:Array Value} {W:World} {G:Gh} (h:Ct P f az (.d (.lit (.bool true))) []) (hG:GW G.Im W) (ha:AJ (R2 G W) az xs.toList):Te P f xs W:=by
 refine Calls.mono (h.2 G W xs hG ha ⟨fun _ _ h=>by simp at h,fun _ _ h=>by simp [InH] at h,fun _ h=>by simp at h⟩) fun e W' ⟨G',hp⟩=>?_
 have hv:=hp.rv;have hb:Below W.heap.size W W':=⟨hp.os,hp.tape,hp.output,hp.size,fun b hb=>hp.block b hb fun ⟨_,h,_⟩=>by simp [InH] at h⟩
 cases e with
 | returned v=>
   have hv:v= .bool true:=BO hv;subst hv;exact ⟨rfl,hb⟩
 | _=>exact hv.elim
theorem ak (hl:laidOutB P=true) {f:Func} {s:ChangeSpec} {apart fresh handsOn again:Bool} {W W':World} {args:Array Value} {ds:List (DataW H)} {before:List MemPlace} {tb:TypeId}
   (hvars:s.vars=[]) (hW:DataW.Whole enc P f.params.toList s.vars apart W args.toList ds [] before) (hr:J7 P f.params.toList=true) (hres:f.resultTypes= #[tb]) (htb:P.underlying tb=some .bool)
   (hfn:s.fn H (ds++[])={results:=[.lit (.bool true)],args:=ds}) (hb:Below W.heap.size W W'):s.post enc P f apart fresh handsOn again W args (.bool true) W':=by
 have hlt:=hW.lt;have hW':=hW;obtain ⟨p,q,hA,hV,rfl,hz,hn⟩:=hW'
 have hq:q=[]:=by
   rw [hvars] at hV;exact (trodVars_none hV).2
 subst hq;rw [List.append_nil] at hlt hz hn hW
 have hargs:∀ sp:Nat->Bool,(∀ x∈p,sp x.block=true)->DataW.TrodAll enc P W' 0 sp true f.params.toList args.toList (s.fn H (ds++[])).args p:=fun sp hsp=>by
   rw [hfn];exact Ik hl hb hr hA hlt hsp
 have hress:∀ (b:Nat) (sp:Nat->Bool) (hd:Bool),DataW.TrodAll enc P W' b sp hd f.resultTypes.toList ((Value.bool true).resultList f.resultTypes.size) (s.fn H (ds++[])).results []:=fun _ _ _=>by
   rw [hfn,hres];exact trodAll_mk1 (shut_bool htb true)
 have hvs:∀ sp:Nat->Bool,DataW.TrodVars enc P W' sp s.vars (s.fn H (ds++[])).vars []:=fun _=>by
   rw [hfn,hvars];rfl
 have hold:∀ x∈p,(fun b=>decide (b<W.heap.size)) x.block=true:=fun x hx=>by simpa using hlt x hx
 refine ⟨ds,[],p,[],p,[],hW,hress _ _ _,hargs _ hold,hvs _,hb.frame _,fun _=>?_⟩;refine ⟨ok_one hres rfl (okWide_bool_mk htb true),DataW.lit (Lit.bool true)::ds,(s.fn H (ds++[])).vars,p,⟨p,[],?_,hvs _,by simp,fun b off hp=>?_,fun ha=>hn ha⟩,fun x hx _=>hx⟩
 . rw [hres]
   have:=hargs (fun _=>true) (fun _ _=>rfl);rw [hfn] at this;exact ⟨[],p,shut_bool htb true,this,rfl⟩
 . rw [hb.frozen (p:=⟨b,off,none⟩) (hlt _ hp)]
   exact hz b off hp
end Go.Psl
namespace Go.Psl
open Go.ChangeShapes Go.WideShapes
section
variable {P:Program} {W:World}
abbrev InW (W:World) (b:Nat):Prop:=b<W.heap.size
def ShL (S:TypeId->List D->Prop):List TypeId->List D->Prop
 | [],ds=>ds=[]
 | t::ts,ds=>∃ a b,ds=a++b/\S t a/\ShL S ts b
def Sh' (P:Program):Nat->TypeId->List D->Prop
 | 0,_,_=>False
 | n+1,t,ds=>match P.underlying t with
   | some .bool=>∃ b,ds=[.lit (.bool b)]
   | some (.int k)=>∃ i,ds=[.lit (.int k i)]/\(Lit.int k i).wf=true
   | some .string=>∃ s:ByteArray,ds=[.lit (.string s)]/\s.size<=maxLen
   | some (.slice e)=>∃ es,ds=[.sl (P.cellsOf e) es]/\es.length<=maxL/\∀ x∈es,Sh' P n e x
   | some (.struct fs)=>ShL (Sh' P n) (fs.toList.map (·.type)) ds
   | some (.array k e)=>ShL (Sh' P n) (List.replicate k e) ds
   | _=>False
def HP (P:Program):Nat->List Field->Option Nat
 | o,[]=>some o
 | o,f::fs=>if f.offset=o then HP P (o+P.cellsOf f.type) fs else none
def E5 (P:Program):Nat->TypeId->Bool
 | 0,_=>false
 | n+1,t=>match P.underlying t with
   | some .bool=>true
   | some (.int _)=>true
   | some .string=>true
   | some (.slice e)=>decide (0<P.cellsOf e)&&E5 P n e
   | some (.struct fs)=>(HP P 0 fs.toList == some (P.cellsOf t))&&fs.toList.all fun f=>E5 P n f.type
   | some (.array k e)=>decide (k*P.cellsOf e=P.cellsOf t)&&E5 P n e
   | _=>false
theorem Sv {base:Nat} {a:Addr} {n:Nat} {cs:List Value} (hn:0<n) (h:W.cells? base a n=some cs):InW W a.block/\cs.length=n/\∀ j,j<n->W.cell? (a.add j)=cs[j]?:= by
 obtain ⟨_,h2,h3⟩:=World.cells?_some h;refine ⟨?_,h2,h3⟩;have h4:=h3 0 hn;rw [List.getElem?_eq_getElem (by omega)] at h4;have hbl:(a.add 0).block=a.block:=by unfold Addr.add;split<;>rfl
 unfold World.cell? at h4;rw [hbl] at h4;unfold InW;refine Nat.not_le.1 fun hle=>?_
 rw [Array.getElem?_eq_none hle] at h4;cases h4
theorem Fu {α β:Type} {R:α->β->Prop}:∀ {az as':List α} {bs bs':List β},AJ R az bs->AJ R as' bs'->AJ R (az++as') (bs++bs')
 | [],_,[],_,_,h=>h
 | _::_,_,_::_,_,h,h'=>⟨h.1,Fu h.2 h'⟩
theorem Jb {S:TypeId->List D->Prop} {T:TypeId->List Value->Prop} {cs:List Value} (hrec:∀ t cs',T t cs'->∃ ds,S t ds/\AJ (RD (InW W) W) ds cs'):
   ∀ (fs:List Field) (o m:Nat),HP P o fs=some m->m=cs.length->(∀ f∈fs,T f.type ((cs.drop f.offset).take (P.cellsOf f.type)))->o<=m->∃ ds,ShL S (fs.map (·.type)) ds/\AJ (RD (InW W) W) ds (cs.drop o)
 | [],o,m,hc,hm,_,_=>by
   simp only [HP,Option.some.injEq] at hc;subst hc;exact ⟨[],rfl,by rw [hm,List.drop_length];trivial⟩
 | f::fs,o,m,hc,hm,hT,ho=>by
   unfold HP at hc;split at hc
   . rename_i hof
     have hle:o+P.cellsOf f.type<=m:=by
       clear hT ho hm
       generalize o+P.cellsOf f.type=q at hc
       clear hof;induction fs generalizing q with
       | nil=>simp only [HP,Option.some.injEq] at hc;omega
       | cons g gs ih=>
         unfold HP at hc;split at hc
         . have:=ih _ hc;omega
         . cases hc
     obtain ⟨ds,h1,h2⟩:=Jb hrec fs _ m hc hm (fun g hg=>hT g (by simp [hg])) hle;have hf:=hT f (by simp);rw [hof] at hf;obtain ⟨d0,h3,h4⟩:=hrec _ _ hf;refine ⟨d0++ds,⟨d0,ds,rfl,h3,h1⟩,?_⟩
     have e:cs.drop o=(cs.drop o).take (P.cellsOf f.type)++cs.drop (o+P.cellsOf f.type):=by
       rw [<-List.drop_drop,List.take_append_drop]
     rw [e];exact Fu h4 h2
   . cases hc
theorem KU {S:TypeId->List D->Prop} {T:TypeId->List Value->Prop} {e:TypeId} {cs:List Value} (hrec:∀ t cs',T t cs'->∃ ds,S t ds/\AJ (RD (InW W) W) ds cs') (z:Nat):
   ∀ (k o:Nat),o+k*z=cs.length->(∀ i,i<k->T e ((cs.drop (o+i*z)).take z))->∃ ds,ShL S (List.replicate k e) ds/\AJ (RD (InW W) W) ds (cs.drop o)
 | 0,o,h,_=>⟨[],rfl,by rw [show o=cs.length by omega,List.drop_length];trivial⟩
 | k+1,o,h,hT=>by
   have hk:(k+1)*z=k*z+z:=Nat.succ_mul _ _
   obtain ⟨ds,h1,h2⟩:=KU (cs:=cs) (e:=e) hrec z k (o+z) (by omega) (fun i hi=>by
     have:=hT (i+1) (by omega);rw [Nat.succ_mul] at this;rw [show o+z+i*z=o+(i*z+z) by omega];exact this)
   have hf:=hT 0 (by omega);rw [Nat.zero_mul,Nat.add_zero] at hf;obtain ⟨d0,h3,h4⟩:=hrec _ _ hf;refine ⟨d0++ds,⟨d0,ds,rfl,h3,h1⟩,?_⟩;have e:cs.drop o=(cs.drop o).take z++cs.drop (o+z):=by rw [<-List.drop_drop,List.take_append_drop]
   rw [e];exact Fu h4 h2
theorem HQ {H:Type} {enc:TypeId × Value->H} {base:Nat} {sp:Nat->Bool} {held:Bool}:∀ (n:Nat) (t:TypeId),E5 P n t=true->∀ (m:Nat) (cs:List Value) (x:DataW H × List MemPlace),DataW.trod enc P W base sp held m t cs=some x->∃ ds,Sh' P n t ds/\AJ (RD (InW W) W) ds cs
 | 0,_,h=>by cases h
 | n+1,t,h=>fun m cs x hx=>by
   have ih:=HQ (enc:=enc) (base:=base) (sp:=sp) (held:=held) n;unfold E5 at h;unfold Sh';split at h
   . rename_i hu
     obtain ⟨b,rfl,_⟩:=DataW.trod_bool hu hx;exact ⟨_,⟨b,rfl⟩, .lit _ rfl,trivial⟩
   . rename_i k hu
     obtain ⟨i,rfl,_,hw⟩:=DataW.trod_int hu hx;exact ⟨_,⟨i,rfl,hw⟩, .lit _ rfl,trivial⟩
   . rename_i hu
     obtain ⟨s,rfl,_,hw⟩:=DataW.trod_string hu hx;exact ⟨_,⟨s,rfl,hw⟩, .lit _ rfl,trivial⟩
   . rename_i e hu
     simp only [Bool.and_eq_true,decide_eq_true_eq] at h;rcases Go.Deep.open_slice hu hx with ⟨rfl,_⟩ | ⟨a,len,cap,q,m',D0,Pl,rfl,_,hl,hm,hq,_,hel⟩
     . exact ⟨_,⟨[],rfl,by simp,by simp⟩,RD.sl _ [] none 0 (fun _ _=>undef) (by simp) (by simp) (by simp) (by simp) (by simp),trivial⟩
     . have hlq:len<=q:=by rw [hq];split<;>omega
       obtain ⟨F,hF⟩:=Go.Deep.choose_lt (α:=List D × List Value) (n:=len) (p:=fun i y=>W.cells? base (a.add (i*P.cellsOf e)) (P.cellsOf e)=some y.2/\Sh' P n e y.1/\AJ (RD (InW W) W) y.1 y.2) (fun i hi=>by
         obtain ⟨cs',h1,h2⟩:=hel i (by omega);obtain ⟨ds,h3,h4⟩:=ih e h.2 _ _ _ h2;exact ⟨(ds,cs'),h1,h3,h4⟩)
       have hlen:∀ i,i<len->(F i).1.length=P.cellsOf e:=fun i hi=>by
         obtain ⟨h1,_,h3⟩:=hF i hi;rw [h3.length,(Sv h.1 h1).2.1]
       refine ⟨_,⟨(List.range len).map fun i=>(F i).1,rfl,?_,?_⟩,?_,trivial⟩
       . simp;unfold maxLen at hm;omega
       . intro y hy
         simp only [List.mem_map,List.mem_range] at hy;obtain ⟨i,hi,rfl⟩:=hy;exact (hF i hi).2.1
       . have key:=RD.sl (Im:=InW W) (W:=W) (P.cellsOf e) ((List.range len).map fun i=>(F i).1) (some a) cap (fun i j=>((F i).2)[j]?.getD undef) ?_ ?_ ?_ ?_ ?_
         . simpa using key
         . intro y hy
           simp only [List.mem_map,List.mem_range] at hy;obtain ⟨i,hi,rfl⟩:=hy;exact hlen i hi
         . simp;unfold maxLen at hm;omega
         . simpa using hl
         . intro i y hy
           have hi:i<len:=by
             have:=(List.getElem?_eq_some_iff.1 hy).1;simpa using this
           have hy':(F i).1=y:=by simpa [hi] using hy
           obtain ⟨h1,_,h3⟩:=hF i hi;obtain ⟨c1,c2,c3⟩:=Sv h.1 h1;have hbl:(a.add (i*P.cellsOf e)).block=a.block:=by unfold Addr.add;split<;>rfl
           refine ⟨a,rfl,by rw [hbl] at c1;exact c1,fun j z hz=>?_⟩
           have hj:j<P.cellsOf e:=by
             have:=(List.getElem?_eq_some_iff.1 hz).1;rw [<-hy',hlen i hi] at this;exact this
           rw [<-Go.Deep.add_add,c3 j hj,List.getElem?_eq_getElem (by omega)];simp
         . intro i y hy j z hz
           have hi:i<len:=by
             have:=(List.getElem?_eq_some_iff.1 hy).1;simpa using this
           have hy':(F i).1=y:=by simpa [hi] using hy
           obtain ⟨h1,_,h3⟩:=hF i hi;subst hy';obtain ⟨u,hu2,hr⟩:=h3.get hz;rw [hu2];exact hr
   . rename_i fs hu
     simp only [Bool.and_eq_true,beq_iff_eq,List.all_eq_true] at h;obtain ⟨xs,m',_,_,hcl,hxl,hel⟩:=DataW.trod_struct hu hx
     have:=Jb (P:=P) (W:=W) (S:=Sh' P n) (T:=fun t cs'=>E5 P n t=true/\∃ m x,DataW.trod enc P W base sp held m t cs'=some x) (cs:=cs) (fun t cs' ⟨h1,m,x,h2⟩=>ih t h1 m cs' x h2) fs.toList 0 _ h.1 hcl.symm (fun f hf=>by
       refine ⟨h.2 f hf,m',?_⟩;obtain ⟨i,hi,rfl⟩:=List.mem_iff_getElem.1 hf;have h1:=hel i fs[i] (by simp at hi ⊢);have h2:i<xs.length:=by simp at hi;omega
       rw [List.getElem?_eq_getElem h2] at h1;exact ⟨_,h1⟩) (Nat.zero_le _)
     simpa using this
   . rename_i k e hu
     simp only [Bool.and_eq_true,decide_eq_true_eq] at h;obtain ⟨xs,m',_,_,hcl,hxl,hel⟩:=DataW.trod_array hu hx
     have:=KU (W:=W) (S:=Sh' P n) (T:=fun t cs'=>E5 P n t=true/\∃ m x,DataW.trod enc P W base sp held m t cs'=some x) (e:=e) (cs:=cs) (fun t cs' ⟨h1,m,x,h2⟩=>ih t h1 m cs' x h2) (P.cellsOf e) k 0 (by omega) (fun i hi=>by
       refine ⟨h.2,m',?_⟩;have h1:=hel i hi;rw [List.getElem?_eq_getElem (by omega)] at h1;rw [Nat.zero_add];exact ⟨_,h1⟩)
     simpa using this
   . cases h
end
end Go.Psl
namespace Go.Psl
variable {P:Program} {G:Gh} {W:World} {H:Hp}
def Jw (G:Gh) (H:Hp) (b:Nat):Prop:=G.Im b\/∃ i,InH H i/\G.ph i=false/\G.β i=b
theorem fz0 (hp:∀ id cs,H id=some cs->HB G W id cs) {v c:V} {x:Value} (hb:Df H v c) (hx:RV G W v x):R0 {G with Im:=Jw G H} W c x:=by
 have him:∀ b,G.Im b->Jw G H b/\W.heap[b]?= W.heap[b]?:= fun b hb=>⟨.inl hb,rfl⟩
 have hless:∀ i cs,H i=some cs->H i=some cs/\True:=fun i cs h=>by
   exact ⟨h,trivial⟩
 unfold Df at hb;split at hb
 . rename_i y z
   rcases hb with rfl | ⟨rfl,sz,rfl⟩
   . exact RD.mono (x:=y) hx him
   . have:=BO hx
     subst this;exact RD.sl sz [] none 0 (fun _ _=>undef) (by simp) (by simp [maxL]) (by simp) (by simp) (by simp)
 . rename_i id off len sz sz' es
   obtain ⟨rfl,hl,hes,cs,hh0,hcs⟩:=hb;obtain ⟨hh,hnin⟩:=hless _ _ hh0;obtain ⟨hml,⟨hph,h0,rfl⟩ | ⟨hph,o',cap,rfl,hcap,hoff⟩⟩:=hx
   . have:es=[]:=List.eq_nil_of_length_eq_zero (by omega)
     subst this;exact RD.sl sz' [] none 0 (fun _ _=>undef) (by simp) (by simp [maxL]) (by simp) (by simp) (by simp)
   . obtain ⟨_,c,T,⟨fz,hg,_⟩,hbs,hcl,hcr,_⟩:=(hp id cs hh).read hph
     have hfl:=B3 es hes;have hlen:((cs.drop off).take (len*sz')).length=len*sz':=by rw [hcs,List.length_map,hfl,hl]
     have hfit:off+len*sz'<=cs.length\/len*sz'=0:=by simp at hlen;omega
     subst hl;refine RD.sl sz' es (some ⟨G.β id,o',none⟩) cap (fun i j=>c.toList.getD (off+i*sz'+j) undef) hes hml hcap (fun i e he=>⟨_,rfl, .inr ⟨id,by show (H id).isSome=true;rw [hh];rfl,hph.1,rfl⟩,fun j y hy=>?_⟩) (fun i e he j y hy=>?_)
     all_goals
       have hil:i<es.length:=(List.getElem?_eq_some_iff.1 he).1;have hel:=hes e (List.mem_of_getElem? he);have hjl:j<sz':=by have:=(List.getElem?_eq_some_iff.1 hy).1;omega
       have hij:i*sz'+j<es.length*sz':=by
         have:(i+1)*sz'<=es.length*sz':=Nat.mul_le_mul_right _ hil;rw [Nat.add_mul] at this;omega
       have hfit':off+es.length*sz'<=cs.length:=by omega
       have hcell:cs[off+(i*sz'+j)]?= some (.d y):=by
         have h1:((cs.drop off).take (es.length*sz'))[i*sz'+j]?= some (V.d y):=by
           rw [hcs,List.getElem?_map,CI (by omega) es hes];have e1:(i*sz'+j)/sz'=i:=by rw [Nat.add_comm,Nat.add_mul_div_right _ _ (by omega),Nat.div_eq_of_lt hjl];omega
           have e2:(i*sz'+j)%sz'=j:=by rw [Nat.add_comm,Nat.add_mul_mod_self_right,Nat.mod_eq_of_lt hjl]
           rw [e1,e2,he];simp [hy]
         rw [List.getElem?_take,if_pos hij,List.getElem?_drop] at h1;exact h1
       obtain ⟨u,hu,hru⟩:=hcr.get hcell;rw [List.getElem?_take] at hu;split at hu
       rotate_left
       . cases hu
     . obtain ⟨rfl,_⟩:=hoff (by omega)
       rw [Bc];simp only [World.cell?,hg];rw [Array.getElem?_toList] at hu
       have h2:c.toList.getD (o'+i*sz'+j) undef=u:=by
         rw [List.getD_eq_getElem?_getD,Array.getElem?_toList,show o'+i*sz'+j=o'+(i*sz'+j) by omega,hu];rfl
       rw [h2];simpa using hu
     . have h2:c.toList.getD (off+i*sz'+j) undef=u:=by
         rw [List.getD_eq_getElem?_getD,show off+i*sz'+j=off+(i*sz'+j) by omega,hu];rfl
       show RD _ _ y (c.toList.getD (off+i*sz'+j) undef)
       rw [h2];exact RD.mono (x:=y) hru him
 . rename_i id off ds
   obtain ⟨cs,hh0,hcs⟩:=hb;obtain ⟨hh,hnin⟩:=hless _ _ hh0;obtain ⟨hph,rfl⟩:(G.ph id=false/\G.lo id=false)/\x= .pointer (some ⟨G.β id,off,none⟩):=hx;obtain ⟨_,c,T,⟨fz,hg,_⟩,hbs,hcl,hcr,_⟩:=(hp id cs hh).read hph
   have get:∀ (j:Nat) y,ds[j]?= some y->∃ u,c.toList[off+j]?= some u/\RD (Jw G H) W y u:=fun j y hy=>by
     have hj:=(List.getElem?_eq_some_iff.1 hy).1;have h1:((cs.drop off).take ds.length)[j]?= some (V.d y):=by rw [hcs,List.getElem?_map,hy];rfl
     rw [List.getElem?_take,if_pos hj,List.getElem?_drop] at h1;obtain ⟨u,hu,hru⟩:=hcr.get h1;rw [List.getElem?_take] at hu;split at hu
     . exact ⟨u,hu,RD.mono (x:=y) hru him⟩
     . cases hu
   refine RD.ref ds _ (fun j=>c.toList.getD (off+j) undef) (.inr ⟨id,by show (H id).isSome=true;rw [hh];rfl,hph.1,rfl⟩) (fun j y hy=>?_) (fun j y hy=>?_)
   . obtain ⟨u,hu,_⟩:=get j y hy
     rw [Bc,List.getD_eq_getElem?_getD,hu];simp only [World.cell?,hg];simpa using hu
   . obtain ⟨u,hu,hr⟩:=get j y hy
     rw [List.getD_eq_getElem?_getD,hu];exact hr
 . rename_i f caps g ds
   obtain ⟨rfl,rfl⟩:=hb;obtain ⟨cv,rfl,hcr⟩:=hx;have hl:=hcr.length;refine RD.fn f ds cv (by simpa using hl.symm) fun j y v hy hv=>?_
   have h1:(ds.map V.d)[j]?= some (V.d y):=by rw [List.getElem?_map,hy];rfl
   obtain ⟨u,hu,hru⟩:=hcr.get h1;rw [Array.getElem?_toList,hv] at hu;cases hu;exact RD.mono (x:=y) hru him
 . obtain ⟨rfl,rfl⟩:=hb;exact hx
 . obtain ⟨rfl,rfl,rfl,rfl⟩:=hb;exact hx
 . have hb:_=_:=hb;subst hb;exact hx
 . exact hb.elim
def FzC (H:Hp) (v c:V):Prop:=∃ y,c= .d y/\Df H v (.d y)
def FzR (H:Hp) (v c:V):Prop:=Df H v c\/∃ id off cs ds,v= .lp id off/\c= .d (.ref ds)/\H id=some cs/\AJ (fun c y=>Df H c (.d y)) ((cs.drop off).take ds.length) ds
theorem fz0r (hp:∀ id cs,H id=some cs->HB G W id cs) {v c:V} {x:Value} (hb:FzR H v c) (hx:RV G W v x):R0 {G with Im:=Jw G H} W c x:=by
 rcases hb with hb | ⟨id,off,cs,ds,rfl,rfl,hh,hcs⟩
 . exact fz0 hp hb hx
 obtain ⟨hph,rfl⟩:(G.ph id=false/\G.lo id=false)/\x= .pointer (some ⟨G.β id,off,none⟩):=hx;obtain ⟨_,c,T,⟨fz,hg,_⟩,hbs,hcl,hcr,_⟩:=(hp id cs hh).read hph
 have get:∀ (j:Nat) y,ds[j]?= some y->∃ u,c.toList[off+j]?= some u/\RD (Jw G H) W y u:=fun j y hy=>by
   obtain ⟨v,hv,hvy⟩:=hcs.get2 hy;have hj:=(List.getElem?_eq_some_iff.1 hy).1;rw [List.getElem?_take,if_pos hj,List.getElem?_drop] at hv;obtain ⟨u,hu,hru⟩:=hcr.get hv;rw [List.getElem?_take] at hu;split at hu
   . exact ⟨u,hu,fz0 hp hvy (R2.rv (R1.r2 hru))⟩
   . cases hu
 refine RD.ref ds _ (fun j=>c.toList.getD (off+j) undef) (.inr ⟨id,by show (H id).isSome=true;rw [hh];rfl,hph.1,rfl⟩) (fun j y hy=>?_) (fun j y hy=>?_)
 . obtain ⟨u,hu,_⟩:=get j y hy
   rw [Bc,List.getD_eq_getElem?_getD,hu];simp only [World.cell?,hg];simpa using hu
 . obtain ⟨u,hu,hr⟩:=get j y hy
   rw [List.getD_eq_getElem?_getD,hu];exact hr
def Fz1 (H:Hp):V->V->Prop
 | .agg cs, .agg ds=>AJ (FzC H) cs ds
 | .cl f caps, .d (.fn g ds)=>f=g/\AJ (FzR H) caps (ds.map .d)
 | v, .d y=>Df H v (.d y)
 | _,_=>False
def Fz (H:Hp):V->V->Prop
 | .tup vs, .tup ws=>AJ (Fz1 H) vs ws
 | v,w=>Fz1 H v w
theorem fz1 (hp:∀ id cs,H id=some cs->HB G W id cs) {v c:V} {x:Value} (hb:Fz1 H v c) (hx:R2 G W v x):R2 {G with Im:=Jw G H} W c x:=by
 unfold Fz1 at hb;split at hb
 . rename_i cs ds
   obtain ⟨cv,rfl,hr⟩:=hx;refine ⟨cv,rfl,AJ.of_get (by rw [<-hb.length,hr.length]) fun i d z hd hz=>?_⟩;obtain ⟨c,hc,y,rfl,hy⟩:=hb.get2 hd;obtain ⟨u,hu,hru⟩:=hr.get hc;rw [hz] at hu;cases hu;exact R0.r1 (fz0 hp hy (R2.rv (R1.r2 hru)))
 . rename_i f caps g ds
   obtain ⟨rfl,hc⟩:=hb;obtain ⟨cv,rfl,hr⟩:=hx;have hl:cv.size=ds.length:=by have h1:=hc.length;have h2:=hr.length;simp at h1 h2;omega
   refine RD.fn f ds cv hl fun j y z hy hz=>?_
   obtain ⟨c,hcj,hcy⟩:=hc.get2 (show (ds.map V.d)[j]?= some (.d y) by rw [List.getElem?_map,hy];rfl);obtain ⟨u,hu,hru⟩:=hr.get hcj;rw [Array.getElem?_toList,hz] at hu;cases hu;exact fz0r hp hcy (R2.rv (R1.r2 (R0.r1 hru)))
 . refine R1.r2 (R0.r1 (fz0 hp hb (R2.rv hx)))
 . exact hb.elim
theorem Zc {v c:V} (hb:Fz1 H v c):A2 (fun _=>False) AR c:=by
 unfold Fz1 at hb;split at hb
 . rename_i cs ds
   intro d hd;obtain ⟨i,hi⟩:=List.getElem?_of_mem hd;obtain ⟨c,_,y,rfl,_⟩:=hb.get2 hi;trivial
 . trivial
 . trivial
 . exact hb.elim
theorem ku (hp:∀ id cs,H id=some cs->HB G W id cs) {v c:V} {x:Value} (hb:Fz H v c) (hx:RV G W v x):RV {G with Im:=Jw G H} W c x:=by
 unfold Fz at hb;split at hb
 . rename_i vs ws
   obtain ⟨cv,rfl,hr⟩:=hx;refine ⟨cv,rfl,AJ.of_get (by rw [<-hb.length,hr.length]) fun i y z hy hz=>?_⟩;obtain ⟨w,hw,hbw⟩:=hb.get2 hy;obtain ⟨u,hu,hru⟩:=hr.get hw;rw [hz] at hu;cases hu;exact fz1 hp hbw hru
 . refine R2.rv (fz1 hp hb ?_)
   cases v<;>first | exact hx | (exfalso;revert hb;cases c<;>simp [Fz1,Df];done)
theorem pX {v c:V} (hb:Fz H v c):AV (fun _=>False) AR c:=by
 unfold Fz at hb;split at hb
 . rename_i vs ws
   intro w hw;obtain ⟨i,hi⟩:=List.getElem?_of_mem hw;obtain ⟨u,_,hu⟩:=hb.get2 hi;exact Zc hu
 . have:=Zc hb
   cases c<;>first | exact this | (revert hb;simp [Fz1];done)
theorem Cm.freeze {f:FuncId} {args:List V} {Hin:Hp} {r r':V} {H1:Hp} (h:Cm P f args Hin [] (.ret r) H1) (hf:Fz H1 r r'):Cm P f args Hin [] (.ret r') (fun _=>none):=by
 refine ⟨h.1,fun G W xs him hargs hpre=>Calls.mono (h.2 G W xs him hargs hpre) fun e W' ⟨G',p⟩=>?_⟩;have hB:∀ id cs,H1 id=some cs->HB G' W' id cs:=fun id cs hid=>(p.hb id cs hid).1
 have hblk:∀ i,InH H1 i->G'.ph i=false->G'.β i<W'.heap.size:=fun i hi hph=>by
   cases hc:H1 i with
   | none=>simp [InH,hc] at hi
   | some cs=>
     rcases hB i cs hc with ⟨h1,_⟩ | ⟨_,_,_,c,T,h3,_⟩ | ⟨_,_,_,⟨_,fr,nt,ps,pa,pb,jmp,rec,_,h4,_⟩ | ⟨_,es,ms,ck,_,h4,_⟩ | ⟨_,bx,bp,bv,_,h4,_⟩⟩
     . rw [h1] at hph;cases hph
     . exact (Array.getElem?_eq_some_iff.1 h3.choose_spec.1).1
     . exact (Array.getElem?_eq_some_iff.1 h4).1
     . exact (Array.getElem?_eq_some_iff.1 h4).1
     . exact (Array.getElem?_eq_some_iff.1 h4).1
 refine ⟨{G' with Im:=Jw G' H1},p.os,p.tape,p.output,p.drawn,p.size,p.block,fun b hb=>?_,fun b hb=> .inl (p.im0 b hb),?_,?_,fun i cs h=>(by cases h),fun i j h=>(by simp [InH] at h),fun i h=>(by cases h)⟩
 . rcases hb with hb | ⟨i,hi,hph,rfl⟩
   . exact p.im b hb
   . refine ⟨hblk i hi hph, .inr ?_⟩
     cases hc:H1 i with
     | none=>simp [InH,hc] at hi
     | some cs=>exact (p.hb i cs hc).2.1 hph
 . have hrv:=p.rv
   cases e with
   | returned v=>exact ku hB hf hrv
   | _=>exact hrv.elim
 . show AV (InH fun _=>none) AR r'
   exact AV.mono (fun _ h=>h.elim) (fun _ h=>h) (pX hf)
end Go.Psl
namespace Go.Psl
variable {P:Program} {E:Ent}
theorem AI.trans {a b c:St} (h:AI P E a b) (g:AI P E b c):AI P E a c:=fun G x W hI=>by
 obtain ⟨G',h'⟩:=h G x W hI;exact g G' x W h'
def FzE (H:Hp) (v c:V):Prop:=c= .junk\/v=c\/Fz H v c
def FzK (H:Hp) (v c:V):Prop:=v=c\/FzC H v c
def AAa (H:Hp) (ids:List Nat):Hp:=fun i=>if i∈ids then H i else none
theorem FzK.one {G:Gh} {W:World} {H:Hp} (hB:∀ id cs,H id=some cs->HB G W id cs) (hin:De (fun _=>True) AR (fun i=>i) G W {G with Im:=Jw G H} W) {v c:V} {x:Value} (h:FzK H v c) (ha:A1 (fun _=>True) AR v) (hx:R1 G W v x):R1 {G with Im:=Jw G H} W c x:=by
 rcases h with rfl | ⟨y,rfl,hy⟩
 . exact hin.s1 ha hx
 . exact R0.r1 (fz0 hB hy (R2.rv (R1.r2 hx)))
theorem AI.frz (ids:List Nat) {f g:Nat->V} {H h:Hp} {n:Nat} (_:∀ i∈ids,¬ E.stab i) (hf:∀ t,FzE (AAa H ids) (f t) (g t)) (hh:∀ i cs',h i=some cs'->i ∉ ids/\∃ cs,H i=some cs/\AJ (FzK (AAa H ids)) cs cs'):AI P E ⟨f,H,n⟩ ⟨g,h,n⟩:=by
 intro G a W hI
 have hF:∀ id cs,AAa H ids id=some cs->id∈ids/\H id=some cs:=fun id cs e=>by
   unfold AAa at e;split at e
   . rename_i hi;exact ⟨hi,e⟩
   . cases e
 have hB:∀ id cs,AAa H ids id=some cs->HB G W id cs:=fun id cs e=>hI.hp id cs (hF id cs e).2
 have hin:De (fun _=>True) AR (fun i=>i) G W {G with Im:=Jw G (AAa H ids)} W:=⟨fun i _=>⟨rfl,rfl,rfl,rfl⟩,fun x v _ hx=>RD.mono hx fun b hb=>⟨.inl hb,rfl⟩⟩
 have hno:∀ id cs cs',h id=some cs'->H id=some cs->G.ph id=false->¬ G.Im (G.β id)->¬ Jw G (AAa H ids) (G.β id):=by
   rintro id cs cs' h1 h2 hp h3 (h4 | ⟨i,hi,hpi,he⟩)
   . exact h3 h4
   . obtain ⟨x,hx⟩:=Option.isSome_iff_exists.1 hi
     obtain ⟨h5,h6⟩:=hF i x hx;have:i=id:=hI.inj i id (by show (H i).isSome=true;rw [h6];rfl) (by show (H id).isSome=true;rw [h2];rfl) hpi hp he;subst this;exact (hh i cs' h1).1 h5
 refine ⟨{G with Im:=Jw G (AAa H ids)},{fr:=fun t=>?_,wf:=fun t=>?_,hp:=fun id cs' hid=>?_,wh:=fun id cs' hid=>?_,dom:=fun id hid=>?_,inj:=fun i j h1 h2=>?_,own:=fun i h1=>?_,im:=fun b hb=>?_,im0:=fun b hb=> .inl (hI.im0 b hb),keep:=hI.keep,stab:=fun i h1 h2=>?_,sU:=hI.sU,nt:=hI.nt,df:=?_,gl:=hI.gl.mono fun b hb=>⟨.inl hb,rfl⟩}⟩
 . have h1:=hI.fr t
   have h2:=hI.wf t;rcases hf t with h3 | h3 | h3
   . show RV _ W (g t) _
     rw [h3];trivial
   . show RV _ W (g t) _
     rw [<-h3];exact hin.sv (AV.mono (fun _ _=>trivial) (fun _ h=>h) h2) h1
   . exact ku hB h3 h1
 . rcases hf t with h3 | h3 | h3
   . show AV _ _ (g t)
     rw [h3];trivial
   . show AV _ _ (g t)
     rw [<-h3];exact hI.wf t
   . exact AV.mono (fun _ h=>h.elim) (fun _ h=>h) (pX h3)
 . obtain ⟨h1,cs,h2,h3⟩:=hh id cs' hid
   have hl:=h3.length;rcases hI.hp id cs h2 with ⟨h5,h6⟩ | ⟨h5,h0,h6,c,T,h7,h8,h9,h10,h11⟩ | ⟨h5,h0,h6,⟨hz,fr,nt,ps,pa,pb,jmp,rec,h7,h8,h9⟩ | ⟨hz,es,ms,ck,h7,h8,h9⟩ | ⟨hz,bx,bp,bv,h7,h8,h9,h10,h11⟩⟩
   . subst h6
     have:cs'=[]:=by cases cs' with | nil=>rfl | cons a l=>exact h3.elim
     exact .inl ⟨h5,this⟩
   . refine .inr (.inl ⟨h5,h0,hno id cs cs' hid h2 h5 h6,c,T,h7,h8,by omega,?_,?_⟩)
     . rw [<-hl]
       refine AJ.of_get (by rw [<-hl];exact h10.length) fun i y z hy hz=>?_
       obtain ⟨w,hw,hwy⟩:=h3.get2 hy;obtain ⟨u,hu,hwu⟩:=h10.get hw;rw [hz] at hu;cases hu;exact hwy.one hB hin (R1.ac hwu (AC.mono (fun _ _=>trivial) (fun _ h=>h) (hI.wh id cs h2 _ (List.mem_of_getElem? hw)))) hwu
     . refine List.all_eq_true.2 fun y hy=>?_
       obtain ⟨i,hi⟩:=List.getElem?_of_mem hy;obtain ⟨w,hw,hwy⟩:=h3.get2 hi;rcases hwy with rfl | ⟨d,rfl,_⟩
       . exact List.all_eq_true.1 h11 _ (List.mem_of_getElem? hw)
       . rfl
   . subst h7
     match cs',h3 with
     | [c0],h3=>
       rcases h3.1 with h4 | ⟨y,rfl,hy⟩
       . subst h4
         obtain ⟨q1,q2,q3,q4,q5,q6⟩:=h9;refine .inr (.inr ⟨h5,h0,hno id _ _ hid h2 h5 h6, .inl ⟨hz,fr,nt,ps,pa,pb,jmp,rec,rfl,h8,q1,q2,q3,q4,fun t=>?_,q6⟩⟩);have q7:AC _ AR (V.lr fr nt ps pa pb jmp):=hI.wh id _ h2 _ (by simp);exact hin.sv (AV.mono (fun _ _=>trivial) (fun _ h=>h) (q7 t)) (q5 t)
       . exact (show False from hy).elim
     | [],h3=>exact h3.elim
     | _::_::_,h3=>exact h3.2.elim
   . subst h7
     match cs',h3 with
     | [c0,c1],h3=>
       obtain ⟨h31,h32,_⟩:=h3
       have e0:c0=ACA es:=by
         rcases h31 with h4 | ⟨y,rfl,hy⟩
         . exact h4.symm
         . exact (show False from hy).elim
       have e1:c1= .d (.lit (.bool true)):=by
         rcases h32 with h4 | ⟨y,rfl,hy⟩
         . exact h4.symm
         . rcases hy with rfl | ⟨hy,_⟩
           . rfl
           . cases hy
       rw [e0,e1];exact .inr (.inr ⟨h5,h0,hno id _ _ hid h2 h5 h6, .inr (.inl ⟨hz,es,ms,ck,rfl,h8,h9.mono fun b hb=>⟨.inl hb,rfl⟩⟩)⟩)
     | [],h3=>exact h3.elim
     | [_],h3=>exact h3.2.elim
     | _::_::_::_,h3=>exact h3.2.2.elim
   . subst h7
     match cs',h3 with
     | [c0,c1],h3=>
       obtain ⟨h31,h32,_⟩:=h3
       have e1:c1= .d (.lit bp.m):=by
         rcases h32 with h4 | ⟨y,rfl,hy⟩
         . exact h4.symm
         . rcases hy with rfl | ⟨hy,_⟩
           . rfl
           . exact absurd (D.lit.inj hy) h9.m_ne
       rw [e1]
       have hcc:V.isCell c0=true:=by
         rcases h31 with rfl | ⟨d,rfl,_⟩
         . exact h11
         . rfl
       exact .inr (.inr ⟨h5,h0,hno id _ _ hid h2 h5 h6, .inr (.inr ⟨hz,c0,bp,bv,rfl,h8,h9,h31.one hB hin (R1.ac h10 (AC.mono (fun _ _=>trivial) (fun _ h=>h) (hI.wh id _ h2 bx (by simp)))) h10,hcc⟩)⟩)
     | [],h3=>exact h3.elim
     | [_],h3=>exact h3.2.elim
     | _::_::_::_,h3=>exact h3.2.2.elim
 . obtain ⟨h1,cs,h2,h3⟩:=hh id cs' hid
   intro c hc;obtain ⟨i,hi⟩:=List.getElem?_of_mem hc;obtain ⟨w,hw,hwy⟩:=h3.get2 hi;rcases hwy with rfl | ⟨d,rfl,_⟩
   . exact hI.wh id cs h2 _ (List.mem_of_getElem? hw)
   . trivial
 . obtain ⟨cs',hc⟩:=Option.isSome_iff_exists.1 hid
   obtain ⟨h1,cs,h2,h3⟩:=hh id cs' hc;exact hI.dom id (by show (H id).isSome=true;rw [h2];rfl)
 . obtain ⟨x,hx⟩:=Option.isSome_iff_exists.1 h1
   obtain ⟨y,hy⟩:=Option.isSome_iff_exists.1 h2;obtain ⟨_,cs,e1,_⟩:=hh i x hx;obtain ⟨_,ds,e2,_⟩:=hh j y hy;exact hI.inj i j (by show (H i).isSome=true;rw [e1];rfl) (by show (H j).isSome=true;rw [e2];rfl)
 . obtain ⟨x,hx⟩:=Option.isSome_iff_exists.1 h1
   obtain ⟨_,cs,e1,_⟩:=hh i x hx;exact hI.own i (by show (H i).isSome=true;rw [e1];rfl)
 . rcases hb with hb | ⟨i,hi,hp,rfl⟩
   . exact hI.im b hb
   . obtain ⟨x,hx⟩:=Option.isSome_iff_exists.1 hi
     obtain ⟨h5,h6⟩:=hF i x hx;exact ⟨(hI.hp i x h6).lt hp, .inr (hI.own i (by show (H i).isSome=true;rw [h6];rfl) hp)⟩
 . obtain ⟨x,hx⟩:=Option.isSome_iff_exists.1 h2
   obtain ⟨_,cs,e1,_⟩:=hh i x hx;exact hI.stab i h1 (by show (H i).isSome=true;rw [e1];rfl)
 . obtain ⟨ds,h1,h2⟩:=hI.df
   refine ⟨ds,h1,h2.nodup,fun D hD=>?_,h2.nm⟩;obtain ⟨h3,h4,h5⟩:=h2.at' D hD;refine ⟨h3,h4,?_⟩
   rintro (h6 | ⟨i,hi,hp,rfl⟩)
   . exact h5 h6
   . obtain ⟨x,hx⟩:=Option.isSome_iff_exists.1 hi
     exact (hI.hp i x (hF i x hx).2).kind hp h3
theorem AI.frzR (ids:List Nat) {f:Nat->V} {m:List (Nat × V)} {H:Hp} {h:List (Nat × List V)} {n:Nat} (hs:∀ i,¬ E.stab i) (hf:∀ p∈m,FzE (AAa H ids) (f p.1) p.2) (hh:∀ p∈h,p.1 ∉ ids/\∃ cs,H p.1=some cs/\AJ (FzK (AAa H ids)) cs p.2):AI P E ⟨f,H,n⟩ ⟨AO m,lk h,n⟩:=by
 refine AI.frz ids (fun i _=>hs i) (fun t=>?_) fun i cs' hi=>?_
 . show FzE _ _ ((lk m t).getD .junk)
   cases h1:lk m t with
   | none=>exact .inl rfl
   | some v=>
     have:∃ p∈m,p.1=t/\p.2=v:=by
       clear hf;induction m with
       | nil=>simp [lk] at h1
       | cons p r ih=>
         simp only [lk] at h1;split at h1
         . rename_i e;exact ⟨p,by simp,e.symm,Option.some.inj h1⟩
         . obtain ⟨q,hq,e⟩:=ih h1;exact ⟨q,by simp [hq],e⟩
     obtain ⟨p,hp,rfl,rfl⟩:=this;exact hf p hp
 . have:∃ p∈h,p.1=i/\p.2=cs':=by
     clear hh;induction h with
     | nil=>simp [lk] at hi
     | cons p r ih=>
       simp only [lk] at hi;split at hi
       . rename_i e;exact ⟨p,by simp,e.symm,Option.some.inj hi⟩
       . obtain ⟨q,hq,e⟩:=ih hi;exact ⟨q,by simp [hq],e⟩
   obtain ⟨p,hp,rfl,rfl⟩:=this;exact hh p hp
end Go.Psl
namespace Go.Psl
variable {Γ:Tys} {eqs:Eqs} {H:Hp} {t:TypeId} {b:Nat}
theorem ABd {p:Option Addr} {n c:Nat} {x:V}:Lr Γ H b t (.d (.lit (.slice p n c))) x=(Γ t).bind fun y=>match y.sh with
 | .slice e=>(Γ e).bind fun ye=>if ye.size=0\/Ei (.d (.lit (.slice p n c))) x=true then none else (cellsOf H ye.size x).bind fun nx=>if nx.2.all V.isCell then (if nx.1*ye.bytes<=Fh/\nx.1<=maxL then some (.ls b 0 nx.1 ye.size, .new b nx.2) else none) else none
 | _=>none:=AF rfl
theorem SR {D':D} {x:V}:Ei (.d D') x=false:=AF rfl
theorem iG {id len sz:Nat} {x:V}:Lr Γ H b t (.ls id 0 len sz) x=(Γ t).bind fun y=>match y.sh with
 | .slice e=>(Γ e).bind fun ye=>if ye.size=0\/Ei (.ls id 0 len sz) x=true then none else (cellsOf H ye.size x).bind fun nx=>if nx.2.all V.isCell then
     (if sz=ye.size then (H id).bind fun cs=>if len*sz<=cs.length/\(len+nx.1)*ye.bytes<=Fh/\len+nx.1<=maxL then some (.ls b 0 (len+nx.1) sz, .mov id b (cs.take (len*sz)++nx.2)) else none else none) else none
 | _=>none:=AF rfl
theorem WP {i o l z i' o' l' z':Nat}:Ei (.ls i o l z) (.ls i' o' l' z')=(i == i'):=AF rfl
theorem cI {i o l z:Nat} {x:D}:Ei (.ls i o l z) (.d x)=false:=AF rfl
theorem Pm {sz:Nat} {p:Option Addr} {n c:Nat}:cellsOf H sz (.d (.lit (.slice p n c)))=some (0,[]):=AF rfl
theorem SS {sz sz':Nat} {es:List (List D)}:cellsOf H sz (.d (.sl sz' es))=if sz=sz' then some (es.length,es.flatten.map .d) else none:=AF rfl
theorem ST {sz sz' id off len:Nat}:cellsOf H sz (.ls id off len sz')=if sz=sz' then (H id).bind fun cs=>if off+len*sz<=cs.length then some (len,(cs.drop off).take (len*sz)) else none else none:=AF rfl
theorem cJ:P8 []= .tup []:=AF rfl
theorem WQ {ρ:Nat->Option Nat}:WV ρ (.tup []) (.tup []):=by simp
attribute [simp] cJ WQ ABd iG WP cI SR Pm SS ST
theorem iH {ρ:Nat->Option Nat} (x:D):WC ρ (.d x) (.d x):=by simp
theorem AL1 {ρ:Nat->Option Nat} {xs ys:List V}:∀ ds:List D,AJ (WC ρ) (ds.map .d++xs) (ds.map .d++ys)=AJ (WC ρ) xs ys
 | []=>rfl
 | d::ds=>by
   show (WC ρ (.d d) (.d d)/\AJ (WC ρ) (ds.map .d++xs) (ds.map .d++ys))=_
   rw [AL1 ds];exact propext ⟨fun h=>h.2,fun h=>⟨iH d,h⟩⟩
theorem LR {ρ:Nat->Option Nat} (ds:List D):AJ (WC ρ) (ds.map .d) (ds.map .d)=True:=by
 have:=AL1 (ρ:=ρ) (xs:=[]) (ys:=[]) ds;rw [List.append_nil] at this;rw [this];exact propext ⟨fun _=>trivial,fun _=>trivial⟩
theorem FO {xs:List V} {ds:List D} (h:xs.all V.isCell=true):Bv (ds.map .d++xs):=Or.inl (by
 rw [List.all_append,h,Bool.and_true,List.all_map,List.all_eq_true];intro x _;rfl)
theorem HJ {ds:List D}:Bv (ds.map .d):=Or.inl (by
 rw [List.all_map,List.all_eq_true];intro x _;rfl)
theorem iI {q:Nat->Prop} {ds:List D}:∀ c∈ds.map V.d,AC q AR c:=fun c h=>by
 simp only [List.mem_map] at h;obtain ⟨d,_,rfl⟩:=h;simp
theorem SV {ρ:Nat->Nat} {ds:List D}:ds.map (BJ ρ ∘ V.d)=ds.map V.d:=by
 apply List.map_congr_left;intro x _;rfl
attribute [simp] SV AL1 LR FO HJ
end Go.Psl
namespace Go.Psl
variable {α:Type} {f:α->List D} {sz:Nat}
abbrev slD (f:α->List D) (sz:Nat) (l:List α):D:= .sl sz (l.map f)
def AH (f:α->List D) (l:List α):List V:=((l.map f).flatten).map .d
theorem ZA:AH f []=[]:=rfl
theorem CQ (x:α) (l:List α):AH f (x::l)=(f x).map .d++AH f l:=by simp [AH]
theorem ZB (l m:List α):AH f l++AH f m=AH f (l++m):=by simp [AH]
theorem IV (l:List α) (x:α):AH f (l++[x])=AH f l++(f x).map .d:=by simp [AH]
theorem BU {l:List α}:∀ v∈AH f l,v.isCell=true:=fun v hv=>by
 obtain ⟨y,_,rfl⟩:=List.mem_map.1 hv;rfl
theorem Aw (hf:∀ x,(f x).length=sz):∀ l:List α,(AH f l).length=l.length*sz
 | []=>by simp [ZA]
 | x::r=>by rw [CQ,List.length_append,List.length_map,hf,Aw hf r,List.length_cons,Nat.succ_mul];omega
theorem VY (hf:∀ x,(f x).length=sz) (l m:List α):(AH f (l++m)).take (l.length*sz)=AH f l:=by
 rw [<-ZB,List.take_left' (Aw hf l)]
theorem E9 (hf:∀ x,(f x).length=sz) (l:List α):(AH f l).take (l.length*sz)=AH f l:=by
 rw [<-Aw hf,List.take_length]
theorem GU (hf:∀ x,(f x).length=sz):∀ {l:List α} {i:Nat} {x:α},l[i]?= some x->∃ m,(AH f l).drop (i*sz)=(f x).map .d++m
 | [],_,_,h=>by simp at h
 | a::r,0,x,h=>by
   simp at h;subst h;exact ⟨AH f r,by rw [CQ];simp⟩
 | a::r,i+1,x,h=>by
   obtain ⟨m,hm⟩:=GU hf (l:=r) (i:=i) (x:=x) (by simpa using h);refine ⟨m,?_⟩;rw [CQ,Nat.succ_mul,Nat.add_comm (i*sz) sz,<-List.drop_drop,List.drop_left' (by rw [List.length_map,hf])];exact hm
theorem J2 (hf:∀ x,(f x).length=sz) {l:List α} {i:Nat} {x:α} (h:l[i]?= some x):((AH f l).drop (i*sz)).take sz=(f x).map .d:=by
 obtain ⟨m,hm⟩:=GU hf h;rw [hm,List.take_left' (by rw [List.length_map,hf])]
theorem XS (hf:∀ x,(f x).length=sz) {l:List α} {i j k:Nat} {x:α} (h:l[i]?= some x) (hj:j+k<=sz):((AH f l).drop (i*sz+j)).take k=(((f x).drop j).take k).map .d:=by
 obtain ⟨m,hm⟩:=GU hf h;rw [<-List.drop_drop,hm,List.drop_append_of_le_length (by rw [List.length_map,hf];omega),List.take_append_of_le_length (by rw [List.length_drop,List.length_map,hf];omega),List.map_take,List.map_drop]
theorem Jg (hf:∀ x,(f x).length=sz) {l:List α} {i j:Nat} {x:α} {y:D} (h:l[i]?= some x) (hy:(f x)[j]?= some y):(AH f l)[i*sz+j]?= some (.d y):=by
 obtain ⟨m,hm⟩:=GU hf h;have hj:=(List.getElem?_eq_some_iff.1 hy).1;rw [<-List.getElem?_drop,hm,List.getElem?_append_left (by simpa using hj),List.getElem?_map,hy];rfl
theorem IW (_:∀ x,(f x).length=sz) {l:List α} {i:Nat} {x:α} (h:l[i]?= some x):i*sz+sz<=l.length*sz:=by
 have:=(List.getElem?_eq_some_iff.1 h).1;have:=Nat.mul_le_mul_right sz this;rw [Nat.succ_mul] at this;exact this
theorem ra (hf:∀ x,(f x).length=sz):∀ {l:List α} {i:Nat} {x y:α} {j:Nat} {vs:List D},l[i]?= some x->j+vs.length<=sz->f y=(f x).take j++vs++(f x).drop (j+vs.length)->AA (AH f l) (i*sz+j) (vs.map .d)=AH f (l.set i y)
 | [],_,_,_,_,_,h,_,_=>by simp at h
 | a::r,0,x,y,j,vs,h,hj,hy=>by
   simp at h;subst h;have ha:((f a).map V.d).length=sz:=by rw [List.length_map,hf]
   rw [List.set_cons_zero,CQ,CQ,hy];unfold AA;rw [Nat.zero_mul,Nat.zero_add,List.take_append_of_le_length (by omega),List.length_map,List.drop_append_of_le_length (by omega)];simp [List.map_take,List.map_drop]
 | a::r,i+1,x,y,j,vs,h,hj,hy=>by
   have ih:=ra hf (l:=r) (i:=i) (x:=x) (y:=y) (j:=j) (vs:=vs) (by simpa using h) hj hy;have ha:((f a).map V.d).length=sz:=by rw [List.length_map,hf]
   rw [List.set_cons_succ,CQ,CQ,<-ih];unfold AA;have e1:(i+1)*sz+j=((f a).map V.d).length+(i*sz+j):=by rw [ha,Nat.succ_mul];omega
   rw [e1,List.take_length_add_append,Nat.add_assoc,List.drop_length_add_append];simp
theorem VZ (hf:∀ x,(f x).length=sz) {H:Hp} {id:Nat} {l z:List α} (h:H id=some (AH f (l++z))):Bor H (.ls id 0 l.length sz) (.d (slD f sz l)):=by
 rw [Bk];refine ⟨rfl,by simp,fun e he=>?_,_,h,?_⟩
 . obtain ⟨k,_,rfl⟩:=List.mem_map.1 he;exact hf k
 . rw [List.drop_zero,VY hf];rfl
theorem B0 (hf:∀ x,(f x).length=sz) {H:Hp} {id:Nat} {l:List α} (h:H id=some (AH f l)):Bor H (.ls id 0 l.length sz) (.d (slD f sz l)):=
 VZ hf (z:=[]) (by rw [List.append_nil];exact h)
def hdF (sz:Nat) (l:List α) (b:Nat):V:=if l.isEmpty then .d (.lit (.slice none 0 0)) else .ls b 0 l.length sz
def ouF (f:α->List D) (l:List α) (b:Nat):List (Nat × List V):=if l.isEmpty then [] else [(b,AH f l)]
theorem Aq (b:Nat):hdF sz ([]:List α) b= .d (.lit (.slice none 0 0)):=rfl
theorem Au (b:Nat):ouF f [] b=[]:=rfl
theorem Ak {l:List α} (h:l≠[]) (b:Nat):hdF sz l b= .ls b 0 l.length sz:=by
 unfold hdF;cases l with
 | nil=>exact absurd rfl h
 | cons=>rfl
theorem AZ {l:List α} (h:l≠[]) (b:Nat):ouF f l b=[(b,AH f l)]:=by
 unfold ouF;cases l with
 | nil=>exact absurd rfl h
 | cons=>rfl
def ixF (q:α->Bool) (l:List α):Int:=match l.findIdx? q with | some i=>i | none=> -1
theorem IX {q:α->Bool} {l:List α} (h:∀ (j:Nat) (x:α),l[j]?= some x->q x=false):ixF q l= -1:=by
 unfold ixF
 have:l.findIdx? q=none:=by
   rw [List.findIdx?_eq_none_iff];intro p hp;obtain ⟨j,hj⟩:=List.getElem?_of_mem hp;exact h j p hj
 rw [this]
theorem IY {q:α->Bool} {l:List α} {i:Nat} {x:α} (hx:l[i]?= some x) (hq:q x=true) (h:∀ (j:Nat) (y:α),j<i->l[j]?= some y->q y=false):ixF q l=i:=by
 unfold ixF
 have:l.findIdx? q=some i:=by
   rw [List.findIdx?_eq_some_iff_getElem];obtain ⟨h1,h2⟩:=List.getElem?_eq_some_iff.1 hx;refine ⟨h1,by rw [h2];exact hq,fun j hj=>?_⟩;have:=h j l[j] hj (List.getElem?_eq_getElem (by omega));rw [this];simp
 rw [this]
theorem IZ (q:α->Bool) (l:List α):decide (0<=ixF q l)=l.any q:=by
 unfold ixF;cases h:l.findIdx? q with
 | none=>
   rw [List.findIdx?_eq_none_iff] at h;have h2:l.any q=false:=by rw [List.any_eq_false];intro x hx;rw [h x hx];simp
   rw [h2];rfl
 | some i=>
   rw [List.findIdx?_eq_some_iff_getElem] at h;obtain ⟨h1,h2,_⟩:=h;have:l.any q=true:=List.any_eq_true.2 ⟨_,List.getElem_mem h1,h2⟩;rw [this];simp
@[simp] theorem mT {ρ:Nat->Option Nat} {l:List α} {xs ys:List V}:AJ (WC ρ) (AH f l++xs) (AH f l++ys)=AJ (WC ρ) xs ys:=AL1 _
@[simp] theorem AQm {ρ:Nat->Option Nat} {l:List α}:AJ (WC ρ) (AH f l) (AH f l)=True:=LR _
@[simp] theorem pG {l:List α}:Bv (AH f l)=True:=eq_true HJ
@[simp] theorem Abx {l:List α} {a:D}:Bv (AH f l++[V.d a])=True:=eq_true (FO rfl)
@[simp] theorem pH {l:List α} {a b:D}:Bv (AH f l++[V.d a,V.d b])=True:=eq_true (FO rfl)
@[simp] theorem pI {l:List α} {a b c:D}:Bv (AH f l++[V.d a,V.d b,V.d c])=True:=eq_true (FO rfl)
@[simp] theorem AJC {l:List α} {a b c d:D}:Bv (AH f l++[V.d a,V.d b,V.d c,V.d d])=True:=eq_true (FO rfl)
theorem TL {l:List α} {p:Nat->Prop}:∀ c∈AH f l,AC p AR c:=fun c hc=>by
 obtain ⟨y,_,rfl⟩:=List.mem_map.1 hc;trivial
@[simp] theorem kj {l:List α} {p:Nat->Prop} {Q:V->Prop}:(∀ c,c∈AH f l\/Q c->AC p AR c)=∀ c,Q c->AC p AR c:=
 propext ⟨fun h c hc=>h c (Or.inr hc),fun h c hc=>hc.elim (TL c) (h c)⟩
@[simp] theorem pJ {l:List α} {p:Nat->Prop}:(∀ c,c∈AH f l->AC p AR c)=True:=eq_true TL
theorem Ou {l:List α} {p:Nat->Prop} (h:∀ x,∀ y∈f x,B9 y):∀ c∈AH f l,AC p B9 c:=fun c hc=>by
 obtain ⟨y,hy,rfl⟩:=List.mem_map.1 hc;obtain ⟨z,hz,hyz⟩:=List.mem_flatten.1 hy;obtain ⟨x,_,rfl⟩:=List.mem_map.1 hz;exact h x y hyz
@[simp] theorem pK {l:List α} (ρ:Nat->Nat):List.map (BJ ρ) (AH f l)=AH f l:=by
 unfold AH;rw [List.map_map];exact List.map_congr_left fun _ _=>rfl
theorem Ov {H:Hp}:∀ ds:List D,AJ (Bor H) (ds.map .d) (ds.map .d)
 | []=>by simp
 | d::ds=>by simp [Ov ds]
@[simp] theorem rN {H:Hp} (ds:List D):AJ (Bor H) (ds.map .d) (ds.map .d)=True:=eq_true (Ov ds)
end Go.Psl
namespace Go.Psl
variable {P:Program} {G:Gh} {W:World}
def Gh.cmp (G:Gh) (σ:Nat->Nat):Gh:=⟨fun i=>G.β (σ i),fun i=>G.bs (σ i),fun i=>G.ph (σ i),fun i=>G.lo (σ i),G.Im⟩
theorem kZ {σ:Nat->Nat} {v:V} {x:Value} (h:R0 G W (DR σ v) x):R0 (G.cmp σ) W v x:=by cases v<;>exact h
theorem IP {S S':V->Value->Prop} {r:V->V} (h:∀ v x,S (r v) x->S' v x) {cs:List V} {xs:List Value} (ha:AJ S (cs.map r) xs):AJ S' cs xs:=
 (AJ.map_left.1 ha).mono fun c _ x hx=>h c x hx
theorem Q4 {σ:Nat->Nat} {v:V} {x:Value} (h:R1 G W (DS σ v) x):R1 (G.cmp σ) W v x:=by
 cases v with
 | cl f caps=>obtain ⟨cv,hx,hc⟩:=h;exact ⟨cv,hx,IP (fun v x=>kZ) hc⟩
 | _=>exact h
theorem M9 {σ:Nat->Nat} {v:V} {x:Value} (h:R2 G W (HR σ v) x):R2 (G.cmp σ) W v x:=by
 cases v with
 | agg cs=>obtain ⟨cv,hx,hc⟩:=h;exact ⟨cv,hx,IP (fun v x=>Q4) hc⟩
 | cl f caps=>exact Q4 (v:= .cl f caps) h
 | _=>exact h
theorem ka {σ:Nat->Nat} {v:V} {x:Value} (h:RV G W (ren σ v) x):RV (G.cmp σ) W v x:=by
 cases v with
 | tup cs=>obtain ⟨cv,hx,hc⟩:=h;exact ⟨cv,hx,IP (fun v x=>M9) hc⟩
 | agg cs=>exact M9 (v:= .agg cs) h
 | cl f caps=>exact M9 (v:= .cl f caps) h
 | _=>exact h
theorem NA {σ:Nat->Nat} {v:V} (h:V.isCell (BJ σ v)=true):V.isCell v=true:=by
 cases v<;>first | rfl | (simp [BJ,DS,DR,V.isCell] at h;done)
theorem AKh {σ:Nat->Nat} {es:List (Value × Bool × List D)} {t:Nat} {v:V} (h:ren σ v=mq es t):v=mq es t:=by
 unfold mq at*;split at h
 . cases v with
   | agg cs=>
     simp only [ren,HR,V.agg.injEq] at h;congr 1;refine List.ext_getElem? fun i=>?_
     have:=congrArg (fun l=>l[i]?) h;simp only [List.getElem?_map] at this ⊢;cases hc:cs[i]? with
     | none=>rw [hc] at this;exact this
     | some c=>
       rw [hc] at this;rename_i e _;cases he:e.2.2[i]? with
       | none=>rw [he] at this;cases this
       | some x=>
         rw [he] at this;simp only [Option.map_some,Option.some.injEq] at this ⊢;cases c<;>simp [DS,DR] at this ⊢
         exact this
   | _=>simp [ren,HR,DS,DR] at h
 . cases v<;>simp [ren,HR,DS,DR] at h ⊢
theorem kb {σ:Nat->Nat} {i:Nat} {cs:List V} (h:HB G W (σ i) (cs.map (BJ σ))):HB (G.cmp σ) W i cs:=by
 rcases h with ⟨h1,h2⟩ | ⟨h1,h0,h2,c,T,h3,h4,h5,h6,h7⟩ | ⟨h1,h0,h2,⟨hz,fr,nt,ps,pa,pb,jmp,rec,h3,h4,h5⟩ | ⟨hz,es,ms,ck,h3,h4,h5⟩ | ⟨hz,bx,bp,bv,h3,h4,h5,h6,h7⟩⟩
 . exact .inl ⟨h1,List.map_eq_nil_iff.1 h2⟩
 . have hcell:∀ v∈cs,V.isCell v=true:=fun v hv=>NA (List.all_eq_true.1 h7 _ (List.mem_map.2 ⟨v,hv,rfl⟩))
   have hmap:cs.map (BJ σ)=cs.map (DS σ):=List.map_congr_left fun c hc=>L4 (hcell c hc)
   rw [hmap] at h5 h6;refine .inr (.inl ⟨h1,h0,h2,c,T,h3,h4,by simpa using h5,?_,List.all_eq_true.2 hcell⟩);rw [List.length_map] at h6;exact IP (fun v x=>Q4) h6
 . obtain ⟨c,rfl,hc⟩:∃ c,cs=[c]/\BJ σ c= .lr fr nt ps pa pb jmp:=by
     match cs,h3 with
     | [c],h3=>simp at h3;exact ⟨c,rfl,h3⟩
     | [],h3=>simp at h3
     | _::_::_,h3=>simp at h3
   cases c with
   | lr fr0 nt0 ps0 pa0 pb0 jmp0=>
     simp only [BJ,V.lr.injEq] at hc;obtain ⟨rfl,rfl,rfl,rfl,rfl,rfl⟩:=hc;obtain ⟨q1,q2,q3,q4,q5,q6⟩:=h5;exact .inr (.inr ⟨h1,h0,h2, .inl ⟨hz,fr0,_,_,_,_,_,rec,rfl,h4,q1,q2,q3,q4,fun t=>ka (q5 t),q6⟩⟩)
   | _=>simp [BJ,DS,DR] at hc
 . refine .inr (.inr ⟨h1,h0,h2, .inr (.inl ⟨hz,es,ms,ck,?_,h4,h5⟩)⟩)
   match cs,h3 with
   | [c,d],h3=>
     simp only [List.map_cons,List.map_nil,Qo,List.cons.injEq,and_true] at h3;obtain ⟨e1,e2⟩:=h3
     have d1:d= .d (.lit (.bool true)):=by
       cases d<;>simp [BJ,DS,DR] at e2 ⊢
       exact e2
     have c1:c=ACA es:=by
       cases c with
       | lr fr nt ps pa pb jmp=>
         simp only [BJ,ACA,V.lr.injEq] at e1;obtain ⟨e0,rfl,rfl,rfl,rfl,rfl⟩:=e1;unfold ACA;congr 1
         funext t
         have:=congrFun e0 t;exact AKh this
       | _=>simp [BJ,DS,DR,ACA] at e1
     rw [c1,d1];rfl
   | [],h3=>simp [Qo] at h3
   | [_],h3=>simp [Qo] at h3
   | _::_::_::_,h3=>simp [Qo] at h3
 . match cs,h3 with
   | [c,d],h3=>
     simp only [List.map_cons,List.map_nil,List.cons.injEq,and_true] at h3;obtain ⟨e1,e2⟩:=h3
     have d1:d= .d (.lit bp.m):=by
       cases d<;>simp [BJ,DS,DR] at e2 ⊢
       exact e2
     subst e1;have hc:=NA h7;rw [L4 hc] at h6;rw [d1];exact .inr (.inr ⟨h1,h0,h2, .inr (.inr ⟨hz,c,bp,bv,rfl,h4,h5,Q4 h6,hc⟩)⟩)
   | [],h3=>simp at h3
   | [_],h3=>simp at h3
   | _::_::_::_,h3=>simp at h3
def AVZ (σ:Nat->Nat) (L:List (Nat × List V)):List (Nat × List V):=L.map fun p=>(σ p.1,p.2.map (BJ σ))
theorem Kt {σ:Nat->Nat} {K:Nat} (hinj:∀ i j,i<K->j<K->σ i=σ j->i=j):∀ {L:List (Nat × List V)} {i:Nat},BW K L->i<K->lk (AVZ σ L) (σ i)=(lk L i).map (·.map (BJ σ))
 | [],_,_,_=>rfl
 | p::r,i,hL,hi=>by
   simp only [AVZ,List.map_cons,lk];by_cases h:i=p.1
   . subst h;simp
   . rw [if_neg h,if_neg (fun e=>h (hinj _ _ hi hL.1 e))]
     exact Kt hinj hL.2 hi
theorem E7 {σ:Nat->Nat} {K:Nat} (hinj:∀ i j,i<K->j<K->σ i=σ j->i=j) {L:List (Nat × List V)} {j:Nat} {cs':List V} (hL:BW K L) (h:lk (AVZ σ L) j=some cs'):∃ i cs,i<K/\j=σ i/\lk L i=some cs/\cs'=cs.map (BJ σ):=by
 have hm:=B4 h;simp only [AVZ,List.mem_map] at hm;obtain ⟨p,hp,e⟩:=hm
 have hlt:p.1<K:=by
   have:∀ {L:List (Nat × List V)},BW K L->p∈L->p.1<K:=by
     intro L;induction L with
     | nil=>intro _ h;cases h
     | cons q r ih=>
       intro h h2;rcases List.mem_cons.1 h2 with rfl | h2
       . exact h.1
       . exact ih h.2 h2
   exact this hL hp
 have hj:j=σ p.1:=by cases e;rfl
 rw [hj,Kt hinj hL hlt,Option.map_eq_some_iff] at h;obtain ⟨cs,h1,h2⟩:=h;exact ⟨p.1,cs,hlt,hj,h1,h2.symm⟩
theorem Cm.rename (σ:Nat->Nat) (K:Nat) (hinj:∀ i j,i<K->j<K->σ i=σ j->i=j) {f:FuncId} {args:List V} {L:List (Nat × List V)} {ks:List Nat} {res:Res} {L1:List (Nat × List V)} (h:Cm P f args (lk L) ks res (lk L1)) (hL:BW K L) (hL1:BW K L1) (hks:∀ i∈ks,i<K):
   Cm P f (args.map (HR σ)) (lk (AVZ σ L)) (ks.map σ) (HW σ res) (lk (AVZ σ L1)):=by
 refine ⟨h.1,fun G W xs hGW hargs hpre=>?_⟩;have hIn:∀ i,i<K->(InH (lk (AVZ σ L)) (σ i)↔InH (lk L) i):=fun i hi=>by unfold InH;rw [Kt hinj hL hi];simp
 have hIn1:∀ i,i<K->(InH (lk (AVZ σ L1)) (σ i)↔InH (lk L1) i):=fun i hi=>by unfold InH;rw [Kt hinj hL1 hi];simp
 have hlent:∀ b,Bm (G.cmp σ) (lk L) b->Bm G (lk (AVZ σ L)) b:=fun b ⟨i,hi,hp,he⟩=>⟨σ i,(hIn i (Fq hL hi)).2 hi,hp,he⟩
 have hlent':∀ b,Bm G (lk (AVZ σ L)) b->Bm (G.cmp σ) (lk L) b:=fun b ⟨j,hj,hp,he⟩=>by
   obtain ⟨cs',hcs⟩:=Option.isSome_iff_exists.1 hj;obtain ⟨i,cs,hi,rfl,h1,_⟩:=E7 hinj hL hcs;exact ⟨i,by unfold InH;rw [h1];rfl,hp,he⟩
 have hpre':ANh (G.cmp σ) W (lk L) ks:=by
   refine ⟨fun i cs hi=>kb (hpre.hb (σ i) _ ?_),fun i j hi hj hpi hpj he=>?_,fun i hi=>?_⟩
   . rw [Kt hinj hL (Fq hL (by unfold InH;rw [hi];rfl)),hi];rfl
   . have li:=Fq hL hi;have lj:=Fq hL hj
     exact hinj i j li lj (hpre.inj _ _ ((hIn i li).2 hi) ((hIn j lj).2 hj) hpi hpj he)
   . obtain ⟨h1,h2⟩:=hpre.st (σ i) (List.mem_map.2 ⟨i,hi,rfl⟩)
     exact ⟨(hIn i (hks i hi)).1 h1,h2⟩
 refine (h.2 (G.cmp σ) W xs hGW (IP (fun v x=>M9) hargs) hpre').mono fun e W' ⟨G1,hp⟩=>?_
 obtain ⟨τ,hτ⟩:∃ τ:Nat->Nat,∀ i,i<K->τ (σ i)=i:=by
   refine ⟨fun j=>if hj:∃ i,i<K/\σ i=j then hj.choose else 0,fun i hi=>?_⟩;have hj:∃ i',i' < K/\σ i'=σ i:=⟨i,hi,rfl⟩
   simp only [dif_pos hj];exact hinj _ _ hj.choose_spec.1 hi hj.choose_spec.2
 have hint:De (InH (lk L1)) AR σ G1 W' (G1.cmp τ) W':=⟨fun i hi=>by
   have:=hτ i (Fq hL1 hi);simp only [Gh.cmp,this,and_self],fun _ _ _ h=>h⟩
 refine ⟨G1.cmp τ,⟨hp.os,hp.tape,hp.output,hp.drawn,hp.size,fun b hb hl=>hp.block b hb (fun h=>hl (hlent b h)),fun b hb=>?_,fun b hb=>hp.im0 b hb,HV.into hint hp.wf hp.rv,?_,?_,?_,?_⟩⟩
 . obtain ⟨h1,h2⟩:=hp.im b hb
   exact ⟨h1,h2.imp id (Or.imp id (hlent b))⟩
 . cases res with
   | ret r=>exact AV.ren (fun i hi=>(hIn1 i (Fq hL1 hi)).2 hi) hp.wf
   | pan r=>exact AV.ren (fun i hi=>(hIn1 i (Fq hL1 hi)).2 hi) hp.wf
 . intro j cs' hj
   obtain ⟨i,cs,hi,rfl,h1,rfl⟩:=E7 hinj hL1 hj;have hin:InH (lk L1) i:=by unfold InH;rw [h1];rfl
   obtain ⟨q1,q2,q3⟩:=hp.hb i cs h1;refine ⟨hint.hb hin q3 q1 (fun hph=>q1.nim hph),fun hph=>?_,fun c hc=>?_⟩
   . simp only [Gh.cmp,hτ i hi] at hph ⊢
     exact (q2 hph).imp id (hlent _)
   . obtain ⟨c0,hc0,rfl⟩:=List.mem_map.1 hc
     exact AC.ren (fun i hi=>(hIn1 i (Fq hL1 hi)).2 hi) (q3 c0 hc0)
 . intro j j' hj hj' hpj hpj' he
   obtain ⟨x,hx⟩:=Option.isSome_iff_exists.1 hj;obtain ⟨y,hy⟩:=Option.isSome_iff_exists.1 hj';obtain ⟨i,cs,hi,rfl,h1,_⟩:=E7 hinj hL1 hx;obtain ⟨i',cs',hi',rfl,h1',_⟩:=E7 hinj hL1 hy;simp only [Gh.cmp,hτ i hi,hτ i' hi'] at hpj hpj' he;rw [hp.inj i i' (by unfold InH;rw [h1];rfl) (by unfold InH;rw [h1'];rfl) hpj hpj' he]
 . intro j hj hin
   obtain ⟨i,hi,rfl⟩:=List.mem_map.1 hj;have:=hp.st i hi ((hIn1 i (hks i hi)).1 hin);simp only [Gh.cmp,hτ i (hks i hi)] at this ⊢;exact this
theorem NB {ks:List Nat} {L1:List (Nat × List V)} (hi:∀ p∈L1,p.1∈ks\/p.1<1048576) {i:Nat} (h:InH (lk L1) i) (hn:i ∉ ks):i<1048576:=by
 obtain ⟨x,hx⟩:=Option.isSome_iff_exists.1 h;rcases hi _ (B4 hx) with h | h
 . exact absurd h hn
 . exact h
theorem AU.mkR {H:Hp} {b:Nat} {g:FuncId} {az:List V} {Kc Kx:V->Hp->Prop} (args:List V) (L:List (Nat × List V)) (ks:List Nat) (res:Res) (L1:List (Nat × List V)) (hf:Cm P g args (lk L) ks res (lk L1)) (hin:Fr H L) (hi:∀ p∈L1,p.1∈ks\/p.1<1048576) (hks:Jq b L L1 ks) (hL:∀ p∈L,p.1<b)
   (hb:AJ (Bor noH) az args\/(AJ (Bor (E0 H L)) az args/\AV (InH (lk L1)) B9 res.v/\Em (InH (lk L1)) L1)) (hk:ES res (sg ks b) (I2 (E0 H L) ks b L1) Kc Kx):AU P none H H b g az Kc Kx:=by
 have hL':∀ i,InH (lk L) i->i<b:=fun i h=>by
   obtain ⟨x,hx⟩:=Option.isSome_iff_exists.1 h;exact hL _ (B4 hx)
 refine ⟨args,lk L,ks,res,lk L1,_,⟨hf,hin.at,fun i h hn=>NB hi h hn,fun i h=>(hks.at i h).2.2,hb.imp id fun h=>⟨?_,E6 h.2.1 h.2.2⟩⟩,trivial,(E1 H ks b L L1 hks hL').symm,hk⟩;have:EE H (lk L)=E0 H L:=by funext i;rw [H7];rfl
 rw [this];exact h.1
def wrL (ws:List (Nat × Nat)) (k b:Nat) (ks:List Nat) (L1:List (Nat × List V)):List (Nat × List V)->Prop
 | []=>True
 | p::r=>((k,p.1)∈ws\/(p.1∈ks/\(lk L1 p.1).map (·.map (BJ (sg ks b)))=some p.2))/\wrL ws k b ks L1 r
theorem wrL.at {ws:List (Nat × Nat)} {k b:Nat} {ks:List Nat} {L1:List (Nat × List V)}:∀ {L:List (Nat × List V)},wrL ws k b ks L1 L->∀ i cs,lk L i=some cs->(k,i)∈ws\/(i∈ks/\(lk L1 i).map (·.map (BJ (sg ks b)))=some cs)
 | [],_,i,cs,h=>by simp [lk] at h
 | p::r,hw,i,cs,h=>by
   simp only [lk] at h;split at h
   . rename_i e;cases h;rw [e];exact hw.1
   . exact hw.2.at i cs h
section
variable {P:Program} {Hr H:Hp} {b:Nat} {g:FuncId} {az:List V} {Kc Kx:V->Hp->Prop} {args:List V} {L:List (Nat × List V)} {ks:List Nat} {res:Res} {L1:List (Nat × List V)}
theorem CRs (hf:Cm P g args (lk L) ks res (lk L1)) (h:Fr H L/\(∀ p∈L1,p.1∈ks\/p.1<1048576)/\Jq b L L1 ks/\(∀ p∈L,p.1<b)/\(AJ (Bor noH) az args\/(AJ (Bor (E0 H L)) az args/\AV (InH (lk L1)) B9 res.v/\Em (InH (lk L1)) L1))) (hk:ES res (sg ks b) (I2 (E0 H L) ks b L1) Kc Kx):AU P none H H b g az Kc Kx:=
 AU.mkR args L ks res L1 hf h.1 h.2.1 h.2.2.1 h.2.2.2.1 h.2.2.2.2 hk
end
end Go.Psl
namespace Go.Psl
variable {P:Program} {Γ:Tys} {eqs:Eqs} {K:RK} {Kx:V->RK} {b n:Nat} {r:List PO} {f:Nat->V} {H:Hp} {dst:Option Nat}
def mF (Kx:V->RK) (f:Nat->V) (H:Hp) (n:Nat):V->Prop
 | .d (.ifc t ag cs)=>Kx (.d (.ifc t ag cs)) f H n
 | _=>False
theorem ABb {t:TypeId} {ag:Bool} {cs:List D}:mF Kx f H n (.d (.ifc t ag cs))=Kx (.d (.ifc t ag cs)) f H n:=AF rfl
theorem mG {x:Operand}:rr P Γ eqs Kx K b (⟨dst, .panic x,none⟩::r) f H=mF Kx f H (b+1048576) (evF f x):=by
 simp only [rr,H8,PO.run,gV2,Fa,A9,true_and];unfold mF;split
 . rename_i t ag cs h;rw [h];simp
 . rename_i h
   simp only [eq_iff_iff,iff_false,not_and]
   rintro ⟨t,ag,cs,e⟩
   exact absurd e (h t ag cs)
attribute [simp] mG ABb jH
end Go.Psl
namespace Go.Psl
section
variable {P:Program} {Γ:Tys} {eqs:Eqs} {E:Ent} {K:RK} {Kx:V->RK} {b:Nat} {r:List PO} {f:Nat->V} {H:Hp} {o:PO} {Q:Av->St->Prop} {n:Nat}
theorem AXG {p:Prop} [Decidable p] (h1:p->rr P Γ eqs Kx K b (⟨o.dst,o.op,none⟩::r) f H) (h2:¬ p->rr P Γ eqs Kx K (b+1048576) r (Am f o.dst (.tup [])) H):rg P Γ eqs (some (decide p)) Kx K b o r f H:=bu (fun h=>h1 (of_decide_eq_true h)) fun h=>h2 (of_decide_eq_false h)
theorem AYx {t:Bool} (h1:t=false->rr P Γ eqs Kx K b (⟨o.dst,o.op,none⟩::r) f H) (h2:t=true->rr P Γ eqs Kx K (b+1048576) r (Am f o.dst (.tup [])) H):rg P Γ eqs (some (!t)) Kx K b o r f H:=bu (fun h=>h1 (by simpa using h)) fun h=>h2 (by simpa using h)
theorem AXH {p:Prop} [Decidable p] (h1:¬ p->rr P Γ eqs Kx K b (⟨o.dst,o.op,none⟩::r) f H) (h2:p->rr P Γ eqs Kx K (b+1048576) r (Am f o.dst (.tup [])) H):rg P Γ eqs (some (!decide p)) Kx K b o r f H:=bu (fun h=>h1 (by simpa using h)) fun h=>h2 (by simpa using h)
theorem AXI {p:Prop} [Decidable p] {a c:PC} (h1:p->PW P Γ eqs E a Q ⟨f,H,n⟩) (h2:¬ p->PW P Γ eqs E c Q ⟨f,H,n⟩):cR P Γ eqs E (.d (.lit (.bool (decide p)))) a c Q f H n:=DW (fun h=>h1 (of_decide_eq_true h)) fun h=>h2 (of_decide_eq_false h)
theorem AYy {t:Bool} {a c:PC} (h1:t=false->PW P Γ eqs E a Q ⟨f,H,n⟩) (h2:t=true->PW P Γ eqs E c Q ⟨f,H,n⟩):cR P Γ eqs E (.d (.lit (.bool (!t)))) a c Q f H n:=DW (fun h=>h1 (by simpa using h)) fun h=>h2 (by simpa using h)
theorem AXJ {p:Prop} [Decidable p] {a c:PC} (h1:¬ p->PW P Γ eqs E a Q ⟨f,H,n⟩) (h2:p->PW P Γ eqs E c Q ⟨f,H,n⟩):cR P Γ eqs E (.d (.lit (.bool (!decide p)))) a c Q f H n:=DW (fun h=>h1 (by simpa using h)) fun h=>h2 (by simpa using h)
end
def Qa (f:V->V->List (Nat × Nat)):List V->List V->List (Nat × Nat)
 | a::r,c::s=>f a c++Qa f r s
 | _,_=>[]
def Q1:V->V->List (Nat × Nat)
 | .lp j _, .lp i _=>[(i,j)]
 | .ls j _ _ _, .ls i _ _ _=>[(i,j)]
 | .yl j, .yl i=>[(i,j)]
 | _,_=>[]
def Qc:V->V->List (Nat × Nat)
 | .cl _ cs, .cl _ ds=>Qa Q1 cs ds
 | a,c=>Q1 a c
def Rg:V->V->List (Nat × Nat)
 | .agg cs, .agg ds=>Qa Qc cs ds
 | a,c=>Qc a c
def Ra:V->V->List (Nat × Nat)
 | .tup cs, .tup ds=>Qa Rg cs ds
 | a,c=>Rg a c
def P1 (f:Nat->V):List (Nat × V)->List (Nat × Nat)
 | []=>[]
 | p::r=>Ra (f p.1) p.2++P1 f r
def Rs:Option Nat->Hp->List V->List (Nat × Nat)
 | some j,H,cs=>Qa Qc ((H j).getD []) cs
 | none,_,_=>[]
def Nl (H:Hp) (a:List (Nat × Nat)):List (Nat × List V)->List (Nat × Nat)
 | []=>a
 | p::r=>Nl H (a++Rs (lk a p.1) H p.2) r
theorem RetA {Γ:Tys} {fn:Func} {ks:List Nat} {r:V} {H1:List (Nat × List V)} {st:St} (h:oq (lk (Nl st.H (Ra (P8 ((AGe Γ st.H st.fr fn.results.toList).getD [])) r) H1)) ks r st.H H1 (AGe Γ st.H st.fr fn.results.toList)):Dc Γ fn ks r H1 st:=AB.by _ h
section
variable {P:Program} {Γ:Tys} {eqs:Eqs} {E:Ent}
theorem WkA {st:St} {l:List (Nat × V)} {h:List (Nat × List V)} {n:Nat} (hs:∀ i,¬ E.stab i) (hh:((CL (lk (Nl st.H (P1 st.fr l) h)) st.fr l/\Ej (lk (Nl st.H (P1 st.fr l) h)) st.H h)/\G3 (lk (Nl st.H (P1 st.fr l) h)) h)/\Bw n l/\A7 n h):AI P E st ⟨AO l,lk h,n⟩:=
 AI.mk hs _ l h n hh.1.1.1 hh.1.1.2 hh.1.2 hh.2.1 hh.2.2
theorem AWR {a:PC} {Q:Av->St->Prop} {st:St} (N:Nat) (S:Nat->St) (I:Nat->Prop) (hN:N<=1000000000000) (h0:I 0) (hw:AI P E st (S 0))
   (step:∀ i,i<N->(i:Int)<N->IntKind.wrap .i64 ((i:Int)+1)=(i:Int)+1->I i->PW P Γ eqs E a (DP (fun st'=>I (i+1)/\AI P E st' (S (i+1))) Q) (S i))
   (fin:I N->PW P Γ eqs E a (DP (fun _=>False) Q) (S N)):PW P Γ eqs E (.loop a) Q st:=by
 refine Al S (fun i=>i<=N/\I i) (fun i=>N-i) 0 ⟨by omega,h0⟩ hw ?_
 rintro i ⟨h1,h2⟩
 by_cases h:i<N
 . refine PW.mono (step i h (by omega) (by rw [AD (by omega) (by omega)]) h2) fun e st h3=>GO (fun _ h4=>⟨i+1,⟨by omega,h4.1⟩,by omega,h4.2⟩) (fun _ _ h=>h) e st h3
 . obtain rfl:i=N:=by omega
   exact PW.mono (fin h2) fun e st h3=>GO (fun _ h4=>h4.elim) (fun _ _ h=>h) e st h3
theorem Aa0 {a:PC} {Q:Av->St->Prop} {st:St} {α:Type} {l:List α} (ok:α->Bool) (S:Nat->St) (hl:l.length<=1000000000000) (hw:AI P E st (S 0))
   (step:∀ i x,l[i]?= some x->i<l.length->(i:Int)<l.length->IntKind.wrap .i64 ((i:Int)+1)=(i:Int)+1->(ok x=false->l.all ok=false)->PW P Γ eqs E a (DP (fun st'=>ok x=true/\AI P E st' (S (i+1))) Q) (S i))
   (fin:l.all ok=true->PW P Γ eqs E a (DP (fun _=>False) Q) (S l.length)):PW P Γ eqs E (.loop a) Q st:=by
 refine AWR l.length S (fun i=>∀ j,j<i->(l[j]?).all ok=true) hl (fun j hj=>by omega) hw (fun i h hI hz hi=>?_) fun hi=>fin ?_
 . obtain ⟨x,hx⟩:=gE h
   refine PW.mono (step i x hx h hI hz fun e=>?_) fun e st h3=>GO (fun _ h4=>⟨fun j hj=>?_,h4.2⟩) (fun _ _ h=>h) e st h3
   . rw [List.all_eq_false];exact ⟨x,List.mem_of_getElem? hx,by simp [e]⟩
   . by_cases q:j=i
     . subst q;rw [hx];exact h4.1
     . exact hi j (by omega)
 . rw [List.all_eq_true]
   intro x hx;obtain ⟨j,hj⟩:=List.getElem?_of_mem hx;have:=hi j (List.getElem?_eq_some_iff.1 hj).1;rw [hj] at this;exact this
end
theorem ACe {P:Program} {m:CM} {Hr H:Hp} {b:Nat} {g:FuncId} {az:List V} {Kc Kx:V->Hp->Prop} (r:V) (H1:List (Nat × List V)) (hf:Ct P g az r H1) (hb:AJ (Bor Hr) az az) (hi:BW 1048576 H1) (hc:AJ (Bor noH) az az\/(AV (InH (lk H1)) B9 r/\Em (InH (lk H1)) H1)) (hk:Kc (ren (b+·) r) (I1 H b H1)):AU P m Hr H b g az Kc Kx:=AU.mk az r H1 hf hb hi hc hk
theorem W {p:Prop} (h:p:=by
 try simp [*,AA,AM,inC,Nat.testBit]
 repeat' (first
     | (refine AXH (fun h=>?_) (fun h=>?_)<;>try simp [*,AA,AM,inC,Nat.testBit])
     | (refine AXG (fun h=>?_) (fun h=>?_)<;>try simp [*,AA,AM,inC,Nat.testBit])
     | (refine AYx (fun h=>?_) (fun h=>?_)<;>try simp [*,AA,AM,inC,Nat.testBit])
     | (refine bu (fun h=>?_) (fun h=>?_)<;>try simp [*,AA,AM,inC,Nat.testBit])
     | (refine AXJ (fun h=>?_) (fun h=>?_)<;>try simp [*,AA,AM,inC,Nat.testBit])
     | (refine AXI (fun h=>?_) (fun h=>?_)<;>try simp [*,AA,AM,inC,Nat.testBit])
     | (refine AYy (fun h=>?_) (fun h=>?_)<;>try simp [*,AA,AM,inC,Nat.testBit])
     | (refine DW (fun h=>?_) (fun h=>?_)<;>try simp [*,AA,AM,inC,Nat.testBit])
     | (refine ACe _ _ (by assumption) ?_ ?_ ?_ ?_;(focus (simp;done));(focus (simp;done));(focus (first | (left;simp;done) | (right;simp;done)));try simp [*,AA,AM,inC,Nat.testBit])
     | (refine AU.mk _ _ _ c ?_ ?_ ?_ ?_;(focus (first | (simp;done) | (simp [Bk,CP, *];done)));(focus (simp;done));(focus (first | (left;simp;done) | (right;simp;done)));try simp [*,AA,AM,inC,Nat.testBit])
     | (refine AU.mk _ _ _ c1 ?_ ?_ ?_ ?_;(focus (first | (simp;done) | (simp [Bk,CP, *];done)));(focus (simp;done));(focus (first | (left;simp;done) | (right;simp;done)));try simp [*,AA,AM,inC,Nat.testBit])
     | (refine AU.mk _ _ _ c2 ?_ ?_ ?_ ?_;(focus (first | (simp;done) | (simp [Bk,CP, *];done)));(focus (simp;done));(focus (first | (left;simp;done) | (right;simp;done)));try simp [*,AA,AM,inC,Nat.testBit])
     | (refine AU.mk _ _ _ c3 ?_ ?_ ?_ ?_;(focus (first | (simp;done) | (simp [Bk,CP, *];done)));(focus (simp;done));(focus (first | (left;simp;done) | (right;simp;done)));try simp [*,AA,AM,inC,Nat.testBit])
     | (refine AU.mk _ _ _ c4 ?_ ?_ ?_ ?_;(focus (first | (simp;done) | (simp [Bk,CP, *];done)));(focus (simp;done));(focus (first | (left;simp;done) | (right;simp;done)));try simp [*,AA,AM,inC,Nat.testBit])
     | (refine AU.mk _ _ _ c5 ?_ ?_ ?_ ?_;(focus (first | (simp;done) | (simp [Bk,CP, *];done)));(focus (simp;done));(focus (first | (left;simp;done) | (right;simp;done)));try simp [*,AA,AM,inC,Nat.testBit])
     | (refine AU.mk _ _ _ c6 ?_ ?_ ?_ ?_;(focus (first | (simp;done) | (simp [Bk,CP, *];done)));(focus (simp;done));(focus (first | (left;simp;done) | (right;simp;done)));try simp [*,AA,AM,inC,Nat.testBit])
     | (refine AU.mk _ _ _ c7 ?_ ?_ ?_ ?_;(focus (first | (simp;done) | (simp [Bk,CP, *];done)));(focus (simp;done));(focus (first | (left;simp;done) | (right;simp;done)));try simp [*,AA,AM,inC,Nat.testBit])
     | (refine AU.mk _ _ _ c8 ?_ ?_ ?_ ?_;(focus (first | (simp;done) | (simp [Bk,CP, *];done)));(focus (simp;done));(focus (first | (left;simp;done) | (right;simp;done)));try simp [*,AA,AM,inC,Nat.testBit])
     | (refine AU.mk _ _ _ c9 ?_ ?_ ?_ ?_;(focus (first | (simp;done) | (simp [Bk,CP, *];done)));(focus (simp;done));(focus (first | (left;simp;done) | (right;simp;done)));try simp [*,AA,AM,inC,Nat.testBit])
     | (refine RetA ?_;first | (simp [Qa,Q1,Qc,Rg,Ra,P1,Rs,Nl];done) | simp_all [Qa,Q1,Qc,Rg,Ra,P1,Rs,Nl])
     | (refine ⟨?_,WkA hE ?_⟩;(focus first | (simp;done) | (simp_all;done));(focus first | (simp [Qa,Q1,Qc,Rg,Ra,P1,Rs,Nl];done) | (simp_all [Qa,Q1,Qc,Rg,Ra,P1,Rs,Nl];done))))):p:=h
end Go.Psl
namespace Go.Psl
def KF:PC->List PC->PC × List PC
 | .seq a b,ls=>let x:=KF a ls;let y:=KF b x.2;(.seq x.1 y.1,y.2)
 | .cond c a b,ls=>let x:=KF a ls;let y:=KF b x.2;(.cond c x.1 y.1,y.2)
 | .block i a,ls=>let x:=KF a ls;(.block i x.1,x.2)
 | .loop _,l::ls=>(.loop l,ls)
 | .rangeF f ps _ _,a::b::ls=>(.rangeF f ps a b,ls)
 | x,ls=>(x,ls)
def Db:PC->List PC
 | .seq a b=>Db a++Db b
 | .cond _ a b=>Db a++Db b
 | .block _ a=>Db a
 | .loop a=>Db a++[a]
 | .rangeF _ _ a b=>Db a++[a]++Db b++[b]
 | _=>[]
def AYL (f:Func):PC:=match f.body.bind (comp f.ntmps) with | some p=>p | none=> .skip
def G (f:Func) (ls:List PC):PC:=(KF (AYL f) ls).1
def K (f:Func) (k:Nat) (ls:List PC):PC:=(KF ((Db (AYL f)).getD k .skip) ls).1
abbrev Rd {α:Type} (x:α):={y:α // x=y}
end Go.Psl
