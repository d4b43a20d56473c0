/- Own lemmas, used by the last text. Conditions: those that each theorem states. -/
import Derived.Deep.Slices
import Derived.Lib.SmallJoins
import Derived.OpenShut
import Derived.ProofKit
import Derived.Test.YtnjclpglagcagaaGreatEcaa
import Derived.Test.YtnjclpglagcagaaGreatEcae
import Derived.Test.YtnjclpglagcagaaGreatProg
set_option maxRecDepth 200000
set_option maxHeartbeats 8000000
namespace Go.Psl
variable {Γ:Tys} {eqs:Eqs} {H:Hp} {t:TypeId} {b:Nat}
theorem UP {cs:List D}:EO Γ H t (.d (.ref cs))=(Γ t).bind fun y=>if y.size<=cs.length then some (mkV y.agg ((cs.take y.size).map .d), .none) else none:=AF rfl
theorem XR {id off:Nat}:EO Γ H t (.lp id off)=(Γ t).bind fun y=>(H id).bind fun cells=>if off+y.size<=cells.length then some (mkV y.agg ((cells.drop off).take y.size), .none) else none:=AF rfl
theorem dW {cs:List V}:mkV true cs= .agg cs:=AF rfl
theorem dX {c:V} {cs:List V}:mkV false (c::cs)=c:=AF rfl
theorem UQ {id off:Nat} {v:V}:ALr Γ H t (.lp id off) v=(Γ t).bind fun y=>(H id).bind fun cells=>if v.cells.length=y.size/\off+y.size<=cells.length/\v.cells.all V.isCell=true then some (.junk, .put id (AA cells off v.cells)) else none:=AF rfl
theorem UR {cs:List V}:V.cells (.agg cs)=cs:=AF rfl
theorem dY {x:D}:V.cells (.d x)=[.d x]:=AF rfl
theorem XT {i o:Nat}:V.cells (.lp i o)=[.lp i o]:=AF rfl
theorem XU {i o l z:Nat}:V.cells (.ls i o l z)=[.ls i o l z]:=AF rfl
theorem XV {f:FuncId} {c:List V}:V.cells (.cl f c)=[.cl f c]:=AF rfl
theorem XW {x:D}:V.isCell (.d x)=true:=AF rfl
theorem US {i o:Nat}:V.isCell (.lp i o)=true:=AF rfl
theorem UT {i o l z:Nat}:V.isCell (.ls i o l z)=true:=AF rfl
theorem UU {f:FuncId} {c:List V}:V.isCell (.cl f c)=true:=AF rfl
theorem XX {f:Nat->V}:ED f []=[]:=AF rfl
theorem UV {f:Nat->V} {i:Nat} {x:Operand} {r:List (Nat × Operand)}:ED f ((i,x)::r)=(i,evF f x)::ED f r:=AF rfl
theorem AIg {f:Nat->V}:BX f []=[]:=AF rfl
theorem UW {f:Nat->V} {x:Operand} {r:List Operand}:BX f (x::r)=evF f x::BX f r:=AF rfl
theorem dZ {f:Nat->V} {t:Nat}:evF f (.tmp t)=f t:=AF rfl
theorem UX {f:Nat->V} {v:Value}:evF f (.const v)=evC v:=AF rfl
theorem XZ {f:Nat->V} {g:FuncId}:evF f (.func g)= .d (.fn g []):=AF rfl
theorem UY {g:FuncId} {cs:List D}:Be (.d (.fn g cs))=some (g,cs.map .d):=AF rfl
theorem UZ {g:FuncId} {cs:List V}:Be (.cl g cs)=some (g,cs):=AF rfl
theorem AOv {i:Nat}:V.cells (.yl i)=[.yl i]:=AF rfl
theorem AOE {i:Nat}:V.isCell (.yl i)=true:=AF rfl
theorem QJ {cs:List D} {i:Nat}:Hv Γ t (.d (.ref cs)) i=(Γ t).bind fun y=>match y.sh with
 | .struct fs=>fs[i]?.bind fun p=>(Γ p.2).bind fun yf=>if yf.size=0 then none else some (.d (.ref (cs.drop p.1)), .none)
 | _=>none:=AF rfl
theorem AOF {id off i:Nat}:Hv Γ t (.lp id off) i=(Γ t).bind fun y=>match y.sh with
 | .struct fs=>fs[i]?.bind fun p=>(Γ p.2).bind fun yf=>if yf.size=0 then none else some (.lp id (off+p.1), .none)
 | _=>none:=AF rfl
theorem da {sz:Nat} {es:List (List D)}:Iy Γ t (.d (.sl sz es))=(Γ t).bind fun y=>match y.sh with | .slice _=>some (.d (.lit (.int .i64 es.length)), .none) | _=>none:=by
 unfold Iy;congr;funext y;cases y.sh<;>rfl
theorem Sw {i o l z:Nat}:Iy Γ t (.ls i o l z)=(Γ t).bind fun y=>match y.sh with | .slice _=>some (.d (.lit (.int .i64 l)), .none) | _=>none:=by
 unfold Iy;congr;funext y;cases y.sh<;>rfl
theorem OQ {a:Option Addr} {n c:Nat}:Iy Γ t (.d (.lit (.slice a n c)))=(Γ t).bind fun y=>match y.sh with | .slice _=>some (.d (.lit (.int .i64 0)), .none) | _=>none:=by
 unfold Iy;congr;funext y;cases y.sh<;>rfl
theorem vw {o:BinOp} {k k':IntKind} {x y:Int}:FV Γ eqs o t (.d (.lit (.int k x))) (.d (.lit (.int k' y)))=(CJ o k k' x y).map fun v=>(.d (.lit v), .none):=AF rfl
theorem AOG {o:BinOp} {x y:Bool}:FV Γ eqs o t (.d (.lit (.bool x))) (.d (.lit (.bool y)))=(Γ t).bind fun z=>match z.sh,o with
   | .bool, .eql=>some (.d (.lit (.bool (x == y))), .none)
   | .bool, .neq=>some (.d (.lit (.bool (x != y))), .none)
   | _,_=>none:=AF rfl
theorem vx {o:BinOp} {x y:List V}:FV Γ eqs o t (.agg x) (.agg y)=(eqs t).bind fun ks=>match o with
   | .eql=>(Bi ks x y).map fun r=>(.d (.lit (.bool r)), .none)
   | .neq=>(Bi ks x y).map fun r=>(.d (.lit (.bool (!r))), .none)
   | _=>none:=AF rfl
section
variable {k:IntKind} {x y:Int}
theorem vy:CJ .add k k x y=some (.int k (k.wrap (x+y))):=by simp [CJ]
theorem vz:CJ .sub k k x y=some (.int k (k.wrap (x-y))):=by simp [CJ]
theorem Xj:CJ .mul k k x y=some (.int k (k.wrap (x*y))):=by simp [CJ]
theorem ABH:CJ .quo k k x y=if y=0 then none else some (.int k (k.wrap (x.tdiv y))):=by simp [CJ]
theorem u7:CJ .rem k k x y=if y=0 then none else some (.int k (x.tmod y)):=by simp [CJ]
theorem Sx {x y:Int}:(x == y)=decide (x=y):=by by_cases h:x=y<;>simp [h]
theorem db {x y:Int}:(x != y)=!decide (x=y):=by by_cases h:x=y<;>simp [h]
theorem ADd:CJ .eql k k x y=some (.bool (decide (x=y))):=by simp [CJ,Sx]
theorem Xn:CJ .neq k k x y=some (.bool (!decide (x=y))):=by simp [CJ,db]
theorem ADe:CJ .lss k k x y=some (.bool (decide (x<y))):=by simp [CJ]
theorem ABW:CJ .leq k k x y=some (.bool (decide (x<=y))):=by simp [CJ]
theorem ADf:CJ .gtr k k x y=some (.bool (decide (y<x))):=by simp [CJ]
theorem ADg:CJ .geq k k x y=some (.bool (decide (y<=x))):=by simp [CJ]
end
section
variable {k k':IntKind} {x y:Int}
theorem AE8:CJ .shl k k' x y=if 0<=y/\y<=k.bits then some (.int k (k.wrap (x*2^y.toNat))) else none:=AF rfl
theorem AOw:CJ .shr k k' x y=if 0<=y/\y<=k.bits then some (.int k (x/2^y.toNat)) else none:=AF rfl
theorem AFy:CJ .and k k x y=some (.int k (bits .and k x y)):=by simp [CJ]
theorem dc:CJ .or k k x y=some (.int k (bits .or k x y)):=by simp [CJ]
theorem AFz:CJ .xor k k x y=some (.int k (bits .xor k x y)):=by simp [CJ]
theorem AGu:IntKind.bits .u64=64:=AF rfl
theorem AHw:IntKind.bits .i64=64:=AF rfl
end
theorem de {x:Bool}:unF .not (.d (.lit (.bool x)))=some (.d (.lit (.bool (!x))), .none):=AF rfl
theorem dh {k:IntKind} {x:Int}:unF .neg (.d (.lit (.int k x)))=some (.d (.lit (.int k (k.wrap (-x)))), .none):=AF rfl
theorem QK {c:Bool} {x y:Bool}:Jo (.d (.lit (.bool c))) (.d (.lit (.bool x))) (.d (.lit (.bool y)))=some (.d (.lit (.bool (if c then x else y))), .none):=AF rfl
theorem QL {x y:V}:Jo (.d (.lit (.bool true))) x y=some (x, .none):=by
 have:GI true x y=x:=by unfold GI;split<;>rfl
 show some (GI true x y,Eff.none)=_
 rw [this]
theorem OS {x y:V}:Jo (.d (.lit (.bool false))) x y=some (y, .none):=by
 have:GI false x y=y:=by unfold GI;split<;>rfl
 show some (GI false x y,Eff.none)=_
 rw [this]
theorem dj {x:Bool}:gV (.d (.lit (.bool x)))=some (some x):=AF rfl
theorem AIh:gV (.tup [])=some none:=AF rfl
theorem AOH {vs:List V} {i:Nat}:Mc (.tup vs) i=vs[i]?.map fun v=>(v, .none):=AF rfl
theorem dm {v:V}:iW b v=if v.cells.all V.isCell then some (.lp b 0, .new b v.cells) else none:=AF rfl
theorem AOI:Nx Γ b t=(Γ t).bind fun y=>if t == AMD then (if AQ2 y.zero=true then some (.yl b, .new b [.d (.lit (.slice none 0 0)), .d (.lit (.int .i64 0))]) else none) else some (.lp b 0, .new b (y.zero.map cV)):=AF rfl
theorem ABx {v:Value}:cV v= .d (.lit v):=AF rfl
theorem AKe {x y:Bool}:((some x:Option Bool) == some y)=(x == y):=AF rfl
theorem AF0 {y:Bool}:((none:Option Bool) == some y)=false:=AF rfl
theorem X1 {k t:Nat}:Dn k [] t= .tup []:=AF rfl
theorem AOJ {k t:Nat} {a:V} {r:List V}:Dn k (a::r) t=if t=k then a else Dn (k+1) r t:=AF rfl
theorem AOK {t:Nat}:AO [] t= .junk:=AF rfl
theorem QM {k t:Nat} {a:V} {r:List (Nat × V)}:AO ((k,a)::r) t=if t=k then a else AO r t:=by
 simp only [AO,lk];split<;>rfl
theorem jo {α:Type} {t:Nat}:lk ([]:List (Nat × α)) t=none:=AF rfl
theorem dp {α:Type} {k t:Nat} {a:α} {r:List (Nat × α)}:lk ((k,a)::r) t=if t=k then some a else lk r t:=AF rfl
section
variable {ρ:Nat->Option Nat}
theorem X2 {α β:Type} {R:α->β->Prop}:AJ R [] []=True:=AF rfl
theorem AOL {α β:Type} {R:α->β->Prop} {a:α} {b:β} {az:List α} {bs:List β}:AJ R (a::az) (b::bs)=(R a b/\AJ R az bs):=AF rfl
theorem W0_d {v:V} {x:D}:W0 ρ v (.d x)=(v= .d x):=AF rfl
theorem W1_d {v:V} {x:D}:W1 ρ v (.d x)=(v= .d x):=AF rfl
theorem W2_d {v:V} {x:D}:W2 ρ v (.d x)=(v= .d x):=AF rfl
theorem WV_d {v:V} {x:D}:WV ρ v (.d x)=(v= .d x):=AF rfl
theorem dt {v:V}:W0 ρ v .junk=True:=AF rfl
theorem du {v:V}:W1 ρ v .junk=True:=AF rfl
theorem dw {v:V}:W2 ρ v .junk=True:=AF rfl
theorem AU6 {v:V}:WV ρ v .junk=True:=AF rfl
theorem OT {i j o o':Nat}:W0 ρ (.lp j o) (.lp i o')=(ρ i=some j/\o=o'):=by
 simp only [W0,V.lp.injEq,eq_iff_iff];constructor
 . rintro ⟨j',h1,rfl,rfl⟩;exact ⟨h1,rfl⟩
 . rintro ⟨h1,rfl⟩;exact ⟨j,h1,rfl,rfl⟩
theorem AFM {i j o o':Nat}:W1 ρ (.lp j o) (.lp i o')=(ρ i=some j/\o=o'):=OT
theorem nz {i j o o':Nat}:W2 ρ (.lp j o) (.lp i o')=(ρ i=some j/\o=o'):=OT
theorem AIH {i j o o':Nat}:WV ρ (.lp j o) (.lp i o')=(ρ i=some j/\o=o'):=OT
theorem OU {i j o o' l l' z z':Nat}:W0 ρ (.ls j o l z) (.ls i o' l' z')=(ρ i=some j/\o=o'/\l=l'/\z=z'):=by
 simp only [W0,eq_iff_iff];cases ρ i with
 | none=>simp
 | some k=>simp [eq_comm]
theorem n8 {i j o o' l l' z z':Nat}:W1 ρ (.ls j o l z) (.ls i o' l' z')=(ρ i=some j/\o=o'/\l=l'/\z=z'):=OU
theorem n9 {i j o o' l l' z z':Nat}:W2 ρ (.ls j o l z) (.ls i o' l' z')=(ρ i=some j/\o=o'/\l=l'/\z=z'):=OU
theorem oA {i j o o' l l' z z':Nat}:WV ρ (.ls j o l z) (.ls i o' l' z')=(ρ i=some j/\o=o'/\l=l'/\z=z'):=OU
theorem ACX {i o l z:Nat}:W0 ρ (.d (.lit (.slice none 0 0))) (.ls i o l z)=(ρ i=none/\l=0):=by
 simp only [W0,eq_iff_iff];cases ρ i with
 | none=>simp
 | some k=>simp
theorem xD {i o l z:Nat}:W1 ρ (.d (.lit (.slice none 0 0))) (.ls i o l z)=(ρ i=none/\l=0):=ACX
theorem xE {i o l z:Nat}:W2 ρ (.d (.lit (.slice none 0 0))) (.ls i o l z)=(ρ i=none/\l=0):=ACX
theorem AH6 {i o l z:Nat}:WV ρ (.d (.lit (.slice none 0 0))) (.ls i o l z)=(ρ i=none/\l=0):=ACX
theorem jp {az bs:List V}:W2 ρ (.agg az) (.agg bs)=AJ (W1 ρ) az bs:=by simp [W2]
theorem jq {az bs:List V}:WV ρ (.agg az) (.agg bs)=AJ (W1 ρ) az bs:=by simp [WV,W2]
theorem jr {az bs:List V}:WV ρ (.tup az) (.tup bs)=AJ (W2 ρ) az bs:=by simp [WV]
theorem OV {f:Nat->V}:CL ρ f []=True:=AF rfl
theorem Mq {f:Nat->V} {t:Nat} {v:V} {r:List (Nat × V)}:CL ρ f ((t,v)::r)=(WV ρ (f t) v/\CL ρ f r):=AF rfl
theorem X3:Ej ρ H []=True:=AF rfl
theorem AOM {i:Nat} {cs:List V} {r:List (Nat × List V)}:Ej ρ H ((i,cs)::r)=((match ρ i with | some j=>(∃ cs',H j=some cs'/\AJ (WC ρ) cs' cs)/\Bv cs | none=>cs=[])/\Ej ρ H r):=AF rfl
theorem OW:Bv []=True:=by simp [Bv]
theorem Mr {c:V} {cs:List V} (h:V.isCell c=true):Bv (c::cs)=(cs.all V.isCell=true):=by
 simp only [Bv,List.all_cons,h,Bool.true_and,eq_iff_iff,or_iff_left_iff_imp]
 rintro (⟨fr,nt,ps,pa,pb,jmp,e⟩ | ⟨es,e⟩)
 . cases e;cases h
 . cases e;cases h
theorem AKQ {es:List (Value × Bool × List D)} {cs:List V}:AJ (WC ρ) cs (Qo es)=(cs=Qo es):=by
 have hm:∀ t,AV (fun i=>ρ i=some i) AR (mq es t):=fun t=>by
   unfold mq;split
   . intro c hc
     obtain ⟨x,_,rfl⟩:=List.mem_map.1 hc;trivial
   . trivial
 refine propext ⟨fun h=>?_,fun h=>?_⟩
 . match cs,h with
   | [a,b],h=>
     obtain ⟨h1,h2,_⟩:=h;have e1:a=ACA es:=h1.1;have e2:b= .d (.lit (.bool true)):=h2;rw [e1,e2];rfl
   | [],h=>exact h.elim
   | [_],h=>exact h.2.elim
   | _::_::_::_,h=>exact h.2.2.elim
 . subst h
   exact ⟨⟨rfl,hm⟩,rfl,trivial⟩
theorem AJV {es:List (Value × Bool × List D)}:Bv (Qo es)=True:=eq_true (.inr (.inr ⟨es,rfl⟩))
theorem AKf {p:Nat->Prop} {es:List (Value × Bool × List D)}:(∀ c,c∈Qo es->AC p AR c)=True:=eq_true fun c hc=>by
 simp only [Qo,List.mem_cons,List.not_mem_nil,or_false] at hc;rcases hc with rfl | rfl
 . intro t
   unfold mq;split
   . intro c hc
     obtain ⟨x,_,rfl⟩:=List.mem_map.1 hc;trivial
   . trivial
 . trivial
theorem WC_d {v:V} {x:D}:WC ρ v (.d x)=(v= .d x):=AF rfl
theorem oB {i j o o':Nat}:WC ρ (.lp j o) (.lp i o')=(ρ i=some j/\o=o'):=OT
theorem oC {i j o o' l l' z z':Nat}:WC ρ (.ls j o l z) (.ls i o' l' z')=(ρ i=some j/\o=o'/\l=l'/\z=z'):=OU
theorem eB {i o l z:Nat}:WC ρ (.d (.lit (.slice none 0 0))) (.ls i o l z)=(ρ i=none/\l=0):=ACX
theorem Sy {f g:FuncId} {cs ds:List V}:W1 ρ (.cl f cs) (.cl g ds)=(f=g/\AJ (W0 ρ) cs ds):=by
 simp only [W1,V.cl.injEq,eq_iff_iff];constructor
 . rintro ⟨c,⟨rfl,rfl⟩,h⟩;exact ⟨rfl,h⟩
 . rintro ⟨rfl,h⟩;exact ⟨cs,⟨rfl,rfl⟩,h⟩
theorem oD {f g:FuncId} {cs ds:List V}:WC ρ (.cl f cs) (.cl g ds)=(f=g/\AJ (W0 ρ) cs ds):=Sy
theorem oE {f g:FuncId} {cs ds:List V}:W2 ρ (.cl f cs) (.cl g ds)=(f=g/\AJ (W0 ρ) cs ds):=Sy
theorem oG {f g:FuncId} {cs ds:List V}:WV ρ (.cl f cs) (.cl g ds)=(f=g/\AJ (W0 ρ) cs ds):=Sy
theorem Sz {i j:Nat}:W0 ρ (.yl j) (.yl i)=(ρ i=some j):=by
 simp only [W0,V.yl.injEq,eq_iff_iff];constructor
 . rintro ⟨k,h1,rfl⟩;exact h1
 . intro h;exact ⟨j,h,rfl⟩
theorem oH {i j:Nat}:W1 ρ (.yl j) (.yl i)=(ρ i=some j):=Sz
theorem oI {i j:Nat}:W2 ρ (.yl j) (.yl i)=(ρ i=some j):=Sz
theorem oJ {i j:Nat}:WV ρ (.yl j) (.yl i)=(ρ i=some j):=Sz
theorem oK {v:V} {fr:Nat->V} {nt:Nat} {ps:List Nat} {pa pb:PC} {jmp:LSt}:WC ρ v (.lr fr nt ps pa pb jmp)=(v= .lr fr nt ps pa pb jmp/\∀ t,AV (fun i=>ρ i=some i) AR (fr t)):=AF rfl
theorem AON {h:Hp}:DZ ρ H h []=True:=AF rfl
theorem QN {h:Hp} {i:Nat} {r:List Nat}:DZ ρ H h (i::r)=(((h i).isSome=true->ρ i=some i/\(H i).isSome=true)/\DZ ρ H h r):=AF rfl
theorem AOO {h:Hp} {n:Nat}:HD ρ H h n []=True:=AF rfl
theorem QO {h:Hp} {i n:Nat} {r:List Nat}:HD ρ H h n (i::r)=(i<n/\((h i).isSome=true->ρ i=some i/\(H i).isSome=true)/\HD ρ H h n r):=AF rfl
theorem QP:Bd ρ []=True:=AF rfl
theorem OX {i:Nat} {cs:List V} {r:List (Nat × List V)}:Bd ρ ((i,cs)::r)=((∀ q∈r,ρ q.1=none\/ρ q.1≠ρ i\/q.1=i)/\Bd ρ r):=AF rfl
end
section
variable {p:Nat->Prop}
theorem AV_d {x:D}:AV p AR (.d x)=True:=AF rfl
theorem A2_d {x:D}:A2 p AR (.d x)=True:=AF rfl
theorem A1_d {x:D}:A1 p AR (.d x)=True:=AF rfl
theorem A0_d {x:D}:A0 p AR (.d x)=True:=AF rfl
theorem oL {i o:Nat}:AV p AR (.lp i o)=p i:=AF rfl
theorem oM {i o:Nat}:A2 p AR (.lp i o)=p i:=AF rfl
theorem oN {i o:Nat}:A1 p AR (.lp i o)=p i:=AF rfl
theorem oO {i o:Nat}:A0 p AR (.lp i o)=p i:=AF rfl
theorem oP {i o l z:Nat}:AV p AR (.ls i o l z)=p i:=AF rfl
theorem oQ {i o l z:Nat}:A2 p AR (.ls i o l z)=p i:=AF rfl
theorem oS {i o l z:Nat}:A1 p AR (.ls i o l z)=p i:=AF rfl
theorem ASG {i o l z:Nat}:A0 p AR (.ls i o l z)=p i:=AF rfl
theorem js {cs:List V}:AV p AR (.agg cs)=∀ c∈cs,A1 p AR c:=AF rfl
theorem jt {cs:List V}:A2 p AR (.agg cs)=∀ c∈cs,A1 p AR c:=AF rfl
theorem ju {cs:List V}:AV p AR (.tup cs)=∀ c∈cs,A2 p AR c:=AF rfl
theorem oU {f:FuncId} {cs:List V}:AV p AR (.cl f cs)=∀ c∈cs,A0 p AR c:=AF rfl
theorem oV {f:FuncId} {cs:List V}:A2 p AR (.cl f cs)=∀ c∈cs,A0 p AR c:=AF rfl
theorem oW {f:FuncId} {cs:List V}:A1 p AR (.cl f cs)=∀ c∈cs,A0 p AR c:=AF rfl
theorem Ms {n:Nat}:Bw n []=True:=AF rfl
theorem Lf {n t:Nat} {v:V} {r:List (Nat × V)}:Bw n ((t,v)::r)=(AV (· < n) AR v/\Bw n r):=AF rfl
theorem AOP {n:Nat}:A7 n []=True:=AF rfl
theorem QQ {n i:Nat} {cs:List V} {r:List (Nat × List V)}:A7 n ((i,cs)::r)=(i<n/\(∀ c∈cs,AC (· < n) AR c)/\A7 n r):=AF rfl
theorem AC_d {x:D}:AC p AR (.d x)=True:=AF rfl
theorem oX {i o:Nat}:AC p AR (.lp i o)=p i:=AF rfl
theorem oY {i o l z:Nat}:AC p AR (.ls i o l z)=p i:=AF rfl
theorem oZ {i:Nat}:AC p AR (.yl i)=p i:=AF rfl
theorem oc {f:FuncId} {cs:List V}:AC p AR (.cl f cs)=∀ c∈cs,A0 p AR c:=AF rfl
theorem od {fr:Nat->V} {nt:Nat} {ps:List Nat} {pa pb:PC} {jmp:LSt}:AC p AR (.lr fr nt ps pa pb jmp)=∀ t,AV p AR (fr t):=AF rfl
theorem oe {i:Nat}:A0 p AR (.yl i)=p i:=AF rfl
theorem og {i:Nat}:A1 p AR (.yl i)=p i:=AF rfl
theorem oh {i:Nat}:A2 p AR (.yl i)=p i:=AF rfl
theorem oi {i:Nat}:AV p AR (.yl i)=p i:=AF rfl
theorem X4 {x:D}:I8 (.d x)=True:=AF rfl
theorem QR {cs:List V}:I8 (.agg cs)=∀ c∈cs,A1 (fun _=>False) AR c:=AF rfl
theorem jv {H1:List (Nat × List V)} {i:Nat}:InB H1 i=((lk H1 i).isSome=true):=AF rfl
end
theorem X5 {f:Nat->V}:AGe Γ H f []=some []:=AF rfl
theorem X6 {f:Nat->V} {t:Nat} {r:List ResultVar}:AGe Γ H f (.tmp t::r)=(AGe Γ H f r).map (f t::·):=AF rfl
theorem ATI {f:Nat->V} {a T:Nat} {r:List ResultVar}:AGe Γ H f (.cell a T::r)=(EO Γ H T (f a)).bind fun p=>(AGe Γ H f r).map (p.1::·):=AF rfl
theorem X7 {v:V}:P8 [v]=v:=AF rfl
theorem X8 {v w:V} {r:List V}:P8 (v::w::r)= .tup (v::w::r):=AF rfl
theorem eC {x:D}:V.isTup (.d x)=false:=AF rfl
theorem X9 {i o:Nat}:V.isTup (.lp i o)=false:=AF rfl
theorem YA {i o l z:Nat}:V.isTup (.ls i o l z)=false:=AF rfl
theorem Un {cs:List V}:V.isTup (.agg cs)=false:=AF rfl
theorem YB {f:FuncId} {cs:List V}:V.isTup (.cl f cs)=false:=AF rfl
theorem AD {x:Int} (h1: -9223372036854775808<=x) (h2:x<=9223372036854775807):IntKind.wrap .i64 x=x:=by
 have:∀ m:Int,m=x%18446744073709551616->(if m>=9223372036854775808 then m-18446744073709551616 else m)=x:=fun m hm=>by split<;>omega
 simpa [IntKind.wrap,IntKind.bits,IntKind.signed] using this _ rfl
theorem Ay {x:Int} (h1:0<=x) (h2:x<=18446744073709551615):IntKind.wrap .u64 x=x:=by
 have:x%18446744073709551616=x:=by omega
 simpa [IntKind.wrap,IntKind.bits,IntKind.signed] using this
theorem oj {ρ:Nat->Nat} {x:D}:ren ρ (.d x)= .d x:=AF rfl
theorem jw {ρ:Nat->Nat} {i o:Nat}:ren ρ (.lp i o)= .lp (ρ i) o:=AF rfl
theorem jx {ρ:Nat->Nat} {i o l z:Nat}:ren ρ (.ls i o l z)= .ls (ρ i) o l z:=AF rfl
theorem eD {ρ:Nat->Nat} {cs:List V}:ren ρ (.agg cs)= .agg (cs.map (DS ρ)):=AF rfl
theorem eE {ρ:Nat->Nat} {cs:List V}:ren ρ (.tup cs)= .tup (cs.map (HR ρ)):=AF rfl
theorem jy {ρ:Nat->Nat} {x:D}:HR ρ (.d x)= .d x:=AF rfl
theorem eG {ρ:Nat->Nat} {i o l z:Nat}:HR ρ (.ls i o l z)= .ls (ρ i) o l z:=AF rfl
theorem eI {ρ:Nat->Nat} {i o:Nat}:HR ρ (.lp i o)= .lp (ρ i) o:=AF rfl
theorem YC {ρ:Nat->Nat} {cs:List V}:HR ρ (.agg cs)= .agg (cs.map (DS ρ)):=AF rfl
theorem jz {ρ:Nat->Nat} {x:D}:DS ρ (.d x)= .d x:=AF rfl
theorem eJ {ρ:Nat->Nat} {i o l z:Nat}:DS ρ (.ls i o l z)= .ls (ρ i) o l z:=AF rfl
theorem eK {ρ:Nat->Nat} {i o:Nat}:DS ρ (.lp i o)= .lp (ρ i) o:=AF rfl
theorem YD {base:Nat}:I1 H base []=H:=AF rfl
theorem Uo {base i:Nat} {cs:List V} {r:List (Nat × List V)}:I1 H base ((i,cs)::r)=upd (I1 H base r) (base+i) (some (cs.map (BJ (base+·)))):=AF rfl
theorem Up {n:Nat}:BW n []=True:=AF rfl
theorem QS {n i:Nat} {cs:List V} {r:List (Nat × List V)}:BW n ((i,cs)::r)=(i<n/\BW n r):=AF rfl
theorem ol {x y:D}:Bor H (.d x) (.d y)=(x=y\/(x= .lit (.slice none 0 0)/\∃ sz,y= .sl sz [])):=AF rfl
theorem AQe {x y:D}:Fi H (.d x) (.d y)=(x=y\/(x= .lit (.slice none 0 0)/\∃ sz,y= .sl sz [])):=AF rfl
theorem eM {az bs:List V}:Bor H (.agg az) (.agg bs)=AJ (Fi H) az bs:=AF rfl
theorem Bk {i o l z z':Nat} {es:List (List D)}:Bor H (.ls i o l z) (.d (.sl z' es))=(z'=z/\es.length=l/\(∀ e∈es,e.length=z)/\∃ cs,H i=some cs/\(cs.drop o).take (l*z)=es.flatten.map .d):=AF rfl
theorem CP {i o l z z':Nat} {es:List (List D)}:Fi H (.ls i o l z) (.d (.sl z' es))=(z'=z/\es.length=l/\(∀ e∈es,e.length=z)/\∃ cs,H i=some cs/\(cs.drop o).take (l*z)=es.flatten.map .d):=AF rfl
theorem j4 {i o:Nat} {ds:List D}:Bor H (.lp i o) (.d (.ref ds))=∃ cs,H i=some cs/\(cs.drop o).take ds.length=ds.map .d:=AF rfl
theorem YE {f g:FuncId} {caps:List V} {ds:List D}:Bor H (.cl f caps) (.d (.fn g ds))=(f=g/\AJ (Df H) caps (ds.map .d)):=AF rfl
theorem ADt {i o:Nat} {ds:List D}:Df H (.lp i o) (.d (.ref ds))=∃ cs,H i=some cs/\(cs.drop o).take ds.length=ds.map .d:=AF rfl
theorem j5 {x y:D}:Df H (.d x) (.d y)=(x=y\/(x= .lit (.slice none 0 0)/\∃ sz,y= .sl sz [])):=AF rfl
theorem YF {i o i' o':Nat}:Bor H (.lp i o) (.lp i' o')=(i=i'/\o=o'):=AF rfl
theorem YG {i o l z i' o' l' z':Nat}:Bor H (.ls i o l z) (.ls i' o' l' z')=(i=i'/\o=o'/\l=l'/\z=z'):=AF rfl
theorem j6 {i i':Nat}:Bor H (.yl i) (.yl i')=(i=i'):=AF rfl
theorem j7 {f g:FuncId} {cs ds:List V}:Bor H (.cl f cs) (.cl g ds)=(f=g/\cs=ds):=AF rfl
theorem j8 {i:Nat}:noH i=none:=AF rfl
theorem j9 {ρ:Nat->Nat} {x:D}:BJ ρ (.d x)= .d x:=AF rfl
theorem eO {ρ:Nat->Nat} {i o l z:Nat}:BJ ρ (.ls i o l z)= .ls (ρ i) o l z:=AF rfl
theorem eP {ρ:Nat->Nat} {i o:Nat}:BJ ρ (.lp i o)= .lp (ρ i) o:=AF rfl
theorem eQ {ρ:Nat->Nat} {f:FuncId} {cs:List V}:BJ ρ (.cl f cs)= .cl f (cs.map (DR ρ)):=AF rfl
theorem kA {ρ:Nat->Nat} {x:D}:DR ρ (.d x)= .d x:=AF rfl
theorem eR {ρ:Nat->Nat} {i o l z:Nat}:DR ρ (.ls i o l z)= .ls (ρ i) o l z:=AF rfl
theorem eU {ρ:Nat->Nat} {i o:Nat}:DR ρ (.lp i o)= .lp (ρ i) o:=AF rfl
theorem kB {ρ:Nat->Nat} {f:FuncId} {cs:List V}:ren ρ (.cl f cs)= .cl f (cs.map (DR ρ)):=AF rfl
theorem om {ks:List Nat} {b j:Nat}:sg ks b j=if j∈ks then j else b+j:=AF rfl
theorem Uq:Fr H []=True:=AF rfl
theorem QT {p:Nat × List V} {r:List (Nat × List V)}:Fr H (p::r)=(H p.1=some p.2/\Fr H r):=AF rfl
theorem YH:E0 H []=H:=AF rfl
theorem Ur {p:Nat × List V} {r:List (Nat × List V)}:E0 H (p::r)=upd (E0 H r) p.1 none:=AF rfl
theorem YI {ks:List Nat} {b:Nat}:I2 H ks b []=H:=AF rfl
theorem Us {ks:List Nat} {b:Nat} {p:Nat × List V} {r:List (Nat × List V)}:I2 H ks b (p::r)=upd (I2 H ks b r) (sg ks b p.1) (some (p.2.map (BJ (sg ks b)))):=AF rfl
theorem YJ {b:Nat} {L L1:List (Nat × List V)}:Jq b L L1 []=True:=AF rfl
theorem Ut {b i:Nat} {L L1:List (Nat × List V)} {r:List Nat}:Jq b L L1 (i::r)=(i<b/\(lk L1 i).isSome=true/\(∃ cs,lk L i=some cs/\cs≠[])/\Jq b L L1 r):=AF rfl
theorem QU {r:V} {ρ:Nat->Nat} {Ho:Hp} {Kc Kx:V->Hp->Prop}:ES (.ret r) ρ Ho Kc Kx=Kc (ren ρ r) Ho:=AF rfl
theorem QV {r:V} {ρ:Nat->Nat} {Ho:Hp} {Kc Kx:V->Hp->Prop}:ES (.pan r) ρ Ho Kc Kx=Kx (ren ρ r) Ho:=AF rfl
theorem YK {b:Nat}:(∀ i,InH (lk ([]:List (Nat × List V))) i->i<b)=True:=by simp [InH,lk]
theorem Uu {b:Nat} {p:Nat × List V} {r:List (Nat × List V)}:(∀ i,InH (lk (p::r)) i->i<b)=(p.1<b/\∀ i,InH (lk r) i->i<b):=by
 simp only [InH,lk,eq_iff_iff];constructor
 . intro h
   refine ⟨h p.1 (by simp),fun i hi=>h i ?_⟩;split
   . rfl
   . exact hi
 . rintro ⟨h1,h2⟩ i hi
   split at hi
   . rename_i e;rw [e];exact h1
   . exact h2 i hi
theorem Uv {ps:List (Nat × V)}:JU Γ t ps=(Γ t).bind fun y=>match y.sh with
 | .struct fs=>if fs.all (fun p=>(Γ p.2).isSome) then (Cc (fieldsOf Γ fs) (y.zero.map cV) ps).map fun cs=>(.agg cs, .none) else none
 | .array _ e=>(Γ e).bind fun ye=>(Cc (fun i=>some (i*ye.size,ye.size)) (y.zero.map cV) ps).map fun cs=>(.agg cs, .none)
 | _=>none:=AF rfl
theorem KX {n:Nat} {ps:List (Nat × V)}:Ci Γ b t n ps=(Γ t).bind fun y=>match y.sh with
 | .slice e=>(Γ e).bind fun ye=>if n*ye.size<=16777216/\0<ye.size then (Cc (fun i=>some (i*ye.size,ye.size)) (AM n (ye.zero.map cV)) ps).map fun cs=>(.ls b 0 n ye.size, .new b cs) else none
 | _=>none:=AF rfl
theorem Uw {fs:Nat->Option (Nat × Nat)} {cells:List V}:Cc fs cells []=some cells:=AF rfl
theorem QW {fs:Nat->Option (Nat × Nat)} {cells:List V} {i:Nat} {v:V} {r:List (Nat × V)}:Cc fs cells ((i,v)::r)=match fs i with
   | none=>none
   | some (off,size)=>if v.cells.length=size/\off+size<=cells.length/\v.cells.all V.isCell=true then Cc fs (AA cells off v.cells) r else none:=AF rfl
theorem OY {fs:List (Nat × TypeId)} {i:Nat}:fieldsOf Γ fs i=fs[i]?.bind fun p=>(Γ p.2).map fun y=>(p.1,y.size):=AF rfl
theorem Ux {sz:Nat} {es:List (List D)} {k:IntKind} {n:Int}:DC Γ t (.d (.sl sz es)) (.d (.lit (.int k n)))=(Γ t).bind fun y=>match y.sh with
 | .slice e=>(Γ e).bind fun ye=>if 0<=n/\ye.size=sz then es[n.toNat]?.map fun c=>(.d (.ref c), .none) else none
 | _=>none:=by
 unfold DC;congr;funext y;cases y.sh<;>first | rfl | (simp;done) | (rename_i n e;cases Γ e<;>rfl)
theorem Uy {i o l z:Nat} {k:IntKind} {n:Int}:DC Γ t (.ls i o l z) (.d (.lit (.int k n)))=(Γ t).bind fun y=>match y.sh with
 | .slice e=>(Γ e).bind fun ye=>if 0<=n/\n<l/\ye.size=z then some (.lp i (o+n.toNat*z), .none) else none
 | _=>none:=by
 unfold DC;congr;funext y;cases y.sh<;>first | rfl | (simp;done) | (rename_i n e;cases Γ e<;>rfl)
theorem Uz {sz:Nat} {es:List (List D)} {lo hi:Option V}:CA Γ H t (.d (.sl sz es)) lo hi=(Γ t).bind fun y=>match y.sh with
 | .slice e=>(Γ e).bind fun ye=>if ye.size=sz then (FT es.length lo hi).map fun p=>(.d (.sl sz ((es.take p.2).drop p.1)), .none) else none
 | _=>none:=by
 unfold CA;congr;funext y;cases y.sh<;>first | rfl | (simp;done) | (rename_i n e;cases Γ e<;>rfl)
theorem U0 {i o l z:Nat} {lo hi:Option V}:CA Γ H t (.ls i o l z) lo hi=(Γ t).bind fun y=>match y.sh with
 | .slice e=>(Γ e).bind fun ye=>if ye.size=z then (FT l lo hi).map fun p=>(.ls i (o+p.1*z) (p.2-p.1) z, .none) else none
 | _=>none:=by
 unfold CA;congr;funext y;cases y.sh<;>first | rfl | (simp;done) | (rename_i n e;cases Γ e<;>rfl)
theorem QX {s:ByteArray} {k:IntKind} {n:Int}:FS Γ t (.d (.lit (.string s))) (.d (.lit (.int k n)))=(Γ t).bind fun y=>match y.sh with
 | .str=>if 0<=n then s[n.toNat]?.map fun b=>(.d (.lit (.int .u8 b.toNat)), .none) else none
 | _=>none:=by
 unfold FS;congr;funext y;cases y.sh<;>first | rfl | (simp;done)
theorem QY {cs:List V} {k:IntKind} {n:Int}:FS Γ t (.agg cs) (.d (.lit (.int k n)))=(Γ t).bind fun y=>match y.sh with
 | .array m e=>(Γ e).bind fun ye=>if 0<=n/\n<m/\n.toNat*ye.size+ye.size<=cs.length then some (mkV ye.agg ((cs.drop (n.toNat*ye.size)).take ye.size), .none) else none
 | _=>none:=by
 unfold FS;congr;funext y;cases y.sh<;>first | rfl | (simp;done)
theorem vD {i o:Nat} {k:IntKind} {n:Int}:DC Γ t (.lp i o) (.d (.lit (.int k n)))=(Γ t).bind fun y=>match y.sh with
 | .array m e=>(Γ e).bind fun ye=>if 0<=n/\n<m then some (.lp i (o+n.toNat*ye.size), .none) else none
 | _=>none:=by
 unfold DC;congr;funext y;cases y.sh<;>first | rfl | (simp;done) | (rename_i e;cases Γ e<;>rfl)
theorem QZ {cs:List D} {k:IntKind} {n:Int}:DC Γ t (.d (.ref cs)) (.d (.lit (.int k n)))=(Γ t).bind fun y=>match y.sh with
 | .array m e=>(Γ e).bind fun ye=>if 0<=n/\n<m then some (.d (.ref (cs.drop (n.toNat*ye.size))), .none) else none
 | _=>none:=by
 unfold DC;congr;funext y;cases y.sh<;>first | rfl | (simp;done) | (rename_i e;cases Γ e<;>rfl)
theorem vE {i o:Nat} {lo hi:Option V}:CA Γ H t (.lp i o) lo hi=(Γ t).bind fun y=>match y.sh with
 | .array m e=>(Γ e).bind fun ye=>(H i).bind fun cs=>if o+m*ye.size<=cs.length/\m<=maxL then (FT m lo hi).map fun p=>(.ls i (o+p.1*ye.size) (p.2-p.1) ye.size, .none) else none
 | _=>none:=by
 unfold CA;congr;funext y;cases y.sh<;>first | rfl | (simp;done) | (rename_i e;cases Γ e<;>rfl)
theorem AHe {a:Option Addr} {n c:Nat} {lo hi:Option V}:CA Γ H t (.d (.lit (.slice a n c))) lo hi=(Γ t).bind fun y=>match y.sh with
 | .slice e=>(Γ e).bind fun _=>(FT 0 lo hi).map fun _=>(.d (.lit (.slice none 0 0)), .none)
 | _=>none:=by
 unfold CA;congr;funext y;cases y.sh<;>first | rfl | (simp;done) | (rename_i n e;cases Γ e<;>rfl)
theorem tw {s:ByteArray} {lo hi:Option V}:CA Γ H t (.d (.lit (.string s))) lo hi=(Γ t).bind fun y=>match y.sh with
 | .str=>(FT s.size lo hi).map fun p=>(.d (.lit (.string (s.extract p.1 p.2))), .none)
 | _=>none:=by
 unfold CA;congr;funext y;cases y.sh<;>first | rfl | (simp;done) | (rename_i e;cases Γ e<;>rfl) | (rename_i n e;cases Γ e<;>rfl)
theorem YL {s:ByteArray}:Iy Γ t (.d (.lit (.string s)))=(Γ t).bind fun y=>match y.sh with | .str=>some (.d (.lit (.int .i64 s.size)), .none) | _=>none:=by
 unfold Iy;congr;funext y;cases y.sh<;>rfl
theorem YM {o:BinOp} {a b:ByteArray}:FV Γ eqs o t (.d (.lit (.string a))) (.d (.lit (.string b)))=match o with
   | .eql=>some (.d (.lit (.bool (a == b))), .none)
   | .neq=>some (.d (.lit (.bool (a != b))), .none)
   | .add=>if a.size+b.size<=maxL then some (.d (.lit (.string (a++b))), .none) else none
   | _=>none:=AF rfl
theorem OZ {o:BinOp} {i of l z:Nat}:FV Γ eqs o t (.ls i of l z) (.d (.lit (.slice none 0 0)))=(Γ t).bind fun y=>match y.sh,o with
   | .slice _, .eql=>if 0<l then some (.d (.lit (.bool false)), .none) else none
   | .slice _, .neq=>if 0<l then some (.d (.lit (.bool true)), .none) else none
   | _,_=>none:=by
 unfold FV;simp only [show Ex (.d (.lit (.slice none 0 0)))=true from rfl,if_true];congr;funext y;split<;>simp_all [P3,Nv,cV]<;>(by_cases h:0<l<;>simp [h])
theorem Oa {o:BinOp} {z:Nat} {e:List D} {es:List (List D)}:FV Γ eqs o t (.d (.sl z (e::es))) (.d (.lit (.slice none 0 0)))=(Γ t).bind fun y=>match y.sh,o with
   | .slice _, .eql=>some (.d (.lit (.bool false)), .none)
   | .slice _, .neq=>some (.d (.lit (.bool true)), .none)
   | _,_=>none:=by
 unfold FV;simp only [show Ex (.d (.lit (.slice none 0 0)))=true from rfl,if_true]
 first | rfl | (congr;funext y;split<;>simp_all [P3,Nv,cV])
theorem ADI {o:BinOp} {z:Nat}:FV Γ eqs o t (.d (.sl z [])) (.d (.lit (.slice none 0 0)))=(Γ t).bind fun y=>match y.sh,o with
   | .slice _, .eql=>some (.d .ub, .none)
   | .slice _, .neq=>some (.d .ub, .none)
   | _,_=>none:=by
 unfold FV;simp only [show Ex (.d (.lit (.slice none 0 0)))=true from rfl,if_true]
 first | rfl | (congr;funext y;split<;>simp_all [P3,Nv,cV])
theorem Mt {o:BinOp}:FV Γ eqs o t (.d (.lit (.slice none 0 0))) (.d (.lit (.slice none 0 0)))=(Γ t).bind fun y=>match y.sh,o with
   | .slice _, .eql=>some (.d (.lit (.bool true)), .none)
   | .slice _, .neq=>some (.d (.lit (.bool false)), .none)
   | _,_=>none:=by
 unfold FV;simp only [show Ex (.d (.lit (.slice none 0 0)))=true from rfl,if_true]
 first | rfl | (congr;funext y;split<;>simp_all [P3,Nv,cV])
theorem vF {i o l z:Nat}:ax Γ H t (.ls i o l z)=(Γ t).bind fun y=>match y.sh with
 | .slice e=>(Γ e).bind fun ye=>if l=0 then some (.tup [], .none) else if z=ye.size/\0<z then (H i).bind fun cs=>if o+l*z<=cs.length then some (.tup [], .put i (AA cs o (AM l (ye.zero.map cV)))) else none else none
 | _=>none:=by
 unfold ax;congr
theorem eV:maxL=9223372036854775807:=AF rfl
theorem eW:Fh=140737488355328:=AF rfl
theorem Qj {k:IntKind} {a b:Int}:FU .int (.d (.lit (.int k a))) (.d (.lit (.int k b)))=some (decide (a=b)):=by simp [FU,Sx]
theorem Ob {a b:Bool}:FU .bool (.d (.lit (.bool a))) (.d (.lit (.bool b)))=some (a == b):=AF rfl
theorem z7 {a b:ByteArray}:FU .str (.d (.lit (.string a))) (.d (.lit (.string b)))=some (a == b):=AF rfl
theorem Oc:Bi [] [] []=some true:=AF rfl
theorem Mu {k:CK} {ks:List CK} {a b:V} {az bs:List V}:Bi (k::ks) (a::az) (b::bs)=(FU k a b).bind fun r=>(Bi ks az bs).map fun s=>r&&s:=AF rfl
theorem AGf {cs:List V} {i:Nat}:JV Γ t (.agg cs) i=(Γ t).bind fun y=>match y.sh with
 | .struct fs=>fs[i]?.bind fun p=>(Γ p.2).bind fun yf=>if p.1+yf.size<=cs.length then some (mkV yf.agg ((cs.drop p.1).take yf.size), .none) else none
 | _=>none:=AF rfl
theorem VA {s:TypeId} {k:IntKind} {n:Int}:Lb Γ H b s t (.d (.lit (.int k n)))=(Γ s).bind fun ys=>(Γ t).bind fun y=>match y.sh with
 | .int k'=>some (.d (.lit (.int k' (k'.wrap n))), .none)
 | .str=>ANs Γ H ys.sh (.d (.lit (.int k n)))
 | _=>none:=by
 unfold Lb;first | rfl | (congr;done) | (congr;funext _;congr;done) | (congr;funext _;congr;funext y;cases y.sh<;>rfl)
theorem AOQ {s:TypeId} {x:ByteArray}:Lb Γ H b s t (.d (.lit (.string x)))=(Γ s).bind fun ys=>(Γ t).bind fun y=>match y.sh with
 | .str=>ANs Γ H ys.sh (.d (.lit (.string x)))
 | .slice e=>APb Γ b ys.sh e (.d (.lit (.string x)))
 | _=>none:=by
 unfold Lb;first | rfl | (congr;done) | (congr;funext _;congr;done) | (congr;funext _;congr;funext y;cases y.sh<;>rfl)
theorem AOx {e:TypeId} {x:ByteArray}:APb Γ b .str e (.d (.lit (.string x)))=(Γ e).bind fun ye=>if ANr ye.sh=true/\x.size<=maxL then some (.ls b 0 x.size 1, .new b (x.data.toList.map u8V)) else none:=AF rfl
theorem AOy {s:TypeId} {i o l z:Nat}:Lb Γ H b s t (.ls i o l z)=(Γ s).bind fun ys=>(Γ t).bind fun y=>match y.sh with
 | .str=>ANs Γ H ys.sh (.ls i o l z)
 | _=>none:=by
 unfold Lb;first | rfl | (congr;done) | (congr;funext _;congr;done) | (congr;funext _;congr;funext y;cases y.sh<;>rfl)
theorem APq {e:TypeId} {i o l z:Nat}:ANs Γ H (.slice e) (.ls i o l z)=(Γ e).bind fun ye=>if ANr ye.sh=true then (cellsOf H 1 (.ls i o l z)).bind fun p=>(ALm p.2).map fun l=>(.d (.lit (.string ⟨l.toArray⟩)), .none) else none:=AF rfl
theorem APr:ANr (.int .u8)=true:=AF rfl
theorem ANH:ALm []=some []:=AF rfl
theorem AM1 {n:Int} {r:List V}:ALm (.d (.lit (.int .u8 n))::r)=if 0<=n/\n<256 then (ALm r).map (UInt8.ofNat n.toNat::·) else none:=by
 simp only [ALm,AN7];split<;>rfl
theorem YN {k:IntKind} {x:Int} {r:List V}:Wc (.d (.lit (.int k x))::r)=(Lq k x r).map fun m=>(.d (.lit (.int k m)), .none):=AF rfl
theorem YO {k:IntKind} {x:Int} {r:List V}:Wd (.d (.lit (.int k x))::r)=(Ku k x r).map fun m=>(.d (.lit (.int k m)), .none):=AF rfl
theorem YP {k:IntKind} {m:Int}:Lq k m []=some m:=AF rfl
theorem YQ {k:IntKind} {m:Int}:Ku k m []=some m:=AF rfl
theorem VB {k:IntKind} {m x:Int} {r:List V}:Lq k m (.d (.lit (.int k x))::r)=Lq k (max m x) r:=by simp [Lq]
theorem VC {k:IntKind} {m x:Int} {r:List V}:Ku k m (.d (.lit (.int k x))::r)=Ku k (min m x) r:=by simp [Ku]
theorem YR {t:TypeId} {cs:List V}:Sf Γ t (.agg cs)=(Γ t).bind fun y=>match y.sh with | .ifc _=>none | .other=>none | _=>(Ff cs).map fun ds=>(.d (.ifc t true ds), .none):=AF rfl
theorem kC {t:TypeId} {x:D}:Sf Γ t (.d x)=(Γ t).bind fun y=>match y.sh with | .ifc _=>none | .other=>none | _=>some (.d (.ifc t false [x]), .none):=AF rfl
theorem VD:Ff []=some []:=AF rfl
theorem eX {x:D} {r:List V}:Ff (.d x::r)=(Ff r).map (x::·):=AF rfl
theorem VE {cs:List D}:We cs true=some (.agg (cs.map .d)):=AF rfl
theorem AHf {c:D}:We [c] false=some (.d c):=AF rfl
theorem YS {t t':TypeId} {ag:Bool} {cs:List D}:Wf Γ t (.d (.ifc t' ag cs))=(Γ t).bind fun y=>match y.sh with | .ifc _=>none | .other=>none | _=>if t'=t then (We cs ag).map fun v=>(v, .none) else none:=AF rfl
theorem Mv {op:BinOp} {t t':TypeId} {ag:Bool} {cs:List D}:FV Γ eqs op t (.d (.ifc t' ag cs)) (.d (.lit .nilIface))=(Γ t).bind fun y=>match y.sh,op with | .ifc _, .eql=>some (.d (.lit (.bool false)), .none) | .ifc _, .neq=>some (.d (.lit (.bool true)), .none) | _,_=>none:=AF rfl
theorem VF {op:BinOp} {t:TypeId}:FV Γ eqs op t (.d (.lit .nilIface)) (.d (.lit .nilIface))=(Γ t).bind fun y=>match y.sh,op with | .ifc true, .eql=>some (.d (.lit (.bool true)), .none) | .ifc true, .neq=>some (.d (.lit (.bool false)), .none) | _,_=>none:=AF rfl
theorem eY {id off:Nat}:Se (.lp id off)=some (.lp id off, .none):=AF rfl
theorem YT {cs:List D}:Se (.d (.ref cs))=some (.d (.ref cs), .none):=AF rfl
theorem AGg {g:FuncId} {n:Nat} {caps:List V}:G8 g n caps=if n=0/\caps.all V.cap=true then some (.cl g caps, .none) else none:=AF rfl
theorem oo {x:D}:V.cap (.d x)=true:=AF rfl
theorem kD {i o:Nat}:V.cap (.lp i o)=true:=AF rfl
theorem kE {i o l z:Nat}:V.cap (.ls i o l z)=true:=AF rfl
theorem eZ {n:Nat} {lo hi:Option V}:FT n lo hi=(Sc n hi).bind fun h=>(Sd h lo).bind fun l=>some (l,h):=AF rfl
theorem VG {n:Nat}:Sc n none=some n:=AF rfl
theorem YU {n:Nat} {k:IntKind} {h:Int}:Sc n (some (.d (.lit (.int k h))))=if 0<=h/\h<=n then some h.toNat else none:=AF rfl
theorem VH {n:Nat}:Sd n none=some 0:=AF rfl
theorem YV {n:Nat} {k:IntKind} {h:Int}:Sd n (some (.d (.lit (.int k h))))=if 0<=h/\h<=n then some h.toNat else none:=AF rfl
section
variable {p:Nat->Prop} {v:Value}
theorem kF:AV p B9 (.d (.lit v))=True:=by simp [AV,A2,A1,A0,B9]
theorem kG:A2 p B9 (.d (.lit v))=True:=by simp [A2,A1,A0,B9]
theorem kH:A1 p B9 (.d (.lit v))=True:=by simp [A1,A0,B9]
theorem kI {i o l z:Nat}:AV p B9 (.ls i o l z)=p i:=AF rfl
theorem kJ {i o l z:Nat}:A2 p B9 (.ls i o l z)=p i:=AF rfl
theorem kK {i o l z:Nat}:A1 p B9 (.ls i o l z)=p i:=AF rfl
theorem xF {cs:List V}:AV p B9 (.agg cs)=∀ c∈cs,A1 p B9 c:=AF rfl
theorem ep {cs:List V}:A2 p B9 (.agg cs)=∀ c∈cs,A1 p B9 c:=AF rfl
theorem AK5 {cs:List V}:AV p B9 (.tup cs)=∀ c∈cs,A2 p B9 c:=AF rfl
theorem eu:AC p B9 (.d (.lit v))=True:=by simp [AC,A1,A0,B9]
theorem AQf {i o l z:Nat}:AC p B9 (.ls i o l z)=p i:=AF rfl
theorem kM {i o:Nat}:AC p B9 (.lp i o)=p i:=AF rfl
def Em (p:Nat->Prop):List (Nat × List V)->Prop
 | []=>True
 | x::r=>(∀ c∈x.2,AC p B9 c)/\Em p r
theorem VI:Em p []=True:=AF rfl
theorem AIR {x:Nat × List V} {r:List (Nat × List V)}:Em p (x::r)=((∀ c∈x.2,AC p B9 c)/\Em p r):=AF rfl
theorem Od:∀ {L:List (Nat × List V)},Em p L->∀ i cs,lk L i=some cs->∀ c∈cs,AC p B9 c
 | [],_,i,cs,h=>by simp [lk] at h
 | x::r,hf,i,cs,h=>by
   simp only [lk] at h;split at h
   . cases h;exact hf.1
   . exact Od hf.2 i cs h
theorem E6 {r:Res} {L:List (Nat × List V)} (h1:AV (InH (lk L)) B9 r.v) (h2:Em (InH (lk L)) L):GS r (lk L):=⟨h1,Od h2⟩
theorem kN {h:Hp} {i:Nat}:InH h i=((h i).isSome=true):=AF rfl
theorem YW {r:V}:Res.v (.ret r)=r:=AF rfl
theorem YX {r:V}:Res.v (.pan r)=r:=AF rfl
end
section
variable {P:Program}
theorem AU.mk {m:CM} {Hr H:Hp} {b:Nat} {g:FuncId} {az:List V} {Kc Kx:V->Hp->Prop} (args:List V) (r:V) (H1:List (Nat × List V)) (hf:Ct P g args r H1) (hb:AJ (Bor Hr) az args) (hi:BW 1048576 H1) (hc:AJ (Bor noH) az args\/(AV (InH (lk H1)) B9 r/\Em (InH (lk H1)) H1)) (hk:Kc (ren (b+·) r) (I1 H b H1)):AU P m Hr H b g az Kc Kx:=
 AU.mk0 args r H1 hf hb hi (hc.imp id fun h=>E6 h.1 h.2) hk
theorem AU.mkM {H:Hp} {b:Nat} {g:FuncId} {az:List V} {Kc Kx:V->Hp->Prop} (args:List V) (L:List (Nat × List V)) (ks:List Nat) (res:Res) (L1:List (Nat × List V)) (hf:Cm P g args (lk L) ks res (lk L1)) (hin:Fr H L) (hi:BW 1048576 L1) (hks:Jq b L L1 ks) (hL:∀ i,InH (lk L) i->i<b)
   (hb:AJ (Bor noH) az args\/(AJ (Bor (E0 H L)) az args/\AV (InH (lk L1)) B9 res.v/\Em (InH (lk L1)) L1)) (hk:ES res (sg ks b) (I2 (E0 H L) ks b L1) Kc Kx):AU P none H H b g az Kc Kx:=
 AU.mkM0 args L ks res L1 hf hin hi hks hL (hb.imp id fun h=>⟨h.1,E6 h.2.1 h.2.2⟩) hk
end
def oq (ρ:Nat->Option Nat) (ks:List Nat) (r:V) (H:Hp) (H1:List (Nat × List V)):Option (List V)->Prop
 | some vs=>vs.all (fun v=>!v.isTup)=true/\WV ρ (P8 vs) r/\Ej ρ H H1/\Bd ρ H1/\DZ ρ H (lk H1) ks
 | none=>False
theorem VJ {ρ:Nat->Option Nat} {ks:List Nat} {r:V} {H1:List (Nat × List V)} {vs:List V}:oq ρ ks r H H1 (some vs)=(vs.all (fun v=>!v.isTup)=true/\WV ρ (P8 vs) r/\Ej ρ H H1/\Bd ρ H1/\DZ ρ H (lk H1) ks):=AF rfl
theorem AB.by (ρ:Nat->Option Nat) {fn:Func} {ks:List Nat} {r:V} {H1:List (Nat × List V)} {st:St} (h:oq ρ ks r st.H H1 (AGe Γ st.H st.fr fn.results.toList)):Dc Γ fn ks r H1 st:=by
 cases hr:AGe Γ st.H st.fr fn.results.toList with
 | none=>rw [hr] at h;exact h.elim
 | some vs=>rw [hr] at h;exact ⟨vs,ρ,hr,h⟩
attribute [simp] pt lF Zo fx Zp fy Vn APz Zq lG Zr Lm ACO Zt lI pu gB RG NQ Zv NR Zw Zx AQp ANi PD lJ PB Zu Vo lK lL Vp Zy lM lN Zz Z0 lH Zs AKG AJW AKR AKS AKk AUT AUv AUU AUw AUH AT6 AUV AUI AUW AUJ AT7 AUK AT8 AKl AKm AKn AKo AK6 AK7 AKT AK8 AJX AKU AKQ AJV AKf gC
 Z1 gD ACS gF Z2 AOe Z3 Z4 pv jH pw RH RI
 lV gP gQ pz lO Z5 gG Z6 gK Vr gL Z9 lP aA Ln gM lQ py gN RJ NS aC NT aD aF PF I6 PE aB lR lS gO Z7 gH gI gJ Vq Z8 aG Vs lT
 lW lX gR lY aH gS lZ gT gU gW aI qA PH aL Vt PI aM Vu aQ PJ aP aN aO JI aJ gX gY
 UP XR dW dX UQ UR dY XT XU XV XW US UT UU XX UV AIg UW dZ UX XZ UY UZ AY QJ AOF da Sw OQ
 vw AOG vx vy vz Xj ABH u7 ADd Xn ADe ABW ADf ADg AE8 AOw AFy dc AFz AGu AHw de dh QK QL OS dj AIh AOH dm AOI ABx AKe AF0
 kF kG kH kI kJ kK xF ep AK5 eu AQf kM VI AIR kN YW YX
 VJ
 Qj Ob z7 Oc Mu QX QY vD QZ vE AHe tw YL OZ Oa ADI Mt vF YM eV eW Ux Uy Uz U0 AGf VA AOy AOQ AOx APq APr ANH AM1 YN YO YP YQ VB VC eY YT YR kC VD eX VE AHf YS Mv VF AGg oo kD kE eZ VG YU VH YV
 X1 AOJ AOK QM jo dp X2 AOL W0_d W1_d W2_d WV_d dt du dw AU6 OT AFM nz AIH OU n8 n9 oA ACX xD xE AH6 jp jq jr OV Mq X3 AOM QP OX
 AV_d A2_d A1_d A0_d oL oM oN oO oP oQ oS ASG js jt ju oU oV oW Ms Lf AOP QQ X4 QR jv
 X5 X6 ATI X7 X8 eC X9 YA Un YB WC_d oB oC eB Sy oD oE oG Sz oH oI oJ oK AON QN AOO QO AC_d oX oY oZ oc od oe og oh oi OW Mr AOv AOE oj jw jx eD eE jy eG eI YC jz eJ eK YD Uo Up QS ol AQe eM j4 YF YG j6 j7 YE ADt j5 j8 j9 eO eP eQ kA eR eU kB om Uq QT YH Ur YI Us YJ Ut QU QV YK Uu
 Uv KX Uw QW OY
 iV cz Sb dA dB dC dD dE
section
variable {P:Program} {m:CM} {Hr H:Hp} {b:Nat} {g:FuncId} {az:List V} {Kc Kx:V->Hp->Prop} {args:List V} {r:V} {H1:List (Nat × List V)}
theorem CLa (hf:Ct P g args r H1) (hk:Kc (ren (b+·) r) (I1 H b H1)) (hb:AJ (Bor Hr) az args:=by first | (simp;done) | simp [Bk,CP]) (hi:BW 1048576 H1:=by simp) (hc:AJ (Bor noH) az args\/(AV (InH (lk H1)) B9 r/\Em (InH (lk H1)) H1):=by first | (left;simp;done) | (right;simp;done)):AU P m Hr H b g az Kc Kx:=
 AU.mk args r H1 hf hb hi hc hk
theorem CLb (hf:Ct P g args r H1) (hb:AJ (Bor Hr) az args) (hk:Kc (ren (b+·) r) (I1 H b H1)) (hi:BW 1048576 H1:=by simp) (hc:AJ (Bor noH) az args\/(AV (InH (lk H1)) B9 r/\Em (InH (lk H1)) H1):=by first | (left;simp;done) | (right;simp;done)):AU P m Hr H b g az Kc Kx:=
 AU.mk args r H1 hf hb hi hc hk
theorem CLr (hf:Ct P g args r H1) (hb:AJ (Bor Hr) az args/\BW 1048576 H1) (hc:AJ (Bor noH) az args\/(AV (InH (lk H1)) B9 r/\Em (InH (lk H1)) H1)) (hk:Kc (ren (b+·) r) (I1 H b H1)):AU P m Hr H b g az Kc Kx:=
 AU.mk args r H1 hf hb.1 hb.2 hc hk
end
section
variable {P:Program} {m:CM} {Hr H:Hp} {b:Nat} {g:FuncId} {az:List V} {Kc Kx:V→Hp→Prop} {args:List V} {r:V} {H1:List (Nat × List V)} {E:Ent}
theorem CLt (hf:Ct P g args r H1) (hb:(AJ (Bor Hr) az args∧BW 1048576 H1)∧(AJ (Bor noH) az args∨(AV (InH (lk H1)) B9 r∧Em (InH (lk H1)) H1))) (hk:Kc (ren (b+·) r) (I1 H b H1)):AU P m Hr H b g az Kc Kx:=
 AU.mk args r H1 hf hb.1.1 hb.1.2 hb.2 hk
theorem RZ {Γ:Tys} {fn:Func} {ks:List Nat} {st:St} (h:oq (fun _=>none) ks r st.H H1 (AGe Γ st.H st.fr fn.results.toList)):Dc Γ fn ks r H1 st:=AB.by _ h
theorem WK {st:St} (hs:∀ i,¬ E.stab i) (ρ:Nat→Option Nat) {l:List (Nat × V)} {h:List (Nat × List V)} {n:Nat} (h1:CL ρ st.fr l:=by simp) (h2:Ej ρ st.H h:=by simp) (h3:Bd ρ h:=by simp) (h4:Bw n l:=by simp) (h5:A7 n h:=by simp):AI P E st ⟨AO l,lk h,n⟩:=AI.mk hs ρ l h n h1 h2 h3 h4 h5
theorem WKM {st:St} {ks:List Nat} (hs:∀ i,E.stab i↔i∈ks) (ρ:Nat→Option Nat) {l:List (Nat × V)} {h:List (Nat × List V)} {n:Nat} (h1:CL ρ st.fr l:=by simp) (h2:Ej ρ st.H h:=by simp) (h3:Bd ρ h:=by simp) (h4:Bw n l:=by simp) (h5:A7 n h:=by simp) (h6:HD ρ st.H (lk h) n ks:=by simp):AI P E st ⟨AO l,lk h,n⟩:=AI.mkM hs ρ l h n h1 h2 h3 h4 h5 h6
theorem wz {i:Nat} (h:i<9223372036854775807):IntKind.wrap .i64 ((i:Int)+1)=((i+1:Nat):Int):=by
 rw [AD (by omega) (by omega)];omega
theorem gE {α:Type} {l:List α} {i:Nat} (h:i<l.length):∃ x,l[i]?= some x:=⟨_,List.getElem?_eq_getElem h⟩
end
end Go.Psl
namespace Go.Psl
theorem Bl (x:Int):IntKind.wrap .u64 x=x%18446744073709551616:=by simp [IntKind.wrap,IntKind.bits,IntKind.signed]
theorem Oz {x:Int} (h0:0<=x) (h1:x<18446744073709551616):(BitVec.ofInt 64 x).toNat=x.toNat:=by
 rw [BitVec.toNat_ofInt];have:x%((2^64:Nat):Int)=x:=Int.emod_eq_of_lt h0 (by simpa using h1);rw [this]
theorem FD {x:Int} (h0:0<=x) (h1:x<18446744073709551616):(BitVec.ofInt IntKind.u64.bits x).toNat=x.toNat:=Oz h0 h1
theorem GA {x:Int} (h0:0<=x) (h1:x<18446744073709551616):bits .and .u64 x 4294967295=x%4294967296:=by
 show IntKind.wrap .u64 _=_
 simp only [BitVec.toNat_and,FD h0 h1];have e:(BitVec.ofInt IntKind.u64.bits 4294967295).toNat=2^32-1:=by decide
 rw [e,Nat.and_two_pow_sub_one_eq_mod,Bl];omega
theorem kl {a b:Int} (s:Nat) (ha:0<=a) (hb:0<=b) (hb2:b<2^s) (h:a*2^s+b<18446744073709551616):bits .or .u64 (a*2^s) b=a*2^s+b:=by
 have hp:(0:Int)<=a*2^s:=Int.mul_nonneg ha (Int.pow_nonneg (by decide))
 show IntKind.wrap .u64 _=_
 simp only [BitVec.toNat_or,FD hp (by omega),FD hb (by omega)];obtain ⟨a',rfl⟩:=Int.eq_ofNat_of_zero_le ha;obtain ⟨b',rfl⟩:=Int.eq_ofNat_of_zero_le hb;have hlt:b' < 2^s:=by exact_mod_cast hb2
 have e:((a':Int)*2^s).toNat=2^s*a':=by
   rw [show ((a':Int)*2^s)=((2^s*a':Nat):Int) by push_cast;rw [Int.mul_comm]];rfl
 rw [e,Int.toNat_natCast,<-Nat.two_pow_add_eq_or_of_lt hlt,Bl];have e2:((a':Int)*2^s)=((2^s*a':Nat):Int):=by push_cast;rw [Int.mul_comm]
 rw [e2] at h ⊢;omega
theorem Q8 {u v q r y1 y0:Int} (_hy1:2147483648<=y1) (_hy1':y1<4294967296) (_hy0:0<=y0) (_hy0':y0<4294967296) (hu0:0<=u) (hu:u<y1*4294967296+y0) (hv0:0<=v) (hv:v<4294967296) (hq:(u*4294967296+v)/(y1*4294967296+y0)<=q) (hr:q*y1+r=u) (hc:4294967296<=q\/4294967296*r+v<q*y0):
   (u*4294967296+v)/(y1*4294967296+y0)<=q-1:=by
 have hD:0<y1*4294967296+y0:=by omega
 have hlt:(u*4294967296+v)/(y1*4294967296+y0)<q:=by
   rcases hc with hc | hc
   . have h1:(u*4294967296+v)/(y1*4294967296+y0)<4294967296:=by
       rw [Int.ediv_lt_iff_lt_mul hD];omega
     omega
   . rw [Int.ediv_lt_iff_lt_mul hD]
     have:q*(y1*4294967296+y0)=(q*y1)*4294967296+q*y0:=by
       rw [Int.mul_add,Int.mul_assoc]
     omega
 omega
theorem Q9 {u v q r y1 y0:Int} (hy1:2147483648<=y1) (_hy0:0<=y0) (_hy0':y0<4294967296) (hq:(u*4294967296+v)/(y1*4294967296+y0)<=q) (hr:q*y1+r=u) (hc:q*y0<=4294967296*r+v):
   q=(u*4294967296+v)/(y1*4294967296+y0):=by
 have hD:0<y1*4294967296+y0:=by omega
 refine Int.le_antisymm ?_ hq;rw [Int.le_ediv_iff_mul_le hD]
 have:q*(y1*4294967296+y0)=(q*y1)*4294967296+q*y0:=by
   rw [Int.mul_add,Int.mul_assoc]
 omega
theorem O0 {u v q r y1 y0:Int} (hy1:2147483648<=y1) (hy0:0<=y0) (hy0':y0<4294967296) (hq0:0<=q) (hu:u<y1*4294967296+y0) (hv0:0<=v) (hr:q*y1+r=u) (hc:4294967296<=r):q*y0<=4294967296*r+v:=by
 have h1:q*y1<4294967296*y1:=by omega
 have h2:q<4294967296:=Int.lt_of_mul_lt_mul_right h1 (by omega);have h3:q*y0<=4294967296*y0:=Int.mul_le_mul_of_nonneg_right (by omega) hy0;omega
open Go.ChangeShapes Go.WideShapes Go.ChangeAt Go.RowKit
variable {P:Program} {H:Type} {enc:TypeId × Value->H}
def J7 (P:Program) (ts:List TypeId):Bool:=ts.all fun t=>P.readableRec t&&decide (t<P.types.size)
theorem Ik (hl:laidOutB P=true) {W W':World} (hb:Below W.heap.size W W') {sp:Nat->Bool}:∀ {ts:List TypeId} {vs:List Value} {ds:List (DataW H)} {ps:List MemPlace},J7 P ts=true->
   DataW.TrodAll enc P W 0 (fun _=>true) true ts vs ds ps->(∀ p∈ps,p.block<W.heap.size)->(∀ p∈ps,sp p.block=true)->DataW.TrodAll enc P W' 0 sp true ts vs ds ps
 | [],[],[],ps,_,h,_,_=>h
 | t::ts,v::vs,d::ds,ps,hr,h,h1,h2=>by
   obtain ⟨p,q,h3,h4,rfl⟩:=h;simp only [J7,List.all_cons,Bool.and_eq_true,decide_eq_true_eq] at hr
   exact ⟨p,q,WideElems.Trod_stays hl hr.1.1 hr.1.2 h3 (fun x hx=>hb.same (h1 x (by simp [hx]))) (fun x hx=>h2 x (by simp [hx])),
     Ik hl hb (by simpa [J7] using hr.2) h4 (fun x hx=>h1 x (by simp [hx])) (fun x hx=>h2 x (by simp [hx])),rfl⟩
 | [],_::_,_,_,_,h,_,_=>h.elim
 | [],[],_::_,_,_,h,_,_=>h.elim
 | _::_,[],_,_,_,h,_,_=>h.elim
 | _::_,_::_,[],_,_,h,_,_=>h.elim
def Te (P:Program) (f:FuncId) (args:Array Value) (W:World):Prop:=Calls P f args W fun e W'=>e= .returned (.bool true)/\Below W.heap.size W W'
theorem Te.of_ct {f:FuncId} {az:List V} {xs:Array Value} {W:World} {G:Gh} (h:Ct P f az (.d (.lit (.bool true))) []) (hG:GW G.Im W) (ha:AJ (R2 G W) az xs.toList):Te P f xs W:=by
 refine Calls.mono (h.2 G W xs hG ha ⟨fun _ _ h=>by simp at h,fun _ _ h=>by simp [InH] at h,fun _ h=>by simp at h⟩) fun e W' ⟨G',hp⟩=>?_
 have hv:=hp.rv;have hb:Below W.heap.size W W':=⟨hp.os,hp.tape,hp.output,hp.size,fun b hb=>hp.block b hb fun ⟨_,h,_⟩=>by simp [InH] at h⟩
 cases e with
 | returned v=>
   have hv:v= .bool true:=BO hv;subst hv;exact ⟨rfl,hb⟩
 | _=>exact hv.elim
theorem ak (hl:laidOutB P=true) {f:Func} {s:ChangeSpec} {apart fresh handsOn again:Bool} {W W':World} {args:Array Value} {ds:List (DataW H)} {before:List MemPlace} {tb:TypeId}
   (hvars:s.vars=[]) (hW:DataW.Whole enc P f.params.toList s.vars apart W args.toList ds [] before) (hr:J7 P f.params.toList=true) (hres:f.resultTypes= #[tb]) (htb:P.underlying tb=some .bool)
   (hfn:s.fn H (ds++[])={results:=[.lit (.bool true)],args:=ds}) (hb:Below W.heap.size W W'):s.post enc P f apart fresh handsOn again W args (.bool true) W':=by
 have hlt:=hW.lt;have hW':=hW;obtain ⟨p,q,hA,hV,rfl,hz,hn⟩:=hW'
 have hq:q=[]:=by
   rw [hvars] at hV;exact (trodVars_none hV).2
 subst hq;rw [List.append_nil] at hlt hz hn hW
 have hargs:∀ sp:Nat->Bool,(∀ x∈p,sp x.block=true)->DataW.TrodAll enc P W' 0 sp true f.params.toList args.toList (s.fn H (ds++[])).args p:=fun sp hsp=>by
   rw [hfn];exact Ik hl hb hr hA hlt hsp
 have hress:∀ (b:Nat) (sp:Nat->Bool) (hd:Bool),DataW.TrodAll enc P W' b sp hd f.resultTypes.toList ((Value.bool true).resultList f.resultTypes.size) (s.fn H (ds++[])).results []:=fun _ _ _=>by
   rw [hfn,hres];exact trodAll_mk1 (shut_bool htb true)
 have hvs:∀ sp:Nat->Bool,DataW.TrodVars enc P W' sp s.vars (s.fn H (ds++[])).vars []:=fun _=>by
   rw [hfn,hvars];rfl
 have hold:∀ x∈p,(fun b=>decide (b<W.heap.size)) x.block=true:=fun x hx=>by simpa using hlt x hx
 refine ⟨ds,[],p,[],p,[],hW,hress _ _ _,hargs _ hold,hvs _,hb.frame _,fun _=>?_⟩;refine ⟨ok_one hres rfl (okWide_bool_mk htb true),DataW.lit (Lit.bool true)::ds,(s.fn H (ds++[])).vars,p,⟨p,[],?_,hvs _,by simp,fun b off hp=>?_,fun ha=>hn ha⟩,fun x hx _=>hx⟩
 . rw [hres]
   have:=hargs (fun _=>true) (fun _ _=>rfl);rw [hfn] at this;exact ⟨[],p,shut_bool htb true,this,rfl⟩
 . rw [hb.frozen (p:=⟨b,off,none⟩) (hlt _ hp)]
   exact hz b off hp
end Go.Psl
namespace Go.Psl
open Go.ChangeShapes Go.WideShapes
section
variable {P:Program} {W:World}
abbrev InW (W:World) (b:Nat):Prop:=b<W.heap.size
def ShL (S:TypeId->List D->Prop):List TypeId->List D->Prop
 | [],ds=>ds=[]
 | t::ts,ds=>∃ a b,ds=a++b/\S t a/\ShL S ts b
def Sh' (P:Program):Nat->TypeId->List D->Prop
 | 0,_,_=>False
 | n+1,t,ds=>match P.underlying t with
   | some .bool=>∃ b,ds=[.lit (.bool b)]
   | some (.int k)=>∃ i,ds=[.lit (.int k i)]/\(Lit.int k i).wf=true
   | some .string=>∃ s:ByteArray,ds=[.lit (.string s)]/\s.size<=maxLen
   | some (.slice e)=>∃ es,ds=[.sl (P.cellsOf e) es]/\es.length<=maxL/\∀ x∈es,Sh' P n e x
   | some (.struct fs)=>ShL (Sh' P n) (fs.toList.map (·.type)) ds
   | some (.array k e)=>ShL (Sh' P n) (List.replicate k e) ds
   | _=>False
def HP (P:Program):Nat->List Field->Option Nat
 | o,[]=>some o
 | o,f::fs=>if f.offset=o then HP P (o+P.cellsOf f.type) fs else none
def E5 (P:Program):Nat->TypeId->Bool
 | 0,_=>false
 | n+1,t=>match P.underlying t with
   | some .bool=>true
   | some (.int _)=>true
   | some .string=>true
   | some (.slice e)=>decide (0<P.cellsOf e)&&E5 P n e
   | some (.struct fs)=>(HP P 0 fs.toList == some (P.cellsOf t))&&fs.toList.all fun f=>E5 P n f.type
   | some (.array k e)=>decide (k*P.cellsOf e=P.cellsOf t)&&E5 P n e
   | _=>false
theorem Sv {base:Nat} {a:Addr} {n:Nat} {cs:List Value} (hn:0<n) (h:W.cells? base a n=some cs):InW W a.block/\cs.length=n/\∀ j,j<n->W.cell? (a.add j)=cs[j]?:= by
 obtain ⟨_,h2,h3⟩:=World.cells?_some h;refine ⟨?_,h2,h3⟩;have h4:=h3 0 hn;rw [List.getElem?_eq_getElem (by omega)] at h4;have hbl:(a.add 0).block=a.block:=by unfold Addr.add;split<;>rfl
 unfold World.cell? at h4;rw [hbl] at h4;unfold InW;refine Nat.not_le.1 fun hle=>?_
 rw [Array.getElem?_eq_none hle] at h4;cases h4
theorem Fu {α β:Type} {R:α->β->Prop}:∀ {az as':List α} {bs bs':List β},AJ R az bs->AJ R as' bs'->AJ R (az++as') (bs++bs')
 | [],_,[],_,_,h=>h
 | _::_,_,_::_,_,h,h'=>⟨h.1,Fu h.2 h'⟩
theorem Jb {S:TypeId->List D->Prop} {T:TypeId->List Value->Prop} {cs:List Value} (hrec:∀ t cs',T t cs'->∃ ds,S t ds/\AJ (RD (InW W) W) ds cs'):
   ∀ (fs:List Field) (o m:Nat),HP P o fs=some m->m=cs.length->(∀ f∈fs,T f.type ((cs.drop f.offset).take (P.cellsOf f.type)))->o<=m->∃ ds,ShL S (fs.map (·.type)) ds/\AJ (RD (InW W) W) ds (cs.drop o)
 | [],o,m,hc,hm,_,_=>by
   simp only [HP,Option.some.injEq] at hc;subst hc;exact ⟨[],rfl,by rw [hm,List.drop_length];trivial⟩
 | f::fs,o,m,hc,hm,hT,ho=>by
   unfold HP at hc;split at hc
   . rename_i hof
     have hle:o+P.cellsOf f.type<=m:=by
       clear hT ho hm
       generalize o+P.cellsOf f.type=q at hc
       clear hof;induction fs generalizing q with
       | nil=>simp only [HP,Option.some.injEq] at hc;omega
       | cons g gs ih=>
         unfold HP at hc;split at hc
         . have:=ih _ hc;omega
         . cases hc
     obtain ⟨ds,h1,h2⟩:=Jb hrec fs _ m hc hm (fun g hg=>hT g (by simp [hg])) hle;have hf:=hT f (by simp);rw [hof] at hf;obtain ⟨d0,h3,h4⟩:=hrec _ _ hf;refine ⟨d0++ds,⟨d0,ds,rfl,h3,h1⟩,?_⟩
     have e:cs.drop o=(cs.drop o).take (P.cellsOf f.type)++cs.drop (o+P.cellsOf f.type):=by
       rw [<-List.drop_drop,List.take_append_drop]
     rw [e];exact Fu h4 h2
   . cases hc
theorem KU {S:TypeId->List D->Prop} {T:TypeId->List Value->Prop} {e:TypeId} {cs:List Value} (hrec:∀ t cs',T t cs'->∃ ds,S t ds/\AJ (RD (InW W) W) ds cs') (z:Nat):
   ∀ (k o:Nat),o+k*z=cs.length->(∀ i,i<k->T e ((cs.drop (o+i*z)).take z))->∃ ds,ShL S (List.replicate k e) ds/\AJ (RD (InW W) W) ds (cs.drop o)
 | 0,o,h,_=>⟨[],rfl,by rw [show o=cs.length by omega,List.drop_length];trivial⟩
 | k+1,o,h,hT=>by
   have hk:(k+1)*z=k*z+z:=Nat.succ_mul _ _
   obtain ⟨ds,h1,h2⟩:=KU (cs:=cs) (e:=e) hrec z k (o+z) (by omega) (fun i hi=>by
     have:=hT (i+1) (by omega);rw [Nat.succ_mul] at this;rw [show o+z+i*z=o+(i*z+z) by omega];exact this)
   have hf:=hT 0 (by omega);rw [Nat.zero_mul,Nat.add_zero] at hf;obtain ⟨d0,h3,h4⟩:=hrec _ _ hf;refine ⟨d0++ds,⟨d0,ds,rfl,h3,h1⟩,?_⟩;have e:cs.drop o=(cs.drop o).take z++cs.drop (o+z):=by rw [<-List.drop_drop,List.take_append_drop]
   rw [e];exact Fu h4 h2
theorem HQ {H:Type} {enc:TypeId × Value->H} {base:Nat} {sp:Nat->Bool} {held:Bool}:∀ (n:Nat) (t:TypeId),E5 P n t=true->∀ (m:Nat) (cs:List Value) (x:DataW H × List MemPlace),DataW.trod enc P W base sp held m t cs=some x->∃ ds,Sh' P n t ds/\AJ (RD (InW W) W) ds cs
 | 0,_,h=>by cases h
 | n+1,t,h=>fun m cs x hx=>by
   have ih:=HQ (enc:=enc) (base:=base) (sp:=sp) (held:=held) n;unfold E5 at h;unfold Sh';split at h
   . rename_i hu
     obtain ⟨b,rfl,_⟩:=DataW.trod_bool hu hx;exact ⟨_,⟨b,rfl⟩, .lit _ rfl,trivial⟩
   . rename_i k hu
     obtain ⟨i,rfl,_,hw⟩:=DataW.trod_int hu hx;exact ⟨_,⟨i,rfl,hw⟩, .lit _ rfl,trivial⟩
   . rename_i hu
     obtain ⟨s,rfl,_,hw⟩:=DataW.trod_string hu hx;exact ⟨_,⟨s,rfl,hw⟩, .lit _ rfl,trivial⟩
   . rename_i e hu
     simp only [Bool.and_eq_true,decide_eq_true_eq] at h;rcases Go.Deep.open_slice hu hx with ⟨rfl,_⟩ | ⟨a,len,cap,q,m',D0,Pl,rfl,_,hl,hm,hq,_,hel⟩
     . exact ⟨_,⟨[],rfl,by simp,by simp⟩,RD.sl _ [] none 0 (fun _ _=>undef) (by simp) (by simp) (by simp) (by simp) (by simp),trivial⟩
     . have hlq:len<=q:=by rw [hq];split<;>omega
       obtain ⟨F,hF⟩:=Go.Deep.choose_lt (α:=List D × List Value) (n:=len) (p:=fun i y=>W.cells? base (a.add (i*P.cellsOf e)) (P.cellsOf e)=some y.2/\Sh' P n e y.1/\AJ (RD (InW W) W) y.1 y.2) (fun i hi=>by
         obtain ⟨cs',h1,h2⟩:=hel i (by omega);obtain ⟨ds,h3,h4⟩:=ih e h.2 _ _ _ h2;exact ⟨(ds,cs'),h1,h3,h4⟩)
       have hlen:∀ i,i<len->(F i).1.length=P.cellsOf e:=fun i hi=>by
         obtain ⟨h1,_,h3⟩:=hF i hi;rw [h3.length,(Sv h.1 h1).2.1]
       refine ⟨_,⟨(List.range len).map fun i=>(F i).1,rfl,?_,?_⟩,?_,trivial⟩
       . simp;unfold maxLen at hm;omega
       . intro y hy
         simp only [List.mem_map,List.mem_range] at hy;obtain ⟨i,hi,rfl⟩:=hy;exact (hF i hi).2.1
       . have key:=RD.sl (Im:=InW W) (W:=W) (P.cellsOf e) ((List.range len).map fun i=>(F i).1) (some a) cap (fun i j=>((F i).2)[j]?.getD undef) ?_ ?_ ?_ ?_ ?_
         . simpa using key
         . intro y hy
           simp only [List.mem_map,List.mem_range] at hy;obtain ⟨i,hi,rfl⟩:=hy;exact hlen i hi
         . simp;unfold maxLen at hm;omega
         . simpa using hl
         . intro i y hy
           have hi:i<len:=by
             have:=(List.getElem?_eq_some_iff.1 hy).1;simpa using this
           have hy':(F i).1=y:=by simpa [hi] using hy
           obtain ⟨h1,_,h3⟩:=hF i hi;obtain ⟨c1,c2,c3⟩:=Sv h.1 h1;have hbl:(a.add (i*P.cellsOf e)).block=a.block:=by unfold Addr.add;split<;>rfl
           refine ⟨a,rfl,by rw [hbl] at c1;exact c1,fun j z hz=>?_⟩
           have hj:j<P.cellsOf e:=by
             have:=(List.getElem?_eq_some_iff.1 hz).1;rw [<-hy',hlen i hi] at this;exact this
           rw [<-Go.Deep.add_add,c3 j hj,List.getElem?_eq_getElem (by omega)];simp
         . intro i y hy j z hz
           have hi:i<len:=by
             have:=(List.getElem?_eq_some_iff.1 hy).1;simpa using this
           have hy':(F i).1=y:=by simpa [hi] using hy
           obtain ⟨h1,_,h3⟩:=hF i hi;subst hy';obtain ⟨u,hu2,hr⟩:=h3.get hz;rw [hu2];exact hr
   . rename_i fs hu
     simp only [Bool.and_eq_true,beq_iff_eq,List.all_eq_true] at h;obtain ⟨xs,m',_,_,hcl,hxl,hel⟩:=DataW.trod_struct hu hx
     have:=Jb (P:=P) (W:=W) (S:=Sh' P n) (T:=fun t cs'=>E5 P n t=true/\∃ m x,DataW.trod enc P W base sp held m t cs'=some x) (cs:=cs) (fun t cs' ⟨h1,m,x,h2⟩=>ih t h1 m cs' x h2) fs.toList 0 _ h.1 hcl.symm (fun f hf=>by
       refine ⟨h.2 f hf,m',?_⟩;obtain ⟨i,hi,rfl⟩:=List.mem_iff_getElem.1 hf;have h1:=hel i fs[i] (by simp at hi ⊢);have h2:i<xs.length:=by simp at hi;omega
       rw [List.getElem?_eq_getElem h2] at h1;exact ⟨_,h1⟩) (Nat.zero_le _)
     simpa using this
   . rename_i k e hu
     simp only [Bool.and_eq_true,decide_eq_true_eq] at h;obtain ⟨xs,m',_,_,hcl,hxl,hel⟩:=DataW.trod_array hu hx
     have:=KU (W:=W) (S:=Sh' P n) (T:=fun t cs'=>E5 P n t=true/\∃ m x,DataW.trod enc P W base sp held m t cs'=some x) (e:=e) (cs:=cs) (fun t cs' ⟨h1,m,x,h2⟩=>ih t h1 m cs' x h2) (P.cellsOf e) k 0 (by omega) (fun i hi=>by
       refine ⟨h.2,m',?_⟩;have h1:=hel i hi;rw [List.getElem?_eq_getElem (by omega)] at h1;rw [Nat.zero_add];exact ⟨_,h1⟩)
     simpa using this
   . cases h
end
end Go.Psl
namespace Go.Psl
def KF:PC->List PC->PC × List PC
 | .seq a b,ls=>let x:=KF a ls;let y:=KF b x.2;(.seq x.1 y.1,y.2)
 | .cond c a b,ls=>let x:=KF a ls;let y:=KF b x.2;(.cond c x.1 y.1,y.2)
 | .block i a,ls=>let x:=KF a ls;(.block i x.1,x.2)
 | .loop _,l::ls=>(.loop l,ls)
 | .rangeF f ps _ _,a::b::ls=>(.rangeF f ps a b,ls)
 | x,ls=>(x,ls)
def Db:PC->List PC
 | .seq a b=>Db a++Db b
 | .cond _ a b=>Db a++Db b
 | .block _ a=>Db a
 | .loop a=>Db a++[a]
 | .rangeF _ _ a b=>Db a++[a]++Db b++[b]
 | _=>[]
def Wk (f:Func):PC:=match f.body.bind (AK f.ntmps) with | some p=>p | none=> .skip
def G (f:Func) (ls:List PC):PC:=(KF (Wk f) ls).1
def K (f:Func) (k:Nat) (ls:List PC):PC:=(KF ((Db (Wk f)).getD k .skip) ls).1
abbrev Rd {α:Type} (x:α):={y:α // x=y}
end Go.Psl
namespace Go.Proofs.Tryz
open Go.Psl
def p3l0:PC:=(⟨_,by conv=>lhs;reduce⟩:Rd (K f3 0 [])).1
def p3:PC:=(⟨_,by conv=>lhs;reduce⟩:Rd (fun a=>G f3 [a])).1 p3l0
theorem c3:f3.body.bind (AK f3.ntmps)=some p3:=by kernel_rfl
def p4l0:PC:=(⟨_,by conv=>lhs;reduce⟩:Rd (K f4 0 [])).1
def p4:PC:=(⟨_,by conv=>lhs;reduce⟩:Rd (fun a=>G f4 [a])).1 p4l0
theorem c4:f4.body.bind (AK f4.ntmps)=some p4:=by kernel_rfl
def rh:PC:=(⟨_,by conv=>lhs;reduce⟩:Rd (K f5 0 [])).1
def p5:PC:=(⟨_,by conv=>lhs;reduce⟩:Rd (fun a=>G f5 [a])).1 rh
theorem c5:f5.body.bind (AK f5.ntmps)=some p5:=by kernel_rfl
def p6:PC:=(⟨_,by conv=>lhs;reduce⟩:Rd (G f6 [])).1
theorem c6:f6.body.bind (AK f6.ntmps)=some p6:=by kernel_rfl
def p7:PC:=(⟨_,by conv=>lhs;reduce⟩:Rd (G f7 [])).1
theorem c7:f7.body.bind (AK f7.ntmps)=some p7:=by kernel_rfl
def p8:PC:=(⟨_,by conv=>lhs;reduce⟩:Rd (G f8 [])).1
theorem c8:f8.body.bind (AK f8.ntmps)=some p8:=by kernel_rfl
def p9l0:PC:=(⟨_,by conv=>lhs;reduce⟩:Rd (K f9 0 [])).1
def p9:PC:=(⟨_,by conv=>lhs;reduce⟩:Rd (fun a=>G f9 [a])).1 p9l0
theorem c9:f9.body.bind (AK f9.ntmps)=some p9:=by kernel_rfl
def qI:PC:=(⟨_,by conv=>lhs;reduce⟩:Rd (K f10 0 [])).1
def qJ:PC:=(⟨_,by conv=>lhs;reduce⟩:Rd (fun a=>K f10 1 [a])).1 qI
def p10:PC:=(⟨_,by conv=>lhs;reduce⟩:Rd (fun a=>G f10 [a])).1 qJ
theorem c10:f10.body.bind (AK f10.ntmps)=some p10:=by kernel_rfl
def p11:PC:=(⟨_,by conv=>lhs;reduce⟩:Rd (G f11 [])).1
theorem c11:f11.body.bind (AK f11.ntmps)=some p11:=by kernel_rfl
def AN5:PC:=(⟨_,by conv=>lhs;reduce⟩:Rd (K f12 0 [])).1
def AN6:PC:=(⟨_,by conv=>lhs;reduce⟩:Rd (K f12 1 [])).1
def AMX:PC:=(⟨_,by conv=>lhs;reduce⟩:Rd (fun a b=>K f12 2 [a,b])).1 AN5 AN6
def p12:PC:=(⟨_,by conv=>lhs;reduce⟩:Rd (fun a=>G f12 [a])).1 AMX
theorem c12:f12.body.bind (AK f12.ntmps)=some p12:=by kernel_rfl
def AES:PC:=(⟨_,by conv=>lhs;reduce⟩:Rd (K f16 0 [])).1
def p16:PC:=(⟨_,by conv=>lhs;reduce⟩:Rd (fun a=>G f16 [a])).1 AES
theorem c16:f16.body.bind (AK f16.ntmps)=some p16:=by kernel_rfl
def AM5:PC:=(⟨_,by conv=>lhs;reduce⟩:Rd (K f17 0 [])).1
def AM6:PC:=(⟨_,by conv=>lhs;reduce⟩:Rd (K f17 1 [])).1
def p17:PC:=(⟨_,by conv=>lhs;reduce⟩:Rd (fun a b=>G f17 [a,b])).1 AM5 AM6
theorem c17:f17.body.bind (AK f17.ntmps)=some p17:=by kernel_rfl
def p19:PC:=(⟨_,by conv=>lhs;reduce⟩:Rd (G f19 [])).1
theorem c19:f19.body.bind (AK f19.ntmps)=some p19:=by kernel_rfl
def p21:PC:=(⟨_,by conv=>lhs;reduce⟩:Rd (G f21 [])).1
theorem c21:f21.body.bind (AK f21.ntmps)=some p21:=by kernel_rfl
def AL7:PC:=(⟨_,by conv=>lhs;reduce⟩:Rd (K f22 0 [])).1
def p22:PC:=(⟨_,by conv=>lhs;reduce⟩:Rd (fun a=>G f22 [a])).1 AL7
theorem c22:f22.body.bind (AK f22.ntmps)=some p22:=by kernel_rfl
def APE:PC:=(⟨_,by conv=>lhs;reduce⟩:Rd (K f23 0 [])).1
def p23:PC:=(⟨_,by conv=>lhs;reduce⟩:Rd (fun a=>G f23 [a])).1 APE
theorem c23:f23.body.bind (AK f23.ntmps)=some p23:=by kernel_rfl
def p24:PC:=(⟨_,by conv=>lhs;reduce⟩:Rd (G f24 [])).1
theorem c24:f24.body.bind (AK f24.ntmps)=some p24:=by kernel_rfl
def p25:PC:=(⟨_,by conv=>lhs;reduce⟩:Rd (G f25 [])).1
theorem c25:f25.body.bind (AK f25.ntmps)=some p25:=by kernel_rfl
def p26:PC:=(⟨_,by conv=>lhs;reduce⟩:Rd (G f26 [])).1
theorem c26:f26.body.bind (AK f26.ntmps)=some p26:=by kernel_rfl
def p34:PC:=(⟨_,by conv=>lhs;reduce⟩:Rd (G f34 [])).1
theorem c34:f34.body.bind (AK f34.ntmps)=some p34:=by kernel_rfl
def AMk:PC:=(⟨_,by conv=>lhs;reduce⟩:Rd (K f36 0 [])).1
def p36:PC:=(⟨_,by conv=>lhs;reduce⟩:Rd (fun a=>G f36 [a])).1 AMk
theorem c36:f36.body.bind (AK f36.ntmps)=some p36:=by kernel_rfl
def p37:PC:=(⟨_,by conv=>lhs;reduce⟩:Rd (G f37 [])).1
theorem c37:f37.body.bind (AK f37.ntmps)=some p37:=by kernel_rfl
def p38:PC:=(⟨_,by conv=>lhs;reduce⟩:Rd (G f38 [])).1
theorem c38:f38.body.bind (AK f38.ntmps)=some p38:=by kernel_rfl
def PR:PC:=(⟨_,by conv=>lhs;reduce⟩:Rd (K f39 0 [])).1
def p39:PC:=(⟨_,by conv=>lhs;reduce⟩:Rd (fun a=>G f39 [a])).1 PR
theorem c39:f39.body.bind (AK f39.ntmps)=some p39:=by kernel_rfl
def Qp:PC:=(⟨_,by conv=>lhs;reduce⟩:Rd (K f40 0 [])).1
def Xz:PC:=(⟨_,by conv=>lhs;reduce⟩:Rd (K f40 1 [])).1
def p40:PC:=(⟨_,by conv=>lhs;reduce⟩:Rd (fun a b=>G f40 [a,b])).1 Qp Xz
theorem c40:f40.body.bind (AK f40.ntmps)=some p40:=by kernel_rfl
def p41:PC:=(⟨_,by conv=>lhs;reduce⟩:Rd (G f41 [])).1
theorem c41:f41.body.bind (AK f41.ntmps)=some p41:=by kernel_rfl
def p42:PC:=(⟨_,by conv=>lhs;reduce⟩:Rd (G f42 [])).1
theorem c42:f42.body.bind (AK f42.ntmps)=some p42:=by kernel_rfl
def p43:PC:=(⟨_,by conv=>lhs;reduce⟩:Rd (G f43 [])).1
theorem c43:f43.body.bind (AK f43.ntmps)=some p43:=by kernel_rfl
def AAg:PC:=(⟨_,by conv=>lhs;reduce⟩:Rd (K f44 0 [])).1
def p44:PC:=(⟨_,by conv=>lhs;reduce⟩:Rd (fun a=>G f44 [a])).1 AAg
theorem c44:f44.body.bind (AK f44.ntmps)=some p44:=by kernel_rfl
def p45:PC:=(⟨_,by conv=>lhs;reduce⟩:Rd (G f45 [])).1
theorem c45:f45.body.bind (AK f45.ntmps)=some p45:=by kernel_rfl
def p46:PC:=(⟨_,by conv=>lhs;reduce⟩:Rd (G f46 [])).1
theorem c46:f46.body.bind (AK f46.ntmps)=some p46:=by kernel_rfl
def ABK:PC:=(⟨_,by conv=>lhs;reduce⟩:Rd (K f47 0 [])).1
def p47:PC:=(⟨_,by conv=>lhs;reduce⟩:Rd (fun a=>G f47 [a])).1 ABK
theorem c47:f47.body.bind (AK f47.ntmps)=some p47:=by kernel_rfl
def AQU:PC:=(⟨_,by conv=>lhs;reduce⟩:Rd (K f48 0 [])).1
def p48:PC:=(⟨_,by conv=>lhs;reduce⟩:Rd (fun a=>G f48 [a])).1 AQU
theorem c48:f48.body.bind (AK f48.ntmps)=some p48:=by kernel_rfl
def p49:PC:=(⟨_,by conv=>lhs;reduce⟩:Rd (G f49 [])).1
theorem c49:f49.body.bind (AK f49.ntmps)=some p49:=by kernel_rfl
def bC:PC:=(⟨_,by conv=>lhs;reduce⟩:Rd (K f50 0 [])).1
def p50:PC:=(⟨_,by conv=>lhs;reduce⟩:Rd (fun a=>G f50 [a])).1 bC
theorem c50:f50.body.bind (AK f50.ntmps)=some p50:=by kernel_rfl
def p52:PC:=(⟨_,by conv=>lhs;reduce⟩:Rd (G f52 [])).1
theorem c52:f52.body.bind (AK f52.ntmps)=some p52:=by kernel_rfl
def p53:PC:=(⟨_,by conv=>lhs;reduce⟩:Rd (G f53 [])).1
theorem c53:f53.body.bind (AK f53.ntmps)=some p53:=by kernel_rfl
def p55:PC:=(⟨_,by conv=>lhs;reduce⟩:Rd (G f55 [])).1
theorem c55:f55.body.bind (AK f55.ntmps)=some p55:=by kernel_rfl
def p56:PC:=(⟨_,by conv=>lhs;reduce⟩:Rd (G f56 [])).1
theorem c56:f56.body.bind (AK f56.ntmps)=some p56:=by kernel_rfl
def AM8:PC:=(⟨_,by conv=>lhs;reduce⟩:Rd (K f57 0 [])).1
def p57:PC:=(⟨_,by conv=>lhs;reduce⟩:Rd (fun a=>G f57 [a])).1 AM8
theorem c57:f57.body.bind (AK f57.ntmps)=some p57:=by kernel_rfl
def p58:PC:=(⟨_,by conv=>lhs;reduce⟩:Rd (G f58 [])).1
theorem c58:f58.body.bind (AK f58.ntmps)=some p58:=by kernel_rfl
def p59:PC:=(⟨_,by conv=>lhs;reduce⟩:Rd (G f59 [])).1
theorem c59:f59.body.bind (AK f59.ntmps)=some p59:=by kernel_rfl
def p60:PC:=(⟨_,by conv=>lhs;reduce⟩:Rd (G f60 [])).1
theorem c60:f60.body.bind (AK f60.ntmps)=some p60:=by kernel_rfl
def p61:PC:=(⟨_,by conv=>lhs;reduce⟩:Rd (G f61 [])).1
theorem c61:f61.body.bind (AK f61.ntmps)=some p61:=by kernel_rfl
def ACT:PC:=(⟨_,by conv=>lhs;reduce⟩:Rd (K f62 0 [])).1
def p62:PC:=(⟨_,by conv=>lhs;reduce⟩:Rd (fun a=>G f62 [a])).1 ACT
theorem c62:f62.body.bind (AK f62.ntmps)=some p62:=by kernel_rfl
def p66:PC:=(⟨_,by conv=>lhs;reduce⟩:Rd (G f66 [])).1
theorem c66:f66.body.bind (AK f66.ntmps)=some p66:=by kernel_rfl
def p67:PC:=(⟨_,by conv=>lhs;reduce⟩:Rd (G f67 [])).1
theorem c67:f67.body.bind (AK f67.ntmps)=some p67:=by kernel_rfl
def p68:PC:=(⟨_,by conv=>lhs;reduce⟩:Rd (G f68 [])).1
theorem c68:f68.body.bind (AK f68.ntmps)=some p68:=by kernel_rfl
def p69:PC:=(⟨_,by conv=>lhs;reduce⟩:Rd (G f69 [])).1
theorem c69:f69.body.bind (AK f69.ntmps)=some p69:=by kernel_rfl
def p70:PC:=(⟨_,by conv=>lhs;reduce⟩:Rd (G f70 [])).1
theorem c70:f70.body.bind (AK f70.ntmps)=some p70:=by kernel_rfl
def p71:PC:=(⟨_,by conv=>lhs;reduce⟩:Rd (G f71 [])).1
theorem c71:f71.body.bind (AK f71.ntmps)=some p71:=by kernel_rfl
def p72:PC:=(⟨_,by conv=>lhs;reduce⟩:Rd (G f72 [])).1
theorem c72:f72.body.bind (AK f72.ntmps)=some p72:=by kernel_rfl
def p73:PC:=(⟨_,by conv=>lhs;reduce⟩:Rd (G f73 [])).1
theorem c73:f73.body.bind (AK f73.ntmps)=some p73:=by kernel_rfl
def wU:PC:=(⟨_,by conv=>lhs;reduce⟩:Rd (K f74 0 [])).1
def p74:PC:=(⟨_,by conv=>lhs;reduce⟩:Rd (fun a=>G f74 [a])).1 wU
theorem c74:f74.body.bind (AK f74.ntmps)=some p74:=by kernel_rfl
def p75:PC:=(⟨_,by conv=>lhs;reduce⟩:Rd (G f75 [])).1
theorem c75:f75.body.bind (AK f75.ntmps)=some p75:=by kernel_rfl
def p76:PC:=(⟨_,by conv=>lhs;reduce⟩:Rd (G f76 [])).1
theorem c76:f76.body.bind (AK f76.ntmps)=some p76:=by kernel_rfl
def jL:PC:=(⟨_,by conv=>lhs;reduce⟩:Rd (K f77 0 [])).1
def p77:PC:=(⟨_,by conv=>lhs;reduce⟩:Rd (fun a=>G f77 [a])).1 jL
theorem c77:f77.body.bind (AK f77.ntmps)=some p77:=by kernel_rfl
def p78:PC:=(⟨_,by conv=>lhs;reduce⟩:Rd (G f78 [])).1
theorem c78:f78.body.bind (AK f78.ntmps)=some p78:=by kernel_rfl
def p82:PC:=(⟨_,by conv=>lhs;reduce⟩:Rd (G f82 [])).1
theorem c82:f82.body.bind (AK f82.ntmps)=some p82:=by kernel_rfl
def p83:PC:=(⟨_,by conv=>lhs;reduce⟩:Rd (G f83 [])).1
theorem c83:f83.body.bind (AK f83.ntmps)=some p83:=by kernel_rfl
def ALe:PC:=(⟨_,by conv=>lhs;reduce⟩:Rd (K f86 1 [])).1
def ALf:PC:=(⟨_,by conv=>lhs;reduce⟩:Rd (K f86 2 [])).1
def p87:PC:=(⟨_,by conv=>lhs;reduce⟩:Rd (G f87 [])).1
theorem c87:f87.body.bind (AK f87.ntmps)=some p87:=by kernel_rfl
def p88:PC:=(⟨_,by conv=>lhs;reduce⟩:Rd (G f88 [])).1
theorem c88:f88.body.bind (AK f88.ntmps)=some p88:=by kernel_rfl
def p89:PC:=(⟨_,by conv=>lhs;reduce⟩:Rd (G f89 [])).1
theorem c89:f89.body.bind (AK f89.ntmps)=some p89:=by kernel_rfl
def p90:PC:=(⟨_,by conv=>lhs;reduce⟩:Rd (G f90 [])).1
theorem c90:f90.body.bind (AK f90.ntmps)=some p90:=by kernel_rfl
def p91:PC:=(⟨_,by conv=>lhs;reduce⟩:Rd (G f91 [])).1
theorem c91:f91.body.bind (AK f91.ntmps)=some p91:=by kernel_rfl
def p92:PC:=(⟨_,by conv=>lhs;reduce⟩:Rd (G f92 [])).1
theorem c92:f92.body.bind (AK f92.ntmps)=some p92:=by kernel_rfl
def AMl:PC:=(⟨_,by conv=>lhs;reduce⟩:Rd (K f93 0 [])).1
def p93:PC:=(⟨_,by conv=>lhs;reduce⟩:Rd (fun a=>G f93 [a])).1 AMl
theorem c93:f93.body.bind (AK f93.ntmps)=some p93:=by kernel_rfl
def p94:PC:=(⟨_,by conv=>lhs;reduce⟩:Rd (G f94 [])).1
theorem c94:f94.body.bind (AK f94.ntmps)=some p94:=by kernel_rfl
def p95:PC:=(⟨_,by conv=>lhs;reduce⟩:Rd (G f95 [])).1
theorem c95:f95.body.bind (AK f95.ntmps)=some p95:=by kernel_rfl
def p96:PC:=(⟨_,by conv=>lhs;reduce⟩:Rd (G f96 [])).1
theorem c96:f96.body.bind (AK f96.ntmps)=some p96:=by kernel_rfl
def AQW:PC:=(⟨_,by conv=>lhs;reduce⟩:Rd (K f97 0 [])).1
def p97:PC:=(⟨_,by conv=>lhs;reduce⟩:Rd (fun a=>G f97 [a])).1 AQW
theorem c97:f97.body.bind (AK f97.ntmps)=some p97:=by kernel_rfl
def p101:PC:=(⟨_,by conv=>lhs;reduce⟩:Rd (G f101 [])).1
theorem zm:f101.body.bind (AK f101.ntmps)=some p101:=by kernel_rfl
def p102:PC:=(⟨_,by conv=>lhs;reduce⟩:Rd (G f102 [])).1
theorem c102:f102.body.bind (AK f102.ntmps)=some p102:=by kernel_rfl
def p103:PC:=(⟨_,by conv=>lhs;reduce⟩:Rd (G f103 [])).1
theorem c103:f103.body.bind (AK f103.ntmps)=some p103:=by kernel_rfl
def p107:PC:=(⟨_,by conv=>lhs;reduce⟩:Rd (G f107 [])).1
theorem AP9:f107.body.bind (AK f107.ntmps)=some p107:=by kernel_rfl
def p108:PC:=(⟨_,by conv=>lhs;reduce⟩:Rd (G f108 [])).1
theorem AOf:f108.body.bind (AK f108.ntmps)=some p108:=by kernel_rfl
def AMw:PC:=(⟨_,by conv=>lhs;reduce⟩:Rd (K f111 0 [])).1
def AMY:PC:=(⟨_,by conv=>lhs;reduce⟩:Rd (fun a=>K f111 1 [a])).1 AMw
def p111:PC:=(⟨_,by conv=>lhs;reduce⟩:Rd (fun a=>G f111 [a])).1 AMY
theorem ASc:f111.body.bind (AK f111.ntmps)=some p111:=by kernel_rfl
def p112:PC:=(⟨_,by conv=>lhs;reduce⟩:Rd (G f112 [])).1
theorem ASd:f112.body.bind (AK f112.ntmps)=some p112:=by kernel_rfl
def APF:PC:=(⟨_,by conv=>lhs;reduce⟩:Rd (K f113 0 [])).1
def p113:PC:=(⟨_,by conv=>lhs;reduce⟩:Rd (fun a=>G f113 [a])).1 APF
theorem c113:f113.body.bind (AK f113.ntmps)=some p113:=by kernel_rfl
def p114:PC:=(⟨_,by conv=>lhs;reduce⟩:Rd (G f114 [])).1
theorem c114:f114.body.bind (AK f114.ntmps)=some p114:=by kernel_rfl
def p115:PC:=(⟨_,by conv=>lhs;reduce⟩:Rd (G f115 [])).1
theorem qO:f115.body.bind (AK f115.ntmps)=some p115:=by kernel_rfl
def ANj:PC:=(⟨_,by conv=>lhs;reduce⟩:Rd (K f116 0 [])).1
def p116:PC:=(⟨_,by conv=>lhs;reduce⟩:Rd (fun a=>G f116 [a])).1 ANj
theorem c116:f116.body.bind (AK f116.ntmps)=some p116:=by kernel_rfl
def p117:PC:=(⟨_,by conv=>lhs;reduce⟩:Rd (G f117 [])).1
theorem AQw:f117.body.bind (AK f117.ntmps)=some p117:=by kernel_rfl
def ALS:PC:=(⟨_,by conv=>lhs;reduce⟩:Rd (K f118 0 [])).1
def p118:PC:=(⟨_,by conv=>lhs;reduce⟩:Rd (fun a=>G f118 [a])).1 ALS
theorem c118:f118.body.bind (AK f118.ntmps)=some p118:=by kernel_rfl
def APG:PC:=(⟨_,by conv=>lhs;reduce⟩:Rd (K f119 0 [])).1
def p119:PC:=(⟨_,by conv=>lhs;reduce⟩:Rd (fun a=>G f119 [a])).1 APG
theorem c119:f119.body.bind (AK f119.ntmps)=some p119:=by kernel_rfl
def p120:PC:=(⟨_,by conv=>lhs;reduce⟩:Rd (G f120 [])).1
theorem c120:f120.body.bind (AK f120.ntmps)=some p120:=by kernel_rfl
def ATp:PC:=(⟨_,by conv=>lhs;reduce⟩:Rd (K f121 0 [])).1
def AUL:PC:=(⟨_,by conv=>lhs;reduce⟩:Rd (K f121 1 [])).1
def p121:PC:=(⟨_,by conv=>lhs;reduce⟩:Rd (fun a b=>G f121 [a,b])).1 ATp AUL
theorem c121:f121.body.bind (AK f121.ntmps)=some p121:=by kernel_rfl
def p122:PC:=(⟨_,by conv=>lhs;reduce⟩:Rd (G f122 [])).1
theorem c122:f122.body.bind (AK f122.ntmps)=some p122:=by kernel_rfl
def p123:PC:=(⟨_,by conv=>lhs;reduce⟩:Rd (G f123 [])).1
theorem c123:f123.body.bind (AK f123.ntmps)=some p123:=by kernel_rfl
def SA:PC:=(⟨_,by conv=>lhs;reduce⟩:Rd (K f124 0 [])).1
def p124:PC:=(⟨_,by conv=>lhs;reduce⟩:Rd (fun a=>G f124 [a])).1 SA
theorem AVT:f124.body.bind (AK f124.ntmps)=some p124:=by kernel_rfl
def APH:PC:=(⟨_,by conv=>lhs;reduce⟩:Rd (K f127 0 [])).1
def p127:PC:=(⟨_,by conv=>lhs;reduce⟩:Rd (fun a=>G f127 [a])).1 APH
theorem c127:f127.body.bind (AK f127.ntmps)=some p127:=by kernel_rfl
def p129:PC:=(⟨_,by conv=>lhs;reduce⟩:Rd (G f129 [])).1
theorem c129:f129.body.bind (AK f129.ntmps)=some p129:=by kernel_rfl
def p130:PC:=(⟨_,by conv=>lhs;reduce⟩:Rd (G f130 [])).1
theorem ASf:f130.body.bind (AK f130.ntmps)=some p130:=by kernel_rfl
def ANk:PC:=(⟨_,by conv=>lhs;reduce⟩:Rd (K f131 0 [])).1
def p131:PC:=(⟨_,by conv=>lhs;reduce⟩:Rd (fun a=>G f131 [a])).1 ANk
theorem c131:f131.body.bind (AK f131.ntmps)=some p131:=by kernel_rfl
def p132:PC:=(⟨_,by conv=>lhs;reduce⟩:Rd (G f132 [])).1
theorem AEI:f132.body.bind (AK f132.ntmps)=some p132:=by kernel_rfl
def JJ:PC:=(⟨_,by conv=>lhs;reduce⟩:Rd (K f133 0 [])).1
def LF:PC:=(⟨_,by conv=>lhs;reduce⟩:Rd (fun a=>K f133 1 [a])).1 JJ
def p133:PC:=(⟨_,by conv=>lhs;reduce⟩:Rd (fun a=>G f133 [a])).1 LF
theorem c133:f133.body.bind (AK f133.ntmps)=some p133:=by kernel_rfl
def sP:PC:=(⟨_,by conv=>lhs;reduce⟩:Rd (K f134 0 [])).1
def p134:PC:=(⟨_,by conv=>lhs;reduce⟩:Rd (fun a=>G f134 [a])).1 sP
theorem c134:f134.body.bind (AK f134.ntmps)=some p134:=by kernel_rfl
def API:PC:=(⟨_,by conv=>lhs;reduce⟩:Rd (K f135 0 [])).1
def p135:PC:=(⟨_,by conv=>lhs;reduce⟩:Rd (fun a=>G f135 [a])).1 API
theorem c135:f135.body.bind (AK f135.ntmps)=some p135:=by kernel_rfl
def p136:PC:=(⟨_,by conv=>lhs;reduce⟩:Rd (G f136 [])).1
theorem c136:f136.body.bind (AK f136.ntmps)=some p136:=by kernel_rfl
def p138:PC:=(⟨_,by conv=>lhs;reduce⟩:Rd (G f138 [])).1
theorem uc:f138.body.bind (AK f138.ntmps)=some p138:=by kernel_rfl
def Xl:PC:=(⟨_,by conv=>lhs;reduce⟩:Rd (K f139 0 [])).1
def p139:PC:=(⟨_,by conv=>lhs;reduce⟩:Rd (fun a=>G f139 [a])).1 Xl
theorem c139:f139.body.bind (AK f139.ntmps)=some p139:=by kernel_rfl
def p140:PC:=(⟨_,by conv=>lhs;reduce⟩:Rd (G f140 [])).1
theorem c140:f140.body.bind (AK f140.ntmps)=some p140:=by kernel_rfl
def p141:PC:=(⟨_,by conv=>lhs;reduce⟩:Rd (G f141 [])).1
theorem c141:f141.body.bind (AK f141.ntmps)=some p141:=by kernel_rfl
def p142:PC:=(⟨_,by conv=>lhs;reduce⟩:Rd (G f142 [])).1
theorem c142:f142.body.bind (AK f142.ntmps)=some p142:=by kernel_rfl
def p143:PC:=(⟨_,by conv=>lhs;reduce⟩:Rd (G f143 [])).1
theorem AQA:f143.body.bind (AK f143.ntmps)=some p143:=by kernel_rfl
def p144:PC:=(⟨_,by conv=>lhs;reduce⟩:Rd (G f144 [])).1
theorem ASg:f144.body.bind (AK f144.ntmps)=some p144:=by kernel_rfl
def p145:PC:=(⟨_,by conv=>lhs;reduce⟩:Rd (G f145 [])).1
theorem c145:f145.body.bind (AK f145.ntmps)=some p145:=by kernel_rfl
def APJ:PC:=(⟨_,by conv=>lhs;reduce⟩:Rd (K f146 0 [])).1
def p146:PC:=(⟨_,by conv=>lhs;reduce⟩:Rd (fun a=>G f146 [a])).1 APJ
theorem c146:f146.body.bind (AK f146.ntmps)=some p146:=by kernel_rfl
def p147:PC:=(⟨_,by conv=>lhs;reduce⟩:Rd (G f147 [])).1
theorem c147:f147.body.bind (AK f147.ntmps)=some p147:=by kernel_rfl
def p148:PC:=(⟨_,by conv=>lhs;reduce⟩:Rd (G f148 [])).1
theorem c148:f148.body.bind (AK f148.ntmps)=some p148:=by kernel_rfl
def p149:PC:=(⟨_,by conv=>lhs;reduce⟩:Rd (G f149 [])).1
theorem c149:f149.body.bind (AK f149.ntmps)=some p149:=by kernel_rfl
def p150:PC:=(⟨_,by conv=>lhs;reduce⟩:Rd (G f150 [])).1
theorem c150:f150.body.bind (AK f150.ntmps)=some p150:=by kernel_rfl
def APK:PC:=(⟨_,by conv=>lhs;reduce⟩:Rd (K f151 0 [])).1
def p151:PC:=(⟨_,by conv=>lhs;reduce⟩:Rd (fun a=>G f151 [a])).1 APK
theorem c151:f151.body.bind (AK f151.ntmps)=some p151:=by kernel_rfl
def p152:PC:=(⟨_,by conv=>lhs;reduce⟩:Rd (G f152 [])).1
theorem c152:f152.body.bind (AK f152.ntmps)=some p152:=by kernel_rfl
def p153:PC:=(⟨_,by conv=>lhs;reduce⟩:Rd (G f153 [])).1
theorem c153:f153.body.bind (AK f153.ntmps)=some p153:=by kernel_rfl
def p154:PC:=(⟨_,by conv=>lhs;reduce⟩:Rd (G f154 [])).1
theorem c154:f154.body.bind (AK f154.ntmps)=some p154:=by kernel_rfl
def AMx:PC:=(⟨_,by conv=>lhs;reduce⟩:Rd (K f155 0 [])).1
def p155:PC:=(⟨_,by conv=>lhs;reduce⟩:Rd (fun a=>G f155 [a])).1 AMx
theorem c155:f155.body.bind (AK f155.ntmps)=some p155:=by kernel_rfl
def AL9:PC:=(⟨_,by conv=>lhs;reduce⟩:Rd (K f156 0 [])).1
def AMy:PC:=(⟨_,by conv=>lhs;reduce⟩:Rd (fun a=>K f156 1 [a])).1 AL9
def p156:PC:=(⟨_,by conv=>lhs;reduce⟩:Rd (fun a=>G f156 [a])).1 AMy
theorem c156:f156.body.bind (AK f156.ntmps)=some p156:=by kernel_rfl
def tC:PC:=(⟨_,by conv=>lhs;reduce⟩:Rd (K f157 0 [])).1
def p157:PC:=(⟨_,by conv=>lhs;reduce⟩:Rd (fun a=>G f157 [a])).1 tC
theorem c157:f157.body.bind (AK f157.ntmps)=some p157:=by kernel_rfl
def p158:PC:=(⟨_,by conv=>lhs;reduce⟩:Rd (G f158 [])).1
theorem c158:f158.body.bind (AK f158.ntmps)=some p158:=by kernel_rfl
def bF:PC:=(⟨_,by conv=>lhs;reduce⟩:Rd (K f159 0 [])).1
def p159:PC:=(⟨_,by conv=>lhs;reduce⟩:Rd (fun a=>G f159 [a])).1 bF
theorem c159:f159.body.bind (AK f159.ntmps)=some p159:=by kernel_rfl
def p160:PC:=(⟨_,by conv=>lhs;reduce⟩:Rd (G f160 [])).1
theorem c160:f160.body.bind (AK f160.ntmps)=some p160:=by kernel_rfl
def AUM:PC:=(⟨_,by conv=>lhs;reduce⟩:Rd (K f161 0 [])).1
def p161:PC:=(⟨_,by conv=>lhs;reduce⟩:Rd (fun a=>G f161 [a])).1 AUM
theorem c161:f161.body.bind (AK f161.ntmps)=some p161:=by kernel_rfl
def ATx:PC:=(⟨_,by conv=>lhs;reduce⟩:Rd (K f162 0 [])).1
def p162:PC:=(⟨_,by conv=>lhs;reduce⟩:Rd (fun a=>G f162 [a])).1 ATx
theorem qV:f162.body.bind (AK f162.ntmps)=some p162:=by kernel_rfl
def p163:PC:=(⟨_,by conv=>lhs;reduce⟩:Rd (G f163 [])).1
theorem AVU:f163.body.bind (AK f163.ntmps)=some p163:=by kernel_rfl
def p164:PC:=(⟨_,by conv=>lhs;reduce⟩:Rd (G f164 [])).1
theorem c164:f164.body.bind (AK f164.ntmps)=some p164:=by kernel_rfl
def APL:PC:=(⟨_,by conv=>lhs;reduce⟩:Rd (K f165 0 [])).1
def p165:PC:=(⟨_,by conv=>lhs;reduce⟩:Rd (fun a=>G f165 [a])).1 APL
theorem c165:f165.body.bind (AK f165.ntmps)=some p165:=by kernel_rfl
def APM:PC:=(⟨_,by conv=>lhs;reduce⟩:Rd (K f166 0 [])).1
def p166:PC:=(⟨_,by conv=>lhs;reduce⟩:Rd (fun a=>G f166 [a])).1 APM
theorem c166:f166.body.bind (AK f166.ntmps)=some p166:=by kernel_rfl
def p167:PC:=(⟨_,by conv=>lhs;reduce⟩:Rd (G f167 [])).1
theorem ASh:f167.body.bind (AK f167.ntmps)=some p167:=by kernel_rfl
def p168:PC:=(⟨_,by conv=>lhs;reduce⟩:Rd (G f168 [])).1
theorem c168:f168.body.bind (AK f168.ntmps)=some p168:=by kernel_rfl
def p169:PC:=(⟨_,by conv=>lhs;reduce⟩:Rd (G f169 [])).1
theorem c169:f169.body.bind (AK f169.ntmps)=some p169:=by kernel_rfl
def p170:PC:=(⟨_,by conv=>lhs;reduce⟩:Rd (G f170 [])).1
theorem c170:f170.body.bind (AK f170.ntmps)=some p170:=by kernel_rfl
def p171:PC:=(⟨_,by conv=>lhs;reduce⟩:Rd (G f171 [])).1
theorem c171:f171.body.bind (AK f171.ntmps)=some p171:=by kernel_rfl
def p172:PC:=(⟨_,by conv=>lhs;reduce⟩:Rd (G f172 [])).1
theorem c172:f172.body.bind (AK f172.ntmps)=some p172:=by kernel_rfl
def Cs:PC:=(⟨_,by conv=>lhs;reduce⟩:Rd (K f173 0 [])).1
def p173:PC:=(⟨_,by conv=>lhs;reduce⟩:Rd (fun a=>G f173 [a])).1 Cs
theorem c173:f173.body.bind (AK f173.ntmps)=some p173:=by kernel_rfl
def p174:PC:=(⟨_,by conv=>lhs;reduce⟩:Rd (G f174 [])).1
theorem c174:f174.body.bind (AK f174.ntmps)=some p174:=by kernel_rfl
def bI:PC:=(⟨_,by conv=>lhs;reduce⟩:Rd (K f175 0 [])).1
def AMZ:PC:=(⟨_,by conv=>lhs;reduce⟩:Rd (fun a=>K f175 1 [a])).1 bI
def p175:PC:=(⟨_,by conv=>lhs;reduce⟩:Rd (fun a=>G f175 [a])).1 AMZ
theorem c175:f175.body.bind (AK f175.ntmps)=some p175:=by kernel_rfl
def p176:PC:=(⟨_,by conv=>lhs;reduce⟩:Rd (G f176 [])).1
theorem AVE:f176.body.bind (AK f176.ntmps)=some p176:=by kernel_rfl
def bJ:PC:=(⟨_,by conv=>lhs;reduce⟩:Rd (K f177 0 [])).1
def p177:PC:=(⟨_,by conv=>lhs;reduce⟩:Rd (fun a=>G f177 [a])).1 bJ
theorem c177:f177.body.bind (AK f177.ntmps)=some p177:=by kernel_rfl
def p178:PC:=(⟨_,by conv=>lhs;reduce⟩:Rd (G f178 [])).1
theorem c178:f178.body.bind (AK f178.ntmps)=some p178:=by kernel_rfl
def p180:PC:=(⟨_,by conv=>lhs;reduce⟩:Rd (G f180 [])).1
theorem c180:f180.body.bind (AK f180.ntmps)=some p180:=by kernel_rfl
def APN:PC:=(⟨_,by conv=>lhs;reduce⟩:Rd (K f181 0 [])).1
def APO:PC:=(⟨_,by conv=>lhs;reduce⟩:Rd (fun a=>K f181 1 [a])).1 APN
def p181:PC:=(⟨_,by conv=>lhs;reduce⟩:Rd (fun a=>G f181 [a])).1 APO
theorem c181:f181.body.bind (AK f181.ntmps)=some p181:=by kernel_rfl
def JK:PC:=(⟨_,by conv=>lhs;reduce⟩:Rd (K f182 0 [])).1
def APP:PC:=(⟨_,by conv=>lhs;reduce⟩:Rd (fun a=>K f182 1 [a])).1 JK
def p182:PC:=(⟨_,by conv=>lhs;reduce⟩:Rd (fun a=>G f182 [a])).1 APP
theorem c182:f182.body.bind (AK f182.ntmps)=some p182:=by kernel_rfl
def p183:PC:=(⟨_,by conv=>lhs;reduce⟩:Rd (G f183 [])).1
theorem c183:f183.body.bind (AK f183.ntmps)=some p183:=by kernel_rfl
def p184:PC:=(⟨_,by conv=>lhs;reduce⟩:Rd (G f184 [])).1
theorem c184:f184.body.bind (AK f184.ntmps)=some p184:=by kernel_rfl
def APQ:PC:=(⟨_,by conv=>lhs;reduce⟩:Rd (K f185 0 [])).1
def p185:PC:=(⟨_,by conv=>lhs;reduce⟩:Rd (fun a=>G f185 [a])).1 APQ
theorem c185:f185.body.bind (AK f185.ntmps)=some p185:=by kernel_rfl
def p186:PC:=(⟨_,by conv=>lhs;reduce⟩:Rd (G f186 [])).1
theorem c186:f186.body.bind (AK f186.ntmps)=some p186:=by kernel_rfl
def p187:PC:=(⟨_,by conv=>lhs;reduce⟩:Rd (G f187 [])).1
theorem c187:f187.body.bind (AK f187.ntmps)=some p187:=by kernel_rfl
def AMJ:PC:=(⟨_,by conv=>lhs;reduce⟩:Rd (K f188 0 [])).1
def AMK:PC:=(⟨_,by conv=>lhs;reduce⟩:Rd (K f188 1 [])).1
def p188:PC:=(⟨_,by conv=>lhs;reduce⟩:Rd (fun a b=>G f188 [a,b])).1 AMJ AMK
theorem ASi:f188.body.bind (AK f188.ntmps)=some p188:=by kernel_rfl
def cP:PC:=(⟨_,by conv=>lhs;reduce⟩:Rd (K f189 0 [])).1
def Qv:PC:=(⟨_,by conv=>lhs;reduce⟩:Rd (K f189 1 [])).1
def p189:PC:=(⟨_,by conv=>lhs;reduce⟩:Rd (fun a b=>G f189 [a,b])).1 cP Qv
theorem c189:f189.body.bind (AK f189.ntmps)=some p189:=by kernel_rfl
def ANl:PC:=(⟨_,by conv=>lhs;reduce⟩:Rd (K f190 0 [])).1
def p190:PC:=(⟨_,by conv=>lhs;reduce⟩:Rd (fun a=>G f190 [a])).1 ANl
theorem c190:f190.body.bind (AK f190.ntmps)=some p190:=by kernel_rfl
def p191:PC:=(⟨_,by conv=>lhs;reduce⟩:Rd (G f191 [])).1
theorem c191:f191.body.bind (AK f191.ntmps)=some p191:=by kernel_rfl
def p192:PC:=(⟨_,by conv=>lhs;reduce⟩:Rd (G f192 [])).1
theorem c192:f192.body.bind (AK f192.ntmps)=some p192:=by kernel_rfl
def Uc:PC:=(⟨_,by conv=>lhs;reduce⟩:Rd (K f193 0 [])).1
def p193:PC:=(⟨_,by conv=>lhs;reduce⟩:Rd (fun a=>G f193 [a])).1 Uc
theorem c193:f193.body.bind (AK f193.ntmps)=some p193:=by kernel_rfl
def APR:PC:=(⟨_,by conv=>lhs;reduce⟩:Rd (K f196 0 [])).1
def p196:PC:=(⟨_,by conv=>lhs;reduce⟩:Rd (fun a=>G f196 [a])).1 APR
theorem c196:f196.body.bind (AK f196.ntmps)=some p196:=by kernel_rfl
def p197:PC:=(⟨_,by conv=>lhs;reduce⟩:Rd (G f197 [])).1
theorem c197:f197.body.bind (AK f197.ntmps)=some p197:=by kernel_rfl
def p198:PC:=(⟨_,by conv=>lhs;reduce⟩:Rd (G f198 [])).1
theorem c198:f198.body.bind (AK f198.ntmps)=some p198:=by kernel_rfl
def p199:PC:=(⟨_,by conv=>lhs;reduce⟩:Rd (G f199 [])).1
theorem c199:f199.body.bind (AK f199.ntmps)=some p199:=by kernel_rfl
def p200:PC:=(⟨_,by conv=>lhs;reduce⟩:Rd (G f200 [])).1
theorem c200:f200.body.bind (AK f200.ntmps)=some p200:=by kernel_rfl
def p209:PC:=(⟨_,by conv=>lhs;reduce⟩:Rd (G f209 [])).1
def p210:PC:=(⟨_,by conv=>lhs;reduce⟩:Rd (G f210 [])).1
theorem c210:f210.body.bind (AK f210.ntmps)=some p210:=by kernel_rfl
def p211:PC:=(⟨_,by conv=>lhs;reduce⟩:Rd (G f211 [])).1
theorem c211:f211.body.bind (AK f211.ntmps)=some p211:=by kernel_rfl
def APS:PC:=(⟨_,by conv=>lhs;reduce⟩:Rd (K f212 0 [])).1
def p212:PC:=(⟨_,by conv=>lhs;reduce⟩:Rd (fun a=>G f212 [a])).1 APS
theorem c212:f212.body.bind (AK f212.ntmps)=some p212:=by kernel_rfl
end Go.Proofs.Tryz
