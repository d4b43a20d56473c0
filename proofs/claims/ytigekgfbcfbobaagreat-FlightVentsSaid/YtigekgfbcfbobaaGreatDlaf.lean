/- Own lemmas, used by the last text. Conditions: those that each theorem states. -/
import Derived.Deep.Slices
import Derived.Lib.SmallJoins
import Derived.OpenShut
import Derived.ProofKit
import Derived.Test.YtigekgfbcfbobaaGreatDlaa
import Derived.Test.YtigekgfbcfbobaaGreatDlae
import Derived.Test.YtigekgfbcfbobaaGreatProg
set_option maxRecDepth 200000
set_option maxHeartbeats 8000000
namespace Go.Psl
variable {Γ:Tys} {eqs:Eqs} {H:Hp} {t:TypeId} {b:Nat}
theorem UP {cs:List D}:EO Γ H t (.d (.ref cs))=(Γ t).bind fun y=>if y.size<=cs.length then some (mkV y.agg ((cs.take y.size).map .d), .none) else none:=AF rfl
theorem XR {id off:Nat}:EO Γ H t (.lp id off)=(Γ t).bind fun y=>(H id).bind fun cells=>if off+y.size<=cells.length then some (mkV y.agg ((cells.drop off).take y.size), .none) else none:=AF rfl
theorem dW {cs:List V}:mkV true cs= .agg cs:=AF rfl
theorem dX {c:V} {cs:List V}:mkV false (c::cs)=c:=AF rfl
theorem UQ {id off:Nat} {v:V}:FR Γ H t (.lp id off) v=(Γ t).bind fun y=>(H id).bind fun cells=>if v.cells.length=y.size/\off+y.size<=cells.length/\v.cells.all V.isCell=true then some (.junk, .put id (AA cells off v.cells)) else none:=AF rfl
theorem UR {cs:List V}:V.cells (.agg cs)=cs:=AF rfl
theorem dY {x:D}:V.cells (.d x)=[.d x]:=AF rfl
theorem XT {i o:Nat}:V.cells (.lp i o)=[.lp i o]:=AF rfl
theorem XU {i o l z:Nat}:V.cells (.ls i o l z)=[.ls i o l z]:=AF rfl
theorem XV {f:FuncId} {c:List V}:V.cells (.cl f c)=[.cl f c]:=AF rfl
theorem XW {x:D}:V.isCell (.d x)=true:=AF rfl
theorem US {i o:Nat}:V.isCell (.lp i o)=true:=AF rfl
theorem UT {i o l z:Nat}:V.isCell (.ls i o l z)=true:=AF rfl
theorem UU {f:FuncId} {c:List V}:V.isCell (.cl f c)=true:=AF rfl
theorem XX {f:Nat->V}:ED f []=[]:=AF rfl
theorem UV {f:Nat->V} {i:Nat} {x:Operand} {r:List (Nat × Operand)}:ED f ((i,x)::r)=(i,evF f x)::ED f r:=AF rfl
theorem AIg {f:Nat->V}:BX f []=[]:=AF rfl
theorem UW {f:Nat->V} {x:Operand} {r:List Operand}:BX f (x::r)=evF f x::BX f r:=AF rfl
theorem dZ {f:Nat->V} {t:Nat}:evF f (.tmp t)=f t:=AF rfl
theorem UX {f:Nat->V} {v:Value}:evF f (.const v)=evC v:=AF rfl
theorem XZ {f:Nat->V} {g:FuncId}:evF f (.func g)= .d (.fn g []):=AF rfl
theorem UY {g:FuncId} {cs:List D}:Be (.d (.fn g cs))=some (g,cs.map .d):=AF rfl
theorem UZ {g:FuncId} {cs:List V}:Be (.cl g cs)=some (g,cs):=AF rfl
theorem KW {i:Nat}:V.cells (.yl i)=[.yl i]:=AF rfl
theorem Ua {i:Nat}:V.isCell (.yl i)=true:=AF rfl
theorem QJ {cs:List D} {i:Nat}:Hv Γ t (.d (.ref cs)) i=(Γ t).bind fun y=>match y.sh with
 | .struct fs=>fs[i]?.bind fun p=>(Γ p.2).bind fun yf=>if yf.size=0 then none else some (.d (.ref (cs.drop p.1)), .none)
 | _=>none:=AF rfl
theorem Ub {id off i:Nat}:Hv Γ t (.lp id off) i=(Γ t).bind fun y=>match y.sh with
 | .struct fs=>fs[i]?.bind fun p=>(Γ p.2).bind fun yf=>if yf.size=0 then none else some (.lp id (off+p.1), .none)
 | _=>none:=AF rfl
theorem da {sz:Nat} {es:List (List D)}:Iy Γ t (.d (.sl sz es))=(Γ t).bind fun y=>match y.sh with | .slice _=>some (.d (.lit (.int .i64 es.length)), .none) | _=>none:=by
 unfold Iy;congr;funext y;cases y.sh<;>rfl
theorem Sw {i o l z:Nat}:Iy Γ t (.ls i o l z)=(Γ t).bind fun y=>match y.sh with | .slice _=>some (.d (.lit (.int .i64 l)), .none) | _=>none:=by
 unfold Iy;congr;funext y;cases y.sh<;>rfl
theorem OQ {a:Option Addr} {n c:Nat}:Iy Γ t (.d (.lit (.slice a n c)))=(Γ t).bind fun y=>match y.sh with | .slice _=>some (.d (.lit (.int .i64 0)), .none) | _=>none:=by
 unfold Iy;congr;funext y;cases y.sh<;>rfl
theorem vw {o:BinOp} {k k':IntKind} {x y:Int}:FV Γ eqs o t (.d (.lit (.int k x))) (.d (.lit (.int k' y)))=(CJ o k k' x y).map fun v=>(.d (.lit v), .none):=AF rfl
theorem Uc {o:BinOp} {x y:Bool}:FV Γ eqs o t (.d (.lit (.bool x))) (.d (.lit (.bool y)))=(Γ t).bind fun z=>match z.sh,o with
   | .bool, .eql=>some (.d (.lit (.bool (x == y))), .none)
   | .bool, .neq=>some (.d (.lit (.bool (x != y))), .none)
   | _,_=>none:=AF rfl
theorem vx {o:BinOp} {x y:List V}:FV Γ eqs o t (.agg x) (.agg y)=(eqs t).bind fun ks=>match o with
   | .eql=>(Bi ks x y).map fun r=>(.d (.lit (.bool r)), .none)
   | .neq=>(Bi ks x y).map fun r=>(.d (.lit (.bool (!r))), .none)
   | _=>none:=AF rfl
section
variable {k:IntKind} {x y:Int}
theorem vy:CJ .add k k x y=some (.int k (k.wrap (x+y))):=by simp [CJ]
theorem vz:CJ .sub k k x y=some (.int k (k.wrap (x-y))):=by simp [CJ]
theorem Xj:CJ .mul k k x y=some (.int k (k.wrap (x*y))):=by simp [CJ]
theorem ABH:CJ .quo k k x y=if y=0 then none else some (.int k (k.wrap (x.tdiv y))):=by simp [CJ]
theorem u7:CJ .rem k k x y=if y=0 then none else some (.int k (x.tmod y)):=by simp [CJ]
theorem Sx {x y:Int}:(x == y)=decide (x=y):=by by_cases h:x=y<;>simp [h]
theorem db {x y:Int}:(x != y)=!decide (x=y):=by by_cases h:x=y<;>simp [h]
theorem ADd:CJ .eql k k x y=some (.bool (decide (x=y))):=by simp [CJ,Sx]
theorem Xn:CJ .neq k k x y=some (.bool (!decide (x=y))):=by simp [CJ,db]
theorem ADe:CJ .lss k k x y=some (.bool (decide (x<y))):=by simp [CJ]
theorem ABW:CJ .leq k k x y=some (.bool (decide (x<=y))):=by simp [CJ]
theorem ADf:CJ .gtr k k x y=some (.bool (decide (y<x))):=by simp [CJ]
theorem ADg:CJ .geq k k x y=some (.bool (decide (y<=x))):=by simp [CJ]
end
section
variable {k k':IntKind} {x y:Int}
theorem AE8:CJ .shl k k' x y=if 0<=y/\y<=k.bits then some (.int k (k.wrap (x*2^y.toNat))) else none:=AF rfl
theorem v8:CJ .shr k k' x y=if 0<=y/\y<=k.bits then some (.int k (x/2^y.toNat)) else none:=AF rfl
theorem AFy:CJ .and k k x y=some (.int k (bits .and k x y)):=by simp [CJ]
theorem dc:CJ .or k k x y=some (.int k (bits .or k x y)):=by simp [CJ]
theorem AFz:CJ .xor k k x y=some (.int k (bits .xor k x y)):=by simp [CJ]
theorem AGu:IntKind.bits .u64=64:=AF rfl
theorem AHw:IntKind.bits .i64=64:=AF rfl
end
theorem de {x:Bool}:unF .not (.d (.lit (.bool x)))=some (.d (.lit (.bool (!x))), .none):=AF rfl
theorem dh {k:IntKind} {x:Int}:unF .neg (.d (.lit (.int k x)))=some (.d (.lit (.int k (k.wrap (-x)))), .none):=AF rfl
theorem QK {c:Bool} {x y:Bool}:Jo (.d (.lit (.bool c))) (.d (.lit (.bool x))) (.d (.lit (.bool y)))=some (.d (.lit (.bool (if c then x else y))), .none):=AF rfl
theorem QL {x y:V}:Jo (.d (.lit (.bool true))) x y=some (x, .none):=by
 have:GI true x y=x:=by unfold GI;split<;>rfl
 show some (GI true x y,Eff.none)=_
 rw [this]
theorem OS {x y:V}:Jo (.d (.lit (.bool false))) x y=some (y, .none):=by
 have:GI false x y=y:=by unfold GI;split<;>rfl
 show some (GI false x y,Eff.none)=_
 rw [this]
theorem dj {x:Bool}:gV (.d (.lit (.bool x)))=some (some x):=AF rfl
theorem AIh:gV (.tup [])=some none:=AF rfl
theorem Ud {vs:List V} {i:Nat}:Mc (.tup vs) i=vs[i]?.map fun v=>(v, .none):=AF rfl
theorem dm {v:V}:iW b v=if v.cells.all V.isCell then some (.lp b 0, .new b v.cells) else none:=AF rfl
theorem Ue:Nx Γ b t=(Γ t).bind fun y=>some (.lp b 0, .new b (y.zero.map cV)):=AF rfl
theorem ABx {v:Value}:cV v= .d (.lit v):=AF rfl
theorem AKe {x y:Bool}:((some x:Option Bool) == some y)=(x == y):=AF rfl
theorem AF0 {y:Bool}:((none:Option Bool) == some y)=false:=AF rfl
theorem X1 {k t:Nat}:Dn k [] t= .tup []:=AF rfl
theorem Uf {k t:Nat} {a:V} {r:List V}:Dn k (a::r) t=if t=k then a else Dn (k+1) r t:=AF rfl
theorem Ug {t:Nat}:AO [] t= .junk:=AF rfl
theorem QM {k t:Nat} {a:V} {r:List (Nat × V)}:AO ((k,a)::r) t=if t=k then a else AO r t:=by
 simp only [AO,lk];split<;>rfl
theorem jo {α:Type} {t:Nat}:lk ([]:List (Nat × α)) t=none:=AF rfl
theorem dp {α:Type} {k t:Nat} {a:α} {r:List (Nat × α)}:lk ((k,a)::r) t=if t=k then some a else lk r t:=AF rfl
section
variable {ρ:Nat->Option Nat}
theorem X2 {α β:Type} {R:α->β->Prop}:AJ R [] []=True:=AF rfl
theorem Uh {α β:Type} {R:α->β->Prop} {a:α} {b:β} {az:List α} {bs:List β}:AJ R (a::az) (b::bs)=(R a b/\AJ R az bs):=AF rfl
theorem W0_d {v:V} {x:D}:W0 ρ v (.d x)=(v= .d x):=AF rfl
theorem W1_d {v:V} {x:D}:W1 ρ v (.d x)=(v= .d x):=AF rfl
theorem W2_d {v:V} {x:D}:W2 ρ v (.d x)=(v= .d x):=AF rfl
theorem WV_d {v:V} {x:D}:WV ρ v (.d x)=(v= .d x):=AF rfl
theorem dt {v:V}:W0 ρ v .junk=True:=AF rfl
theorem du {v:V}:W1 ρ v .junk=True:=AF rfl
theorem dw {v:V}:W2 ρ v .junk=True:=AF rfl
theorem dy {v:V}:WV ρ v .junk=True:=AF rfl
theorem OT {i j o o':Nat}:W0 ρ (.lp j o) (.lp i o')=(ρ i=some j/\o=o'):=by
 simp only [W0,V.lp.injEq,eq_iff_iff];constructor
 . rintro ⟨j',h1,rfl,rfl⟩;exact ⟨h1,rfl⟩
 . rintro ⟨h1,rfl⟩;exact ⟨j,h1,rfl,rfl⟩
theorem AFM {i j o o':Nat}:W1 ρ (.lp j o) (.lp i o')=(ρ i=some j/\o=o'):=OT
theorem nz {i j o o':Nat}:W2 ρ (.lp j o) (.lp i o')=(ρ i=some j/\o=o'):=OT
theorem AIH {i j o o':Nat}:WV ρ (.lp j o) (.lp i o')=(ρ i=some j/\o=o'):=OT
theorem OU {i j o o' l l' z z':Nat}:W0 ρ (.ls j o l z) (.ls i o' l' z')=(ρ i=some j/\o=o'/\l=l'/\z=z'):=by
 simp only [W0,eq_iff_iff];cases ρ i with
 | none=>simp
 | some k=>simp [eq_comm]
theorem n8 {i j o o' l l' z z':Nat}:W1 ρ (.ls j o l z) (.ls i o' l' z')=(ρ i=some j/\o=o'/\l=l'/\z=z'):=OU
theorem n9 {i j o o' l l' z z':Nat}:W2 ρ (.ls j o l z) (.ls i o' l' z')=(ρ i=some j/\o=o'/\l=l'/\z=z'):=OU
theorem oA {i j o o' l l' z z':Nat}:WV ρ (.ls j o l z) (.ls i o' l' z')=(ρ i=some j/\o=o'/\l=l'/\z=z'):=OU
theorem ACX {i o l z:Nat}:W0 ρ (.d (.lit (.slice none 0 0))) (.ls i o l z)=(ρ i=none/\l=0):=by
 simp only [W0,eq_iff_iff];cases ρ i with
 | none=>simp
 | some k=>simp
theorem xD {i o l z:Nat}:W1 ρ (.d (.lit (.slice none 0 0))) (.ls i o l z)=(ρ i=none/\l=0):=ACX
theorem xE {i o l z:Nat}:W2 ρ (.d (.lit (.slice none 0 0))) (.ls i o l z)=(ρ i=none/\l=0):=ACX
theorem AH6 {i o l z:Nat}:WV ρ (.d (.lit (.slice none 0 0))) (.ls i o l z)=(ρ i=none/\l=0):=ACX
theorem jp {az bs:List V}:W2 ρ (.agg az) (.agg bs)=AJ (W1 ρ) az bs:=by simp [W2]
theorem jq {az bs:List V}:WV ρ (.agg az) (.agg bs)=AJ (W1 ρ) az bs:=by simp [WV,W2]
theorem jr {az bs:List V}:WV ρ (.tup az) (.tup bs)=AJ (W2 ρ) az bs:=by simp [WV]
theorem OV {f:Nat->V}:CL ρ f []=True:=AF rfl
theorem Mq {f:Nat->V} {t:Nat} {v:V} {r:List (Nat × V)}:CL ρ f ((t,v)::r)=(WV ρ (f t) v/\CL ρ f r):=AF rfl
theorem X3:Ej ρ H []=True:=AF rfl
theorem Ui {i:Nat} {cs:List V} {r:List (Nat × List V)}:Ej ρ H ((i,cs)::r)=((match ρ i with | some j=>(∃ cs',H j=some cs'/\AJ (WC ρ) cs' cs)/\Bv cs | none=>cs=[])/\Ej ρ H r):=AF rfl
theorem OW:Bv []=True:=by simp [Bv]
theorem Mr {c:V} {cs:List V} (h:V.isCell c=true):Bv (c::cs)=(cs.all V.isCell=true):=by
 simp only [Bv,List.all_cons,h,Bool.true_and,eq_iff_iff,or_iff_left_iff_imp]
 rintro (⟨fr,nt,ps,pa,pb,jmp,e⟩ | ⟨es,e⟩)
 . cases e;cases h
 . cases e;cases h
theorem AKQ {es:List (Value × Bool × List D)} {cs:List V}:AJ (WC ρ) cs (Qo es)=(cs=Qo es):=by
 have hm:∀ t,AV (fun i=>ρ i=some i) AR (mq es t):=fun t=>by
   unfold mq;split
   . intro c hc
     obtain ⟨x,_,rfl⟩:=List.mem_map.1 hc;trivial
   . trivial
 refine propext ⟨fun h=>?_,fun h=>?_⟩
 . match cs,h with
   | [a,b],h=>
     obtain ⟨h1,h2,_⟩:=h;have e1:a=ACA es:=h1.1;have e2:b= .d (.lit (.bool true)):=h2;rw [e1,e2];rfl
   | [],h=>exact h.elim
   | [_],h=>exact h.2.elim
   | _::_::_::_,h=>exact h.2.2.elim
 . subst h
   exact ⟨⟨rfl,hm⟩,rfl,trivial⟩
theorem AJV {es:List (Value × Bool × List D)}:Bv (Qo es)=True:=eq_true (.inr (.inr ⟨es,rfl⟩))
theorem AKf {p:Nat->Prop} {es:List (Value × Bool × List D)}:(∀ c,c∈Qo es->AC p AR c)=True:=eq_true fun c hc=>by
 simp only [Qo,List.mem_cons,List.not_mem_nil,or_false] at hc;rcases hc with rfl | rfl
 . intro t
   unfold mq;split
   . intro c hc
     obtain ⟨x,_,rfl⟩:=List.mem_map.1 hc;trivial
   . trivial
 . trivial
theorem WC_d {v:V} {x:D}:WC ρ v (.d x)=(v= .d x):=AF rfl
theorem oB {i j o o':Nat}:WC ρ (.lp j o) (.lp i o')=(ρ i=some j/\o=o'):=OT
theorem oC {i j o o' l l' z z':Nat}:WC ρ (.ls j o l z) (.ls i o' l' z')=(ρ i=some j/\o=o'/\l=l'/\z=z'):=OU
theorem eB {i o l z:Nat}:WC ρ (.d (.lit (.slice none 0 0))) (.ls i o l z)=(ρ i=none/\l=0):=ACX
theorem Sy {f g:FuncId} {cs ds:List V}:W1 ρ (.cl f cs) (.cl g ds)=(f=g/\AJ (W0 ρ) cs ds):=by
 simp only [W1,V.cl.injEq,eq_iff_iff];constructor
 . rintro ⟨c,⟨rfl,rfl⟩,h⟩;exact ⟨rfl,h⟩
 . rintro ⟨rfl,h⟩;exact ⟨cs,⟨rfl,rfl⟩,h⟩
theorem oD {f g:FuncId} {cs ds:List V}:WC ρ (.cl f cs) (.cl g ds)=(f=g/\AJ (W0 ρ) cs ds):=Sy
theorem oE {f g:FuncId} {cs ds:List V}:W2 ρ (.cl f cs) (.cl g ds)=(f=g/\AJ (W0 ρ) cs ds):=Sy
theorem oG {f g:FuncId} {cs ds:List V}:WV ρ (.cl f cs) (.cl g ds)=(f=g/\AJ (W0 ρ) cs ds):=Sy
theorem Sz {i j:Nat}:W0 ρ (.yl j) (.yl i)=(ρ i=some j):=by
 simp only [W0,V.yl.injEq,eq_iff_iff];constructor
 . rintro ⟨k,h1,rfl⟩;exact h1
 . intro h;exact ⟨j,h,rfl⟩
theorem oH {i j:Nat}:W1 ρ (.yl j) (.yl i)=(ρ i=some j):=Sz
theorem oI {i j:Nat}:W2 ρ (.yl j) (.yl i)=(ρ i=some j):=Sz
theorem oJ {i j:Nat}:WV ρ (.yl j) (.yl i)=(ρ i=some j):=Sz
theorem oK {v:V} {fr:Nat->V} {nt:Nat} {ps:List Nat} {pa pb:PC} {jmp:LSt}:WC ρ v (.lr fr nt ps pa pb jmp)=(v= .lr fr nt ps pa pb jmp/\∀ t,AV (fun i=>ρ i=some i) AR (fr t)):=AF rfl
theorem Uj {h:Hp}:DZ ρ H h []=True:=AF rfl
theorem QN {h:Hp} {i:Nat} {r:List Nat}:DZ ρ H h (i::r)=(((h i).isSome=true->ρ i=some i/\(H i).isSome=true)/\DZ ρ H h r):=AF rfl
theorem Uk {h:Hp} {n:Nat}:HD ρ H h n []=True:=AF rfl
theorem QO {h:Hp} {i n:Nat} {r:List Nat}:HD ρ H h n (i::r)=(i<n/\((h i).isSome=true->ρ i=some i/\(H i).isSome=true)/\HD ρ H h n r):=AF rfl
theorem QP:Bd ρ []=True:=AF rfl
theorem OX {i:Nat} {cs:List V} {r:List (Nat × List V)}:Bd ρ ((i,cs)::r)=((∀ q∈r,ρ q.1=none\/ρ q.1≠ρ i\/q.1=i)/\Bd ρ r):=AF rfl
end
section
variable {p:Nat->Prop}
theorem AV_d {x:D}:AV p AR (.d x)=True:=AF rfl
theorem A2_d {x:D}:A2 p AR (.d x)=True:=AF rfl
theorem A1_d {x:D}:A1 p AR (.d x)=True:=AF rfl
theorem A0_d {x:D}:A0 p AR (.d x)=True:=AF rfl
theorem oL {i o:Nat}:AV p AR (.lp i o)=p i:=AF rfl
theorem oM {i o:Nat}:A2 p AR (.lp i o)=p i:=AF rfl
theorem oN {i o:Nat}:A1 p AR (.lp i o)=p i:=AF rfl
theorem oO {i o:Nat}:A0 p AR (.lp i o)=p i:=AF rfl
theorem oP {i o l z:Nat}:AV p AR (.ls i o l z)=p i:=AF rfl
theorem oQ {i o l z:Nat}:A2 p AR (.ls i o l z)=p i:=AF rfl
theorem oS {i o l z:Nat}:A1 p AR (.ls i o l z)=p i:=AF rfl
theorem oT {i o l z:Nat}:A0 p AR (.ls i o l z)=p i:=AF rfl
theorem js {cs:List V}:AV p AR (.agg cs)=∀ c∈cs,A1 p AR c:=AF rfl
theorem jt {cs:List V}:A2 p AR (.agg cs)=∀ c∈cs,A1 p AR c:=AF rfl
theorem ju {cs:List V}:AV p AR (.tup cs)=∀ c∈cs,A2 p AR c:=AF rfl
theorem oU {f:FuncId} {cs:List V}:AV p AR (.cl f cs)=∀ c∈cs,A0 p AR c:=AF rfl
theorem oV {f:FuncId} {cs:List V}:A2 p AR (.cl f cs)=∀ c∈cs,A0 p AR c:=AF rfl
theorem oW {f:FuncId} {cs:List V}:A1 p AR (.cl f cs)=∀ c∈cs,A0 p AR c:=AF rfl
theorem Ms {n:Nat}:Bw n []=True:=AF rfl
theorem Lf {n t:Nat} {v:V} {r:List (Nat × V)}:Bw n ((t,v)::r)=(AV (· < n) AR v/\Bw n r):=AF rfl
theorem Ul {n:Nat}:A7 n []=True:=AF rfl
theorem QQ {n i:Nat} {cs:List V} {r:List (Nat × List V)}:A7 n ((i,cs)::r)=(i<n/\(∀ c∈cs,AC (· < n) AR c)/\A7 n r):=AF rfl
theorem AC_d {x:D}:AC p AR (.d x)=True:=AF rfl
theorem oX {i o:Nat}:AC p AR (.lp i o)=p i:=AF rfl
theorem oY {i o l z:Nat}:AC p AR (.ls i o l z)=p i:=AF rfl
theorem oZ {i:Nat}:AC p AR (.yl i)=p i:=AF rfl
theorem oc {f:FuncId} {cs:List V}:AC p AR (.cl f cs)=∀ c∈cs,A0 p AR c:=AF rfl
theorem od {fr:Nat->V} {nt:Nat} {ps:List Nat} {pa pb:PC} {jmp:LSt}:AC p AR (.lr fr nt ps pa pb jmp)=∀ t,AV p AR (fr t):=AF rfl
theorem oe {i:Nat}:A0 p AR (.yl i)=p i:=AF rfl
theorem og {i:Nat}:A1 p AR (.yl i)=p i:=AF rfl
theorem oh {i:Nat}:A2 p AR (.yl i)=p i:=AF rfl
theorem oi {i:Nat}:AV p AR (.yl i)=p i:=AF rfl
theorem X4 {x:D}:I8 (.d x)=True:=AF rfl
theorem QR {cs:List V}:I8 (.agg cs)=∀ c∈cs,A1 (fun _=>False) AR c:=AF rfl
theorem jv {H1:List (Nat × List V)} {i:Nat}:InB H1 i=((lk H1 i).isSome=true):=AF rfl
end
theorem X5 {f:Nat->V}:AGe Γ H f []=some []:=AF rfl
theorem X6 {f:Nat->V} {t:Nat} {r:List ResultVar}:AGe Γ H f (.tmp t::r)=(AGe Γ H f r).map (f t::·):=AF rfl
theorem Um {f:Nat->V} {a T:Nat} {r:List ResultVar}:AGe Γ H f (.cell a T::r)=(EO Γ H T (f a)).bind fun p=>(AGe Γ H f r).map (p.1::·):=AF rfl
theorem X7 {v:V}:P8 [v]=v:=AF rfl
theorem X8 {v w:V} {r:List V}:P8 (v::w::r)= .tup (v::w::r):=AF rfl
theorem eC {x:D}:V.isTup (.d x)=false:=AF rfl
theorem X9 {i o:Nat}:V.isTup (.lp i o)=false:=AF rfl
theorem YA {i o l z:Nat}:V.isTup (.ls i o l z)=false:=AF rfl
theorem Un {cs:List V}:V.isTup (.agg cs)=false:=AF rfl
theorem YB {f:FuncId} {cs:List V}:V.isTup (.cl f cs)=false:=AF rfl
theorem AD {x:Int} (h1: -9223372036854775808<=x) (h2:x<=9223372036854775807):IntKind.wrap .i64 x=x:=by
 have:∀ m:Int,m=x%18446744073709551616->(if m>=9223372036854775808 then m-18446744073709551616 else m)=x:=fun m hm=>by split<;>omega
 simpa [IntKind.wrap,IntKind.bits,IntKind.signed] using this _ rfl
theorem Ay {x:Int} (h1:0<=x) (h2:x<=18446744073709551615):IntKind.wrap .u64 x=x:=by
 have:x%18446744073709551616=x:=by omega
 simpa [IntKind.wrap,IntKind.bits,IntKind.signed] using this
theorem oj {ρ:Nat->Nat} {x:D}:ren ρ (.d x)= .d x:=AF rfl
theorem jw {ρ:Nat->Nat} {i o:Nat}:ren ρ (.lp i o)= .lp (ρ i) o:=AF rfl
theorem jx {ρ:Nat->Nat} {i o l z:Nat}:ren ρ (.ls i o l z)= .ls (ρ i) o l z:=AF rfl
theorem eD {ρ:Nat->Nat} {cs:List V}:ren ρ (.agg cs)= .agg (cs.map (DS ρ)):=AF rfl
theorem eE {ρ:Nat->Nat} {cs:List V}:ren ρ (.tup cs)= .tup (cs.map (HR ρ)):=AF rfl
theorem jy {ρ:Nat->Nat} {x:D}:HR ρ (.d x)= .d x:=AF rfl
theorem eG {ρ:Nat->Nat} {i o l z:Nat}:HR ρ (.ls i o l z)= .ls (ρ i) o l z:=AF rfl
theorem eI {ρ:Nat->Nat} {i o:Nat}:HR ρ (.lp i o)= .lp (ρ i) o:=AF rfl
theorem YC {ρ:Nat->Nat} {cs:List V}:HR ρ (.agg cs)= .agg (cs.map (DS ρ)):=AF rfl
theorem jz {ρ:Nat->Nat} {x:D}:DS ρ (.d x)= .d x:=AF rfl
theorem eJ {ρ:Nat->Nat} {i o l z:Nat}:DS ρ (.ls i o l z)= .ls (ρ i) o l z:=AF rfl
theorem eK {ρ:Nat->Nat} {i o:Nat}:DS ρ (.lp i o)= .lp (ρ i) o:=AF rfl
theorem YD {base:Nat}:I1 H base []=H:=AF rfl
theorem Uo {base i:Nat} {cs:List V} {r:List (Nat × List V)}:I1 H base ((i,cs)::r)=upd (I1 H base r) (base+i) (some (cs.map (BJ (base+·)))):=AF rfl
theorem Up {n:Nat}:BW n []=True:=AF rfl
theorem QS {n i:Nat} {cs:List V} {r:List (Nat × List V)}:BW n ((i,cs)::r)=(i<n/\BW n r):=AF rfl
theorem ol {x y:D}:Bor H (.d x) (.d y)=(x=y\/(x= .lit (.slice none 0 0)/\∃ sz,y= .sl sz [])):=AF rfl
theorem j0 {x y:D}:Fi H (.d x) (.d y)=(x=y\/(x= .lit (.slice none 0 0)/\∃ sz,y= .sl sz [])):=AF rfl
theorem eM {az bs:List V}:Bor H (.agg az) (.agg bs)=AJ (Fi H) az bs:=AF rfl
theorem Bk {i o l z z':Nat} {es:List (List D)}:Bor H (.ls i o l z) (.d (.sl z' es))=(z'=z/\es.length=l/\(∀ e∈es,e.length=z)/\∃ cs,H i=some cs/\(cs.drop o).take (l*z)=es.flatten.map .d):=AF rfl
theorem CP {i o l z z':Nat} {es:List (List D)}:Fi H (.ls i o l z) (.d (.sl z' es))=(z'=z/\es.length=l/\(∀ e∈es,e.length=z)/\∃ cs,H i=some cs/\(cs.drop o).take (l*z)=es.flatten.map .d):=AF rfl
theorem j4 {i o:Nat} {ds:List D}:Bor H (.lp i o) (.d (.ref ds))=∃ cs,H i=some cs/\(cs.drop o).take ds.length=ds.map .d:=AF rfl
theorem YE {f g:FuncId} {caps:List V} {ds:List D}:Bor H (.cl f caps) (.d (.fn g ds))=(f=g/\AJ (Df H) caps (ds.map .d)):=AF rfl
theorem ADt {i o:Nat} {ds:List D}:Df H (.lp i o) (.d (.ref ds))=∃ cs,H i=some cs/\(cs.drop o).take ds.length=ds.map .d:=AF rfl
theorem j5 {x y:D}:Df H (.d x) (.d y)=(x=y\/(x= .lit (.slice none 0 0)/\∃ sz,y= .sl sz [])):=AF rfl
theorem YF {i o i' o':Nat}:Bor H (.lp i o) (.lp i' o')=(i=i'/\o=o'):=AF rfl
theorem YG {i o l z i' o' l' z':Nat}:Bor H (.ls i o l z) (.ls i' o' l' z')=(i=i'/\o=o'/\l=l'/\z=z'):=AF rfl
theorem j6 {i i':Nat}:Bor H (.yl i) (.yl i')=(i=i'):=AF rfl
theorem j7 {f g:FuncId} {cs ds:List V}:Bor H (.cl f cs) (.cl g ds)=(f=g/\cs=ds):=AF rfl
theorem j8 {i:Nat}:noH i=none:=AF rfl
theorem j9 {ρ:Nat->Nat} {x:D}:BJ ρ (.d x)= .d x:=AF rfl
theorem eO {ρ:Nat->Nat} {i o l z:Nat}:BJ ρ (.ls i o l z)= .ls (ρ i) o l z:=AF rfl
theorem eP {ρ:Nat->Nat} {i o:Nat}:BJ ρ (.lp i o)= .lp (ρ i) o:=AF rfl
theorem eQ {ρ:Nat->Nat} {f:FuncId} {cs:List V}:BJ ρ (.cl f cs)= .cl f (cs.map (DR ρ)):=AF rfl
theorem kA {ρ:Nat->Nat} {x:D}:DR ρ (.d x)= .d x:=AF rfl
theorem eR {ρ:Nat->Nat} {i o l z:Nat}:DR ρ (.ls i o l z)= .ls (ρ i) o l z:=AF rfl
theorem eU {ρ:Nat->Nat} {i o:Nat}:DR ρ (.lp i o)= .lp (ρ i) o:=AF rfl
theorem kB {ρ:Nat->Nat} {f:FuncId} {cs:List V}:ren ρ (.cl f cs)= .cl f (cs.map (DR ρ)):=AF rfl
theorem om {ks:List Nat} {b j:Nat}:sg ks b j=if j∈ks then j else b+j:=AF rfl
theorem Uq:Fr H []=True:=AF rfl
theorem QT {p:Nat × List V} {r:List (Nat × List V)}:Fr H (p::r)=(H p.1=some p.2/\Fr H r):=AF rfl
theorem YH:E0 H []=H:=AF rfl
theorem Ur {p:Nat × List V} {r:List (Nat × List V)}:E0 H (p::r)=upd (E0 H r) p.1 none:=AF rfl
theorem YI {ks:List Nat} {b:Nat}:I2 H ks b []=H:=AF rfl
theorem Us {ks:List Nat} {b:Nat} {p:Nat × List V} {r:List (Nat × List V)}:I2 H ks b (p::r)=upd (I2 H ks b r) (sg ks b p.1) (some (p.2.map (BJ (sg ks b)))):=AF rfl
theorem YJ {b:Nat} {L L1:List (Nat × List V)}:Jq b L L1 []=True:=AF rfl
theorem Ut {b i:Nat} {L L1:List (Nat × List V)} {r:List Nat}:Jq b L L1 (i::r)=(i<b/\(lk L1 i).isSome=true/\(∃ cs,lk L i=some cs/\cs≠[])/\Jq b L L1 r):=AF rfl
theorem QU {r:V} {ρ:Nat->Nat} {Ho:Hp} {Kc Kx:V->Hp->Prop}:ES (.ret r) ρ Ho Kc Kx=Kc (ren ρ r) Ho:=AF rfl
theorem QV {r:V} {ρ:Nat->Nat} {Ho:Hp} {Kc Kx:V->Hp->Prop}:ES (.pan r) ρ Ho Kc Kx=Kx (ren ρ r) Ho:=AF rfl
theorem YK {b:Nat}:(∀ i,InH (lk ([]:List (Nat × List V))) i->i<b)=True:=by simp [InH,lk]
theorem Uu {b:Nat} {p:Nat × List V} {r:List (Nat × List V)}:(∀ i,InH (lk (p::r)) i->i<b)=(p.1<b/\∀ i,InH (lk r) i->i<b):=by
 simp only [InH,lk,eq_iff_iff];constructor
 . intro h
   refine ⟨h p.1 (by simp),fun i hi=>h i ?_⟩;split
   . rfl
   . exact hi
 . rintro ⟨h1,h2⟩ i hi
   split at hi
   . rename_i e;rw [e];exact h1
   . exact h2 i hi
theorem Uv {ps:List (Nat × V)}:JU Γ t ps=(Γ t).bind fun y=>match y.sh with
 | .struct fs=>if fs.all (fun p=>(Γ p.2).isSome) then (Cc (fieldsOf Γ fs) (y.zero.map cV) ps).map fun cs=>(.agg cs, .none) else none
 | .array _ e=>(Γ e).bind fun ye=>(Cc (fun i=>some (i*ye.size,ye.size)) (y.zero.map cV) ps).map fun cs=>(.agg cs, .none)
 | _=>none:=AF rfl
theorem KX {n:Nat} {ps:List (Nat × V)}:Ci Γ b t n ps=(Γ t).bind fun y=>match y.sh with
 | .slice e=>(Γ e).bind fun ye=>if n*ye.size<=16777216/\0<ye.size then (Cc (fun i=>some (i*ye.size,ye.size)) (AM n (ye.zero.map cV)) ps).map fun cs=>(.ls b 0 n ye.size, .new b cs) else none
 | _=>none:=AF rfl
theorem Uw {fs:Nat->Option (Nat × Nat)} {cells:List V}:Cc fs cells []=some cells:=AF rfl
theorem QW {fs:Nat->Option (Nat × Nat)} {cells:List V} {i:Nat} {v:V} {r:List (Nat × V)}:Cc fs cells ((i,v)::r)=match fs i with
   | none=>none
   | some (off,size)=>if v.cells.length=size/\off+size<=cells.length/\v.cells.all V.isCell=true then Cc fs (AA cells off v.cells) r else none:=AF rfl
theorem OY {fs:List (Nat × TypeId)} {i:Nat}:fieldsOf Γ fs i=fs[i]?.bind fun p=>(Γ p.2).map fun y=>(p.1,y.size):=AF rfl
theorem Ux {sz:Nat} {es:List (List D)} {k:IntKind} {n:Int}:DC Γ t (.d (.sl sz es)) (.d (.lit (.int k n)))=(Γ t).bind fun y=>match y.sh with
 | .slice e=>(Γ e).bind fun ye=>if 0<=n/\ye.size=sz then es[n.toNat]?.map fun c=>(.d (.ref c), .none) else none
 | _=>none:=by
 unfold DC;congr;funext y;cases y.sh<;>first | rfl | (simp;done) | (rename_i n e;cases Γ e<;>rfl)
theorem Uy {i o l z:Nat} {k:IntKind} {n:Int}:DC Γ t (.ls i o l z) (.d (.lit (.int k n)))=(Γ t).bind fun y=>match y.sh with
 | .slice e=>(Γ e).bind fun ye=>if 0<=n/\n<l/\ye.size=z then some (.lp i (o+n.toNat*z), .none) else none
 | _=>none:=by
 unfold DC;congr;funext y;cases y.sh<;>first | rfl | (simp;done) | (rename_i n e;cases Γ e<;>rfl)
theorem Uz {sz:Nat} {es:List (List D)} {lo hi:Option V}:CA Γ H t (.d (.sl sz es)) lo hi=(Γ t).bind fun y=>match y.sh with
 | .slice e=>(Γ e).bind fun ye=>if ye.size=sz then (FT es.length lo hi).map fun p=>(.d (.sl sz ((es.take p.2).drop p.1)), .none) else none
 | _=>none:=by
 unfold CA;congr;funext y;cases y.sh<;>first | rfl | (simp;done) | (rename_i n e;cases Γ e<;>rfl)
theorem U0 {i o l z:Nat} {lo hi:Option V}:CA Γ H t (.ls i o l z) lo hi=(Γ t).bind fun y=>match y.sh with
 | .slice e=>(Γ e).bind fun ye=>if ye.size=z then (FT l lo hi).map fun p=>(.ls i (o+p.1*z) (p.2-p.1) z, .none) else none
 | _=>none:=by
 unfold CA;congr;funext y;cases y.sh<;>first | rfl | (simp;done) | (rename_i n e;cases Γ e<;>rfl)
theorem QX {s:ByteArray} {k:IntKind} {n:Int}:FS Γ t (.d (.lit (.string s))) (.d (.lit (.int k n)))=(Γ t).bind fun y=>match y.sh with
 | .str=>if 0<=n then s[n.toNat]?.map fun b=>(.d (.lit (.int .u8 b.toNat)), .none) else none
 | _=>none:=by
 unfold FS;congr;funext y;cases y.sh<;>first | rfl | (simp;done)
theorem QY {cs:List V} {k:IntKind} {n:Int}:FS Γ t (.agg cs) (.d (.lit (.int k n)))=(Γ t).bind fun y=>match y.sh with
 | .array m e=>(Γ e).bind fun ye=>if 0<=n/\n<m/\n.toNat*ye.size+ye.size<=cs.length then some (mkV ye.agg ((cs.drop (n.toNat*ye.size)).take ye.size), .none) else none
 | _=>none:=by
 unfold FS;congr;funext y;cases y.sh<;>first | rfl | (simp;done)
theorem vD {i o:Nat} {k:IntKind} {n:Int}:DC Γ t (.lp i o) (.d (.lit (.int k n)))=(Γ t).bind fun y=>match y.sh with
 | .array m e=>(Γ e).bind fun ye=>if 0<=n/\n<m then some (.lp i (o+n.toNat*ye.size), .none) else none
 | _=>none:=by
 unfold DC;congr;funext y;cases y.sh<;>first | rfl | (simp;done) | (rename_i e;cases Γ e<;>rfl)
theorem QZ {cs:List D} {k:IntKind} {n:Int}:DC Γ t (.d (.ref cs)) (.d (.lit (.int k n)))=(Γ t).bind fun y=>match y.sh with
 | .array m e=>(Γ e).bind fun ye=>if 0<=n/\n<m then some (.d (.ref (cs.drop (n.toNat*ye.size))), .none) else none
 | _=>none:=by
 unfold DC;congr;funext y;cases y.sh<;>first | rfl | (simp;done) | (rename_i e;cases Γ e<;>rfl)
theorem vE {i o:Nat} {lo hi:Option V}:CA Γ H t (.lp i o) lo hi=(Γ t).bind fun y=>match y.sh with
 | .array m e=>(Γ e).bind fun ye=>(H i).bind fun cs=>if o+m*ye.size<=cs.length/\m<=maxL then (FT m lo hi).map fun p=>(.ls i (o+p.1*ye.size) (p.2-p.1) ye.size, .none) else none
 | _=>none:=by
 unfold CA;congr;funext y;cases y.sh<;>first | rfl | (simp;done) | (rename_i e;cases Γ e<;>rfl)
theorem AHe {a:Option Addr} {n c:Nat} {lo hi:Option V}:CA Γ H t (.d (.lit (.slice a n c))) lo hi=(Γ t).bind fun y=>match y.sh with
 | .slice e=>(Γ e).bind fun _=>(FT 0 lo hi).map fun _=>(.d (.lit (.slice none 0 0)), .none)
 | _=>none:=by
 unfold CA;congr;funext y;cases y.sh<;>first | rfl | (simp;done) | (rename_i n e;cases Γ e<;>rfl)
theorem tw {s:ByteArray} {lo hi:Option V}:CA Γ H t (.d (.lit (.string s))) lo hi=(Γ t).bind fun y=>match y.sh with
 | .str=>(FT s.size lo hi).map fun p=>(.d (.lit (.string (s.extract p.1 p.2))), .none)
 | _=>none:=by
 unfold CA;congr;funext y;cases y.sh<;>first | rfl | (simp;done) | (rename_i e;cases Γ e<;>rfl) | (rename_i n e;cases Γ e<;>rfl)
theorem YL {s:ByteArray}:Iy Γ t (.d (.lit (.string s)))=(Γ t).bind fun y=>match y.sh with | .str=>some (.d (.lit (.int .i64 s.size)), .none) | _=>none:=by
 unfold Iy;congr;funext y;cases y.sh<;>rfl
theorem YM {o:BinOp} {a b:ByteArray}:FV Γ eqs o t (.d (.lit (.string a))) (.d (.lit (.string b)))=match o with
   | .eql=>some (.d (.lit (.bool (a == b))), .none)
   | .neq=>some (.d (.lit (.bool (a != b))), .none)
   | _=>none:=AF rfl
theorem OZ {o:BinOp} {i of l z:Nat}:FV Γ eqs o t (.ls i of l z) (.d (.lit (.slice none 0 0)))=(Γ t).bind fun y=>match y.sh,o with
   | .slice _, .eql=>if 0<l then some (.d (.lit (.bool false)), .none) else none
   | .slice _, .neq=>if 0<l then some (.d (.lit (.bool true)), .none) else none
   | _,_=>none:=by
 unfold FV;simp only [show Ex (.d (.lit (.slice none 0 0)))=true from rfl,if_true];congr;funext y;split<;>simp_all [P3,Nv,cV]<;>(by_cases h:0<l<;>simp [h])
theorem Oa {o:BinOp} {z:Nat} {e:List D} {es:List (List D)}:FV Γ eqs o t (.d (.sl z (e::es))) (.d (.lit (.slice none 0 0)))=(Γ t).bind fun y=>match y.sh,o with
   | .slice _, .eql=>some (.d (.lit (.bool false)), .none)
   | .slice _, .neq=>some (.d (.lit (.bool true)), .none)
   | _,_=>none:=by
 unfold FV;simp only [show Ex (.d (.lit (.slice none 0 0)))=true from rfl,if_true]
 first | rfl | (congr;funext y;split<;>simp_all [P3,Nv,cV])
theorem ADI {o:BinOp} {z:Nat}:FV Γ eqs o t (.d (.sl z [])) (.d (.lit (.slice none 0 0)))=(Γ t).bind fun y=>match y.sh,o with
   | .slice _, .eql=>some (.d .ub, .none)
   | .slice _, .neq=>some (.d .ub, .none)
   | _,_=>none:=by
 unfold FV;simp only [show Ex (.d (.lit (.slice none 0 0)))=true from rfl,if_true]
 first | rfl | (congr;funext y;split<;>simp_all [P3,Nv,cV])
theorem Mt {o:BinOp}:FV Γ eqs o t (.d (.lit (.slice none 0 0))) (.d (.lit (.slice none 0 0)))=(Γ t).bind fun y=>match y.sh,o with
   | .slice _, .eql=>some (.d (.lit (.bool true)), .none)
   | .slice _, .neq=>some (.d (.lit (.bool false)), .none)
   | _,_=>none:=by
 unfold FV;simp only [show Ex (.d (.lit (.slice none 0 0)))=true from rfl,if_true]
 first | rfl | (congr;funext y;split<;>simp_all [P3,Nv,cV])
theorem vF {i o l z:Nat}:ax Γ H t (.ls i o l z)=(Γ t).bind fun y=>match y.sh with
 | .slice e=>(Γ e).bind fun ye=>if l=0 then some (.tup [], .none) else if z=ye.size/\0<z then (H i).bind fun cs=>if o+l*z<=cs.length then some (.tup [], .put i (AA cs o (AM l (ye.zero.map cV)))) else none else none
 | _=>none:=by
 unfold ax;congr
theorem eV:maxL=9223372036854775807:=AF rfl
theorem eW:Fh=140737488355328:=AF rfl
theorem Qj {k:IntKind} {a b:Int}:FU .int (.d (.lit (.int k a))) (.d (.lit (.int k b)))=some (decide (a=b)):=by simp [FU,Sx]
theorem Ob {a b:Bool}:FU .bool (.d (.lit (.bool a))) (.d (.lit (.bool b)))=some (a == b):=AF rfl
theorem z7 {a b:ByteArray}:FU .str (.d (.lit (.string a))) (.d (.lit (.string b)))=some (a == b):=AF rfl
theorem Oc:Bi [] [] []=some true:=AF rfl
theorem Mu {k:CK} {ks:List CK} {a b:V} {az bs:List V}:Bi (k::ks) (a::az) (b::bs)=(FU k a b).bind fun r=>(Bi ks az bs).map fun s=>r&&s:=AF rfl
theorem AGf {cs:List V} {i:Nat}:JV Γ t (.agg cs) i=(Γ t).bind fun y=>match y.sh with
 | .struct fs=>fs[i]?.bind fun p=>(Γ p.2).bind fun yf=>if p.1+yf.size<=cs.length then some (mkV yf.agg ((cs.drop p.1).take yf.size), .none) else none
 | _=>none:=AF rfl
theorem VA {s:TypeId} {k:IntKind} {n:Int}:Lb Γ s t (.d (.lit (.int k n)))=(Γ s).bind fun _=>(Γ t).bind fun y=>match y.sh with
 | .int k'=>some (.d (.lit (.int k' (k'.wrap n))), .none)
 | _=>none:=by
 unfold Lb;congr;funext _;congr;funext y;cases y.sh<;>rfl
theorem YN {k:IntKind} {x:Int} {r:List V}:Wc (.d (.lit (.int k x))::r)=(Lq k x r).map fun m=>(.d (.lit (.int k m)), .none):=AF rfl
theorem YO {k:IntKind} {x:Int} {r:List V}:Wd (.d (.lit (.int k x))::r)=(Ku k x r).map fun m=>(.d (.lit (.int k m)), .none):=AF rfl
theorem YP {k:IntKind} {m:Int}:Lq k m []=some m:=AF rfl
theorem YQ {k:IntKind} {m:Int}:Ku k m []=some m:=AF rfl
theorem VB {k:IntKind} {m x:Int} {r:List V}:Lq k m (.d (.lit (.int k x))::r)=Lq k (max m x) r:=by simp [Lq]
theorem VC {k:IntKind} {m x:Int} {r:List V}:Ku k m (.d (.lit (.int k x))::r)=Ku k (min m x) r:=by simp [Ku]
theorem YR {t:TypeId} {cs:List V}:Sf Γ t (.agg cs)=(Γ t).bind fun y=>match y.sh with | .ifc _=>none | .other=>none | _=>(Ff cs).map fun ds=>(.d (.ifc t true ds), .none):=AF rfl
theorem kC {t:TypeId} {x:D}:Sf Γ t (.d x)=(Γ t).bind fun y=>match y.sh with | .ifc _=>none | .other=>none | _=>some (.d (.ifc t false [x]), .none):=AF rfl
theorem VD:Ff []=some []:=AF rfl
theorem eX {x:D} {r:List V}:Ff (.d x::r)=(Ff r).map (x::·):=AF rfl
theorem VE {cs:List D}:We cs true=some (.agg (cs.map .d)):=AF rfl
theorem AHf {c:D}:We [c] false=some (.d c):=AF rfl
theorem YS {t t':TypeId} {ag:Bool} {cs:List D}:Wf Γ t (.d (.ifc t' ag cs))=(Γ t).bind fun y=>match y.sh with | .ifc _=>none | .other=>none | _=>if t'=t then (We cs ag).map fun v=>(v, .none) else none:=AF rfl
theorem Mv {op:BinOp} {t t':TypeId} {ag:Bool} {cs:List D}:FV Γ eqs op t (.d (.ifc t' ag cs)) (.d (.lit .nilIface))=(Γ t).bind fun y=>match y.sh,op with | .ifc _, .eql=>some (.d (.lit (.bool false)), .none) | .ifc _, .neq=>some (.d (.lit (.bool true)), .none) | _,_=>none:=AF rfl
theorem VF {op:BinOp} {t:TypeId}:FV Γ eqs op t (.d (.lit .nilIface)) (.d (.lit .nilIface))=(Γ t).bind fun y=>match y.sh,op with | .ifc true, .eql=>some (.d (.lit (.bool true)), .none) | .ifc true, .neq=>some (.d (.lit (.bool false)), .none) | _,_=>none:=AF rfl
theorem eY {id off:Nat}:Se (.lp id off)=some (.lp id off, .none):=AF rfl
theorem YT {cs:List D}:Se (.d (.ref cs))=some (.d (.ref cs), .none):=AF rfl
theorem AGg {g:FuncId} {n:Nat} {caps:List V}:G8 g n caps=if n=0/\caps.all V.cap=true then some (.cl g caps, .none) else none:=AF rfl
theorem oo {x:D}:V.cap (.d x)=true:=AF rfl
theorem kD {i o:Nat}:V.cap (.lp i o)=true:=AF rfl
theorem kE {i o l z:Nat}:V.cap (.ls i o l z)=true:=AF rfl
theorem eZ {n:Nat} {lo hi:Option V}:FT n lo hi=(Sc n hi).bind fun h=>(Sd h lo).bind fun l=>some (l,h):=AF rfl
theorem VG {n:Nat}:Sc n none=some n:=AF rfl
theorem YU {n:Nat} {k:IntKind} {h:Int}:Sc n (some (.d (.lit (.int k h))))=if 0<=h/\h<=n then some h.toNat else none:=AF rfl
theorem VH {n:Nat}:Sd n none=some 0:=AF rfl
theorem YV {n:Nat} {k:IntKind} {h:Int}:Sd n (some (.d (.lit (.int k h))))=if 0<=h/\h<=n then some h.toNat else none:=AF rfl
section
variable {p:Nat->Prop} {v:Value}
theorem kF:AV p B9 (.d (.lit v))=True:=by simp [AV,A2,A1,A0,B9]
theorem kG:A2 p B9 (.d (.lit v))=True:=by simp [A2,A1,A0,B9]
theorem kH:A1 p B9 (.d (.lit v))=True:=by simp [A1,A0,B9]
theorem kI {i o l z:Nat}:AV p B9 (.ls i o l z)=p i:=AF rfl
theorem kJ {i o l z:Nat}:A2 p B9 (.ls i o l z)=p i:=AF rfl
theorem kK {i o l z:Nat}:A1 p B9 (.ls i o l z)=p i:=AF rfl
theorem xF {cs:List V}:AV p B9 (.agg cs)=∀ c∈cs,A1 p B9 c:=AF rfl
theorem ep {cs:List V}:A2 p B9 (.agg cs)=∀ c∈cs,A1 p B9 c:=AF rfl
theorem AK5 {cs:List V}:AV p B9 (.tup cs)=∀ c∈cs,A2 p B9 c:=AF rfl
theorem eu:AC p B9 (.d (.lit v))=True:=by simp [AC,A1,A0,B9]
theorem kL {i o l z:Nat}:AC p B9 (.ls i o l z)=p i:=AF rfl
theorem kM {i o:Nat}:AC p B9 (.lp i o)=p i:=AF rfl
def Em (p:Nat->Prop):List (Nat × List V)->Prop
 | []=>True
 | x::r=>(∀ c∈x.2,AC p B9 c)/\Em p r
theorem VI:Em p []=True:=AF rfl
theorem AIR {x:Nat × List V} {r:List (Nat × List V)}:Em p (x::r)=((∀ c∈x.2,AC p B9 c)/\Em p r):=AF rfl
theorem Od:∀ {L:List (Nat × List V)},Em p L->∀ i cs,lk L i=some cs->∀ c∈cs,AC p B9 c
 | [],_,i,cs,h=>by simp [lk] at h
 | x::r,hf,i,cs,h=>by
   simp only [lk] at h;split at h
   . cases h;exact hf.1
   . exact Od hf.2 i cs h
theorem E6 {r:Res} {L:List (Nat × List V)} (h1:AV (InH (lk L)) B9 r.v) (h2:Em (InH (lk L)) L):GS r (lk L):=⟨h1,Od h2⟩
theorem kN {h:Hp} {i:Nat}:InH h i=((h i).isSome=true):=AF rfl
theorem YW {r:V}:Res.v (.ret r)=r:=AF rfl
theorem YX {r:V}:Res.v (.pan r)=r:=AF rfl
end
section
variable {P:Program}
theorem AU.mk {m:CM} {Hr H:Hp} {b:Nat} {g:FuncId} {az:List V} {Kc Kx:V->Hp->Prop} (args:List V) (r:V) (H1:List (Nat × List V)) (hf:Ct P g args r H1) (hb:AJ (Bor Hr) az args) (hi:BW 1048576 H1) (hc:AJ (Bor noH) az args\/(AV (InH (lk H1)) B9 r/\Em (InH (lk H1)) H1)) (hk:Kc (ren (b+·) r) (I1 H b H1)):AU P m Hr H b g az Kc Kx:=
 AU.mk0 args r H1 hf hb hi (hc.imp id fun h=>E6 h.1 h.2) hk
theorem AU.mkM {H:Hp} {b:Nat} {g:FuncId} {az:List V} {Kc Kx:V->Hp->Prop} (args:List V) (L:List (Nat × List V)) (ks:List Nat) (res:Res) (L1:List (Nat × List V)) (hf:Cm P g args (lk L) ks res (lk L1)) (hin:Fr H L) (hi:BW 1048576 L1) (hks:Jq b L L1 ks) (hL:∀ i,InH (lk L) i->i<b)
   (hb:AJ (Bor noH) az args\/(AJ (Bor (E0 H L)) az args/\AV (InH (lk L1)) B9 res.v/\Em (InH (lk L1)) L1)) (hk:ES res (sg ks b) (I2 (E0 H L) ks b L1) Kc Kx):AU P none H H b g az Kc Kx:=
 AU.mkM0 args L ks res L1 hf hin hi hks hL (hb.imp id fun h=>⟨h.1,E6 h.2.1 h.2.2⟩) hk
end
def oq (ρ:Nat->Option Nat) (ks:List Nat) (r:V) (H:Hp) (H1:List (Nat × List V)):Option (List V)->Prop
 | some vs=>vs.all (fun v=>!v.isTup)=true/\WV ρ (P8 vs) r/\Ej ρ H H1/\Bd ρ H1/\DZ ρ H (lk H1) ks
 | none=>False
theorem VJ {ρ:Nat->Option Nat} {ks:List Nat} {r:V} {H1:List (Nat × List V)} {vs:List V}:oq ρ ks r H H1 (some vs)=(vs.all (fun v=>!v.isTup)=true/\WV ρ (P8 vs) r/\Ej ρ H H1/\Bd ρ H1/\DZ ρ H (lk H1) ks):=AF rfl
theorem AB.by (ρ:Nat->Option Nat) {fn:Func} {ks:List Nat} {r:V} {H1:List (Nat × List V)} {st:St} (h:oq ρ ks r st.H H1 (AGe Γ st.H st.fr fn.results.toList)):Dc Γ fn ks r H1 st:=by
 cases hr:AGe Γ st.H st.fr fn.results.toList with
 | none=>rw [hr] at h;exact h.elim
 | some vs=>rw [hr] at h;exact ⟨vs,ρ,hr,h⟩
attribute [simp] pt lF Zo fx Zp fy Vn fz Zq lG Zr Lm ACO Zt lI pu gB RG NQ Zv NR Zw Zx PD lJ PB Zu Vo lK lL Vp Zy lM lN Zz Z0 lH Zs AKG AJW AKR AKS AKk AKl AKm AKn AKo AK6 AK7 AKT AK8 AJX AKU AKQ AJV AKf gC
 Z1 gD ACS gF Z2 Z3 Z4 pv jH pw RH RI
 lV gP gQ pz lO Z5 gG Z6 gK Vr gL Z9 lP aA Ln gM lQ py gN RJ NS aC NT aD aF PF I6 PE aB lR lS gO Z7 gH gI gJ Vq Z8 aG Vs lT
 lW lX gR lY aH gS lZ gT gU gW aI qA PH aL Vt PI aM Vu aQ PJ aP aN aO JI aJ gX gY
 UP XR dW dX UQ UR dY XT XU XV XW US UT UU XX UV AIg UW dZ UX XZ UY UZ AY QJ Ub da Sw OQ
 vw Uc vx vy vz Xj ABH u7 ADd Xn ADe ABW ADf ADg AE8 v8 AFy dc AFz AGu AHw de dh QK QL OS dj AIh Ud dm Ue ABx AKe AF0
 kF kG kH kI kJ kK xF ep AK5 eu kL kM VI AIR kN YW YX
 VJ
 Qj Ob z7 Oc Mu QX QY vD QZ vE AHe tw YL OZ Oa ADI Mt vF YM eV eW Ux Uy Uz U0 AGf VA YN YO YP YQ VB VC eY YT YR kC VD eX VE AHf YS Mv VF AGg oo kD kE eZ VG YU VH YV
 X1 Uf Ug QM jo dp X2 Uh W0_d W1_d W2_d WV_d dt du dw dy OT AFM nz AIH OU n8 n9 oA ACX xD xE AH6 jp jq jr OV Mq X3 Ui QP OX
 AV_d A2_d A1_d A0_d oL oM oN oO oP oQ oS oT js jt ju oU oV oW Ms Lf Ul QQ X4 QR jv
 X5 X6 Um X7 X8 eC X9 YA Un YB WC_d oB oC eB Sy oD oE oG Sz oH oI oJ oK Uj QN Uk QO AC_d oX oY oZ oc od oe og oh oi OW Mr KW Ua oj jw jx eD eE jy eG eI YC jz eJ eK YD Uo Up QS ol j0 eM j4 YF YG j6 j7 YE ADt j5 j8 j9 eO eP eQ kA eR eU kB om Uq QT YH Ur YI Us YJ Ut QU QV YK Uu
 Uv KX Uw QW OY
 iV cz Sb dA dB dC dD dE
section
variable {P:Program} {m:CM} {Hr H:Hp} {b:Nat} {g:FuncId} {az:List V} {Kc Kx:V->Hp->Prop} {args:List V} {r:V} {H1:List (Nat × List V)}
theorem CLa (hf:Ct P g args r H1) (hk:Kc (ren (b+·) r) (I1 H b H1)) (hb:AJ (Bor Hr) az args:=by first | (simp;done) | simp [Bk,CP]) (hi:BW 1048576 H1:=by simp) (hc:AJ (Bor noH) az args\/(AV (InH (lk H1)) B9 r/\Em (InH (lk H1)) H1):=by first | (left;simp;done) | (right;simp;done)):AU P m Hr H b g az Kc Kx:=
 AU.mk args r H1 hf hb hi hc hk
theorem CLb (hf:Ct P g args r H1) (hb:AJ (Bor Hr) az args) (hk:Kc (ren (b+·) r) (I1 H b H1)) (hi:BW 1048576 H1:=by simp) (hc:AJ (Bor noH) az args\/(AV (InH (lk H1)) B9 r/\Em (InH (lk H1)) H1):=by first | (left;simp;done) | (right;simp;done)):AU P m Hr H b g az Kc Kx:=
 AU.mk args r H1 hf hb hi hc hk
theorem CLr (hf:Ct P g args r H1) (hb:AJ (Bor Hr) az args/\BW 1048576 H1) (hc:AJ (Bor noH) az args\/(AV (InH (lk H1)) B9 r/\Em (InH (lk H1)) H1)) (hk:Kc (ren (b+·) r) (I1 H b H1)):AU P m Hr H b g az Kc Kx:=
 AU.mk args r H1 hf hb.1 hb.2 hc hk
end
section
variable {P:Program} {m:CM} {Hr H:Hp} {b:Nat} {g:FuncId} {az:List V} {Kc Kx:V→Hp→Prop} {args:List V} {r:V} {H1:List (Nat × List V)} {E:Ent}
theorem CLt (hf:Ct P g args r H1) (hb:(AJ (Bor Hr) az args∧BW 1048576 H1)∧(AJ (Bor noH) az args∨(AV (InH (lk H1)) B9 r∧Em (InH (lk H1)) H1))) (hk:Kc (ren (b+·) r) (I1 H b H1)):AU P m Hr H b g az Kc Kx:=
 AU.mk args r H1 hf hb.1.1 hb.1.2 hb.2 hk
theorem RZ {Γ:Tys} {fn:Func} {ks:List Nat} {st:St} (h:oq (fun _=>none) ks r st.H H1 (AGe Γ st.H st.fr fn.results.toList)):Dc Γ fn ks r H1 st:=AB.by _ h
theorem WK {st:St} (hs:∀ i,¬ E.stab i) (ρ:Nat→Option Nat) {l:List (Nat × V)} {h:List (Nat × List V)} {n:Nat} (h1:CL ρ st.fr l:=by simp) (h2:Ej ρ st.H h:=by simp) (h3:Bd ρ h:=by simp) (h4:Bw n l:=by simp) (h5:A7 n h:=by simp):AI P E st ⟨AO l,lk h,n⟩:=AI.mk hs ρ l h n h1 h2 h3 h4 h5
theorem WKM {st:St} {ks:List Nat} (hs:∀ i,E.stab i↔i∈ks) (ρ:Nat→Option Nat) {l:List (Nat × V)} {h:List (Nat × List V)} {n:Nat} (h1:CL ρ st.fr l:=by simp) (h2:Ej ρ st.H h:=by simp) (h3:Bd ρ h:=by simp) (h4:Bw n l:=by simp) (h5:A7 n h:=by simp) (h6:HD ρ st.H (lk h) n ks:=by simp):AI P E st ⟨AO l,lk h,n⟩:=AI.mkM hs ρ l h n h1 h2 h3 h4 h5 h6
theorem wz {i:Nat} (h:i<9223372036854775807):IntKind.wrap .i64 ((i:Int)+1)=((i+1:Nat):Int):=by
 rw [AD (by omega) (by omega)];omega
theorem gE {α:Type} {l:List α} {i:Nat} (h:i<l.length):∃ x,l[i]?= some x:=⟨_,List.getElem?_eq_getElem h⟩
end
end Go.Psl
namespace Go.Psl
theorem Bl (x:Int):IntKind.wrap .u64 x=x%18446744073709551616:=by simp [IntKind.wrap,IntKind.bits,IntKind.signed]
theorem Oz {x:Int} (h0:0<=x) (h1:x<18446744073709551616):(BitVec.ofInt 64 x).toNat=x.toNat:=by
 rw [BitVec.toNat_ofInt];have:x%((2^64:Nat):Int)=x:=Int.emod_eq_of_lt h0 (by simpa using h1);rw [this]
theorem FD {x:Int} (h0:0<=x) (h1:x<18446744073709551616):(BitVec.ofInt IntKind.u64.bits x).toNat=x.toNat:=Oz h0 h1
theorem GA {x:Int} (h0:0<=x) (h1:x<18446744073709551616):bits .and .u64 x 4294967295=x%4294967296:=by
 show IntKind.wrap .u64 _=_
 simp only [BitVec.toNat_and,FD h0 h1];have e:(BitVec.ofInt IntKind.u64.bits 4294967295).toNat=2^32-1:=by decide
 rw [e,Nat.and_two_pow_sub_one_eq_mod,Bl];omega
theorem kl {a b:Int} (s:Nat) (ha:0<=a) (hb:0<=b) (hb2:b<2^s) (h:a*2^s+b<18446744073709551616):bits .or .u64 (a*2^s) b=a*2^s+b:=by
 have hp:(0:Int)<=a*2^s:=Int.mul_nonneg ha (Int.pow_nonneg (by decide))
 show IntKind.wrap .u64 _=_
 simp only [BitVec.toNat_or,FD hp (by omega),FD hb (by omega)];obtain ⟨a',rfl⟩:=Int.eq_ofNat_of_zero_le ha;obtain ⟨b',rfl⟩:=Int.eq_ofNat_of_zero_le hb;have hlt:b' < 2^s:=by exact_mod_cast hb2
 have e:((a':Int)*2^s).toNat=2^s*a':=by
   rw [show ((a':Int)*2^s)=((2^s*a':Nat):Int) by push_cast;rw [Int.mul_comm]];rfl
 rw [e,Int.toNat_natCast,<-Nat.two_pow_add_eq_or_of_lt hlt,Bl];have e2:((a':Int)*2^s)=((2^s*a':Nat):Int):=by push_cast;rw [Int.mul_comm]
 rw [e2] at h ⊢;omega
theorem Q8 {u v q r y1 y0:Int} (_hy1:2147483648<=y1) (_hy1':y1<4294967296) (_hy0:0<=y0) (_hy0':y0<4294967296) (hu0:0<=u) (hu:u<y1*4294967296+y0) (hv0:0<=v) (hv:v<4294967296) (hq:(u*4294967296+v)/(y1*4294967296+y0)<=q) (hr:q*y1+r=u) (hc:4294967296<=q\/4294967296*r+v<q*y0):
   (u*4294967296+v)/(y1*4294967296+y0)<=q-1:=by
 have hD:0<y1*4294967296+y0:=by omega
 have hlt:(u*4294967296+v)/(y1*4294967296+y0)<q:=by
   rcases hc with hc | hc
   . have h1:(u*4294967296+v)/(y1*4294967296+y0)<4294967296:=by
       rw [Int.ediv_lt_iff_lt_mul hD];omega
     omega
   . rw [Int.ediv_lt_iff_lt_mul hD]
     have:q*(y1*4294967296+y0)=(q*y1)*4294967296+q*y0:=by
       rw [Int.mul_add,Int.mul_assoc]
     omega
 omega
theorem Q9 {u v q r y1 y0:Int} (hy1:2147483648<=y1) (_hy0:0<=y0) (_hy0':y0<4294967296) (hq:(u*4294967296+v)/(y1*4294967296+y0)<=q) (hr:q*y1+r=u) (hc:q*y0<=4294967296*r+v):
   q=(u*4294967296+v)/(y1*4294967296+y0):=by
 have hD:0<y1*4294967296+y0:=by omega
 refine Int.le_antisymm ?_ hq;rw [Int.le_ediv_iff_mul_le hD]
 have:q*(y1*4294967296+y0)=(q*y1)*4294967296+q*y0:=by
   rw [Int.mul_add,Int.mul_assoc]
 omega
theorem O0 {u v q r y1 y0:Int} (hy1:2147483648<=y1) (hy0:0<=y0) (hy0':y0<4294967296) (hq0:0<=q) (hu:u<y1*4294967296+y0) (hv0:0<=v) (hr:q*y1+r=u) (hc:4294967296<=r):q*y0<=4294967296*r+v:=by
 have h1:q*y1<4294967296*y1:=by omega
 have h2:q<4294967296:=Int.lt_of_mul_lt_mul_right h1 (by omega);have h3:q*y0<=4294967296*y0:=Int.mul_le_mul_of_nonneg_right (by omega) hy0;omega
open Go.ChangeShapes Go.WideShapes Go.ChangeAt Go.RowKit
variable {P:Program} {H:Type} {enc:TypeId × Value->H}
def J7 (P:Program) (ts:List TypeId):Bool:=ts.all fun t=>P.readableRec t&&decide (t<P.types.size)
theorem Ik (hl:laidOutB P=true) {W W':World} (hb:Below W.heap.size W W') {sp:Nat->Bool}:∀ {ts:List TypeId} {vs:List Value} {ds:List (DataW H)} {ps:List MemPlace},J7 P ts=true->
   DataW.TrodAll enc P W 0 (fun _=>true) true ts vs ds ps->(∀ p∈ps,p.block<W.heap.size)->(∀ p∈ps,sp p.block=true)->DataW.TrodAll enc P W' 0 sp true ts vs ds ps
 | [],[],[],ps,_,h,_,_=>h
 | t::ts,v::vs,d::ds,ps,hr,h,h1,h2=>by
   obtain ⟨p,q,h3,h4,rfl⟩:=h;simp only [J7,List.all_cons,Bool.and_eq_true,decide_eq_true_eq] at hr
   exact ⟨p,q,WideElems.Trod_stays hl hr.1.1 hr.1.2 h3 (fun x hx=>hb.same (h1 x (by simp [hx]))) (fun x hx=>h2 x (by simp [hx])),
     Ik hl hb (by simpa [J7] using hr.2) h4 (fun x hx=>h1 x (by simp [hx])) (fun x hx=>h2 x (by simp [hx])),rfl⟩
 | [],_::_,_,_,_,h,_,_=>h.elim
 | [],[],_::_,_,_,h,_,_=>h.elim
 | _::_,[],_,_,_,h,_,_=>h.elim
 | _::_,_::_,[],_,_,h,_,_=>h.elim
def Te (P:Program) (f:FuncId) (args:Array Value) (W:World):Prop:=Calls P f args W fun e W'=>e= .returned (.bool true)/\Below W.heap.size W W'
theorem Te.of_ct {f:FuncId} {az:List V} {xs:Array Value} {W:World} {G:Gh} (h:Ct P f az (.d (.lit (.bool true))) []) (hG:∀ b,G.Im b->b<W.heap.size) (ha:AJ (R2 G W) az xs.toList):Te P f xs W:=by
 refine Calls.mono (h.2 G W xs hG ha ⟨fun _ _ h=>by simp at h,fun _ _ h=>by simp [InH] at h,fun _ h=>by simp at h⟩) fun e W' ⟨G',hp⟩=>?_
 have hv:=hp.rv;have hb:Below W.heap.size W W':=⟨hp.os,hp.tape,hp.output,hp.size,fun b hb=>hp.block b hb fun ⟨_,h,_⟩=>by simp [InH] at h⟩
 cases e with
 | returned v=>
   have hv:v= .bool true:=BO hv;subst hv;exact ⟨rfl,hb⟩
 | _=>exact hv.elim
theorem ak (hl:laidOutB P=true) {f:Func} {s:ChangeSpec} {apart fresh handsOn again:Bool} {W W':World} {args:Array Value} {ds:List (DataW H)} {before:List MemPlace} {tb:TypeId}
   (hvars:s.vars=[]) (hW:DataW.Whole enc P f.params.toList s.vars apart W args.toList ds [] before) (hr:J7 P f.params.toList=true) (hres:f.resultTypes= #[tb]) (htb:P.underlying tb=some .bool)
   (hfn:s.fn H (ds++[])={results:=[.lit (.bool true)],args:=ds}) (hb:Below W.heap.size W W'):s.post enc P f apart fresh handsOn again W args (.bool true) W':=by
 have hlt:=hW.lt;have hW':=hW;obtain ⟨p,q,hA,hV,rfl,hz,hn⟩:=hW'
 have hq:q=[]:=by
   rw [hvars] at hV;exact (trodVars_none hV).2
 subst hq;rw [List.append_nil] at hlt hz hn hW
 have hargs:∀ sp:Nat->Bool,(∀ x∈p,sp x.block=true)->DataW.TrodAll enc P W' 0 sp true f.params.toList args.toList (s.fn H (ds++[])).args p:=fun sp hsp=>by
   rw [hfn];exact Ik hl hb hr hA hlt hsp
 have hress:∀ (b:Nat) (sp:Nat->Bool) (hd:Bool),DataW.TrodAll enc P W' b sp hd f.resultTypes.toList ((Value.bool true).resultList f.resultTypes.size) (s.fn H (ds++[])).results []:=fun _ _ _=>by
   rw [hfn,hres];exact trodAll_mk1 (shut_bool htb true)
 have hvs:∀ sp:Nat->Bool,DataW.TrodVars enc P W' sp s.vars (s.fn H (ds++[])).vars []:=fun _=>by
   rw [hfn,hvars];rfl
 have hold:∀ x∈p,(fun b=>decide (b<W.heap.size)) x.block=true:=fun x hx=>by simpa using hlt x hx
 refine ⟨ds,[],p,[],p,[],hW,hress _ _ _,hargs _ hold,hvs _,hb.frame _,fun _=>?_⟩;refine ⟨ok_one hres rfl (okWide_bool_mk htb true),DataW.lit (Lit.bool true)::ds,(s.fn H (ds++[])).vars,p,⟨p,[],?_,hvs _,by simp,fun b off hp=>?_,fun ha=>hn ha⟩,fun x hx _=>hx⟩
 . rw [hres]
   have:=hargs (fun _=>true) (fun _ _=>rfl);rw [hfn] at this;exact ⟨[],p,shut_bool htb true,this,rfl⟩
 . rw [hb.frozen (p:=⟨b,off,none⟩) (hlt _ hp)]
   exact hz b off hp
end Go.Psl
namespace Go.Psl
open Go.ChangeShapes Go.WideShapes
section
variable {P:Program} {W:World}
abbrev InW (W:World) (b:Nat):Prop:=b<W.heap.size
def ShL (S:TypeId->List D->Prop):List TypeId->List D->Prop
 | [],ds=>ds=[]
 | t::ts,ds=>∃ a b,ds=a++b/\S t a/\ShL S ts b
def Sh' (P:Program):Nat->TypeId->List D->Prop
 | 0,_,_=>False
 | n+1,t,ds=>match P.underlying t with
   | some .bool=>∃ b,ds=[.lit (.bool b)]
   | some (.int k)=>∃ i,ds=[.lit (.int k i)]/\(Lit.int k i).wf=true
   | some .string=>∃ s:ByteArray,ds=[.lit (.string s)]/\s.size<=maxLen
   | some (.slice e)=>∃ es,ds=[.sl (P.cellsOf e) es]/\es.length<=maxL/\∀ x∈es,Sh' P n e x
   | some (.struct fs)=>ShL (Sh' P n) (fs.toList.map (·.type)) ds
   | some (.array k e)=>ShL (Sh' P n) (List.replicate k e) ds
   | _=>False
def HP (P:Program):Nat->List Field->Option Nat
 | o,[]=>some o
 | o,f::fs=>if f.offset=o then HP P (o+P.cellsOf f.type) fs else none
def E5 (P:Program):Nat->TypeId->Bool
 | 0,_=>false
 | n+1,t=>match P.underlying t with
   | some .bool=>true
   | some (.int _)=>true
   | some .string=>true
   | some (.slice e)=>decide (0<P.cellsOf e)&&E5 P n e
   | some (.struct fs)=>(HP P 0 fs.toList == some (P.cellsOf t))&&fs.toList.all fun f=>E5 P n f.type
   | some (.array k e)=>decide (k*P.cellsOf e=P.cellsOf t)&&E5 P n e
   | _=>false
theorem Sv {H:Type} {_enc:TypeId × Value->H} {base:Nat} {a:Addr} {n:Nat} {cs:List Value} (hn:0<n) (h:W.cells? base a n=some cs):InW W a.block/\cs.length=n/\∀ j,j<n->W.cell? (a.add j)=cs[j]?:= by
 obtain ⟨_,h2,h3⟩:=World.cells?_some h;refine ⟨?_,h2,h3⟩;have h4:=h3 0 hn;rw [List.getElem?_eq_getElem (by omega)] at h4;have hbl:(a.add 0).block=a.block:=by unfold Addr.add;split<;>rfl
 unfold World.cell? at h4;rw [hbl] at h4;unfold InW;refine Nat.not_le.1 fun hle=>?_
 rw [Array.getElem?_eq_none hle] at h4;cases h4
theorem Fu {α β:Type} {R:α->β->Prop}:∀ {az as':List α} {bs bs':List β},AJ R az bs->AJ R as' bs'->AJ R (az++as') (bs++bs')
 | [],_,[],_,_,h=>h
 | _::_,_,_::_,_,h,h'=>⟨h.1,Fu h.2 h'⟩
theorem Jb {S:TypeId->List D->Prop} {T:TypeId->List Value->Prop} {cs:List Value} (hrec:∀ t cs',T t cs'->∃ ds,S t ds/\AJ (RD (InW W) W) ds cs'):
   ∀ (fs:List Field) (o m:Nat),HP P o fs=some m->m=cs.length->(∀ f∈fs,T f.type ((cs.drop f.offset).take (P.cellsOf f.type)))->o<=m->∃ ds,ShL S (fs.map (·.type)) ds/\AJ (RD (InW W) W) ds (cs.drop o)
 | [],o,m,hc,hm,_,_=>by
   simp only [HP,Option.some.injEq] at hc;subst hc;exact ⟨[],rfl,by rw [hm,List.drop_length];trivial⟩
 | f::fs,o,m,hc,hm,hT,ho=>by
   unfold HP at hc;split at hc
   . rename_i hof
     have hle:o+P.cellsOf f.type<=m:=by
       clear hT ho hm
       generalize o+P.cellsOf f.type=q at hc
       clear hof;induction fs generalizing q with
       | nil=>simp only [HP,Option.some.injEq] at hc;omega
       | cons g gs ih=>
         unfold HP at hc;split at hc
         . have:=ih _ hc;omega
         . cases hc
     obtain ⟨ds,h1,h2⟩:=Jb hrec fs _ m hc hm (fun g hg=>hT g (by simp [hg])) hle;have hf:=hT f (by simp);rw [hof] at hf;obtain ⟨d0,h3,h4⟩:=hrec _ _ hf;refine ⟨d0++ds,⟨d0,ds,rfl,h3,h1⟩,?_⟩
     have e:cs.drop o=(cs.drop o).take (P.cellsOf f.type)++cs.drop (o+P.cellsOf f.type):=by
       rw [<-List.drop_drop,List.take_append_drop]
     rw [e];exact Fu h4 h2
   . cases hc
theorem KU {S:TypeId->List D->Prop} {T:TypeId->List Value->Prop} {e:TypeId} {cs:List Value} (hrec:∀ t cs',T t cs'->∃ ds,S t ds/\AJ (RD (InW W) W) ds cs') (z:Nat):
   ∀ (k o:Nat),o+k*z=cs.length->(∀ i,i<k->T e ((cs.drop (o+i*z)).take z))->∃ ds,ShL S (List.replicate k e) ds/\AJ (RD (InW W) W) ds (cs.drop o)
 | 0,o,h,_=>⟨[],rfl,by rw [show o=cs.length by omega,List.drop_length];trivial⟩
 | k+1,o,h,hT=>by
   have hk:(k+1)*z=k*z+z:=Nat.succ_mul _ _
   obtain ⟨ds,h1,h2⟩:=KU (cs:=cs) (e:=e) hrec z k (o+z) (by omega) (fun i hi=>by
     have:=hT (i+1) (by omega);rw [Nat.succ_mul] at this;rw [show o+z+i*z=o+(i*z+z) by omega];exact this)
   have hf:=hT 0 (by omega);rw [Nat.zero_mul,Nat.add_zero] at hf;obtain ⟨d0,h3,h4⟩:=hrec _ _ hf;refine ⟨d0++ds,⟨d0,ds,rfl,h3,h1⟩,?_⟩;have e:cs.drop o=(cs.drop o).take z++cs.drop (o+z):=by rw [<-List.drop_drop,List.take_append_drop]
   rw [e];exact Fu h4 h2
theorem HQ {H:Type} {enc:TypeId × Value->H} {base:Nat} {sp:Nat->Bool} {held:Bool}:∀ (n:Nat) (t:TypeId),E5 P n t=true->∀ (m:Nat) (cs:List Value) (x:DataW H × List MemPlace),DataW.trod enc P W base sp held m t cs=some x->∃ ds,Sh' P n t ds/\AJ (RD (InW W) W) ds cs
 | 0,_,h=>by cases h
 | n+1,t,h=>fun m cs x hx=>by
   have ih:=HQ (enc:=enc) (base:=base) (sp:=sp) (held:=held) n;unfold E5 at h;unfold Sh';split at h
   . rename_i hu
     obtain ⟨b,rfl,_⟩:=DataW.trod_bool hu hx;exact ⟨_,⟨b,rfl⟩, .lit _ rfl,trivial⟩
   . rename_i k hu
     obtain ⟨i,rfl,_,hw⟩:=DataW.trod_int hu hx;exact ⟨_,⟨i,rfl,hw⟩, .lit _ rfl,trivial⟩
   . rename_i hu
     obtain ⟨s,rfl,_,hw⟩:=DataW.trod_string hu hx;exact ⟨_,⟨s,rfl,hw⟩, .lit _ rfl,trivial⟩
   . rename_i e hu
     simp only [Bool.and_eq_true,decide_eq_true_eq] at h;rcases Go.Deep.open_slice hu hx with ⟨rfl,_⟩ | ⟨a,len,cap,q,m',D0,Pl,rfl,_,hl,hm,hq,_,hel⟩
     . exact ⟨_,⟨[],rfl,by simp,by simp⟩,RD.sl _ [] none 0 (fun _ _=>undef) (by simp) (by simp) (by simp) (by simp) (by simp),trivial⟩
     . have hlq:len<=q:=by rw [hq];split<;>omega
       obtain ⟨F,hF⟩:=Go.Deep.choose_lt (α:=List D × List Value) (n:=len) (p:=fun i y=>W.cells? base (a.add (i*P.cellsOf e)) (P.cellsOf e)=some y.2/\Sh' P n e y.1/\AJ (RD (InW W) W) y.1 y.2) (fun i hi=>by
         obtain ⟨cs',h1,h2⟩:=hel i (by omega);obtain ⟨ds,h3,h4⟩:=ih e h.2 _ _ _ h2;exact ⟨(ds,cs'),h1,h3,h4⟩)
       have hlen:∀ i,i<len->(F i).1.length=P.cellsOf e:=fun i hi=>by
         obtain ⟨h1,_,h3⟩:=hF i hi;rw [h3.length,(Sv (_enc:=enc) h.1 h1).2.1]
       refine ⟨_,⟨(List.range len).map fun i=>(F i).1,rfl,?_,?_⟩,?_,trivial⟩
       . simp;unfold maxLen at hm;omega
       . intro y hy
         simp only [List.mem_map,List.mem_range] at hy;obtain ⟨i,hi,rfl⟩:=hy;exact (hF i hi).2.1
       . have key:=RD.sl (Im:=InW W) (W:=W) (P.cellsOf e) ((List.range len).map fun i=>(F i).1) (some a) cap (fun i j=>((F i).2)[j]?.getD undef) ?_ ?_ ?_ ?_ ?_
         . simpa using key
         . intro y hy
           simp only [List.mem_map,List.mem_range] at hy;obtain ⟨i,hi,rfl⟩:=hy;exact hlen i hi
         . simp;unfold maxLen at hm;omega
         . simpa using hl
         . intro i y hy
           have hi:i<len:=by
             have:=(List.getElem?_eq_some_iff.1 hy).1;simpa using this
           have hy':(F i).1=y:=by simpa [hi] using hy
           obtain ⟨h1,_,h3⟩:=hF i hi;obtain ⟨c1,c2,c3⟩:=Sv (_enc:=enc) h.1 h1;have hbl:(a.add (i*P.cellsOf e)).block=a.block:=by unfold Addr.add;split<;>rfl
           refine ⟨a,rfl,by rw [hbl] at c1;exact c1,fun j z hz=>?_⟩
           have hj:j<P.cellsOf e:=by
             have:=(List.getElem?_eq_some_iff.1 hz).1;rw [<-hy',hlen i hi] at this;exact this
           rw [<-Go.Deep.add_add,c3 j hj,List.getElem?_eq_getElem (by omega)];simp
         . intro i y hy j z hz
           have hi:i<len:=by
             have:=(List.getElem?_eq_some_iff.1 hy).1;simpa using this
           have hy':(F i).1=y:=by simpa [hi] using hy
           obtain ⟨h1,_,h3⟩:=hF i hi;subst hy';obtain ⟨u,hu2,hr⟩:=h3.get hz;rw [hu2];exact hr
   . rename_i fs hu
     simp only [Bool.and_eq_true,beq_iff_eq,List.all_eq_true] at h;obtain ⟨xs,m',_,_,hcl,hxl,hel⟩:=DataW.trod_struct hu hx
     have:=Jb (P:=P) (W:=W) (S:=Sh' P n) (T:=fun t cs'=>E5 P n t=true/\∃ m x,DataW.trod enc P W base sp held m t cs'=some x) (cs:=cs) (fun t cs' ⟨h1,m,x,h2⟩=>ih t h1 m cs' x h2) fs.toList 0 _ h.1 hcl.symm (fun f hf=>by
       refine ⟨h.2 f hf,m',?_⟩;obtain ⟨i,hi,rfl⟩:=List.mem_iff_getElem.1 hf;have h1:=hel i fs[i] (by simp at hi ⊢);have h2:i<xs.length:=by simp at hi;omega
       rw [List.getElem?_eq_getElem h2] at h1;exact ⟨_,h1⟩) (Nat.zero_le _)
     simpa using this
   . rename_i k e hu
     simp only [Bool.and_eq_true,decide_eq_true_eq] at h;obtain ⟨xs,m',_,_,hcl,hxl,hel⟩:=DataW.trod_array hu hx
     have:=KU (W:=W) (S:=Sh' P n) (T:=fun t cs'=>E5 P n t=true/\∃ m x,DataW.trod enc P W base sp held m t cs'=some x) (e:=e) (cs:=cs) (fun t cs' ⟨h1,m,x,h2⟩=>ih t h1 m cs' x h2) (P.cellsOf e) k 0 (by omega) (fun i hi=>by
       refine ⟨h.2,m',?_⟩;have h1:=hel i hi;rw [List.getElem?_eq_getElem (by omega)] at h1;rw [Nat.zero_add];exact ⟨_,h1⟩)
     simpa using this
   . cases h
end
end Go.Psl
namespace Go.Psl
def KF:PC->List PC->PC × List PC
 | .seq a b,ls=>let x:=KF a ls;let y:=KF b x.2;(.seq x.1 y.1,y.2)
 | .cond c a b,ls=>let x:=KF a ls;let y:=KF b x.2;(.cond c x.1 y.1,y.2)
 | .block i a,ls=>let x:=KF a ls;(.block i x.1,x.2)
 | .loop _,l::ls=>(.loop l,ls)
 | .rangeF f ps _ _,a::b::ls=>(.rangeF f ps a b,ls)
 | x,ls=>(x,ls)
def Db:PC->List PC
 | .seq a b=>Db a++Db b
 | .cond _ a b=>Db a++Db b
 | .block _ a=>Db a
 | .loop a=>Db a++[a]
 | .rangeF _ _ a b=>Db a++[a]++Db b++[b]
 | _=>[]
def Wk (f:Func):PC:=match f.body.bind (AK f.ntmps) with | some p=>p | none=> .skip
def G (f:Func) (ls:List PC):PC:=(KF (Wk f) ls).1
def K (f:Func) (k:Nat) (ls:List PC):PC:=(KF ((Db (Wk f)).getD k .skip) ls).1
abbrev Rd {α:Type} (x:α):={y:α // x=y}
end Go.Psl
namespace Go.Proofs.Tryz
open Go.Psl
def p3:PC:=(⟨_,by conv=>lhs;reduce⟩:Rd (G f3 [])).1
theorem c3:f3.body.bind (AK f3.ntmps)=some p3:=by kernel_rfl
def p4:PC:=(⟨_,by conv=>lhs;reduce⟩:Rd (G f4 [])).1
theorem c4:f4.body.bind (AK f4.ntmps)=some p4:=by kernel_rfl
def p5l0:PC:=(⟨_,by conv=>lhs;reduce⟩:Rd (K f5 0 [])).1
def p5l1:PC:=(⟨_,by conv=>lhs;reduce⟩:Rd (K f5 1 [])).1
def p5:PC:=(⟨_,by conv=>lhs;reduce⟩:Rd (fun a b=>G f5 [a,b])).1 p5l0 p5l1
theorem c5:f5.body.bind (AK f5.ntmps)=some p5:=by kernel_rfl
def p6l0:PC:=(⟨_,by conv=>lhs;reduce⟩:Rd (K f6 0 [])).1
def p6:PC:=(⟨_,by conv=>lhs;reduce⟩:Rd (fun a=>G f6 [a])).1 p6l0
theorem c6:f6.body.bind (AK f6.ntmps)=some p6:=by kernel_rfl
def p7l0:PC:=(⟨_,by conv=>lhs;reduce⟩:Rd (K f7 0 [])).1
def p7l1:PC:=(⟨_,by conv=>lhs;reduce⟩:Rd (fun a=>K f7 1 [a])).1 p7l0
def p7:PC:=(⟨_,by conv=>lhs;reduce⟩:Rd (fun a=>G f7 [a])).1 p7l1
theorem c7:f7.body.bind (AK f7.ntmps)=some p7:=by kernel_rfl
def p8l0:PC:=(⟨_,by conv=>lhs;reduce⟩:Rd (K f8 0 [])).1
def p8:PC:=(⟨_,by conv=>lhs;reduce⟩:Rd (fun a=>G f8 [a])).1 p8l0
theorem c8:f8.body.bind (AK f8.ntmps)=some p8:=by kernel_rfl
def p9l0:PC:=(⟨_,by conv=>lhs;reduce⟩:Rd (K f9 0 [])).1
def p9:PC:=(⟨_,by conv=>lhs;reduce⟩:Rd (fun a=>G f9 [a])).1 p9l0
theorem c9:f9.body.bind (AK f9.ntmps)=some p9:=by kernel_rfl
def qI:PC:=(⟨_,by conv=>lhs;reduce⟩:Rd (K f10 0 [])).1
def qJ:PC:=(⟨_,by conv=>lhs;reduce⟩:Rd (K f10 1 [])).1
def qK:PC:=(⟨_,by conv=>lhs;reduce⟩:Rd (fun a=>K f10 2 [a])).1 qJ
def qL:PC:=(⟨_,by conv=>lhs;reduce⟩:Rd (fun a b=>K f10 3 [a,b])).1 qI qK
def qM:PC:=(⟨_,by conv=>lhs;reduce⟩:Rd (fun a=>K f10 4 [a])).1 qL
def p10:PC:=(⟨_,by conv=>lhs;reduce⟩:Rd (fun a=>G f10 [a])).1 qM
theorem c10:f10.body.bind (AK f10.ntmps)=some p10:=by kernel_rfl
def p11:PC:=(⟨_,by conv=>lhs;reduce⟩:Rd (G f11 [])).1
theorem c11:f11.body.bind (AK f11.ntmps)=some p11:=by kernel_rfl
def AKu:PC:=(⟨_,by conv=>lhs;reduce⟩:Rd (K f14 0 [])).1
def AKN:PC:=(⟨_,by conv=>lhs;reduce⟩:Rd (K f14 1 [])).1
def AKO:PC:=(⟨_,by conv=>lhs;reduce⟩:Rd (K f14 2 [])).1
def AKv:PC:=(⟨_,by conv=>lhs;reduce⟩:Rd (K f14 3 [])).1
def AKw:PC:=(⟨_,by conv=>lhs;reduce⟩:Rd (K f14 4 [])).1
def p14:PC:=(⟨_,by conv=>lhs;reduce⟩:Rd (fun a b c d e=>G f14 [a,b,c,d,e])).1 AKu AKN AKO AKv AKw
theorem c14:f14.body.bind (AK f14.ntmps)=some p14:=by kernel_rfl
def p18:PC:=(⟨_,by conv=>lhs;reduce⟩:Rd (G f18 [])).1
theorem c18:f18.body.bind (AK f18.ntmps)=some p18:=by kernel_rfl
def p19:PC:=(⟨_,by conv=>lhs;reduce⟩:Rd (G f19 [])).1
theorem c19:f19.body.bind (AK f19.ntmps)=some p19:=by kernel_rfl
def p21:PC:=(⟨_,by conv=>lhs;reduce⟩:Rd (G f21 [])).1
theorem c21:f21.body.bind (AK f21.ntmps)=some p21:=by kernel_rfl
def Nd:PC:=(⟨_,by conv=>lhs;reduce⟩:Rd (K f23 0 [])).1
def p23:PC:=(⟨_,by conv=>lhs;reduce⟩:Rd (fun a=>G f23 [a])).1 Nd
theorem c23:f23.body.bind (AK f23.ntmps)=some p23:=by kernel_rfl
def p32:PC:=(⟨_,by conv=>lhs;reduce⟩:Rd (G f32 [])).1
theorem c32:f32.body.bind (AK f32.ntmps)=some p32:=by kernel_rfl
def p34:PC:=(⟨_,by conv=>lhs;reduce⟩:Rd (G f34 [])).1
theorem c34:f34.body.bind (AK f34.ntmps)=some p34:=by kernel_rfl
def p36:PC:=(⟨_,by conv=>lhs;reduce⟩:Rd (G f36 [])).1
theorem c36:f36.body.bind (AK f36.ntmps)=some p36:=by kernel_rfl
def PQ:PC:=(⟨_,by conv=>lhs;reduce⟩:Rd (K f38 0 [])).1
def p38:PC:=(⟨_,by conv=>lhs;reduce⟩:Rd (fun a=>G f38 [a])).1 PQ
theorem c38:f38.body.bind (AK f38.ntmps)=some p38:=by kernel_rfl
def p45:PC:=(⟨_,by conv=>lhs;reduce⟩:Rd (G f45 [])).1
theorem c45:f45.body.bind (AK f45.ntmps)=some p45:=by kernel_rfl
def p48:PC:=(⟨_,by conv=>lhs;reduce⟩:Rd (G f48 [])).1
theorem c48:f48.body.bind (AK f48.ntmps)=some p48:=by kernel_rfl
def bC:PC:=(⟨_,by conv=>lhs;reduce⟩:Rd (K f50 0 [])).1
def p50:PC:=(⟨_,by conv=>lhs;reduce⟩:Rd (fun a=>G f50 [a])).1 bC
theorem c50:f50.body.bind (AK f50.ntmps)=some p50:=by kernel_rfl
def p51:PC:=(⟨_,by conv=>lhs;reduce⟩:Rd (G f51 [])).1
theorem c51:f51.body.bind (AK f51.ntmps)=some p51:=by kernel_rfl
def PS:PC:=(⟨_,by conv=>lhs;reduce⟩:Rd (K f53 0 [])).1
def PT:PC:=(⟨_,by conv=>lhs;reduce⟩:Rd (K f53 1 [])).1
def p53:PC:=(⟨_,by conv=>lhs;reduce⟩:Rd (fun a b=>G f53 [a,b])).1 PS PT
theorem c53:f53.body.bind (AK f53.ntmps)=some p53:=by kernel_rfl
def Ti:PC:=(⟨_,by conv=>lhs;reduce⟩:Rd (K f55 0 [])).1
def p55:PC:=(⟨_,by conv=>lhs;reduce⟩:Rd (fun a=>G f55 [a])).1 Ti
theorem c55:f55.body.bind (AK f55.ntmps)=some p55:=by kernel_rfl
def p56:PC:=(⟨_,by conv=>lhs;reduce⟩:Rd (G f56 [])).1
theorem c56:f56.body.bind (AK f56.ntmps)=some p56:=by kernel_rfl
def p58:PC:=(⟨_,by conv=>lhs;reduce⟩:Rd (G f58 [])).1
theorem c58:f58.body.bind (AK f58.ntmps)=some p58:=by kernel_rfl
def p59:PC:=(⟨_,by conv=>lhs;reduce⟩:Rd (G f59 [])).1
theorem c59:f59.body.bind (AK f59.ntmps)=some p59:=by kernel_rfl
def Tj:PC:=(⟨_,by conv=>lhs;reduce⟩:Rd (K f60 0 [])).1
def p60:PC:=(⟨_,by conv=>lhs;reduce⟩:Rd (fun a=>G f60 [a])).1 Tj
theorem c60:f60.body.bind (AK f60.ntmps)=some p60:=by kernel_rfl
def p64:PC:=(⟨_,by conv=>lhs;reduce⟩:Rd (G f64 [])).1
theorem c64:f64.body.bind (AK f64.ntmps)=some p64:=by kernel_rfl
def p65:PC:=(⟨_,by conv=>lhs;reduce⟩:Rd (G f65 [])).1
theorem c65:f65.body.bind (AK f65.ntmps)=some p65:=by kernel_rfl
def p66:PC:=(⟨_,by conv=>lhs;reduce⟩:Rd (G f66 [])).1
theorem c66:f66.body.bind (AK f66.ntmps)=some p66:=by kernel_rfl
def p67:PC:=(⟨_,by conv=>lhs;reduce⟩:Rd (G f67 [])).1
theorem c67:f67.body.bind (AK f67.ntmps)=some p67:=by kernel_rfl
def D1:PC:=(⟨_,by conv=>lhs;reduce⟩:Rd (K f69 0 [])).1
def p69:PC:=(⟨_,by conv=>lhs;reduce⟩:Rd (fun a=>G f69 [a])).1 D1
theorem c69:f69.body.bind (AK f69.ntmps)=some p69:=by kernel_rfl
def bD:PC:=(⟨_,by conv=>lhs;reduce⟩:Rd (K f70 0 [])).1
def p70:PC:=(⟨_,by conv=>lhs;reduce⟩:Rd (fun a=>G f70 [a])).1 bD
theorem c70:f70.body.bind (AK f70.ntmps)=some p70:=by kernel_rfl
def p75:PC:=(⟨_,by conv=>lhs;reduce⟩:Rd (G f75 [])).1
theorem c75:f75.body.bind (AK f75.ntmps)=some p75:=by kernel_rfl
def jL:PC:=(⟨_,by conv=>lhs;reduce⟩:Rd (K f77 0 [])).1
def p77:PC:=(⟨_,by conv=>lhs;reduce⟩:Rd (fun a=>G f77 [a])).1 jL
theorem c77:f77.body.bind (AK f77.ntmps)=some p77:=by kernel_rfl
def p81:PC:=(⟨_,by conv=>lhs;reduce⟩:Rd (G f81 [])).1
theorem c81:f81.body.bind (AK f81.ntmps)=some p81:=by kernel_rfl
def Tk:PC:=(⟨_,by conv=>lhs;reduce⟩:Rd (K f88 0 [])).1
def Tl:PC:=(⟨_,by conv=>lhs;reduce⟩:Rd (K f88 1 [])).1
def LC:PC:=(⟨_,by conv=>lhs;reduce⟩:Rd (fun a b=>K f88 2 [a,b])).1 Tk Tl
def p88:PC:=(⟨_,by conv=>lhs;reduce⟩:Rd (fun a=>G f88 [a])).1 LC
theorem c88:f88.body.bind (AK f88.ntmps)=some p88:=by kernel_rfl
def HI:PC:=(⟨_,by conv=>lhs;reduce⟩:Rd (K f89 0 [])).1
def p89:PC:=(⟨_,by conv=>lhs;reduce⟩:Rd (fun a=>G f89 [a])).1 HI
theorem c89:f89.body.bind (AK f89.ntmps)=some p89:=by kernel_rfl
def p90:PC:=(⟨_,by conv=>lhs;reduce⟩:Rd (G f90 [])).1
theorem c90:f90.body.bind (AK f90.ntmps)=some p90:=by kernel_rfl
def p91:PC:=(⟨_,by conv=>lhs;reduce⟩:Rd (G f91 [])).1
theorem c91:f91.body.bind (AK f91.ntmps)=some p91:=by kernel_rfl
def p92:PC:=(⟨_,by conv=>lhs;reduce⟩:Rd (G f92 [])).1
theorem c92:f92.body.bind (AK f92.ntmps)=some p92:=by kernel_rfl
def p94:PC:=(⟨_,by conv=>lhs;reduce⟩:Rd (G f94 [])).1
theorem c94:f94.body.bind (AK f94.ntmps)=some p94:=by kernel_rfl
def p96:PC:=(⟨_,by conv=>lhs;reduce⟩:Rd (G f96 [])).1
theorem c96:f96.body.bind (AK f96.ntmps)=some p96:=by kernel_rfl
def p98:PC:=(⟨_,by conv=>lhs;reduce⟩:Rd (G f98 [])).1
theorem c98:f98.body.bind (AK f98.ntmps)=some p98:=by kernel_rfl
def p99:PC:=(⟨_,by conv=>lhs;reduce⟩:Rd (G f99 [])).1
theorem c99:f99.body.bind (AK f99.ntmps)=some p99:=by kernel_rfl
def Az:PC:=(⟨_,by conv=>lhs;reduce⟩:Rd (K f103 0 [])).1
def A3:PC:=(⟨_,by conv=>lhs;reduce⟩:Rd (K f103 1 [])).1
def p103:PC:=(⟨_,by conv=>lhs;reduce⟩:Rd (fun a b=>G f103 [a,b])).1 Az A3
theorem c103:f103.body.bind (AK f103.ntmps)=some p103:=by kernel_rfl
def p104:PC:=(⟨_,by conv=>lhs;reduce⟩:Rd (G f104 [])).1
theorem qN:f104.body.bind (AK f104.ntmps)=some p104:=by kernel_rfl
def p105:PC:=(⟨_,by conv=>lhs;reduce⟩:Rd (G f105 [])).1
theorem c105:f105.body.bind (AK f105.ntmps)=some p105:=by kernel_rfl
def p106:PC:=(⟨_,by conv=>lhs;reduce⟩:Rd (G f106 [])).1
theorem c106:f106.body.bind (AK f106.ntmps)=some p106:=by kernel_rfl
def p107:PC:=(⟨_,by conv=>lhs;reduce⟩:Rd (G f107 [])).1
theorem c107:f107.body.bind (AK f107.ntmps)=some p107:=by kernel_rfl
def p108:PC:=(⟨_,by conv=>lhs;reduce⟩:Rd (G f108 [])).1
theorem c108:f108.body.bind (AK f108.ntmps)=some p108:=by kernel_rfl
def NY:PC:=(⟨_,by conv=>lhs;reduce⟩:Rd (K f109 0 [])).1
def p109:PC:=(⟨_,by conv=>lhs;reduce⟩:Rd (fun a=>G f109 [a])).1 NY
theorem c109:f109.body.bind (AK f109.ntmps)=some p109:=by kernel_rfl
def p110:PC:=(⟨_,by conv=>lhs;reduce⟩:Rd (G f110 [])).1
theorem c110:f110.body.bind (AK f110.ntmps)=some p110:=by kernel_rfl
def p111:PC:=(⟨_,by conv=>lhs;reduce⟩:Rd (G f111 [])).1
theorem c111:f111.body.bind (AK f111.ntmps)=some p111:=by kernel_rfl
def sO:PC:=(⟨_,by conv=>lhs;reduce⟩:Rd (K f112 0 [])).1
def p112:PC:=(⟨_,by conv=>lhs;reduce⟩:Rd (fun a=>G f112 [a])).1 sO
theorem c112:f112.body.bind (AK f112.ntmps)=some p112:=by kernel_rfl
def p113:PC:=(⟨_,by conv=>lhs;reduce⟩:Rd (G f113 [])).1
theorem c113:f113.body.bind (AK f113.ntmps)=some p113:=by kernel_rfl
def p114:PC:=(⟨_,by conv=>lhs;reduce⟩:Rd (G f114 [])).1
theorem c114:f114.body.bind (AK f114.ntmps)=some p114:=by kernel_rfl
def p115:PC:=(⟨_,by conv=>lhs;reduce⟩:Rd (G f115 [])).1
theorem qO:f115.body.bind (AK f115.ntmps)=some p115:=by kernel_rfl
def p116:PC:=(⟨_,by conv=>lhs;reduce⟩:Rd (G f116 [])).1
theorem c116:f116.body.bind (AK f116.ntmps)=some p116:=by kernel_rfl
def NZ:PC:=(⟨_,by conv=>lhs;reduce⟩:Rd (K f117 0 [])).1
def p117:PC:=(⟨_,by conv=>lhs;reduce⟩:Rd (fun a=>G f117 [a])).1 NZ
theorem c117:f117.body.bind (AK f117.ntmps)=some p117:=by kernel_rfl
def p118:PC:=(⟨_,by conv=>lhs;reduce⟩:Rd (G f118 [])).1
theorem c118:f118.body.bind (AK f118.ntmps)=some p118:=by kernel_rfl
def p119:PC:=(⟨_,by conv=>lhs;reduce⟩:Rd (G f119 [])).1
theorem c119:f119.body.bind (AK f119.ntmps)=some p119:=by kernel_rfl
def p120:PC:=(⟨_,by conv=>lhs;reduce⟩:Rd (G f120 [])).1
theorem c120:f120.body.bind (AK f120.ntmps)=some p120:=by kernel_rfl
def p121:PC:=(⟨_,by conv=>lhs;reduce⟩:Rd (G f121 [])).1
theorem qP:f121.body.bind (AK f121.ntmps)=some p121:=by kernel_rfl
def s9:PC:=(⟨_,by conv=>lhs;reduce⟩:Rd (K f122 0 [])).1
def p122:PC:=(⟨_,by conv=>lhs;reduce⟩:Rd (fun a=>G f122 [a])).1 s9
theorem c122:f122.body.bind (AK f122.ntmps)=some p122:=by kernel_rfl
def p123:PC:=(⟨_,by conv=>lhs;reduce⟩:Rd (G f123 [])).1
theorem c123:f123.body.bind (AK f123.ntmps)=some p123:=by kernel_rfl
def SA:PC:=(⟨_,by conv=>lhs;reduce⟩:Rd (K f124 0 [])).1
def p124:PC:=(⟨_,by conv=>lhs;reduce⟩:Rd (fun a=>G f124 [a])).1 SA
theorem c124:f124.body.bind (AK f124.ntmps)=some p124:=by kernel_rfl
def bE:PC:=(⟨_,by conv=>lhs;reduce⟩:Rd (K f125 0 [])).1
def p125:PC:=(⟨_,by conv=>lhs;reduce⟩:Rd (fun a=>G f125 [a])).1 bE
theorem c125:f125.body.bind (AK f125.ntmps)=some p125:=by kernel_rfl
def Ba:PC:=(⟨_,by conv=>lhs;reduce⟩:Rd (K f126 0 [])).1
def Bb:PC:=(⟨_,by conv=>lhs;reduce⟩:Rd (K f126 1 [])).1
def p126:PC:=(⟨_,by conv=>lhs;reduce⟩:Rd (fun a b=>G f126 [a,b])).1 Ba Bb
theorem c126:f126.body.bind (AK f126.ntmps)=some p126:=by kernel_rfl
def p127:PC:=(⟨_,by conv=>lhs;reduce⟩:Rd (G f127 [])).1
theorem qQ:f127.body.bind (AK f127.ntmps)=some p127:=by kernel_rfl
def p128:PC:=(⟨_,by conv=>lhs;reduce⟩:Rd (G f128 [])).1
theorem LE:f128.body.bind (AK f128.ntmps)=some p128:=by kernel_rfl
def p129:PC:=(⟨_,by conv=>lhs;reduce⟩:Rd (G f129 [])).1
theorem c129:f129.body.bind (AK f129.ntmps)=some p129:=by kernel_rfl
def JJ:PC:=(⟨_,by conv=>lhs;reduce⟩:Rd (K f133 0 [])).1
def LF:PC:=(⟨_,by conv=>lhs;reduce⟩:Rd (fun a=>K f133 1 [a])).1 JJ
def p133:PC:=(⟨_,by conv=>lhs;reduce⟩:Rd (fun a=>G f133 [a])).1 LF
theorem c133:f133.body.bind (AK f133.ntmps)=some p133:=by kernel_rfl
def p144:PC:=(⟨_,by conv=>lhs;reduce⟩:Rd (G f144 [])).1
theorem c144:f144.body.bind (AK f144.ntmps)=some p144:=by kernel_rfl
def p155:PC:=(⟨_,by conv=>lhs;reduce⟩:Rd (G f155 [])).1
theorem c155:f155.body.bind (AK f155.ntmps)=some p155:=by kernel_rfl
def p156:PC:=(⟨_,by conv=>lhs;reduce⟩:Rd (G f156 [])).1
theorem qS:f156.body.bind (AK f156.ntmps)=some p156:=by kernel_rfl
def tC:PC:=(⟨_,by conv=>lhs;reduce⟩:Rd (K f157 0 [])).1
def p157:PC:=(⟨_,by conv=>lhs;reduce⟩:Rd (fun a=>G f157 [a])).1 tC
theorem c157:f157.body.bind (AK f157.ntmps)=some p157:=by kernel_rfl
def p158:PC:=(⟨_,by conv=>lhs;reduce⟩:Rd (G f158 [])).1
theorem qT:f158.body.bind (AK f158.ntmps)=some p158:=by kernel_rfl
def bF:PC:=(⟨_,by conv=>lhs;reduce⟩:Rd (K f159 0 [])).1
def p159:PC:=(⟨_,by conv=>lhs;reduce⟩:Rd (fun a=>G f159 [a])).1 bF
theorem qU:f159.body.bind (AK f159.ntmps)=some p159:=by kernel_rfl
def bG:PC:=(⟨_,by conv=>lhs;reduce⟩:Rd (K f160 0 [])).1
def p160:PC:=(⟨_,by conv=>lhs;reduce⟩:Rd (fun a=>G f160 [a])).1 bG
theorem c160:f160.body.bind (AK f160.ntmps)=some p160:=by kernel_rfl
def p161:PC:=(⟨_,by conv=>lhs;reduce⟩:Rd (G f161 [])).1
theorem c161:f161.body.bind (AK f161.ntmps)=some p161:=by kernel_rfl
def p162:PC:=(⟨_,by conv=>lhs;reduce⟩:Rd (G f162 [])).1
theorem qV:f162.body.bind (AK f162.ntmps)=some p162:=by kernel_rfl
def SE:PC:=(⟨_,by conv=>lhs;reduce⟩:Rd (K f163 0 [])).1
def p163:PC:=(⟨_,by conv=>lhs;reduce⟩:Rd (fun a=>G f163 [a])).1 SE
theorem c163:f163.body.bind (AK f163.ntmps)=some p163:=by kernel_rfl
def p164:PC:=(⟨_,by conv=>lhs;reduce⟩:Rd (G f164 [])).1
theorem qW:f164.body.bind (AK f164.ntmps)=some p164:=by kernel_rfl
def p165:PC:=(⟨_,by conv=>lhs;reduce⟩:Rd (G f165 [])).1
theorem c165:f165.body.bind (AK f165.ntmps)=some p165:=by kernel_rfl
def p166:PC:=(⟨_,by conv=>lhs;reduce⟩:Rd (G f166 [])).1
theorem qX:f166.body.bind (AK f166.ntmps)=some p166:=by kernel_rfl
def bH:PC:=(⟨_,by conv=>lhs;reduce⟩:Rd (K f167 0 [])).1
def p167:PC:=(⟨_,by conv=>lhs;reduce⟩:Rd (fun a=>G f167 [a])).1 bH
theorem c167:f167.body.bind (AK f167.ntmps)=some p167:=by kernel_rfl
def p168:PC:=(⟨_,by conv=>lhs;reduce⟩:Rd (G f168 [])).1
theorem qY:f168.body.bind (AK f168.ntmps)=some p168:=by kernel_rfl
def SG:PC:=(⟨_,by conv=>lhs;reduce⟩:Rd (K f170 0 [])).1
def p170:PC:=(⟨_,by conv=>lhs;reduce⟩:Rd (fun a=>G f170 [a])).1 SG
theorem c170:f170.body.bind (AK f170.ntmps)=some p170:=by kernel_rfl
def p171:PC:=(⟨_,by conv=>lhs;reduce⟩:Rd (G f171 [])).1
theorem mB:f171.body.bind (AK f171.ntmps)=some p171:=by kernel_rfl
def Cs:PC:=(⟨_,by conv=>lhs;reduce⟩:Rd (K f173 0 [])).1
def p173:PC:=(⟨_,by conv=>lhs;reduce⟩:Rd (fun a=>G f173 [a])).1 Cs
theorem c173:f173.body.bind (AK f173.ntmps)=some p173:=by kernel_rfl
def bI:PC:=(⟨_,by conv=>lhs;reduce⟩:Rd (K f175 0 [])).1
def p175:PC:=(⟨_,by conv=>lhs;reduce⟩:Rd (fun a=>G f175 [a])).1 bI
theorem c175:f175.body.bind (AK f175.ntmps)=some p175:=by kernel_rfl
def p176:PC:=(⟨_,by conv=>lhs;reduce⟩:Rd (G f176 [])).1
theorem c176:f176.body.bind (AK f176.ntmps)=some p176:=by kernel_rfl
def bJ:PC:=(⟨_,by conv=>lhs;reduce⟩:Rd (K f177 0 [])).1
def p177:PC:=(⟨_,by conv=>lhs;reduce⟩:Rd (fun a=>G f177 [a])).1 bJ
theorem c177:f177.body.bind (AK f177.ntmps)=some p177:=by kernel_rfl
def bK:PC:=(⟨_,by conv=>lhs;reduce⟩:Rd (K f178 0 [])).1
def p178:PC:=(⟨_,by conv=>lhs;reduce⟩:Rd (fun a=>G f178 [a])).1 bK
theorem c178:f178.body.bind (AK f178.ntmps)=some p178:=by kernel_rfl
def p179:PC:=(⟨_,by conv=>lhs;reduce⟩:Rd (G f179 [])).1
theorem c179:f179.body.bind (AK f179.ntmps)=some p179:=by kernel_rfl
def tD:PC:=(⟨_,by conv=>lhs;reduce⟩:Rd (K f180 0 [])).1
def p180:PC:=(⟨_,by conv=>lhs;reduce⟩:Rd (fun a=>G f180 [a])).1 tD
theorem c180:f180.body.bind (AK f180.ntmps)=some p180:=by kernel_rfl
def p181:PC:=(⟨_,by conv=>lhs;reduce⟩:Rd (G f181 [])).1
theorem qZ:f181.body.bind (AK f181.ntmps)=some p181:=by kernel_rfl
def JK:PC:=(⟨_,by conv=>lhs;reduce⟩:Rd (K f182 0 [])).1
def p182:PC:=(⟨_,by conv=>lhs;reduce⟩:Rd (fun a=>G f182 [a])).1 JK
theorem c182:f182.body.bind (AK f182.ntmps)=some p182:=by kernel_rfl
def p183:PC:=(⟨_,by conv=>lhs;reduce⟩:Rd (G f183 [])).1
theorem c183:f183.body.bind (AK f183.ntmps)=some p183:=by kernel_rfl
def p184:PC:=(⟨_,by conv=>lhs;reduce⟩:Rd (G f184 [])).1
theorem c184:f184.body.bind (AK f184.ntmps)=some p184:=by kernel_rfl
def p185:PC:=(⟨_,by conv=>lhs;reduce⟩:Rd (G f185 [])).1
theorem qa:f185.body.bind (AK f185.ntmps)=some p185:=by kernel_rfl
def p186:PC:=(⟨_,by conv=>lhs;reduce⟩:Rd (G f186 [])).1
theorem qb:f186.body.bind (AK f186.ntmps)=some p186:=by kernel_rfl
def wV:PC:=(⟨_,by conv=>lhs;reduce⟩:Rd (K f187 0 [])).1
def p187:PC:=(⟨_,by conv=>lhs;reduce⟩:Rd (fun a=>G f187 [a])).1 wV
theorem c187:f187.body.bind (AK f187.ntmps)=some p187:=by kernel_rfl
def p188:PC:=(⟨_,by conv=>lhs;reduce⟩:Rd (G f188 [])).1
theorem c188:f188.body.bind (AK f188.ntmps)=some p188:=by kernel_rfl
def p189:PC:=(⟨_,by conv=>lhs;reduce⟩:Rd (G f189 [])).1
theorem c189:f189.body.bind (AK f189.ntmps)=some p189:=by kernel_rfl
def p190:PC:=(⟨_,by conv=>lhs;reduce⟩:Rd (G f190 [])).1
theorem c190:f190.body.bind (AK f190.ntmps)=some p190:=by kernel_rfl
def p191:PC:=(⟨_,by conv=>lhs;reduce⟩:Rd (G f191 [])).1
theorem c191:f191.body.bind (AK f191.ntmps)=some p191:=by kernel_rfl
def p192:PC:=(⟨_,by conv=>lhs;reduce⟩:Rd (G f192 [])).1
theorem c192:f192.body.bind (AK f192.ntmps)=some p192:=by kernel_rfl
def p193:PC:=(⟨_,by conv=>lhs;reduce⟩:Rd (G f193 [])).1
theorem c193:f193.body.bind (AK f193.ntmps)=some p193:=by kernel_rfl
def p194:PC:=(⟨_,by conv=>lhs;reduce⟩:Rd (G f194 [])).1
theorem c194:f194.body.bind (AK f194.ntmps)=some p194:=by kernel_rfl
def p195:PC:=(⟨_,by conv=>lhs;reduce⟩:Rd (G f195 [])).1
theorem c195:f195.body.bind (AK f195.ntmps)=some p195:=by kernel_rfl
def p199:PC:=(⟨_,by conv=>lhs;reduce⟩:Rd (G f199 [])).1
theorem AGD:f199.body.bind (AK f199.ntmps)=some p199:=by kernel_rfl
def p200:PC:=(⟨_,by conv=>lhs;reduce⟩:Rd (G f200 [])).1
theorem WA:f200.body.bind (AK f200.ntmps)=some p200:=by kernel_rfl
def tE:PC:=(⟨_,by conv=>lhs;reduce⟩:Rd (K f203 0 [])).1
def LG:PC:=(⟨_,by conv=>lhs;reduce⟩:Rd (fun a=>K f203 1 [a])).1 tE
def p203:PC:=(⟨_,by conv=>lhs;reduce⟩:Rd (fun a=>G f203 [a])).1 LG
theorem qc:f203.body.bind (AK f203.ntmps)=some p203:=by kernel_rfl
def p204:PC:=(⟨_,by conv=>lhs;reduce⟩:Rd (G f204 [])).1
theorem qd:f204.body.bind (AK f204.ntmps)=some p204:=by kernel_rfl
def SH:PC:=(⟨_,by conv=>lhs;reduce⟩:Rd (K f205 0 [])).1
def bM:PC:=(⟨_,by conv=>lhs;reduce⟩:Rd (fun a=>K f205 1 [a])).1 SH
def p205:PC:=(⟨_,by conv=>lhs;reduce⟩:Rd (fun a=>G f205 [a])).1 bM
theorem c205:f205.body.bind (AK f205.ntmps)=some p205:=by kernel_rfl
def bN:PC:=(⟨_,by conv=>lhs;reduce⟩:Rd (K f219 0 [])).1
def p219:PC:=(⟨_,by conv=>lhs;reduce⟩:Rd (fun a=>G f219 [a])).1 bN
theorem c219:f219.body.bind (AK f219.ntmps)=some p219:=by kernel_rfl
def p220:PC:=(⟨_,by conv=>lhs;reduce⟩:Rd (G f220 [])).1
theorem c220:f220.body.bind (AK f220.ntmps)=some p220:=by kernel_rfl
def p222:PC:=(⟨_,by conv=>lhs;reduce⟩:Rd (G f222 [])).1
theorem c222:f222.body.bind (AK f222.ntmps)=some p222:=by kernel_rfl
def bO:PC:=(⟨_,by conv=>lhs;reduce⟩:Rd (K f223 0 [])).1
def bP:PC:=(⟨_,by conv=>lhs;reduce⟩:Rd (fun a=>K f223 1 [a])).1 bO
def p223:PC:=(⟨_,by conv=>lhs;reduce⟩:Rd (fun a=>G f223 [a])).1 bP
theorem c223:f223.body.bind (AK f223.ntmps)=some p223:=by kernel_rfl
def SI:PC:=(⟨_,by conv=>lhs;reduce⟩:Rd (K f224 0 [])).1
def bQ:PC:=(⟨_,by conv=>lhs;reduce⟩:Rd (fun a=>K f224 1 [a])).1 SI
def p224:PC:=(⟨_,by conv=>lhs;reduce⟩:Rd (fun a=>G f224 [a])).1 bQ
theorem c224:f224.body.bind (AK f224.ntmps)=some p224:=by kernel_rfl
def bR:PC:=(⟨_,by conv=>lhs;reduce⟩:Rd (K f225 0 [])).1
def p225:PC:=(⟨_,by conv=>lhs;reduce⟩:Rd (fun a=>G f225 [a])).1 bR
theorem c225:f225.body.bind (AK f225.ntmps)=some p225:=by kernel_rfl
def p235:PC:=(⟨_,by conv=>lhs;reduce⟩:Rd (G f235 [])).1
theorem c235:f235.body.bind (AK f235.ntmps)=some p235:=by kernel_rfl
def bS:PC:=(⟨_,by conv=>lhs;reduce⟩:Rd (K f236 0 [])).1
def p236:PC:=(⟨_,by conv=>lhs;reduce⟩:Rd (fun a=>G f236 [a])).1 bS
theorem c236:f236.body.bind (AK f236.ntmps)=some p236:=by kernel_rfl
def p237:PC:=(⟨_,by conv=>lhs;reduce⟩:Rd (G f237 [])).1
theorem c237:f237.body.bind (AK f237.ntmps)=some p237:=by kernel_rfl
def p238:PC:=(⟨_,by conv=>lhs;reduce⟩:Rd (G f238 [])).1
theorem c238:f238.body.bind (AK f238.ntmps)=some p238:=by kernel_rfl
def p239:PC:=(⟨_,by conv=>lhs;reduce⟩:Rd (G f239 [])).1
theorem c239:f239.body.bind (AK f239.ntmps)=some p239:=by kernel_rfl
def p240:PC:=(⟨_,by conv=>lhs;reduce⟩:Rd (G f240 [])).1
theorem c240:f240.body.bind (AK f240.ntmps)=some p240:=by kernel_rfl
def bT:PC:=(⟨_,by conv=>lhs;reduce⟩:Rd (K f241 0 [])).1
def p241:PC:=(⟨_,by conv=>lhs;reduce⟩:Rd (fun a=>G f241 [a])).1 bT
theorem c241:f241.body.bind (AK f241.ntmps)=some p241:=by kernel_rfl
def p242:PC:=(⟨_,by conv=>lhs;reduce⟩:Rd (G f242 [])).1
theorem c242:f242.body.bind (AK f242.ntmps)=some p242:=by kernel_rfl
def p243:PC:=(⟨_,by conv=>lhs;reduce⟩:Rd (G f243 [])).1
theorem c243:f243.body.bind (AK f243.ntmps)=some p243:=by kernel_rfl
def p244:PC:=(⟨_,by conv=>lhs;reduce⟩:Rd (G f244 [])).1
theorem c244:f244.body.bind (AK f244.ntmps)=some p244:=by kernel_rfl
def Hs:PC:=(⟨_,by conv=>lhs;reduce⟩:Rd (K f245 0 [])).1
def tF:PC:=(⟨_,by conv=>lhs;reduce⟩:Rd (fun a=>K f245 1 [a])).1 Hs
def p245:PC:=(⟨_,by conv=>lhs;reduce⟩:Rd (fun a=>G f245 [a])).1 tF
theorem c245:f245.body.bind (AK f245.ntmps)=some p245:=by kernel_rfl
def p246:PC:=(⟨_,by conv=>lhs;reduce⟩:Rd (G f246 [])).1
theorem c246:f246.body.bind (AK f246.ntmps)=some p246:=by kernel_rfl
def bU:PC:=(⟨_,by conv=>lhs;reduce⟩:Rd (K f254 0 [])).1
def p254:PC:=(⟨_,by conv=>lhs;reduce⟩:Rd (fun a=>G f254 [a])).1 bU
theorem c254:f254.body.bind (AK f254.ntmps)=some p254:=by kernel_rfl
def bV:PC:=(⟨_,by conv=>lhs;reduce⟩:Rd (K f255 0 [])).1
def p255:PC:=(⟨_,by conv=>lhs;reduce⟩:Rd (fun a=>G f255 [a])).1 bV
theorem c255:f255.body.bind (AK f255.ntmps)=some p255:=by kernel_rfl
def p256:PC:=(⟨_,by conv=>lhs;reduce⟩:Rd (G f256 [])).1
theorem c256:f256.body.bind (AK f256.ntmps)=some p256:=by kernel_rfl
def p257:PC:=(⟨_,by conv=>lhs;reduce⟩:Rd (G f257 [])).1
theorem c257:f257.body.bind (AK f257.ntmps)=some p257:=by kernel_rfl
def bW:PC:=(⟨_,by conv=>lhs;reduce⟩:Rd (K f258 0 [])).1
def p258:PC:=(⟨_,by conv=>lhs;reduce⟩:Rd (fun a=>G f258 [a])).1 bW
theorem c258:f258.body.bind (AK f258.ntmps)=some p258:=by kernel_rfl
def p259:PC:=(⟨_,by conv=>lhs;reduce⟩:Rd (G f259 [])).1
theorem AGE:f259.body.bind (AK f259.ntmps)=some p259:=by kernel_rfl
def p260:PC:=(⟨_,by conv=>lhs;reduce⟩:Rd (G f260 [])).1
theorem qe:f260.body.bind (AK f260.ntmps)=some p260:=by kernel_rfl
def bX:PC:=(⟨_,by conv=>lhs;reduce⟩:Rd (K f271 0 [])).1
def p271:PC:=(⟨_,by conv=>lhs;reduce⟩:Rd (fun a=>G f271 [a])).1 bX
theorem c271:f271.body.bind (AK f271.ntmps)=some p271:=by kernel_rfl
def p272:PC:=(⟨_,by conv=>lhs;reduce⟩:Rd (G f272 [])).1
theorem c272:f272.body.bind (AK f272.ntmps)=some p272:=by kernel_rfl
def p276:PC:=(⟨_,by conv=>lhs;reduce⟩:Rd (G f276 [])).1
theorem c276:f276.body.bind (AK f276.ntmps)=some p276:=by kernel_rfl
def p277:PC:=(⟨_,by conv=>lhs;reduce⟩:Rd (G f277 [])).1
theorem c277:f277.body.bind (AK f277.ntmps)=some p277:=by kernel_rfl
def p286:PC:=(⟨_,by conv=>lhs;reduce⟩:Rd (G f286 [])).1
theorem c286:f286.body.bind (AK f286.ntmps)=some p286:=by kernel_rfl
def p287:PC:=(⟨_,by conv=>lhs;reduce⟩:Rd (G f287 [])).1
theorem c287:f287.body.bind (AK f287.ntmps)=some p287:=by kernel_rfl
def p300:PC:=(⟨_,by conv=>lhs;reduce⟩:Rd (G f300 [])).1
def p301:PC:=(⟨_,by conv=>lhs;reduce⟩:Rd (G f301 [])).1
theorem c301:f301.body.bind (AK f301.ntmps)=some p301:=by kernel_rfl
def p302:PC:=(⟨_,by conv=>lhs;reduce⟩:Rd (G f302 [])).1
theorem c302:f302.body.bind (AK f302.ntmps)=some p302:=by kernel_rfl
def p305:PC:=(⟨_,by conv=>lhs;reduce⟩:Rd (G f305 [])).1
theorem c305:f305.body.bind (AK f305.ntmps)=some p305:=by kernel_rfl
def p306:PC:=(⟨_,by conv=>lhs;reduce⟩:Rd (G f306 [])).1
theorem c306:f306.body.bind (AK f306.ntmps)=some p306:=by kernel_rfl
def JL:PC:=(⟨_,by conv=>lhs;reduce⟩:Rd (K f307 0 [])).1
def JM:PC:=(⟨_,by conv=>lhs;reduce⟩:Rd (K f307 1 [])).1
def p307:PC:=(⟨_,by conv=>lhs;reduce⟩:Rd (fun a b=>G f307 [a,b])).1 JL JM
theorem qf:f307.body.bind (AK f307.ntmps)=some p307:=by kernel_rfl
def p317:PC:=(⟨_,by conv=>lhs;reduce⟩:Rd (G f317 [])).1
theorem c317:f317.body.bind (AK f317.ntmps)=some p317:=by kernel_rfl
def ty3:Ty:=⟨1,8,false, .int .i64,[(.int .i64 0)]⟩
def ty4:Ty:=⟨1,1,false, .bool,[(.bool false)]⟩
def ty5:Ty:=⟨1,1,false, .int .u8,[(.int .u8 0)]⟩
def ty9:Ty:=⟨1,16,false, .str,[(.string ByteArray.empty)]⟩
def ty20:Ty:=⟨1,16,false, .ifc true,[.nilIface]⟩
def ty22:Ty:=⟨1,24,false, .slice 128,[(.slice none 0 0)]⟩
def ty23:Ty:=⟨1,24,false, .slice 174,[(.slice none 0 0)]⟩
def ty25:Ty:=⟨2,48,true, .struct [(0,22),(1,23)],[(.slice none 0 0),(.slice none 0 0)]⟩
def ty27:Ty:=⟨2,16,true, .struct [(0,3),(1,3)],[(.int .i64 0),(.int .i64 0)]⟩
def ty28:Ty:=⟨1,24,false, .slice 88,[(.slice none 0 0)]⟩
def ty30:Ty:=⟨2,16,true, .struct [(0,3),(1,3)],[(.int .i64 0),(.int .i64 0)]⟩
def ty32:Ty:=⟨10,96,true, .struct [(0,28),(1,3),(2,30),(4,30),(6,30),(8,30)],[(.slice none 0 0),(.int .i64 0),(.int .i64 0),(.int .i64 0),(.int .i64 0),(.int .i64 0),(.int .i64 0),(.int .i64 0),(.int .i64 0),(.int .i64 0)]⟩
def ty34:Ty:=⟨25,216,true, .struct [(0,27),(2,27),(4,27),(6,27),(8,27),(10,27),(12,3),(13,3),(14,3),(15,32)],[(.int .i64 0),(.int .i64 0),(.int .i64 0),(.int .i64 0),(.int .i64 0),(.int .i64 0),(.int .i64 0),(.int .i64 0),(.int .i64 0),(.int .i64 0),(.int .i64 0),(.int .i64 0),(.int .i64 0),(.int .i64 0),(.int .i64 0),(.slice none 0 0),(.int .i64 0),(.int .i64 0),(.int .i64 0),(.int .i64 0),(.int .i64 0),(.int .i64 0),(.int .i64 0),(.int .i64 0),(.int .i64 0)]⟩
def ty36:Ty:=⟨1,8,false, .other,[.nilFunc]⟩
def ty38:Ty:=⟨1,8,false, .int .i64,[(.int .i64 0)]⟩
def ty43:Ty:=⟨1,24,false, .slice 135,[(.slice none 0 0)]⟩
def ty55:Ty:=⟨1,24,false, .slice 122,[(.slice none 0 0)]⟩
def ty57:Ty:=⟨7,72,true, .struct [(0,55),(1,27),(3,3),(4,3),(5,3),(6,3)],[(.slice none 0 0),(.int .i64 0),(.int .i64 0),(.int .i64 0),(.int .i64 0),(.int .i64 0),(.int .i64 0)]⟩
def ty58:Ty:=⟨1,24,false, .slice 76,[(.slice none 0 0)]⟩
def ty74:Ty:=⟨4,32,true, .struct [(0,27),(2,27)],[(.int .i64 0),(.int .i64 0),(.int .i64 0),(.int .i64 0)]⟩
def ty76:Ty:=⟨11,104,true, .struct [(0,3),(1,74),(5,27),(7,27),(9,3),(10,43)],[(.int .i64 0),(.int .i64 0),(.int .i64 0),(.int .i64 0),(.int .i64 0),(.int .i64 0),(.int .i64 0),(.int .i64 0),(.int .i64 0),(.int .i64 0),(.slice none 0 0)]⟩
def ty82:Ty:=⟨4,32,true, .struct [(0,3),(1,3),(2,3),(3,3)],[(.int .i64 0),(.int .i64 0),(.int .i64 0),(.int .i64 0)]⟩
def ty88:Ty:=⟨7,56,true, .struct [(0,3),(1,3),(2,3),(3,27),(5,3),(6,3)],[(.int .i64 0),(.int .i64 0),(.int .i64 0),(.int .i64 0),(.int .i64 0),(.int .i64 0),(.int .i64 0)]⟩
def ty91:Ty:=⟨1,24,false, .slice 34,[(.slice none 0 0)]⟩
def ty97:Ty:=⟨1,24,false, .slice 5,[(.slice none 0 0)]⟩
def ty98:Ty:=⟨1,8,false, .other,[.nilFunc]⟩
def ty99:Ty:=⟨1,8,false, .ptr 101,[(.pointer none)]⟩
def mZ:Ty:=⟨2,32,true, .struct [(0,97),(1,3)],[(.slice none 0 0),(.int .i64 0)]⟩
def ma:Ty:=⟨1,8,false, .other,[.nilFunc]⟩
def zA:Ty:=⟨4,32,true, .struct [(0,27),(2,27)],[(.int .i64 0),(.int .i64 0),(.int .i64 0),(.int .i64 0)]⟩
def md:Ty:=⟨1,24,false, .slice 3,[(.slice none 0 0)]⟩
def me:Ty:=⟨2,16,true, .struct [(0,3),(1,3)],[(.int .i64 0),(.int .i64 0)]⟩
def mf:Ty:=⟨1,2,false, .int .u16,[(.int .u16 0)]⟩
def mg:Ty:=⟨1,8,false, .other,[.nilFunc]⟩
def mh:Ty:=⟨5,40,true, .struct [(0,3),(1,27),(3,27)],[(.int .i64 0),(.int .i64 0),(.int .i64 0),(.int .i64 0),(.int .i64 0)]⟩
def mi:Ty:=⟨1,8,false, .map 3 3,[(.map none)]⟩
def mj:Ty:=⟨4,32,true, .struct [(0,5),(1,3),(2,3),(3,3)],[(.int .u8 0),(.int .i64 0),(.int .i64 0),(.int .i64 0)]⟩
def ml:Ty:=⟨1,8,false, .other,[.nilFunc]⟩
def mm:Ty:=⟨1,8,false, .ptr 251,[(.pointer none)]⟩
def ABu:Ty:=⟨1,8,false, .other,[.nilFunc]⟩
def mo:Ty:=⟨6,48,true, .struct [(0,3),(1,74),(5,3)],[(.int .i64 0),(.int .i64 0),(.int .i64 0),(.int .i64 0),(.int .i64 0),(.int .i64 0)]⟩
def mp:Ty:=⟨1,8,false, .other,[.nilFunc]⟩
def zB:Ty:=⟨1,24,false, .slice 30,[(.slice none 0 0)]⟩
def mr:Ty:=⟨1,8,false, .other,[.nilFunc]⟩
def mv:Ty:=⟨4,32,true, .array 2 27,[(.int .i64 0),(.int .i64 0),(.int .i64 0),(.int .i64 0)]⟩
def mw:Ty:=⟨1,8,false, .other,[.nilFunc]⟩
def my:Ty:=⟨14,112,true, .struct [(0,88),(7,113),(11,3),(12,27)],[(.int .i64 0),(.int .i64 0),(.int .i64 0),(.int .i64 0),(.int .i64 0),(.int .i64 0),(.int .i64 0),(.int .i64 0),(.int .i64 0),(.int .i64 0),(.int .i64 0),(.int .i64 0),(.int .i64 0),(.int .i64 0)]⟩
def mz:Ty:=⟨2,16,true, .struct [(0,3),(1,3)],[(.int .i64 0),(.int .i64 0)]⟩
def AG0:Ty:=⟨1,8,false, .other,[.nilFunc]⟩
def m6:Ty:=⟨1,24,false, .slice 38,[(.slice none 0 0)]⟩
def m7:Ty:=⟨1,8,false, .int .u64,[(.int .u64 0)]⟩
def m8:Ty:=⟨1,8,false, .ptr 27,[(.pointer none)]⟩
def m9:Ty:=⟨6,48,true, .array 6 226,[(.pointer none),(.pointer none),(.pointer none),(.pointer none),(.pointer none),(.pointer none)]⟩
def nA:Ty:=⟨1,8,false, .ptr 34,[(.pointer none)]⟩
def nC:Ty:=⟨1,8,false, .other,[.nilFunc]⟩
def nD:Ty:=⟨1,24,false, .slice 27,[(.slice none 0 0)]⟩
def nE:Ty:=⟨1,8,false, .other,[.nilFunc]⟩
def nF:Ty:=⟨1,8,false, .other,[.nilFunc]⟩
def nG:Ty:=⟨9,120,true, .struct [(0,25),(2,57)],[(.slice none 0 0),(.slice none 0 0),(.slice none 0 0),(.int .i64 0),(.int .i64 0),(.int .i64 0),(.int .i64 0),(.int .i64 0),(.int .i64 0)]⟩
def nH:Ty:=⟨1,24,false, .slice 259,[(.slice none 0 0)]⟩
def nI:Ty:=⟨3,24,true, .struct [(0,3),(1,27)],[(.int .i64 0),(.int .i64 0),(.int .i64 0)]⟩
def nJ:Ty:=⟨1,8,false, .other,[.nilFunc]⟩
def nK:Ty:=⟨1,8,false, .other,[.nilFunc]⟩
def AD7:Ty:=⟨1,24,false, .slice 197,[(.slice none 0 0)]⟩
def nM:Ty:=⟨1,8,false, .other,[.nilFunc]⟩
def nN:Ty:=⟨1,8,false, .other,[.nilFunc]⟩
def nP:Ty:=⟨1,8,true, .struct [(0,38)],[(.int .i64 0)]⟩
def nQ:Ty:=⟨1,8,false, .other,[.nilFunc]⟩
def nR:Ty:=⟨1,8,false, .ptr 284,[(.pointer none)]⟩
def nS:Ty:=⟨8,64,true, .array 8 278,[.nilFunc, .nilFunc, .nilFunc, .nilFunc, .nilFunc, .nilFunc, .nilFunc, .nilFunc]⟩
def AD8:Ty:=⟨10,96,true, .struct [(0,32)],[(.slice none 0 0),(.int .i64 0),(.int .i64 0),(.int .i64 0),(.int .i64 0),(.int .i64 0),(.int .i64 0),(.int .i64 0),(.int .i64 0),(.int .i64 0)]⟩
def nU:Ty:=⟨1,8,false, .other,[.nilFunc]⟩
def nV:Ty:=⟨2,16,true, .struct [(0,3),(1,98)],[(.int .i64 0), .nilFunc]⟩
def nW:Ty:=⟨1,24,false, .slice 297,[(.slice none 0 0)]⟩
def nY:Ty:=⟨1,8,false, .other,[.nilFunc]⟩
def nZ:Ty:=⟨1,8,false, .ptr 88,[(.pointer none)]⟩
def ABv:Ty:=⟨16,128,true, .array 8 27,[(.int .i64 0),(.int .i64 0),(.int .i64 0),(.int .i64 0),(.int .i64 0),(.int .i64 0),(.int .i64 0),(.int .i64 0),(.int .i64 0),(.int .i64 0),(.int .i64 0),(.int .i64 0),(.int .i64 0),(.int .i64 0),(.int .i64 0),(.int .i64 0)]⟩
def ng:Ty:=⟨2,16,true, .array 2 3,[(.int .i64 0),(.int .i64 0)]⟩
def ABw:Ty:=⟨1,8,false, .int .i64,[(.int .i64 0)]⟩
def ni:Ty:=⟨1,4,false, .int .u32,[(.int .u32 0)]⟩
def nj:Ty:=⟨1,8,false, .int .u64,[(.int .u64 0)]⟩
def nk:Ty:=⟨1,8,false, .int .u64,[(.int .u64 0)]⟩
def nl:Ty:=⟨1,8,false, .ptr 3,[(.pointer none)]⟩
def np:Ty:=⟨1,16,false, .ifc false,[.nilIface]⟩
def nq:Ty:=⟨1,8,false, .ptr 348,[(.pointer none)]⟩
def tyL:List (Nat × Ty):=[(3,ty3),(4,ty4),(5,ty5),(9,ty9),(20,ty20),(22,ty22),(23,ty23),(25,ty25),(27,ty27),(28,ty28),(30,ty30),(32,ty32),(34,ty34),(36,ty36),(38,ty38),(43,ty43),(55,ty55),(57,ty57),(58,ty58),(74,ty74),(76,ty76),(82,ty82),(88,ty88),(91,ty91),(97,ty97),(98,ty98),(99,ty99),(101,mZ),(105,ma),(113,zA),(119,md),(122,me),(125,mf),(126,mg),(128,mh),(133,mi),(135,mj),(149,ml),(162,mm),(171,ABu),(174,mo),(177,mp),(178,zB),(180,mr),(184,mv),(187,mw),(192,my),(197,mz),(204,AG0),(207,m6),(222,m7),(226,m8),(227,m9),(229,nA),(238,nC),(239,nD),(241,nE),(247,nF),(251,nG),(257,nH),(259,nI),(264,nJ),(268,nK),(270,AD7),(272,nM),(275,nN),(277,nP),(278,nQ),(280,nR),(281,nS),(284,AD8),(285,nU),(297,nV),(299,nW),(309,nY),(310,nZ),(320,ABv),(321,ng),(332,ABw),(339,ni),(341,nj),(348,nk),(352,nl),(355,np),(356,nq)]
def eqL:List (Nat × List CK):=[(27,[.int, .int]),(30,[.int, .int]),(74,[.int, .int, .int, .int]),(82,[.int, .int, .int, .int]),(88,[.int, .int, .int, .int, .int, .int, .int]),(113,[.int, .int, .int, .int]),(122,[.int, .int]),(128,[.int, .int, .int, .int, .int]),(135,[.int, .int, .int, .int]),(174,[.int, .int, .int, .int, .int, .int]),(192,[.int, .int, .int, .int, .int, .int, .int, .int, .int, .int, .int, .int, .int, .int]),(197,[.int, .int]),(259,[.int, .int, .int]),(277,[.int])]
def tys:Tys:=lk tyL
def eqs:Eqs:=lk eqL
theorem gok:GOk prog tys:=jn (by kernel_rfl)
theorem eok:EB prog eqs:=dT (by kernel_rfl)
theorem mixed:prog.follows .mixedOrders=true:=by kernel_rfl
@[simp] theorem g3:tys 3=some ⟨1,8,false, .int .i64,[(.int .i64 0)]⟩:=AF rfl
@[simp] theorem g4:tys 4=some ⟨1,1,false, .bool,[(.bool false)]⟩:=AF rfl
@[simp] theorem g5:tys 5=some ⟨1,1,false, .int .u8,[(.int .u8 0)]⟩:=AF rfl
@[simp] theorem g9:tys 9=some ⟨1,16,false, .str,[(.string ByteArray.empty)]⟩:=AF rfl
@[simp] theorem g20:tys 20=some ⟨1,16,false, .ifc true,[.nilIface]⟩:=AF rfl
@[simp] theorem g22:tys 22=some ⟨1,24,false, .slice 128,[(.slice none 0 0)]⟩:=AF rfl
@[simp] theorem g23:tys 23=some ⟨1,24,false, .slice 174,[(.slice none 0 0)]⟩:=AF rfl
@[simp] theorem g25:tys 25=some ⟨2,48,true, .struct [(0,22),(1,23)],[(.slice none 0 0),(.slice none 0 0)]⟩:=AF rfl
@[simp] theorem g27:tys 27=some ⟨2,16,true, .struct [(0,3),(1,3)],[(.int .i64 0),(.int .i64 0)]⟩:=AF rfl
@[simp] theorem g28:tys 28=some ⟨1,24,false, .slice 88,[(.slice none 0 0)]⟩:=AF rfl
@[simp] theorem g30:tys 30=some ⟨2,16,true, .struct [(0,3),(1,3)],[(.int .i64 0),(.int .i64 0)]⟩:=AF rfl
@[simp] theorem g32:tys 32=some ⟨10,96,true, .struct [(0,28),(1,3),(2,30),(4,30),(6,30),(8,30)],[(.slice none 0 0),(.int .i64 0),(.int .i64 0),(.int .i64 0),(.int .i64 0),(.int .i64 0),(.int .i64 0),(.int .i64 0),(.int .i64 0),(.int .i64 0)]⟩:=AF rfl
@[simp] theorem g34:tys 34=some ⟨25,216,true, .struct [(0,27),(2,27),(4,27),(6,27),(8,27),(10,27),(12,3),(13,3),(14,3),(15,32)],[(.int .i64 0),(.int .i64 0),(.int .i64 0),(.int .i64 0),(.int .i64 0),(.int .i64 0),(.int .i64 0),(.int .i64 0),(.int .i64 0),(.int .i64 0),(.int .i64 0),(.int .i64 0),(.int .i64 0),(.int .i64 0),(.int .i64 0),(.slice none 0 0),(.int .i64 0),(.int .i64 0),(.int .i64 0),(.int .i64 0),(.int .i64 0),(.int .i64 0),(.int .i64 0),(.int .i64 0),(.int .i64 0)]⟩:=AF rfl
@[simp] theorem g36:tys 36=some ⟨1,8,false, .other,[.nilFunc]⟩:=AF rfl
@[simp] theorem g38:tys 38=some ⟨1,8,false, .int .i64,[(.int .i64 0)]⟩:=AF rfl
@[simp] theorem g43:tys 43=some ⟨1,24,false, .slice 135,[(.slice none 0 0)]⟩:=AF rfl
@[simp] theorem g55:tys 55=some ⟨1,24,false, .slice 122,[(.slice none 0 0)]⟩:=AF rfl
@[simp] theorem g57:tys 57=some ⟨7,72,true, .struct [(0,55),(1,27),(3,3),(4,3),(5,3),(6,3)],[(.slice none 0 0),(.int .i64 0),(.int .i64 0),(.int .i64 0),(.int .i64 0),(.int .i64 0),(.int .i64 0)]⟩:=AF rfl
@[simp] theorem g58:tys 58=some ⟨1,24,false, .slice 76,[(.slice none 0 0)]⟩:=AF rfl
@[simp] theorem g74:tys 74=some ⟨4,32,true, .struct [(0,27),(2,27)],[(.int .i64 0),(.int .i64 0),(.int .i64 0),(.int .i64 0)]⟩:=AF rfl
@[simp] theorem g76:tys 76=some ⟨11,104,true, .struct [(0,3),(1,74),(5,27),(7,27),(9,3),(10,43)],[(.int .i64 0),(.int .i64 0),(.int .i64 0),(.int .i64 0),(.int .i64 0),(.int .i64 0),(.int .i64 0),(.int .i64 0),(.int .i64 0),(.int .i64 0),(.slice none 0 0)]⟩:=AF rfl
@[simp] theorem g82:tys 82=some ⟨4,32,true, .struct [(0,3),(1,3),(2,3),(3,3)],[(.int .i64 0),(.int .i64 0),(.int .i64 0),(.int .i64 0)]⟩:=AF rfl
@[simp] theorem g88:tys 88=some ⟨7,56,true, .struct [(0,3),(1,3),(2,3),(3,27),(5,3),(6,3)],[(.int .i64 0),(.int .i64 0),(.int .i64 0),(.int .i64 0),(.int .i64 0),(.int .i64 0),(.int .i64 0)]⟩:=AF rfl
@[simp] theorem g91:tys 91=some ⟨1,24,false, .slice 34,[(.slice none 0 0)]⟩:=AF rfl
@[simp] theorem g97:tys 97=some ⟨1,24,false, .slice 5,[(.slice none 0 0)]⟩:=AF rfl
@[simp] theorem g98:tys 98=some ⟨1,8,false, .other,[.nilFunc]⟩:=AF rfl
@[simp] theorem g99:tys 99=some ⟨1,8,false, .ptr 101,[(.pointer none)]⟩:=AF rfl
@[simp] theorem g101:tys 101=some ⟨2,32,true, .struct [(0,97),(1,3)],[(.slice none 0 0),(.int .i64 0)]⟩:=AF rfl
@[simp] theorem g105:tys 105=some ⟨1,8,false, .other,[.nilFunc]⟩:=AF rfl
@[simp] theorem g113:tys 113=some ⟨4,32,true, .struct [(0,27),(2,27)],[(.int .i64 0),(.int .i64 0),(.int .i64 0),(.int .i64 0)]⟩:=AF rfl
@[simp] theorem g119:tys 119=some ⟨1,24,false, .slice 3,[(.slice none 0 0)]⟩:=AF rfl
@[simp] theorem g122:tys 122=some ⟨2,16,true, .struct [(0,3),(1,3)],[(.int .i64 0),(.int .i64 0)]⟩:=AF rfl
@[simp] theorem g125:tys 125=some ⟨1,2,false, .int .u16,[(.int .u16 0)]⟩:=AF rfl
@[simp] theorem g126:tys 126=some ⟨1,8,false, .other,[.nilFunc]⟩:=AF rfl
@[simp] theorem g128:tys 128=some ⟨5,40,true, .struct [(0,3),(1,27),(3,27)],[(.int .i64 0),(.int .i64 0),(.int .i64 0),(.int .i64 0),(.int .i64 0)]⟩:=AF rfl
@[simp] theorem g133:tys 133=some ⟨1,8,false, .map 3 3,[(.map none)]⟩:=AF rfl
@[simp] theorem g135:tys 135=some ⟨4,32,true, .struct [(0,5),(1,3),(2,3),(3,3)],[(.int .u8 0),(.int .i64 0),(.int .i64 0),(.int .i64 0)]⟩:=AF rfl
@[simp] theorem g149:tys 149=some ⟨1,8,false, .other,[.nilFunc]⟩:=AF rfl
@[simp] theorem g162:tys 162=some ⟨1,8,false, .ptr 251,[(.pointer none)]⟩:=AF rfl
@[simp] theorem g171:tys 171=some ⟨1,8,false, .other,[.nilFunc]⟩:=AF rfl
@[simp] theorem g174:tys 174=some ⟨6,48,true, .struct [(0,3),(1,74),(5,3)],[(.int .i64 0),(.int .i64 0),(.int .i64 0),(.int .i64 0),(.int .i64 0),(.int .i64 0)]⟩:=AF rfl
@[simp] theorem g177:tys 177=some ⟨1,8,false, .other,[.nilFunc]⟩:=AF rfl
@[simp] theorem g178:tys 178=some ⟨1,24,false, .slice 30,[(.slice none 0 0)]⟩:=AF rfl
@[simp] theorem g180:tys 180=some ⟨1,8,false, .other,[.nilFunc]⟩:=AF rfl
@[simp] theorem g184:tys 184=some ⟨4,32,true, .array 2 27,[(.int .i64 0),(.int .i64 0),(.int .i64 0),(.int .i64 0)]⟩:=AF rfl
@[simp] theorem g187:tys 187=some ⟨1,8,false, .other,[.nilFunc]⟩:=AF rfl
@[simp] theorem g192:tys 192=some ⟨14,112,true, .struct [(0,88),(7,113),(11,3),(12,27)],[(.int .i64 0),(.int .i64 0),(.int .i64 0),(.int .i64 0),(.int .i64 0),(.int .i64 0),(.int .i64 0),(.int .i64 0),(.int .i64 0),(.int .i64 0),(.int .i64 0),(.int .i64 0),(.int .i64 0),(.int .i64 0)]⟩:=AF rfl
@[simp] theorem g197:tys 197=some ⟨2,16,true, .struct [(0,3),(1,3)],[(.int .i64 0),(.int .i64 0)]⟩:=AF rfl
@[simp] theorem g204:tys 204=some ⟨1,8,false, .other,[.nilFunc]⟩:=AF rfl
@[simp] theorem g207:tys 207=some ⟨1,24,false, .slice 38,[(.slice none 0 0)]⟩:=AF rfl
@[simp] theorem g222:tys 222=some ⟨1,8,false, .int .u64,[(.int .u64 0)]⟩:=AF rfl
@[simp] theorem g226:tys 226=some ⟨1,8,false, .ptr 27,[(.pointer none)]⟩:=AF rfl
@[simp] theorem g227:tys 227=some ⟨6,48,true, .array 6 226,[(.pointer none),(.pointer none),(.pointer none),(.pointer none),(.pointer none),(.pointer none)]⟩:=AF rfl
@[simp] theorem g229:tys 229=some ⟨1,8,false, .ptr 34,[(.pointer none)]⟩:=AF rfl
@[simp] theorem g238:tys 238=some ⟨1,8,false, .other,[.nilFunc]⟩:=AF rfl
@[simp] theorem g239:tys 239=some ⟨1,24,false, .slice 27,[(.slice none 0 0)]⟩:=AF rfl
@[simp] theorem g241:tys 241=some ⟨1,8,false, .other,[.nilFunc]⟩:=AF rfl
@[simp] theorem g247:tys 247=some ⟨1,8,false, .other,[.nilFunc]⟩:=AF rfl
@[simp] theorem g251:tys 251=some ⟨9,120,true, .struct [(0,25),(2,57)],[(.slice none 0 0),(.slice none 0 0),(.slice none 0 0),(.int .i64 0),(.int .i64 0),(.int .i64 0),(.int .i64 0),(.int .i64 0),(.int .i64 0)]⟩:=AF rfl
@[simp] theorem g257:tys 257=some ⟨1,24,false, .slice 259,[(.slice none 0 0)]⟩:=AF rfl
@[simp] theorem g259:tys 259=some ⟨3,24,true, .struct [(0,3),(1,27)],[(.int .i64 0),(.int .i64 0),(.int .i64 0)]⟩:=AF rfl
@[simp] theorem g264:tys 264=some ⟨1,8,false, .other,[.nilFunc]⟩:=AF rfl
@[simp] theorem g268:tys 268=some ⟨1,8,false, .other,[.nilFunc]⟩:=AF rfl
@[simp] theorem g270:tys 270=some ⟨1,24,false, .slice 197,[(.slice none 0 0)]⟩:=AF rfl
@[simp] theorem g272:tys 272=some ⟨1,8,false, .other,[.nilFunc]⟩:=AF rfl
@[simp] theorem g275:tys 275=some ⟨1,8,false, .other,[.nilFunc]⟩:=AF rfl
@[simp] theorem g277:tys 277=some ⟨1,8,true, .struct [(0,38)],[(.int .i64 0)]⟩:=AF rfl
@[simp] theorem g278:tys 278=some ⟨1,8,false, .other,[.nilFunc]⟩:=AF rfl
@[simp] theorem g280:tys 280=some ⟨1,8,false, .ptr 284,[(.pointer none)]⟩:=AF rfl
@[simp] theorem g281:tys 281=some ⟨8,64,true, .array 8 278,[.nilFunc, .nilFunc, .nilFunc, .nilFunc, .nilFunc, .nilFunc, .nilFunc, .nilFunc]⟩:=AF rfl
@[simp] theorem g284:tys 284=some ⟨10,96,true, .struct [(0,32)],[(.slice none 0 0),(.int .i64 0),(.int .i64 0),(.int .i64 0),(.int .i64 0),(.int .i64 0),(.int .i64 0),(.int .i64 0),(.int .i64 0),(.int .i64 0)]⟩:=AF rfl
@[simp] theorem g285:tys 285=some ⟨1,8,false, .other,[.nilFunc]⟩:=AF rfl
@[simp] theorem g297:tys 297=some ⟨2,16,true, .struct [(0,3),(1,98)],[(.int .i64 0), .nilFunc]⟩:=AF rfl
@[simp] theorem g299:tys 299=some ⟨1,24,false, .slice 297,[(.slice none 0 0)]⟩:=AF rfl
@[simp] theorem g309:tys 309=some ⟨1,8,false, .other,[.nilFunc]⟩:=AF rfl
@[simp] theorem g310:tys 310=some ⟨1,8,false, .ptr 88,[(.pointer none)]⟩:=AF rfl
@[simp] theorem g320:tys 320=some ⟨16,128,true, .array 8 27,[(.int .i64 0),(.int .i64 0),(.int .i64 0),(.int .i64 0),(.int .i64 0),(.int .i64 0),(.int .i64 0),(.int .i64 0),(.int .i64 0),(.int .i64 0),(.int .i64 0),(.int .i64 0),(.int .i64 0),(.int .i64 0),(.int .i64 0),(.int .i64 0)]⟩:=AF rfl
@[simp] theorem g321:tys 321=some ⟨2,16,true, .array 2 3,[(.int .i64 0),(.int .i64 0)]⟩:=AF rfl
@[simp] theorem g332:tys 332=some ⟨1,8,false, .int .i64,[(.int .i64 0)]⟩:=AF rfl
@[simp] theorem g339:tys 339=some ⟨1,4,false, .int .u32,[(.int .u32 0)]⟩:=AF rfl
@[simp] theorem g341:tys 341=some ⟨1,8,false, .int .u64,[(.int .u64 0)]⟩:=AF rfl
@[simp] theorem g348:tys 348=some ⟨1,8,false, .int .u64,[(.int .u64 0)]⟩:=AF rfl
@[simp] theorem g352:tys 352=some ⟨1,8,false, .ptr 3,[(.pointer none)]⟩:=AF rfl
@[simp] theorem g355:tys 355=some ⟨1,16,false, .ifc false,[.nilIface]⟩:=AF rfl
@[simp] theorem g356:tys 356=some ⟨1,8,false, .ptr 348,[(.pointer none)]⟩:=AF rfl
@[simp] theorem e27:eqs 27=some [.int, .int]:=AF rfl
@[simp] theorem e30:eqs 30=some [.int, .int]:=AF rfl
@[simp] theorem e74:eqs 74=some [.int, .int, .int, .int]:=AF rfl
@[simp] theorem e82:eqs 82=some [.int, .int, .int, .int]:=AF rfl
@[simp] theorem e88:eqs 88=some [.int, .int, .int, .int, .int, .int, .int]:=AF rfl
@[simp] theorem e113:eqs 113=some [.int, .int, .int, .int]:=AF rfl
@[simp] theorem e122:eqs 122=some [.int, .int]:=AF rfl
@[simp] theorem e128:eqs 128=some [.int, .int, .int, .int, .int]:=AF rfl
@[simp] theorem e135:eqs 135=some [.int, .int, .int, .int]:=AF rfl
@[simp] theorem e174:eqs 174=some [.int, .int, .int, .int, .int, .int]:=AF rfl
@[simp] theorem e192:eqs 192=some [.int, .int, .int, .int, .int, .int, .int, .int, .int, .int, .int, .int, .int, .int]:=AF rfl
@[simp] theorem e197:eqs 197=some [.int, .int]:=AF rfl
@[simp] theorem e259:eqs 259=some [.int, .int, .int]:=AF rfl
@[simp] theorem e277:eqs 277=some [.int]:=AF rfl
theorem CB {f:FuncId} {fn:Func} {p:PC} {args:List V} {r:V} {H1:List (Nat × List V)} (hf:prog.funcs[f]?= some fn) (hc:fn.body.bind (AK fn.ntmps)=some p) (h:∀ E:Ent,(∀ i,¬ E.stab i)->PW prog tys eqs E p (dL tys fn r H1) ⟨Dn 0 args,fun _=>none,0⟩) (hn:args.length<=fn.ntmps:=by exact Nat.le_of_ble_eq_true rfl) (hname:(fn.name == "runtime.NumGoroutine")=false:=by rfl) (hcl:∀ v∈args,I8 v:=by simp) (hri:LD r H1:=by simp [LD]):Ct prog f args r H1:=
 Ct.by gok eok mixed hf hc hname hn hcl hri h
theorem CM {f:FuncId} {fn:Func} {p:PC} {args:List V} {Hin:List (Nat × List V)} {ks:List Nat} {res:Res} {H1:List (Nat × List V)} (N:Nat) (hf:prog.funcs[f]?= some fn) (hc:fn.body.bind (AK fn.ntmps)=some p) (h:∀ E:Ent,(∀ i,E.stab i↔i∈ks)->E.nt=fn.ntmps/\E.rq->PW prog tys eqs E p (Mh tys fn ks res H1) ⟨Dn 0 args,lk Hin,N⟩) (hn:args.length<=fn.ntmps:=by exact Nat.le_of_ble_eq_true rfl) (hname:(fn.name == "runtime.NumGoroutine")=false:=by rfl) (hcl:∀ v∈args,A2 (· < N) AR v:=by simp) (hids:A7 N Hin:=by simp) (hks:∀ i∈ks,i<N:=by simp) (hri:LD res.v H1:=by simp [LD]):Cm prog f args (lk Hin) ks res (lk H1):=
 Cm.by gok eok mixed N hf hc hname hn hcl (A7.at hids) hks hri h
abbrev vi (n:Int):V:= .d (.lit (.int .i64 n))
abbrev vb (b:Bool):V:= .d (.lit (.bool b))
abbrev di (n:Int):D:= .lit (.int .i64 n)
abbrev vsp (a b:Int):V:= .agg [vi a,vi b]
abbrev An (l:List (Int × Int)):D:= .sl 2 (l.map fun s=>[di s.1,di s.2])
def okS (s:Int × Int):Bool:=decide (s.1<=s.2)&&decide (-1099511627776<=s.1)&&decide (s.2<=1099511627776)
def Co (l:List (Int × Int)):Bool:=l.all okS
theorem AJ5 {l:List (Int × Int)} {i:Nat} {s:Int × Int} (hs:l[i]?= some s):Co (l.take (i+1))=(Co (l.take i)&&okS s):=by
 simp [Co,List.take_add_one,hs]
theorem EF {l:List (Int × Int)} {i:Nat} {s:Int × Int} (hs:l[i]?= some s) (h:okS s=false):Co l=false:=by
 unfold Co;rw [List.all_eq_false];exact ⟨s,List.mem_of_getElem? hs,by simp [h]⟩
theorem YZ (l:List (Int × Int)) (hl:l.length<=1000000):Ct prog 175 [.d (An l)] (vb (Co l)) []:=by
 refine Ct.by gok eok mixed func175 c175 rfl ?_ ?_ ?_ fun E hE=>?_
 . simp [ntmps175]
 . simp
 . simp [LD]
 simp [p175];refine Al (α:=Nat) (fun i=>⟨AO [(5, .d (An l)),(6,vi l.length),(7,vi i)],lk [],0⟩) (fun i=>i<=l.length/\Co (l.take i)=true) (fun i=>l.length-i) 0 ?_ ?_ ?_
 . simp [Co]
 . exact WK hE (fun _=>none)
 . intro i ⟨hi,hf⟩
   simp [bI];refine Bh (fun h=>?_) (fun h=>?_)
   . simp at h
     obtain ⟨s,hs⟩:∃ s,l[i]?= some s:=⟨l[i],by simp [h]⟩
     have hz:IntKind.wrap .i64 ((i:Int)+1)=(i:Int)+1:=AD (by omega) (by omega)
     have hbad:okS s=false->AB tys f85 (vb (Co l)) [] ⟨AO [(2,vb false)],lk [],0⟩:=fun hh=>by
       refine ⟨[vb false],fun _=>none,?_⟩;simp [EF hs hh]
     by_cases h1:s.2<s.1
     . have hh:okS s=false:=by simp [okS];omega
       simp [An,hs,AA,h1];refine ⟨[vb false],fun _=>none,?_⟩;simp [results175,EF hs hh]
     . by_cases h2:s.1 < -1099511627776
       . have hh:okS s=false:=by simp [okS];omega
         simp [An,hs,AA,h1,h2];refine ⟨[vb false],fun _=>none,?_⟩;simp [results175,EF hs hh]
       . by_cases h3:1099511627776<s.2
         . have hh:okS s=false:=by simp [okS];omega
           simp [An,hs,AA,h1,h2,h3];refine ⟨[vb false],fun _=>none,?_⟩;simp [results175,EF hs hh]
         . have hh:okS s=true:=by simp [okS];omega
           simp [An,hs,AA,h1,h2,h3,hz];refine ⟨i+1,⟨by omega,?_⟩,by omega,?_⟩
           . rw [AJ5 hs,hf,hh];rfl
           . exact WK hE (fun _=>none)
   . simp at h
     have hil:i=l.length:=by omega
     subst hil;rw [List.take_length] at hf;simp;refine ⟨[vb true],fun _=>none,?_⟩;simp [results175,hf]
theorem AJc (s:Int × Int):Ct prog 105 [vsp s.1 s.2] (vi (if okS s then 0 else 10)) []:=by
 refine Ct.by gok eok mixed func105 c105 rfl ?_ ?_ ?_ fun E hE=>?_
 . simp [ntmps105]
 . simp
 . simp [LD]
 simp [p105,AM,AA];refine AU.mk _ _ _ (YZ [s] (by simp)) ?_ ?_ ?_ ?_
 . simp [Bk]
 . simp
 . right;simp
 by_cases h:okS s=true
 . simp [Co,h]
   refine ⟨[vi 0],fun _=>none,?_⟩;simp [results105]
 . simp [Co,h]
   refine ⟨[vi 10],fun _=>none,?_⟩;simp [results105]
abbrev vse (s:(Int × Int) × Int):V:= .tup [vsp s.1.1 s.1.2,vi s.2]
def JH (s:Int × Int):(Int × Int) × Int:=if s.1 < -1099511627776\/1099511627776<s.2 then ((0,0),11) else (s,0)
theorem pp (s:Int × Int):Ct prog 277 [vsp s.1 s.2] (vse (JH s)) []:=by
 refine Ct.by gok eok mixed func277 c277 rfl ?_ ?_ ?_ fun E hE=>?_
 . simp [ntmps277]
 . simp
 . simp [LD]
 by_cases h1:s.1 < -1099511627776
 . simp [p277,h1,AA]
   apply RZ;simp [results277,JH,h1]
 . by_cases h2:1099511627776<s.2
   . simp [p277,h1,h2,AA]
     apply RZ;simp [results277,JH,h1,h2]
   . simp [p277,h1,h2,AA]
     apply RZ;simp [results277,JH,h1,h2]
theorem CT {s:Int × Int}:okS s=true↔s.1<=s.2/\ -1099511627776<=s.1/\s.2<=1099511627776:=by simp [okS,and_assoc]
theorem iv (x:Int) (hx: -4611686018427387904<=x/\x<=4611686018427387904):Ct prog 306 [vi x] (.d (.lit (.int .u64 (max x (-x))))) []:=by
 refine Ct.by gok eok mixed func306 c306 rfl ?_ ?_ ?_ fun E hE=>?_
 . simp [ntmps306]
 . simp
 . simp [LD]
 have e1:IntKind.wrap .i64 (-x)= -x:=AD (by omega) (by omega);have e2:IntKind.wrap .u64 (max x (-x))=max x (-x):=Ay (by omega) (by omega);simp [p306,e1,e2];apply RZ;simp [results306]
def Xa (o s:Int × Int):Int × Int:=(min o.1 s.1,max o.2 s.2)
def Bu (s:Int × Int) (l:List (Int × Int)):Int × Int:=l.foldl Xa s
theorem Hw {s0:Int × Int} {l:List (Int × Int)} {i:Nat} {s:Int × Int} (hs:l[i]?= some s):Bu s0 (l.take (i+1))=Xa (Bu s0 (l.take i)) s:=by
 simp [Bu,List.take_add_one,hs]
theorem Wj (s0:Int × Int) (l:List (Int × Int)) (hl:l.length<=1000000):Ct prog 255 [.d (An (s0::l))] (vsp (Bu s0 l).1 (Bu s0 l).2) []:=by
 refine Ct.by gok eok mixed func255 c255 rfl ?_ ?_ ?_ fun E hE=>?_
 . simp [ntmps255]
 . simp
 . simp [LD]
 have h0:(1:Int)<=(l.length:Int)+1:=by omega
 simp [p255,AA,h0];refine Al (α:=Nat) (fun i=>⟨AO [(2, .lp 0 0),(3, .lp 1 0),(10, .d (An l)),(11,vi l.length),(12,vi i)],lk [(0,[vi 0,vi 0]),(1,[vi (Bu s0 (l.take i)).1,vi (Bu s0 (l.take i)).2])],16⟩) (fun i=>i<=l.length) (fun i=>l.length-i) 0 ?_ ?_ ?_
 . simp
 . refine AI.mk hE (fun i=>if i=0 then some 0 else some 4194304) _ _ _ ?_ ?_ ?_ ?_ ?_<;>simp [Bu]
   exact List.take_of_length_le (by simp)
 . intro i hi
   simp [bV];refine Bh (fun h=>?_) (fun h=>?_)
   . simp at h
     obtain ⟨s,hs⟩:∃ s,l[i]?= some s:=⟨l[i],by simp [h]⟩
     have hz:IntKind.wrap .i64 ((i:Int)+1)=(i:Int)+1:=AD (by omega) (by omega);simp [An,hs,AA];refine AL [(11,1)] (by kernel_rfl) ?_;simp [AA,hz,inC,Nat.testBit];refine ⟨i+1,by omega,by omega,?_⟩;refine AI.mk hE (fun i=>some i) _ _ _ ?_ ?_ ?_ ?_ ?_<;>simp [Hw hs,Xa]
   . simp at h
     have hil:i=l.length:=by omega
     subst hil;simp [AA];apply RZ;simp [results255]
end Go.Proofs.Tryz
