/- Own lemmas, used by the last text. Conditions: those that each theorem states. -/
import Derived.Deep.Slices
import Derived.Lib.SmallJoins
import Derived.OpenShut
import Derived.ProofKit
import Derived.Test.YtigekgfbcfbobaaGreatDcaa
import Derived.Test.YtigekgfbcfbobaaGreatDcad
set_option maxRecDepth 200000
set_option maxHeartbeats 8000000
namespace Go.Psl
variable {P:Program} {Γ:Tys} {eqs:Eqs} {E:Ent}
theorem AF {α:Sort _} {a b:α} (h:a=b):a=b:=h
def rr (P:Program) (Γ:Tys) (eqs:Eqs) (Kx:V->RK) (K:RK) (b:Nat) (ops:List PO) (f:Nat->V) (H:Hp):Prop:=H8 P Γ eqs Kx b ops f H K
def rg (P:Program) (Γ:Tys) (eqs:Eqs) (x:Option Bool) (Kx:V->RK) (K:RK) (b:Nat) (o:PO) (r:List PO) (f:Nat->V) (H:Hp):Prop:=match x with
 | some true=>rr P Γ eqs Kx K b (⟨o.dst,o.op,none⟩::r) f H
 | some false=>rr P Γ eqs Kx K (b+1048576) r (Am f o.dst (.tup [])) H
 | none=>False
def goE (dst:Option Nat) (K:(Nat->V)->Hp->Prop) (f:Nat->V) (H:Hp):Option (V × Eff)->Prop
 | some (v,e)=>K (Am f dst v) (H.app e)
 | none=>False
def aK (dst:Option Nat) (K:(Nat->V)->Hp->Prop) (f:Nat->V) (v:V) (H:Hp):Prop:=K (Am f dst v) H
def xK (Kx:V->RK) (n:Nat) (f:Nat->V) (v:V) (H:Hp):Prop:=Kx v f H n
def O9 (P:Program) (m:CM) (cv:V) (az:List V) (dst:Option Nat) (b:Nat) (Kx:V->RK) (K:(Nat->V)->Hp->Prop) (f:Nat->V) (Hr H:Hp):Prop:=JW P m Hr H b cv az (aK dst K f) (xK Kx (b+1048576) f)
def rQ (Q:Av->St->Prop) (f:Nat->V) (H:Hp) (n:Nat):Prop:=Q .normal ⟨f,H,n⟩
def xQ (Q:Av->St->Prop) (v:V) (f:Nat->V) (H:Hp) (n:Nat):Prop:=Q (.pan v) ⟨f,H,n⟩
section
variable {K:RK} {Kx:V->RK} {b:Nat} {r:List PO} {f:Nat->V} {H:Hp} {dst:Option Nat} {Q:Av->St->Prop}
theorem pt {n:Nat}:rQ Q f H n=Q .normal ⟨f,H,n⟩:=AF rfl
theorem jH {v:V} {n:Nat}:xQ Q v f H n=Q (.pan v) ⟨f,H,n⟩:=AF rfl
theorem lF:rr P Γ eqs Kx K b [] f H=K f H b:=AF rfl
theorem Zo {op:Op} {d:Nat} {w:Bool}:rr P Γ eqs Kx K b (⟨dst,op,some (some d,w)⟩::r) f H=rg P Γ eqs ((gV (f d)).map fun y=>y == some w) Kx K b ⟨dst,op,none⟩ r f H:=by
 simp only [rr,rg,H8,PO.run,gV2]
 all_goals
   cases (gV (f d)).map fun y=>y == some w with
   | none=>rfl
   | some x=>cases x<;>rfl
theorem fx {o:PO}:rg P Γ eqs (some true) Kx K b o r f H=rr P Γ eqs Kx K b (⟨o.dst,o.op,none⟩::r) f H:=AF rfl
theorem Zp {o:PO}:rg P Γ eqs (some false) Kx K b o r f H=rr P Γ eqs Kx K (b+1048576) r (Am f o.dst (.tup [])) H:=AF rfl
def PA:Op->Bool
 | .call c=>match c.callee with | .value _=>true | _=>false
 | .panic _=>true
 | _=>false
theorem Br {op:Op} (h:PA op=false):rr P Γ eqs Kx K b (⟨dst,op,none⟩::r) f H=goE dst (rr P Γ eqs Kx K (b+1048576) r) f H (A9 Γ eqs H b f op):=by
 show PO.run P Γ eqs ⟨dst,op,none⟩ b f H (fun f H=>H8 P Γ eqs Kx (b+1048576) r f H K) Kx=_
 simp only [PO.run,gV2,Fa];cases h1:A9 Γ eqs H b f op with
 | none=>
   cases op with
   | call c=>obtain ⟨cc,az,ts⟩:=c;cases cc<;>first | rfl | (cases h;done)
   | panic x=>cases h
   | _=>rfl
 | some p=>obtain ⟨v,e⟩:=p;rfl
theorem fy {x:Operand}:rr P Γ eqs Kx K b (⟨dst, .move x,none⟩::r) f H=rr P Γ eqs Kx K (b+1048576) r (Am f dst (evF f x)) H:=AF rfl
theorem Vn {x:Operand}:rr P Γ eqs Kx K b (⟨dst, .assign x,none⟩::r) f H=rr P Γ eqs Kx K (b+1048576) r (Am f dst (evF f x)) H:=AF rfl
theorem fz {c x y:Operand}:rr P Γ eqs Kx K b (⟨dst, .pick c x y,none⟩::r) f H=goE dst (rr P Γ eqs Kx K (b+1048576) r) f H (Jo (evF f c) (evF f x) (evF f y)):=Br rfl
theorem Zq {t:TypeId}:rr P Γ eqs Kx K b (⟨dst, .alloc t,none⟩::r) f H=goE dst (rr P Γ eqs Kx K (b+1048576) r) f H (Nx Γ b t):=Br rfl
theorem lG {t:TypeId} {x:Operand}:rr P Γ eqs Kx K b (⟨dst, .box t x,none⟩::r) f H=goE dst (rr P Γ eqs Kx K (b+1048576) r) f H (iW b (evF f x)):=Br rfl
theorem Zr {t:TypeId} {ps:List (Nat × Operand)}:rr P Γ eqs Kx K b (⟨dst, .build t ps.toArray,none⟩::r) f H=goE dst (rr P Γ eqs Kx K (b+1048576) r) f H (JU Γ t (ED f ps)):=Br rfl
theorem Lm {t:TypeId} {n:Nat} {ps:List (Nat × Operand)}:rr P Γ eqs Kx K b (⟨dst, .buildSlice t n ps.toArray,none⟩::r) f H=goE dst (rr P Γ eqs Kx K (b+1048576) r) f H (Ci Γ b t n (ED f ps)):=Br rfl
theorem lH {t:TypeId} {x y:Operand}:rr P Γ eqs Kx K b (⟨dst, .makeSlice t x y,none⟩::r) f H=goE dst (rr P Γ eqs Kx K (b+1048576) r) f H (Wi Γ b t (evF f x) (evF f y)):=Br rfl
theorem Zs {t:TypeId} {k k':IntKind} {n m:Int}:Wi Γ b t (.d (.lit (.int k n))) (.d (.lit (.int k' m)))=(Γ t).bind fun y=>match y.sh with
   | .slice e=>(Γ e).bind fun ye=>if 0 < ye.size/\0<=n/\n<=m/\m.toNat*ye.bytes<=Fh/\m<=maxL then some (.ls b 0 n.toNat ye.size, .new b (AM n.toNat (ye.zero.map cV))) else none
   | _=>none:=by
 unfold Wi;congr 1
theorem ACO {t:TypeId} {x:Operand}:rr P Γ eqs Kx K b (⟨dst, .load t x,none⟩::r) f H=goE dst (rr P Γ eqs Kx K (b+1048576) r) f H (EO Γ H t (evF f x)):=Br rfl
theorem Zt {t:TypeId} {x y:Operand}:rr P Γ eqs Kx K b (⟨dst, .store t x y,none⟩::r) f H=goE dst (rr P Γ eqs Kx K (b+1048576) r) f H (FR Γ H t (evF f x) (evF f y)):=Br rfl
theorem lI {o:BinOp} {t t':TypeId} {x y:Operand}:rr P Γ eqs Kx K b (⟨dst, .binOp o t x y t',none⟩::r) f H=goE dst (rr P Γ eqs Kx K (b+1048576) r) f H (FV Γ eqs o t (evF f x) (evF f y)):=Br rfl
theorem pu {o:UnOp} {t:TypeId} {x:Operand}:rr P Γ eqs Kx K b (⟨dst, .unOp o t x,none⟩::r) f H=goE dst (rr P Γ eqs Kx K (b+1048576) r) f H (unF o (evF f x)):=Br rfl
theorem gB {s t:TypeId} {x:Operand}:rr P Γ eqs Kx K b (⟨dst, .convert s t x,none⟩::r) f H=goE dst (rr P Γ eqs Kx K (b+1048576) r) f H (Lb Γ s t (evF f x)):=Br rfl
theorem Zu {t:TypeId} {x:Operand}:rr P Γ eqs Kx K b (⟨dst, .makeInterface t x,none⟩::r) f H=goE dst (rr P Γ eqs Kx K (b+1048576) r) f H (Sf Γ t (evF f x)):=Br rfl
theorem Vo {s t:TypeId} {x:Operand}:rr P Γ eqs Kx K b (⟨dst, .typeAssert x s t false,none⟩::r) f H=goE dst (rr P Γ eqs Kx K (b+1048576) r) f H (Wf Γ t (evF f x)):=Br rfl
theorem PB {x:Operand}:rr P Γ eqs Kx K b (⟨dst, .nilCheck x,none⟩::r) f H=goE dst (rr P Γ eqs Kx K (b+1048576) r) f H (Se (evF f x)):=Br rfl
theorem RG {i:Nat} {x:Operand}:rr P Γ eqs Kx K b (⟨dst, .extract x i,none⟩::r) f H=goE dst (rr P Γ eqs Kx K (b+1048576) r) f H (Mc (evF f x) i):=Br rfl
theorem NQ {t:TypeId} {i:Nat} {x:Operand}:rr P Γ eqs Kx K b (⟨dst, .fieldAddr t x i,none⟩::r) f H=goE dst (rr P Γ eqs Kx K (b+1048576) r) f H (Hv Γ t (evF f x) i):=Br rfl
theorem Zv {t:TypeId} {i:Nat} {x:Operand}:rr P Γ eqs Kx K b (⟨dst, .field t x i,none⟩::r) f H=goE dst (rr P Γ eqs Kx K (b+1048576) r) f H (JV Γ t (evF f x) i):=Br rfl
theorem NR {t:TypeId} {x y:Operand}:rr P Γ eqs Kx K b (⟨dst, .indexAddr t x y,none⟩::r) f H=goE dst (rr P Γ eqs Kx K (b+1048576) r) f H (DC Γ t (evF f x) (evF f y)):=Br rfl
theorem Zw {t:TypeId} {x y:Operand}:rr P Γ eqs Kx K b (⟨dst, .index t x y,none⟩::r) f H=goE dst (rr P Γ eqs Kx K (b+1048576) r) f H (FS Γ t (evF f x) (evF f y)):=Br rfl
theorem Zx {t:TypeId} {x:Operand} {lo hi:Option Operand}:rr P Γ eqs Kx K b (⟨dst, .slice t x lo hi none,none⟩::r) f H=goE dst (rr P Γ eqs Kx K (b+1048576) r) f H (CA Γ H t (evF f x) (lo.map (evF f)) (hi.map (evF f))):=Br rfl
theorem PD {g:FuncId} {cs:List Operand}:rr P Γ eqs Kx K b (⟨dst, .makeFunc (.func g) #[] cs.toArray,none⟩::r) f H=goE dst (rr P Γ eqs Kx K (b+1048576) r) f H (G8 g 0 (BX f cs)):=Br rfl
theorem lJ {t:TypeId} {x:Operand}:rr P Γ eqs Kx K b (⟨dst, .call ⟨.builtin .len,#[x],#[t]⟩,none⟩::r) f H=goE dst (rr P Γ eqs Kx K (b+1048576) r) f H (Iy Γ t (evF f x)):=Br rfl
theorem lK {xs:List Operand} {ts:Array TypeId}:rr P Γ eqs Kx K b (⟨dst, .call ⟨.builtin .max,xs.toArray,ts⟩,none⟩::r) f H=goE dst (rr P Γ eqs Kx K (b+1048576) r) f H (Wc (BX f xs)):=Br rfl
theorem lL {xs:List Operand} {ts:Array TypeId}:rr P Γ eqs Kx K b (⟨dst, .call ⟨.builtin .min,xs.toArray,ts⟩,none⟩::r) f H=goE dst (rr P Γ eqs Kx K (b+1048576) r) f H (Wd (BX f xs)):=Br rfl
theorem Zy {t:TypeId} {x:Operand}:rr P Γ eqs Kx K b (⟨dst, .call ⟨.builtin .clear,#[x],#[t]⟩,none⟩::r) f H=goE dst (rr P Γ eqs Kx K (b+1048576) r) f H (Xo Γ H t (evF f x)):=Br rfl
theorem Vp {t:TypeId} {x y:Operand}:rr P Γ eqs Kx K b (⟨dst, .call ⟨.builtin .append,#[x,y],#[t,t]⟩,none⟩::r) f H=goE dst (rr P Γ eqs Kx K (b+1048576) r) f H (Lr Γ H b t (evF f x) (evF f y)):=by
 rw [Br rfl];simp [A9]
theorem lM {t:TypeId} {x:Operand}:rr P Γ eqs Kx K b (⟨dst, .call ⟨.builtin .cap,#[x],#[t]⟩,none⟩::r) f H=goE dst (rr P Γ eqs Kx K (b+1048576) r) f H (Wg Γ t (evF f x)):=Br rfl
theorem lN {t t':TypeId} {x y:Operand} (h:(t == t')=false):rr P Γ eqs Kx K b (⟨dst, .call ⟨.builtin .append,#[x,y],#[t,t']⟩,none⟩::r) f H=goE dst (rr P Γ eqs Kx K (b+1048576) r) f H (Wh Γ b t t' (evF f x) (evF f y)):=by
 rw [Br rfl];have h2:¬ t=t':=by simpa using h
 simp [A9,h2]
theorem Zz {t:TypeId} {p:Option Addr} {n c:Nat}:Wg Γ t (.d (.lit (.slice p n c)))=(Γ t).bind fun y=>match y.sh with | .slice _=>some (cV (.int .i64 0), .none) | _=>none:=by
 unfold Wg;congr 1;funext y;cases y.sh<;>rfl
theorem Z0 {t t':TypeId} {p:Option Addr} {n c:Nat} {k:IntKind} {m:Int}:Wh Γ b t t' (.d (.lit (.slice p n c))) (.d (.lit (.int k m)))=(Γ t).bind fun y=>match y.sh with
   | .slice e=>(Γ e).bind fun ye=>(Γ t').bind fun y'=>match y'.sh with
     | .int _=>if 0 < ye.size/\0<=m/\m.toNat*ye.bytes<=Fh/\m.toNat<=maxL then some (.ls b 0 m.toNat ye.size, .new b (AM m.toNat (ye.zero.map cV))) else none
     | _=>none
   | _=>none:=by
 unfold Wh;congr 1;funext y;cases y.sh with
 | slice e=>
   simp only;congr 1;funext ye;congr 1;funext y';cases y'.sh<;>rfl
 | _=>rfl
theorem gC {fo:Operand} {xs:List Operand} {ts:Array TypeId}:rr P Γ eqs Kx K b (⟨dst, .call ⟨.value fo,xs.toArray,ts⟩,none⟩::r) f H=O9 P none (evF f fo) (BX f xs) dst b Kx (rr P Γ eqs Kx K (b+1048576) r) f H H:=AF rfl
theorem Z1 {Kp:(Nat->V)->Hp->Prop} {v:V}:goE dst Kp f H (some (v, .none))=Kp (Am f dst v) H:=AF rfl
theorem gD {Kp:(Nat->V)->Hp->Prop} {v:V} {i:Nat} {cs:List V}:goE dst Kp f H (some (v, .new i cs))=Kp (Am f dst v) (upd H i (some cs)):=AF rfl
theorem ACS {Kp:(Nat->V)->Hp->Prop} {v:V} {i:Nat} {cs:List V}:goE dst Kp f H (some (v, .put i cs))=Kp (Am f dst v) (upd H i (some cs)):=AF rfl
theorem gF {Kp:(Nat->V)->Hp->Prop} {v:V} {i j:Nat} {cs:List V}:goE dst Kp f H (some (v, .mov i j cs))=Kp (Am f dst v) (upd (upd H i none) j (some cs)):=AF rfl
theorem Z2 {m:CM} {g:FuncId} {caps:List D} {az:List V} {Hr:Hp} {Kp:(Nat->V)->Hp->Prop}:O9 P m (.d (.fn g caps)) az dst b Kx Kp f Hr H=AU P m Hr H b g (az++caps.map .d) (aK dst Kp f) (xK Kx (b+1048576) f):=AF rfl
theorem Z3 {m:CM} {g:FuncId} {caps az:List V} {Hr:Hp} {Kp:(Nat->V)->Hp->Prop}:O9 P m (.cl g caps) az dst b Kx Kp f Hr H=AU P m Hr H b g (az++caps) (aK dst Kp f) (xK Kx (b+1048576) f):=AF rfl
theorem Z4 {m:CM} {k:Nat} {az:List V} {Hr:Hp} {Kp:(Nat->V)->Hp->Prop}:O9 P m (.yl k) az dst b Kx Kp f Hr H=Fp P m Hr H b k az (aK dst Kp f) (xK Kx (b+1048576) f):=AF rfl
theorem pv {Kp:(Nat->V)->Hp->Prop} {v:V}:aK dst Kp f v H=Kp (Am f dst v) H:=AF rfl
theorem pw {v:V} {n:Nat}:xK Kx n f v H=Kx v f H n:=AF rfl
theorem RH {t:Nat} {v:V}:Am f (some t) v=upd f t v:=AF rfl
theorem RI {v:V}:Am f none v=f:=AF rfl
def dd (P:Program) (Γ:Tys) (eqs:Eqs) (ws:List (Nat × Nat)) (cl:List Nat) (n0:Nat) (Z:V->Prop) (K:(Nat->V)->Hp->Nat->Prop) (k b:Nat) (ops:List PO) (f:Nat->V) (H:Hp):Prop:=runD P Γ eqs ws cl n0 Z k b ops f H K
def dg (P:Program) (Γ:Tys) (eqs:Eqs) (ws:List (Nat × Nat)) (cl:List Nat) (n0:Nat) (Z:V->Prop) (x:Option Bool) (K:(Nat->V)->Hp->Nat->Prop) (k b:Nat) (o:PO) (r:List PO) (f:Nat->V) (H:Hp):Prop:=match x with
 | some true=>dd P Γ eqs ws cl n0 Z K k b (⟨o.dst,o.op,none⟩::r) f H
 | some false=>dd P Γ eqs ws cl n0 Z K (k+1) (b+1048576) r (Am f o.dst (.tup [])) H
 | none=>False
def goD (ws:List (Nat × Nat)) (k:Nat) (dst:Option Nat) (b:Nat) (K:(Nat->V)->Hp->Prop) (f:Nat->V) (H:Hp):Option (V × Eff)->Prop
 | some (v, .none)=>K (Am f dst v) H
 | some (v, .new i cs)=>i=b/\K (Am f dst v) (upd H b (some cs))
 | some (v, .put i cs)=>(k,i)∈ws/\K (Am f dst v) (upd H i (some cs))
 | some (v, .mov i j cs)=>((k,i)∈ws/\j=b)/\K (Am f dst v) (upd (upd H i none) b (some cs))
 | none=>False
variable {ws:List (Nat × Nat)} {cl:List Nat} {n0 k:Nat} {Z:V->Prop}
theorem lO:dd P Γ eqs ws cl n0 Z K k b [] f H=K f H b:=AF rfl
theorem Z5 {op:Op} {d:Nat} {w:Bool}:dd P Γ eqs ws cl n0 Z K k b (⟨dst,op,some (some d,w)⟩::r) f H=dg P Γ eqs ws cl n0 Z ((gV (f d)).map fun y=>y == some w) K k b ⟨dst,op,none⟩ r f H:=by
 simp only [dd,dg,runD,PO.runD,gV2]
 all_goals
   cases (gV (f d)).map fun y=>y == some w with
   | none=>rfl
   | some x=>cases x<;>rfl
theorem gG {o:PO}:dg P Γ eqs ws cl n0 Z (some true) K k b o r f H=dd P Γ eqs ws cl n0 Z K k b (⟨o.dst,o.op,none⟩::r) f H:=AF rfl
theorem Z6 {o:PO}:dg P Γ eqs ws cl n0 Z (some false) K k b o r f H=dd P Γ eqs ws cl n0 Z K (k+1) (b+1048576) r (Am f o.dst (.tup [])) H:=AF rfl
theorem CE {op:Op} (h:PA op=false):dd P Γ eqs ws cl n0 Z K k b (⟨dst,op,none⟩::r) f H=goD ws k dst b (dd P Γ eqs ws cl n0 Z K (k+1) (b+1048576) r) f H (A9 Γ eqs (Hcl ws cl k n0 H) b f op):=by
 show PO.runD P Γ eqs ws k ⟨dst,op,none⟩ b f _ H _ (fun f H=>runD P Γ eqs ws cl n0 Z (k+1) (b+1048576) r f H K)=_
 simp only [PO.runD,gV2,Fa];cases h1:A9 Γ eqs (Hcl ws cl k n0 H) b f op with
 | none=>
   cases op with
   | call c=>obtain ⟨cc,az,ts⟩:=c;cases cc<;>first | rfl | (cases h;done)
   | panic x=>cases h
   | _=>rfl
 | some p=>obtain ⟨v,e⟩:=p;cases e<;>rfl
theorem Z7 {Kp:(Nat->V)->Hp->Prop} {v:V}:goD ws k dst b Kp f H (some (v, .none))=Kp (Am f dst v) H:=AF rfl
theorem gH {Kp:(Nat->V)->Hp->Prop} {v:V} {cs:List V}:goD ws k dst b Kp f H (some (v, .new b cs))=Kp (Am f dst v) (upd H b (some cs)):=by simp [goD]
theorem gI {Kp:(Nat->V)->Hp->Prop} {v:V} {i:Nat} {cs:List V}:goD ws k dst b Kp f H (some (v, .put i cs))=((k,i)∈ws/\Kp (Am f dst v) (upd H i (some cs))):=AF rfl
theorem gJ {Kp:(Nat->V)->Hp->Prop} {v:V} {i:Nat} {cs:List V}:goD ws k dst b Kp f H (some (v, .mov i b cs))=((k,i)∈ws/\Kp (Am f dst v) (upd (upd H i none) b (some cs))):=by simp [goD]
theorem Vq {t:TypeId} {x y:Operand}:dd P Γ eqs ws cl n0 Z K k b (⟨dst, .call ⟨.builtin .append,#[x,y],#[t,t]⟩,none⟩::r) f H=goD ws k dst b (dd P Γ eqs ws cl n0 Z K (k+1) (b+1048576) r) f H (Lr Γ (Hcl ws cl k n0 H) b t (evF f x) (evF f y)):=by
 rw [CE rfl];simp [A9]
theorem Z8 {t:TypeId} {x y:Operand}:dd P Γ eqs ws cl n0 Z K k b (⟨dst, .store t x y,none⟩::r) f H=goD ws k dst b (dd P Γ eqs ws cl n0 Z K (k+1) (b+1048576) r) f H (FR Γ (Hcl ws cl k n0 H) t (evF f x) (evF f y)):=CE rfl
theorem gK {x:Operand}:dd P Γ eqs ws cl n0 Z K k b (⟨dst, .move x,none⟩::r) f H=dd P Γ eqs ws cl n0 Z K (k+1) (b+1048576) r (Am f dst (evF f x)) H:=AF rfl
theorem Vr {x:Operand}:dd P Γ eqs ws cl n0 Z K k b (⟨dst, .assign x,none⟩::r) f H=dd P Γ eqs ws cl n0 Z K (k+1) (b+1048576) r (Am f dst (evF f x)) H:=AF rfl
theorem gL {c x y:Operand}:dd P Γ eqs ws cl n0 Z K k b (⟨dst, .pick c x y,none⟩::r) f H=goD ws k dst b (dd P Γ eqs ws cl n0 Z K (k+1) (b+1048576) r) f H (Jo (evF f c) (evF f x) (evF f y)):=CE rfl
theorem Z9 {t:TypeId}:dd P Γ eqs ws cl n0 Z K k b (⟨dst, .alloc t,none⟩::r) f H=goD ws k dst b (dd P Γ eqs ws cl n0 Z K (k+1) (b+1048576) r) f H (Nx Γ b t):=CE rfl
theorem lP {t:TypeId} {x:Operand}:dd P Γ eqs ws cl n0 Z K k b (⟨dst, .box t x,none⟩::r) f H=goD ws k dst b (dd P Γ eqs ws cl n0 Z K (k+1) (b+1048576) r) f H (iW b (evF f x)):=CE rfl
theorem aA {t:TypeId} {ps:List (Nat × Operand)}:dd P Γ eqs ws cl n0 Z K k b (⟨dst, .build t ps.toArray,none⟩::r) f H=goD ws k dst b (dd P Γ eqs ws cl n0 Z K (k+1) (b+1048576) r) f H (JU Γ t (ED f ps)):=CE rfl
theorem Ln {t:TypeId} {n:Nat} {ps:List (Nat × Operand)}:dd P Γ eqs ws cl n0 Z K k b (⟨dst, .buildSlice t n ps.toArray,none⟩::r) f H=goD ws k dst b (dd P Γ eqs ws cl n0 Z K (k+1) (b+1048576) r) f H (Ci Γ b t n (ED f ps)):=CE rfl
theorem gM {t:TypeId} {x:Operand}:dd P Γ eqs ws cl n0 Z K k b (⟨dst, .load t x,none⟩::r) f H=goD ws k dst b (dd P Γ eqs ws cl n0 Z K (k+1) (b+1048576) r) f H (EO Γ (Hcl ws cl k n0 H) t (evF f x)):=CE rfl
theorem lQ {o:BinOp} {t t':TypeId} {x y:Operand}:dd P Γ eqs ws cl n0 Z K k b (⟨dst, .binOp o t x y t',none⟩::r) f H=goD ws k dst b (dd P Γ eqs ws cl n0 Z K (k+1) (b+1048576) r) f H (FV Γ eqs o t (evF f x) (evF f y)):=CE rfl
theorem py {o:UnOp} {t:TypeId} {x:Operand}:dd P Γ eqs ws cl n0 Z K k b (⟨dst, .unOp o t x,none⟩::r) f H=goD ws k dst b (dd P Γ eqs ws cl n0 Z K (k+1) (b+1048576) r) f H (unF o (evF f x)):=CE rfl
theorem gN {s t:TypeId} {x:Operand}:dd P Γ eqs ws cl n0 Z K k b (⟨dst, .convert s t x,none⟩::r) f H=goD ws k dst b (dd P Γ eqs ws cl n0 Z K (k+1) (b+1048576) r) f H (Lb Γ s t (evF f x)):=CE rfl
theorem aB {t:TypeId} {x:Operand}:dd P Γ eqs ws cl n0 Z K k b (⟨dst, .makeInterface t x,none⟩::r) f H=goD ws k dst b (dd P Γ eqs ws cl n0 Z K (k+1) (b+1048576) r) f H (Sf Γ t (evF f x)):=CE rfl
theorem PE {x:Operand}:dd P Γ eqs ws cl n0 Z K k b (⟨dst, .nilCheck x,none⟩::r) f H=goD ws k dst b (dd P Γ eqs ws cl n0 Z K (k+1) (b+1048576) r) f H (Se (evF f x)):=CE rfl
theorem RJ {i:Nat} {x:Operand}:dd P Γ eqs ws cl n0 Z K k b (⟨dst, .extract x i,none⟩::r) f H=goD ws k dst b (dd P Γ eqs ws cl n0 Z K (k+1) (b+1048576) r) f H (Mc (evF f x) i):=CE rfl
theorem NS {t:TypeId} {i:Nat} {x:Operand}:dd P Γ eqs ws cl n0 Z K k b (⟨dst, .fieldAddr t x i,none⟩::r) f H=goD ws k dst b (dd P Γ eqs ws cl n0 Z K (k+1) (b+1048576) r) f H (Hv Γ t (evF f x) i):=CE rfl
theorem aC {t:TypeId} {i:Nat} {x:Operand}:dd P Γ eqs ws cl n0 Z K k b (⟨dst, .field t x i,none⟩::r) f H=goD ws k dst b (dd P Γ eqs ws cl n0 Z K (k+1) (b+1048576) r) f H (JV Γ t (evF f x) i):=CE rfl
theorem NT {t:TypeId} {x y:Operand}:dd P Γ eqs ws cl n0 Z K k b (⟨dst, .indexAddr t x y,none⟩::r) f H=goD ws k dst b (dd P Γ eqs ws cl n0 Z K (k+1) (b+1048576) r) f H (DC Γ t (evF f x) (evF f y)):=CE rfl
theorem aD {t:TypeId} {x y:Operand}:dd P Γ eqs ws cl n0 Z K k b (⟨dst, .index t x y,none⟩::r) f H=goD ws k dst b (dd P Γ eqs ws cl n0 Z K (k+1) (b+1048576) r) f H (FS Γ t (evF f x) (evF f y)):=CE rfl
theorem aF {t:TypeId} {x:Operand} {lo hi:Option Operand}:dd P Γ eqs ws cl n0 Z K k b (⟨dst, .slice t x lo hi none,none⟩::r) f H=goD ws k dst b (dd P Γ eqs ws cl n0 Z K (k+1) (b+1048576) r) f H (CA Γ (Hcl ws cl k n0 H) t (evF f x) (lo.map (evF f)) (hi.map (evF f))):=CE rfl
theorem PF {g:FuncId} {cs:List Operand}:dd P Γ eqs ws cl n0 Z K k b (⟨dst, .makeFunc (.func g) #[] cs.toArray,none⟩::r) f H=goD ws k dst b (dd P Γ eqs ws cl n0 Z K (k+1) (b+1048576) r) f H (G8 g 0 (BX f cs)):=CE rfl
theorem I6 {t:TypeId} {x:Operand}:dd P Γ eqs ws cl n0 Z K k b (⟨dst, .call ⟨.builtin .len,#[x],#[t]⟩,none⟩::r) f H=goD ws k dst b (dd P Γ eqs ws cl n0 Z K (k+1) (b+1048576) r) f H (Iy Γ t (evF f x)):=CE rfl
theorem lR {xs:List Operand} {ts:Array TypeId}:dd P Γ eqs ws cl n0 Z K k b (⟨dst, .call ⟨.builtin .max,xs.toArray,ts⟩,none⟩::r) f H=goD ws k dst b (dd P Γ eqs ws cl n0 Z K (k+1) (b+1048576) r) f H (Wc (BX f xs)):=CE rfl
theorem lS {xs:List Operand} {ts:Array TypeId}:dd P Γ eqs ws cl n0 Z K k b (⟨dst, .call ⟨.builtin .min,xs.toArray,ts⟩,none⟩::r) f H=goD ws k dst b (dd P Γ eqs ws cl n0 Z K (k+1) (b+1048576) r) f H (Wd (BX f xs)):=CE rfl
theorem gO {fo:Operand} {xs:List Operand} {ts:Array TypeId}:dd P Γ eqs ws cl n0 Z K k b (⟨dst, .call ⟨.value fo,xs.toArray,ts⟩,none⟩::r) f H=O9 P (some (ws,k)) (evF f fo) (BX f xs) dst b (fun v _ _ _=>Z v/\Cd P Γ eqs ws cl n0 k (k+1) (b+1048576) r f H) (dd P Γ eqs ws cl n0 Z K (k+1) (b+1048576) r) f (Hcl ws cl k n0 H) H:=AF rfl
theorem lT {i:Nat}:Hcl ws cl k n0 H i=if (i < n0\/inC cl k ((i - n0) / 1048576)=true)/\br ws cl k i=true then H i else none:=AF rfl
theorem aG {i:Nat}:br [] cl k i=true:=AF rfl
theorem Vs {i j x:Nat} {r:List (Nat × Nat)}:br ((j,x)::r) cl k i=((x != i||j == k||inC cl k j||inC cl j k)&&br r cl k i):=AF rfl
theorem lV {k0:Nat}:Cd P Γ eqs ws cl n0 k0 k b [] f H=True:=AF rfl
theorem gP {k0:Nat} {o:PO} (h:inC cl k k0=true):Cd P Γ eqs ws cl n0 k0 k b (o::r) f H=Cd P Γ eqs ws cl n0 k0 (k+1) (b+1048576) r f H:=by
 simp [Cd,h]
theorem gQ {k0:Nat} {o:PO} (h:inC cl k k0=false):Cd P Γ eqs ws cl n0 k0 k b (o::r) f H=dd P Γ eqs ws cl n0 (fun _=>False) (fun f H b'=>Cd P Γ eqs ws cl n0 k0 (k+1) b' r f H) k b [o] f H:=by
 simp only [Cd,h,dd,runD,false_and];simp
def zQ (Q:Av->St->Prop) (v:V):Prop:=∀ st,Q (.pan v) st
theorem pz {Q:Av->St->Prop} {v:V}:zQ Q v=∀ st,Q (.pan v) st:=AF rfl
def bsK (P:Program) (Γ:Tys) (eqs:Eqs) (bs:List PO) (Q:Av->St->Prop) (f:Nat->V) (H:Hp) (n:Nat):Prop:=rr P Γ eqs (xQ Q) (rQ Q) n bs f H
variable {n:Nat}
theorem lW {bs:List PO}:bsK P Γ eqs bs Q f H n=rr P Γ eqs (xQ Q) (rQ Q) n bs f H:=AF rfl
theorem lX {ops:List PO}:PW P Γ eqs E (.reg ops) Q ⟨f,H,n⟩=rr P Γ eqs (xQ Q) (rQ Q) n ops f H:=AF rfl
theorem gR {cl:List Nat} {az bs:List PO}:PW P Γ eqs E (.draw cl az bs) Q ⟨f,H,n⟩=dd P Γ eqs [] cl n (zQ Q) (bsK P Γ eqs bs Q) 0 n az f H:=AF rfl
theorem AL {cl:List Nat} {az bs:List PO} (ws:List (Nat × Nat)) (hw:Pg ws cl n=true) (h:dd P Γ eqs ws cl n (zQ Q) (bsK P Γ eqs bs Q) 0 n az f H):PW P Γ eqs E (.drawW cl az bs) Q ⟨f,H,n⟩:=⟨ws,hw,h⟩
theorem PG {cl:List Nat} {az bs:List PO} (l:List (Nat × Nat)) (hw:Pg (l.map fun p=>(p.1,n+1048576*p.2)) cl n=true) (h:dd P Γ eqs (l.map fun p=>(p.1,n+1048576*p.2)) cl n (zQ Q) (bsK P Γ eqs bs Q) 0 n az f H):PW P Γ eqs E (.drawW cl az bs) Q ⟨f,H,n⟩:=⟨_,hw,h⟩
theorem lY {a b:PC}:PW P Γ eqs E (.seq a b) Q ⟨f,H,n⟩=PW P Γ eqs E a (DP (PW P Γ eqs E b Q) Q) ⟨f,H,n⟩:=AF rfl
theorem aH {id:Nat} {a:PC}:PW P Γ eqs E (.block id a) Q ⟨f,H,n⟩=PW P Γ eqs E a (Ft id Q) ⟨f,H,n⟩:=AF rfl
theorem gS {id:Nat}:PW P Γ eqs E (.exit id) Q ⟨f,H,n⟩=Q (.exit id) ⟨f,H,n⟩:=AF rfl
theorem lZ:PW P Γ eqs E .ret Q ⟨f,H,n⟩=Q .ret ⟨f,H,n⟩:=AF rfl
theorem gT:PW P Γ eqs E .skip Q ⟨f,H,n⟩=Q .normal ⟨f,H,n⟩:=AF rfl
def cR (P:Program) (Γ:Tys) (eqs:Eqs) (E:Ent) (v:V) (a b:PC) (Q:Av->St->Prop) (f:Nat->V) (H:Hp) (n:Nat):Prop:=KN v (PW P Γ eqs E a Q ⟨f,H,n⟩) (PW P Γ eqs E b Q ⟨f,H,n⟩)
theorem gU {c:Operand} {a b:PC}:PW P Γ eqs E (.cond c a b) Q ⟨f,H,n⟩=cR P Γ eqs E (evF f c) a b Q f H n:=AF rfl
theorem gW {a b:PC}:cR P Γ eqs E (.d (.lit (.bool true))) a b Q f H n=PW P Γ eqs E a Q ⟨f,H,n⟩:=by simp [cR,KN]
theorem qA {a b:PC}:cR P Γ eqs E (.d .ub) a b Q f H n=(PW P Γ eqs E a Q ⟨f,H,n⟩/\PW P Γ eqs E b Q ⟨f,H,n⟩):=by simp [cR,KN]
theorem aI {a b:PC}:cR P Γ eqs E (.d (.lit (.bool false))) a b Q f H n=PW P Γ eqs E b Q ⟨f,H,n⟩:=by simp [cR,KN]
theorem Bh {t:Bool} {a b:PC} (h1:t=true->PW P Γ eqs E a Q ⟨f,H,n⟩) (h2:t=false->PW P Γ eqs E b Q ⟨f,H,n⟩):cR P Γ eqs E (.d (.lit (.bool t))) a b Q f H n:=⟨h1,h2⟩
theorem Al {a:PC} {st:St} {α:Type} (S:α->St) (inv:α->Prop) (μ:α->Nat) (x0:α) (h0:inv x0) (hw:AI P E st (S x0))
   (round:∀ x,inv x->PW P Γ eqs E a (DP (fun st'=>∃ y,inv y/\μ y < μ x/\AI P E st' (S y)) Q) (S x)):PW P Γ eqs E (.loop a) Q st:=OH.mk S inv μ x0 h0 hw fun x hx=>PW.mono (round x hx) fun e st h=>GO (fun _ h=>h) (fun _ _ h=> .inl h) e st h
def exC (P:Program) (E:Ent) (Q:Av->St->Prop) (i:Nat) {β:Type} (C:β->St) (Pr:β->Prop) (e:Av) (st:St):Prop:=match e with
 | .exit j=>if j=i then ∃ y,Pr y/\AI P E st (C y) else Q (.exit j) st
 | e=>Q e st
theorem aJ {i j:Nat} {β:Type} {C:β->St} {Pr:β->Prop} {st:St}:exC P E Q i C Pr (.exit j) st=if j=i then ∃ y,Pr y/\AI P E st (C y) else Q (.exit j) st:=AF rfl
theorem gX {i:Nat} {β:Type} {C:β->St} {Pr:β->Prop} {st:St}:exC P E Q i C Pr .ret st=Q .ret st:=AF rfl
theorem gY {i:Nat} {β:Type} {C:β->St} {Pr:β->Prop} {st:St} {v:V}:exC P E Q i C Pr (.pan v) st=Q (.pan v) st:=AF rfl
theorem BL {a:PC} {st:St} {α β:Type} (i:Nat) (C:β->St) (Pr:β->Prop) (S:α->St) (inv:α->Prop) (μ:α->Nat) (x0:α) (h0:inv x0) (hw:AI P E st (S x0))
   (round:∀ x,inv x->PW P Γ eqs E a (DP (fun st'=>∃ y,inv y/\μ y < μ x/\AI P E st' (S y)) (exC P E Q i C Pr)) (S x)) (hC:∀ y,Pr y->Q (.exit i) (C y)):PW P Γ eqs E (.loop a) Q st:=OH.mk S inv μ x0 h0 hw fun x hx=>PW.mono (round x hx) fun e st h=>GO (fun _ h=>h) (fun e st h=>by
     cases e with
     | exit j=>
       simp only [exC] at h;split at h
       . rename_i hj
         obtain ⟨y,h1,h2⟩:=h;exact .inr ⟨C y,h2,by rw [hj];exact hC y h1,nofun⟩
       . exact .inl h
     | _=>exact .inl h) e st h
theorem PH {Kp:St->Prop} {st:St}:DP Kp Q .normal st=Kp st:=AF rfl
theorem aL {Kp:St->Prop} {st:St}:DP Kp Q .ret st=Q .ret st:=AF rfl
theorem Vt {Kp:St->Prop} {st:St} {id:Nat}:DP Kp Q (.exit id) st=Q (.exit id) st:=AF rfl
theorem PI {st:St} {id:Nat}:Ft id Q .normal st=Q .normal st:=AF rfl
theorem aM {st:St} {id:Nat}:Ft id Q .ret st=Q .ret st:=AF rfl
theorem Vu {st:St} {id j:Nat}:Ft id Q (.exit j) st=if j=id then Q .normal st else Q (.exit j) st:=AF rfl
theorem JI {fo:Operand} {ps:List Nat} {a c:PC}:PW P Γ eqs E (.rangeF fo ps a c) Q ⟨f,H,n⟩=E3 P E fo ps a c Q ⟨f,H,n⟩:=AF rfl
theorem aN {Kp:St->Prop} {st:St} {v:V}:DP Kp Q (.pan v) st=Q (.pan v) st:=AF rfl
theorem aO {st:St} {id:Nat} {v:V}:Ft id Q (.pan v) st=Q (.pan v) st:=AF rfl
theorem aP {fn:Func} {ks:List Nat} {r v:V} {H1:List (Nat × List V)} {st:St}:Mh Γ fn ks (.pan r) H1 (.pan v) st=mW ks v r H1 st:=AF rfl
theorem aQ {fn:Func} {ks:List Nat} {v:V} {H1:List (Nat × List V)} {st:St}:Mh Γ fn ks (.ret v) H1 .ret st=Dc Γ fn ks v H1 st:=AF rfl
theorem PJ {fn:Func} {ks:List Nat} {v:V} {H1:List (Nat × List V)} {st:St}:Mh Γ fn ks (.ret v) H1 .normal st=Dc Γ fn ks v H1 st:=AF rfl
end
end Go.Psl
namespace Go.Psl
variable {Γ:Tys} {eqs:Eqs} {H:Hp} {t:TypeId} {b:Nat}
theorem UP {cs:List D}:EO Γ H t (.d (.ref cs))=(Γ t).bind fun y=>if y.size<=cs.length then some (mkV y.agg ((cs.take y.size).map .d), .none) else none:=AF rfl
theorem XR {id off:Nat}:EO Γ H t (.lp id off)=(Γ t).bind fun y=>(H id).bind fun cells=>if off+y.size<=cells.length then some (mkV y.agg ((cells.drop off).take y.size), .none) else none:=AF rfl
theorem dW {cs:List V}:mkV true cs= .agg cs:=AF rfl
theorem dX {c:V} {cs:List V}:mkV false (c::cs)=c:=AF rfl
theorem UQ {id off:Nat} {v:V}:FR Γ H t (.lp id off) v=(Γ t).bind fun y=>(H id).bind fun cells=>if v.cells.length=y.size/\off+y.size<=cells.length/\v.cells.all V.isCell=true then some (.junk, .put id (AA cells off v.cells)) else none:=AF rfl
theorem UR {cs:List V}:V.cells (.agg cs)=cs:=AF rfl
theorem dY {x:D}:V.cells (.d x)=[.d x]:=AF rfl
theorem XT {i o:Nat}:V.cells (.lp i o)=[.lp i o]:=AF rfl
theorem XU {i o l z:Nat}:V.cells (.ls i o l z)=[.ls i o l z]:=AF rfl
theorem XV {f:FuncId} {c:List V}:V.cells (.cl f c)=[.cl f c]:=AF rfl
theorem XW {x:D}:V.isCell (.d x)=true:=AF rfl
theorem US {i o:Nat}:V.isCell (.lp i o)=true:=AF rfl
theorem UT {i o l z:Nat}:V.isCell (.ls i o l z)=true:=AF rfl
theorem UU {f:FuncId} {c:List V}:V.isCell (.cl f c)=true:=AF rfl
theorem XX {f:Nat->V}:ED f []=[]:=AF rfl
theorem UV {f:Nat->V} {i:Nat} {x:Operand} {r:List (Nat × Operand)}:ED f ((i,x)::r)=(i,evF f x)::ED f r:=AF rfl
theorem vt {f:Nat->V}:BX f []=[]:=AF rfl
theorem UW {f:Nat->V} {x:Operand} {r:List Operand}:BX f (x::r)=evF f x::BX f r:=AF rfl
theorem dZ {f:Nat->V} {t:Nat}:evF f (.tmp t)=f t:=AF rfl
theorem UX {f:Nat->V} {v:Value}:evF f (.const v)=evC v:=AF rfl
theorem XZ {f:Nat->V} {g:FuncId}:evF f (.func g)= .d (.fn g []):=AF rfl
theorem UY {g:FuncId} {cs:List D}:Be (.d (.fn g cs))=some (g,cs.map .d):=AF rfl
theorem UZ {g:FuncId} {cs:List V}:Be (.cl g cs)=some (g,cs):=AF rfl
theorem nX {i:Nat}:V.cells (.yl i)=[.yl i]:=AF rfl
theorem Ua {i:Nat}:V.isCell (.yl i)=true:=AF rfl
theorem QJ {cs:List D} {i:Nat}:Hv Γ t (.d (.ref cs)) i=(Γ t).bind fun y=>match y.sh with
 | .struct fs=>fs[i]?.bind fun p=>(Γ p.2).bind fun yf=>if yf.size=0 then none else some (.d (.ref (cs.drop p.1)), .none)
 | _=>none:=AF rfl
theorem Ub {id off i:Nat}:Hv Γ t (.lp id off) i=(Γ t).bind fun y=>match y.sh with
 | .struct fs=>fs[i]?.bind fun p=>(Γ p.2).bind fun yf=>if yf.size=0 then none else some (.lp id (off+p.1), .none)
 | _=>none:=AF rfl
theorem da {sz:Nat} {es:List (List D)}:Iy Γ t (.d (.sl sz es))=(Γ t).bind fun y=>match y.sh with | .slice _=>some (.d (.lit (.int .i64 es.length)), .none) | _=>none:=by
 unfold Iy;congr;funext y;cases y.sh<;>rfl
theorem Sw {i o l z:Nat}:Iy Γ t (.ls i o l z)=(Γ t).bind fun y=>match y.sh with | .slice _=>some (.d (.lit (.int .i64 l)), .none) | _=>none:=by
 unfold Iy;congr;funext y;cases y.sh<;>rfl
theorem OQ {a:Option Addr} {n c:Nat}:Iy Γ t (.d (.lit (.slice a n c)))=(Γ t).bind fun y=>match y.sh with | .slice _=>some (.d (.lit (.int .i64 0)), .none) | _=>none:=by
 unfold Iy;congr;funext y;cases y.sh<;>rfl
theorem vw {o:BinOp} {k k':IntKind} {x y:Int}:FV Γ eqs o t (.d (.lit (.int k x))) (.d (.lit (.int k' y)))=(CJ o k k' x y).map fun v=>(.d (.lit v), .none):=AF rfl
theorem Uc {o:BinOp} {x y:Bool}:FV Γ eqs o t (.d (.lit (.bool x))) (.d (.lit (.bool y)))=(Γ t).bind fun z=>match z.sh,o with
   | .bool, .eql=>some (.d (.lit (.bool (x == y))), .none)
   | .bool, .neq=>some (.d (.lit (.bool (x != y))), .none)
   | _,_=>none:=AF rfl
theorem vx {o:BinOp} {x y:List V}:FV Γ eqs o t (.agg x) (.agg y)=(eqs t).bind fun ks=>match o with
   | .eql=>(Bi ks x y).map fun r=>(.d (.lit (.bool r)), .none)
   | .neq=>(Bi ks x y).map fun r=>(.d (.lit (.bool (!r))), .none)
   | _=>none:=AF rfl
section
variable {k:IntKind} {x y:Int}
theorem vy:CJ .add k k x y=some (.int k (k.wrap (x+y))):=by simp [CJ]
theorem vz:CJ .sub k k x y=some (.int k (k.wrap (x - y))):=by simp [CJ]
theorem Xj:CJ .mul k k x y=some (.int k (k.wrap (x*y))):=by simp [CJ]
theorem ABH:CJ .quo k k x y=if y=0 then none else some (.int k (k.wrap (x.tdiv y))):=by simp [CJ]
theorem u7:CJ .rem k k x y=if y=0 then none else some (.int k (x.tmod y)):=by simp [CJ]
theorem Sx {x y:Int}:(x == y)=decide (x=y):=by by_cases h:x=y<;>simp [h]
theorem db {x y:Int}:(x != y)=!decide (x=y):=by by_cases h:x=y<;>simp [h]
theorem xa:CJ .eql k k x y=some (.bool (decide (x=y))):=by simp [CJ,Sx]
theorem Xn:CJ .neq k k x y=some (.bool (!decide (x=y))):=by simp [CJ,db]
theorem xb:CJ .lss k k x y=some (.bool (decide (x < y))):=by simp [CJ]
theorem ABW:CJ .leq k k x y=some (.bool (decide (x<=y))):=by simp [CJ]
theorem Xq:CJ .gtr k k x y=some (.bool (decide (y < x))):=by simp [CJ]
theorem Xr:CJ .geq k k x y=some (.bool (decide (y<=x))):=by simp [CJ]
end
section
variable {k k':IntKind} {x y:Int}
theorem Xs:CJ .shl k k' x y=if 0<=y/\y<=k.bits then some (.int k (k.wrap (x*2 ^ y.toNat))) else none:=AF rfl
theorem v8:CJ .shr k k' x y=if 0<=y/\y<=k.bits then some (.int k (x / 2 ^ y.toNat)) else none:=AF rfl
theorem Xu:CJ .and k k x y=some (.int k (bits .and k x y)):=by simp [CJ]
theorem dc:CJ .or k k x y=some (.int k (bits .or k x y)):=by simp [CJ]
theorem Xv:CJ .xor k k x y=some (.int k (bits .xor k x y)):=by simp [CJ]
theorem Xw:IntKind.bits .u64=64:=AF rfl
theorem Xx:IntKind.bits .i64=64:=AF rfl
end
theorem de {x:Bool}:unF .not (.d (.lit (.bool x)))=some (.d (.lit (.bool (!x))), .none):=AF rfl
theorem dh {k:IntKind} {x:Int}:unF .neg (.d (.lit (.int k x)))=some (.d (.lit (.int k (k.wrap (-x)))), .none):=AF rfl
theorem QK {c:Bool} {x y:Bool}:Jo (.d (.lit (.bool c))) (.d (.lit (.bool x))) (.d (.lit (.bool y)))=some (.d (.lit (.bool (if c then x else y))), .none):=AF rfl
theorem QL {x y:V}:Jo (.d (.lit (.bool true))) x y=some (x, .none):=by
 have:GI true x y=x:=by unfold GI;split<;>rfl
 show some (GI true x y,Eff.none)=_
 rw [this]
theorem OS {x y:V}:Jo (.d (.lit (.bool false))) x y=some (y, .none):=by
 have:GI false x y=y:=by unfold GI;split<;>rfl
 show some (GI false x y,Eff.none)=_
 rw [this]
theorem dj {x:Bool}:gV (.d (.lit (.bool x)))=some (some x):=AF rfl
theorem Xy:gV (.tup [])=some none:=AF rfl
theorem Ud {vs:List V} {i:Nat}:Mc (.tup vs) i=vs[i]?.map fun v=>(v, .none):=AF rfl
theorem dm {v:V}:iW b v=if v.cells.all V.isCell then some (.lp b 0, .new b v.cells) else none:=AF rfl
theorem Ue:Nx Γ b t=(Γ t).bind fun y=>some (.lp b 0, .new b (y.zero.map cV)):=AF rfl
theorem ABx {v:Value}:cV v= .d (.lit v):=AF rfl
theorem Xz {x y:Bool}:((some x:Option Bool) == some y)=(x == y):=AF rfl
theorem wA {y:Bool}:((none:Option Bool) == some y)=false:=AF rfl
theorem X1 {k t:Nat}:Dn k [] t= .tup []:=AF rfl
theorem Uf {k t:Nat} {a:V} {r:List V}:Dn k (a::r) t=if t=k then a else Dn (k+1) r t:=AF rfl
theorem Ug {t:Nat}:AO [] t= .junk:=AF rfl
theorem QM {k t:Nat} {a:V} {r:List (Nat × V)}:AO ((k,a)::r) t=if t=k then a else AO r t:=by
 simp only [AO,lk];split<;>rfl
theorem jo {α:Type} {t:Nat}:lk ([]:List (Nat × α)) t=none:=AF rfl
theorem dp {α:Type} {k t:Nat} {a:α} {r:List (Nat × α)}:lk ((k,a)::r) t=if t=k then some a else lk r t:=AF rfl
section
variable {ρ:Nat->Option Nat}
theorem X2 {α β:Type} {R:α->β->Prop}:AJ R [] []=True:=AF rfl
theorem Uh {α β:Type} {R:α->β->Prop} {a:α} {b:β} {az:List α} {bs:List β}:AJ R (a::az) (b::bs)=(R a b/\AJ R az bs):=AF rfl
theorem W0_d {v:V} {x:D}:W0 ρ v (.d x)=(v= .d x):=AF rfl
theorem W1_d {v:V} {x:D}:W1 ρ v (.d x)=(v= .d x):=AF rfl
theorem W2_d {v:V} {x:D}:W2 ρ v (.d x)=(v= .d x):=AF rfl
theorem WV_d {v:V} {x:D}:WV ρ v (.d x)=(v= .d x):=AF rfl
theorem dt {v:V}:W0 ρ v .junk=True:=AF rfl
theorem du {v:V}:W1 ρ v .junk=True:=AF rfl
theorem dw {v:V}:W2 ρ v .junk=True:=AF rfl
theorem dy {v:V}:WV ρ v .junk=True:=AF rfl
theorem OT {i j o o':Nat}:W0 ρ (.lp j o) (.lp i o')=(ρ i=some j/\o=o'):=by
 simp only [W0,V.lp.injEq,eq_iff_iff];constructor
 . rintro ⟨j',h1,rfl,rfl⟩;exact ⟨h1,rfl⟩
 . rintro ⟨h1,rfl⟩;exact ⟨j,h1,rfl,rfl⟩
theorem ny {i j o o':Nat}:W1 ρ (.lp j o) (.lp i o')=(ρ i=some j/\o=o'):=OT
theorem nz {i j o o':Nat}:W2 ρ (.lp j o) (.lp i o')=(ρ i=some j/\o=o'):=OT
theorem n7 {i j o o':Nat}:WV ρ (.lp j o) (.lp i o')=(ρ i=some j/\o=o'):=OT
theorem OU {i j o o' l l' z z':Nat}:W0 ρ (.ls j o l z) (.ls i o' l' z')=(ρ i=some j/\o=o'/\l=l'/\z=z'):=by
 simp only [W0,eq_iff_iff];cases ρ i with
 | none=>simp
 | some k=>simp [eq_comm]
theorem n8 {i j o o' l l' z z':Nat}:W1 ρ (.ls j o l z) (.ls i o' l' z')=(ρ i=some j/\o=o'/\l=l'/\z=z'):=OU
theorem n9 {i j o o' l l' z z':Nat}:W2 ρ (.ls j o l z) (.ls i o' l' z')=(ρ i=some j/\o=o'/\l=l'/\z=z'):=OU
theorem oA {i j o o' l l' z z':Nat}:WV ρ (.ls j o l z) (.ls i o' l' z')=(ρ i=some j/\o=o'/\l=l'/\z=z'):=OU
theorem IC {i o l z:Nat}:W0 ρ (.d (.lit (.slice none 0 0))) (.ls i o l z)=(ρ i=none/\l=0):=by
 simp only [W0,eq_iff_iff];cases ρ i with
 | none=>simp
 | some k=>simp
theorem xD {i o l z:Nat}:W1 ρ (.d (.lit (.slice none 0 0))) (.ls i o l z)=(ρ i=none/\l=0):=IC
theorem xE {i o l z:Nat}:W2 ρ (.d (.lit (.slice none 0 0))) (.ls i o l z)=(ρ i=none/\l=0):=IC
theorem eA {i o l z:Nat}:WV ρ (.d (.lit (.slice none 0 0))) (.ls i o l z)=(ρ i=none/\l=0):=IC
theorem jp {az bs:List V}:W2 ρ (.agg az) (.agg bs)=AJ (W1 ρ) az bs:=by simp [W2]
theorem jq {az bs:List V}:WV ρ (.agg az) (.agg bs)=AJ (W1 ρ) az bs:=by simp [WV,W2]
theorem jr {az bs:List V}:WV ρ (.tup az) (.tup bs)=AJ (W2 ρ) az bs:=by simp [WV]
theorem OV {f:Nat->V}:CL ρ f []=True:=AF rfl
theorem Mq {f:Nat->V} {t:Nat} {v:V} {r:List (Nat × V)}:CL ρ f ((t,v)::r)=(WV ρ (f t) v/\CL ρ f r):=AF rfl
theorem X3:Ej ρ H []=True:=AF rfl
theorem Ui {i:Nat} {cs:List V} {r:List (Nat × List V)}:Ej ρ H ((i,cs)::r)=((match ρ i with | some j=>(∃ cs',H j=some cs'/\AJ (WC ρ) cs' cs)/\Bv cs | none=>cs=[])/\Ej ρ H r):=AF rfl
theorem OW:Bv []=True:=by simp [Bv]
theorem Mr {c:V} {cs:List V} (h:V.isCell c=true):Bv (c::cs)=(cs.all V.isCell=true):=by
 simp only [Bv,List.all_cons,h,Bool.true_and,eq_iff_iff,or_iff_left_iff_imp]
 rintro ⟨fr,nt,ps,pa,pb,jmp,e⟩
 cases e;cases h
theorem WC_d {v:V} {x:D}:WC ρ v (.d x)=(v= .d x):=AF rfl
theorem oB {i j o o':Nat}:WC ρ (.lp j o) (.lp i o')=(ρ i=some j/\o=o'):=OT
theorem oC {i j o o' l l' z z':Nat}:WC ρ (.ls j o l z) (.ls i o' l' z')=(ρ i=some j/\o=o'/\l=l'/\z=z'):=OU
theorem eB {i o l z:Nat}:WC ρ (.d (.lit (.slice none 0 0))) (.ls i o l z)=(ρ i=none/\l=0):=IC
theorem Sy {f g:FuncId} {cs ds:List V}:W1 ρ (.cl f cs) (.cl g ds)=(f=g/\AJ (W0 ρ) cs ds):=by
 simp only [W1,V.cl.injEq,eq_iff_iff];constructor
 . rintro ⟨c,⟨rfl,rfl⟩,h⟩;exact ⟨rfl,h⟩
 . rintro ⟨rfl,h⟩;exact ⟨cs,⟨rfl,rfl⟩,h⟩
theorem oD {f g:FuncId} {cs ds:List V}:WC ρ (.cl f cs) (.cl g ds)=(f=g/\AJ (W0 ρ) cs ds):=Sy
theorem oE {f g:FuncId} {cs ds:List V}:W2 ρ (.cl f cs) (.cl g ds)=(f=g/\AJ (W0 ρ) cs ds):=Sy
theorem oG {f g:FuncId} {cs ds:List V}:WV ρ (.cl f cs) (.cl g ds)=(f=g/\AJ (W0 ρ) cs ds):=Sy
theorem Sz {i j:Nat}:W0 ρ (.yl j) (.yl i)=(ρ i=some j):=by
 simp only [W0,V.yl.injEq,eq_iff_iff];constructor
 . rintro ⟨k,h1,rfl⟩;exact h1
 . intro h;exact ⟨j,h,rfl⟩
theorem oH {i j:Nat}:W1 ρ (.yl j) (.yl i)=(ρ i=some j):=Sz
theorem oI {i j:Nat}:W2 ρ (.yl j) (.yl i)=(ρ i=some j):=Sz
theorem oJ {i j:Nat}:WV ρ (.yl j) (.yl i)=(ρ i=some j):=Sz
theorem oK {v:V} {fr:Nat->V} {nt:Nat} {ps:List Nat} {pa pb:PC} {jmp:LSt}:WC ρ v (.lr fr nt ps pa pb jmp)=(v= .lr fr nt ps pa pb jmp/\∀ t,AV (fun i=>ρ i=some i) AR (fr t)):=AF rfl
theorem Uj {h:Hp}:DZ ρ H h []=True:=AF rfl
theorem QN {h:Hp} {i:Nat} {r:List Nat}:DZ ρ H h (i::r)=(((h i).isSome=true->ρ i=some i/\(H i).isSome=true)/\DZ ρ H h r):=AF rfl
theorem Uk {h:Hp} {n:Nat}:HD ρ H h n []=True:=AF rfl
theorem QO {h:Hp} {i n:Nat} {r:List Nat}:HD ρ H h n (i::r)=(i < n/\((h i).isSome=true->ρ i=some i/\(H i).isSome=true)/\HD ρ H h n r):=AF rfl
theorem QP:Bd ρ []=True:=AF rfl
theorem OX {i:Nat} {cs:List V} {r:List (Nat × List V)}:Bd ρ ((i,cs)::r)=((∀ q∈r,ρ q.1=none\/ρ q.1≠ρ i\/q.1=i)/\Bd ρ r):=AF rfl
end
section
variable {p:Nat->Prop}
theorem AV_d {x:D}:AV p AR (.d x)=True:=AF rfl
theorem A2_d {x:D}:A2 p AR (.d x)=True:=AF rfl
theorem A1_d {x:D}:A1 p AR (.d x)=True:=AF rfl
theorem A0_d {x:D}:A0 p AR (.d x)=True:=AF rfl
theorem oL {i o:Nat}:AV p AR (.lp i o)=p i:=AF rfl
theorem oM {i o:Nat}:A2 p AR (.lp i o)=p i:=AF rfl
theorem oN {i o:Nat}:A1 p AR (.lp i o)=p i:=AF rfl
theorem oO {i o:Nat}:A0 p AR (.lp i o)=p i:=AF rfl
theorem oP {i o l z:Nat}:AV p AR (.ls i o l z)=p i:=AF rfl
theorem oQ {i o l z:Nat}:A2 p AR (.ls i o l z)=p i:=AF rfl
theorem oS {i o l z:Nat}:A1 p AR (.ls i o l z)=p i:=AF rfl
theorem oT {i o l z:Nat}:A0 p AR (.ls i o l z)=p i:=AF rfl
theorem js {cs:List V}:AV p AR (.agg cs)=∀ c∈cs,A1 p AR c:=AF rfl
theorem jt {cs:List V}:A2 p AR (.agg cs)=∀ c∈cs,A1 p AR c:=AF rfl
theorem ju {cs:List V}:AV p AR (.tup cs)=∀ c∈cs,A2 p AR c:=AF rfl
theorem oU {f:FuncId} {cs:List V}:AV p AR (.cl f cs)=∀ c∈cs,A0 p AR c:=AF rfl
theorem oV {f:FuncId} {cs:List V}:A2 p AR (.cl f cs)=∀ c∈cs,A0 p AR c:=AF rfl
theorem oW {f:FuncId} {cs:List V}:A1 p AR (.cl f cs)=∀ c∈cs,A0 p AR c:=AF rfl
theorem Ms {n:Nat}:Bw n []=True:=AF rfl
theorem Lf {n t:Nat} {v:V} {r:List (Nat × V)}:Bw n ((t,v)::r)=(AV (· < n) AR v/\Bw n r):=AF rfl
theorem Ul {n:Nat}:A7 n []=True:=AF rfl
theorem QQ {n i:Nat} {cs:List V} {r:List (Nat × List V)}:A7 n ((i,cs)::r)=(i < n/\(∀ c∈cs,AC (· < n) AR c)/\A7 n r):=AF rfl
theorem AC_d {x:D}:AC p AR (.d x)=True:=AF rfl
theorem oX {i o:Nat}:AC p AR (.lp i o)=p i:=AF rfl
theorem oY {i o l z:Nat}:AC p AR (.ls i o l z)=p i:=AF rfl
theorem oZ {i:Nat}:AC p AR (.yl i)=p i:=AF rfl
theorem oc {f:FuncId} {cs:List V}:AC p AR (.cl f cs)=∀ c∈cs,A0 p AR c:=AF rfl
theorem od {fr:Nat->V} {nt:Nat} {ps:List Nat} {pa pb:PC} {jmp:LSt}:AC p AR (.lr fr nt ps pa pb jmp)=∀ t,AV p AR (fr t):=AF rfl
theorem oe {i:Nat}:A0 p AR (.yl i)=p i:=AF rfl
theorem og {i:Nat}:A1 p AR (.yl i)=p i:=AF rfl
theorem oh {i:Nat}:A2 p AR (.yl i)=p i:=AF rfl
theorem oi {i:Nat}:AV p AR (.yl i)=p i:=AF rfl
theorem X4 {x:D}:I8 (.d x)=True:=AF rfl
theorem QR {cs:List V}:I8 (.agg cs)=∀ c∈cs,A1 (fun _=>False) AR c:=AF rfl
theorem jv {H1:List (Nat × List V)} {i:Nat}:InB H1 i=((lk H1 i).isSome=true):=AF rfl
end
theorem X5 {f:Nat->V}:HM Γ H f []=some []:=AF rfl
theorem X6 {f:Nat->V} {t:Nat} {r:List ResultVar}:HM Γ H f (.tmp t::r)=(HM Γ H f r).map (f t::·):=AF rfl
theorem Um {f:Nat->V} {a T:Nat} {r:List ResultVar}:HM Γ H f (.cell a T::r)=(EO Γ H T (f a)).bind fun p=>(HM Γ H f r).map (p.1::·):=AF rfl
theorem X7 {v:V}:P8 [v]=v:=AF rfl
theorem X8 {v w:V} {r:List V}:P8 (v::w::r)= .tup (v::w::r):=AF rfl
theorem eC {x:D}:V.isTup (.d x)=false:=AF rfl
theorem X9 {i o:Nat}:V.isTup (.lp i o)=false:=AF rfl
theorem YA {i o l z:Nat}:V.isTup (.ls i o l z)=false:=AF rfl
theorem Un {cs:List V}:V.isTup (.agg cs)=false:=AF rfl
theorem YB {f:FuncId} {cs:List V}:V.isTup (.cl f cs)=false:=AF rfl
theorem AD {x:Int} (h1: -9223372036854775808<=x) (h2:x<=9223372036854775807):IntKind.wrap .i64 x=x:=by
 have:∀ m:Int,m=x % 18446744073709551616->(if m>=9223372036854775808 then m - 18446744073709551616 else m)=x:=fun m hm=>by split<;>omega
 simpa [IntKind.wrap,IntKind.bits,IntKind.signed] using this _ rfl
theorem Ay {x:Int} (h1:0<=x) (h2:x<=18446744073709551615):IntKind.wrap .u64 x=x:=by
 have:x % 18446744073709551616=x:=by omega
 simpa [IntKind.wrap,IntKind.bits,IntKind.signed] using this
theorem oj {ρ:Nat->Nat} {x:D}:ren ρ (.d x)= .d x:=AF rfl
theorem jw {ρ:Nat->Nat} {i o:Nat}:ren ρ (.lp i o)= .lp (ρ i) o:=AF rfl
theorem jx {ρ:Nat->Nat} {i o l z:Nat}:ren ρ (.ls i o l z)= .ls (ρ i) o l z:=AF rfl
theorem eD {ρ:Nat->Nat} {cs:List V}:ren ρ (.agg cs)= .agg (cs.map (DS ρ)):=AF rfl
theorem eE {ρ:Nat->Nat} {cs:List V}:ren ρ (.tup cs)= .tup (cs.map (HR ρ)):=AF rfl
theorem jy {ρ:Nat->Nat} {x:D}:HR ρ (.d x)= .d x:=AF rfl
theorem eG {ρ:Nat->Nat} {i o l z:Nat}:HR ρ (.ls i o l z)= .ls (ρ i) o l z:=AF rfl
theorem eI {ρ:Nat->Nat} {i o:Nat}:HR ρ (.lp i o)= .lp (ρ i) o:=AF rfl
theorem YC {ρ:Nat->Nat} {cs:List V}:HR ρ (.agg cs)= .agg (cs.map (DS ρ)):=AF rfl
theorem jz {ρ:Nat->Nat} {x:D}:DS ρ (.d x)= .d x:=AF rfl
theorem eJ {ρ:Nat->Nat} {i o l z:Nat}:DS ρ (.ls i o l z)= .ls (ρ i) o l z:=AF rfl
theorem eK {ρ:Nat->Nat} {i o:Nat}:DS ρ (.lp i o)= .lp (ρ i) o:=AF rfl
theorem YD {base:Nat}:I1 H base []=H:=AF rfl
theorem Uo {base i:Nat} {cs:List V} {r:List (Nat × List V)}:I1 H base ((i,cs)::r)=upd (I1 H base r) (base+i) (some (cs.map (BJ (base+·)))):=AF rfl
theorem Up {n:Nat}:BW n []=True:=AF rfl
theorem QS {n i:Nat} {cs:List V} {r:List (Nat × List V)}:BW n ((i,cs)::r)=(i < n/\BW n r):=AF rfl
theorem ol {x y:D}:Bor H (.d x) (.d y)=(x=y\/(x= .lit (.slice none 0 0)/\∃ sz,y= .sl sz [])):=AF rfl
theorem j0 {x y:D}:Fi H (.d x) (.d y)=(x=y\/(x= .lit (.slice none 0 0)/\∃ sz,y= .sl sz [])):=AF rfl
theorem eM {az bs:List V}:Bor H (.agg az) (.agg bs)=AJ (Fi H) az bs:=AF rfl
theorem Bk {i o l z z':Nat} {es:List (List D)}:Bor H (.ls i o l z) (.d (.sl z' es))=(z'=z/\es.length=l/\(∀ e∈es,e.length=z)/\∃ cs,H i=some cs/\(cs.drop o).take (l*z)=es.flatten.map .d):=AF rfl
theorem CP {i o l z z':Nat} {es:List (List D)}:Fi H (.ls i o l z) (.d (.sl z' es))=(z'=z/\es.length=l/\(∀ e∈es,e.length=z)/\∃ cs,H i=some cs/\(cs.drop o).take (l*z)=es.flatten.map .d):=AF rfl
theorem j4 {i o:Nat} {ds:List D}:Bor H (.lp i o) (.d (.ref ds))=∃ cs,H i=some cs/\(cs.drop o).take ds.length=ds.map .d:=AF rfl
theorem YE {f g:FuncId} {caps:List V} {ds:List D}:Bor H (.cl f caps) (.d (.fn g ds))=(f=g/\AJ (Df H) caps (ds.map .d)):=AF rfl
theorem eN {i o:Nat} {ds:List D}:Df H (.lp i o) (.d (.ref ds))=∃ cs,H i=some cs/\(cs.drop o).take ds.length=ds.map .d:=AF rfl
theorem j5 {x y:D}:Df H (.d x) (.d y)=(x=y\/(x= .lit (.slice none 0 0)/\∃ sz,y= .sl sz [])):=AF rfl
theorem YF {i o i' o':Nat}:Bor H (.lp i o) (.lp i' o')=(i=i'/\o=o'):=AF rfl
theorem YG {i o l z i' o' l' z':Nat}:Bor H (.ls i o l z) (.ls i' o' l' z')=(i=i'/\o=o'/\l=l'/\z=z'):=AF rfl
theorem j6 {i i':Nat}:Bor H (.yl i) (.yl i')=(i=i'):=AF rfl
theorem j7 {f g:FuncId} {cs ds:List V}:Bor H (.cl f cs) (.cl g ds)=(f=g/\cs=ds):=AF rfl
theorem j8 {i:Nat}:noH i=none:=AF rfl
theorem j9 {ρ:Nat->Nat} {x:D}:BJ ρ (.d x)= .d x:=AF rfl
theorem eO {ρ:Nat->Nat} {i o l z:Nat}:BJ ρ (.ls i o l z)= .ls (ρ i) o l z:=AF rfl
theorem eP {ρ:Nat->Nat} {i o:Nat}:BJ ρ (.lp i o)= .lp (ρ i) o:=AF rfl
theorem eQ {ρ:Nat->Nat} {f:FuncId} {cs:List V}:BJ ρ (.cl f cs)= .cl f (cs.map (DR ρ)):=AF rfl
theorem kA {ρ:Nat->Nat} {x:D}:DR ρ (.d x)= .d x:=AF rfl
theorem eR {ρ:Nat->Nat} {i o l z:Nat}:DR ρ (.ls i o l z)= .ls (ρ i) o l z:=AF rfl
theorem eU {ρ:Nat->Nat} {i o:Nat}:DR ρ (.lp i o)= .lp (ρ i) o:=AF rfl
theorem kB {ρ:Nat->Nat} {f:FuncId} {cs:List V}:ren ρ (.cl f cs)= .cl f (cs.map (DR ρ)):=AF rfl
theorem om {ks:List Nat} {b j:Nat}:sg ks b j=if j∈ks then j else b+j:=AF rfl
theorem Uq:Fr H []=True:=AF rfl
theorem QT {p:Nat × List V} {r:List (Nat × List V)}:Fr H (p::r)=(H p.1=some p.2/\Fr H r):=AF rfl
theorem YH:E0 H []=H:=AF rfl
theorem Ur {p:Nat × List V} {r:List (Nat × List V)}:E0 H (p::r)=upd (E0 H r) p.1 none:=AF rfl
theorem YI {ks:List Nat} {b:Nat}:I2 H ks b []=H:=AF rfl
theorem Us {ks:List Nat} {b:Nat} {p:Nat × List V} {r:List (Nat × List V)}:I2 H ks b (p::r)=upd (I2 H ks b r) (sg ks b p.1) (some (p.2.map (BJ (sg ks b)))):=AF rfl
theorem YJ {b:Nat} {L L1:List (Nat × List V)}:Jq b L L1 []=True:=AF rfl
theorem Ut {b i:Nat} {L L1:List (Nat × List V)} {r:List Nat}:Jq b L L1 (i::r)=(i < b/\(lk L1 i).isSome=true/\(∃ cs,lk L i=some cs/\cs≠[])/\Jq b L L1 r):=AF rfl
theorem QU {r:V} {ρ:Nat->Nat} {Ho:Hp} {Kc Kx:V->Hp->Prop}:ES (.ret r) ρ Ho Kc Kx=Kc (ren ρ r) Ho:=AF rfl
theorem QV {r:V} {ρ:Nat->Nat} {Ho:Hp} {Kc Kx:V->Hp->Prop}:ES (.pan r) ρ Ho Kc Kx=Kx (ren ρ r) Ho:=AF rfl
theorem YK {b:Nat}:(∀ i,InH (lk ([]:List (Nat × List V))) i->i < b)=True:=by simp [InH,lk]
theorem Uu {b:Nat} {p:Nat × List V} {r:List (Nat × List V)}:(∀ i,InH (lk (p::r)) i->i < b)=(p.1 < b/\∀ i,InH (lk r) i->i < b):=by
 simp only [InH,lk,eq_iff_iff];constructor
 . intro h
   refine ⟨h p.1 (by simp),fun i hi=>h i ?_⟩;split
   . rfl
   . exact hi
 . rintro ⟨h1,h2⟩ i hi
   split at hi
   . rename_i e;rw [e];exact h1
   . exact h2 i hi
theorem Uv {ps:List (Nat × V)}:JU Γ t ps=(Γ t).bind fun y=>match y.sh with
 | .struct fs=>if fs.all (fun p=>(Γ p.2).isSome) then (Cc (fieldsOf Γ fs) (y.zero.map cV) ps).map fun cs=>(.agg cs, .none) else none
 | .array _ e=>(Γ e).bind fun ye=>(Cc (fun i=>some (i*ye.size,ye.size)) (y.zero.map cV) ps).map fun cs=>(.agg cs, .none)
 | _=>none:=AF rfl
theorem KX {n:Nat} {ps:List (Nat × V)}:Ci Γ b t n ps=(Γ t).bind fun y=>match y.sh with
 | .slice e=>(Γ e).bind fun ye=>if n*ye.size<=16777216/\0 < ye.size then (Cc (fun i=>some (i*ye.size,ye.size)) (AM n (ye.zero.map cV)) ps).map fun cs=>(.ls b 0 n ye.size, .new b cs) else none
 | _=>none:=AF rfl
theorem Uw {fs:Nat->Option (Nat × Nat)} {cells:List V}:Cc fs cells []=some cells:=AF rfl
theorem QW {fs:Nat->Option (Nat × Nat)} {cells:List V} {i:Nat} {v:V} {r:List (Nat × V)}:Cc fs cells ((i,v)::r)=match fs i with
   | none=>none
   | some (off,size)=>if v.cells.length=size/\off+size<=cells.length/\v.cells.all V.isCell=true then Cc fs (AA cells off v.cells) r else none:=AF rfl
theorem OY {fs:List (Nat × TypeId)} {i:Nat}:fieldsOf Γ fs i=fs[i]?.bind fun p=>(Γ p.2).map fun y=>(p.1,y.size):=AF rfl
theorem Ux {sz:Nat} {es:List (List D)} {k:IntKind} {n:Int}:DC Γ t (.d (.sl sz es)) (.d (.lit (.int k n)))=(Γ t).bind fun y=>match y.sh with
 | .slice e=>(Γ e).bind fun ye=>if 0<=n/\ye.size=sz then es[n.toNat]?.map fun c=>(.d (.ref c), .none) else none
 | _=>none:=by
 unfold DC;congr;funext y;cases y.sh<;>first | rfl | (simp;done) | (rename_i n e;cases Γ e<;>rfl)
theorem Uy {i o l z:Nat} {k:IntKind} {n:Int}:DC Γ t (.ls i o l z) (.d (.lit (.int k n)))=(Γ t).bind fun y=>match y.sh with
 | .slice e=>(Γ e).bind fun ye=>if 0<=n/\n < l/\ye.size=z then some (.lp i (o+n.toNat*z), .none) else none
 | _=>none:=by
 unfold DC;congr;funext y;cases y.sh<;>first | rfl | (simp;done) | (rename_i n e;cases Γ e<;>rfl)
theorem Uz {sz:Nat} {es:List (List D)} {lo hi:Option V}:CA Γ H t (.d (.sl sz es)) lo hi=(Γ t).bind fun y=>match y.sh with
 | .slice e=>(Γ e).bind fun ye=>if ye.size=sz then (FT es.length lo hi).map fun p=>(.d (.sl sz ((es.take p.2).drop p.1)), .none) else none
 | _=>none:=by
 unfold CA;congr;funext y;cases y.sh<;>first | rfl | (simp;done) | (rename_i n e;cases Γ e<;>rfl)
theorem U0 {i o l z:Nat} {lo hi:Option V}:CA Γ H t (.ls i o l z) lo hi=(Γ t).bind fun y=>match y.sh with
 | .slice e=>(Γ e).bind fun ye=>if ye.size=z then (FT l lo hi).map fun p=>(.ls i (o+p.1*z) (p.2 - p.1) z, .none) else none
 | _=>none:=by
 unfold CA;congr;funext y;cases y.sh<;>first | rfl | (simp;done) | (rename_i n e;cases Γ e<;>rfl)
theorem QX {s:ByteArray} {k:IntKind} {n:Int}:FS Γ t (.d (.lit (.string s))) (.d (.lit (.int k n)))=(Γ t).bind fun y=>match y.sh with
 | .str=>if 0<=n then s[n.toNat]?.map fun b=>(.d (.lit (.int .u8 b.toNat)), .none) else none
 | _=>none:=by
 unfold FS;congr;funext y;cases y.sh<;>first | rfl | (simp;done)
theorem QY {cs:List V} {k:IntKind} {n:Int}:FS Γ t (.agg cs) (.d (.lit (.int k n)))=(Γ t).bind fun y=>match y.sh with
 | .array m e=>(Γ e).bind fun ye=>if 0<=n/\n < m/\n.toNat*ye.size+ye.size<=cs.length then some (mkV ye.agg ((cs.drop (n.toNat*ye.size)).take ye.size), .none) else none
 | _=>none:=by
 unfold FS;congr;funext y;cases y.sh<;>first | rfl | (simp;done)
theorem vD {i o:Nat} {k:IntKind} {n:Int}:DC Γ t (.lp i o) (.d (.lit (.int k n)))=(Γ t).bind fun y=>match y.sh with
 | .array m e=>(Γ e).bind fun ye=>if 0<=n/\n < m then some (.lp i (o+n.toNat*ye.size), .none) else none
 | _=>none:=by
 unfold DC;congr;funext y;cases y.sh<;>first | rfl | (simp;done) | (rename_i e;cases Γ e<;>rfl)
theorem QZ {cs:List D} {k:IntKind} {n:Int}:DC Γ t (.d (.ref cs)) (.d (.lit (.int k n)))=(Γ t).bind fun y=>match y.sh with
 | .array m e=>(Γ e).bind fun ye=>if 0<=n/\n < m then some (.d (.ref (cs.drop (n.toNat*ye.size))), .none) else none
 | _=>none:=by
 unfold DC;congr;funext y;cases y.sh<;>first | rfl | (simp;done) | (rename_i e;cases Γ e<;>rfl)
theorem vE {i o:Nat} {lo hi:Option V}:CA Γ H t (.lp i o) lo hi=(Γ t).bind fun y=>match y.sh with
 | .array m e=>(Γ e).bind fun ye=>(H i).bind fun cs=>if o+m*ye.size<=cs.length/\m<=maxL then (FT m lo hi).map fun p=>(.ls i (o+p.1*ye.size) (p.2 - p.1) ye.size, .none) else none
 | _=>none:=by
 unfold CA;congr;funext y;cases y.sh<;>first | rfl | (simp;done) | (rename_i e;cases Γ e<;>rfl)
theorem Qe {a:Option Addr} {n c:Nat} {lo hi:Option V}:CA Γ H t (.d (.lit (.slice a n c))) lo hi=(Γ t).bind fun y=>match y.sh with
 | .slice e=>(Γ e).bind fun _=>(FT 0 lo hi).map fun _=>(.d (.lit (.slice none 0 0)), .none)
 | _=>none:=by
 unfold CA;congr;funext y;cases y.sh<;>first | rfl | (simp;done) | (rename_i n e;cases Γ e<;>rfl)
theorem tw {s:ByteArray} {lo hi:Option V}:CA Γ H t (.d (.lit (.string s))) lo hi=(Γ t).bind fun y=>match y.sh with
 | .str=>(FT s.size lo hi).map fun p=>(.d (.lit (.string (s.extract p.1 p.2))), .none)
 | _=>none:=by
 unfold CA;congr;funext y;cases y.sh<;>first | rfl | (simp;done) | (rename_i e;cases Γ e<;>rfl) | (rename_i n e;cases Γ e<;>rfl)
theorem YL {s:ByteArray}:Iy Γ t (.d (.lit (.string s)))=(Γ t).bind fun y=>match y.sh with | .str=>some (.d (.lit (.int .i64 s.size)), .none) | _=>none:=by
 unfold Iy;congr;funext y;cases y.sh<;>rfl
theorem YM {o:BinOp} {a b:ByteArray}:FV Γ eqs o t (.d (.lit (.string a))) (.d (.lit (.string b)))=match o with
   | .eql=>some (.d (.lit (.bool (a == b))), .none)
   | .neq=>some (.d (.lit (.bool (a != b))), .none)
   | _=>none:=AF rfl
theorem OZ {o:BinOp} {i of l z:Nat}:FV Γ eqs o t (.ls i of l z) (.d (.lit (.slice none 0 0)))=(Γ t).bind fun y=>match y.sh,o with
   | .slice _, .eql=>if 0 < l then some (.d (.lit (.bool false)), .none) else none
   | .slice _, .neq=>if 0 < l then some (.d (.lit (.bool true)), .none) else none
   | _,_=>none:=by
 unfold FV;simp only [show Ex (.d (.lit (.slice none 0 0)))=true from rfl,if_true];congr;funext y;split<;>simp_all [P3,Nv,cV]<;>(by_cases h:0 < l<;>simp [h])
theorem Oa {o:BinOp} {z:Nat} {e:List D} {es:List (List D)}:FV Γ eqs o t (.d (.sl z (e::es))) (.d (.lit (.slice none 0 0)))=(Γ t).bind fun y=>match y.sh,o with
   | .slice _, .eql=>some (.d (.lit (.bool false)), .none)
   | .slice _, .neq=>some (.d (.lit (.bool true)), .none)
   | _,_=>none:=by
 unfold FV;simp only [show Ex (.d (.lit (.slice none 0 0)))=true from rfl,if_true]
 first | rfl | (congr;funext y;split<;>simp_all [P3,Nv,cV])
theorem Qh {o:BinOp} {z:Nat}:FV Γ eqs o t (.d (.sl z [])) (.d (.lit (.slice none 0 0)))=(Γ t).bind fun y=>match y.sh,o with
   | .slice _, .eql=>some (.d .ub, .none)
   | .slice _, .neq=>some (.d .ub, .none)
   | _,_=>none:=by
 unfold FV;simp only [show Ex (.d (.lit (.slice none 0 0)))=true from rfl,if_true]
 first | rfl | (congr;funext y;split<;>simp_all [P3,Nv,cV])
theorem Mt {o:BinOp}:FV Γ eqs o t (.d (.lit (.slice none 0 0))) (.d (.lit (.slice none 0 0)))=(Γ t).bind fun y=>match y.sh,o with
   | .slice _, .eql=>some (.d (.lit (.bool true)), .none)
   | .slice _, .neq=>some (.d (.lit (.bool false)), .none)
   | _,_=>none:=by
 unfold FV;simp only [show Ex (.d (.lit (.slice none 0 0)))=true from rfl,if_true]
 first | rfl | (congr;funext y;split<;>simp_all [P3,Nv,cV])
theorem vF {i o l z:Nat}:Xo Γ H t (.ls i o l z)=(Γ t).bind fun y=>match y.sh with
 | .slice e=>(Γ e).bind fun ye=>if l=0 then some (.tup [], .none) else if z=ye.size/\0 < z then (H i).bind fun cs=>if o+l*z<=cs.length then some (.tup [], .put i (AA cs o (AM l (ye.zero.map cV)))) else none else none
 | _=>none:=by
 unfold Xo;congr
theorem eV:maxL=9223372036854775807:=AF rfl
theorem eW:Fh=140737488355328:=AF rfl
theorem Qj {k:IntKind} {a b:Int}:FU .int (.d (.lit (.int k a))) (.d (.lit (.int k b)))=some (decide (a=b)):=by simp [FU,Sx]
theorem Ob {a b:Bool}:FU .bool (.d (.lit (.bool a))) (.d (.lit (.bool b)))=some (a == b):=AF rfl
theorem Qk {a b:ByteArray}:FU .str (.d (.lit (.string a))) (.d (.lit (.string b)))=some (a == b):=AF rfl
theorem Oc:Bi [] [] []=some true:=AF rfl
theorem Mu {k:CK} {ks:List CK} {a b:V} {az bs:List V}:Bi (k::ks) (a::az) (b::bs)=(FU k a b).bind fun r=>(Bi ks az bs).map fun s=>r&&s:=AF rfl
theorem Ql {cs:List V} {i:Nat}:JV Γ t (.agg cs) i=(Γ t).bind fun y=>match y.sh with
 | .struct fs=>fs[i]?.bind fun p=>(Γ p.2).bind fun yf=>if p.1+yf.size<=cs.length then some (mkV yf.agg ((cs.drop p.1).take yf.size), .none) else none
 | _=>none:=AF rfl
theorem VA {s:TypeId} {k:IntKind} {n:Int}:Lb Γ s t (.d (.lit (.int k n)))=(Γ s).bind fun _=>(Γ t).bind fun y=>match y.sh with
 | .int k'=>some (.d (.lit (.int k' (k'.wrap n))), .none)
 | _=>none:=by
 unfold Lb;congr;funext _;congr;funext y;cases y.sh<;>rfl
theorem YN {k:IntKind} {x:Int} {r:List V}:Wc (.d (.lit (.int k x))::r)=(Lq k x r).map fun m=>(.d (.lit (.int k m)), .none):=AF rfl
theorem YO {k:IntKind} {x:Int} {r:List V}:Wd (.d (.lit (.int k x))::r)=(Ku k x r).map fun m=>(.d (.lit (.int k m)), .none):=AF rfl
theorem YP {k:IntKind} {m:Int}:Lq k m []=some m:=AF rfl
theorem YQ {k:IntKind} {m:Int}:Ku k m []=some m:=AF rfl
theorem VB {k:IntKind} {m x:Int} {r:List V}:Lq k m (.d (.lit (.int k x))::r)=Lq k (max m x) r:=by simp [Lq]
theorem VC {k:IntKind} {m x:Int} {r:List V}:Ku k m (.d (.lit (.int k x))::r)=Ku k (min m x) r:=by simp [Ku]
theorem YR {t:TypeId} {cs:List V}:Sf Γ t (.agg cs)=(Γ t).bind fun y=>match y.sh with | .ifc _=>none | .other=>none | _=>(Ff cs).map fun ds=>(.d (.ifc t true ds), .none):=AF rfl
theorem kC {t:TypeId} {x:D}:Sf Γ t (.d x)=(Γ t).bind fun y=>match y.sh with | .ifc _=>none | .other=>none | _=>some (.d (.ifc t false [x]), .none):=AF rfl
theorem VD:Ff []=some []:=AF rfl
theorem eX {x:D} {r:List V}:Ff (.d x::r)=(Ff r).map (x::·):=AF rfl
theorem VE {cs:List D}:We cs true=some (.agg (cs.map .d)):=AF rfl
theorem Qm {c:D}:We [c] false=some (.d c):=AF rfl
theorem YS {t t':TypeId} {ag:Bool} {cs:List D}:Wf Γ t (.d (.ifc t' ag cs))=(Γ t).bind fun y=>match y.sh with | .ifc _=>none | .other=>none | _=>if t'=t then (We cs ag).map fun v=>(v, .none) else none:=AF rfl
theorem Mv {op:BinOp} {t t':TypeId} {ag:Bool} {cs:List D}:FV Γ eqs op t (.d (.ifc t' ag cs)) (.d (.lit .nilIface))=(Γ t).bind fun y=>match y.sh,op with | .ifc _, .eql=>some (.d (.lit (.bool false)), .none) | .ifc _, .neq=>some (.d (.lit (.bool true)), .none) | _,_=>none:=AF rfl
theorem VF {op:BinOp} {t:TypeId}:FV Γ eqs op t (.d (.lit .nilIface)) (.d (.lit .nilIface))=(Γ t).bind fun y=>match y.sh,op with | .ifc true, .eql=>some (.d (.lit (.bool true)), .none) | .ifc true, .neq=>some (.d (.lit (.bool false)), .none) | _,_=>none:=AF rfl
theorem eY {id off:Nat}:Se (.lp id off)=some (.lp id off, .none):=AF rfl
theorem YT {cs:List D}:Se (.d (.ref cs))=some (.d (.ref cs), .none):=AF rfl
theorem Qn {g:FuncId} {n:Nat} {caps:List V}:G8 g n caps=if n=0/\caps.all V.cap=true then some (.cl g caps, .none) else none:=AF rfl
theorem oo {x:D}:V.cap (.d x)=true:=AF rfl
theorem kD {i o:Nat}:V.cap (.lp i o)=true:=AF rfl
theorem kE {i o l z:Nat}:V.cap (.ls i o l z)=true:=AF rfl
theorem eZ {n:Nat} {lo hi:Option V}:FT n lo hi=(Sc n hi).bind fun h=>(Sd h lo).bind fun l=>some (l,h):=AF rfl
theorem VG {n:Nat}:Sc n none=some n:=AF rfl
theorem YU {n:Nat} {k:IntKind} {h:Int}:Sc n (some (.d (.lit (.int k h))))=if 0<=h/\h<=n then some h.toNat else none:=AF rfl
theorem VH {n:Nat}:Sd n none=some 0:=AF rfl
theorem YV {n:Nat} {k:IntKind} {h:Int}:Sd n (some (.d (.lit (.int k h))))=if 0<=h/\h<=n then some h.toNat else none:=AF rfl
section
variable {p:Nat->Prop} {v:Value}
theorem kF:AV p B9 (.d (.lit v))=True:=by simp [AV,A2,A1,A0,B9]
theorem kG:A2 p B9 (.d (.lit v))=True:=by simp [A2,A1,A0,B9]
theorem kH:A1 p B9 (.d (.lit v))=True:=by simp [A1,A0,B9]
theorem kI {i o l z:Nat}:AV p B9 (.ls i o l z)=p i:=AF rfl
theorem kJ {i o l z:Nat}:A2 p B9 (.ls i o l z)=p i:=AF rfl
theorem kK {i o l z:Nat}:A1 p B9 (.ls i o l z)=p i:=AF rfl
theorem xF {cs:List V}:AV p B9 (.agg cs)=∀ c∈cs,A1 p B9 c:=AF rfl
theorem ep {cs:List V}:A2 p B9 (.agg cs)=∀ c∈cs,A1 p B9 c:=AF rfl
theorem et {cs:List V}:AV p B9 (.tup cs)=∀ c∈cs,A2 p B9 c:=AF rfl
theorem eu:AC p B9 (.d (.lit v))=True:=by simp [AC,A1,A0,B9]
theorem kL {i o l z:Nat}:AC p B9 (.ls i o l z)=p i:=AF rfl
theorem kM {i o:Nat}:AC p B9 (.lp i o)=p i:=AF rfl
def Em (p:Nat->Prop):List (Nat × List V)->Prop
 | []=>True
 | x::r=>(∀ c∈x.2,AC p B9 c)/\Em p r
theorem VI:Em p []=True:=AF rfl
theorem Qo {x:Nat × List V} {r:List (Nat × List V)}:Em p (x::r)=((∀ c∈x.2,AC p B9 c)/\Em p r):=AF rfl
theorem Od:∀ {L:List (Nat × List V)},Em p L->∀ i cs,lk L i=some cs->∀ c∈cs,AC p B9 c
 | [],_,i,cs,h=>by simp [lk] at h
 | x::r,hf,i,cs,h=>by
   simp only [lk] at h;split at h
   . cases h;exact hf.1
   . exact Od hf.2 i cs h
theorem E6 {r:Res} {L:List (Nat × List V)} (h1:AV (InH (lk L)) B9 r.v) (h2:Em (InH (lk L)) L):GS r (lk L):=⟨h1,Od h2⟩
theorem kN {h:Hp} {i:Nat}:InH h i=((h i).isSome=true):=AF rfl
theorem YW {r:V}:Res.v (.ret r)=r:=AF rfl
theorem YX {r:V}:Res.v (.pan r)=r:=AF rfl
end
section
variable {P:Program}
theorem AU.mk {m:CM} {Hr H:Hp} {b:Nat} {g:FuncId} {az:List V} {Kc Kx:V->Hp->Prop} (args:List V) (r:V) (H1:List (Nat × List V)) (hf:Ct P g args r H1) (hb:AJ (Bor Hr) az args) (hi:BW 1048576 H1) (hc:AJ (Bor noH) az args\/(AV (InH (lk H1)) B9 r/\Em (InH (lk H1)) H1)) (hk:Kc (ren (b+·) r) (I1 H b H1)):AU P m Hr H b g az Kc Kx:=
 AU.mk0 args r H1 hf hb hi (hc.imp id fun h=>E6 h.1 h.2) hk
theorem AU.mkM {H:Hp} {b:Nat} {g:FuncId} {az:List V} {Kc Kx:V->Hp->Prop} (args:List V) (L:List (Nat × List V)) (ks:List Nat) (res:Res) (L1:List (Nat × List V)) (hf:Cm P g args (lk L) ks res (lk L1)) (hin:Fr H L) (hi:BW 1048576 L1) (hks:Jq b L L1 ks) (hL:∀ i,InH (lk L) i->i < b)
   (hb:AJ (Bor noH) az args\/(AJ (Bor (E0 H L)) az args/\AV (InH (lk L1)) B9 res.v/\Em (InH (lk L1)) L1)) (hk:ES res (sg ks b) (I2 (E0 H L) ks b L1) Kc Kx):AU P none H H b g az Kc Kx:=
 AU.mkM0 args L ks res L1 hf hin hi hks hL (hb.imp id fun h=>⟨h.1,E6 h.2.1 h.2.2⟩) hk
end
def oq (ρ:Nat->Option Nat) (ks:List Nat) (r:V) (H:Hp) (H1:List (Nat × List V)):Option (List V)->Prop
 | some vs=>vs.all (fun v=>!v.isTup)=true/\WV ρ (P8 vs) r/\Ej ρ H H1/\Bd ρ H1/\DZ ρ H (lk H1) ks
 | none=>False
theorem VJ {ρ:Nat->Option Nat} {ks:List Nat} {r:V} {H1:List (Nat × List V)} {vs:List V}:oq ρ ks r H H1 (some vs)=(vs.all (fun v=>!v.isTup)=true/\WV ρ (P8 vs) r/\Ej ρ H H1/\Bd ρ H1/\DZ ρ H (lk H1) ks):=AF rfl
theorem AB.by (ρ:Nat->Option Nat) {fn:Func} {ks:List Nat} {r:V} {H1:List (Nat × List V)} {st:St} (h:oq ρ ks r st.H H1 (HM Γ st.H st.fr fn.results.toList)):Dc Γ fn ks r H1 st:=by
 cases hr:HM Γ st.H st.fr fn.results.toList with
 | none=>rw [hr] at h;exact h.elim
 | some vs=>rw [hr] at h;exact ⟨vs,ρ,hr,h⟩
attribute [simp] pt lF Zo fx Zp fy Vn fz Zq lG Zr Lm ACO Zt lI pu gB RG NQ Zv NR Zw Zx PD lJ PB Zu Vo lK lL Vp Zy lM lN Zz Z0 lH Zs gC
 Z1 gD ACS gF Z2 Z3 Z4 pv jH pw RH RI
 lV gP gQ pz lO Z5 gG Z6 gK Vr gL Z9 lP aA Ln gM lQ py gN RJ NS aC NT aD aF PF I6 PE aB lR lS gO Z7 gH gI gJ Vq Z8 aG Vs lT
 lW lX gR lY aH gS lZ gT gU gW aI qA PH aL Vt PI aM Vu aQ PJ aP aN aO JI aJ gX gY
 UP XR dW dX UQ UR dY XT XU XV XW US UT UU XX UV vt UW dZ UX XZ UY UZ AY QJ Ub da Sw OQ
 vw Uc vx vy vz Xj ABH u7 xa Xn xb ABW Xq Xr Xs v8 Xu dc Xv Xw Xx de dh QK QL OS dj Xy Ud dm Ue ABx Xz wA
 kF kG kH kI kJ kK xF ep et eu kL kM VI Qo kN YW YX
 VJ
 Qj Ob Qk Oc Mu QX QY vD QZ vE Qe tw YL OZ Oa Qh Mt vF YM eV eW Ux Uy Uz U0 Ql VA YN YO YP YQ VB VC eY YT YR kC VD eX VE Qm YS Mv VF Qn oo kD kE eZ VG YU VH YV
 X1 Uf Ug QM jo dp X2 Uh W0_d W1_d W2_d WV_d dt du dw dy OT ny nz n7 OU n8 n9 oA IC xD xE eA jp jq jr OV Mq X3 Ui QP OX
 AV_d A2_d A1_d A0_d oL oM oN oO oP oQ oS oT js jt ju oU oV oW Ms Lf Ul QQ X4 QR jv
 X5 X6 Um X7 X8 eC X9 YA Un YB WC_d oB oC eB Sy oD oE oG Sz oH oI oJ oK Uj QN Uk QO AC_d oX oY oZ oc od oe og oh oi OW Mr nX Ua oj jw jx eD eE jy eG eI YC jz eJ eK YD Uo Up QS ol j0 eM j4 YF YG j6 j7 YE eN j5 j8 j9 eO eP eQ kA eR eU kB om Uq QT YH Ur YI Us YJ Ut QU QV YK Uu
 Uv KX Uw QW OY
 iV cz Sb dA dB dC dD dE
section
variable {P:Program} {m:CM} {Hr H:Hp} {b:Nat} {g:FuncId} {az:List V} {Kc Kx:V->Hp->Prop} {args:List V} {r:V} {H1:List (Nat × List V)}
theorem CLa (hf:Ct P g args r H1) (hk:Kc (ren (b+·) r) (I1 H b H1)) (hb:AJ (Bor Hr) az args:=by first | (simp;done) | simp [Bk,CP]) (hi:BW 1048576 H1:=by simp) (hc:AJ (Bor noH) az args\/(AV (InH (lk H1)) B9 r/\Em (InH (lk H1)) H1):=by first | (left;simp;done) | (right;simp;done)):AU P m Hr H b g az Kc Kx:=
 AU.mk args r H1 hf hb hi hc hk
theorem CLb (hf:Ct P g args r H1) (hb:AJ (Bor Hr) az args) (hk:Kc (ren (b+·) r) (I1 H b H1)) (hi:BW 1048576 H1:=by simp) (hc:AJ (Bor noH) az args\/(AV (InH (lk H1)) B9 r/\Em (InH (lk H1)) H1):=by first | (left;simp;done) | (right;simp;done)):AU P m Hr H b g az Kc Kx:=
 AU.mk args r H1 hf hb hi hc hk
theorem CLr (hf:Ct P g args r H1) (hb:AJ (Bor Hr) az args/\BW 1048576 H1) (hc:AJ (Bor noH) az args\/(AV (InH (lk H1)) B9 r/\Em (InH (lk H1)) H1)) (hk:Kc (ren (b+·) r) (I1 H b H1)):AU P m Hr H b g az Kc Kx:=
 AU.mk args r H1 hf hb.1 hb.2 hc hk
end
section
variable {P:Program} {m:CM} {Hr H:Hp} {b:Nat} {g:FuncId} {az:List V} {Kc Kx:V→Hp→Prop} {args:List V} {r:V} {H1:List (Nat × List V)} {E:Ent}
theorem CLt (hf:Ct P g args r H1) (hb:(AJ (Bor Hr) az args∧BW 1048576 H1)∧(AJ (Bor noH) az args∨(AV (InH (lk H1)) B9 r∧Em (InH (lk H1)) H1))) (hk:Kc (ren (b+·) r) (I1 H b H1)):AU P m Hr H b g az Kc Kx:=
 AU.mk args r H1 hf hb.1.1 hb.1.2 hb.2 hk
theorem RZ {Γ:Tys} {fn:Func} {ks:List Nat} {st:St} (h:oq (fun _=>none) ks r st.H H1 (HM Γ st.H st.fr fn.results.toList)):Dc Γ fn ks r H1 st:=AB.by _ h
theorem WK {st:St} (hs:∀ i,¬ E.stab i) (ρ:Nat→Option Nat) {l:List (Nat × V)} {h:List (Nat × List V)} {n:Nat} (h1:CL ρ st.fr l:=by simp) (h2:Ej ρ st.H h:=by simp) (h3:Bd ρ h:=by simp) (h4:Bw n l:=by simp) (h5:A7 n h:=by simp):AI P E st ⟨AO l,lk h,n⟩:=AI.mk hs ρ l h n h1 h2 h3 h4 h5
theorem WKM {st:St} {ks:List Nat} (hs:∀ i,E.stab i↔i∈ks) (ρ:Nat→Option Nat) {l:List (Nat × V)} {h:List (Nat × List V)} {n:Nat} (h1:CL ρ st.fr l:=by simp) (h2:Ej ρ st.H h:=by simp) (h3:Bd ρ h:=by simp) (h4:Bw n l:=by simp) (h5:A7 n h:=by simp) (h6:HD ρ st.H (lk h) n ks:=by simp):AI P E st ⟨AO l,lk h,n⟩:=AI.mkM hs ρ l h n h1 h2 h3 h4 h5 h6
theorem wz {i:Nat} (h:i < 9223372036854775807):IntKind.wrap .i64 ((i:Int)+1)=((i+1:Nat):Int):=by
 rw [AD (by omega) (by omega)];omega
theorem gE {α:Type} {l:List α} {i:Nat} (h:i < l.length):∃ x,l[i]?= some x:=⟨_,List.getElem?_eq_getElem h⟩
end
end Go.Psl
namespace Go.Psl
theorem Bl (x:Int):IntKind.wrap .u64 x=x % 18446744073709551616:=by simp [IntKind.wrap,IntKind.bits,IntKind.signed]
theorem Oz {x:Int} (h0:0<=x) (h1:x < 18446744073709551616):(BitVec.ofInt 64 x).toNat=x.toNat:=by
 rw [BitVec.toNat_ofInt];have:x % ((2 ^ 64:Nat):Int)=x:=Int.emod_eq_of_lt h0 (by simpa using h1);rw [this]
theorem FD {x:Int} (h0:0<=x) (h1:x < 18446744073709551616):(BitVec.ofInt IntKind.u64.bits x).toNat=x.toNat:=Oz h0 h1
theorem GA {x:Int} (h0:0<=x) (h1:x < 18446744073709551616):bits .and .u64 x 4294967295=x % 4294967296:=by
 show IntKind.wrap .u64 _=_
 simp only [BitVec.toNat_and,FD h0 h1];have e:(BitVec.ofInt IntKind.u64.bits 4294967295).toNat=2 ^ 32 - 1:=by decide
 rw [e,Nat.and_two_pow_sub_one_eq_mod,Bl];omega
theorem kl {a b:Int} (s:Nat) (ha:0<=a) (hb:0<=b) (hb2:b < 2 ^ s) (h:a*2 ^ s+b < 18446744073709551616):bits .or .u64 (a*2 ^ s) b=a*2 ^ s+b:=by
 have hp:(0:Int)<=a*2 ^ s:=Int.mul_nonneg ha (Int.pow_nonneg (by decide))
 show IntKind.wrap .u64 _=_
 simp only [BitVec.toNat_or,FD hp (by omega),FD hb (by omega)];obtain ⟨a',rfl⟩:=Int.eq_ofNat_of_zero_le ha;obtain ⟨b',rfl⟩:=Int.eq_ofNat_of_zero_le hb;have hlt:b' < 2 ^ s:=by exact_mod_cast hb2
 have e:((a':Int)*2 ^ s).toNat=2 ^ s*a':=by
   rw [show ((a':Int)*2 ^ s)=((2 ^ s*a':Nat):Int) by push_cast;rw [Int.mul_comm]];rfl
 rw [e,Int.toNat_natCast,<-Nat.two_pow_add_eq_or_of_lt hlt,Bl];have e2:((a':Int)*2 ^ s)=((2 ^ s*a':Nat):Int):=by push_cast;rw [Int.mul_comm]
 rw [e2] at h ⊢;omega
theorem Q8 {u v q r y1 y0:Int} (_hy1:2147483648<=y1) (_hy1':y1 < 4294967296) (_hy0:0<=y0) (_hy0':y0 < 4294967296) (hu0:0<=u) (hu:u < y1*4294967296+y0) (hv0:0<=v) (hv:v < 4294967296) (hq:(u*4294967296+v) / (y1*4294967296+y0)<=q) (hr:q*y1+r=u) (hc:4294967296<=q\/4294967296*r+v < q*y0):
   (u*4294967296+v) / (y1*4294967296+y0)<=q - 1:=by
 have hD:0 < y1*4294967296+y0:=by omega
 have hlt:(u*4294967296+v) / (y1*4294967296+y0) < q:=by
   rcases hc with hc | hc
   . have h1:(u*4294967296+v) / (y1*4294967296+y0) < 4294967296:=by
       rw [Int.ediv_lt_iff_lt_mul hD];omega
     omega
   . rw [Int.ediv_lt_iff_lt_mul hD]
     have:q*(y1*4294967296+y0)=(q*y1)*4294967296+q*y0:=by
       rw [Int.mul_add,Int.mul_assoc]
     omega
 omega
theorem Q9 {u v q r y1 y0:Int} (hy1:2147483648<=y1) (_hy0:0<=y0) (_hy0':y0 < 4294967296) (hq:(u*4294967296+v) / (y1*4294967296+y0)<=q) (hr:q*y1+r=u) (hc:q*y0<=4294967296*r+v):
   q=(u*4294967296+v) / (y1*4294967296+y0):=by
 have hD:0 < y1*4294967296+y0:=by omega
 refine Int.le_antisymm ?_ hq;rw [Int.le_ediv_iff_mul_le hD]
 have:q*(y1*4294967296+y0)=(q*y1)*4294967296+q*y0:=by
   rw [Int.mul_add,Int.mul_assoc]
 omega
theorem O0 {u v q r y1 y0:Int} (hy1:2147483648<=y1) (hy0:0<=y0) (hy0':y0 < 4294967296) (hq0:0<=q) (hu:u < y1*4294967296+y0) (hv0:0<=v) (hr:q*y1+r=u) (hc:4294967296<=r):q*y0<=4294967296*r+v:=by
 have h1:q*y1 < 4294967296*y1:=by omega
 have h2:q < 4294967296:=Int.lt_of_mul_lt_mul_right h1 (by omega);have h3:q*y0<=4294967296*y0:=Int.mul_le_mul_of_nonneg_right (by omega) hy0;omega
open Go.ChangeShapes Go.WideShapes Go.ChangeAt Go.RowKit
variable {P:Program} {H:Type} {enc:TypeId × Value->H}
def J7 (P:Program) (ts:List TypeId):Bool:=ts.all fun t=>P.readableRec t&&decide (t < P.types.size)
theorem Ik (hl:laidOutB P=true) {W W':World} (hb:Below W.heap.size W W') {sp:Nat->Bool}:∀ {ts:List TypeId} {vs:List Value} {ds:List (DataW H)} {ps:List MemPlace},J7 P ts=true->
   DataW.TrodAll enc P W 0 (fun _=>true) true ts vs ds ps->(∀ p∈ps,p.block < W.heap.size)->(∀ p∈ps,sp p.block=true)->DataW.TrodAll enc P W' 0 sp true ts vs ds ps
 | [],[],[],ps,_,h,_,_=>h
 | t::ts,v::vs,d::ds,ps,hr,h,h1,h2=>by
   obtain ⟨p,q,h3,h4,rfl⟩:=h;simp only [J7,List.all_cons,Bool.and_eq_true,decide_eq_true_eq] at hr
   exact ⟨p,q,WideElems.Trod_stays hl hr.1.1 hr.1.2 h3 (fun x hx=>hb.same (h1 x (by simp [hx]))) (fun x hx=>h2 x (by simp [hx])),
     Ik hl hb (by simpa [J7] using hr.2) h4 (fun x hx=>h1 x (by simp [hx])) (fun x hx=>h2 x (by simp [hx])),rfl⟩
 | [],_::_,_,_,_,h,_,_=>h.elim
 | [],[],_::_,_,_,h,_,_=>h.elim
 | _::_,[],_,_,_,h,_,_=>h.elim
 | _::_,_::_,[],_,_,h,_,_=>h.elim
def Te (P:Program) (f:FuncId) (args:Array Value) (W:World):Prop:=Calls P f args W fun e W'=>e= .returned (.bool true)/\Below W.heap.size W W'
theorem Te.of_ct {f:FuncId} {az:List V} {xs:Array Value} {W:World} {G:Gh} (h:Ct P f az (.d (.lit (.bool true))) []) (hG:∀ b,G.Im b->b < W.heap.size) (ha:AJ (R2 G W) az xs.toList):Te P f xs W:=by
 refine Calls.mono (h.2 G W xs hG ha ⟨fun _ _ h=>by simp at h,fun _ _ h=>by simp [InH] at h,fun _ h=>by simp at h⟩) fun e W' ⟨G',hp⟩=>?_
 have hv:=hp.rv;have hb:Below W.heap.size W W':=⟨hp.os,hp.tape,hp.output,hp.size,fun b hb=>hp.block b hb fun ⟨_,h,_⟩=>by simp [InH] at h⟩
 cases e with
 | returned v=>
   have hv:v= .bool true:=BO hv;subst hv;exact ⟨rfl,hb⟩
 | _=>exact hv.elim
theorem ak (hl:laidOutB P=true) {f:Func} {s:ChangeSpec} {apart fresh handsOn again:Bool} {W W':World} {args:Array Value} {ds:List (DataW H)} {before:List MemPlace} {tb:TypeId}
   (hvars:s.vars=[]) (hW:DataW.Whole enc P f.params.toList s.vars apart W args.toList ds [] before) (hr:J7 P f.params.toList=true) (hres:f.resultTypes= #[tb]) (htb:P.underlying tb=some .bool)
   (hfn:s.fn H (ds++[])={results:=[.lit (.bool true)],args:=ds}) (hb:Below W.heap.size W W'):s.post enc P f apart fresh handsOn again W args (.bool true) W':=by
 have hlt:=hW.lt;have hW':=hW;obtain ⟨p,q,hA,hV,rfl,hz,hn⟩:=hW'
 have hq:q=[]:=by
   rw [hvars] at hV;exact (trodVars_none hV).2
 subst hq;rw [List.append_nil] at hlt hz hn hW
 have hargs:∀ sp:Nat->Bool,(∀ x∈p,sp x.block=true)->DataW.TrodAll enc P W' 0 sp true f.params.toList args.toList (s.fn H (ds++[])).args p:=fun sp hsp=>by
   rw [hfn];exact Ik hl hb hr hA hlt hsp
 have hress:∀ (b:Nat) (sp:Nat->Bool) (hd:Bool),DataW.TrodAll enc P W' b sp hd f.resultTypes.toList ((Value.bool true).resultList f.resultTypes.size) (s.fn H (ds++[])).results []:=fun _ _ _=>by
   rw [hfn,hres];exact trodAll_mk1 (shut_bool htb true)
 have hvs:∀ sp:Nat->Bool,DataW.TrodVars enc P W' sp s.vars (s.fn H (ds++[])).vars []:=fun _=>by
   rw [hfn,hvars];rfl
 have hold:∀ x∈p,(fun b=>decide (b < W.heap.size)) x.block=true:=fun x hx=>by simpa using hlt x hx
 refine ⟨ds,[],p,[],p,[],hW,hress _ _ _,hargs _ hold,hvs _,hb.frame _,fun _=>?_⟩;refine ⟨ok_one hres rfl (okWide_bool_mk htb true),DataW.lit (Lit.bool true)::ds,(s.fn H (ds++[])).vars,p,⟨p,[],?_,hvs _,by simp,fun b off hp=>?_,fun ha=>hn ha⟩,fun x hx _=>hx⟩
 . rw [hres]
   have:=hargs (fun _=>true) (fun _ _=>rfl);rw [hfn] at this;exact ⟨[],p,shut_bool htb true,this,rfl⟩
 . rw [hb.frozen (p:=⟨b,off,none⟩) (hlt _ hp)]
   exact hz b off hp
end Go.Psl
namespace Go.Psl
open Go.ChangeShapes Go.WideShapes
section
variable {P:Program} {W:World}
abbrev InW (W:World) (b:Nat):Prop:=b < W.heap.size
def ShL (S:TypeId->List D->Prop):List TypeId->List D->Prop
 | [],ds=>ds=[]
 | t::ts,ds=>∃ a b,ds=a++b/\S t a/\ShL S ts b
def Sh' (P:Program):Nat->TypeId->List D->Prop
 | 0,_,_=>False
 | n+1,t,ds=>match P.underlying t with
   | some .bool=>∃ b,ds=[.lit (.bool b)]
   | some (.int k)=>∃ i,ds=[.lit (.int k i)]/\(Lit.int k i).wf=true
   | some .string=>∃ s:ByteArray,ds=[.lit (.string s)]/\s.size<=maxLen
   | some (.slice e)=>∃ es,ds=[.sl (P.cellsOf e) es]/\es.length<=maxL/\∀ x∈es,Sh' P n e x
   | some (.struct fs)=>ShL (Sh' P n) (fs.toList.map (·.type)) ds
   | some (.array k e)=>ShL (Sh' P n) (List.replicate k e) ds
   | _=>False
def HP (P:Program):Nat->List Field->Option Nat
 | o,[]=>some o
 | o,f::fs=>if f.offset=o then HP P (o+P.cellsOf f.type) fs else none
def E5 (P:Program):Nat->TypeId->Bool
 | 0,_=>false
 | n+1,t=>match P.underlying t with
   | some .bool=>true
   | some (.int _)=>true
   | some .string=>true
   | some (.slice e)=>decide (0 < P.cellsOf e)&&E5 P n e
   | some (.struct fs)=>(HP P 0 fs.toList == some (P.cellsOf t))&&fs.toList.all fun f=>E5 P n f.type
   | some (.array k e)=>decide (k*P.cellsOf e=P.cellsOf t)&&E5 P n e
   | _=>false
theorem Sv {H:Type} {_enc:TypeId × Value->H} {base:Nat} {a:Addr} {n:Nat} {cs:List Value} (hn:0 < n) (h:W.cells? base a n=some cs):InW W a.block/\cs.length=n/\∀ j,j < n->W.cell? (a.add j)=cs[j]?:= by
 obtain ⟨_,h2,h3⟩:=World.cells?_some h;refine ⟨?_,h2,h3⟩;have h4:=h3 0 hn;rw [List.getElem?_eq_getElem (by omega)] at h4;have hbl:(a.add 0).block=a.block:=by unfold Addr.add;split<;>rfl
 unfold World.cell? at h4;rw [hbl] at h4;unfold InW;refine Nat.not_le.1 fun hle=>?_
 rw [Array.getElem?_eq_none hle] at h4;cases h4
theorem Fu {α β:Type} {R:α->β->Prop}:∀ {az as':List α} {bs bs':List β},AJ R az bs->AJ R as' bs'->AJ R (az++as') (bs++bs')
 | [],_,[],_,_,h=>h
 | _::_,_,_::_,_,h,h'=>⟨h.1,Fu h.2 h'⟩
theorem Jb {S:TypeId->List D->Prop} {T:TypeId->List Value->Prop} {cs:List Value} (hrec:∀ t cs',T t cs'->∃ ds,S t ds/\AJ (RD (InW W) W) ds cs'):
   ∀ (fs:List Field) (o m:Nat),HP P o fs=some m->m=cs.length->(∀ f∈fs,T f.type ((cs.drop f.offset).take (P.cellsOf f.type)))->o<=m->∃ ds,ShL S (fs.map (·.type)) ds/\AJ (RD (InW W) W) ds (cs.drop o)
 | [],o,m,hc,hm,_,_=>by
   simp only [HP,Option.some.injEq] at hc;subst hc;exact ⟨[],rfl,by rw [hm,List.drop_length];trivial⟩
 | f::fs,o,m,hc,hm,hT,ho=>by
   unfold HP at hc;split at hc
   . rename_i hof
     have hle:o+P.cellsOf f.type<=m:=by
       clear hT ho hm
       generalize o+P.cellsOf f.type=q at hc
       clear hof;induction fs generalizing q with
       | nil=>simp only [HP,Option.some.injEq] at hc;omega
       | cons g gs ih=>
         unfold HP at hc;split at hc
         . have:=ih _ hc;omega
         . cases hc
     obtain ⟨ds,h1,h2⟩:=Jb hrec fs _ m hc hm (fun g hg=>hT g (by simp [hg])) hle;have hf:=hT f (by simp);rw [hof] at hf;obtain ⟨d0,h3,h4⟩:=hrec _ _ hf;refine ⟨d0++ds,⟨d0,ds,rfl,h3,h1⟩,?_⟩
     have e:cs.drop o=(cs.drop o).take (P.cellsOf f.type)++cs.drop (o+P.cellsOf f.type):=by
       rw [<-List.drop_drop,List.take_append_drop]
     rw [e];exact Fu h4 h2
   . cases hc
theorem KU {S:TypeId->List D->Prop} {T:TypeId->List Value->Prop} {e:TypeId} {cs:List Value} (hrec:∀ t cs',T t cs'->∃ ds,S t ds/\AJ (RD (InW W) W) ds cs') (z:Nat):
   ∀ (k o:Nat),o+k*z=cs.length->(∀ i,i < k->T e ((cs.drop (o+i*z)).take z))->∃ ds,ShL S (List.replicate k e) ds/\AJ (RD (InW W) W) ds (cs.drop o)
 | 0,o,h,_=>⟨[],rfl,by rw [show o=cs.length by omega,List.drop_length];trivial⟩
 | k+1,o,h,hT=>by
   have hk:(k+1)*z=k*z+z:=Nat.succ_mul _ _
   obtain ⟨ds,h1,h2⟩:=KU (cs:=cs) (e:=e) hrec z k (o+z) (by omega) (fun i hi=>by
     have:=hT (i+1) (by omega);rw [Nat.succ_mul] at this;rw [show o+z+i*z=o+(i*z+z) by omega];exact this)
   have hf:=hT 0 (by omega);rw [Nat.zero_mul,Nat.add_zero] at hf;obtain ⟨d0,h3,h4⟩:=hrec _ _ hf;refine ⟨d0++ds,⟨d0,ds,rfl,h3,h1⟩,?_⟩;have e:cs.drop o=(cs.drop o).take z++cs.drop (o+z):=by rw [<-List.drop_drop,List.take_append_drop]
   rw [e];exact Fu h4 h2
theorem HQ {H:Type} {enc:TypeId × Value->H} {base:Nat} {sp:Nat->Bool} {held:Bool}:∀ (n:Nat) (t:TypeId),E5 P n t=true->∀ (m:Nat) (cs:List Value) (x:DataW H × List MemPlace),DataW.trod enc P W base sp held m t cs=some x->∃ ds,Sh' P n t ds/\AJ (RD (InW W) W) ds cs
 | 0,_,h=>by cases h
 | n+1,t,h=>fun m cs x hx=>by
   have ih:=HQ (enc:=enc) (base:=base) (sp:=sp) (held:=held) n;unfold E5 at h;unfold Sh';split at h
   . rename_i hu
     obtain ⟨b,rfl,_⟩:=DataW.trod_bool hu hx;exact ⟨_,⟨b,rfl⟩, .lit _ rfl,trivial⟩
   . rename_i k hu
     obtain ⟨i,rfl,_,hw⟩:=DataW.trod_int hu hx;exact ⟨_,⟨i,rfl,hw⟩, .lit _ rfl,trivial⟩
   . rename_i hu
     obtain ⟨s,rfl,_,hw⟩:=DataW.trod_string hu hx;exact ⟨_,⟨s,rfl,hw⟩, .lit _ rfl,trivial⟩
   . rename_i e hu
     simp only [Bool.and_eq_true,decide_eq_true_eq] at h;rcases Go.Deep.open_slice hu hx with ⟨rfl,_⟩ | ⟨a,len,cap,q,m',D0,Pl,rfl,_,hl,hm,hq,_,hel⟩
     . exact ⟨_,⟨[],rfl,by simp,by simp⟩,RD.sl _ [] none 0 (fun _ _=>undef) (by simp) (by simp) (by simp) (by simp) (by simp),trivial⟩
     . have hlq:len<=q:=by rw [hq];split<;>omega
       obtain ⟨F,hF⟩:=Go.Deep.choose_lt (α:=List D × List Value) (n:=len) (p:=fun i y=>W.cells? base (a.add (i*P.cellsOf e)) (P.cellsOf e)=some y.2/\Sh' P n e y.1/\AJ (RD (InW W) W) y.1 y.2) (fun i hi=>by
         obtain ⟨cs',h1,h2⟩:=hel i (by omega);obtain ⟨ds,h3,h4⟩:=ih e h.2 _ _ _ h2;exact ⟨(ds,cs'),h1,h3,h4⟩)
       have hlen:∀ i,i < len->(F i).1.length=P.cellsOf e:=fun i hi=>by
         obtain ⟨h1,_,h3⟩:=hF i hi;rw [h3.length,(Sv (_enc:=enc) h.1 h1).2.1]
       refine ⟨_,⟨(List.range len).map fun i=>(F i).1,rfl,?_,?_⟩,?_,trivial⟩
       . simp;unfold maxLen at hm;omega
       . intro y hy
         simp only [List.mem_map,List.mem_range] at hy;obtain ⟨i,hi,rfl⟩:=hy;exact (hF i hi).2.1
       . have key:=RD.sl (Im:=InW W) (W:=W) (P.cellsOf e) ((List.range len).map fun i=>(F i).1) (some a) cap (fun i j=>((F i).2)[j]?.getD undef) ?_ ?_ ?_ ?_ ?_
         . simpa using key
         . intro y hy
           simp only [List.mem_map,List.mem_range] at hy;obtain ⟨i,hi,rfl⟩:=hy;exact hlen i hi
         . simp;unfold maxLen at hm;omega
         . simpa using hl
         . intro i y hy
           have hi:i < len:=by
             have:=(List.getElem?_eq_some_iff.1 hy).1;simpa using this
           have hy':(F i).1=y:=by simpa [hi] using hy
           obtain ⟨h1,_,h3⟩:=hF i hi;obtain ⟨c1,c2,c3⟩:=Sv (_enc:=enc) h.1 h1;have hbl:(a.add (i*P.cellsOf e)).block=a.block:=by unfold Addr.add;split<;>rfl
           refine ⟨a,rfl,by rw [hbl] at c1;exact c1,fun j z hz=>?_⟩
           have hj:j < P.cellsOf e:=by
             have:=(List.getElem?_eq_some_iff.1 hz).1;rw [<-hy',hlen i hi] at this;exact this
           rw [<-Go.Deep.add_add,c3 j hj,List.getElem?_eq_getElem (by omega)];simp
         . intro i y hy j z hz
           have hi:i < len:=by
             have:=(List.getElem?_eq_some_iff.1 hy).1;simpa using this
           have hy':(F i).1=y:=by simpa [hi] using hy
           obtain ⟨h1,_,h3⟩:=hF i hi;subst hy';obtain ⟨u,hu2,hr⟩:=h3.get hz;rw [hu2];exact hr
   . rename_i fs hu
     simp only [Bool.and_eq_true,beq_iff_eq,List.all_eq_true] at h;obtain ⟨xs,m',_,_,hcl,hxl,hel⟩:=DataW.trod_struct hu hx
     have:=Jb (P:=P) (W:=W) (S:=Sh' P n) (T:=fun t cs'=>E5 P n t=true/\∃ m x,DataW.trod enc P W base sp held m t cs'=some x) (cs:=cs) (fun t cs' ⟨h1,m,x,h2⟩=>ih t h1 m cs' x h2) fs.toList 0 _ h.1 hcl.symm (fun f hf=>by
       refine ⟨h.2 f hf,m',?_⟩;obtain ⟨i,hi,rfl⟩:=List.mem_iff_getElem.1 hf;have h1:=hel i fs[i] (by simp at hi ⊢);have h2:i < xs.length:=by simp at hi;omega
       rw [List.getElem?_eq_getElem h2] at h1;exact ⟨_,h1⟩) (Nat.zero_le _)
     simpa using this
   . rename_i k e hu
     simp only [Bool.and_eq_true,decide_eq_true_eq] at h;obtain ⟨xs,m',_,_,hcl,hxl,hel⟩:=DataW.trod_array hu hx
     have:=KU (W:=W) (S:=Sh' P n) (T:=fun t cs'=>E5 P n t=true/\∃ m x,DataW.trod enc P W base sp held m t cs'=some x) (e:=e) (cs:=cs) (fun t cs' ⟨h1,m,x,h2⟩=>ih t h1 m cs' x h2) (P.cellsOf e) k 0 (by omega) (fun i hi=>by
       refine ⟨h.2,m',?_⟩;have h1:=hel i hi;rw [List.getElem?_eq_getElem (by omega)] at h1;rw [Nat.zero_add];exact ⟨_,h1⟩)
     simpa using this
   . cases h
end
end Go.Psl
namespace Go.Psl
def KF:PC->List PC->PC × List PC
 | .seq a b,ls=>let x:=KF a ls;let y:=KF b x.2;(.seq x.1 y.1,y.2)
 | .cond c a b,ls=>let x:=KF a ls;let y:=KF b x.2;(.cond c x.1 y.1,y.2)
 | .block i a,ls=>let x:=KF a ls;(.block i x.1,x.2)
 | .loop _,l::ls=>(.loop l,ls)
 | .rangeF f ps _ _,a::b::ls=>(.rangeF f ps a b,ls)
 | x,ls=>(x,ls)
def Db:PC->List PC
 | .seq a b=>Db a++Db b
 | .cond _ a b=>Db a++Db b
 | .block _ a=>Db a
 | .loop a=>Db a++[a]
 | .rangeF _ _ a b=>Db a++[a]++Db b++[b]
 | _=>[]
def Wk (f:Func):PC:=match f.body.bind (AK f.ntmps) with | some p=>p | none=> .skip
def G (f:Func) (ls:List PC):PC:=(KF (Wk f) ls).1
def K (f:Func) (k:Nat) (ls:List PC):PC:=(KF ((Db (Wk f)).getD k .skip) ls).1
abbrev Rd {α:Type} (x:α):={y:α // x=y}
end Go.Psl
