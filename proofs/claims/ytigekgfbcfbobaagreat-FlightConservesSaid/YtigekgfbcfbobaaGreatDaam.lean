/- Own lemmas and contracts of functions, used by the last text of this claim for the given statement. Conditions: those that each theorem states. -/
import Derived.Test.YtigekgfbcfbobaaGreatDaag
import Derived.Test.YtigekgfbcfbobaaGreatDaah
import Derived.Test.YtigekgfbcfbobaaGreatDaal
namespace Go.Proofs.Tryz
open Go.Psl
open Go.Air
set_option maxRecDepth 20000
set_option maxHeartbeats 8000000
abbrev plB (p:Plt) (c:V):List V:=[c,vi p.bt,vi p.ih,vi p.ia,vi p.vh,vi p.va,vi p.lh,vi p.la,vi p.ph,vi p.pa]
abbrev Fm (e:Int):V:= .d (.ifc 277 true [di e])
theorem B2:∀ x:Cel,(AP x).length=7:=fun _=>rfl
theorem BP (e:Int):Ct prog 204 [vb true,vi e] (.tup []) []:=by
 refine CB func204 qd (by simp [ntmps204]) fun E hE=>?_
 simp [p204];refine AB.by (fun _=>none) ?_;simp [results204]
theorem FX (e:Int):Cm prog 204 [vb false,vi e] (lk []) [] (.pan (Fm e)) (lk []):=by
 refine Cm.by gok eok mixed 0 func204 qd rfl (by simp [ntmps204]) (by simp) (A7.at (by simp)) (by simp) (by simp [Aj]) fun E hs hE=>?_
 simp [p204,AA];refine ⟨fun _=>none,?_,?_,?_,?_⟩<;>simp
theorem dF (a b c d:Int) (h:(-2000000000000<=a/\a<=2000000000000)/\(-2000000000000<=b/\b<=2000000000000)/\(-2000000000000<=c/\c<=2000000000000)/\ -2000000000000<=d/\d<=2000000000000):Ct prog 115 [vsp a b,vsp c d] (vsp (a+c) (b+d)) []:=by
 have w1:IntKind.wrap .i64 (a+c)=a+c:=AD (by omega) (by omega);have w2:IntKind.wrap .i64 (b+d)=b+d:=AD (by omega) (by omega);refine CB func115 qO (by simp [ntmps115]) fun E hE=>?_
 simp [p115,AA,w1,w2];refine AB.by (fun _=>none) ?_;simp [results115]
def inA (n:Nat) (a:Act):Bool:=rgB 0 ((n:Int) - 1) [a.c]&&rgB 1 10000000 [a.n]
theorem EQ {n:Nat} {a:Act}:inA n a=true↔(0<=a.c/\a.c < n)/\1<=a.n/\a.n<=10000000:=by
 unfold inA rgB;simp;omega
theorem Iz (p:Plt) (cs:List Cel) (a:Act) (hl:cs.length<=1000000) (hin:inA cs.length a=true):Cm prog 259 [.lp 0 0,BZ a] (lk [(0,plB p (.ls 1 0 cs.length 7)),(1,AH AP cs)]) [0,1] (.ret (.lp 1 (a.c.toNat*7))) (lk [(0,plB p (.ls 1 0 cs.length 7)),(1,AH AP cs)]):=by
 have h1:=EQ.1 hin;obtain ⟨i,hi⟩:∃ i:Nat,a.c=i:=⟨a.c.toNat,by omega⟩
 have c1:=Bq 0 ((cs.length:Int) - 1) [a.c] (by simp);have c2:=Bq 1 10000000 [a.n] (by simp);have c3:=BP 2;unfold inA at hin;simp only [Bool.and_eq_true] at hin;rw [hin.1] at c1;rw [hin.2] at c2;rw [hi] at c1 h1 ⊢;have hI:(i:Int) < cs.length:=by omega
 have hil:i < cs.length:=by omega
 have w:IntKind.wrap .i64 ((cs.length:Int) - 1)=(cs.length:Int) - 1:=AD (by omega) (by omega);have hsl:=Aw B2 cs;refine Cm.by gok eok mixed 2 func259 gy rfl (by simp [ntmps259]) (by simp) (A7.at (by simp)) (by simp) (by simp [Aj]) fun E hs hE=>?_
 simp [p259,AA,AM,inC,Nat.testBit,hi,w]
 repeat ((first | (refine CLr (c1) ?_ ?_ ?_;(focus (simp [AG];done));(focus (first | (left;simp;done) | (right;simp;done)))) | (refine CLr (c2) ?_ ?_ ?_;(focus (simp [AG];done));(focus (first | (left;simp;done) | (right;simp;done)))) | (refine CLr (c3) ?_ ?_ ?_;(focus (simp;done));(focus (first | (left;simp;done) | (right;simp;done)))));simp [AA,AM,inC,Nat.testBit,hI])
 refine AB.by (lk [(0,0),(1,1)]) ?_;simp [results259]
theorem UB (p:Plt) (cs:List Cel) (a:Act) (hl:cs.length<=1000000) (hin:inA cs.length a=false):Cm prog 259 [.lp 0 0,BZ a] (lk [(0,plB p (.ls 1 0 cs.length 7)),(1,AH AP cs)]) [0,1] (.pan (Fm 2)) (lk [(0,plB p (.ls 1 0 cs.length 7)),(1,AH AP cs)]):=by
 have c1:=Bq 0 ((cs.length:Int) - 1) [a.c] (by simp);have c2:=Bq 1 10000000 [a.n] (by simp);have c3:=FX 2;have w:IntKind.wrap .i64 ((cs.length:Int) - 1)=(cs.length:Int) - 1:=AD (by omega) (by omega);unfold inA at hin
 generalize rgB 0 ((cs.length:Int) - 1) [a.c]=b1 at*
 generalize rgB 1 10000000 [a.n]=b2 at*
 cases b1
 . refine Cm.by gok eok mixed 2 func259 gy rfl (by simp [ntmps259]) (by simp) (A7.at (by simp)) (by simp) (by simp [Aj]) fun E hs hE=>?_
   simp [p259,AA,AM,inC,Nat.testBit,w]
   repeat ((first | (refine CLr (c1) ?_ ?_ ?_;(focus (simp [AG];done));(focus (first | (left;simp;done) | (right;simp;done)))) | (refine CLr (c2) ?_ ?_ ?_;(focus (simp [AG];done));(focus (first | (left;simp;done) | (right;simp;done)))));simp)
   refine AU.mkR _ _ _ _ _ (c3) (by simp) (by simp) (by simp) (by simp) (by first | (left;simp;done) | (right;simp;done)) ?_;refine ⟨lk [(0,0),(1,1)],?_,?_,?_,?_⟩<;>simp
 . cases b2
   . refine Cm.by gok eok mixed 2 func259 gy rfl (by simp [ntmps259]) (by simp) (A7.at (by simp)) (by simp) (by simp [Aj]) fun E hs hE=>?_
     simp [p259,AA,AM,inC,Nat.testBit,w]
     repeat ((first | (refine CLr (c1) ?_ ?_ ?_;(focus (simp [AG];done));(focus (first | (left;simp;done) | (right;simp;done)))) | (refine CLr (c2) ?_ ?_ ?_;(focus (simp [AG];done));(focus (first | (left;simp;done) | (right;simp;done)))));simp [AA,AM])
     refine AU.mkR _ _ _ _ _ (c3) (by simp) (by simp) (by simp) (by simp) (by first | (left;simp;done) | (right;simp;done)) ?_;refine ⟨lk [(0,0),(1,1)],?_,?_,?_,?_⟩<;>simp
   . simp at hin
theorem dG (p:Plt) (a:Act):Cm prog 259 [.lp 0 0,BZ a] (lk [(0,plB p (.ls 1 0 0 7))]) [] (.pan (Fm 2)) (lk []):=by
 have c1:=Bq 0 (-1) [a.c] (by simp);have c3:=FX 2;have e:rgB 0 (-1) [a.c]=false:=by unfold rgB;simp;omega
 have w:IntKind.wrap .i64 (-1)= -1:=by decide
 rw [e] at c1;refine Cm.by gok eok mixed 2 func259 gy rfl (by simp [ntmps259]) (by simp) (A7.at (by simp)) (by simp) (by simp [Aj]) fun E hs hE=>?_
 simp [p259,AA,AM,inC,Nat.testBit,w]
 repeat ((first | (refine CLr (c1) ?_ ?_ ?_;(focus (simp [AG];done));(focus (first | (left;simp;done) | (right;simp;done)))));simp)
 refine AU.mkR _ _ _ _ _ (c3) (by simp) (by simp) (by simp) (by simp) (by first | (left;simp;done) | (right;simp;done)) ?_;refine ⟨fun _=>none,?_,?_,?_,?_⟩<;>simp
def BQ (c:Cel) (n:Int):Int:=n*c.he / (c.he+c.ai)
def I0 (c:Cel) (n:Int):Cel:={c with he:=c.he - BQ c n,ai:=c.ai - (n - BQ c n)}
theorem KE {c:Cel} {n:Int} (h1:0<=c.he) (h2:0<=c.ai) (h3:0<=n) (h4:n<=c.he+c.ai):0<=BQ c n/\BQ c n<=c.he/\BQ c n<=n/\n - BQ c n<=c.ai:=by
 unfold BQ;by_cases h0:c.he+c.ai=0
 . have:n=0:=by omega
   subst this;simp;omega
 have hp:0 < c.he+c.ai:=by omega
 have e1:0<=n*c.he:=Int.mul_nonneg h3 h1;have e2:n*c.he<=(c.he+c.ai)*c.he:=Int.mul_le_mul_of_nonneg_right h4 h1;have e3:n*c.he<=n*(c.he+c.ai):=Int.mul_le_mul_of_nonneg_left (by omega) h3;refine ⟨Int.ediv_nonneg e1 (by omega),?_,?_,?_⟩
 . have:=Int.ediv_le_ediv hp e2
   rwa [Int.mul_ediv_cancel_left _ h0] at this
 . have:=Int.ediv_le_ediv hp e3
   rwa [Int.mul_ediv_cancel _ h0] at this
 . have e4:(n - c.ai)*(c.he+c.ai)<=n*c.he:=by
     have a1:(n - c.ai)*(c.he+c.ai)=n*c.he+(n*c.ai - c.ai*(c.he+c.ai)):=by
       rw [Int.sub_mul,Int.mul_add];omega
     have a2:n*c.ai<=(c.he+c.ai)*c.ai:=Int.mul_le_mul_of_nonneg_right h4 h2;have a3:(c.he+c.ai)*c.ai=c.ai*(c.he+c.ai):=Int.mul_comm _ _;omega
   have:=(Int.le_ediv_iff_mul_le hp).2 e4;omega
theorem Sg (cs:List Cel) (i:Nat) (c:Cel) (n:Int) (hc:cs[i]?= some c) (hb:(0<=c.he/\c.he<=10000000)/\0<=c.ai/\c.ai<=10000000) (hn:1<=n/\n<=c.he+c.ai):Cm prog 260 [.lp 1 (i*7),vi n] (lk [(1,AH AP cs)]) [1] (.ret (vsp (BQ c n) (n - BQ c n))) (lk [(1,AH AP (cs.set i (I0 c n)))]):=by
 have q1:=hb.1;have q2:=hb.2;have hbd:=KE q1.1 q2.1 (by omega:0<=n) hn.2;have hz:¬ c.he+c.ai=0:=by omega
 have m1:0<=n*c.he:=Int.mul_nonneg (by omega) (by omega);have m2:n*c.he<=20000000*10000000:=Int.mul_le_mul (by omega) (by omega) (by omega) (by omega);have hd:(n*c.he).tdiv (c.he+c.ai)=BQ c n:=Int.tdiv_eq_ediv_of_nonneg m1;have w1:IntKind.wrap .i64 (c.he+c.ai)=c.he+c.ai:=AD (by omega) (by omega);have w2:IntKind.wrap .i64 (n*c.he)=n*c.he:=AD (by omega) (by omega);have w3:IntKind.wrap .i64 (BQ c n)=BQ c n:=AD (by omega) (by omega);have w4:IntKind.wrap .i64 (c.he - BQ c n)=c.he - BQ c n:=AD (by omega) (by omega);have w5:IntKind.wrap .i64 (n - BQ c n)=n - BQ c n:=AD (by omega) (by omega);have w6:IntKind.wrap .i64 (c.ai - (n - BQ c n))=c.ai - (n - BQ c n):=AD (by omega) (by omega);have g:c.he+c.ai>=n:=by omega
 have c3:=BP 6;have hil:=(List.getElem?_eq_some_iff.1 hc).1
 let c1:Cel:={c with he:=c.he - BQ c n}
 have hc1:(cs.set i c1)[i]?= some c1:=by simp [hil]
 have s0:i*7+1+1<=cs.length*7/\i*7+2+1<=cs.length*7:=by omega
 have hsl:=Aw B2 cs;have hsl1:=Aw B2 (cs.set i c1);have r1:(AH AP cs)[i*7+1]?= some (vi c.he):=Jg B2 hc rfl;have r2:(AH AP cs)[i*7+2]?= some (vi c.ai):=Jg B2 hc rfl;have t1:List.take 1 (List.drop (i*7+1) (AH AP cs))=[vi c.he]:=Bg B2 (j:=1) (k:=1) hc (by omega);have t2:List.take 1 (List.drop (i*7+2) (AH AP cs))=[vi c.ai]:=Bg B2 (j:=2) (k:=1) hc (by omega);have e1:AA (AH AP cs) (i*7+1) [vi (c.he - BQ c n)]=AH AP (cs.set i c1):=Cq B2 (vs:=[di (c.he - BQ c n)]) hc (by simp) rfl;have t3:List.take 1 (List.drop (i*7+2) (AH AP (cs.set i c1)))=[vi c.ai]:=Bg B2 (x:=c1) (j:=2) (k:=1) hc1 (by omega)
 have e2:AA (AH AP (cs.set i c1)) (i*7+2) [vi (c.ai - (n - BQ c n))]=AH AP (cs.set i (I0 c n)):=by
   have:=Cq B2 (y:=I0 c n) (j:=2) (vs:=[di (c.ai - (n - BQ c n))]) hc1 (by simp) rfl;rw [List.set_set] at this;exact this
 refine Cm.by gok eok mixed 2 func260 qe rfl (by simp [ntmps260]) (by simp) (A7.at (by simp)) (by simp) (by simp [Aj]) fun E hs hE=>?_
 simp [p260,inC,Nat.testBit,t1,t2,s0,hsl,w1,g];refine CLa (c3) ?_;simp [inC,Nat.testBit,t1,t2,t3,e1,e2,s0,hsl,hsl1,w1,w2,w3,w4,w5,w6,hd,hz];refine AB.by (lk [(1,1)]) ?_;simp [results260,AA,Hp.app]
theorem dH (cs:List Cel) (i:Nat) (c:Cel) (n:Int) (hc:cs[i]?= some c) (hb:(0<=c.he/\c.he<=10000000)/\0<=c.ai/\c.ai<=10000000) (hn:c.he+c.ai < n):Cm prog 260 [.lp 1 (i*7),vi n] (lk [(1,AH AP cs)]) [1] (.pan (Fm 6)) (lk [(1,AH AP cs)]):=by
 have q1:=hb.1;have q2:=hb.2;have w1:IntKind.wrap .i64 (c.he+c.ai)=c.he+c.ai:=AD (by omega) (by omega);have g:¬ c.he+c.ai>=n:=by omega
 have g2:¬ n<=c.he+c.ai:=by omega
 have c3:=FX 6;have hil:=(List.getElem?_eq_some_iff.1 hc).1;have s0:i*7+1+1<=cs.length*7/\i*7+2+1<=cs.length*7:=by omega
 have hsl:=Aw B2 cs;have t1:List.take 1 (List.drop (i*7+1) (AH AP cs))=[vi c.he]:=Bg B2 (j:=1) (k:=1) hc (by omega);have t2:List.take 1 (List.drop (i*7+2) (AH AP cs))=[vi c.ai]:=Bg B2 (j:=2) (k:=1) hc (by omega);refine Cm.by gok eok mixed 2 func260 qe rfl (by simp [ntmps260]) (by simp) (A7.at (by simp)) (by simp) (by simp [Aj]) fun E hs hE=>?_
 simp [p260,inC,Nat.testBit,t1,t2,s0,hsl,w1,g2];refine AU.mkR _ _ _ _ _ (c3) (by simp) (by simp) (by simp) (by simp) (by first | (left;simp;done) | (right;simp;done)) ?_;refine ⟨lk [(1,1)],?_,?_,?_,?_⟩<;>simp
abbrev gd (x:Int):Prop:=0<=x/\x<=1000000000000
theorem BG {cs:List Cel} (h:cs≠[]):AH AP cs≠[]:=fun e=>by
 have:=congrArg List.length e;rw [Aw B2] at this;cases cs with
 | nil=>exact h rfl
 | cons a r=>simp at this
theorem BB {l:List Cel} {p:Nat->Prop}:(∀ c,c∈AH AP l->AC p B9 c)=True:=eq_true (Ou fun x y hy=>by
 simp only [List.mem_cons,List.not_mem_nil,or_false] at hy;rcases hy with rfl | rfl | rfl | rfl | rfl | rfl | rfl<;>exact ⟨_,rfl⟩)
theorem aV (p:Plt) (cs:List Cel) (a:Act) (c:Cel) (hl:cs.length<=1000000) (hin:inA cs.length a=true) (hc:cs[a.c.toNat]?= some c) (hb:B5 c) (hn:a.n<=c.he+c.ai) (hv:gd p.vh) (hw:gd p.va):
   Cm prog 199 [.lp 0 0,BZ a] (lk [(0,plB p (.ls 1 0 cs.length 7)),(1,AH AP cs)]) [0,1] (.ret (.tup [])) (lk [(0,plB {p with vh:=p.vh+BQ c a.n,va:=p.va+(a.n - BQ c a.n)} (.ls 1 0 cs.length 7)),(1,AH AP (cs.set a.c.toNat (I0 c a.n)))]):=by
 have h1:=EQ.1 hin;have q1:=hb.he;have q2:=hb.ai;have hbd:=KE q1.1 q2.1 (by omega:0<=a.n) hn;have d1:=Iz p cs a hl hin;have d2:=Sg cs a.c.toNat c a.n hc ⟨hb.he,hb.ai⟩ ⟨h1.2.1,hn⟩;have d3:=dF p.vh p.va (BQ c a.n) (a.n - BQ c a.n) ⟨by omega,by omega,by omega,by omega⟩;have hne:cs≠[]:=fun e=>by rw [e] at hc;simp at hc
 have n1:=BG hne;refine Cm.by gok eok mixed 2 func199 gx rfl (by simp [ntmps199]) (by simp) (A7.at (by simp)) (by simp) (by simp [Aj]) fun E hs hE=>?_
 simp [p199];refine AL [(11,1)] (by kernel_rfl) ?_;simp [inC,Nat.testBit];refine AU.mkD _ _ _ _ _ (d1) (by simp [inC,Nat.testBit]) (by simp) (by simp [n1]) (by simp) (by first | (left;simp;done) | (right;simp [n1,BB,inC,Nat.testBit];done)) (by intro r h;first | (cases h;done) | (cases h;simp [wrL])) (by intro r h;cases h;try exact ⟨_,rfl⟩) ?_;simp [inC,Nat.testBit];refine AU.mkD _ _ _ _ _ (d2) (by simp [inC,Nat.testBit]) (by simp) (by simp [n1]) (by simp) (by first | (left;simp;done) | (right;simp [n1,BB,inC,Nat.testBit];done)) (by intro r h;first | (cases h;done) | (cases h;simp [wrL])) (by intro r h;cases h;try exact ⟨_,rfl⟩) ?_;simp;refine CLa (d3) ?_;simp [AA];refine AB.by (lk [(0,0),(1,1)]) ?_;simp [results199]
theorem Vw (p:Plt) (cs:List Cel) (a:Act) (hl:cs.length<=1000000) (hne:cs≠[]) (hin:inA cs.length a=false):Cm prog 199 [.lp 0 0,BZ a] (lk [(0,plB p (.ls 1 0 cs.length 7)),(1,AH AP cs)]) [] (.pan (Fm 2)) (lk []):=by
 have d1:=UB p cs a hl hin;have n1:=BG hne;refine Cm.by gok eok mixed 2 func199 gx rfl (by simp [ntmps199]) (by simp) (A7.at (by simp)) (by simp) (by simp [Aj]) fun E hs hE=>?_
 simp [p199];refine AL [(11,1)] (by kernel_rfl) ?_;simp [inC,Nat.testBit];refine AU.mkD _ _ _ _ _ (d1) (by simp [inC,Nat.testBit]) (by simp) (by simp [n1]) (by simp) (by first | (left;simp;done) | (right;simp [n1,BB,inC,Nat.testBit];done)) (by intro r h;first | (cases h;done) | (cases h;simp [wrL,n1,BB,inC,Nat.testBit])) (by intro r h;cases h;try exact ⟨_,rfl⟩) ?_;simp;intro st;refine ⟨fun _=>none,?_,?_,?_,?_⟩<;>simp
theorem Vx (p:Plt) (cs:List Cel) (a:Act) (c:Cel) (hl:cs.length<=1000000) (hin:inA cs.length a=true) (hc:cs[a.c.toNat]?= some c) (hb:B5 c) (hn:c.he+c.ai < a.n):Cm prog 199 [.lp 0 0,BZ a] (lk [(0,plB p (.ls 1 0 cs.length 7)),(1,AH AP cs)]) [] (.pan (Fm 6)) (lk []):=by
 have d1:=Iz p cs a hl hin;have d2:=dH cs a.c.toNat c a.n hc ⟨hb.he,hb.ai⟩ hn;have hne:cs≠[]:=fun e=>by rw [e] at hc;simp at hc
 have n1:=BG hne;refine Cm.by gok eok mixed 2 func199 gx rfl (by simp [ntmps199]) (by simp) (A7.at (by simp)) (by simp) (by simp [Aj]) fun E hs hE=>?_
 simp [p199];refine AL [(11,1)] (by kernel_rfl) ?_;simp [inC,Nat.testBit];refine AU.mkD _ _ _ _ _ (d1) (by simp [inC,Nat.testBit]) (by simp) (by simp [n1]) (by simp) (by first | (left;simp;done) | (right;simp [n1,BB,inC,Nat.testBit];done)) (by intro r h;first | (cases h;done) | (cases h;simp [wrL])) (by intro r h;cases h;try exact ⟨_,rfl⟩) ?_;simp [inC,Nat.testBit];refine AU.mkD _ _ _ _ _ (d2) (by simp [inC,Nat.testBit]) (by simp) (by simp [n1]) (by simp) (by first | (left;simp;done) | (right;simp [n1,BB,inC,Nat.testBit];done)) (by intro r h;first | (cases h;done) | (cases h;simp [wrL,n1,BB,inC,Nat.testBit])) (by intro r h;cases h;try exact ⟨_,rfl⟩) ?_;simp;intro st;refine ⟨fun _=>none,?_,?_,?_,?_⟩<;>simp
theorem lf (a b p q:V):AA [a,b] 0 [p,q]=[p,q]:=rfl
def inT (n:Nat) (a:Act):Bool:=rgB 0 ((n:Int) - 1) [a.t]&&!decide (a.t=a.c)
def gg (c:Cel) (h i:Int):Cel:={c with he:=c.he+h,ai:=c.ai+i}
theorem gi (p:Plt) (cs:List Cel) (a:Act) (c e:Cel) (hl:cs.length<=1000000) (hin:inA cs.length a=true) (hto:inT cs.length a=true) (hc:cs[a.c.toNat]?= some c) (he:cs[a.t.toNat]?= some e) (hb:B5 c) (hbe:B5 e) (hn:a.n<=c.he+c.ai):
   Cm prog 200 [.lp 0 0,BZ a] (lk [(0,plB p (.ls 1 0 cs.length 7)),(1,AH AP cs)]) [0,1] (.ret (.tup [])) (lk [(0,plB p (.ls 1 0 cs.length 7)),(1,AH AP ((cs.set a.c.toNat (I0 c a.n)).set a.t.toNat (gg e (BQ c a.n) (a.n - BQ c a.n))))]):=by
 have h1:=EQ.1 hin;have q1:=hb.he;have q2:=hb.ai;have q3:=hbe.he;have q4:=hbe.ai;have hbd:=KE q1.1 q2.1 (by omega:0<=a.n) hn;have d1:=Iz p cs a hl hin;have d2:=Bq 0 ((cs.length:Int) - 1) [a.t] (by simp);have d3:=BP 2;have d4:=Sg cs a.c.toNat c a.n hc ⟨hb.he,hb.ai⟩ ⟨h1.2.1,hn⟩;unfold inT at hto;simp only [Bool.and_eq_true,Bool.not_eq_true',decide_eq_false_iff_not] at hto;rw [hto.1] at d2;have hT:0<=a.t/\a.t < cs.length:=by have:=hto.1;unfold rgB at this;simp at this;omega
 have hne:cs≠[]:=fun e=>by rw [e] at hc;simp at hc
 have n1:=BG hne;have w:IntKind.wrap .i64 ((cs.length:Int) - 1)=(cs.length:Int) - 1:=AD (by omega) (by omega);have hij:a.c.toNat≠a.t.toNat:=fun e=>hto.2 (by omega)
 obtain ⟨j,hj⟩:∃ j:Nat,a.t=j:=⟨a.t.toNat,by omega⟩
 have hjt:a.t.toNat=j:=by omega
 rw [hjt] at he hij ⊢;have hT2:(j:Int) < cs.length:=by omega
 have hjl:j < cs.length:=by omega
 have hil:=(List.getElem?_eq_some_iff.1 hc).1;obtain ⟨L,hL⟩:∃ L,cs.set a.c.toNat (I0 c a.n)=L:=⟨_,rfl⟩
 have hLl:L.length=cs.length:=by rw [<-hL];simp
 have heL:L[j]?= some e:=by rw [<-hL,List.getElem?_set_ne hij];exact he
 rw [hL] at d4 ⊢;obtain ⟨h,hh⟩:∃ h,BQ c a.n=h:=⟨_,rfl⟩
 rw [hh] at d4 hbd ⊢
 let e1:Cel:={e with he:=e.he+h}
 have he1:(L.set j e1)[j]?= some e1:=by simp [hLl,hjl]
 have hsl:=Aw B2 L;have hsl1:=Aw B2 (L.set j e1);have s0:j*7+1+1<=cs.length*7/\j*7+2+1<=cs.length*7:=by omega
 have t1:List.take 1 (List.drop (j*7+1) (AH AP L))=[vi e.he]:=Bg B2 (x:=e) (j:=1) (k:=1) heL (by omega);have t2:List.take 1 (List.drop (j*7+2) (AH AP (L.set j e1)))=[vi e.ai]:=Bg B2 (x:=e1) (j:=2) (k:=1) he1 (by omega);have x1:AA (AH AP L) (j*7+1) [vi (e.he+h)]=AH AP (L.set j e1):=Cq B2 (vs:=[di (e.he+h)]) heL (by simp) rfl
 have x2:AA (AH AP (L.set j e1)) (j*7+2) [vi (e.ai+(a.n - h))]=AH AP (L.set j (gg e h (a.n - h))):=by
   have:=Cq B2 (y:=gg e h (a.n - h)) (j:=2) (vs:=[di (e.ai+(a.n - h))]) he1 (by simp) rfl;rw [List.set_set] at this;exact this
 have w5:IntKind.wrap .i64 (e.he+h)=e.he+h:=AD (by omega) (by omega);have w6:IntKind.wrap .i64 (e.ai+(a.n - h))=e.ai+(a.n - h):=AD (by omega) (by omega);have hne2:¬ (j:Int)=a.c:=by rw [<-hj];exact hto.2
 rw [hj] at d2;refine Cm.by gok eok mixed 2 func200 WA rfl (by simp [ntmps200]) (by simp) (A7.at (by simp)) (by simp) (by simp [Aj]) fun E hs hE=>?_
 simp [p200];refine AU.mkR _ _ _ _ _ (d1) (by simp) (by simp) (by simp [n1]) (by simp) (by first | (left;simp;done) | (right;simp [n1,BB];done)) ?_;simp [AA,AM,inC,Nat.testBit,hj,w];refine CLb (d2) (by simp [AG,inC,Nat.testBit]) ?_;simp [inC,Nat.testBit,hne2];refine CLa (d3) ?_;simp;refine AL [(3,1),(13,37748738)] (by kernel_rfl) ?_;simp [inC,Nat.testBit];refine AU.mkD _ _ _ _ _ (d4) (by simp [inC,Nat.testBit]) (by simp) (by simp [n1]) (by simp) (by first | (left;simp;done) | (right;simp [n1,BB,inC,Nat.testBit];done)) (by intro r h;first | (cases h;done) | (cases h;simp [wrL])) (by intro r h;cases h;try exact ⟨_,rfl⟩) ?_;simp [inC,Nat.testBit,hT2,hjl,hLl,hsl,hsl1,s0,t1,t2,x1,x2,w5,w6,lf];refine AB.by (lk [(0,0),(1,1)]) ?_;simp [results200]
theorem an (p:Plt) (cs:List Cel) (a:Act) (hl:cs.length<=1000000) (hne:cs≠[]) (hin:inA cs.length a=false):Cm prog 200 [.lp 0 0,BZ a] (lk [(0,plB p (.ls 1 0 cs.length 7)),(1,AH AP cs)]) [] (.pan (Fm 2)) (lk []):=by
 have d1:=UB p cs a hl hin;have n1:=BG hne;refine Cm.by gok eok mixed 2 func200 WA rfl (by simp [ntmps200]) (by simp) (A7.at (by simp)) (by simp) (by simp [Aj]) fun E hs hE=>?_
 simp [p200];refine AU.mkR _ _ _ _ _ (d1) (by simp) (by simp) (by simp [n1]) (by simp) (by first | (left;simp;done) | (right;simp [n1,BB];done)) ?_;refine ⟨fun _=>none,?_,?_,?_,?_⟩<;>simp
theorem ap (p:Plt) (cs:List Cel) (a:Act) (hl:cs.length<=1000000) (hin:inA cs.length a=true) (hto:inT cs.length a=false):Cm prog 200 [.lp 0 0,BZ a] (lk [(0,plB p (.ls 1 0 cs.length 7)),(1,AH AP cs)]) [] (.pan (Fm 2)) (lk []):=by
 have h1:=EQ.1 hin;have d1:=Iz p cs a hl hin;have d2:=Bq 0 ((cs.length:Int) - 1) [a.t] (by simp);have d3:=FX 2;have hne:cs≠[]:=fun e=>by rw [e] at h1;simp at h1;omega
 have n1:=BG hne;have w:IntKind.wrap .i64 ((cs.length:Int) - 1)=(cs.length:Int) - 1:=AD (by omega) (by omega);unfold inT at hto;cases hr:rgB 0 ((cs.length:Int) - 1) [a.t]
 . rw [hr] at d2
   refine Cm.by gok eok mixed 2 func200 WA rfl (by simp [ntmps200]) (by simp) (A7.at (by simp)) (by simp) (by simp [Aj]) fun E hs hE=>?_
   simp [p200];refine AU.mkR _ _ _ _ _ (d1) (by simp) (by simp) (by simp [n1]) (by simp) (by first | (left;simp;done) | (right;simp [n1,BB];done)) ?_;simp [AA,AM,inC,Nat.testBit,w];refine CLb (d2) (by simp [AG,inC,Nat.testBit]) ?_;simp;refine AU.mkR _ _ _ _ _ (d3) (by simp) (by simp) (by simp) (by simp) (by first | (left;simp;done) | (right;simp;done)) ?_;refine ⟨fun _=>none,?_,?_,?_,?_⟩<;>simp
 . rw [hr] at d2 hto
   have e:a.t=a.c:=by simpa using hto
   refine Cm.by gok eok mixed 2 func200 WA rfl (by simp [ntmps200]) (by simp) (A7.at (by simp)) (by simp) (by simp [Aj]) fun E hs hE=>?_
   simp [p200];refine AU.mkR _ _ _ _ _ (d1) (by simp) (by simp) (by simp [n1]) (by simp) (by first | (left;simp;done) | (right;simp [n1,BB];done)) ?_;simp [AA,AM,inC,Nat.testBit,w];refine CLb (d2) (by simp [AG,inC,Nat.testBit]) ?_;simp [inC,Nat.testBit,e];refine AU.mkR _ _ _ _ _ (d3) (by simp) (by simp) (by simp) (by simp) (by first | (left;simp;done) | (right;simp;done)) ?_;refine ⟨fun _=>none,?_,?_,?_,?_⟩<;>simp
theorem aq (p:Plt) (cs:List Cel) (a:Act) (c:Cel) (hl:cs.length<=1000000) (hin:inA cs.length a=true) (hto:inT cs.length a=true) (hc:cs[a.c.toNat]?= some c) (hb:B5 c) (hn:c.he+c.ai < a.n):Cm prog 200 [.lp 0 0,BZ a] (lk [(0,plB p (.ls 1 0 cs.length 7)),(1,AH AP cs)]) [] (.pan (Fm 6)) (lk []):=by
 have h1:=EQ.1 hin;have d1:=Iz p cs a hl hin;have d2:=Bq 0 ((cs.length:Int) - 1) [a.t] (by simp);have d3:=BP 2;have d4:=dH cs a.c.toNat c a.n hc ⟨hb.he,hb.ai⟩ hn;unfold inT at hto;simp only [Bool.and_eq_true,Bool.not_eq_true',decide_eq_false_iff_not] at hto;rw [hto.1] at d2;have hT:0<=a.t/\a.t < cs.length:=by have:=hto.1;unfold rgB at this;simp at this;omega
 have hne:cs≠[]:=fun e=>by rw [e] at hc;simp at hc
 have n1:=BG hne;have w:IntKind.wrap .i64 ((cs.length:Int) - 1)=(cs.length:Int) - 1:=AD (by omega) (by omega);obtain ⟨j,hj⟩:∃ j:Nat,a.t=j:=⟨a.t.toNat,by omega⟩
 have hT2:(j:Int) < cs.length:=by omega
 have hjl:j < cs.length:=by omega
 have hne2:¬ (j:Int)=a.c:=by rw [<-hj];exact hto.2
 rw [hj] at d2;refine Cm.by gok eok mixed 2 func200 WA rfl (by simp [ntmps200]) (by simp) (A7.at (by simp)) (by simp) (by simp [Aj]) fun E hs hE=>?_
 simp [p200];refine AU.mkR _ _ _ _ _ (d1) (by simp) (by simp) (by simp [n1]) (by simp) (by first | (left;simp;done) | (right;simp [n1,BB];done)) ?_;simp [AA,AM,inC,Nat.testBit,hj,w];refine CLb (d2) (by simp [AG,inC,Nat.testBit]) ?_;simp [inC,Nat.testBit,hne2];refine CLa (d3) ?_;simp;refine AL [(3,1),(13,37748738)] (by kernel_rfl) ?_;simp [inC,Nat.testBit];refine AU.mkD _ _ _ _ _ (d4) (by simp [inC,Nat.testBit]) (by simp) (by simp [n1]) (by simp) (by first | (left;simp;done) | (right;simp [n1,BB,inC,Nat.testBit];done)) (by intro r h;first | (cases h;done) | (cases h;simp [wrL,n1,BB,inC,Nat.testBit])) (by intro r h;cases h;try exact ⟨_,rfl⟩) ?_;simp [hjl];intro st;refine ⟨fun _=>none,?_,?_,?_,?_⟩<;>simp
theorem gj (p:Plt) (a:Act):Cm prog 199 [.lp 0 0,BZ a] (lk [(0,plB p (.ls 1 0 0 7))]) [] (.pan (Fm 2)) (lk []):=by
 have d1:=dG p a;refine Cm.by gok eok mixed 2 func199 gx rfl (by simp [ntmps199]) (by simp) (A7.at (by simp)) (by simp) (by simp [Aj]) fun E hs hE=>?_
 simp [p199];refine AL [] (by kernel_rfl) ?_;simp [inC,Nat.testBit];refine AU.mkD _ _ _ _ _ (d1) (by simp [inC,Nat.testBit]) (by simp) (by simp) (by simp) (by first | (left;simp;done) | (right;simp [inC,Nat.testBit];done)) (by intro r h;first | (cases h;done) | (cases h;simp [wrL,inC,Nat.testBit])) (by intro r h;cases h;try exact ⟨_,rfl⟩) ?_;simp;intro st;refine ⟨fun _=>none,?_,?_,?_,?_⟩<;>simp
theorem lg (p:Plt) (a:Act):Cm prog 200 [.lp 0 0,BZ a] (lk [(0,plB p (.ls 1 0 0 7))]) [] (.pan (Fm 2)) (lk []):=by
 have d1:=dG p a;refine Cm.by gok eok mixed 2 func200 WA rfl (by simp [ntmps200]) (by simp) (A7.at (by simp)) (by simp) (by simp [Aj]) fun E hs hE=>?_
 simp [p200];refine AU.mkR _ _ _ _ _ (d1) (by simp) (by simp) (by simp) (by simp) (by first | (left;simp;done) | (right;simp;done)) ?_;refine ⟨fun _=>none,?_,?_,?_,?_⟩<;>simp
def tkS (c:Cel):Int:=c.ow+(c.he+c.ai)*c.lk
def tkN (c:Cel):Int:=tkS c / 1000000
def tkC (c:Cel):Cel:={I0 c (tkN c) with ow:=tkS c % 1000000}
def tkL (cs:List Cel) (i:Nat):List Cel:=(cs.take i).map tkC++cs.drop i
def tkH (cs:List Cel) (i:Nat):Int:=((cs.take i).map fun c=>BQ c (tkN c)).sum
def tkA (cs:List Cel) (i:Nat):Int:=((cs.take i).map fun c=>tkN c - BQ c (tkN c)).sum
theorem cW (cs:List Cel):tkL cs 0=cs:=by simp [tkL]
theorem iO (cs:List Cel):tkL cs cs.length=cs.map tkC:=by simp [tkL]
theorem iP (cs:List Cel) (i:Nat):(tkL cs i).length=cs.length:=by simp [tkL];omega
theorem mQ {cs:List Cel} {i:Nat} {c:Cel} (h:cs[i]?= some c):(tkL cs i)[i]?= some c:=by
 have hi:=(List.getElem?_eq_some_iff.1 h).1;unfold tkL;rw [List.getElem?_append_right (by simp;omega)];simp [Nat.min_eq_left (Nat.le_of_lt hi),h]
theorem cX {cs:List Cel} {i:Nat} {c:Cel} (h:cs[i]?= some c):tkL cs (i+1)=(tkL cs i).set i (tkC c):=by
 have hi:=(List.getElem?_eq_some_iff.1 h).1;have hc:cs[i]=c:=(List.getElem?_eq_some_iff.1 h).2;unfold tkL;rw [List.take_add_one,h,List.set_append_right _ _ (by simp;omega)];simp [Nat.min_eq_left (Nat.le_of_lt hi)];rw [List.drop_eq_getElem_cons hi];rfl
theorem Pz {cs:List Cel} {i:Nat} {c:Cel} (h:cs[i]?= some c):tkH cs (i+1)=tkH cs i+BQ c (tkN c):=by
 unfold tkH;rw [List.take_add_one,h];simp
theorem P2 {cs:List Cel} {i:Nat} {c:Cel} (h:cs[i]?= some c):tkA cs (i+1)=tkA cs i+(tkN c - BQ c (tkN c)):=by
 unfold tkA;rw [List.take_add_one,h];simp
theorem cY {c:Cel} (hb:B5 c):(0<=(c.he+c.ai)*c.lk/\(c.he+c.ai)*c.lk<=2000000000000)/\(0<=tkS c/\tkS c<=2000001000000)/\0<=tkN c/\tkN c<=c.he+c.ai:=by
 have q1:=hb.he;have q2:=hb.ai;have q3:=hb.lk;have q4:=hb.ow;have m1:0<=(c.he+c.ai)*c.lk:=Int.mul_nonneg (by omega) (by omega);have m2:(c.he+c.ai)*c.lk<=(c.he+c.ai)*100000:=Int.mul_le_mul_of_nonneg_left (by omega) (by omega);unfold tkN tkS;omega
theorem SY {c:Cel} (hb:B5 c):(0<=BQ c (tkN c)/\BQ c (tkN c)<=c.he)/\BQ c (tkN c)<=tkN c/\tkN c - BQ c (tkN c)<=c.ai:=by
 have h:=cY hb;have:=KE hb.he.1 hb.ai.1 h.2.2.1 h.2.2.2;omega
theorem SZ:∀ {cs:List Cel},(∀ c∈cs,B5 c)->∀ i:Nat,i<=cs.length->(0<=tkH cs i/\tkH cs i<=i*10000000)/\0<=tkA cs i/\tkA cs i<=i*10000000
 | cs,h,0,_=>by simp [tkH,tkA]
 | cs,h,i+1,hi=>by
   obtain ⟨c,hc⟩:∃ c,cs[i]?= some c:=⟨_,List.getElem?_eq_getElem (by omega)⟩
   have hb:=h c (List.mem_of_getElem? hc);have ih:=SZ h i (by omega);have:=SY hb;have q1:=hb.he;have q2:=hb.ai;rw [Pz hc,P2 hc];omega
def tkP (p:Plt) (cs:List Cel) (i:Nat):Plt:={p with lh:=p.lh+tkH cs i,la:=p.la+tkA cs i}
theorem iQ (p:Plt) (cs:List Cel) (a:Act) (hl:cs.length<=12) (hne:cs≠[]) (ha:a.n=1) (hb:∀ c∈cs,B5 c) (hv:gd p.lh) (hw:gd p.la):
   Cm prog 203 [.lp 0 0,BZ a] (lk [(0,plB p (.ls 1 0 cs.length 7)),(1,AH AP cs)]) [0,1] (.ret (.tup [])) (lk [(0,plB (tkP p cs cs.length) (.ls 1 0 cs.length 7)),(1,AH AP (cs.map tkC))]):=by
 have d1:=Bq 1 1000 [1] (by simp);have d2:=BP 2;rw [show rgB 1 1000 [1]=true from by decide] at d1;have n1:=BG hne;have z1:IntKind.wrap .i64 1=1:=by decide
 refine Cm.by gok eok mixed 2 func203 qc rfl (by simp [ntmps203]) (by simp) (A7.at (by simp)) (by simp) (by simp [Aj]) fun E hs hE=>?_
 simp [p203,AA,AM,ha]
 repeat ((first | (refine CLr (d1) ?_ ?_ ?_;(focus (simp [AG];done));(focus (first | (left;simp;done) | (right;simp;done)))) | (refine CLr (d2) ?_ ?_ ?_;(focus (simp;done));(focus (first | (left;simp;done) | (right;simp;done)))));simp)
 refine Al (α:=Nat) (fun k=>⟨AO [(0, .lp 0 0),(13,vi 1),(14,vi k)],lk [(0,plB (tkP p cs (if k=0 then 0 else cs.length)) (.ls 1 0 cs.length 7)),(1,AH AP (tkL cs (if k=0 then 0 else cs.length)))],2⟩) (fun k=>k<=1) (fun k=>1 - k) 0 ?_ ?_ ?_
 . omega
 . simp only [if_true,cW]
   refine AI.mkM hs (lk [(0,0),(1,1)]) _ _ _ ?_ ?_ ?_ ?_ ?_ ?_<;>simp [tkP,tkH,tkA]
 . intro k hk
   match k,hk with
   | 1,_=>
     simp [LG,iO];refine AB.by (lk [(0,0),(1,1)]) ?_;simp [results203]
   | n+2,h=>omega
   | 0,_=>
     simp [LG];refine Al (α:=Nat) (fun i=>⟨AO [(0, .lp 0 0),(13,vi 1),(14,vi 0),(21,vi cs.length),(22,vi i)],lk [(0,plB (tkP p cs i) (.ls 1 0 cs.length 7)),(1,AH AP (tkL cs i))],2⟩) (fun i=>i<=cs.length) (fun i=>cs.length - i) 0 ?_ ?_ ?_
     . omega
     . refine AI.mkM hs (lk [(0,0),(1,1)]) _ _ _ ?_ ?_ ?_ ?_ ?_ ?_<;>simp
     . intro i hi
       by_cases h:i < cs.length
       . obtain ⟨c,hc⟩:∃ c,cs[i]?= some c:=⟨_,List.getElem?_eq_getElem h⟩
         have hcb:=hb c (List.mem_of_getElem? hc);have hI:(i:Int) < cs.length:=by omega
         have hz:IntKind.wrap .i64 ((i:Int)+1)=((i+1:Nat):Int):=by rw [AD (by omega) (by omega)];omega
         have b1:=cY hcb;have b2:=SY hcb;have b3:=SZ hb i hi;have q1:=hcb.he;have q2:=hcb.ai;have q3:=hcb.lk;have q4:=hcb.ow;have hLc:=mQ hc;have hLn:=cX hc;have hLl:=iP cs i;have hHn:=Pz hc;have hAn:=P2 hc
         generalize tkL cs i=L at*
         have w1:IntKind.wrap .i64 (c.he+c.ai)=c.he+c.ai:=AD (by omega) (by omega);have w2:IntKind.wrap .i64 ((c.he+c.ai)*c.lk)=(c.he+c.ai)*c.lk:=AD (by omega) (by omega);have w3:IntKind.wrap .i64 (c.ow+(c.he+c.ai)*c.lk)=tkS c:=AD (by unfold tkS at b1;omega) (by unfold tkS at b1;omega);have hd:(tkS c).tdiv 1000000=tkN c:=Int.tdiv_eq_ediv_of_nonneg (by omega);have w4:IntKind.wrap .i64 (tkN c)=tkN c:=AD (by omega) (by omega)
         let c1:Cel:={c with ow:=tkS c}
         have hc1:(L.set i c1)[i]?= some c1:=by simp [hLl,h]
         have hsl:=Aw B2 L;have hsl1:=Aw B2 (L.set i c1);have s0:(i*7+1+1<=cs.length*7/\i*7+2+1<=cs.length*7)/\i*7+5+1<=cs.length*7/\i*7+6+1<=cs.length*7:=by omega
         have t1:List.take 1 (List.drop (i*7+1) (AH AP L))=[vi c.he]:=Bg B2 (x:=c) (j:=1) (k:=1) hLc (by omega);have t2:List.take 1 (List.drop (i*7+2) (AH AP L))=[vi c.ai]:=Bg B2 (x:=c) (j:=2) (k:=1) hLc (by omega);have t5:List.take 1 (List.drop (i*7+5) (AH AP L))=[vi c.lk]:=Bg B2 (x:=c) (j:=5) (k:=1) hLc (by omega);have t6:List.take 1 (List.drop (i*7+6) (AH AP L))=[vi c.ow]:=Bg B2 (x:=c) (j:=6) (k:=1) hLc (by omega);have x1:AA (AH AP L) (i*7+6) [vi (tkS c)]=AH AP (L.set i c1):=Cq B2 (vs:=[di (tkS c)]) hLc (by simp) rfl;have t7:List.take 1 (List.drop (i*7+6) (AH AP (L.set i c1)))=[vi (tkS c)]:=Bg B2 (x:=c1) (j:=6) (k:=1) hc1 (by omega);simp [Ng,hI,inC,Nat.testBit,hLl,hsl,hsl1,s0,t1,t2,t5,t6,t7,x1,w1,w2,w3,w4,hd];by_cases hp:0 < tkN c
         . have d3:=Sg (L.set i c1) i c1 (tkN c) hc1 ⟨hcb.he,hcb.ai⟩ ⟨by omega,b1.2.2.2⟩
           have d4:=dF (p.lh+tkH cs i) (p.la+tkA cs i) (BQ c (tkN c)) (tkN c - BQ c (tkN c)) ⟨by omega,by omega,by omega,by omega⟩;rw [List.set_set] at d3;obtain ⟨L2,hL2⟩:∃ L2,L.set i (I0 c1 (tkN c))=L2:=⟨_,rfl⟩
           rw [hL2,show BQ c1 (tkN c)=BQ c (tkN c) from rfl] at d3;have hL2l:L2.length=cs.length:=by rw [<-hL2];simp [hLl]
           have hL2c:L2[i]?= some (I0 c1 (tkN c)):=by rw [<-hL2];simp [hLl,h]
           have hsl2:=Aw B2 L2;have t8:List.take 1 (List.drop (i*7+6) (AH AP L2))=[vi (tkS c)]:=Bg B2 (x:=I0 c1 (tkN c)) (j:=6) (k:=1) hL2c (by omega)
           have x2:AA (AH AP L2) (i*7+6) [vi (tkS c % 1000000)]=AH AP (L.set i (tkC c)):=by
             have:=Cq B2 (y:=tkC c) (j:=6) (vs:=[di (tkS c % 1000000)]) hL2c (by simp) rfl;rw [<-hL2,List.set_set,hL2] at this;exact this
           have hm:(tkS c).tmod 1000000=tkS c % 1000000:=Int.tmod_eq_emod_of_nonneg (by omega);have w5:IntKind.wrap .i64 (tkS c % 1000000)=tkS c % 1000000:=AD (by omega) (by omega);have n2:AH AP (L.set i c1)≠[]:=BG (fun e=>by have:=congrArg List.length e;rw [List.length_set,hLl,List.length_nil] at this;omega);simp [hp];refine AL [(8,1)] (by kernel_rfl) ?_;simp [inC,Nat.testBit,tkP];refine AU.mkD _ _ _ _ _ (d3) (by simp [inC,Nat.testBit]) (by simp) (by simp [n2]) (by simp) (by first | (left;simp;done) | (right;simp [n2,BB,inC,Nat.testBit];done)) (by intro r h;first | (cases h;done) | (cases h;simp [wrL])) (by intro r h;cases h;try exact ⟨_,rfl⟩) ?_;simp;refine CLa (d4) ?_;simp [hL2l,hsl2,s0,t8,x2,hm,hz];refine ⟨i+1,by omega,by omega,?_⟩;rw [hLn,hHn,hAn];refine AI.mkM hs (lk [(0,0),(1,1)]) _ _ _ ?_ ?_ ?_ ?_ ?_ ?_<;>simp [AA,Int.add_assoc]
         . have hN:tkN c=0:=by omega
           have hS:tkS c % 1000000=tkS c:=by unfold tkN at hN;omega
           have hO:BQ c 0=0:=by unfold BQ;simp
           have e:tkC c=c1:=by
             unfold tkC I0;rw [hN,hS,hO];simp [c1]
           simp [hp,hz,tkP];refine ⟨i+1,by omega,by omega,?_⟩;rw [hLn,hHn,hAn,e,hN,hO];refine AI.mkM hs (lk [(0,0),(1,1)]) _ _ _ ?_ ?_ ?_ ?_ ?_ ?_<;>simp
       . have ei:i=cs.length:=by omega
         have hI:¬ (i:Int) < cs.length:=by omega
         subst ei;simp [Ng,z1];refine ⟨1,by omega,by omega,?_⟩;refine AI.mkM hs (lk [(0,0),(1,1)]) _ _ _ ?_ ?_ ?_ ?_ ?_ ?_<;>simp
theorem Ce (l:List Cel) (hl:l.length<=1000000):Ct prog 127 [.d (AX l)] (.ls 0 0 l.length 7) [(0,AH AP l)]:=by
 cases l with
 | nil=>
   refine CB func127 qQ (by simp [ntmps127]) fun E hE=>?_
   simp [p127];refine ⟨?_,?_⟩
   . refine AB.by (fun _=>none) ?_
     simp [results127,AH]
   . simp [AM,Am,Hp.app]
     refine AB.by (lk [(0,5242880)]) ?_;simp [results127,AH]
 | cons a r=>
   refine CB func127 qQ (by simp [ntmps127]) fun E hE=>?_
   have hmx:(r.length+1)*56<=140737488355328/\r.length+1<=9223372036854775807:=by simp at hl;omega
   have e:AX (a::r)= .sl 7 (AP a::r.map AP):=rfl;have ef:(r.map (List.map V.d ∘ AP)).flatten=AH AP r:=by simp [AH,List.map_flatten]
   have hcl:(∀ x∈AH AP r,x.isCell=true)=True:=eq_true BU;simp [p127,e,ef,hcl,AM,hmx];refine AB.by (lk [(0,5242880)]) ?_;simp [results127,CQ,hcl]
end Go.Proofs.Tryz
namespace Go.Psl
noncomputable def Y3:Option Code->Code | some (.seq _ r)=>r | _=> .skip
noncomputable def pE:Option Code->Nat | some (.seq (.region i _ _) _)=>i | _=>0
noncomputable def ij (k:Nat):Option Code->Oper | some (.seq (.region _ o _) _)=>(o[k]?).getD ⟨none, .move (.tmp 0),0, "",#[],none⟩ | _=>⟨none, .move (.tmp 0),0, "",#[],none⟩
theorem VW {P:Program} {Γ:Tys} {eqs:Eqs} {ws:List (Nat × Nat)} {cl:List Nat} {n0 k b:Nat} {Z:V->Prop} {K:(Nat->V)->Hp->Nat->Prop} {r:List PO} {f:Nat->V} {H:Hp} {dst:Option Nat} {s t:TypeId} {x:Operand}:dd P Γ eqs ws cl n0 Z K k b (⟨dst, .typeAssert x s t false,none⟩::r) f H=goD ws k dst b (dd P Γ eqs ws cl n0 Z K (k+1) (b+1048576) r) f H (Wf Γ t (evF f x)):=CE rfl
end Go.Psl
namespace Go.Proofs.Tryz
open Go.Psl
open Go.Air
set_option maxRecDepth 20000
set_option maxHeartbeats 8000000
noncomputable def ik:Oper:=(⟨_,by conv=>lhs;reduce⟩:Rd (ij 0 f196.body)).1
noncomputable def il:Oper:=(⟨_,by conv=>lhs;reduce⟩:Rd (ij 1 f196.body)).1
noncomputable def p196r:PC:=(⟨_,by conv=>lhs;reduce⟩:Rd (match AK f196.ntmps (Y3 f196.body) with | some p=>p | none=> .skip)).1
theorem pF:f196.body=some (.seq (.region (pE f196.body) #[ik,il] false) (Y3 f196.body)):=by kernel_rfl
theorem io:AK f196.ntmps (Y3 f196.body)=some p196r:=by kernel_rfl
theorem ip:∀ ρ W,(execOp ρ ik).run prog W= .ok .recover W:=fun _ _=>by kernel_rfl
theorem iq:∀ ρ W,(execOp ρ il).run prog W= .ok (.value (ρ (.tmp 3))) W:=fun _ _=>by kernel_rfl
theorem IT:CmD prog 196 [.lp 2097152 0, .lp 3145728 0] (lk []) [] none (lk []):=by
 refine CmD.by gok eok mixed 4194304 func196 pF rfl rfl rfl rfl rfl ip iq (by simp [ntmps196]) (by simp [ntmps196]) io (by simp [ntmps196]) (by simp) (by simp [NV]) (A7.at (by simp)) (by simp) (by simp [Aj]) fun E hs=>?_
 simp [p196r,NV];refine AB.by (fun _=>none) ?_;simp [results196]
abbrev plZ:List V:=[.d (.lit (.slice none 0 0)),vi 0,vi 0,vi 0,vi 0,vi 0,vi 0,vi 0,vi 0,vi 0]
theorem Ds (e:Int):CmD prog 196 [.lp 2097152 0, .lp 3145728 0] (lk [(2097152,plZ),(3145728,[vi 0])]) [2097152,3145728] (some (Fm e)) (lk [(2097152,plZ),(3145728,[vi e])]):=by
 refine CmD.by gok eok mixed 4194304 func196 pF rfl rfl rfl rfl rfl ip iq (by simp [ntmps196]) (by simp [ntmps196]) io (by simp [ntmps196]) (by simp) (by simp [NV]) (A7.at (by simp)) (by simp) (by simp [Aj]) fun E hs=>?_
 simp [p196r,NV];refine AL [(4,2097152)] (by kernel_rfl) ?_;simp [AA,inC,Nat.testBit,VW];refine AB.by (lk [(2097152,2097152),(3145728,3145728)]) ?_;simp [results196]
end Go.Proofs.Tryz
namespace Go.Psl
variable {P:Program} {Γ:Tys} {E:Ent} {fn:Func} {r:V} {H1:List (Nat × List V)} {pb:PC} {st:St}
theorem Ax:dwQ P Γ E fn r H1 pb .normal st=DW P E fn r H1 pb st:=AF rfl
theorem Iv {g:FuncId} {ids:List (Nat × Nat)}:XG P Γ fn r H1 g ids .ret st=Cn P g ids none (Dc Γ fn [] r H1) st:=AF rfl
theorem D9 {g:FuncId} {ids:List (Nat × Nat)} {D:D}:XG P Γ fn r H1 g ids (.pan (.d D)) st=Cn P g ids (some (.d D)) (Dc Γ fn [] r H1) st:=AF (by simp [XG])
theorem DW.defer2 {eqs:Eqs} (hΓ:GOk P Γ) (hE:EB P eqs) (hm:P.follows .mixedOrders=true) {t:Nat} {g:FuncId} {caps:Array Operand} {cl:Call} {f:Nat->V} {H:Hp} {n:Nat} (n':Nat) (ids:List (Nat × Nat)) (vs:List V) (hcal:cl.callee= .value (.tmp t)) (hcl:cl.args= #[]) (hvs:(ids.map fun p=> .lp p.1 p.2)=vs) (hn:n+2097152=n')
   (hcaps:BX f caps.toList=vs) (hst:∀ i,¬ E.stab i)
   (h:∀ E':Ent,PW P Γ eqs E' pb (XG P Γ fn r H1 g ids) ⟨Am f (some t) (.cl g vs),H,n'⟩):
   DW P E fn r H1 (.seq (.reg [⟨some t, .makeFunc (.func g) #[] caps,none⟩,⟨none, .defer cl,none⟩]) pb) ⟨f,H,n⟩:=by
 subst hn hvs;exact DW.defer hΓ hE hm ids hcal hcl hcaps hst fun E' _ _ _=>h E'
theorem Cn.mk {H:Hp} {b:Nat} {f:Nat->V} {g:FuncId} {ids:List (Nat × Nat)} {m:Option V} {K:St->Prop} (L:List (Nat × List V)) (ks:List Nat) (L1:List (Nat × List V)) (hf:CmD P g (ids.map fun p=> .lp p.1 p.2) (lk L) ks m (lk L1)) (hlive:∀ p∈ids,(H p.1).isSome=true) (hin:Fr H L) (hi:∀ p∈L1,p.1∈ks\/p.1 < 1048576) (hks:Jq b L L1 ks) (hL:∀ p∈L,p.1 < b)
   (hk:K ⟨f,I2 (E0 H L) ks b L1,b⟩):Cn P g ids m K ⟨f,H,b⟩:=by
 have hL':∀ i,InH (lk L) i->i < b:=fun i h=>by
   obtain ⟨x,hx⟩:=Option.isSome_iff_exists.1 h;exact hL _ (B4 hx)
 refine ⟨hlive,_,lk L,ks,lk L1,hf,⟨hin.at,fun i h hn=>NB hi h hn,fun i h=>(hks.at i h).2.2, .inl ?_⟩,?_⟩
 . exact AJ.of_get rfl fun i x y hx hy=>by
     rw [hx] at hy;cases hy;rw [List.getElem?_map] at hx;obtain ⟨p,_,rfl⟩:=Option.map_eq_some_iff.1 hx;exact ⟨rfl,rfl⟩
 . show K ⟨f,BI H b (lk L) ks (lk L1),b⟩
   rw [E1 H ks b L L1 hks hL'];exact hk
end Go.Psl
namespace Go.Proofs.Tryz
open Go.Psl
open Go.Air
set_option maxRecDepth 20000
set_option maxHeartbeats 8000000
def sgD (i:Nat):Nat:=if i=0 then 23068672 else 28311552
theorem Nu:∀ i j,i < 2->j < 2->sgD i=sgD j->i=j:=by
 intro i j hi hj h;unfold sgD at h;split at h<;>split at h<;>first | omega | exact absurd h (by omega)
theorem Px (ρ:Nat->Nat) (l:List Cel):(AH AP l).map (BJ ρ)=AH AP l:=by
 simp [AH,List.map_flatten,Function.comp_def]
theorem rF {f:FuncId} {p:Plt} {a:Act} {cs:List Cel} {e:Int} (h:Cm prog f [.lp 0 0,BZ a] (lk [(0,plB p (.ls 1 0 cs.length 7)),(1,AH AP cs)]) [] (.pan (Fm e)) (lk [])):Cm prog f [.lp 23068672 0,BZ a] (lk [(23068672,plB p (.ls 28311552 0 cs.length 7)),(28311552,AH AP cs)]) [] (.pan (Fm e)) (lk []):=by
 have:=Cm.rename sgD 2 Nu h (by simp [BW]) (by simp [BW]) (by simp);simpa [Ea,HW,sgD,Px] using this
theorem MZ {f:FuncId} {p q:Plt} {a:Act} {cs ds:List Cel} (h:Cm prog f [.lp 0 0,BZ a] (lk [(0,plB p (.ls 1 0 cs.length 7)),(1,AH AP cs)]) [0,1] (.ret (.tup [])) (lk [(0,plB q (.ls 1 0 cs.length 7)),(1,AH AP ds)])):Cm prog f [.lp 23068672 0,BZ a] (lk [(23068672,plB p (.ls 28311552 0 cs.length 7)),(28311552,AH AP cs)]) [23068672,28311552] (.ret (.tup [])) (lk [(23068672,plB q (.ls 28311552 0 cs.length 7)),(28311552,AH AP ds)]):=by
 have:=Cm.rename sgD 2 Nu h (by simp [BW]) (by simp [BW]) (by simp);simpa [Ea,HW,sgD,Px] using this
theorem Py (p:Plt) (a:Act) (e:Int) (hl:p.cs.length<=1000000) (h:Ar p=true) (hk:a.k=3) (hne:p.cs≠[]) (d0:Cm prog 199 [.lp 0 0,BZ a] (lk [(0,plB p (.ls 1 0 p.cs.length 7)),(1,AH AP p.cs)]) [] (.pan (Fm e)) (lk [])):Ct prog 128 [Cy p (.d (AX p.cs)),BZ a] (.tup [.agg plZ,vi e]) []:=by
 have d5:=rF d0;have n2:=trivial;have d1:=Ef p (by omega);have d2:=Bq 1 7 [3] (by simp);have d3:=BP 2;have d4:=Ce p.cs hl;have n1:=BG hne;have w3:IntKind.wrap .i64 3=3:=by decide
 rw [h] at d1;rw [show rgB 1 7 [3]=true from by decide] at d2;refine Ct.byD gok func128 LE rfl (by simp [ntmps128]) (by simp) (by simp [Aj]) fun E hE hN=>?_
 unfold p128;simp only [];refine DW.seq gok eok mixed ?_;simp [Ax];refine DW.seq gok eok mixed ?_;simp;refine CLa (d1) ?_;simp [Ax];refine DW.defer2 gok eok mixed 11534336 [(2097152,0),(3145728,0)] [.lp 2097152 0, .lp 3145728 0] rfl rfl rfl (by simp) (by simp) hE fun E'=>?_
 simp [AA,AM,hk,w3];refine CLb (d2) (by simp [AG]) ?_;simp;refine CLa (d3) ?_;simp [AA];refine CLa (d4) ?_;simp [AA];refine AU.mkR _ _ _ _ _ (d5) (by simp) (by simp) (by simp) (by simp) (by first | (left;simp [hk];done) | (right;simp [n1,n2,BB,hk];done)) ?_;simp [D9];refine Cn.mk _ _ _ (Ds e) (by simp) (by simp) (by simp) (by simp) (by simp) ?_;simp;refine AB.by (fun _=>none) ?_;simp [results128]
theorem cS (p q:Plt) (a:Act) (hl:p.cs.length<=1000000) (h:Ar p=true) (hk:a.k=3) (hne:p.cs≠[]) (hq:q.cs.length=p.cs.length) (ho:Ar q=true) (d0:Cm prog 199 [.lp 0 0,BZ a] (lk [(0,plB p (.ls 1 0 p.cs.length 7)),(1,AH AP p.cs)]) [0,1] (.ret (.tup [])) (lk [(0,plB q (.ls 1 0 p.cs.length 7)),(1,AH AP q.cs)])):Ct prog 128 [Cy p (.d (AX p.cs)),BZ a] (.tup [Cy q (.ls 0 0 p.cs.length 7),vi 0]) [(0,AH AP q.cs)]:=by
 have d5:=MZ d0;have n2:AH AP q.cs≠[]:=BG fun e=>by rw [e] at hq;exact hne (List.eq_nil_of_length_eq_zero hq.symm)
 have d6:=Ef q (by omega);have d7:=BP 9
 have d8:List.take (p.cs.length*7) (AH AP q.cs)=(List.map (List.map V.d ∘ AP) q.cs).flatten:=by
   rw [<-hq,List.take_of_length_le (by rw [Aw B2];omega)];simp [AH,List.map_flatten]
 rw [ho] at d6;have d1:=Ef p (by omega);have d2:=Bq 1 7 [3] (by simp);have d3:=BP 2;have d4:=Ce p.cs hl;have n1:=BG hne;have w3:IntKind.wrap .i64 3=3:=by decide
 rw [h] at d1;rw [show rgB 1 7 [3]=true from by decide] at d2;refine Ct.byD gok func128 LE rfl (by simp [ntmps128]) (by simp) (by simp [Aj]) fun E hE hN=>?_
 unfold p128;simp only [];refine DW.seq gok eok mixed ?_;simp [Ax];refine DW.seq gok eok mixed ?_;simp;refine CLa (d1) ?_;simp [Ax];refine DW.defer2 gok eok mixed 11534336 [(2097152,0),(3145728,0)] [.lp 2097152 0, .lp 3145728 0] rfl rfl rfl (by simp) (by simp) hE fun E'=>?_
 simp [AA,AM,hk,w3];refine CLb (d2) (by simp [AG]) ?_;simp;refine CLa (d3) ?_;simp [AA];refine CLa (d4) ?_;simp [AA];refine AU.mkR _ _ _ _ _ (d5) (by simp) (by simp) (by simp [n1]) (by simp) (by first | (left;simp [hk];done) | (right;simp [n1,n2,BB,hk];done)) ?_;simp;refine CLb (d6) (by first | (simp;done) | simp [CP,d8,hq]) ?_;simp;refine CLa (d7) ?_;simp [AA,Iv];refine Cn.mk _ _ _ IT (by simp) (by simp) (by simp) (by simp) (by simp) ?_;simp;refine AB.by (lk [(0,28311552)]) ?_;simp [results128]
theorem WY (p q:Plt) (a:Act) (hl:p.cs.length<=1000000) (h:Ar p=true) (hk:a.k=3) (hne:p.cs≠[]) (hq:q.cs.length=p.cs.length) (ho:Ar q=false) (d0:Cm prog 199 [.lp 0 0,BZ a] (lk [(0,plB p (.ls 1 0 p.cs.length 7)),(1,AH AP p.cs)]) [0,1] (.ret (.tup [])) (lk [(0,plB q (.ls 1 0 p.cs.length 7)),(1,AH AP q.cs)])):Ct prog 128 [Cy p (.d (AX p.cs)),BZ a] (.tup [.agg plZ,vi 9]) []:=by
 have d5:=MZ d0;have n2:AH AP q.cs≠[]:=BG fun e=>by rw [e] at hq;exact hne (List.eq_nil_of_length_eq_zero hq.symm)
 have d6:=Ef q (by omega);have d7:=FX 9
 have d8:List.take (p.cs.length*7) (AH AP q.cs)=(List.map (List.map V.d ∘ AP) q.cs).flatten:=by
   rw [<-hq,List.take_of_length_le (by rw [Aw B2];omega)];simp [AH,List.map_flatten]
 rw [ho] at d6;have d1:=Ef p (by omega);have d2:=Bq 1 7 [3] (by simp);have d3:=BP 2;have d4:=Ce p.cs hl;have n1:=BG hne;have w3:IntKind.wrap .i64 3=3:=by decide
 rw [h] at d1;rw [show rgB 1 7 [3]=true from by decide] at d2;refine Ct.byD gok func128 LE rfl (by simp [ntmps128]) (by simp) (by simp [Aj]) fun E hE hN=>?_
 unfold p128;simp only [];refine DW.seq gok eok mixed ?_;simp [Ax];refine DW.seq gok eok mixed ?_;simp;refine CLa (d1) ?_;simp [Ax];refine DW.defer2 gok eok mixed 11534336 [(2097152,0),(3145728,0)] [.lp 2097152 0, .lp 3145728 0] rfl rfl rfl (by simp) (by simp) hE fun E'=>?_
 simp [AA,AM,hk,w3];refine CLb (d2) (by simp [AG]) ?_;simp;refine CLa (d3) ?_;simp [AA];refine CLa (d4) ?_;simp [AA];refine AU.mkR _ _ _ _ _ (d5) (by simp) (by simp) (by simp [n1]) (by simp) (by first | (left;simp [hk];done) | (right;simp [n1,n2,BB,hk];done)) ?_;simp;refine CLb (d6) (by first | (simp;done) | simp [CP,d8,hq]) ?_;simp;refine AU.mkR _ _ _ _ _ (d7) (by simp) (by simp) (by simp) (by simp) (by first | (left;simp;done) | (right;simp;done)) ?_;simp [D9];refine Cn.mk _ _ _ (Ds 9) (by simp) (by simp) (by simp) (by simp) (by simp) ?_;simp;refine AB.by (fun _=>none) ?_;simp [results128]
theorem LW (p:Plt) (a:Act) (e:Int) (hl:p.cs.length<=1000000) (h:Ar p=true) (hk:a.k=4) (hne:p.cs≠[]) (d0:Cm prog 200 [.lp 0 0,BZ a] (lk [(0,plB p (.ls 1 0 p.cs.length 7)),(1,AH AP p.cs)]) [] (.pan (Fm e)) (lk [])):Ct prog 128 [Cy p (.d (AX p.cs)),BZ a] (.tup [.agg plZ,vi e]) []:=by
 have d5:=rF d0;have n2:=trivial;have d1:=Ef p (by omega);have d2:=Bq 1 7 [4] (by simp);have d3:=BP 2;have d4:=Ce p.cs hl;have n1:=BG hne;have w3:IntKind.wrap .i64 4=4:=by decide
 rw [h] at d1;rw [show rgB 1 7 [4]=true from by decide] at d2;refine Ct.byD gok func128 LE rfl (by simp [ntmps128]) (by simp) (by simp [Aj]) fun E hE hN=>?_
 unfold p128;simp only [];refine DW.seq gok eok mixed ?_;simp [Ax];refine DW.seq gok eok mixed ?_;simp;refine CLa (d1) ?_;simp [Ax];refine DW.defer2 gok eok mixed 11534336 [(2097152,0),(3145728,0)] [.lp 2097152 0, .lp 3145728 0] rfl rfl rfl (by simp) (by simp) hE fun E'=>?_
 simp [AA,AM,hk,w3];refine CLb (d2) (by simp [AG]) ?_;simp;refine CLa (d3) ?_;simp [AA];refine CLa (d4) ?_;simp [AA];refine AU.mkR _ _ _ _ _ (d5) (by simp) (by simp) (by simp) (by simp) (by first | (left;simp [hk];done) | (right;simp [n1,n2,BB,hk];done)) ?_;simp [D9];refine Cn.mk _ _ _ (Ds e) (by simp) (by simp) (by simp) (by simp) (by simp) ?_;simp;refine AB.by (fun _=>none) ?_;simp [results128]
theorem cT (p q:Plt) (a:Act) (hl:p.cs.length<=1000000) (h:Ar p=true) (hk:a.k=4) (hne:p.cs≠[]) (hq:q.cs.length=p.cs.length) (ho:Ar q=true) (d0:Cm prog 200 [.lp 0 0,BZ a] (lk [(0,plB p (.ls 1 0 p.cs.length 7)),(1,AH AP p.cs)]) [0,1] (.ret (.tup [])) (lk [(0,plB q (.ls 1 0 p.cs.length 7)),(1,AH AP q.cs)])):Ct prog 128 [Cy p (.d (AX p.cs)),BZ a] (.tup [Cy q (.ls 0 0 p.cs.length 7),vi 0]) [(0,AH AP q.cs)]:=by
 have d5:=MZ d0;have n2:AH AP q.cs≠[]:=BG fun e=>by rw [e] at hq;exact hne (List.eq_nil_of_length_eq_zero hq.symm)
 have d6:=Ef q (by omega);have d7:=BP 9
 have d8:List.take (p.cs.length*7) (AH AP q.cs)=(List.map (List.map V.d ∘ AP) q.cs).flatten:=by
   rw [<-hq,List.take_of_length_le (by rw [Aw B2];omega)];simp [AH,List.map_flatten]
 rw [ho] at d6;have d1:=Ef p (by omega);have d2:=Bq 1 7 [4] (by simp);have d3:=BP 2;have d4:=Ce p.cs hl;have n1:=BG hne;have w3:IntKind.wrap .i64 4=4:=by decide
 rw [h] at d1;rw [show rgB 1 7 [4]=true from by decide] at d2;refine Ct.byD gok func128 LE rfl (by simp [ntmps128]) (by simp) (by simp [Aj]) fun E hE hN=>?_
 unfold p128;simp only [];refine DW.seq gok eok mixed ?_;simp [Ax];refine DW.seq gok eok mixed ?_;simp;refine CLa (d1) ?_;simp [Ax];refine DW.defer2 gok eok mixed 11534336 [(2097152,0),(3145728,0)] [.lp 2097152 0, .lp 3145728 0] rfl rfl rfl (by simp) (by simp) hE fun E'=>?_
 simp [AA,AM,hk,w3];refine CLb (d2) (by simp [AG]) ?_;simp;refine CLa (d3) ?_;simp [AA];refine CLa (d4) ?_;simp [AA];refine AU.mkR _ _ _ _ _ (d5) (by simp) (by simp) (by simp [n1]) (by simp) (by first | (left;simp [hk];done) | (right;simp [n1,n2,BB,hk];done)) ?_;simp;refine CLb (d6) (by first | (simp;done) | simp [CP,d8,hq]) ?_;simp;refine CLa (d7) ?_;simp [AA,Iv];refine Cn.mk _ _ _ IT (by simp) (by simp) (by simp) (by simp) (by simp) ?_;simp;refine AB.by (lk [(0,28311552)]) ?_;simp [results128]
theorem WZ (p q:Plt) (a:Act) (hl:p.cs.length<=1000000) (h:Ar p=true) (hk:a.k=4) (hne:p.cs≠[]) (hq:q.cs.length=p.cs.length) (ho:Ar q=false) (d0:Cm prog 200 [.lp 0 0,BZ a] (lk [(0,plB p (.ls 1 0 p.cs.length 7)),(1,AH AP p.cs)]) [0,1] (.ret (.tup [])) (lk [(0,plB q (.ls 1 0 p.cs.length 7)),(1,AH AP q.cs)])):Ct prog 128 [Cy p (.d (AX p.cs)),BZ a] (.tup [.agg plZ,vi 9]) []:=by
 have d5:=MZ d0;have n2:AH AP q.cs≠[]:=BG fun e=>by rw [e] at hq;exact hne (List.eq_nil_of_length_eq_zero hq.symm)
 have d6:=Ef q (by omega);have d7:=FX 9
 have d8:List.take (p.cs.length*7) (AH AP q.cs)=(List.map (List.map V.d ∘ AP) q.cs).flatten:=by
   rw [<-hq,List.take_of_length_le (by rw [Aw B2];omega)];simp [AH,List.map_flatten]
 rw [ho] at d6;have d1:=Ef p (by omega);have d2:=Bq 1 7 [4] (by simp);have d3:=BP 2;have d4:=Ce p.cs hl;have n1:=BG hne;have w3:IntKind.wrap .i64 4=4:=by decide
 rw [h] at d1;rw [show rgB 1 7 [4]=true from by decide] at d2;refine Ct.byD gok func128 LE rfl (by simp [ntmps128]) (by simp) (by simp [Aj]) fun E hE hN=>?_
 unfold p128;simp only [];refine DW.seq gok eok mixed ?_;simp [Ax];refine DW.seq gok eok mixed ?_;simp;refine CLa (d1) ?_;simp [Ax];refine DW.defer2 gok eok mixed 11534336 [(2097152,0),(3145728,0)] [.lp 2097152 0, .lp 3145728 0] rfl rfl rfl (by simp) (by simp) hE fun E'=>?_
 simp [AA,AM,hk,w3];refine CLb (d2) (by simp [AG]) ?_;simp;refine CLa (d3) ?_;simp [AA];refine CLa (d4) ?_;simp [AA];refine AU.mkR _ _ _ _ _ (d5) (by simp) (by simp) (by simp [n1]) (by simp) (by first | (left;simp [hk];done) | (right;simp [n1,n2,BB,hk];done)) ?_;simp;refine CLb (d6) (by first | (simp;done) | simp [CP,d8,hq]) ?_;simp;refine AU.mkR _ _ _ _ _ (d7) (by simp) (by simp) (by simp) (by simp) (by first | (left;simp;done) | (right;simp;done)) ?_;simp [D9];refine Cn.mk _ _ _ (Ds 9) (by simp) (by simp) (by simp) (by simp) (by simp) ?_;simp;refine AB.by (fun _=>none) ?_;simp [results128]
theorem cU (p q:Plt) (a:Act) (hl:p.cs.length<=1000000) (h:Ar p=true) (hk:a.k=7) (hne:p.cs≠[]) (hq:q.cs.length=p.cs.length) (ho:Ar q=true) (d0:Cm prog 203 [.lp 0 0,BZ a] (lk [(0,plB p (.ls 1 0 p.cs.length 7)),(1,AH AP p.cs)]) [0,1] (.ret (.tup [])) (lk [(0,plB q (.ls 1 0 p.cs.length 7)),(1,AH AP q.cs)])):Ct prog 128 [Cy p (.d (AX p.cs)),BZ a] (.tup [Cy q (.ls 0 0 p.cs.length 7),vi 0]) [(0,AH AP q.cs)]:=by
 have d5:=MZ d0;have n2:AH AP q.cs≠[]:=BG fun e=>by rw [e] at hq;exact hne (List.eq_nil_of_length_eq_zero hq.symm)
 have d6:=Ef q (by omega);have d7:=BP 9
 have d8:List.take (p.cs.length*7) (AH AP q.cs)=(List.map (List.map V.d ∘ AP) q.cs).flatten:=by
   rw [<-hq,List.take_of_length_le (by rw [Aw B2];omega)];simp [AH,List.map_flatten]
 rw [ho] at d6;have d1:=Ef p (by omega);have d2:=Bq 1 7 [7] (by simp);have d3:=BP 2;have d4:=Ce p.cs hl;have n1:=BG hne;have w3:IntKind.wrap .i64 7=7:=by decide
 rw [h] at d1;rw [show rgB 1 7 [7]=true from by decide] at d2;refine Ct.byD gok func128 LE rfl (by simp [ntmps128]) (by simp) (by simp [Aj]) fun E hE hN=>?_
 unfold p128;simp only [];refine DW.seq gok eok mixed ?_;simp [Ax];refine DW.seq gok eok mixed ?_;simp;refine CLa (d1) ?_;simp [Ax];refine DW.defer2 gok eok mixed 11534336 [(2097152,0),(3145728,0)] [.lp 2097152 0, .lp 3145728 0] rfl rfl rfl (by simp) (by simp) hE fun E'=>?_
 simp [AA,AM,hk,w3];refine CLb (d2) (by simp [AG]) ?_;simp;refine CLa (d3) ?_;simp [AA];refine CLa (d4) ?_;simp [AA];refine AU.mkR _ _ _ _ _ (d5) (by simp) (by simp) (by simp [n1]) (by simp) (by first | (left;simp [hk];done) | (right;simp [n1,n2,BB,hk];done)) ?_;simp;refine CLb (d6) (by first | (simp;done) | simp [CP,d8,hq]) ?_;simp;refine CLa (d7) ?_;simp [AA,Iv];refine Cn.mk _ _ _ IT (by simp) (by simp) (by simp) (by simp) (by simp) ?_;simp;refine AB.by (lk [(0,28311552)]) ?_;simp [results128]
theorem Wa (p q:Plt) (a:Act) (hl:p.cs.length<=1000000) (h:Ar p=true) (hk:a.k=7) (hne:p.cs≠[]) (hq:q.cs.length=p.cs.length) (ho:Ar q=false) (d0:Cm prog 203 [.lp 0 0,BZ a] (lk [(0,plB p (.ls 1 0 p.cs.length 7)),(1,AH AP p.cs)]) [0,1] (.ret (.tup [])) (lk [(0,plB q (.ls 1 0 p.cs.length 7)),(1,AH AP q.cs)])):Ct prog 128 [Cy p (.d (AX p.cs)),BZ a] (.tup [.agg plZ,vi 9]) []:=by
 have d5:=MZ d0;have n2:AH AP q.cs≠[]:=BG fun e=>by rw [e] at hq;exact hne (List.eq_nil_of_length_eq_zero hq.symm)
 have d6:=Ef q (by omega);have d7:=FX 9
 have d8:List.take (p.cs.length*7) (AH AP q.cs)=(List.map (List.map V.d ∘ AP) q.cs).flatten:=by
   rw [<-hq,List.take_of_length_le (by rw [Aw B2];omega)];simp [AH,List.map_flatten]
 rw [ho] at d6;have d1:=Ef p (by omega);have d2:=Bq 1 7 [7] (by simp);have d3:=BP 2;have d4:=Ce p.cs hl;have n1:=BG hne;have w3:IntKind.wrap .i64 7=7:=by decide
 rw [h] at d1;rw [show rgB 1 7 [7]=true from by decide] at d2;refine Ct.byD gok func128 LE rfl (by simp [ntmps128]) (by simp) (by simp [Aj]) fun E hE hN=>?_
 unfold p128;simp only [];refine DW.seq gok eok mixed ?_;simp [Ax];refine DW.seq gok eok mixed ?_;simp;refine CLa (d1) ?_;simp [Ax];refine DW.defer2 gok eok mixed 11534336 [(2097152,0),(3145728,0)] [.lp 2097152 0, .lp 3145728 0] rfl rfl rfl (by simp) (by simp) hE fun E'=>?_
 simp [AA,AM,hk,w3];refine CLb (d2) (by simp [AG]) ?_;simp;refine CLa (d3) ?_;simp [AA];refine CLa (d4) ?_;simp [AA];refine AU.mkR _ _ _ _ _ (d5) (by simp) (by simp) (by simp [n1]) (by simp) (by first | (left;simp [hk];done) | (right;simp [n1,n2,BB,hk];done)) ?_;simp;refine CLb (d6) (by first | (simp;done) | simp [CP,d8,hq]) ?_;simp;refine AU.mkR _ _ _ _ _ (d7) (by simp) (by simp) (by simp) (by simp) (by first | (left;simp;done) | (right;simp;done)) ?_;simp [D9];refine Cn.mk _ _ _ (Ds 9) (by simp) (by simp) (by simp) (by simp) (by simp) ?_;simp;refine AB.by (fun _=>none) ?_;simp [results128]
end Go.Proofs.Tryz
namespace Go.Proofs.Tryz
open Go.Psl
open Go.Air
set_option maxRecDepth 20000
set_option maxHeartbeats 8000000
theorem fq (p:Plt) (a:Act) (ha:a.n=1):Cm prog 203 [.lp 23068672 0,BZ a] (lk [(23068672,plB p (.ls 28311552 0 0 7)),(28311552,[])]) [23068672] (.ret (.tup [])) (lk [(23068672,plB p (.ls 1 0 0 7)),(1,[])]):=by
 have d1:=Bq 1 1000 [1] (by simp);have d2:=BP 2;rw [show rgB 1 1000 [1]=true from by decide] at d1;have z1:IntKind.wrap .i64 1=1:=by decide
 refine Cm.by gok eok mixed 28311553 func203 qc rfl (by simp [ntmps203]) (by simp) (A7.at (by simp)) (by simp) (by simp [Aj]) fun E hs hE=>?_
 simp [p203,AA,AM,ha]
 repeat ((first | (refine CLr (d1) ?_ ?_ ?_;(focus (simp [AG];done));(focus (first | (left;simp;done) | (right;simp;done)))) | (refine CLr (d2) ?_ ?_ ?_;(focus (simp;done));(focus (first | (left;simp;done) | (right;simp;done)))));simp)
 refine Al (α:=Nat) (fun k=>⟨AO [(0, .lp 23068672 0),(13,vi 1),(14,vi k)],lk [(23068672,plB p (.ls 28311552 0 0 7)),(28311552,[])],28311553⟩) (fun k=>k<=1) (fun k=>1 - k) 0 ?_ ?_ ?_
 . omega
 . refine AI.mkM hs (lk [(23068672,23068672),(28311552,28311552)]) _ _ _ ?_ ?_ ?_ ?_ ?_ ?_<;>simp
 . intro k hk
   match k,hk with
   | 1,_=>
     simp [LG];refine AB.by (lk [(23068672,23068672),(1,28311552)]) ?_;simp [results203]
   | n+2,h=>omega
   | 0,_=>
     simp [LG];refine Al (α:=Nat) (fun i=>⟨AO [(0, .lp 23068672 0),(13,vi 1),(14,vi 0),(21,vi 0),(22,vi i)],lk [(23068672,plB p (.ls 28311552 0 0 7)),(28311552,[])],28311553⟩) (fun i=>i=0) (fun i=>0) 0 ?_ ?_ ?_
     . rfl
     . refine AI.mkM hs (lk [(23068672,23068672),(28311552,28311552)]) _ _ _ ?_ ?_ ?_ ?_ ?_ ?_<;>simp
     . intro i hi
       subst hi;simp [Ng,z1];refine ⟨1,by omega,by omega,?_⟩;refine AI.mkM hs (lk [(23068672,23068672),(28311552,28311552)]) _ _ _ ?_ ?_ ?_ ?_ ?_ ?_<;>simp
theorem i0 {f:FuncId} {p:Plt} {a:Act} {e:Int} (h:Cm prog f [.lp 0 0,BZ a] (lk [(0,plB p (.ls 1 0 0 7))]) [] (.pan (Fm e)) (lk [])):Cm prog f [.lp 23068672 0,BZ a] (lk [(23068672,plB p (.ls 28311552 0 0 7))]) [] (.pan (Fm e)) (lk []):=by
 have:=Cm.rename sgD 2 Nu h (by simp [BW]) (by simp [BW]) (by simp);simpa [Ea,HW,sgD] using this
theorem kz (p:Plt) (a:Act) (h:Ar p=true) (hk:a.k=3) (he:p.cs=[]):Ct prog 128 [Cy p (.d (AX p.cs)),BZ a] (.tup [.agg plZ,vi 2]) []:=by
 have d5:=i0 (gj p a);have d1:=Ef p (by simp [he]);have d2:=Bq 1 7 [3] (by simp);have d3:=BP 2;have d4:=Ce ([]:List Cel) (by simp);have w3:IntKind.wrap .i64 3=3:=by decide
 rw [h,he] at d1;rw [he];rw [show rgB 1 7 [3]=true from by decide] at d2;refine Ct.byD gok func128 LE rfl (by simp [ntmps128]) (by simp) (by simp [Aj]) fun E hE hN=>?_
 unfold p128;simp only [];refine DW.seq gok eok mixed ?_;simp [Ax];refine DW.seq gok eok mixed ?_;simp;refine CLa (d1) ?_;simp [Ax];refine DW.defer2 gok eok mixed 11534336 [(2097152,0),(3145728,0)] [.lp 2097152 0, .lp 3145728 0] rfl rfl rfl (by simp) (by simp) hE fun E'=>?_
 simp [AA,AM,hk,w3];refine CLb (d2) (by simp [AG]) ?_;simp;refine CLa (d3) ?_;simp [AA];refine CLa (d4) ?_;simp [AA];refine AU.mkR _ _ _ _ _ (d5) (by simp [AH]) (by simp) (by simp) (by simp) (by first | (left;simp [hk];done) | (right;simp [hk,AH];done)) ?_;simp [D9];refine Cn.mk _ _ _ (Ds 2) (by simp) (by simp) (by simp) (by simp) (by simp) ?_;simp;refine AB.by (fun _=>none) ?_;simp [results128]
theorem lA (p:Plt) (a:Act) (h:Ar p=true) (hk:a.k=4) (he:p.cs=[]):Ct prog 128 [Cy p (.d (AX p.cs)),BZ a] (.tup [.agg plZ,vi 2]) []:=by
 have d5:=i0 (lg p a);have d1:=Ef p (by simp [he]);have d2:=Bq 1 7 [4] (by simp);have d3:=BP 2;have d4:=Ce ([]:List Cel) (by simp);have w3:IntKind.wrap .i64 4=4:=by decide
 rw [h,he] at d1;rw [he];rw [show rgB 1 7 [4]=true from by decide] at d2;refine Ct.byD gok func128 LE rfl (by simp [ntmps128]) (by simp) (by simp [Aj]) fun E hE hN=>?_
 unfold p128;simp only [];refine DW.seq gok eok mixed ?_;simp [Ax];refine DW.seq gok eok mixed ?_;simp;refine CLa (d1) ?_;simp [Ax];refine DW.defer2 gok eok mixed 11534336 [(2097152,0),(3145728,0)] [.lp 2097152 0, .lp 3145728 0] rfl rfl rfl (by simp) (by simp) hE fun E'=>?_
 simp [AA,AM,hk,w3];refine CLb (d2) (by simp [AG]) ?_;simp;refine CLa (d3) ?_;simp [AA];refine CLa (d4) ?_;simp [AA];refine AU.mkR _ _ _ _ _ (d5) (by simp [AH]) (by simp) (by simp) (by simp) (by first | (left;simp [hk];done) | (right;simp [hk,AH];done)) ?_;simp [D9];refine Cn.mk _ _ _ (Ds 2) (by simp) (by simp) (by simp) (by simp) (by simp) ?_;simp;refine AB.by (fun _=>none) ?_;simp [results128]
theorem lC (p:Plt) (a:Act) (h:Ar p=true) (hk:a.k=7) (hn:a.n=1) (he:p.cs=[]):Ct prog 128 [Cy p (.d (AX p.cs)),BZ a] (.tup [Cy p (.ls 0 0 0 7),vi 0]) [(0,[])]:=by
 have d5:=fq p a hn;have d6:=Ef p (by simp [he]);have d7:=BP 9;rw [h,he] at d6;have d1:=Ef p (by simp [he]);have d2:=Bq 1 7 [7] (by simp);have d3:=BP 2;have d4:=Ce ([]:List Cel) (by simp);have w3:IntKind.wrap .i64 7=7:=by decide
 rw [h,he] at d1;rw [he];rw [show rgB 1 7 [7]=true from by decide] at d2;refine Ct.byD gok func128 LE rfl (by simp [ntmps128]) (by simp) (by simp [Aj]) fun E hE hN=>?_
 unfold p128;simp only [];refine DW.seq gok eok mixed ?_;simp [Ax];refine DW.seq gok eok mixed ?_;simp;refine CLa (d1) ?_;simp [Ax];refine DW.defer2 gok eok mixed 11534336 [(2097152,0),(3145728,0)] [.lp 2097152 0, .lp 3145728 0] rfl rfl rfl (by simp) (by simp) hE fun E'=>?_
 simp [AA,AM,hk,w3];refine CLb (d2) (by simp [AG]) ?_;simp;refine CLa (d3) ?_;simp [AA];refine CLa (d4) ?_;simp [AA];refine AU.mkR _ _ _ _ _ (d5) (by simp [AH]) (by simp) (by simp) (by simp) (by first | (left;simp [hk];done) | (right;simp [hk,AH];done)) ?_;simp;refine CLb (d6) (by first | (simp;done) | simp [CP]) ?_;simp;refine CLa (d7) ?_;simp [AA,Iv];refine Cn.mk _ _ _ IT (by simp) (by simp) (by simp) (by simp) (by simp) ?_;simp;refine AB.by (lk [(0,39845889)]) ?_;simp [results128]
def Hm (q:Plt):Except Int Plt:=if Ar q then .ok q else .error 9
def vlP (p:Plt) (a:Act) (c:Cel):Plt:={p with vh:=p.vh+BQ c a.n,va:=p.va+(a.n - BQ c a.n),cs:=p.cs.set a.c.toNat (I0 c a.n)}
def mvP (p:Plt) (a:Act) (c e:Cel):Plt:={p with cs:=(p.cs.set a.c.toNat (I0 c a.n)).set a.t.toNat (gg e (BQ c a.n) (a.n - BQ c a.n))}
def vlS (p:Plt) (a:Act):Except Int Plt:=if inA p.cs.length a then match p.cs[a.c.toNat]? with | none=> .error 2 | some c=>if a.n<=c.he+c.ai then Hm (vlP p a c) else .error 6 else .error 2
def mvS (p:Plt) (a:Act):Except Int Plt:=if inA p.cs.length a then (if inT p.cs.length a then match p.cs[a.c.toNat]?,p.cs[a.t.toNat]? with | some c,some e=>if a.n<=c.he+c.ai then Hm (mvP p a c e) else .error 6 | _,_=> .error 2 else .error 2) else .error 2
def tkQ (p:Plt):Plt:={tkP p p.cs p.cs.length with cs:=p.cs.map tkC}
def doS (p:Plt) (a:Act):Except Int Plt:=if Ar p then (if a.k=3 then vlS p a else if a.k=4 then mvS p a else Hm (tkQ p)) else .error 32
def doV:Except Int Plt->V
 | .ok q=> .tup [Cy q (.d (AX q.cs)),vi 0]
 | .error e=> .tup [.agg plZ,vi e]
theorem Ta {q:Plt} {n:Nat} {args:List V} (hn:q.cs.length=n) (h:Ct prog 128 args (.tup [Cy q (.ls 0 0 n 7),vi 0]) [(0,AH AP q.cs)]):Ct prog 128 args (doV (.ok q)) []:=by
 refine Cm.freeze h ?_;subst hn
 have hb:Df (lk [(0,AH AP q.cs)]) (.ls 0 0 q.cs.length 7) (.d (AX q.cs)):=by
   have:=B0 (H:=lk [(0,AH AP q.cs)]) (id:=0) B2 (l:=q.cs) (by simp);exact this
 have z:∀ x:Int,FzC (lk [(0,AH AP q.cs)]) (vi x) (vi x):=fun x=>⟨_,rfl, .inl rfl⟩
 exact ⟨⟨⟨_,rfl,hb⟩,z _,z _,z _,z _,z _,z _,z _,z _,z _,trivial⟩, .inl rfl,trivial⟩
theorem CS {p:Plt} (h:Ar p=true):p.cs.length<=12:=by
 unfold Ar IR at h;simp only [Bool.and_eq_true,decide_eq_true_eq] at h;exact h.1.1.1.1
theorem Dx {p:Plt} (h:Ar p=true):∀ c∈p.cs,B5 c:=fun c hc=>by
 unfold Ar at h;simp only [Bool.and_eq_true] at h;exact Dm.1 (List.all_eq_true.1 h.1.2 c hc)
theorem K7 {p:Plt} (h:Ar p=true):(Li p).all bkB=true:=by
 unfold Ar IR at h;simp only [Bool.and_eq_true] at h;exact h.1.1.2
theorem Zm {cs:List Cel} {a:Act} (h:inA cs.length a=true):∃ c,cs[a.c.toNat]?= some c:=by
 have:=EQ.1 h;exact ⟨_,List.getElem?_eq_getElem (by omega)⟩
theorem lE {cs:List Cel} {a:Act} (h:inT cs.length a=true):∃ c,cs[a.t.toNat]?= some c:=by
 unfold inT rgB at h;simp at h;exact ⟨_,List.getElem?_eq_getElem (by omega)⟩
theorem NP {p q:Plt} {a:Act} (h1:Ar q=true->Ct prog 128 [Cy p (.d (AX p.cs)),BZ a] (doV (.ok q)) []) (h2:Ar q=false->Ct prog 128 [Cy p (.d (AX p.cs)),BZ a] (.tup [.agg plZ,vi 9]) []):Ct prog 128 [Cy p (.d (AX p.cs)),BZ a] (doV (Hm q)) []:=by
 unfold Hm;cases h:Ar q
 . simpa [doV] using h2 h
 . simpa using h1 h
theorem do_3 (p:Plt) (a:Act) (h:Ar p=true) (hk:a.k=3):Ct prog 128 [Cy p (.d (AX p.cs)),BZ a] (doV (doS p a)) []:=by
 have hl:=CS h;have hcs:=Dx h;obtain ⟨_,_,v1,v2,_⟩:=K9 (K7 h);have e:doS p a=vlS p a:=by simp [doS,h,hk]
 rw [e];by_cases he:p.cs=[]
 . have:inA p.cs.length a=false:=by
     cases hx:inA p.cs.length a
     . rfl
     . have:=EQ.1 hx;rw [he] at this;simp at this;omega
   have e2:vlS p a= .error 2:=by simp [vlS,this]
   rw [e2];exact kz p a h hk he
 . cases hx:inA p.cs.length a with
   | false=>
     have e2:vlS p a= .error 2:=by simp [vlS,hx]
     rw [e2];exact Py p a 2 (by omega) h hk he (Vw p p.cs a (by omega) he hx)
   | true=>
     obtain ⟨c,hc⟩:=Zm hx;have hb:=hcs c (List.mem_of_getElem? hc);by_cases hn:a.n<=c.he+c.ai
     . have e2:vlS p a=Hm (vlP p a c):=by simp [vlS,hx,hc,hn]
       rw [e2];have d:=aV p p.cs a c (by omega) hx hc hb hn v1 v2;have hq:(vlP p a c).cs.length=p.cs.length:=by simp [vlP]
       exact NP (fun ho=>Ta hq (cS p (vlP p a c) a (by omega) h hk he hq ho d)) fun ho=>WY p (vlP p a c) a (by omega) h hk he hq ho d
     . have e2:vlS p a= .error 6:=by simp [vlS,hx,hc,hn]
       rw [e2];exact Py p a 6 (by omega) h hk he (Vx p p.cs a c (by omega) hx hc hb (by omega))
theorem do_4 (p:Plt) (a:Act) (h:Ar p=true) (hk:a.k=4):Ct prog 128 [Cy p (.d (AX p.cs)),BZ a] (doV (doS p a)) []:=by
 have hl:=CS h;have hcs:=Dx h;have e:doS p a=mvS p a:=by simp [doS,h,hk]
 rw [e];by_cases he:p.cs=[]
 . have:inA p.cs.length a=false:=by
     cases hx:inA p.cs.length a
     . rfl
     . have:=EQ.1 hx;rw [he] at this;simp at this;omega
   have e2:mvS p a= .error 2:=by simp [mvS,this]
   rw [e2];exact lA p a h hk he
 . cases hx:inA p.cs.length a with
   | false=>
     have e2:mvS p a= .error 2:=by simp [mvS,hx]
     rw [e2];exact LW p a 2 (by omega) h hk he (an p p.cs a (by omega) he hx)
   | true=>
     cases ht:inT p.cs.length a with
     | false=>
       have e2:mvS p a= .error 2:=by simp [mvS,hx,ht]
       rw [e2];exact LW p a 2 (by omega) h hk he (ap p p.cs a (by omega) hx ht)
     | true=>
       obtain ⟨c,hc⟩:=Zm hx;obtain ⟨g,hg⟩:=lE ht;have hb:=hcs c (List.mem_of_getElem? hc);have hbg:=hcs g (List.mem_of_getElem? hg);by_cases hn:a.n<=c.he+c.ai
       . have e2:mvS p a=Hm (mvP p a c g):=by simp [mvS,hx,ht,hc,hg,hn]
         rw [e2];have d:=gi p p.cs a c g (by omega) hx ht hc hg hb hbg hn;have hq:(mvP p a c g).cs.length=p.cs.length:=by simp [mvP]
         exact NP (fun ho=>Ta hq (cT p (mvP p a c g) a (by omega) h hk he hq ho d)) fun ho=>WZ p (mvP p a c g) a (by omega) h hk he hq ho d
       . have e2:mvS p a= .error 6:=by simp [mvS,hx,ht,hc,hg,hn]
         rw [e2];exact LW p a 6 (by omega) h hk he (aq p p.cs a c (by omega) hx ht hc hb (by omega))
theorem do_7 (p:Plt) (a:Act) (h:Ar p=true) (hk:a.k=7) (h1:a.n=1):Ct prog 128 [Cy p (.d (AX p.cs)),BZ a] (doV (doS p a)) []:=by
 have hl:=CS h;have hcs:=Dx h;obtain ⟨_,_,_,_,v1,v2,_⟩:=K9 (K7 h);have e:doS p a=Hm (tkQ p):=by simp [doS,h,hk]
 rw [e];by_cases he:p.cs=[]
 . have e3:tkQ p=p:=by
     unfold tkQ tkP tkH tkA;cases p;simp at he;simp [he]
   rw [e3];refine NP (fun _=>Ta (by rw [he]) ?_) fun ho=>by rw [h] at ho;cases ho
   have:=lC p a h hk h1 he;rw [show AH AP p.cs=[] by rw [he];rfl];exact this
 . have d:=iQ p p.cs a hl he h1 hcs v1 v2
   have hq:(tkQ p).cs.length=p.cs.length:=by simp [tkQ]
   exact NP (fun ho=>Ta hq (cU p (tkQ p) a (by omega) h hk he hq ho d)) fun ho=>Wa p (tkQ p) a (by omega) h hk he hq ho d
theorem fv (l:List Cel) (hl:l.length<=1000000):Ct prog 127 [.d (AX l)] (.d (AX l)) []:=by
 refine Cm.freeze (Ce l hl) ?_;exact B0 (H:=lk [(0,AH AP l)]) (id:=0) B2 (l:=l) (by simp)
def B7 (p:Plt):List Act->Nat->Plt × Nat × Int
 | [],_=>(p,0,0)
 | a::r,i=>match doS p a with
   | .ok q=>B7 q r (i+1)
   | .error e=>(p,i,e)
theorem fw {p q:Plt} (h:Hm p= .ok q):Ar q=true:=by
 unfold Hm at h;split at h
 . cases h;assumption
 . cases h
theorem Zn {p q:Plt} {a:Act} (h:doS p a= .ok q):Ar q=true:=by
 unfold doS vlS mvS at h
 repeat' split at h
 all_goals first | exact fw h | cases h
theorem K8 {p:Plt} {e:Int} (h:Hm p= .error e):e=9:=by
 unfold Hm at h;split at h
 . cases h
 . cases h;rfl
theorem Tb {p:Plt} {a:Act} {e:Int} (h:doS p a= .error e):¬ e=0:=by
 unfold doS vlS mvS at h
 repeat' split at h
 all_goals first | (have:=K8 h;omega) | (cases h;omega)
theorem pq (p:Plt) (a:Act) (h:Ar p=true) (hk:a.k=3\/a.k=4):Ct prog 128 [Cy p (.d (AX p.cs)),BZ a] (doV (doS p a)) []:=by
 rcases hk with hk | hk
 . exact do_3 p a h hk
 . exact do_4 p a h hk
theorem fn60 (p:Plt) (l:List Act) (h:Ar p=true) (hl:l.length<=200) (hk:∀ a∈l,a.k=3\/a.k=4):Ct prog 60 [Cy p (.d (AX p.cs)), .d (JZ l)] (.tup [Cy (B7 p l 0).1 (.d (AX (B7 p l 0).1.cs)),vi (B7 p l 0).2.1,vi (B7 p l 0).2.2]) []:=by
 have hp:=CS h;have d1:=Ef p (by omega);have d2:=fv p.cs (by omega);have g:¬ (l.length:Int) > 200:=by omega
 have g2:¬ (200:Int) < l.length:=by omega
 rw [h] at d1;obtain ⟨R,hR⟩:∃ R,B7 p l 0=R:=⟨_,rfl⟩
 rw [hR];refine CB func60 c60 (by simp [ntmps60]) fun E hE=>?_
 simp [p60];refine CLa (d1) ?_;simp [AA,g];refine CLa (d2) ?_;simp [AA];refine Al (α:=Nat × Plt) (fun x=>⟨AO [(4, .lp 0 0),(27, .d (JZ l)),(28,vi l.length),(29,vi x.1)],lk [(0,plB x.2 (.d (AX x.2.cs)))],1⟩) (fun x=>x.1<=l.length/\Ar x.2=true/\B7 x.2 (l.drop x.1) x.1=R) (fun x=>l.length - x.1) (0,p) ?_ ?_ ?_
 . exact ⟨by simp,h,by simpa using hR⟩
 . refine AI.mk hE (lk [(0,1048576)]) _ _ _ ?_ ?_ ?_ ?_ ?_<;>simp
 . rintro ⟨i,q⟩ ⟨hi,hq,hr⟩
   simp only at hi hq hr;have w:IntKind.wrap .i64 ((i:Int)+1)=((i+1:Nat):Int):=by rw [AD (by omega) (by omega)];rfl
   by_cases hi2:i < l.length
   . obtain ⟨a,ha⟩:∃ a,l[i]?= some a:=⟨_,List.getElem?_eq_getElem hi2⟩
     have d3:=pq q a hq (hk a (List.mem_of_getElem? ha))
     have e1:l.drop i=a::l.drop (i+1):=by
       rw [List.drop_eq_getElem_cons hi2];rw [List.getElem?_eq_getElem hi2] at ha;cases ha;rfl
     have hiI:(i:Int) < l.length:=by omega
     rw [e1,B7] at hr;cases hd:doS q a with
     | ok q2=>
       rw [hd] at d3 hr;simp only [doV] at d3;have hq2:=Zn hd;simp [Tj,AA,hiI,ha];refine CLa (d3) ?_;simp [AA,w];refine ⟨i+1,q2,⟨by omega,hq2,hr⟩,by omega,?_⟩;refine AI.mk hE (lk [(0,0)]) _ _ _ ?_ ?_ ?_ ?_ ?_<;>simp
     | error e=>
       rw [hd] at d3 hr;simp only [doV] at d3;have he:=Tb hd;simp [Tj,AA,hiI,ha];refine CLa (d3) ?_;simp [AA,he];refine AB.by (fun _=>none) ?_;subst hr;simp [results60]
   . have e1:l.drop i=[]:=List.drop_eq_nil_of_le (by omega)
     rw [e1,B7] at hr;subst hr;have hiI:¬ (i:Int) < l.length:=by omega
     simp [Tj,AA,hiI];refine AB.by (fun _=>none) ?_;simp [results60]
def jK (k:Sky):Bool:=decide (24 < k.s.length)||decide (24 < k.w.length)
def grA (k:Sky) (r:Rig) (s:Shp) (l:List Leg):Bool:=jK k||decide (80 < r.reg.length)||decide (20 < s.gas.cs.length)||grL l
theorem l0 {k:Sky} {r:Rig} {s:Shp} {l:List Leg} (h:grA k r s l=false):(k.s.length<=24/\k.w.length<=24)/\r.reg.length<=80/\s.gas.cs.length<=20/\l.length<=30/\∀ x∈l,x.acts.length<=20:=by
 unfold grA jK at h;rw [M6] at h;simp only [Bool.or_eq_false_iff,decide_eq_false_iff_not,List.any_eq_false,decide_eq_true_eq] at h;obtain ⟨⟨⟨⟨h1,h2⟩,h3⟩,h4⟩,⟨h5,h6⟩,_⟩:=h;exact ⟨⟨by omega,by omega⟩,by omega,by omega,by omega,fun x hx=>by have:=h6 x hx;omega⟩
theorem fn29 (k:Sky) (r:Rig) (s:Shp) (l:List Leg):Ct prog 29 [Eu k,Fj r,Cl s (.d (AX s.gas.cs)), .d (Bs l)] (vb (grA k r s l)) []:=by
 have c1:=fn18 k;have c2:=fn84 r;have c3:=fn19 s;have c4:=fn85 l;have e:grA k r s l=((decide (24 < k.s.length)||decide (24 < k.w.length))||decide (80 < r.reg.length)||decide (20 < s.gas.cs.length)||grL l):=rfl;rw [e]
 generalize (decide (24 < k.s.length)||decide (24 < k.w.length))=b1 at*
 generalize decide (80 < r.reg.length)=b2 at*
 generalize decide (20 < s.gas.cs.length)=b3 at*
 generalize grL l=b4 at*
 cases b1
 . cases b2
   . cases b3
     . refine CB func29 c29 (by simp [ntmps29]) fun E hE=>?_
       simp [p29]
       repeat ((first | (refine CLr (c1) ?_ ?_ ?_;(focus (simp;done));(focus (first | (left;simp;done) | (right;simp;done)))) | (refine CLr (c2) ?_ ?_ ?_;(focus (simp;done));(focus (first | (left;simp;done) | (right;simp;done)))) | (refine CLr (c3) ?_ ?_ ?_;(focus (simp;done));(focus (first | (left;simp;done) | (right;simp;done)))) | (refine CLr (c4) ?_ ?_ ?_;(focus (simp;done));(focus (first | (left;simp;done) | (right;simp;done)))));simp)
       refine AB.by (fun _=>none) ?_;simp [results29]
     . refine CB func29 c29 (by simp [ntmps29]) fun E hE=>?_
       simp [p29]
       repeat ((first | (refine CLr (c1) ?_ ?_ ?_;(focus (simp;done));(focus (first | (left;simp;done) | (right;simp;done)))) | (refine CLr (c2) ?_ ?_ ?_;(focus (simp;done));(focus (first | (left;simp;done) | (right;simp;done)))) | (refine CLr (c3) ?_ ?_ ?_;(focus (simp;done));(focus (first | (left;simp;done) | (right;simp;done)))) | (refine CLr (c4) ?_ ?_ ?_;(focus (simp;done));(focus (first | (left;simp;done) | (right;simp;done)))));simp)
       refine AB.by (fun _=>none) ?_;simp [results29]
   . refine CB func29 c29 (by simp [ntmps29]) fun E hE=>?_
     simp [p29]
     repeat ((first | (refine CLr (c1) ?_ ?_ ?_;(focus (simp;done));(focus (first | (left;simp;done) | (right;simp;done)))) | (refine CLr (c2) ?_ ?_ ?_;(focus (simp;done));(focus (first | (left;simp;done) | (right;simp;done)))) | (refine CLr (c3) ?_ ?_ ?_;(focus (simp;done));(focus (first | (left;simp;done) | (right;simp;done)))) | (refine CLr (c4) ?_ ?_ ?_;(focus (simp;done));(focus (first | (left;simp;done) | (right;simp;done)))));simp)
     refine AB.by (fun _=>none) ?_;simp [results29]
 . refine CB func29 c29 (by simp [ntmps29]) fun E hE=>?_
   simp [p29]
   repeat ((first | (refine CLr (c1) ?_ ?_ ?_;(focus (simp;done));(focus (first | (left;simp;done) | (right;simp;done)))) | (refine CLr (c2) ?_ ?_ ?_;(focus (simp;done));(focus (first | (left;simp;done) | (right;simp;done)))) | (refine CLr (c3) ?_ ?_ ?_;(focus (simp;done));(focus (first | (left;simp;done) | (right;simp;done)))) | (refine CLr (c4) ?_ ?_ ?_;(focus (simp;done));(focus (first | (left;simp;done) | (right;simp;done)))));simp)
   refine AB.by (fun _=>none) ?_;simp [results29]
theorem CR {s:Shp} (h:A6 s=true):Ar s.gas=true:=by
 unfold A6 at h;simp only [Bool.and_eq_true] at h;exact h.2
theorem MF {s:Shp} (h:A6 s=true):((0<=s.dry/\s.dry<=1000000000)/\0<=s.bal/\s.bal<=1000000000)/\0<=s.drp/\s.drp<=1000000000000:=by
 unfold A6 at h;simp only [Bool.and_eq_true] at h;have h1:=h.1.1.2;have h2:=h.1.2;simp [rgB] at h1 h2;omega
theorem Kz {l:Leg} (h:BE l=true):l.acts.length<=12/\(∀ a∈l.acts,a.k=3\/a.k=4)/\0<=l.dr/\l.dr<=1000000000:=by
 unfold BE at h;simp only [Bool.and_eq_true,decide_eq_true_eq] at h;have h1:=h.1.1.2;simp [rgB] at h1;refine ⟨h.1.2,fun a ha=>?_,by omega⟩;have:=List.all_eq_true.1 h.2 a ha;simpa [Cb] using this
def Ep (s:Shp) (l:Leg):Except Int Shp:=
 if (B7 s.gas l.acts 0).2.2=0 then
   (if s.bal < l.dr then .error 2 else if 1000000000000 < s.drp+l.dr then .error 9
     else .ok {s with gas:=(B7 s.gas l.acts 0).1,bal:=s.bal - l.dr,drp:=s.drp+l.dr})
 else .error (B7 s.gas l.acts 0).2.2
abbrev shZ:List V:=[vi 0,vi 0,vi 0,vi 0,vi 0,vi 0,vi 0,vi 0,vi 0,vi 0,vi 0,vi 0,vi 0,vi 0,vi 0, .d (.lit (.slice none 0 0)),vi 0,vi 0,vi 0,vi 0,vi 0,vi 0,vi 0,vi 0,vi 0]
def Oy:Except Int Shp->V
 | .ok s=> .tup [Cl s (.d (AX s.gas.cs)),vi 0]
 | .error e=> .tup [.agg shZ,vi e]
theorem pP (s:Shp) (l:Leg) (hs:A6 s=true) (hl:BE l=true):Ct prog 96 [Cl s (.d (AX s.gas.cs)),WK l] (Oy (Ep s l)) []:=by
 have q1:=Kz hl;have q2:=MF hs;have d1:=fn60 s.gas l.acts (CR hs) (by omega) q1.2.1;have w1:IntKind.wrap .i64 (s.drp+l.dr)=s.drp+l.dr:=AD (by omega) (by omega);have w2:IntKind.wrap .i64 (s.bal - l.dr)=s.bal - l.dr:=AD (by omega) (by omega);unfold Ep
 generalize B7 s.gas l.acts 0=R at*
 obtain ⟨q,i,e⟩:=R;simp only at d1;simp only;by_cases he:e=0
 . rw [if_pos he]
   by_cases h2:s.bal < l.dr
   . rw [if_pos h2]
     simp only [Oy];refine CB func96 c96 (by simp [ntmps96]) fun E hE=>?_
     simp [p96];refine CLa (d1) ?_;simp [AA,he,h2];refine AB.by (fun _=>none) ?_;simp [results96]
   . rw [if_neg h2]
     by_cases h3:1000000000000 < s.drp+l.dr
     . rw [if_pos h3]
       simp only [Oy];refine CB func96 c96 (by simp [ntmps96]) fun E hE=>?_
       simp [p96];refine CLa (d1) ?_;simp [AA,he,h2,w1,h3];refine AB.by (fun _=>none) ?_;simp [results96]
     . rw [if_neg h3]
       simp only [Oy];refine CB func96 c96 (by simp [ntmps96]) fun E hE=>?_
       simp [p96];refine CLa (d1) ?_;simp [AA,he,h2,w1,h3];refine AL [(12,0),(14,0)] (by kernel_rfl) ?_;simp [AA,w1,w2,inC,Nat.testBit];refine AB.by (fun _=>none) ?_;simp [results96]
 . rw [if_neg he]
   simp only [Oy];refine CB func96 c96 (by simp [ntmps96]) fun E hE=>?_
   simp [p96];refine CLa (d1) ?_;simp [AA,he];refine AB.by (fun _=>none) ?_;simp [results96]
def mhS (s:Shp) (l:Leg):Int × Int:=(min s.hl (s.hl+l.ul),max s.hh (s.hh+l.uh))
def DY (r:Rig) (l:Leg):Int × Int:=(Ja (l.bl,l.bh) (r.gl,r.gh) (100,100)).1
def Cj (k:Sky) (r:Rig) (s:Shp) (l:Leg):Shp:=
 {s with
   xl:=s.xl+6*(l.axl+(Jr k.w (mhS s l)).1),xh:=s.xh+6*(l.axh+(Jr k.w (mhS s l)).2)
   yl:=s.yl+6*(l.ayl+(Js k.w (mhS s l)).1),yh:=s.yh+6*(l.ayh+(Js k.w (mhS s l)).2)
   hl:=s.hl+l.ul,hh:=s.hh+l.uh
   fl:=s.fl - l.bh,fh:=s.fh - l.bl
   wl:=min (s.wl+(DY r l).1) r.tank,wh:=min (s.wh+(DY r l).2) r.tank
   bl:=s.bl+l.bl,bh:=s.bh+l.bh
   gas:=tkQ s.gas}
def KG (s n:Shp):Shp:={n with fh:=s.fh,wl:=min s.wl n.wl,wh:=max s.wh n.wh}
def sqN (a b:Int):Int:=max (max 0 a) (-b)*max (max 0 a) (-b)
def sqF (a b:Int):Int:=max (-a) b*max (-a) b
def Nz (xl xh yl yh:Int):(Int × Int) × Int:=LB (sqN xl xh+sqN yl yh,sqF xl xh+sqF yl yh)
def N1 (l:Leg):Int × Int:=(Nz l.axl l.axh l.ayl l.ayh).1
def UC (n:Shp):Bool:=spB (-10000000) 10000000 n.xl n.xh&&spB (-10000000) 10000000 n.yl n.yh
def ER (k:Sky) (r:Rig) (s:Shp) (l:Leg):Int × Int:=
 if (mhS s l).1 < r.lo then (1,0) else if r.hi < (mhS s l).2 then (2,0)
 else if 0<=ixF (EK (atA k.s (mhS s l).1 (mhS s l).2).1) (tkQ s.gas).cs then (3,ixF (EK (atA k.s (mhS s l).1 (mhS s l).2).1) (tkQ s.gas).cs)
 else if s.fl - l.bh < r.rsv then (4,0)
 else if Il r.reg (N1 l) (hvS (KG s (Cj k r s l)) (atA k.s (mhS s l).1 (mhS s l).2).1)=false then (5,0)
 else if UC (Cj k r s l)=false then (6,0) else (0,0)
def HK (k:Sky) (r:Rig) (s:Shp) (l:Leg):Except (Int × Int × Int) Shp:=
 if (ER k r s l).1=0 then (if 1000000000000 < s.bh+l.bh then .error (9,0,0) else .ok (Cj k r s l)) else .error (54,ER k r s l)
theorem jY (cs:List Cel):heS (cs.map tkC)+(cs.map fun c=>BQ c (tkN c)).sum=heS cs:=by
 unfold heS;induction cs with
 | nil=>simp
 | cons c r ih=>
   have e:(tkC c).he=c.he - BQ c (tkN c):=rfl;simp only [List.map_cons,List.sum_cons];rw [e];omega
theorem jZ (cs:List Cel):aiS (cs.map tkC)+(cs.map fun c=>tkN c - BQ c (tkN c)).sum=aiS cs:=by
 unfold aiS;induction cs with
 | nil=>simp
 | cons c r ih=>
   have e:(tkC c).ai=c.ai - (tkN c - BQ c (tkN c)):=rfl;simp only [List.map_cons,List.sum_cons];rw [e];omega
theorem ja {c:Cel} (h:B5 c):B5 (tkC c):=by
 have h1:=SY h;have h2:=h.he;have h3:=h.ai;have h4:=cY h;unfold tkC I0;refine ⟨h.rm,by simp only;omega,by simp only;omega,h.w,h.lk,by simp only;omega⟩
theorem jb {l:List Cel} (h:∀ c∈l,B5 c):0<=heS l/\0<=aiS l:=by
 unfold heS aiS;induction l with
 | nil=>simp
 | cons c r ih=>
   have h1:=(h c (by simp)).he;have h2:=(h c (by simp)).ai;have:=ih fun x hx=>h x (by simp [hx])
   simp only [List.map_cons,List.sum_cons];omega
theorem Wl {p:Plt} (h:Ar p=true):p.bt+p.vh+p.lh+p.ph+heS p.cs=p.ih/\p.va+p.la+p.pa+aiS p.cs=p.ia:=by
 unfold Ar at h;simp only [Bool.and_eq_true,decide_eq_true_eq] at h;exact h.2
theorem Wm {p:Plt} (h:Ar p=true):0<=p.bt/\p.bt<=10000000:=by
 unfold Ar IR at h;simp only [Bool.and_eq_true] at h;have:=h.1.1.1.2;simp [rgB] at this;omega
theorem P4 {p:Plt} (h1:p.cs.length<=12) (h2:0<=p.bt/\p.bt<=10000000) (h3:∀ c∈p.cs,B5 c) (h4:p.bt+p.vh+p.lh+p.ph+heS p.cs=p.ih/\p.va+p.la+p.pa+aiS p.cs=p.ia) (hp:(0<=p.vh/\0<=p.va)/\(0<=p.lh/\0<=p.la)/\0<=p.ph/\0<=p.pa) (h5:p.ih<=1000000000000/\p.ia<=1000000000000):Ar p=true:=by
 have h6:=jb h3;unfold Ar IR;simp only [Bool.and_eq_true,decide_eq_true_eq];refine ⟨⟨⟨⟨h1,by simp [rgB];omega⟩,?_⟩,List.all_eq_true.2 fun c hc=>Dm.2 (h3 c hc)⟩,h4⟩;unfold Li bkB rgB;simp;omega
theorem Md {p:Plt} (h:Ar p=true):Ar (tkQ p)=true:=by
 have hl:=CS h;have hc:=Dx h;have he:=Wl h;have hb:=Wm h;obtain ⟨b1,b2,b3,b4,b5,b6,b7,b8⟩:=K9 (K7 h);have k1:=jY p.cs;have k2:=jZ p.cs;have k3:=SZ hc p.cs.length (Nat.le_refl _);have e1:tkH p.cs p.cs.length=(p.cs.map fun c=>BQ c (tkN c)).sum:=by unfold tkH;rw [List.take_length]
 have e2:tkA p.cs p.cs.length=(p.cs.map fun c=>tkN c - BQ c (tkN c)).sum:=by unfold tkA;rw [List.take_length]
 refine P4 (by simpa [tkQ] using hl) hb (fun c hcc=>?_) ?_ ?_ ?_
 . simp only [tkQ,List.mem_map] at hcc
   obtain ⟨x,hx,rfl⟩:=hcc;exact ja (hc x hx)
 . simp only [tkQ,tkP];omega
 . simp only [tkQ,tkP];omega
 . simp only [tkQ,tkP];omega
theorem GJ {x y:Int} (hx:0<=x/\x<=1000000) (hy:0<=y/\y<=120):Eg x y 100=(x*y / 100,(x*y+99) / 100):=by
 have h1:0<=x*y:=Int.mul_nonneg hx.1 hy.1;have h2:x*y<=1000000*120:=Int.mul_le_mul hx.2 hy.2 hy.1 (by omega);unfold Eg;rw [show max x (-x)=x by omega,show max y (-y)=y by omega,decide_eq_false (by omega:¬ x < 0),decide_eq_false (by omega:¬ y < 0)];unfold Da upS
 generalize x*y=z at*
 rw [if_pos (show z / 100 < 2199023255552 by omega)];simp only [bne_self_eq_false,Bool.false_eq_true,if_false];refine Prod.ext rfl ?_
 show (if 0 < z % 100 then z / 100+1 else z / 100)=(z+99) / 100
 split<;>omega
theorem Me {r:Rig} {l:Leg} (hl:0<=l.bl/\l.bl<=l.bh/\l.bh<=1000000) (hr:0<=r.gl/\r.gl<=r.gh/\r.gh<=120):Ja (l.bl,l.bh) (r.gl,r.gh) (100,100)=((l.bl*r.gl / 100,(l.bh*r.gh+99) / 100),0):=by
 have o1:okS (l.bl,l.bh)=true:=CT.2 (by simp only;omega);have o2:okS (r.gl,r.gh)=true:=CT.2 (by simp only;omega);have o3:okS (100,100)=true:=by decide
 have p0:0<=l.bl*r.gl:=Int.mul_nonneg (by omega) (by omega);have p1:l.bl*r.gl<=l.bh*r.gl:=Int.mul_le_mul_of_nonneg_right (by omega) (by omega);have p2:l.bl*r.gl<=l.bl*r.gh:=Int.mul_le_mul_of_nonneg_left (by omega) (by omega);have p3:l.bh*r.gl<=l.bh*r.gh:=Int.mul_le_mul_of_nonneg_left (by omega) (by omega);have p4:l.bl*r.gh<=l.bh*r.gh:=Int.mul_le_mul_of_nonneg_right (by omega) (by omega);have p5:l.bh*r.gh<=1000000*120:=Int.mul_le_mul (by omega) (by omega) (by omega) (by omega);unfold Ja;rw [o1,o2,o3];simp only [Bool.and_self,if_true,show ¬ (100:Int) < 1 by omega,if_false];unfold Lx HO Bu FY;simp only [List.foldl_cons,List.foldl_nil,show ¬ ((0:Nat) % 2=1) by decide,show ((1:Nat) % 2=1) by decide,if_true,if_false,ite_self];rw [GJ (by omega) (by omega),GJ (by omega) (by omega),GJ (by omega) (by omega),GJ (by omega) (by omega)];simp only;unfold JH
 generalize l.bl*r.gl=a at*
 generalize l.bh*r.gl=b at*
 generalize l.bl*r.gh=c at*
 generalize l.bh*r.gh=d at*
 rw [if_neg (by simp only;omega)];simp only [Prod.mk.injEq,and_true];omega
structure P5 (r:Rig):Prop where
 g:0<=r.gl/\r.gl<=r.gh/\r.gh<=120
 t:0<=r.tank/\r.tank<=1000000000
 v:0<=r.rsv/\r.rsv<=1000000000
 h: -500<=r.lo/\r.lo<=r.hi/\r.hi<=9000
 r:C7 r.reg=true
theorem Hy {r:Rig} (h:CF r=true):P5 r:=by
 unfold CF at h;simp only [Bool.and_eq_true,CC] at h;obtain ⟨⟨⟨h1,h2⟩,h3⟩,h4⟩:=h;simp [rgB] at h2;exact ⟨h1,by omega,by omega,h3,h4⟩
structure Wn (l:Leg):Prop where
 m:1<=l.m/\l.m<=600
 x: -1000<=l.axl/\l.axl<=l.axh/\l.axh<=1000
 y: -1000<=l.ayl/\l.ayl<=l.ayh/\l.ayh<=1000
 u: -300<=l.ul/\l.ul<=l.uh/\l.uh<=300
 b:0<=l.bl/\l.bl<=l.bh/\l.bh<=1000000
theorem Mf {l:Leg} (h:BE l=true):Wn l:=by
 have hm:=G5 h;unfold BE at h;simp only [Bool.and_eq_true,CC] at h;exact ⟨hm,h.1.1.1.1.1.2.1,h.1.1.1.1.1.2.2,h.1.1.1.1.2,h.1.1.1.2⟩
structure mU (s:Shp):Prop where
 x: -10000000<=s.xl/\s.xl<=s.xh/\s.xh<=10000000
 y: -10000000<=s.yl/\s.yl<=s.yh/\s.yh<=10000000
 b:0<=s.bl/\s.bl<=s.bh/\s.bh<=1000000000000
 p:0<=s.drp/\s.drp<=1000000000000
theorem Hz {s:Shp} (h:A6 s=true):mU s:=by
 have hn:=MF h;unfold A6 at h;simp only [Bool.and_eq_true,CC] at h;exact ⟨h.1.1.1.1.1.1.1,h.1.1.1.1.1.1.2,h.1.1.1.2,hn.2⟩
theorem KH {s:Shp} (hb:VU s) (hx:mU s) (hg:Ar s.gas=true):A6 s=true:=by
 have h1:=hb.d;have h2:=hb.b;have h3:=hx.p;unfold A6;simp only [Bool.and_eq_true,CC];exact ⟨⟨⟨⟨⟨⟨⟨hx.x,hx.y⟩,hb.h⟩,hb.f,hb.w⟩,hx.b⟩,by simp [rgB];omega⟩,by simp [rgB];omega⟩,hg⟩
structure KI (k:Sky) (r:Rig) (s:Shp) (l:Leg):Prop where
 lo:r.lo<=(mhS s l).1
 hi:(mhS s l).2<=r.hi
 fit:∀ c∈(tkQ s.gas).cs,Lh c (atA k.s (mhS s l).1 (mhS s l).2).1=1
 rsv:r.rsv<=s.fl - l.bh
 trim:Il r.reg (N1 l) (hvS (KG s (Cj k r s l)) (atA k.s (mhS s l).1 (mhS s l).2).1)=true
 far:UC (Cj k r s l)=true
 full:s.bh+l.bh<=1000000000000
theorem Si {a:Atm} {cs:List Cel}:¬ 0<=ixF (EK a) cs↔∀ c∈cs,Lh c a=1:=by
 have h:=IZ (EK a) cs;by_cases h0:0<=ixF (EK a) cs
 . rw [decide_eq_true h0] at h
   obtain ⟨c,hc,hn⟩:=List.any_eq_true.1 h.symm;refine ⟨fun h=>absurd h0 h,fun h2=>?_⟩;have:=h2 c hc;unfold EK at hn;rw [decide_eq_true this] at hn;cases hn
 . rw [decide_eq_false h0] at h
   refine ⟨fun _ c hc=>?_,fun _=>h0⟩;have:=List.any_eq_false.1 h.symm c hc;unfold EK at this;by_cases he:Lh c a=1
   . exact he
   . rw [decide_eq_false he] at this;simp at this
theorem H2 {k:Sky} {r:Rig} {s n:Shp} {l:Leg}:HK k r s l= .ok n↔KI k r s l/\n=Cj k r s l:=by
 constructor
 . intro h
   unfold HK at h;split at h
   . rename_i he
     split at h
     . cases h
     . rename_i hf
       refine ⟨?_,(Except.ok.inj h).symm⟩;unfold ER at he;split at he
       . simp at he
       split at he
       . simp at he
       split at he
       . rename_i h3;simp at he
       split at he
       . simp at he
       split at he
       . simp at he
       split at he
       . simp at he
       rename_i h1 h2 h3 h4 h5 h6;exact ⟨by omega,by omega,Si.1 h3,by omega,by simpa using h5,by simpa using h6,by omega⟩
   . cases h
 . rintro ⟨h,rfl⟩
   have e:ER k r s l=(0,0):=by
     unfold ER;rw [if_neg (by have:=h.lo;omega),if_neg (by have:=h.hi;omega),if_neg (Si.2 h.fit),if_neg (by have:=h.rsv;omega),if_neg (by rw [h.trim];simp),if_neg (by rw [h.far];simp)]
   unfold HK;rw [e,if_pos rfl,if_neg (by have:=h.full;omega)]
def Ey (k:Sky) (r:Rig):Bool:=match k.s[0]? with
 | some x=>decide (x.h<=r.lo)&&decide (r.hi<=aj k.s)
 | none=>false
theorem jc {k:Sky} {r:Rig} (hk:BV k=true) (hr:Ey k r=true) {a b:Int} (h1:r.lo<=a) (h2:a<=b) (h3:b<=r.hi):ga k.s a b:=by
 unfold BV at hk;simp only [Bool.and_eq_true,decide_eq_true_eq] at hk
 have ho:OkS k.s:=by
   refine B8.1 ?_;have:=hk.1;unfold D3 at this;by_cases h:GC k.s=true
   . exact h
   . rw [if_neg h] at this;simp at this
 have hf:=(IQ ho).1 hk.1;have hl:=ho.len;obtain ⟨x,hx⟩:∃ x,k.s[0]?= some x:=⟨_,List.getElem?_eq_getElem (by omega)⟩
 obtain ⟨y,hy⟩:∃ y,k.s[k.s.length - 1]?= some y:=⟨_,List.getElem?_eq_getElem (by omega)⟩
 unfold Ey aj at hr;rw [hx,hy] at hr;simp only [Bool.and_eq_true,decide_eq_true_eq] at hr;exact gc ho hf h2 (NU hx hy (by omega) (by omega)) (NU hx hy (by omega) (by omega))
theorem mV {k:Sky} (hk:BV k=true):OkW k.w:=by
 unfold BV at hk;simp only [Bool.and_eq_true] at hk;exact L0 hk.2
theorem jd {s:Shp} {l:Leg} (hs:VU s) (hl:Wn l):(mhS s l).1<=(mhS s l).2:=by
 have h1:=hs.h;have h2:=hl.u;unfold mhS;simp only;omega
theorem je {k:Sky} {r:Rig} {s:Shp} {l:Leg} (hr:P5 r) (hs:A6 s=true) (hl:Wn l) (h:KI k r s l):A6 (Cj k r s l)=true:=by
 have hb:=GT hs;have hx:=Hz hs;have b1:=hb.h;have b2:=hb.f;have b3:=hb.w;have b4:=hx.b;have g1:=hr.g;have g2:=hr.t;have g3:=hr.v;have g4:=hr.h;have l1:=hl.u;have l2:=hl.b;have m1:=h.lo;have m2:=h.hi;have m3:=h.rsv;have m4:=h.full;have hfar:=h.far;have ge:=Me l2 g1;have p0:0<=l.bl*r.gl:=Int.mul_nonneg (by omega) (by omega);have p1:l.bl*r.gl<=l.bh*r.gh:=Int.mul_le_mul (by omega) (by omega) (by omega) (by omega);unfold mhS at m1 m2;simp only at m1 m2;unfold UC at hfar;simp only [Bool.and_eq_true,CC] at hfar;have htk:=Md (CR hs);refine KH ⟨?_,?_,?_,hb.d,hb.b,CS htk,Dx htk⟩ ⟨hfar.1,hfar.2,?_,hx.p⟩ htk
 . unfold Cj;simp only;omega
 . unfold Cj;simp only;omega
 . unfold Cj DY;rw [ge];simp only;omega
 . unfold Cj;simp only;omega
structure dI (s t:Shp):Prop where
 x:WB (s.xl,s.xh) (t.xl,t.xh)
 y:WB (s.yl,s.yh) (t.yl,t.yh)
 h:WB (s.hl,s.hh) (t.hl,t.hh)
 f:WB (s.fl,s.fh) (t.fl,t.fh)
 w:WB (s.wl,s.wh) (t.wl,t.wh)
 b:WB (s.bl,s.bh) (t.bl,t.bh)
 dry:s.dry=t.dry
 bal:s.bal=t.bal
 drp:s.drp=t.drp
 gas:s.gas=t.gas
structure Wid (a b:Rig):Prop where
 reg:a.reg=b.reg
 gl:a.gl=b.gl
 gh:a.gh=b.gh
 tank:a.tank=b.tank
 rsv:a.rsv<=b.rsv
 lo:a.lo<=b.lo
 hi:b.hi<=a.hi
end Go.Proofs.Tryz
