/- Own lemmas, used by the last text. Conditions: those that each theorem states. -/
import Derived.OrdersIn
import Derived.RangeFuncLeaves
import Derived.RangeFuncRecord
import Derived.Still
import Derived.TacticsIn
import Derived.WalkKit
set_option maxRecDepth 200000
set_option maxHeartbeats 8000000
namespace Go.Psl
def dstsOk (nt : Nat) (ops : List Oper) : Bool := ops.all fun o => match o.dst with | some d => d < nt | none => true
def inC (cl : List Nat) (j i : Nat) : Bool := decide (i < j) && (cl.getD j 0).testBit i
def drawOk (nt : Nat) (all : List Oper) (cl : List Nat) (m : Nat) : Bool :=
 let n := all.length
 dstsOk nt all && decide (m <= n) &&
 (List.range n).all fun j => match all[j]? with
   | none => true
   | some o =>
     o.after.toList.all (fun e => !Region.binds .any e || decide (e.on < j)) &&
     (List.range j).all (fun i => !inC cl j i || o.after.toList.any fun e => Region.binds .any e && (e.on == i || inC cl e.on i)) &&
     (if j < m then
       (o.looksAt all.toArray).all (fun t => (List.range m).all fun i => match (all[i]?).bind (·.dst) with | some d => !(d == t) || inC cl j i || inC cl i j | none => true) &&
       (List.range j).all (fun i => match (all[i]?).bind (·.dst), o.dst with | some d, some d' => !(d == d') | _, _ => true)
     else (List.range j).all (inC cl j))
def gdOf (all : List Oper) : Option (Nat × Bool) -> Option (Option Nat × Bool)
 | none => none
 | some (j, w) => some ((all[j]?).bind (·.dst), w)
structure PO where
 dst : Option Nat
 op : Op
 g : Option (Option Nat × Bool)
def poOf (all : List Oper) (o : Oper) : PO := ⟨o.dst, o.op, gdOf all o.guard⟩
inductive PC where
 | reg (ops : List PO)
 | draw (cl : List Nat) (az bs : List PO)
 | drawW (cl : List Nat) (az bs : List PO)
 | seq (a b : PC)
 | cond (c : Operand) (a b : PC)
 | block (id : Nat) (a : PC)
 | loop (a : PC)
 | exit (id : Nat)
 | ret
 | skip
 | rangeF (f : Operand) (ps : List Nat) (a b : PC)
def clOf (all : List Oper) : List Nat := all.foldl (fun acc o => acc ++ [o.after.toList.foldl (fun s e => if Region.binds .any e then s ||| 2 ^ e.on ||| acc.getD e.on 0 else s) 0]) []
def mOf (cl : List Nat) : Nat -> Nat
 | 0 => 0
 | j + 1 => if (List.range j).all (inC cl j) then mOf cl j else j + 1
def panF : FuncId := 36
def panN : Nat := 122
def memF : List FuncId := [315, 260, 173, 166, 168, 169, 33]
def isStore (o : PO) : Bool := match o.op with | .store .. => true | .mapUpdate .. => true | .insert .. => true | .call c => (match c.callee, c.args.toList with | .builtin .append, .tmp _ :: _ => true | .value (.func g), _ => memF.contains g | _, _ => false) | _ => false
def mkDraw (cl : List Nat) (az bs : List PO) : PC := if az.any isStore then .drawW cl az bs else .draw cl az bs
def comp (nt : Nat) : Code -> Option PC
 | .region _ ops draw => if draw then
     (if drawOk nt ops.toList (clOf ops.toList) (mOf (clOf ops.toList) ops.toList.length) then some (mkDraw (clOf ops.toList) ((ops.toList.take (mOf (clOf ops.toList) ops.toList.length)).map (poOf ops.toList)) ((ops.toList.drop (mOf (clOf ops.toList) ops.toList.length)).map (poOf ops.toList))) else none)
   else if dstsOk nt ops.toList then some (.reg (ops.toList.map (poOf ops.toList))) else none
 | .seq a b => (comp nt a).bind fun x => (comp nt b).map fun y => .seq x y
 | .cond c a b => (comp nt a).bind fun x => (comp nt b).map fun y => .cond c x y
 | .block id a => (comp nt a).map (.block id)
 | .loop a => (comp nt a).map .loop
 | .exit id => some (.exit id)
 | .ret => some .ret
 | .skip => some .skip
 | .rangeFunc f ps a b => (comp nt a).bind fun x => (comp nt b).map fun y => .rangeF f ps.toList x y
 | _ => none
def tabW (W : World) (g : Nat) (c : Array Value) : Prop := ∃ T fz, W.heap[g]? = some (.cells c T fz)
def gMax : Nat := 0
def gSyn : Nat := 1
def gRng : Nat := 2
def gPow : Nat := 3
def gSpc : Nat := 1000005
def gWht : Nat := 1000006
def whtL : List Int := [9, 13, 1, 32, 133, 101, 160, 5760, 5600, 8192, 8202, 1, 8232, 8233, 1, 8239, 8287, 48, 12288, 12288, 1]
def whtW (W : World) (g : Nat) : Prop := ∃ T oT R oR : Nat, (W.cell? ⟨g, 0, none⟩ = some (.pointer (some ⟨T, oT, none⟩)) /\ W.cell? ⟨T, oT, none⟩ = some (.slice (some ⟨R, oR, none⟩) 7 7) /\ W.cell? ⟨T, oT + 1, none⟩ = some (.slice none 0 0) /\ W.cell? ⟨T, oT + 2, none⟩ = some (.int .i64 2)) /\ ∀ i, i < 21 -> W.cell? ⟨R, oR + i, none⟩ = some (.int .u16 (whtL.getD i 0))
def useG : List Nat := [0, 1, 2, 3]
def isSpB (b : UInt8) : Bool := b == 9 || b == 10 || b == 11 || b == 12 || b == 13 || b == 32
def globAt (W : World) (g : Nat) : Prop :=
 if g = gMax then ∃ m, tabW W gMax #[.int .i64 m]
 else if g = gSyn then ∃ tp p, tabW W gSyn #[.iface tp p]
 else if g = gRng then ∃ tp p, tabW W gRng #[.iface tp p]
 else if g = gPow then tabW W gPow ((List.range 20).map fun i => Value.int .u64 ((10 ^ i : Nat) : Int)).toArray
 else if g = gSpc then tabW W gSpc ((List.range 256).map fun i => Value.int .u8 (if isSpB (UInt8.ofNat i) then 1 else 0)).toArray
 else if g = gWht then whtW W g
 else True
def globW (W : World) : Prop := ∀ g, g ∈ useG -> globAt W g
def bytT : TypeId := 5
def bldT : TypeId := 115
theorem bldT_eq : bldT = 115 := by first | rfl | decide
inductive D where
 | lit (v : Value)
 | sl (sz : Nat) (es : List (List D))
 | ref (cs : List D)
 | fn (f : FuncId) (caps : List D)
 | ifc (t : TypeId) (ag : Bool) (cs : List D)
 | ub
inductive LSt where
 | ready
 | busy
 | done (c : Code)
 | mapr (es : List (Value × Bool × List D))
inductive V where
 | junk
 | d (x : D)
 | lp (id off : Nat)
 | ls (id off len sz : Nat)
 | cl (f : FuncId) (caps : List V)
 | yl (id : Nat)
 | lr (fr : Nat -> V) (nt : Nat) (ps : List Nat) (pa pb : PC) (jmp : LSt)
 | agg (cs : List V)
 | tup (vs : List V)
def maxL : Nat := 9223372036854775807
def maxA : Nat := 140737488355328
def flat0 : Value -> Bool
 | .bool _ | .int _ _ | .float _ _ | .complex _ _ _ | .string _ | .nilFunc | .nilIface => true
 | .pointer a => a.isNone
 | .slice a n c => a.isNone && n == 0 && c == 0
 | .map r => r.isNone
 | _ => false
def flatV : Value -> Bool
 | .bool _ | .int _ _ | .float _ _ | .complex _ _ _ | .string _ | .nilFunc | .nilIface => true
 | .pointer a => a.isNone
 | .slice a n c => a.isNone && n == 0 && c == 0
 | .map r => r.isNone
 | .func (.func _) b c => c.toList.isEmpty && (match b.toList with
   | [.agg vs] => vs.toList.all flat0
   | _ => false)
 | _ => false
def All2 {α β : Type} (R : α -> β -> Prop) : List α -> List β -> Prop
 | [], [] => True
 | a :: az, b :: bs => R a b /\ All2 R az bs
 | _, _ => False
section all2
variable {α β : Type} {R : α -> β -> Prop}
theorem All2.length : ∀ {az : List α} {bs : List β}, All2 R az bs -> az.length = bs.length
 | [], [], _ => rfl
 | _ :: _, _ :: _, h => by simp [All2.length h.2]
 | [], _ :: _, h => h.elim
 | _ :: _, [], h => h.elim
theorem All2.get : ∀ {az : List α} {bs : List β}, All2 R az bs -> ∀ {i : Nat} {a : α}, az[i]? = some a -> ∃ b, bs[i]? = some b /\ R a b
 | [], [], _, i, a, h => by simp at h
 | a :: az, b :: bs, h, 0, x, hx => by simp at hx; subst hx; exact ⟨b, by simp, h.1⟩
 | a :: az, b :: bs, h, i + 1, x, hx => by simp at hx; obtain ⟨y, hy, hr⟩ := All2.get h.2 hx; exact ⟨y, by simpa using hy, hr⟩
 | [], _ :: _, h, _, _, _ => h.elim
 | _ :: _, [], h, _, _, _ => h.elim
theorem All2.get2 {az : List α} {bs : List β} (h : All2 R az bs) {i : Nat} {b : β} (hb : bs[i]? = some b) : ∃ a, az[i]? = some a /\ R a b := by
 have hl := h.length
 obtain ⟨hi, _⟩ := List.getElem?_eq_some_iff.1 hb
 have : az[i]? = some az[i] := List.getElem?_eq_getElem (by omega)
 obtain ⟨b', hb', hr⟩ := h.get this
 rw [hb] at hb'; cases hb'
 exact ⟨_, this, hr⟩
theorem All2.of_get : ∀ {az : List α} {bs : List β}, az.length = bs.length -> (∀ (i : Nat) a b, az[i]? = some a -> bs[i]? = some b -> R a b) -> All2 R az bs
 | [], [], _, _ => trivial
 | a :: az, b :: bs, hl, h => ⟨h 0 a b (by simp) (by simp), All2.of_get (by simpa using hl) fun i x y hx hy => h (i + 1) x y (by simpa using hx) (by simpa using hy)⟩
 | [], _ :: _, hl, _ => by simp at hl
 | _ :: _, [], hl, _ => by simp at hl
theorem All2.mono {S : α -> β -> Prop} {az : List α} {bs : List β} (h : All2 R az bs) (hm : ∀ a ∈ az, ∀ b, R a b -> S a b) : All2 S az bs :=
 All2.of_get h.length fun i a b ha hb => by
   obtain ⟨b', hb', hr⟩ := h.get ha
   rw [hb] at hb'; cases hb'
   exact hm a (List.mem_of_getElem? ha) b hr
theorem All2.take {az : List α} {bs : List β} (h : All2 R az bs) (n : Nat) : All2 R (az.take n) (bs.take n) :=
 All2.of_get (by simp [h.length]) fun i a b ha hb => by
   rw [List.getElem?_take] at ha hb
   split at ha
   . rename_i hi; rw [if_pos hi] at hb
     obtain ⟨b', hb', hr⟩ := h.get ha
     rw [hb] at hb'; cases hb'; exact hr
   . cases ha
theorem All2.drop {az : List α} {bs : List β} (h : All2 R az bs) (n : Nat) : All2 R (az.drop n) (bs.drop n) :=
 All2.of_get (by simp [h.length]) fun i a b ha hb => by
   rw [List.getElem?_drop] at ha hb
   obtain ⟨b', hb', hr⟩ := h.get ha
   rw [hb] at hb'; cases hb'; exact hr
theorem All2.append : ∀ {az as' : List α} {bs bs' : List β}, All2 R az bs -> All2 R as' bs' -> All2 R (az ++ as') (bs ++ bs')
 | [], _, [], _, _, h' => h'
 | _ :: _, _, _ :: _, _, h, h' => ⟨h.1, All2.append h.2 h'⟩
 | [], _, _ :: _, _, h, _ => h.elim
 | _ :: _, _, [], _, h, _ => h.elim
theorem All2.nil_iff {bs : List β} : All2 R [] bs ↔ bs = [] := by cases bs <;> simp [All2]
theorem All2.map_left {γ : Type} {f : γ -> α} : ∀ {az : List γ} {bs : List β}, All2 R (az.map f) bs ↔ All2 (fun a b => R (f a) b) az bs
 | [], [] => Iff.rfl
 | a :: az, b :: bs => by simp only [List.map_cons, All2]; exact and_congr Iff.rfl All2.map_left
 | [], _ :: _ => Iff.rfl
 | _ :: _, [] => Iff.rfl
end all2
structure Gh where
 β : Nat -> Nat
 bs : Nat -> Nat
 ph : Nat -> Bool
 lo : Nat -> Bool
 Im : Nat -> Prop
inductive RD (Im : Nat -> Prop) (W : World) : D -> Value -> Prop
 | lit (v : Value) (h : flatV v = true) : RD Im W (.lit v) v
 | sl (sz : Nat) (es : List (List D)) (ao : Option Addr) (cap : Nat) (vs : Nat -> Nat -> Value) (hsz : ∀ e ∈ es, e.length = sz) (hlen : es.length <= maxL) (hcap : es.length <= cap)
     (hm : ∀ (i : Nat) e, es[i]? = some e -> ∃ a, ao = some a /\ Im a.block /\ ∀ (j : Nat) x, e[j]? = some x -> W.cell? (a.add (i * sz + j)) = some (vs i j))
     (hr : ∀ (i : Nat) e, es[i]? = some e -> ∀ (j : Nat) x, e[j]? = some x -> RD Im W x (vs i j)) : RD Im W (.sl sz es) (.slice ao es.length cap)
 | ref (cs : List D) (a : Addr) (vs : Nat -> Value) (hb : Im a.block) (hm : ∀ (j : Nat) x, cs[j]? = some x -> W.cell? (a.add j) = some (vs j)) (hr : ∀ (j : Nat) x, cs[j]? = some x -> RD Im W x (vs j)) :
     RD Im W (.ref cs) (.pointer (some a))
 | fn (f : FuncId) (caps : List D) (cv : Array Value) (hl : cv.size = caps.length) (hr : ∀ (j : Nat) x v, caps[j]? = some x -> cv[j]? = some v -> RD Im W x v) : RD Im W (.fn f caps) (.func (.func f) #[] cv)
 | ifc (t : TypeId) (cs : List D) (cv : Array Value) (hl : cv.size = cs.length) (hr : ∀ (j : Nat) x v, cs[j]? = some x -> cv[j]? = some v -> RD Im W x v) : RD Im W (.ifc t true cs) (.iface t (.agg cv))
 | ifc1 (t : TypeId) (x : D) (v : Value) (hr : RD Im W x v) : RD Im W (.ifc t false [x]) (.iface t v)
 | ub (b : Bool) : RD Im W .ub (.bool b)
theorem RD.mono {Im Im' : Nat -> Prop} {W W' : World} {x : D} {v : Value} (h : RD Im W x v) (hs : ∀ b, Im b -> Im' b /\ W'.heap[b]? = W.heap[b]?) : RD Im' W' x v := by
 induction h with
 | lit v h => exact .lit v h
 | sl sz es ao cap vs hsz hlen hcap hm _ ih =>
   refine .sl sz es ao cap vs hsz hlen hcap (fun i e he => ?_) ih
   obtain ⟨a, ha, hb, hc⟩ := hm i e he
   refine ⟨a, ha, (hs _ hb).1, fun j x hx => ?_⟩
   have hbl : ∀ n, (a.add n).block = a.block := fun n => by unfold Addr.add; split <;> rfl
   rw [World.cell?_of_block (w := W) (by rw [hbl]; exact (hs _ hb).2)]
   exact hc j x hx
 | ref cs a vs hb hm _ ih =>
   refine .ref cs a vs (hs _ hb).1 (fun j x hx => ?_) ih
   have hbl : ∀ n, (a.add n).block = a.block := fun n => by unfold Addr.add; split <;> rfl
   rw [World.cell?_of_block (w := W) (by rw [hbl]; exact (hs _ hb).2)]
   exact hm j x hx
 | fn f caps cv hl _ ih => exact .fn f caps cv hl ih
 | ifc t cs cv hl _ ih => exact .ifc t cs cv hl ih
 | ifc1 t x v _ ih => exact .ifc1 t x v ih
 | ub b => exact .ub b
theorem RD.oneCell {Im : Nat -> Prop} {W : World} {x : D} {v : Value} (h : RD Im W x v) : v.oneCell' = true := by
 cases h <;> try rfl
 rename_i h
 cases v <;> simp_all [flatV, Value.oneCell']
def R0 (G : Gh) (W : World) : V -> Value -> Prop
 | .junk, _ => True
 | .d x, v => RD G.Im W x v
 | .lp id off, v => (G.ph id = false /\ G.lo id = false) /\ v = .pointer (some ⟨G.β id, off, none⟩)
 | .yl id, v => (G.bs id = 0 /\ v = .func (.yield (G.β id)) #[] #[]) \/ (G.bs id = 1 /\ v = .map (some (G.β id))) \/ (G.bs id = 2 /\ G.lo id = true /\ v = .pointer (some ⟨G.β id, 0, none⟩)) \/ (3 <= G.bs id /\ G.lo id = true /\ ∃ n : Nat, v = .slice (some ⟨G.β id, 0, none⟩) n (G.bs id - 3))
 | .ls id off len sz, v => len <= maxL /\ ((G.ph id = true /\ len = 0 /\ v = .slice none 0 0) \/
     ((G.ph id = false /\ G.lo id = false) /\ ∃ o cap, v = .slice (some ⟨G.β id, o, none⟩) len cap /\ len <= cap /\ (0 < cap -> o = off /\ off + cap * sz <= G.bs id)))
 | _, _ => False
def R1 (G : Gh) (W : World) : V -> Value -> Prop
 | .cl f caps, v => ∃ cv : Array Value, v = .func (.func f) #[] cv /\ All2 (R0 G W) caps cv.toList
 | x, v => R0 G W x v
def R2 (G : Gh) (W : World) : V -> Value -> Prop
 | .agg cs, v => ∃ cv : Array Value, v = .agg cv /\ All2 (R1 G W) cs cv.toList
 | x, v => R1 G W x v
def RV (G : Gh) (W : World) : V -> Value -> Prop
 | .tup vs, v => ∃ cv : Array Value, v = .tuple cv /\ All2 (R2 G W) vs cv.toList
 | x, v => R2 G W x v
def A0 (p : Nat -> Prop) (q : D -> Prop) : V -> Prop
 | .d x => q x
 | .lp id _ => p id
 | .ls id _ _ _ => p id
 | .yl id => p id
 | .lr .. => False
 | _ => True
def A1 (p : Nat -> Prop) (q : D -> Prop) : V -> Prop
 | .cl _ caps => ∀ c ∈ caps, A0 p q c
 | v => A0 p q v
def A2 (p : Nat -> Prop) (q : D -> Prop) : V -> Prop
 | .agg cs => ∀ c ∈ cs, A1 p q c
 | v => A1 p q v
def AV (p : Nat -> Prop) (q : D -> Prop) : V -> Prop
 | .tup vs => ∀ c ∈ vs, A2 p q c
 | v => A2 p q v
def AC (p : Nat -> Prop) (q : D -> Prop) : V -> Prop
 | .lr fr _ _ _ _ _ => ∀ t, AV p q (fr t)
 | v => A1 p q v
def ren0 (ρ : Nat -> Nat) : V -> V
 | .lp id off => .lp (ρ id) off
 | .ls id off len sz => .ls (ρ id) off len sz
 | .yl id => .yl (ρ id)
 | v => v
def ren1 (ρ : Nat -> Nat) : V -> V
 | .cl f caps => .cl f (caps.map (ren0 ρ))
 | v => ren0 ρ v
def ren2 (ρ : Nat -> Nat) : V -> V
 | .agg cs => .agg (cs.map (ren1 ρ))
 | v => ren1 ρ v
def ren (ρ : Nat -> Nat) : V -> V
 | .tup vs => .tup (vs.map (ren2 ρ))
 | v => ren2 ρ v
structure Into (p : Nat -> Prop) (q : D -> Prop) (ρ : Nat -> Nat) (G : Gh) (W : World) (G' : Gh) (W' : World) : Prop where
 id : ∀ i, p i -> G'.β (ρ i) = G.β i /\ G'.bs (ρ i) = G.bs i /\ G'.ph (ρ i) = G.ph i /\ G'.lo (ρ i) = G.lo i
 d : ∀ x v, q x -> RD G.Im W x v -> RD G'.Im W' x v
section into
variable {p : Nat -> Prop} {q : D -> Prop} {ρ : Nat -> Nat} {G G' : Gh} {W W' : World}
theorem Into.r0 (h : Into p q ρ G W G' W') {v : V} {x : Value} (ha : A0 p q v) (hr : R0 G W v x) : R0 G' W' (ren0 ρ v) x := by
 cases v with
 | junk => trivial
 | d y => exact h.d y x ha hr
 | lp id off =>
   obtain ⟨h1, h2⟩ := hr
   obtain ⟨e1, e2, e3, e4⟩ := h.id id ha
   exact ⟨by rw [e3, e4]; exact h1, by rw [e1]; exact h2⟩
 | ls id off len sz =>
   obtain ⟨e1, e2, e3, e4⟩ := h.id id ha
   simp only [ren0, R0, e1, e2, e3, e4]
   exact hr
 | yl id =>
   obtain ⟨e1, e2, _, e4⟩ := h.id id ha
   simp only [ren0, R0, e1, e2, e4]
   exact hr
 | lr => exact hr.elim
 | cl f caps => exact hr.elim
 | agg cs => exact hr.elim
 | tup vs => exact hr.elim
theorem Into.all {S S' : V -> Value -> Prop} {A : V -> Prop} {r : V -> V} (h : ∀ v x, A v -> S v x -> S' (r v) x) {cs : List V} {xs : List Value} (ha : ∀ c ∈ cs, A c) (hr : All2 S cs xs) : All2 S' (cs.map r) xs :=
 All2.map_left.2 (hr.mono fun c hc x hx => h c x (ha c hc) hx)
theorem Into.r1 (h : Into p q ρ G W G' W') {v : V} {x : Value} (ha : A1 p q v) (hr : R1 G W v x) : R1 G' W' (ren1 ρ v) x := by
 cases v with
 | cl f caps =>
   obtain ⟨cv, hx, hc⟩ := hr
   exact ⟨cv, hx, Into.all (fun v x => h.r0) ha hc⟩
 | junk => trivial
 | d y => exact h.r0 (v := .d y) ha hr
 | lp id off => exact h.r0 (v := .lp id off) ha hr
 | ls id off len sz => exact h.r0 (v := .ls id off len sz) ha hr
 | yl id => exact h.r0 (v := .yl id) ha hr
 | lr => exact hr.elim
 | agg cs => exact hr.elim
 | tup vs => exact hr.elim
theorem Into.r2 (h : Into p q ρ G W G' W') {v : V} {x : Value} (ha : A2 p q v) (hr : R2 G W v x) : R2 G' W' (ren2 ρ v) x := by
 cases v with
 | agg cs =>
   obtain ⟨cv, hx, hc⟩ := hr
   exact ⟨cv, hx, Into.all (fun v x => h.r1) ha hc⟩
 | junk => trivial
 | d y => exact h.r1 (v := .d y) ha hr
 | lp id off => exact h.r1 (v := .lp id off) ha hr
 | ls id off len sz => exact h.r1 (v := .ls id off len sz) ha hr
 | cl f caps => exact h.r1 (v := .cl f caps) ha hr
 | yl id => exact h.r1 (v := .yl id) ha hr
 | lr => exact hr.elim
 | tup vs => exact hr.elim
theorem Into.rv (h : Into p q ρ G W G' W') {v : V} {x : Value} (ha : AV p q v) (hr : RV G W v x) : RV G' W' (ren ρ v) x := by
 cases v with
 | tup vs =>
   obtain ⟨cv, hx, hc⟩ := hr
   exact ⟨cv, hx, Into.all (fun v x => h.r2) ha hc⟩
 | junk => trivial
 | d y => exact h.r2 (v := .d y) ha hr
 | lp id off => exact h.r2 (v := .lp id off) ha hr
 | ls id off len sz => exact h.r2 (v := .ls id off len sz) ha hr
 | cl f caps => exact h.r2 (v := .cl f caps) ha hr
 | yl id => exact h.r2 (v := .yl id) ha hr
 | lr => exact hr.elim
 | agg cs => exact h.r2 (v := .agg cs) ha hr
end into
theorem ren0_id (v : V) : ren0 (fun i => i) v = v := by cases v <;> rfl
theorem map_id_of {f : V -> V} (h : ∀ v, f v = v) (l : List V) : l.map f = l := by
 induction l with
 | nil => rfl
 | cons a l ih => rw [List.map_cons, h, ih]
theorem ren1_id (v : V) : ren1 (fun i => i) v = v := by
 cases v with
 | cl f caps => exact congrArg (V.cl f) (map_id_of ren0_id caps)
 | _ => rfl
theorem ren2_id (v : V) : ren2 (fun i => i) v = v := by
 cases v with
 | agg cs => exact congrArg V.agg (map_id_of ren1_id cs)
 | cl f caps => exact ren1_id (.cl f caps)
 | _ => rfl
theorem ren_id (v : V) : ren (fun i => i) v = v := by
 cases v with
 | tup cs => exact congrArg V.tup (map_id_of ren2_id cs)
 | cl f caps => exact ren2_id (.cl f caps)
 | agg cs => exact ren2_id (.agg cs)
 | _ => rfl
section same
variable {p : Nat -> Prop} {q : D -> Prop} {G G' : Gh} {W W' : World}
theorem Into.s1 (h : Into p q (fun i => i) G W G' W') {v : V} {x : Value} (ha : A1 p q v) (hr : R1 G W v x) : R1 G' W' v x := by
 have := h.r1 ha hr; rwa [ren1_id] at this
theorem Into.sv (h : Into p q (fun i => i) G W G' W') {v : V} {x : Value} (ha : AV p q v) (hr : RV G W v x) : RV G' W' v x := by
 have := h.rv ha hr; rwa [ren_id] at this
end same
section amono
variable {p p' : Nat -> Prop} {q q' : D -> Prop}
theorem A0.mono (hp : ∀ i, p i -> p' i) (hq : ∀ x, q x -> q' x) {v : V} (h : A0 p q v) : A0 p' q' v := by
 cases v <;> first | exact hp _ h | exact hq _ h | trivial | exact h.elim
theorem A1.mono (hp : ∀ i, p i -> p' i) (hq : ∀ x, q x -> q' x) {v : V} (h : A1 p q v) : A1 p' q' v := by
 cases v <;> first | exact hp _ h | exact hq _ h | exact (fun c hc => A0.mono hp hq (h c hc)) | trivial | exact False.elim h
theorem A2.mono (hp : ∀ i, p i -> p' i) (hq : ∀ x, q x -> q' x) {v : V} (h : A2 p q v) : A2 p' q' v := by
 cases v <;> first | exact hp _ h | exact hq _ h | exact (fun c hc => A1.mono hp hq (h c hc)) | exact (fun c hc => A0.mono hp hq (h c hc)) | trivial | exact False.elim h
theorem AV.mono (hp : ∀ i, p i -> p' i) (hq : ∀ x, q x -> q' x) {v : V} (h : AV p q v) : AV p' q' v := by
 cases v <;> first | exact hp _ h | exact hq _ h | exact (fun c hc => A2.mono hp hq (h c hc)) | exact (fun c hc => A1.mono hp hq (h c hc)) | exact (fun c hc => A0.mono hp hq (h c hc)) | trivial | exact False.elim h
theorem AC.mono (hp : ∀ i, p i -> p' i) (hq : ∀ x, q x -> q' x) {v : V} (h : AC p q v) : AC p' q' v := by
 cases v with
 | lr fr nt ps pa pb jmp => exact fun t => AV.mono hp hq (h t)
 | _ => simp only [AC] at h ⊢; exact A1.mono hp hq h
theorem A1.ac {v : V} (h : A1 p q v) : AC p q v := by
 cases v with
 | lr fr nt ps pa pb jmp => exact False.elim h
 | _ => exact h
end amono
section up
variable {G : Gh} {W : World} {v : V} {x : Value} {p : Nat -> Prop} {q : D -> Prop}
theorem R0.r1 (h : R0 G W v x) : R1 G W v x := by cases v <;> first | exact h | exact h.elim
theorem R1.r2 (h : R1 G W v x) : R2 G W v x := by cases v <;> first | exact h | exact h.elim
theorem R2.rv (h : R2 G W v x) : RV G W v x := by cases v <;> first | exact h | exact h.elim
theorem R1.a2 (h : R1 G W v x) (ha : A1 p q v) : A2 p q v := by cases v <;> first | exact ha | exact h.elim
theorem R2.av (h : R2 G W v x) (ha : A2 p q v) : AV p q v := by cases v <;> first | exact ha | exact h.elim
theorem R1.ac (h : R1 G W v x) (ha : AC p q v) : A1 p q v := by cases v <;> first | exact ha | exact h.elim
theorem R1.oneCell (h : R1 G W v x) (hj : v ≠ .junk) : x.oneCell' = true := by
 cases v with
 | junk => exact absurd rfl hj
 | d y => exact RD.oneCell (x := y) h
 | lp id off => rw [h.2]; rfl
 | ls id off len sz =>
   rcases h.2 with ⟨_, _, h⟩ | ⟨_, o, cap, h, _⟩ <;> rw [h] <;> rfl
 | cl f caps => obtain ⟨cv, h, _⟩ := h; rw [h]; rfl
 | yl id => rcases h with ⟨_, h⟩ | ⟨_, h⟩ | ⟨_, _, h⟩ | ⟨_, _, n, h⟩ <;> rw [h] <;> rfl
 | lr => exact h.elim
 | agg cs => exact h.elim
 | tup cs => exact h.elim
end up
end Go.Psl
namespace Go.Psl
inductive Sh where
 | int (k : IntKind) | bool | str | ptr (e : TypeId) | slice (e : TypeId) | array (n : Nat) (e : TypeId)
 | struct (fs : List (Nat × TypeId)) | ifc (e : Bool) | map (k e : TypeId) | other
structure Ty where
 size : Nat
 bytes : Nat
 agg : Bool
 sh : Sh
 zero : List Value
abbrev Tys := TypeId -> Option Ty
abbrev Hp := Nat -> Option (List V)
def upd {α : Type} (f : Nat -> α) (k : Nat) (v : α) : Nat -> α := fun j => if j = k then v else f j
theorem upd_at {α : Type} (f : Nat -> α) (k : Nat) (v : α) (j : Nat) : upd f k v j = if j = k then v else f j := rfl
structure St where
 fr : Nat -> V
 H : Hp
 nx : Nat
inductive Eff where
 | none
 | new (id : Nat) (cs : List V)
 | put (id : Nat) (cs : List V)
 | mov (old id : Nat) (cs : List V)
def Hp.app (H : Hp) : Eff -> Hp
 | .none => H
 | .new id cs => upd H id (some cs)
 | .put id cs => upd H id (some cs)
 | .mov old id cs => upd (upd H old none) id (some cs)
def frPut (f : Nat -> V) : Option Nat -> V -> Nat -> V
 | some t, v => upd f t v
 | none, _ => f
def V.cells : V -> List V
 | .agg cs => cs
 | v => [v]
def V.isCell : V -> Bool
 | .d _ | .lp _ _ | .ls _ _ _ _ | .cl _ _ | .yl _ => true
 | _ => false
def mkV (agg : Bool) (cs : List V) : V := if agg then .agg cs else match cs with | c :: _ => c | [] => .junk
def cV (v : Value) : V := .d (.lit v)
def evC (v : Value) : V := if flatV v then .d (.lit v) else match v with | .agg cs => if cs.toList.all flatV then .agg (cs.toList.map cV) else .junk | _ => .junk
theorem evC_int (k n) : evC (.int k n) = .d (.lit (.int k n)) := rfl
theorem evC_bool (b) : evC (.bool b) = .d (.lit (.bool b)) := rfl
theorem evC_string (s) : evC (.string s) = .d (.lit (.string s)) := rfl
theorem evC_nils : evC (.slice none 0 0) = .d (.lit (.slice none 0 0)) := rfl
theorem evC_nilp : evC (.pointer none) = .d (.lit (.pointer none)) := rfl
theorem evC_nilF : evC .nilFunc = .d (.lit .nilFunc) := rfl
theorem evC_nilI : evC .nilIface = .d (.lit .nilIface) := rfl
theorem evC_nilm : evC (.map none) = .d (.lit (.map none)) := rfl
def evF (f : Nat -> V) : Operand -> V
 | .tmp t => f t
 | .const v => evC v
 | .func g => .d (.fn g [])
 | .global _ => .junk
def splice (cs : List V) (off : Nat) (vs : List V) : List V := cs.take off ++ vs ++ cs.drop (off + vs.length)
def loadF (Γ : Tys) (H : Hp) (t : TypeId) : V -> Option (V × Eff)
 | .d (.ref cs) => (Γ t).bind fun y => if y.size <= cs.length then some (mkV y.agg ((cs.take y.size).map .d), .none) else none
 | .lp id off => (Γ t).bind fun y => (H id).bind fun cells => if off + y.size <= cells.length then some (mkV y.agg ((cells.drop off).take y.size), .none) else none
 | _ => none
def storeF (Γ : Tys) (H : Hp) (t : TypeId) (a v : V) : Option (V × Eff) :=
 match a with
 | .lp id off => (Γ t).bind fun y => (H id).bind fun cells => if v.cells.length = y.size /\ off + y.size <= cells.length /\ v.cells.all V.isCell = true then some (.junk, .put id (splice cells off v.cells)) else none
 | _ => none
def fillV (fs : Nat -> Option (Nat × Nat)) (cells : List V) : List (Nat × V) -> Option (List V)
 | [] => some cells
 | (i, v) :: rest => match fs i with
   | none => none
   | some (off, size) => if v.cells.length = size /\ off + size <= cells.length /\ v.cells.all V.isCell = true then fillV fs (splice cells off v.cells) rest else none
def fieldsOf (Γ : Tys) (fs : List (Nat × TypeId)) (i : Nat) : Option (Nat × Nat) := fs[i]?.bind fun p => (Γ p.2).map fun y => (p.1, y.size)
def opdL (f : Nat -> V) : List (Nat × Operand) -> List (Nat × V)
 | [] => []
 | (i, x) :: r => (i, evF f x) :: opdL f r
def buildF (Γ : Tys) (t : TypeId) (ps : List (Nat × V)) : Option (V × Eff) := (Γ t).bind fun y => match y.sh with
 | .struct fs => if fs.all (fun p => (Γ p.2).isSome) then (fillV (fieldsOf Γ fs) (y.zero.map cV) ps).map fun cs => (.agg cs, .none) else none
 | .array _ e => (Γ e).bind fun ye => (fillV (fun i => some (i * ye.size, ye.size)) (y.zero.map cV) ps).map fun cs => (.agg cs, .none)
 | _ => none
def repl (n : Nat) (z : List V) : List V := (List.replicate n z).flatten
def buildSliceF (Γ : Tys) (b : Nat) (t : TypeId) (n : Nat) (ps : List (Nat × V)) : Option (V × Eff) := (Γ t).bind fun y => match y.sh with
 | .slice e => (Γ e).bind fun ye => if n * ye.size <= 16777216 /\ 0 < ye.size then (fillV (fun i => some (i * ye.size, ye.size)) (repl n (ye.zero.map cV)) ps).map fun cs => (.ls b 0 n ye.size, .new b cs) else none
 | _ => none
def fieldF (Γ : Tys) (t : TypeId) (v : V) (i : Nat) : Option (V × Eff) := (Γ t).bind fun y => match y.sh with
 | .struct fs => fs[i]?.bind fun p => (Γ p.2).bind fun yf => if yf.size = 0 then none else match v with
   | .d (.ref cs) => some (.d (.ref (cs.drop p.1)), .none)
   | .lp id off => some (.lp id (off + p.1), .none)
   | _ => none
 | _ => none
def fieldV (Γ : Tys) (t : TypeId) (v : V) (i : Nat) : Option (V × Eff) := (Γ t).bind fun y => match y.sh with
 | .struct fs => fs[i]?.bind fun p => (Γ p.2).bind fun yf => match v with
   | .agg cs => if p.1 + yf.size <= cs.length then some (mkV yf.agg ((cs.drop p.1).take yf.size), .none) else none
   | _ => none
 | _ => none
def indexF (Γ : Tys) (t : TypeId) (x i : V) : Option (V × Eff) := (Γ t).bind fun y => match i with
 | .d (.lit (.int _ n)) => match y.sh with
   | .slice e => (Γ e).bind fun ye => match x with
     | .d (.sl sz es) => if 0 <= n /\ ye.size = sz then es[n.toNat]?.map fun c => (.d (.ref c), .none) else none
     | .ls id off len sz => if 0 <= n /\ n < len /\ ye.size = sz then some (.lp id (off + n.toNat * sz), .none) else none
     | _ => none
   | .array m e => (Γ e).bind fun ye => match x with
     | .lp id off => if 0 <= n /\ n < m then some (.lp id (off + n.toNat * ye.size), .none) else none
     | .d (.ref cs) => if 0 <= n /\ n < m then some (.d (.ref (cs.drop (n.toNat * ye.size))), .none) else none
     | _ => none
   | _ => none
 | _ => none
def indexV (Γ : Tys) (t : TypeId) (x i : V) : Option (V × Eff) := (Γ t).bind fun y => match i with
 | .d (.lit (.int _ n)) => match y.sh, x with
   | .array m e, .agg cs => (Γ e).bind fun ye => if 0 <= n /\ n < m /\ n.toNat * ye.size + ye.size <= cs.length then some (mkV ye.agg ((cs.drop (n.toNat * ye.size)).take ye.size), .none) else none
   | .str, .d (.lit (.string s)) => if 0 <= n then s[n.toNat]?.map fun b => (cV (.int .u8 b.toNat), .none) else none
   | _, _ => none
 | _ => none
def hiOf (n : Nat) : Option V -> Option Nat
 | none => some n
 | some (.d (.lit (.int _ h))) => if 0 <= h /\ h <= n then some h.toNat else none
 | _ => none
def loOf (h : Nat) : Option V -> Option Nat
 | none => some 0
 | some (.d (.lit (.int _ l))) => if 0 <= l /\ l <= h then some l.toNat else none
 | _ => none
def loHi (n : Nat) (lo hi : Option V) : Option (Nat × Nat) := (hiOf n hi).bind fun h => (loOf h lo).bind fun l => some (l, h)
def sliceF (Γ : Tys) (H : Hp) (t : TypeId) (x : V) (lo hi : Option V) : Option (V × Eff) := (Γ t).bind fun y => match y.sh with
 | .slice e => (Γ e).bind fun ye => match x with
   | .d (.sl sz es) => if ye.size = sz then (loHi es.length lo hi).map fun p => (.d (.sl sz ((es.take p.2).drop p.1)), .none) else none
   | .ls id off len sz => if ye.size = sz then (loHi len lo hi).map fun p => (.ls id (off + p.1 * sz) (p.2 - p.1) sz, .none) else none
   | .d (.lit (.slice _ _ _)) => (loHi 0 lo hi).map fun _ => (.d (.lit (.slice none 0 0)), .none)
   | _ => none
 | .array m e => (Γ e).bind fun ye => match x with
   | .lp id off => (H id).bind fun cs => if off + m * ye.size <= cs.length /\ m <= maxL then (loHi m lo hi).map fun p => (.ls id (off + p.1 * ye.size) (p.2 - p.1) ye.size, .none) else none
   | _ => none
 | .str => match x with
   | .d (.lit (.string s)) => (loHi s.size lo hi).map fun p => (cV (.string (s.extract p.1 p.2)), .none)
   | _ => none
 | _ => none
def binI (op : BinOp) (k k' : IntKind) (a b : Int) : Option Value :=
 match op with
 | .shl => if 0 <= b /\ b <= k.bits then some (.int k (k.wrap (a * 2 ^ b.toNat))) else none
 | .shr => if 0 <= b /\ b <= k.bits then some (.int k (a / 2 ^ b.toNat)) else none
 | op => if k = k' then match op with
   | .add => some (.int k (k.wrap (a + b)))
   | .sub => some (.int k (k.wrap (a - b)))
   | .mul => some (.int k (k.wrap (a * b)))
   | .quo => if b = 0 then none else some (.int k (k.wrap (a.tdiv b)))
   | .rem => if b = 0 then none else some (.int k (a.tmod b))
   | .and => some (.int k (bits .and k a b))
   | .or => some (.int k (bits .or k a b))
   | .xor => some (.int k (bits .xor k a b))
   | .andNot => some (.int k (bits .andNot k a b))
   | .eql => some (.bool (a == b))
   | .neq => some (.bool (a != b))
   | .lss => some (.bool (decide (a < b)))
   | .leq => some (.bool (decide (a <= b)))
   | .gtr => some (.bool (decide (a > b)))
   | .geq => some (.bool (decide (a >= b)))
   | _ => none else none
inductive CK where | int | bool | str
 deriving DecidableEq
def eqCell : CK -> V -> V -> Option Bool
 | .int, .d (.lit (.int k a)), .d (.lit (.int k' b)) => if k = k' then some (a == b) else none
 | .bool, .d (.lit (.bool a)), .d (.lit (.bool b)) => some (a == b)
 | .str, .d (.lit (.string a)), .d (.lit (.string b)) => some (a == b)
 | _, _, _ => none
def eqCells : List CK -> List V -> List V -> Option Bool
 | [], [], [] => some true
 | k :: ks, a :: az, b :: bs => (eqCell k a b).bind fun r => (eqCells ks az bs).map fun s => r && s
 | _, _, _ => none
abbrev Eqs := TypeId -> Option (List CK)
def nilV : V -> Option Bool
 | .d (.lit (.slice _ _ _)) => some true
 | .ls _ _ len _ => if 0 < len then some false else none
 | .d (.sl _ (_ :: _)) => some false
 | _ => none
def nilR (x : V) (neg : Bool) : Option (V × Eff) := match nilV x with
 | some r => some (cV (.bool (if neg then !r else r)), .none)
 | none => match x with
   | .d (.sl _ []) => some (.d .ub, .none)
   | _ => none
def isNilLit : V -> Bool
 | .d (.lit (.slice none 0 0)) => true
 | _ => false
def nilOp : Operand -> Bool
 | .const .nilIface => true
 | _ => false
def binF (Γ : Tys) (eqs : Eqs) (op : BinOp) (t : TypeId) (c : Bool) (x y : V) : Option (V × Eff) :=
 match x, y with
 | .d (.lit (.int k a)), .d (.lit (.int k' b)) => (binI op k k' a b).map fun v => (cV v, .none)
 | .d (.lit (.bool a)), .d (.lit (.bool b)) => (Γ t).bind fun y => match y.sh, op with
   | .bool, .eql => some (cV (.bool (a == b)), .none)
   | .bool, .neq => some (cV (.bool (a != b)), .none)
   | _, _ => none
 | .d (.lit (.string a)), .d (.lit (.string b)) => match op with
   | .eql => some (cV (.bool (a == b)), .none)
   | .neq => some (cV (.bool (a != b)), .none)
   | .add => if a.size + b.size <= maxL then some (cV (.string (a ++ b)), .none) else none
   | _ => none
 | .agg az, .agg bs => (eqs t).bind fun ks => match op with
   | .eql => (eqCells ks az bs).map fun r => (cV (.bool r), .none)
   | .neq => (eqCells ks az bs).map fun r => (cV (.bool (!r)), .none)
   | _ => none
 | .d (.ifc _ _ _), .d (.lit .nilIface) => (Γ t).bind fun y => match y.sh, op with
   | .ifc _, .eql => some (cV (.bool false), .none)
   | .ifc _, .neq => some (cV (.bool true), .none)
   | _, _ => none
 | .d (.lit .nilIface), .d (.lit .nilIface) => (Γ t).bind fun y => match y.sh, op with
   | .ifc e, .eql => if e || c then some (cV (.bool true), .none) else none
   | .ifc e, .neq => if e || c then some (cV (.bool false), .none) else none
   | _, _ => none
 | x, y => if isNilLit y then (Γ t).bind fun z => match z.sh, op with
     | .slice _, .eql => nilR x false
     | .slice _, .neq => nilR x true
     | _, _ => none else none
def clearF (Γ : Tys) (H : Hp) (t : TypeId) (x : V) : Option (V × Eff) := (Γ t).bind fun y => match y.sh with
 | .slice e => (Γ e).bind fun ye => match x with
   | .d (.lit (.slice none 0 0)) => some (.tup [], .none)
   | .ls id off len sz => if len = 0 then some (.tup [], .none) else if sz = ye.size /\ 0 < sz then (H id).bind fun cs => if off + len * sz <= cs.length then some (.tup [], .put id (splice cs off (repl len (ye.zero.map cV)))) else none else none
   | _ => none
 | _ => none
def unF (op : UnOp) (x : V) : Option (V × Eff) :=
 match op, x with
 | .not, .d (.lit (.bool b)) => some (cV (.bool (!b)), .none)
 | .neg, .d (.lit (.int k a)) => some (cV (.int k (k.wrap (-a))), .none)
 | _, _ => none
def pickV (c : Bool) (a b : V) : V := match a, b with
 | .d (.lit (.bool x)), .d (.lit (.bool y)) => .d (.lit (.bool (if c then x else y)))
 | a, b => if c then a else b
def pickF (c a b : V) : Option (V × Eff) :=
 match c with
 | .d (.lit (.bool c)) => some (pickV c a b, .none)
 | _ => none
def extrF (x : V) (i : Nat) : Option (V × Eff) := match x with | .tup vs => vs[i]?.map fun v => (v, .none) | _ => none
def lenF (Γ : Tys) (t : TypeId) (x : V) : Option (V × Eff) := (Γ t).bind fun y => match y.sh, x with
 | .slice _, .d (.sl _ es) => some (cV (.int .i64 es.length), .none)
 | .slice _, .ls _ _ len _ => some (cV (.int .i64 len), .none)
 | .slice _, .d (.lit (.slice _ _ _)) => some (cV (.int .i64 0), .none)
 | .str, .d (.lit (.string s)) => some (cV (.int .i64 s.size), .none)
 | _, _ => none
def maxR (k : IntKind) : Int -> List V -> Option Int
 | m, [] => some m
 | m, .d (.lit (.int k' x)) :: r => if k = k' then maxR k (max m x) r else none
 | _, _ :: _ => none
def maxF : List V -> Option (V × Eff)
 | .d (.lit (.int k x)) :: r => (maxR k x r).map fun m => (cV (.int k m), .none)
 | _ => none
def minR (k : IntKind) : Int -> List V -> Option Int
 | m, [] => some m
 | m, .d (.lit (.int k' x)) :: r => if k = k' then minR k (min m x) r else none
 | _, _ :: _ => none
def minF : List V -> Option (V × Eff)
 | .d (.lit (.int k x)) :: r => (minR k x r).map fun m => (cV (.int k m), .none)
 | _ => none
def nilF : V -> Option (V × Eff)
 | .lp id off => some (.lp id off, .none)
 | .d (.ref cs) => some (.d (.ref cs), .none)
 | _ => none
def dataL : List V -> Option (List D)
 | [] => some []
 | .d x :: r => (dataL r).map (x :: ·)
 | _ :: _ => none
def ifcF (Γ : Tys) (t : TypeId) (v : V) : Option (V × Eff) := (Γ t).bind fun y => match y.sh with
 | .ifc _ => none
 | .other => none
 | _ => match v with
   | .agg cs => (dataL cs).map fun ds => (.d (.ifc t true ds), .none)
   | .d x => some (.d (.ifc t false [x]), .none)
   | _ => none
def outF (cs : List D) : Bool -> Option V
 | true => some (.agg (cs.map .d))
 | false => match cs with | [c] => some (.d c) | _ => none
def assF (Γ : Tys) (t : TypeId) (x : V) : Option (V × Eff) := (Γ t).bind fun y => match y.sh with
 | .ifc _ => none
 | .other => none
 | _ => match x with
   | .d (.ifc t' ag cs) => if t' = t then (outF cs ag).map fun v => (v, .none) else none
   | _ => none
def cellsOf (H : Hp) (sz : Nat) : V -> Option (Nat × List V)
 | .d (.lit (.slice _ _ _)) => some (0, [])
 | .d (.sl sz' es) => if sz = sz' then some (es.length, es.flatten.map .d) else none
 | .ls id off len sz' => if sz = sz' then (H id).bind fun cs => if off + len * sz <= cs.length then some (len, (cs.drop off).take (len * sz)) else none else none
 | _ => none
def byteV : V -> Option UInt8
 | .d (.lit (.int .u8 n)) => if 0 <= n /\ n < 256 then some (UInt8.ofNat n.toNat) else none
 | _ => none
def bytesV : List V -> Option (List UInt8)
 | [] => some []
 | v :: r => (byteV v).bind fun b => (bytesV r).map (b :: ·)
def isU8 : Sh -> Bool
 | .int .u8 => true
 | _ => false
def strF (Γ : Tys) (H : Hp) (sh : Sh) (x : V) : Option (V × Eff) := match sh with
 | .slice e => (Γ e).bind fun ye => if isU8 ye.sh = true then (cellsOf H 1 x).bind fun p => (bytesV p.2).map fun l => (cV (.string ⟨l.toArray⟩), .none) else none
 | _ => none
def u8V (b : UInt8) : V := .d (.lit (.int .u8 b.toNat))
def bytF (Γ : Tys) (b : Nat) (sh : Sh) (e : TypeId) : V -> Option (V × Eff)
 | .d (.lit (.string s)) => match sh with
   | .str => (Γ e).bind fun ye => if isU8 ye.sh = true /\ s.size <= maxL then some (.ls b 0 s.size 1, .new b (s.data.toList.map u8V)) else none
   | _ => none
 | _ => none
def convF (Γ : Tys) (H : Hp) (b : Nat) (s t : TypeId) (x : V) : Option (V × Eff) := (Γ s).bind fun ys => (Γ t).bind fun y => match y.sh with
 | .int k => match x with
   | .d (.lit (.int _ n)) => some (cV (.int k (k.wrap n)), .none)
   | _ => none
 | .str => strF Γ H ys.sh x
 | .slice e => bytF Γ b ys.sh e x
 | _ => none
def sameId : V -> V -> Bool
 | .ls i _ _ _, .ls j _ _ _ => i == j
 | _, _ => false
def appF (Γ : Tys) (H : Hp) (b : Nat) (t : TypeId) (s x : V) : Option (V × Eff) := (Γ t).bind fun y => match y.sh with
 | .slice e => (Γ e).bind fun ye => if ye.size = 0 \/ sameId s x = true then none else (cellsOf H ye.size x).bind fun nx =>
   if nx.2.all V.isCell then match s with
   | .d (.lit (.slice _ _ _)) => if nx.1 * ye.bytes <= maxA /\ nx.1 <= maxL then some (.ls b 0 nx.1 ye.size, .new b nx.2) else none
   | .ls id 0 len sz => if sz = ye.size then (H id).bind fun cs => if len * sz <= cs.length /\ (len + nx.1) * ye.bytes <= maxA /\ len + nx.1 <= maxL then some (.ls b 0 (len + nx.1) sz, .mov id b (cs.take (len * sz) ++ nx.2)) else none else none
   | _ => none else none
 | _ => none
def capF (Γ : Tys) (t : TypeId) (x : V) : Option (V × Eff) := (Γ t).bind fun y => match y.sh, x with
 | .slice _, .d (.lit (.slice _ _ _)) => some (cV (.int .i64 0), .none)
 | _, _ => none
def zerF (Γ : Tys) (b : Nat) (t t' : TypeId) (s x : V) : Option (V × Eff) := (Γ t).bind fun y => match y.sh with
 | .slice e => (Γ e).bind fun ye => (Γ t').bind fun y' => match y'.sh, s, x with
   | .int _, .d (.lit (.slice _ _ _)), .d (.lit (.int _ n)) => if 0 < ye.size /\ 0 <= n /\ n.toNat * ye.bytes <= maxA /\ n.toNat <= maxL then some (.ls b 0 n.toNat ye.size, .new b (repl n.toNat (ye.zero.map cV))) else none
   | _, _, _ => none
 | _ => none
def mapFr (es : List (Value × Bool × List D)) (t : Nat) : V := match es[t]? with
 | some e => .agg (e.2.2.map .d)
 | none => .junk
def mapB (es : List (Value × Bool × List D)) : V := .lr (mapFr es) 0 [] .skip .skip (.mapr es)
def mapC (es : List (Value × Bool × List D)) : List V := [mapB es, .d (.lit (.bool true))]
def keyEq0 : Value -> Value -> Option Bool
 | .int k a, .int k' b => if k = k' then some (a == b) else none
 | .string a, .string b => some (a == b)
 | .bool a, .bool b => some (a == b)
 | _, _ => none
def keyEqs : List Value -> List Value -> Option Bool
 | [], [] => some true
 | a :: az, b :: bs => (keyEq0 a b).bind fun r => (keyEqs az bs).map fun s => r && s
 | _, _ => none
def keyEq : Value -> Value -> Option Bool
 | .int k a, .int k' b => if k = k' then some (a == b) else none
 | .string a, .string b => some (a == b)
 | .bool a, .bool b => some (a == b)
 | .agg a, .agg b => keyEqs a.toList b.toList
 | _, _ => none
def findM (key : Value) : List (Value × Bool × List D) -> Nat -> Option (Option Nat)
 | [], _ => some none
 | e :: es, i => match keyEq key e.1 with
   | some true => some (some i)
   | some false => findM key es (i + 1)
   | none => none
def keyS : Sh -> Value -> Bool
 | .int _, .int _ _ => true
 | .str, .string _ => true
 | .bool, .bool _ => true
 | _, _ => false
def litL : List V -> Option (List Value)
 | [] => some []
 | .d (.lit v) :: r => (litL r).map fun vs => v :: vs
 | _ => none
def litK : V -> Option Value
 | .d (.lit v) => some v
 | .agg cs => (litL cs).map fun vs => .agg vs.toArray
 | _ => none
def kindV : CK -> Value -> Bool
 | .int, .int _ _ => true
 | .bool, .bool _ => true
 | .str, .string _ => true
 | _, _ => false
def kindsV : List CK -> List Value -> Bool
 | [], [] => true
 | k :: ks, v :: vs => kindV k v && kindsV ks vs
 | _, _ => false
def keyT (eqs : Eqs) (t : TypeId) : Value -> Bool
 | .agg a => match eqs t with
   | some ks => kindsV ks a.toList
   | none => false
 | _ => false
def mapsOf : List V -> Option (List (Value × Bool × List D))
 | [.lr _ _ _ _ _ (.mapr es), _] => some es
 | _ => none
def dataV : V -> Option (Bool × List D)
 | .d x => some (false, [x])
 | .agg cs => (dataL cs).map fun ds => (true, ds)
 | _ => none
def valM (e : Value × Bool × List D) : Option V := outF e.2.2 e.2.1
def mapId : V -> Option Nat
 | .yl id => some id
 | _ => none
def mapAt (Γ : Tys) (eqs : Eqs) (H : Hp) (t : TypeId) (m k : V) : Option (Nat × List (Value × Bool × List D) × Value × Option Nat × TypeId) := (Γ t).bind fun y => match y.sh with
 | .map kt et => (Γ kt).bind fun yk => (mapId m).bind fun id => (H id).bind fun cs => (mapsOf cs).bind fun es => (litK k).bind fun key => if (keyS yk.sh key || keyT eqs kt key) = true then (findM key es 0).map fun r => (id, es, key, r, et) else none
 | _ => none
def lookF (Γ : Tys) (eqs : Eqs) (H : Hp) (t : TypeId) (m k : V) (ok : Bool) : Option (V × Eff) := (mapAt Γ eqs H t m k).bind fun p => (Γ p.2.2.2.2).bind fun ye => match p.2.2.2.1 with
 | some i => (p.2.1[i]?).bind fun e => (valM e).map fun v => (if ok then .tup [v, cV (.bool true)] else v, .none)
 | none => some (if ok then .tup [mkV ye.agg (ye.zero.map cV), cV (.bool false)] else mkV ye.agg (ye.zero.map cV), .none)
def putM (Γ : Tys) (eqs : Eqs) (H : Hp) (t : TypeId) (m k x : V) : Option (V × Eff) := (mapAt Γ eqs H t m k).bind fun p => (dataV x).map fun d => match p.2.2.2.1 with
 | some i => (.junk, .put p.1 (mapC (p.2.1.set i (p.2.2.1, d))))
 | none => (.junk, .put p.1 (mapC (p.2.1 ++ [(p.2.2.1, d)])))
def mksF (Γ : Tys) (b : Nat) (t : TypeId) (l c : V) : Option (V × Eff) := (Γ t).bind fun y => match y.sh with
 | .slice e => (Γ e).bind fun ye => match l, c with
   | .d (.lit (.int _ n)), .d (.lit (.int _ m)) => if 0 < ye.size /\ 0 <= n /\ n <= m /\ m.toNat * ye.bytes <= maxA /\ m <= maxL then some (.ls b 0 n.toNat ye.size, .new b (repl n.toNat (ye.zero.map cV))) else none
   | _, _ => none
 | _ => none
def capL (f : Nat -> V) : List Operand -> List V
 | [] => []
 | x :: r => evF f x :: capL f r
def V.cap : V -> Bool
 | .d _ | .lp _ _ | .ls _ _ _ _ | .yl _ => true
 | _ => false
def mkFuncF (g : FuncId) (n : Nat) (caps : List V) : Option (V × Eff) := if n = 0 /\ caps.all V.cap = true then some (.cl g caps, .none) else none
def litsOf : List V -> Option (List Value)
 | [] => some []
 | .d (.lit v) :: r => if flat0 v = true then (litsOf r).map (v :: ·) else none
 | _ => none
def bndF (g : FuncId) (v : V) (n : Nat) : Option (V × Eff) := if n = 0 then (match v with
 | .agg cs => (litsOf cs).map fun vs => (.d (.lit (.func (.func g) #[.agg vs.toArray] #[])), .none)
 | _ => none) else none
def mkAny (g : FuncId) (f : Nat -> V) (first caps : List Operand) : Option (V × Eff) := match first with
 | [] => mkFuncF g 0 (capL f caps)
 | [x] => bndF g (evF f x) caps.length
 | _ => none
def boxF (b : Nat) (v : V) : Option (V × Eff) := if v.cells.all V.isCell then some (.lp b 0, .new b v.cells) else none
def bldZ : List Value -> Bool
 | [.pointer none, .slice none 0 0] => true
 | _ => false
def allocF (Γ : Tys) (b : Nat) (t : TypeId) : Option (V × Eff) := (Γ t).bind fun y => if t == bldT then (if bldZ y.zero = true then some (.yl b, .new b [.d (.lit (.slice none 0 0)), .d (.lit (.int .i64 0))]) else none) else some (.lp b 0, .new b (y.zero.map cV))
def evalOp (Γ : Tys) (eqs : Eqs) (H : Hp) (b : Nat) (f : Nat -> V) : Op -> Option (V × Eff)
 | .move x | .assign x => some (evF f x, .none)
 | .pick c x y => pickF (evF f c) (evF f x) (evF f y)
 | .alloc t => allocF Γ b t
 | .box _ x => boxF b (evF f x)
 | .build t ps => buildF Γ t (opdL f ps.toList)
 | .buildSlice t n ps => buildSliceF Γ b t n (opdL f ps.toList)
 | .makeSlice t l c => mksF Γ b t (evF f l) (evF f c)
 | .makeMap _ none => some (.yl b, .new b (mapC []))
 | .mapUpdate t m k x => putM Γ eqs H t (evF f m) (evF f k) (evF f x)
 | .insert t m k x => putM Γ eqs H t (evF f m) (evF f k) (evF f x)
 | .lookup t m k ok => lookF Γ eqs H t (evF f m) (evF f k) ok
 | .load t a => loadF Γ H t (evF f a)
 | .store t a v => storeF Γ H t (evF f a) (evF f v)
 | .binOp o t x y _ => binF Γ eqs o t (nilOp y) (evF f x) (evF f y)
 | .unOp o _ x => unF o (evF f x)
 | .nilCheck x => nilF (evF f x)
 | .makeInterface t x => ifcF Γ t (evF f x)
 | .typeAssert x _ t false => assF Γ t (evF f x)
 | .convert s t x => convF Γ H b s t (evF f x)
 | .extract x i => extrF (evF f x) i
 | .fieldAddr t x i => fieldF Γ t (evF f x) i
 | .field t x i => fieldV Γ t (evF f x) i
 | .indexAddr t x i => indexF Γ t (evF f x) (evF f i)
 | .index t x i => indexV Γ t (evF f x) (evF f i)
 | .slice t x lo hi none => sliceF Γ H t (evF f x) (lo.map (evF f)) (hi.map (evF f))
 | .makeFunc (.func g) first caps => mkAny g f first.toList caps.toList
 | .call c => match c.callee with
   | .builtin .len => match c.args.toList, c.argTypes.toList with
     | [x], [t] => lenF Γ t (evF f x)
     | _, _ => none
   | .builtin .max => maxF (capL f c.args.toList)
   | .builtin .min => minF (capL f c.args.toList)
   | .builtin .append => match c.args.toList, c.argTypes.toList with
     | [s, x], [t, t'] => if t = t' then appF Γ H b t (evF f s) (evF f x) else zerF Γ b t t' (evF f s) (evF f x)
     | _, _ => none
   | .builtin .cap => match c.args.toList, c.argTypes.toList with
     | [x], [t] => capF Γ t (evF f x)
     | _, _ => none
   | .builtin .clear => match c.args.toList, c.argTypes.toList with
     | [x], [t] => clearF Γ H t (evF f x)
     | _, _ => none
   | _ => none
 | _ => none
inductive AExit where
 | normal
 | exit (id : Nat)
 | goto (l : Nat)
 | ret
 | pan (v : V)
def exRel (G : Gh) (W : World) : AExit -> Exit -> Prop
 | .normal, .normal => True
 | .ret, .ret => True
 | .exit i, .exit j => i = j
 | .goto i, .goto j => i = j
 | .pan v, .panic ch => ∃ x, ch = [{ v := x, recovered := false }] /\ RV G W v x
 | _, _ => False
def exOk (p : Nat -> Prop) : AExit -> Prop
 | .pan v => AV p (fun _ => True) v
 | _ => True
structure Ent where
 W0 : World
 Im0 : Nat -> Prop
 mu : Nat -> Prop
 β0 : Nat -> Nat
 bs0 : Nat -> Nat
 lo0 : Nat -> Bool
 stab : Nat -> Prop
 nt : Nat
 rd : Option Nat
 dx : List Deferred := []
 nm : Bool := false
abbrev Ent.F (E : Ent) : Fence := { Fence.wide with round := E.rd }
def Ent.rq (E : Ent) : Prop := E.rd = none /\ E.nm = false
def anyD : D -> Prop := fun _ => True
def LRel (G : Gh) (W : World) (fr : Nat -> V) (nt : Nat) (ps : List Nat) (pa pb : PC) (jmp : LSt) (rec : Loop) : Prop :=
 rec.params.toList = ps /\ comp nt rec.assign = some pa /\ comp nt rec.body = some pb /\ nt <= rec.tmps.size /\ (∀ t, RV G W (fr t) (rec.tmps.getD t undef)) /\
   (match jmp with | .ready => rec.state = .ready /\ rec.pending = none | .busy => rec.state = .busy | .done c => rec.state = .done /\ rec.pending = some c | .mapr _ => False) /\ (nt = panN -> rec.fn = panF)
def keyC : Value -> Bool
 | .int _ _ | .string _ | .bool _ => true
 | .agg _ => true
 | _ => false
def MVal (Im : Nat -> Prop) (W : World) (ag : Bool) (cs : List D) (v : Value) : Prop := if ag then ∃ cv : Array Value, v = .agg cv /\ All2 (RD Im W) cs cv.toList else ∃ c, cs = [c] /\ RD Im W c v
def MRel (Im : Nat -> Prop) (W : World) (es : List (Value × Bool × List D)) (ms : List MapEntry) : Prop := All2 (fun e m => m.key = e.1 /\ keyC e.1 = true /\ MVal Im W e.2.1 e.2.2 m.val) es ms
theorem MVal.mono {Im Im' : Nat -> Prop} {W W' : World} {ag : Bool} {cs : List D} {v : Value} (h : MVal Im W ag cs v) (hs : ∀ b, Im b -> Im' b /\ W'.heap[b]? = W.heap[b]?) : MVal Im' W' ag cs v := by
 unfold MVal at *
 cases ag with
 | true => obtain ⟨cv, e, hc⟩ := h; exact ⟨cv, e, hc.mono fun _ _ _ hr => hr.mono hs⟩
 | false => obtain ⟨c, e, hr⟩ := h; exact ⟨c, e, hr.mono hs⟩
theorem MRel.mono {Im Im' : Nat -> Prop} {W W' : World} {es : List (Value × Bool × List D)} {ms : List MapEntry} (h : MRel Im W es ms) (hs : ∀ b, Im b -> Im' b /\ W'.heap[b]? = W.heap[b]?) : MRel Im' W' es ms :=
 All2.mono h fun _ _ _ ⟨h1, h2, h3⟩ => ⟨h1, h2, h3.mono hs⟩
theorem mapFr_at {es : List (Value × Bool × List D)} {t : Nat} {e : Value × Bool × List D} (h : es[t]? = some e) : mapFr es t = .agg (e.2.2.map .d) := by unfold mapFr; rw [h]
theorem ren_mapFr {ρ : Nat -> Nat} {es : List (Value × Bool × List D)} {t : Nat} : ren ρ (mapFr es t) = mapFr es t := by
 unfold mapFr
 split
 . show V.agg _ = _
   congr 1
   rw [List.map_map]
   exact List.map_congr_left fun x _ => rfl
 . rfl
theorem MRel.into {p : Nat -> Prop} {q : D -> Prop} {ρ : Nat -> Nat} {G G' : Gh} {W W' : World} (h : Into p q ρ G W G' W') {es : List (Value × Bool × List D)} {ms : List MapEntry} (ha : ∀ t, AV p q (mapFr es t)) (hm : MRel G.Im W es ms) : MRel G'.Im W' es ms := by
 refine All2.of_get hm.length fun i e m he hm' => ?_
 obtain ⟨m2, hm2, h1, h2, h3⟩ := hm.get he
 rw [hm'] at hm2; cases hm2
 refine ⟨h1, h2, ?_⟩
 have hq : ∀ x ∈ e.2.2, q x := fun x hx => by
   have := ha i
   rw [mapFr_at he] at this
   exact this (.d x) (List.mem_map.2 ⟨x, hx, rfl⟩)
 unfold MVal at *
 cases hag : e.2.1 with
 | true =>
   rw [hag] at h3
   obtain ⟨cv, e1, hc⟩ := h3
   exact ⟨cv, e1, hc.mono fun x hx v hr => h.d x v (hq x hx) hr⟩
 | false =>
   rw [hag] at h3
   obtain ⟨c, e1, hr⟩ := h3
   exact ⟨c, e1, h.d c _ (hq c (by rw [e1]; simp)) hr⟩
def HM (G : Gh) (W : World) (id : Nat) (cs : List V) : Prop :=
 ∃ es ms clock, cs = mapC es /\ W.heap[G.β id]? = some (.map ms clock) /\ MRel G.Im W es ms.toList
def HLo (G : Gh) (W : World) (id : Nat) (cs : List V) : Prop :=
 ∃ fr nt ps pa pb jmp rec, cs = [.lr fr nt ps pa pb jmp] /\ W.heap[G.β id]? = some (.loop rec) /\ LRel G W fr nt ps pa pb jmp rec
structure Bu where
 m : Value
 c : Array Value
 T : TypeId
 fz : Nat × Nat
def BuOk (k blk : Nat) (o : Bu) (v : Value) : Prop :=
 (k = 2 /\ o.T = bldT /\ o.fz = (0, 0) /\ ∃ p a cap, ∃ n : Nat, o.c = #[p, v] /\ (p = .pointer none \/ p = .pointer (some ⟨blk, 0, none⟩)) /\ v = .slice a n cap /\ o.m = .int .i64 n) \/
 (3 <= k /\ o.T = bytT /\ ∃ s : ByteArray, v = .string s /\ o.m = .bool false /\ o.c.size = k - 3 /\ o.fz.2 <= s.size /\ s.size <= o.c.size /\ o.c.size <= maxL /\ o.c.toList.take s.size = s.data.toList.map fun b => .int .u8 b.toNat)
theorem BuOk.m_ne {k blk : Nat} {o : Bu} {v : Value} (h : BuOk k blk o v) : o.m ≠ .slice none 0 0 := by
 rcases h with ⟨_, _, _, _, _, _, _, _, _, _, h⟩ | ⟨_, _, _, _, h, _⟩ <;> rw [h] <;> nofun
def HBu (G : Gh) (W : World) (id : Nat) (cs : List V) : Prop :=
 ∃ (x : V) (o : Bu) (v : Value), cs = [x, .d (.lit o.m)] /\ W.heap[G.β id]? = some (.cells o.c o.T o.fz) /\ BuOk (G.bs id) (G.β id) o v /\ R1 G W x v /\ V.isCell x = true
def HL (G : Gh) (W : World) (id : Nat) (cs : List V) : Prop := (G.bs id = 0 /\ HLo G W id cs) \/ (G.bs id = 1 /\ HM G W id cs) \/ (2 <= G.bs id /\ HBu G W id cs)
def RowO (o : Option Obj) (c : Array Value) (T : TypeId) : Prop := ∃ fz : Nat × Nat, o = some (.cells c T fz) /\ (fz.2 = 0 \/ c.size <= fz.1)
theorem RowO.of {o : Option Obj} {c : Array Value} {T : TypeId} (h : o = some (.cells c T (0, 0))) : RowO o c T := ⟨_, h, .inl rfl⟩
def HB (G : Gh) (W : World) (id : Nat) (cs : List V) : Prop :=
 (G.ph id = true /\ cs = []) \/
 (G.ph id = false /\ G.lo id = false /\ ¬ G.Im (G.β id) /\ ∃ c T, RowO W.heap[G.β id]? c T /\ c.size = G.bs id /\ cs.length <= c.size /\ All2 (R1 G W) cs (c.toList.take cs.length) /\ cs.all V.isCell = true) \/
 (G.ph id = false /\ G.lo id = true /\ ¬ G.Im (G.β id) /\ HL G W id cs)
abbrev dr (_ : World) : Nat := 0
def GlobsOk (Im : Nat -> Prop) (W : World) : Prop := ∃ Wr : World, globW Wr /\ ∀ k, k < Wr.heap.size -> Im k /\ W.heap[k]? = Wr.heap[k]?
theorem GlobsOk.mono {Im Im' : Nat -> Prop} {W W' : World} (h : GlobsOk Im W) (hs : ∀ b, Im b -> Im' b /\ W'.heap[b]? = W.heap[b]?) : GlobsOk Im' W' := by
 obtain ⟨Wr, h1, h2⟩ := h
 exact ⟨Wr, h1, fun k hk => ⟨(hs k (h2 k hk).1).1, (hs k (h2 k hk).1).2.trans (h2 k hk).2⟩⟩
def GW (Im : Nat -> Prop) (W : World) : Prop := (∀ b, Im b -> b < W.heap.size) /\ GlobsOk Im W
structure Keep (E : Ent) (W : World) : Prop where
 os : W.os = E.W0.os
 tape : W.tape = E.W0.tape
 output : W.output = E.W0.output
 drawn : dr E.W0 <= dr W
 size : E.W0.heap.size <= W.heap.size
 block : ∀ b, b < E.W0.heap.size -> ¬ E.mu b -> W.heap[b]? = E.W0.heap[b]?
def marksOf (ds : List Nat) : List Deferred := ds.map fun D => { target := .collected D, args := #[] }
structure Marks (E : Ent) (G : Gh) (W : World) (ds : List Nat) : Prop where
 nodup : ds.Nodup
 at' : ∀ D ∈ ds, W.heap[D]? = some (.deferred (some [])) /\ E.W0.heap.size <= D /\ ¬ G.Im D
 nm : E.nm = true -> ds = []
structure Inv (E : Ent) (U : Nat -> Prop) (G : Gh) (st : St) (a : Act) (W : World) : Prop where
 fr : ∀ t, RV G W (st.fr t) (a.tmps.getD t undef)
 wf : ∀ t, AV U anyD (st.fr t)
 hp : ∀ id cs, st.H id = some cs -> HB G W id cs
 wh : ∀ id cs, st.H id = some cs -> ∀ c ∈ cs, AC U anyD c
 dom : ∀ id, (st.H id).isSome = true -> U id
 inj : ∀ i j, (st.H i).isSome = true -> (st.H j).isSome = true -> G.ph i = false -> G.ph j = false -> G.β i = G.β j -> i = j
 own : ∀ i, (st.H i).isSome = true -> G.ph i = false -> E.W0.heap.size <= G.β i \/ E.mu (G.β i)
 im : ∀ b, G.Im b -> b < W.heap.size /\ (E.Im0 b \/ E.W0.heap.size <= b \/ E.mu b)
 im0 : ∀ b, E.Im0 b -> G.Im b
 keep : Keep E W
 stab : ∀ i, E.stab i -> (st.H i).isSome = true -> G.β i = E.β0 i /\ G.bs i = E.bs0 i /\ G.ph i = false /\ G.lo i = E.lo0 i
 sU : ∀ i, E.stab i -> U i
 nt : E.nt <= a.tmps.size
 df : ∃ ds, a.defers = marksOf ds ++ E.dx /\ Marks E G W ds
 gl : GlobsOk G.Im W
variable {P : Program} {Γ : Tys} {eqs : Eqs} {E : Ent} {U : Nat -> Prop} {G : Gh} {st : St} {a : Act} {W : World}
def ShOk (d : TypeDesc) (y : Ty) : Prop :=
 match d, y.sh with
 | .int k, .int k' => k = k' /\ y.agg = false
 | .bool, .bool => y.agg = false
 | .string, .str => y.agg = false
 | .pointer e, .ptr e' => e = e' /\ y.agg = false
 | .slice e, .slice e' => e = e' /\ y.agg = false
 | .array n e, .array n' e' => n = n' /\ e = e' /\ y.agg = true
 | .struct fs, .struct gs => fs.toList.map (fun f => (f.offset, f.type)) = gs /\ y.agg = true
 | .map k e, .map k' e' => k = k' /\ e = e' /\ y.agg = false
 | .interface ms, .ifc e => e = ms.isEmpty /\ y.agg = false
 | .struct _, .other => y.agg = true
 | .array _ _, .other => y.agg = true
 | .struct _, _ => False
 | .array _ _, _ => False
 | _, .other => y.agg = false
 | _, _ => False
def isAg : Value -> Bool
 | .agg _ => true
 | _ => false
structure TyOk (P : Program) (t : TypeId) (y : Ty) : Prop where
 info : ∃ i z, P.info? t = some i /\ i.size = y.size /\ i.bytes = y.bytes /\ i.zero = some z /\ z.cells.toList = y.zero
 und : ∃ d, P.underlying t = some d /\ ShOk d y
 zl : y.zero.length = y.size
 zf : y.zero.all flatV = true
 one : y.agg = false -> y.size = 1
 za : ∀ i z, P.info? t = some i -> i.zero = some z -> y.agg = isAg z
def GOk (P : Program) (Γ : Tys) : Prop := ∀ t y, Γ t = some y -> TyOk P t y
section ty
variable {t : TypeId} {y : Ty}
theorem TyOk.sizeOf (h : TyOk P t y) (w : World) : (Go.sizeOf t).run P w = .ok y.size w := by
 obtain ⟨i, z, hi, hs, _⟩ := h.info
 simp [Go.sizeOf, Go.typeInfo, hi, hs]
theorem TyOk.typeInfo (h : TyOk P t y) (w : World) : ∃ i, (Go.typeInfo t).run P w = .ok i w /\ i.bytes = y.bytes /\ i.size = y.size := by
 obtain ⟨i, z, hi, hs, hb, _⟩ := h.info
 exact ⟨i, by simp [Go.typeInfo, hi], hb, hs⟩
theorem TyOk.zeroValue (h : TyOk P t y) (w : World) : ∃ z, (Go.zeroValue t).run P w = .ok z w /\ z.cells.toList = y.zero := by
 obtain ⟨i, z, hi, _, _, hz, hc⟩ := h.info
 exact ⟨z, by simp [Go.zeroValue, Go.typeInfo, hi, hz], hc⟩
theorem TyOk.isAgg (h : TyOk P t y) (w : World) : (Go.isAgg t).run P w = .ok y.agg w := by
 obtain ⟨d, hd, hs⟩ := h.und
 simp only [Go.isAgg, Sem.run_bind, run_underlying hd, Result.andThen_ok]
 unfold ShOk at hs
 split at hs <;> first | (simp_all; done) | exact hs.elim | (rename_i h1 h2 h3; cases d <;> simp_all)
end ty
theorem block_add (ad : Addr) (n : Nat) : (ad.add n).block = ad.block := by unfold Addr.add; split <;> rfl
theorem add_add (ad : Addr) (m n : Nat) : (ad.add m).add n = ad.add (m + n) := by
 unfold Addr.add
 by_cases hm : m = 0
 . subst hm; simp
 . by_cases hn : n = 0
   . subst hn; simp
   . rw [if_neg hn, if_neg hm, if_neg (by omega)]; simp [Nat.add_assoc]
theorem add_plain (b o n : Nat) : (⟨b, o, none⟩ : Addr).add n = ⟨b, o + n, none⟩ := by unfold Addr.add; split <;> simp_all
theorem run_loadVar {t : TypeId} {y : Ty} (h : TyOk P t y) (w : World) (ad : Addr) (xs : List Value) (hl : xs.length = y.size) (hc : ∀ (j : Nat) x, xs[j]? = some x -> w.cell? (ad.add j) = some x) :
   ∃ v, (loadVar t ad).run P w = .ok v w /\ ((y.agg = true /\ v = .agg xs.toArray) \/ (y.agg = false /\ xs = [v])) := by
 unfold loadVar
 simp only [Sem.run_bind, h.isAgg, Result.andThen_ok]
 cases hy : y.agg
 . have h1 := h.one hy
   match xs, hl with
   | [x], _ =>
     refine ⟨x, ?_, .inr ⟨rfl, rfl⟩⟩
     have := hc 0 x rfl
     have e : ad.add 0 = ad := by unfold Addr.add; simp
     rw [e] at this
     simp [this]
   | [], hl => simp [h1] at hl
   | _ :: _ :: _, hl => simp [h1] at hl
 . refine ⟨_, ?_, .inl ⟨rfl, rfl⟩⟩
   have := run_loadCells_list (P := P) w ad xs hc
   simp only [if_true, Sem.run_bind, h.sizeOf, Result.andThen_ok]
   rw [<- hl, this]
   rfl
def Out (P : Program) (E : Ent) (U' : Nat -> Prop) (st : St) (a : Act) (W : World) (o : Oper) (v : V) (e : Eff) : Prop :=
 ∃ n x W' G', (execOp a.eval o).run P W = .ok n W' /\ (n = .value x \/ (n = .skip /\ x = undef)) /\ Inv E U' G' ⟨st.fr, st.H.app e, st.nx⟩ a W' /\ RV G' W' v x /\ AV U' anyD v
theorem Out.pure (hI : Inv E U G st a W) {o : Oper} {v : V} {x : Value} (hr : (execOp a.eval o).run P W = .ok (.value x) W) (hv : RV G W v x) (ha : AV U anyD v) : Out P E U st a W o v .none :=
 ⟨_, x, W, G, hr, .inl rfl, hI, hv, ha⟩
theorem evC_rel (G : Gh) (W : World) (v : Value) : RV G W (evC v) v := by
 unfold evC
 split
 . rename_i h; exact RD.lit v h
 . split
   . rename_i cs _
     split
     . rename_i h
       refine ⟨cs, rfl, All2.map_left.2 (All2.of_get rfl fun i a b ha hb => ?_)⟩
       rw [ha] at hb; cases hb
       exact RD.lit a (List.all_eq_true.1 h a (List.mem_of_getElem? ha))
     . trivial
   . trivial
theorem evC_ok (p : Nat -> Prop) (v : Value) : AV p anyD (evC v) := by
 unfold evC
 split
 . trivial
 . split
   . split
     . intro c hc; simp only [List.mem_map] at hc; obtain ⟨x, _, rfl⟩ := hc; trivial
     . trivial
   . trivial
theorem Inv.op (hI : Inv E U G st a W) (x : Operand) : RV G W (evF st.fr x) (a.eval x) /\ AV U anyD (evF st.fr x) := by
 cases x with
 | tmp t => exact ⟨hI.fr t, hI.wf t⟩
 | const v => exact ⟨evC_rel G W v, evC_ok _ v⟩
 | func g => exact ⟨RD.fn g [] #[] rfl (fun j x v h => by simp at h), trivial⟩
 | global g => exact ⟨trivial, trivial⟩
theorem rv_int {k : IntKind} {n : Int} {x : Value} (h : RV G W (.d (.lit (.int k n))) x) : x = .int k n := by cases h; rfl
theorem rv_bool {b : Bool} {x : Value} (h : RV G W (.d (.lit (.bool b))) x) : x = .bool b := by cases h; rfl
theorem rv_lit {v : Value} {x : Value} (h : RV G W (.d (.lit v)) x) : x = v := by cases h; rfl
theorem lit_rv {v : Value} (h : flatV v = true) : RV G W (.d (.lit v)) v := RD.lit v h
theorem cells_rel {v : V} {x : Value} (h : RV G W v x) (hc : v.cells.all V.isCell = true) : All2 (R1 G W) v.cells x.cells.toList := by
 cases v with
 | junk => simp [V.cells, V.isCell] at hc
 | tup vs => simp [V.cells, V.isCell] at hc
 | agg cs => obtain ⟨cv, rfl, h⟩ := h; exact h
 | d y => have h1 : R1 G W (.d y) x := h
          have := R1.oneCell h1 (by simp)
          cases x <;> first | (simp [Value.oneCell'] at this; done) | exact ⟨h1, trivial⟩
 | lp id off => have h1 : R1 G W (.lp id off) x := h
                have := R1.oneCell h1 (by simp)
                cases x <;> first | (simp [Value.oneCell'] at this; done) | exact ⟨h1, trivial⟩
 | ls id off len sz => have h1 : R1 G W (.ls id off len sz) x := h
                       have := R1.oneCell h1 (by simp)
                       cases x <;> first | (simp [Value.oneCell'] at this; done) | exact ⟨h1, trivial⟩
 | cl f caps => have h1 : R1 G W (.cl f caps) x := h
                have := R1.oneCell h1 (by simp)
                cases x <;> first | (simp [Value.oneCell'] at this; done) | exact ⟨h1, trivial⟩
 | yl id => have h1 : R1 G W (.yl id) x := h
            have := R1.oneCell h1 (by simp)
            cases x <;> first | (simp [Value.oneCell'] at this; done) | exact ⟨h1, trivial⟩
 | lr => exact h.elim
theorem cells_ok {p : Nat -> Prop} {q : D -> Prop} {v : V} (h : AV p q v) : ∀ c ∈ v.cells, A1 p q c := by
 intro c hc
 cases v with
 | agg cs => exact h c hc
 | tup vs => simp [V.cells] at hc; subst hc; trivial
 | junk => simp [V.cells] at hc; subst hc; trivial
 | d y => simp [V.cells] at hc; subst hc; exact h
 | lp id off => simp [V.cells] at hc; subst hc; exact h
 | ls id off len sz => simp [V.cells] at hc; subst hc; exact h
 | cl f caps => simp [V.cells] at hc; subst hc; exact h
 | yl id => simp [V.cells] at hc; subst hc; exact h
 | lr => exact False.elim h
theorem all_oneCell {cs : List V} {xs : List Value} (h : All2 (R1 G W) cs xs) (hc : cs.all V.isCell = true) : ∀ x ∈ xs, x.oneCell' = true := by
 intro x hx
 obtain ⟨i, hi⟩ := List.mem_iff_getElem?.1 hx
 obtain ⟨c, hcc, hr⟩ := h.get2 hi
 have := List.all_eq_true.1 hc c (List.mem_of_getElem? hcc)
 exact R1.oneCell hr (by intro e; subst e; simp [V.isCell] at this)
theorem mk_rel {y : Ty} {cs : List V} {xs : List Value} {v : Value} (h : All2 (R1 G W) cs xs) (hv : (y.agg = true /\ v = .agg xs.toArray) \/ (y.agg = false /\ xs = [v])) : RV G W (mkV y.agg cs) v := by
 rcases hv with ⟨h1, rfl⟩ | ⟨h1, rfl⟩
 . simp only [mkV, h1, if_true]; exact ⟨xs.toArray, rfl, h⟩
 . simp only [mkV, h1]
   match cs, h with
   | [c], h => exact R2.rv (R1.r2 h.1)
   | [], h => exact h.elim
   | _ :: _ :: _, h => exact h.2.elim
theorem mk_ok {p : Nat -> Prop} {q : D -> Prop} {g : Bool} {cs : List V} (hc : ∀ c ∈ cs, A1 p q c) (h2 : g = false -> ∀ c ∈ cs, V.isCell c = true) : AV p q (mkV g cs) := by
 cases g
 . simp only [mkV]
   match cs with
   | [] => trivial
   | c :: r =>
     have h1 := hc c (by simp)
     have := h2 rfl c (by simp)
     cases c <;> first | exact h1 | (simp [V.isCell] at this; done)
 . exact hc
theorem HB.read {id : Nat} {cs : List V} (h : HB G W id cs) (hph : G.ph id = false /\ G.lo id = false) : ¬ G.Im (G.β id) /\ ∃ c T, RowO W.heap[G.β id]? c T /\ c.size = G.bs id /\ cs.length <= c.size /\ All2 (R1 G W) cs (c.toList.take cs.length) /\ cs.all V.isCell = true := by
 rcases h with ⟨h, _⟩ | ⟨_, _, h⟩ | ⟨_, h, _⟩
 . rw [h] at hph; cases hph.1
 . exact h
 . rw [h] at hph; cases hph.2
theorem all_a1 {p : Nat -> Prop} {q : D -> Prop} {cs : List V} {xs : List Value} (h : All2 (R1 G W) cs xs) (ha : ∀ c ∈ cs, AC p q c) : ∀ c ∈ cs, A1 p q c := fun c hc => by
 obtain ⟨i, hi⟩ := List.mem_iff_getElem?.1 hc
 obtain ⟨u, _, hr⟩ := h.get hi
 exact hr.ac (ha c hc)
theorem HB.nim {id : Nat} {cs : List V} (h : HB G W id cs) (hph : G.ph id = false) : ¬ G.Im (G.β id) := by
 rcases h with ⟨h, _⟩ | ⟨_, _, h, _⟩ | ⟨_, _, h, _⟩
 . rw [h] at hph; cases hph
 . exact h
 . exact h
theorem HB.lt {id : Nat} {cs : List V} (h : HB G W id cs) (hph : G.ph id = false) : G.β id < W.heap.size := by
 rcases h with ⟨h, _⟩ | ⟨_, _, _, c, T, h, _⟩ | ⟨_, _, _, ⟨_, fr, nt, ps, pa, pb, jmp, rec, _, h, _⟩ | ⟨_, es, ms, ck, _, h, _⟩ | ⟨_, bx, bp, bv, _, h, _⟩⟩
 . rw [h] at hph; cases hph
 . exact (Array.getElem?_eq_some_iff.1 h.choose_spec.1).1
 . exact (Array.getElem?_eq_some_iff.1 h).1
 . exact (Array.getElem?_eq_some_iff.1 h).1
 . exact (Array.getElem?_eq_some_iff.1 h).1
theorem HB.cells {id : Nat} {cs : List V} (h : HB G W id cs) (hph : G.ph id = false /\ G.lo id = false) (off n : Nat) (hn : off + n <= cs.length) :
   ∃ xs : List Value, xs.length = n /\ (∀ (j : Nat) x, xs[j]? = some x -> W.cell? ((⟨G.β id, off, none⟩ : Addr).add j) = some x) /\ All2 (R1 G W) ((cs.drop off).take n) xs := by
 obtain ⟨_, c, T, ⟨fz, hh, _⟩, _, hl, hr, _⟩ := h.read hph
 refine ⟨((c.toList.take cs.length).drop off).take n, ?_, fun j x hx => ?_, (hr.drop off).take n⟩
 . simp; omega
 . rw [add_plain]
   rw [List.getElem?_take] at hx
   split at hx
   . rw [List.getElem?_drop, List.getElem?_take] at hx
     split at hx
     . simp only [World.cell?, hh]
       simpa using hx
     . cases hx
   . cases hx
theorem isCell_of_take {cs : List V} (h : cs.all V.isCell = true) (o n : Nat) : ∀ c ∈ (cs.drop o).take n, V.isCell c = true := fun c hc =>
 List.all_eq_true.1 h c (List.mem_of_mem_drop (List.mem_of_mem_take hc))
theorem load_cells (hI : Inv E U G st a W) {v : V} {x : Value} (hv : RV G W v x) {n : Nat} {cs : List V}
   (h : (∃ ds, v = .d (.ref ds) /\ n <= ds.length /\ cs = (ds.take n).map .d) \/ (∃ id off hs, v = .lp id off /\ st.H id = some hs /\ off + n <= hs.length /\ cs = (hs.drop off).take n)) :
   ∃ ad xs, x = .pointer (some ad) /\ xs.length = n /\ (∀ (j : Nat) y, xs[j]? = some y -> W.cell? (ad.add j) = some y) /\ All2 (R1 G W) cs xs /\ (∀ c ∈ cs, A1 U anyD c) /\ (∀ c ∈ cs, V.isCell c = true) := by
 rcases h with ⟨ds, rfl, hn, rfl⟩ | ⟨id, off, hs, rfl, hh, hn, rfl⟩
 . have hv' : RD G.Im W (.ref ds) x := hv
   cases hv' with
   | ref _ ad vs hb hm hr =>
     refine ⟨ad, (List.range n).map vs, rfl, by simp, fun j y hy => ?_, ?_, fun c hc => ?_, fun c hc => ?_⟩
     . simp only [List.getElem?_map] at hy
       by_cases hj : j < n
       . simp [List.getElem?_range hj] at hy
         subst hy
         exact hm j _ (List.getElem?_eq_getElem (by omega))
       . simp [hj] at hy
     . refine All2.map_left.2 (All2.of_get (by simp; omega) fun i y z hy hz => ?_)
       rw [List.getElem?_take] at hy
       split at hy
       . rename_i hi
         simp [List.getElem?_range hi] at hz
         subst hz
         exact hr i y hy
       . cases hy
     . simp only [List.mem_map] at hc; obtain ⟨y, _, rfl⟩ := hc; trivial
     . simp only [List.mem_map] at hc; obtain ⟨y, _, rfl⟩ := hc; rfl
 . obtain ⟨hph, rfl⟩ : (G.ph id = false /\ G.lo id = false) /\ x = .pointer (some ⟨G.β id, off, none⟩) := hv
   have hB := hI.hp id hs hh
   obtain ⟨xs, h1, h2, h3⟩ := hB.cells hph off n hn
   obtain ⟨_, c, T, _, _, _, _, hall⟩ := hB.read hph
   exact ⟨_, xs, rfl, h1, h2, h3, fun c hc => by
     obtain ⟨i, hi⟩ := List.mem_iff_getElem?.1 hc
     obtain ⟨u, _, hr⟩ := h3.get hi
     exact hr.ac (hI.wh id hs hh c (List.mem_of_mem_drop (List.mem_of_mem_take hc))), isCell_of_take hall off n⟩
theorem loadF_inv {H : Hp} {t : TypeId} {u v : V} {e : Eff} (he : loadF Γ H t u = some (v, e)) :
   ∃ y cs, Γ t = some y /\ e = .none /\ v = mkV y.agg cs /\ ((∃ ds, u = .d (.ref ds) /\ y.size <= ds.length /\ cs = (ds.take y.size).map .d) \/ (∃ id off hs, u = .lp id off /\ H id = some hs /\ off + y.size <= hs.length /\ cs = (hs.drop off).take y.size)) := by
 unfold loadF at he
 split at he
 . rename_i ds
   cases hy : Γ t with
   | none => simp [hy] at he
   | some y =>
     simp only [hy, Option.bind_some] at he
     split at he
     . rename_i hl
       cases he
       exact ⟨y, _, rfl, rfl, rfl, .inl ⟨ds, rfl, hl, rfl⟩⟩
     . cases he
 . rename_i id off
   cases hy : Γ t with
   | none => simp [hy] at he
   | some y =>
     simp only [hy, Option.bind_some] at he
     cases hh : H id with
     | none => simp [hh] at he
     | some hs =>
       simp only [hh, Option.bind_some] at he
       split at he
       . rename_i hl
         cases he
         exact ⟨y, _, rfl, rfl, rfl, .inr ⟨id, off, hs, rfl, hh, hl, rfl⟩⟩
       . cases he
 . cases he
theorem load_out (hΓ : GOk P Γ) (hI : Inv E U G st a W) {o : Oper} {t : TypeId} {x : Operand} (ho : o.op = .load t x) {v : V} {e : Eff} (he : loadF Γ st.H t (evF st.fr x) = some (v, e)) :
   Out P E U st a W o v e := by
 obtain ⟨hx, _⟩ := hI.op x
 obtain ⟨y, cs, hy, rfl, rfl, hc⟩ := loadF_inv he
 obtain ⟨ad, xs, hp, hl, hcell, hr, hok, hcl⟩ := load_cells hI hx hc
 obtain ⟨u, hu, huv⟩ := run_loadVar (hΓ t y hy) W ad xs hl hcell
 refine Out.pure hI (x := u) ?_ (mk_rel hr huv) (mk_ok hok fun _ => hcl)
 simp [execOp, ho, Instr.loadAt, hp, Instr.sureAddr, hu]
end Go.Psl
namespace Go.Psl
variable {P : Program} {Γ : Tys} {eqs : Eqs} {E : Ent} {U U' : Nat -> Prop} {G : Gh} {st : St} {a : Act} {W : World}
theorem Marks.same {ds : List Nat} {G' : Gh} {W' : World} (h : Marks E G W ds) (hb : ∀ D, D ∈ ds -> W.heap[D]? = some (.deferred (some [])) -> W'.heap[D]? = W.heap[D]?) (hi : ∀ D, D ∈ ds -> W.heap[D]? = some (.deferred (some [])) -> G'.Im D -> G.Im D) : Marks E G' W' ds :=
 ⟨h.nodup, fun D hD => ⟨(hb D hD (h.at' D hD).1).trans (h.at' D hD).1, (h.at' D hD).2.1, fun hx => (h.at' D hD).2.2 (hi D hD (h.at' D hD).1 hx)⟩, h.nm⟩
theorem Inv.mono (hI : Inv E U G st a W) (h : ∀ i, U i -> U' i) : Inv E U' G st a W :=
 { hI with wf := fun t => AV.mono h (fun _ h => h) (hI.wf t), wh := fun id cs hc c hm => AC.mono h (fun _ h => h) (hI.wh id cs hc c hm), dom := fun id hd => h _ (hI.dom id hd), sU := fun i hs => h _ (hI.sU i hs) }
theorem Out.mono {o : Oper} {v : V} {e : Eff} (h : Out P E U st a W o v e) (hu : ∀ i, U i -> U' i) : Out P E U' st a W o v e := by
 obtain ⟨n, x, W', G', h1, h2, h3, h4, h5⟩ := h
 exact ⟨n, x, W', G', h1, h2, h3.mono hu, h4, AV.mono hu (fun _ h => h) h5⟩
structure Chg (U : Nat -> Prop) (G : Gh) (W : World) (G' : Gh) (W' : World) : Prop where
 ag : ∀ i, U i -> G'.β i = G.β i /\ G'.bs i = G.bs i /\ G'.ph i = G.ph i /\ G'.lo i = G.lo i
 im : ∀ b, G.Im b -> G'.Im b /\ W'.heap[b]? = W.heap[b]?
theorem Chg.into {G' : Gh} {W' : World} (h : Chg U G W G' W') : Into U anyD (fun i => i) G W G' W' :=
 ⟨h.ag, fun _ _ _ hr => hr.mono h.im⟩
theorem Chg.rv {G' : Gh} {W' : World} (h : Chg U G W G' W') {v : V} {x : Value} (ha : AV U anyD v) (hr : RV G W v x) : RV G' W' v x := h.into.sv ha hr
theorem Chg.r1 {G' : Gh} {W' : World} (h : Chg U G W G' W') {v : V} {x : Value} (ha : A1 U anyD v) (hr : R1 G W v x) : R1 G' W' v x := h.into.s1 ha hr
theorem Chg.all1 {G' : Gh} {W' : World} (h : Chg U G W G' W') {cs : List V} {xs : List Value} (ha : ∀ c ∈ cs, A1 U anyD c) (hr : All2 (R1 G W) cs xs) : All2 (R1 G' W') cs xs :=
 hr.mono fun c hc _ hx => h.r1 (ha c hc) hx
theorem Chg.hb {G' : Gh} {W' : World} (h : Chg U G W G' W') {id : Nat} {cs : List V} (hu : U id) (ha : ∀ c ∈ cs, AC U anyD c) (hb : HB G W id cs) (hs : G.ph id = false -> W'.heap[G.β id]? = W.heap[G.β id]?) (hi : G'.Im (G.β id) -> G.ph id = false -> G.Im (G.β id)) : HB G' W' id cs := by
 obtain ⟨e1, e2, e3, e4⟩ := h.ag id hu
 rcases hb with ⟨h1, h2⟩ | ⟨h1, h0, h2, c, T, h3, h4, h5, h6, h7⟩ | ⟨h1, h0, h2, ⟨hz, fr, nt, ps, pa, pb, jmp, rec, h3, h4, h5⟩ | ⟨hz, es, ms, ck, h3, h4, h5⟩ | ⟨hz, bx, bp, bv, h3, h4, h5, h6, h7⟩⟩
 . exact .inl ⟨by rw [e3]; exact h1, h2⟩
 . exact .inr (.inl ⟨by rw [e3]; exact h1, by rw [e4]; exact h0, by rw [e1]; exact fun hx => h2 (hi hx h1), c, T, by rw [e1, hs h1]; exact h3, by rw [e2]; exact h4, h5, h.all1 (fun c hc => by
     obtain ⟨i, hi⟩ := List.mem_iff_getElem?.1 hc
     obtain ⟨u, _, hr⟩ := h6.get hi
     exact hr.ac (ha c hc)) h6, h7⟩)
 . refine .inr (.inr ⟨by rw [e3]; exact h1, by rw [e4]; exact h0, by rw [e1]; exact fun hx => h2 (hi hx h1), .inl ⟨by rw [e2]; exact hz, fr, nt, ps, pa, pb, jmp, rec, h3, by rw [e1, hs h1]; exact h4, ?_⟩⟩)
   obtain ⟨q1, q2, q3, q4, q5, q6⟩ := h5
   refine ⟨q1, q2, q3, q4, fun t => h.rv ?_ (q5 t), q6⟩
   have := ha (.lr fr nt ps pa pb jmp) (by rw [h3]; simp)
   exact this t
 . exact .inr (.inr ⟨by rw [e3]; exact h1, by rw [e4]; exact h0, by rw [e1]; exact fun hx => h2 (hi hx h1), .inr (.inl ⟨by rw [e2]; exact hz, es, ms, ck, h3, by rw [e1, hs h1]; exact h4, h5.mono h.im⟩)⟩)
 . exact .inr (.inr ⟨by rw [e3]; exact h1, by rw [e4]; exact h0, by rw [e1]; exact fun hx => h2 (hi hx h1), .inr (.inr ⟨by rw [e2]; exact hz, bx, bp, bv, h3, by rw [e1, hs h1]; exact h4, by rw [e1, e2]; exact h5, h.r1 (h6.ac (ha bx (by rw [h3]; simp))) h6, h7⟩)⟩)
theorem Inv.alloc (hI : Inv E U G st a W) {b : Nat} (hb : ¬ U b) (hU : ∀ i, U i -> U' i) (hb' : U' b) {cs : List V} {c : Array Value} {T : TypeId} {W1 : World}
   (hh : W1.heap = W.heap) (hos : W1.os = W.os) (hta : W1.tape = W.tape) (hou : W1.output = W.output)
   (hl : cs.length <= c.size) (hr : All2 (R1 G W) cs (c.toList.take cs.length)) (hc : cs.all V.isCell = true) (hw : ∀ x ∈ cs, A1 U anyD x) (hdr : dr W <= dr W1 := by first | exact Nat.le_refl _ | exact Nat.le_succ _) :
   ∃ G', Inv E U' G' ⟨st.fr, upd st.H b (some cs), st.nx⟩ a (W1.alloc (.cells c T)) /\ G'.β b = W.heap.size /\ G'.bs b = c.size /\ (G'.ph b = false /\ G'.lo b = false) /\ Chg U G W G' (W1.alloc (.cells c T)) := by
 let G' : Gh := { β := upd G.β b W.heap.size, bs := upd G.bs b c.size, ph := upd G.ph b false, lo := upd G.lo b false, Im := G.Im }
 have hne : ∀ i, U i -> i ≠ b := fun i hi e => hb (e ▸ hi)
 have hnew : (W1.alloc (.cells c T)).heap[W.heap.size]? = some (.cells c T (0, 0)) := by
   show (W1.heap.push _)[_]? = _
   rw [hh]; simp
 have hold : ∀ k, k < W.heap.size -> (W1.alloc (.cells c T)).heap[k]? = W.heap[k]? := fun k hk => by
   show (W1.heap.push _)[_]? = _
   rw [hh, Array.getElem?_push, if_neg (by omega)]
 have hsz : (W1.alloc (.cells c T)).heap.size = W.heap.size + 1 := by
   show (W1.heap.push _).size = _
   rw [hh]; simp
 have hchg : Chg U G W G' (W1.alloc (.cells c T)) := ⟨fun i hi => by simp [G', upd, hne i hi], fun k hk => ⟨hk, hold k (hI.im k hk).1⟩⟩
 have hlt : ∀ i cs', st.H i = some cs' -> G.ph i = false -> G.β i < W.heap.size := fun i cs' hs hp => by
   exact (hI.hp i cs' hs).lt hp
 have hdf : ∃ ds, a.defers = marksOf ds ++ E.dx /\ Marks E G' (W1.alloc (.cells c T)) ds := by
   obtain ⟨ds, h1, h2⟩ := hI.df
   exact ⟨ds, h1, h2.same (fun D _ hd => hold D (Array.getElem?_eq_some_iff.1 hd).1) (fun _ _ _ h => h)⟩
 have hsome : ∀ i, (upd st.H b (some cs) i).isSome = true -> i = b \/ (i ≠ b /\ (st.H i).isSome = true) := fun i hi => by
   by_cases e : i = b
   . exact .inl e
   . simp only [upd_at, if_neg e] at hi; exact .inr ⟨e, hi⟩
 refine ⟨G', ?_, by simp [G', upd], by simp [G', upd], by simp [G', upd], hchg⟩
 refine { fr := fun t => hchg.rv (hI.wf t) (hI.fr t), wf := fun t => AV.mono hU (fun _ h => h) (hI.wf t), hp := ?_, wh := ?_, dom := ?_, inj := ?_, own := ?_, im := ?_, im0 := hI.im0, keep := ?_, stab := ?_, sU := fun i hs => hU _ (hI.sU i hs), nt := hI.nt, df := hdf, gl := hI.gl.mono hchg.im }
 . intro id cs' h
   simp only [upd_at] at h
   split at h
   . rename_i e; subst e; cases h
     refine .inr (.inl ⟨by simp [G', upd], by simp [G', upd], ?_, c, T, by simp only [G', upd, if_true]; exact .of hnew, by simp [G', upd], hl, hchg.all1 hw hr, hc⟩)
     simp only [G', upd, if_true]
     exact fun hx => absurd (hI.im _ hx).1 (Nat.lt_irrefl _)
   . rename_i e
     have hu := hI.dom id (by rw [h]; rfl)
     refine hchg.hb hu (hI.wh id cs' h) (hI.hp id cs' h) (fun hp => hold _ (hlt id cs' h hp)) (fun hx _ => hx)
 . intro id cs' h x hx
   simp only [upd_at] at h
   split at h
   . cases h; exact (A1.mono hU (fun _ h => h) (hw x hx)).ac
   . exact AC.mono hU (fun _ h => h) (hI.wh id cs' h x hx)
 . intro id h
   rcases hsome id h with rfl | ⟨_, h⟩
   . exact hb'
   . exact hU _ (hI.dom id h)
 . intro i j hi hj hpi hpj he
   rcases hsome i hi with ei | ⟨ei, hi'⟩ <;> rcases hsome j hj with ej | ⟨ej, hj'⟩
   . rw [ei, ej]
   . simp only [G', upd, if_pos ei, if_neg ej] at he hpj
     obtain ⟨cs', hs⟩ := Option.isSome_iff_exists.1 hj'
     have := hlt j cs' hs hpj
     omega
   . simp only [G', upd, if_pos ej, if_neg ei] at he hpi
     obtain ⟨cs', hs⟩ := Option.isSome_iff_exists.1 hi'
     have := hlt i cs' hs hpi
     omega
   . simp only [G', upd, if_neg ei, if_neg ej] at he hpi hpj
     exact hI.inj i j hi' hj' hpi hpj he
 . intro i hi hp
   rcases hsome i hi with rfl | ⟨ei, hi⟩
   . simp only [G', upd, if_true]
     exact .inl hI.keep.size
   . simp only [G', upd, if_neg ei] at hp ⊢
     exact hI.own i hi hp
 . intro k hk
   have := hI.im k hk
   exact ⟨by rw [hsz]; omega, this.2⟩
 . exact ⟨hos.trans hI.keep.os, hta.trans hI.keep.tape, hou.trans hI.keep.output, Nat.le_trans hI.keep.drawn hdr, by rw [hsz]; have := hI.keep.size; omega, fun k hk hm => (hold k (by have := hI.keep.size; omega)).trans (hI.keep.block k hk hm)⟩
 . intro i hs hi
   rcases hsome i hi with rfl | ⟨ei, hi⟩
   . exact absurd (hI.sU _ hs) hb
   . simp only [G', upd, if_neg ei]
     exact hI.stab i hs hi
theorem Inv.put (hI : Inv E U G st a W) {b : Nat} {old cs : List V} (hold : st.H b = some old) (hph : G.ph b = false /\ G.lo b = false) {c : Array Value} {T : TypeId} {W' : World}
   (hnew : RowO W'.heap[G.β b]? c T) (hsame : ∀ k, k ≠ G.β b -> W'.heap[k]? = W.heap[k]?) (hsz : W'.heap.size = W.heap.size) (hos : W'.os = W.os) (hta : W'.tape = W.tape) (hou : W'.output = W.output)
   (hbs : c.size = G.bs b) (hl : cs.length <= c.size) (hr : All2 (R1 G W) cs (c.toList.take cs.length)) (hc : cs.all V.isCell = true) (hw : ∀ x ∈ cs, A1 U anyD x) (hdr : dr W <= dr W' := by first | exact Nat.le_refl _ | exact Nat.le_succ _) :
   Inv E U G ⟨st.fr, upd st.H b (some cs), st.nx⟩ a W' /\ Chg U G W G W' := by
 obtain ⟨hnim, c0, T0, ⟨fz0, hh0, _⟩, _⟩ := (hI.hp b old hold).read hph
 have hlive : (st.H b).isSome = true := by rw [hold]; rfl
 have hchg : Chg U G W G W' := ⟨fun i _ => ⟨rfl, rfl, rfl, rfl⟩, fun k hk => ⟨hk, hsame k (fun e => hnim (e ▸ hk))⟩⟩
 have hdf : ∃ ds, a.defers = marksOf ds ++ E.dx /\ Marks E G W' ds := by
   obtain ⟨ds, h1, h2⟩ := hI.df
   exact ⟨ds, h1, h2.same (fun D _ hd => hsame D (fun e => by rw [e, hh0] at hd; cases hd)) (fun _ _ _ h => h)⟩
 have hsome : ∀ i, (upd st.H b (some cs) i).isSome = true -> (st.H i).isSome = true := fun i hi => by
   by_cases e : i = b
   . subst e; exact hlive
   . simpa only [upd_at, if_neg e] using hi
 refine ⟨?_, hchg⟩
 refine { fr := fun t => hchg.rv (hI.wf t) (hI.fr t), wf := hI.wf, hp := ?_, wh := ?_, dom := fun i hi => hI.dom i (hsome i hi), inj := fun i j hi hj => hI.inj i j (hsome i hi) (hsome j hj), own := fun i hi => hI.own i (hsome i hi), im := ?_, im0 := hI.im0, keep := ?_, stab := fun i hs hi => hI.stab i hs (hsome i hi), sU := hI.sU, nt := hI.nt, df := hdf, gl := hI.gl.mono hchg.im }
 . intro id cs' h
   simp only [upd_at] at h
   split at h
   . rename_i e; subst e; cases h
     exact .inr (.inl ⟨hph.1, hph.2, hnim, c, T, hnew, hbs, hl, hchg.all1 hw hr, hc⟩)
   . rename_i e
     have hlv : (st.H id).isSome = true := by rw [h]; rfl
     have hu := hI.dom id hlv
     exact hchg.hb hu (hI.wh id cs' h) (hI.hp id cs' h) (fun hp => hsame _ (fun e' => e (hI.inj id b hlv hlive hp hph.1 e'))) (fun hx _ => hx)
 . intro id cs' h x hx
   simp only [upd_at] at h
   split at h
   . cases h; exact (hw x hx).ac
   . exact hI.wh id cs' h x hx
 . intro k hk
   rw [hsz]; exact hI.im k hk
 . refine ⟨hos.trans hI.keep.os, hta.trans hI.keep.tape, hou.trans hI.keep.output, Nat.le_trans hI.keep.drawn hdr, by rw [hsz]; exact hI.keep.size, fun k hk hm => ?_⟩
   rw [hsame k ?_]
   . exact hI.keep.block k hk hm
   . intro e
     rcases hI.own b hlive hph.1 with h | h
     . omega
     . exact hm (e ▸ h)
theorem splice_rel {cs vs : List V} {c : List Value} {xs : List Value} (h : All2 (R1 G W) cs (c.take cs.length)) (hcl : cs.length <= c.length) (hv : All2 (R1 G W) vs xs) (off : Nat) (ho : off + vs.length <= cs.length) :
   All2 (R1 G W) (splice cs off vs) ((c.take off ++ xs ++ c.drop (off + xs.length)).take (splice cs off vs).length) := by
 have hl := hv.length
 have hlen : (splice cs off vs).length = cs.length := by simp [splice]; omega
 rw [hlen]
 have e : (c.take off ++ xs ++ c.drop (off + xs.length)).take cs.length = (c.take cs.length).take off ++ xs ++ (c.take cs.length).drop (off + vs.length) := by
   rw [List.take_append, List.take_append]
   simp only [List.length_append, List.length_take]
   have e1 : min off c.length = off := by omega
   rw [e1, List.take_of_length_le (l := c.take off) (by simp; omega), List.take_of_length_le (l := xs) (by omega), List.take_take, List.drop_take, <- hl, show min off cs.length = off by omega]
 rw [e]
 exact ((h.take off).append hv).append (h.drop _)
theorem splice_all {p : V -> Bool} {cs vs : List V} (off : Nat) (h : cs.all p = true) (hv : vs.all p = true) : (splice cs off vs).all p = true := by
 simp only [splice, List.all_append, Bool.and_eq_true, List.all_eq_true] at *
 exact ⟨⟨fun x hx => h x (List.mem_of_mem_take hx), hv⟩, fun x hx => h x (List.mem_of_mem_drop hx)⟩
theorem splice_mem {p : V -> Prop} {cs vs : List V} (off : Nat) (h : ∀ x ∈ cs, p x) (hv : ∀ x ∈ vs, p x) : ∀ x ∈ splice cs off vs, p x := by
 intro x hx
 simp only [splice, List.mem_append] at hx
 rcases hx with (hx | hx) | hx
 . exact h x (List.mem_of_mem_take hx)
 . exact hv x hx
 . exact h x (List.mem_of_mem_drop hx)
theorem RowO.store {P : Program} {w : World} {g j : Nat} {cur : Array Value} {T : TypeId} (h : RowO w.heap[g]? cur T) (hj : j < cur.size) {v : Value} (hv : v.oneCell' = true) :
   (Go.store ⟨g, j, none⟩ v).run P w = .ok () (w.setRow g (cur.setIfInBounds j v)) := by
 obtain ⟨⟨lo, hi⟩, hg, hz⟩ := h
 have e2 : w.frozen? ⟨g, j, none⟩ = false := by
   simp only at hz
   simp only [World.frozen?, hg, Bool.and_eq_false_iff, decide_eq_false_iff_not]
   omega
 rw [run_store P w _ v _ hv, show w.cell? ⟨g, j, none⟩ = some cur[j] by simp [World.cell?, hg, hj]]
 simp [e2, setCell_eq_setRow w g j cur T (lo, hi) v hg]
theorem RowO.set {w : World} {g : Nat} {c d : Array Value} {T : TypeId} (h : RowO w.heap[g]? c T) (hd : d.size = c.size) : RowO (w.setRow g d).heap[g]? d T := by
 obtain ⟨fz, hg, hz⟩ := h
 exact ⟨fz, setRow_heap w g c d T fz hg, by rw [hd]; exact hz⟩
theorem run_storeCells_q (P : Program) (g o : Nat) (T : TypeId) (vs : List Value) : ∀ (i : Nat) (cur : Array Value) (w : World), RowO w.heap[g]? cur T -> o + i + vs.length <= cur.size -> (∀ v ∈ vs, v.oneCell' = true) ->
   (storeCells ⟨g, o, none⟩ vs i).run P w = .ok () (w.setRow g (cur.toList.take (o + i) ++ vs ++ cur.toList.drop (o + i + vs.length)).toArray) := by
 induction vs with
 | nil =>
   intro i cur w h _ _
   obtain ⟨fz, hg, _⟩ := h
   have e : (cur.toList.take (o + i) ++ [] ++ cur.toList.drop (o + i + ([] : List Value).length)).toArray = cur := by simp
   rw [e, setRow_self w g cur T fz hg]
   rfl
 | cons v rest ih =>
   intro i cur w h hl h1
   simp only [List.length_cons] at hl
   have hs := h.store (P := P) (j := o + i) (by omega) (h1 v (by simp))
   have hn := ih (i + 1) _ _ (h.set (d := cur.setIfInBounds (o + i) v) (by simp)) (by simp; omega) fun x hx => h1 x (by simp [hx])
   have ha : (⟨g, o, none⟩ : Addr).add i = ⟨g, o + i, none⟩ := add_plain _ _ _
   have hl2 := list_seg_step cur.toList (o + i) v rest (by simp; omega)
   simp only [storeCells, Sem.run_bind, ha, hs, Result.andThen_ok, hn, setRow_setRow]
   refine congrArg (fun z : List Value => Result.ok () (w.setRow g z.toArray)) ?_
   simpa [Array.toList_setIfInBounds, Nat.add_assoc] using hl2
theorem store_out (hΓ : GOk P Γ) (hI : Inv E U G st a W) {o : Oper} {t : TypeId} {x y : Operand} (ho : o.op = .store t x y) {v : V} {e : Eff} (he : storeF Γ st.H t (evF st.fr x) (evF st.fr y) = some (v, e)) :
   Out P E U st a W o v e := by
 obtain ⟨hx, _⟩ := hI.op x
 obtain ⟨hy, hyw⟩ := hI.op y
 unfold storeF at he
 split at he
 . rename_i id off hid
   cases hty : Γ t with
   | none => simp [hty] at he
   | some ty =>
     simp only [hty, Option.bind_some] at he
     cases hh : st.H id with
     | none => simp [hh] at he
     | some cs =>
       simp only [hh, Option.bind_some] at he
       split at he
       . rename_i hc
         obtain ⟨h1, h2, h3⟩ := hc
         cases he
         rw [hid] at hx
         obtain ⟨hph, hx⟩ : (G.ph id = false /\ G.lo id = false) /\ a.eval x = .pointer (some ⟨G.β id, off, none⟩) := hx
         obtain ⟨hnim, c, T, hb, hbs, hcl, hcr, hca⟩ := (hI.hp id cs hh).read hph
         have hrel := cells_rel hy h3
         have hlen := hrel.length
         have hst := run_storeCells_q P (G.β id) off T (a.eval y).cells.toList 0 c W hb (by simp at *; omega) (all_oneCell hrel h3)
         obtain ⟨hI', hchg⟩ := hI.put hh hph (cs := splice cs off (evF st.fr y).cells) (c := (c.toList.take off ++ (a.eval y).cells.toList ++ c.toList.drop (off + (a.eval y).cells.toList.length)).toArray) (T := T)
           (W' := W.setRow (G.β id) (c.toList.take off ++ (a.eval y).cells.toList ++ c.toList.drop (off + (a.eval y).cells.toList.length)).toArray)
           (hb.set (by simp at *; omega)) (fun k hk => setRow_other W _ k _ hk) (by simp) rfl rfl rfl
           (by simp at *; omega) (by simp [splice] at *; omega)
           (by simpa using splice_rel hcr (by simpa using hcl) hrel off (by omega)) (splice_all off hca h3) (splice_mem off (all_a1 hcr (hI.wh id cs hh)) (cells_ok hyw))
         refine ⟨.skip, undef, _, G, ?_, .inr ⟨rfl, rfl⟩, hI', trivial, trivial⟩
         have hsz : (a.eval y).cells.size = ty.size := by rw [<- Array.length_toList, <- hlen, h1]
         simp only [execOp, ho, Instr.storeAt, hx, Instr.sureAddr, storeVar, Sem.run_bind, Sem.run_pure, Result.andThen_ok, (hΓ t ty hty).sizeOf, hsz, ne_eq, not_true_eq_false, if_false, hst, Nat.add_zero]
       . cases he
 . cases he
end Go.Psl
namespace Go.Psl
variable {P : Program} {Γ : Tys} {eqs : Eqs} {E : Ent} {U U' : Nat -> Prop} {G : Gh} {st : St} {a : Act} {W : World}
theorem zero_rel {zs : List Value} (h : zs.all flatV = true) : All2 (R1 G W) (zs.map cV) zs :=
 All2.map_left.2 (All2.of_get rfl fun i x y hx hy => by
   rw [hx] at hy; cases hy
   exact RD.lit x (List.all_eq_true.1 h x (List.mem_of_getElem? hx)))
theorem zero_all (zs : List Value) : (zs.map cV).all V.isCell = true := by
 simp only [List.all_map, List.all_eq_true]; intro x _; rfl
theorem zero_ok {p : Nat -> Prop} (zs : List Value) : ∀ x ∈ zs.map cV, A1 p anyD x := by
 intro x hx; simp only [List.mem_map] at hx; obtain ⟨y, _, rfl⟩ := hx; trivial
theorem alloc_out (hΓ : GOk P Γ) (hI : Inv E U G st a W) {o : Oper} {t : TypeId} (ho : o.op = .alloc t) {b : Nat} (hb : ¬ U b) (hU : ∀ i, U i -> U' i) (hb' : U' b) {v : V} {e : Eff}
   (he : ((Γ t).bind fun y => some (.lp b 0, .new b (y.zero.map cV))) = some (v, e)) : Out P E U' st a W o v e := by
 cases hty : Γ t with
 | none => simp [hty] at he
 | some ty =>
   simp only [hty, Option.bind_some] at he
   cases he
   have hT := hΓ t ty hty
   obtain ⟨z, hz, hzc⟩ := hT.zeroValue W
   obtain ⟨G', hI', h1, _, h3, _⟩ := hI.alloc (T := t) hb hU hb' (cs := ty.zero.map cV) (c := z.cells) (W1 := W) rfl rfl rfl rfl (by rw [List.length_map, <- hzc]; simp) (by rw [List.length_map, <- hzc, List.take_of_length_le (by simp)]; rw [hzc]; exact zero_rel hT.zf) (zero_all _) (zero_ok _)
   refine ⟨_, .pointer (some ⟨W.heap.size, 0, none⟩), _, G', ?_, .inl rfl, hI', ⟨h3, by rw [h1]⟩, hb'⟩
   simp [execOp, ho, Instr.alloc, hz, newVar, newRow]
theorem box_out (hI : Inv E U G st a W) {o : Oper} {t : TypeId} {x : Operand} (ho : o.op = .box t x) {b : Nat} (hb : ¬ U b) (hU : ∀ i, U i -> U' i) (hb' : U' b) {v : V} {e : Eff}
   (he : (if (evF st.fr x).cells.all V.isCell then some (.lp b 0, .new b (evF st.fr x).cells) else none) = some (v, e)) : Out P E U' st a W o v e := by
 split at he
 . rename_i hc
   cases he
   obtain ⟨hx, hxw⟩ := hI.op x
   have hrel := cells_rel hx hc
   have hl := hrel.length
   obtain ⟨G', hI', h1, _, h3, _⟩ := hI.alloc (T := t) hb hU hb' (cs := (evF st.fr x).cells) (c := (a.eval x).cells) (W1 := W) rfl rfl rfl rfl (by rw [hl]; simp) (by rw [hl, List.take_of_length_le (by simp)]; exact hrel) hc (cells_ok hxw)
   refine ⟨_, .pointer (some ⟨W.heap.size, 0, none⟩), _, G', ?_, .inl rfl, hI', ⟨h3, by rw [h1]⟩, hb'⟩
   simp [execOp, ho, Instr.box, newVar, newRow]
 . cases he
theorem fold_set (xs : List Value) : ∀ (n : Nat) (off : Nat) (cells : Array Value), off + n + xs.length <= cells.size ->
   ((xs.zipIdx n).foldl (fun cs (p : Value × Nat) => cs.setIfInBounds (off + p.2) p.1) cells).toList = cells.toList.take (off + n) ++ xs ++ cells.toList.drop (off + n + xs.length) := by
 induction xs with
 | nil => intro n off cells _; simp
 | cons x xs ih =>
   intro n off cells hl
   simp only [List.length_cons] at hl
   simp only [List.zipIdx_cons, List.foldl_cons]
   rw [ih (n + 1) off _ (by simp; omega)]
   simp only [Array.toList_setIfInBounds, List.length_cons]
   have e1 : (cells.toList.set (off + n) x).take (off + (n + 1)) = cells.toList.take (off + n) ++ [x] := by
     rw [<- Nat.add_assoc, List.take_add_one, List.take_set_of_le (Nat.le_refl _)]
     rw [List.getElem?_set_self (by simp; omega)]
     rfl
   have e2 : (cells.toList.set (off + n) x).drop (off + (n + 1) + xs.length) = cells.toList.drop (off + n + (xs.length + 1)) := by
     rw [List.drop_set_of_lt (by omega)]
     congr 1; omega
   rw [e1, e2]
   simp
theorem fold_set' (v : Value) (off : Nat) (cells : Array Value) (h : off + v.cells.size <= cells.size) :
   (v.cells.zipIdx.foldl (fun cs (p : Value × Nat) => cs.setIfInBounds (off + p.2) p.1) cells).toList = cells.toList.take off ++ v.cells.toList ++ cells.toList.drop (off + v.cells.size) := by
 have := fold_set v.cells.toList 0 off cells (by simpa using h)
 rw [<- Array.foldl_toList, Array.toList_zipIdx]
 simpa using this
theorem fill_rel {place : Nat -> Option (Nat × Nat)} {fs : Nat -> Option (Nat × Nat)} (hp : ∀ i p, fs i = some p -> place i = some p) :
   ∀ {ps : List (Nat × V)} {xs : List (Nat × Value)} {cells cs : List V} {cv : Array Value}, All2 (fun p x => p.1 = x.1 /\ RV G W p.2 x.2) ps xs -> All2 (R1 G W) cells cv.toList -> fillV fs cells ps = some cs ->
     ∃ cv', Instr.fill place cv xs = some cv' /\ All2 (R1 G W) cs cv'.toList
 | [], [], cells, cs, cv, _, hc, h => by cases h; exact ⟨cv, rfl, hc⟩
 | (i, v) :: ps, (j, x) :: xs, cells, cs, cv, ha, hc, h => by
   obtain ⟨⟨h1, h2⟩, ha⟩ := ha
   simp only at h1 h2
   subst h1
   simp only [fillV] at h
   split at h
   . cases h
   . rename_i off size hf
     split at h
     . rename_i hcond
       obtain ⟨h3, h4, h5⟩ := hcond
       have hrel := cells_rel h2 h5
       have hl := hrel.length
       have hlc := hc.length
       simp only [Array.length_toList] at hl hlc
       have hfit : off + x.cells.size <= cv.size := by omega
       have hfs := fold_set' x off cv hfit
       have hnew : All2 (R1 G W) (splice cells off v.cells) (x.cells.zipIdx.foldl (fun cs (p : Value × Nat) => cs.setIfInBounds (off + p.2) p.1) cv).toList := by
         rw [hfs, splice, hl]
         exact ((hc.take off).append hrel).append (hc.drop _)
       obtain ⟨cv', h6, h7⟩ := fill_rel hp ha hnew h
       refine ⟨cv', ?_, h7⟩
       simp only [Instr.fill, hp _ _ hf]
       rw [if_neg (by simp; omega)]
       exact h6
     . cases h
 | [], _ :: _, _, _, _, ha, _, _ => ha.elim
 | _ :: _, [], _, _, _, ha, _, _ => ha.elim
theorem fill_all {q : V -> Bool} {fs : Nat -> Option (Nat × Nat)} : ∀ {ps : List (Nat × V)} {cells cs : List V}, cells.all q = true -> (∀ p ∈ ps, p.2.cells.all V.isCell = true -> p.2.cells.all q = true) -> fillV fs cells ps = some cs -> cs.all q = true
 | [], cells, cs, hc, _, h => by cases h; exact hc
 | (i, v) :: ps, cells, cs, hc, hp, h => by
   simp only [fillV] at h
   split at h
   . cases h
   . split at h
     . rename_i hcond
       exact fill_all (splice_all _ hc (hp (i, v) (by simp) hcond.2.2)) (fun p hm => hp p (by simp [hm])) h
     . cases h
theorem fill_mem {q : V -> Prop} {fs : Nat -> Option (Nat × Nat)} : ∀ {ps : List (Nat × V)} {cells cs : List V}, (∀ x ∈ cells, q x) -> (∀ p ∈ ps, ∀ x ∈ p.2.cells, q x) -> fillV fs cells ps = some cs -> ∀ x ∈ cs, q x
 | [], cells, cs, hc, _, h => by cases h; exact hc
 | (i, v) :: ps, cells, cs, hc, hp, h => by
   simp only [fillV] at h
   split at h
   . cases h
   . split at h
     . exact fill_mem (splice_mem _ hc (hp (i, v) (by simp))) (fun p hm => hp p (by simp [hm])) h
     . cases h
theorem opdL_rel (hI : Inv E U G st a W) : ∀ (l : List (Nat × Operand)), All2 (fun p x => p.1 = x.1 /\ RV G W p.2 x.2) (opdL st.fr l) (l.map fun (i, x) => (i, a.eval x)) /\ ∀ p ∈ opdL st.fr l, AV U anyD p.2
 | [] => ⟨trivial, by simp [opdL]⟩
 | (i, x) :: l => by
   obtain ⟨h1, h2⟩ := opdL_rel hI l
   refine ⟨⟨⟨rfl, (hI.op x).1⟩, h1⟩, ?_⟩
   intro p hp
   simp only [opdL, List.mem_cons] at hp
   rcases hp with rfl | hp
   . exact (hI.op x).2
   . exact h2 p hp
theorem capL_rel (hI : Inv E U G st a W) : ∀ (l : List Operand), All2 (RV G W) (capL st.fr l) (l.map a.eval) /\ ∀ p ∈ capL st.fr l, AV U anyD p
 | [] => ⟨trivial, by simp [capL]⟩
 | x :: l => by
   obtain ⟨h1, h2⟩ := capL_rel hI l
   refine ⟨⟨(hI.op x).1, h1⟩, ?_⟩
   intro p hp
   simp only [capL, List.mem_cons] at hp
   rcases hp with rfl | hp
   . exact (hI.op x).2
   . exact h2 p hp
theorem run_places (hΓ : GOk P Γ) (w : World) : ∀ (fs : List Field), (∀ f ∈ fs, (Γ f.type).isSome = true) ->
   (fs.mapM (m := Sem) fun f => do Pure.pure (f.offset, <- sizeOf f.type)).run P w = .ok (fs.map fun f => (f.offset, ((Γ f.type).map (·.size)).getD 0)) w
 | [], _ => rfl
 | f :: fs, h => by
   obtain ⟨y, hy⟩ := Option.isSome_iff_exists.1 (h f (by simp))
   have ih := run_places hΓ w fs (fun g hg => h g (by simp [hg]))
   simp only [List.mapM_cons, Sem.run_bind, (hΓ _ y hy).sizeOf, Result.andThen_ok, Sem.run_pure, ih, List.map_cons, hy, Option.map_some, Option.getD_some]
theorem build_out (hΓ : GOk P Γ) (hI : Inv E U G st a W) {o : Oper} {t : TypeId} {ps : Array (Nat × Operand)} (ho : o.op = .build t ps) {v : V} {e : Eff} (he : buildF Γ t (opdL st.fr ps.toList) = some (v, e)) :
   Out P E U st a W o v e := by
 obtain ⟨hrel, hok⟩ := opdL_rel hI ps.toList
 unfold buildF at he
 cases hty : Γ t with
 | none => simp [hty] at he
 | some ty =>
   simp only [hty, Option.bind_some] at he
   have hT := hΓ t ty hty
   obtain ⟨z, hz, hzc⟩ := hT.zeroValue W
   obtain ⟨d, hd, hs⟩ := hT.und
   have hzr : All2 (R1 G W) (ty.zero.map cV) z.cells.toList := by rw [hzc]; exact zero_rel hT.zf
   have hxs : (ps.map fun (i, x) => (i, a.eval x)).toList = ps.toList.map fun (i, x) => (i, a.eval x) := by simp
   split at he
   . rename_i fs hsh
     split at he
     . rename_i hall
       cases hf : fillV (fieldsOf Γ fs) (ty.zero.map cV) (opdL st.fr ps.toList) with
       | none => simp [hf] at he
       | some cs =>
         simp only [hf, Option.map_some] at he
         cases he
         simp only [ShOk, hsh] at hs
         split at hs <;> first | (simp_all; done) | skip
         rename_i fields gs heq
         cases heq
         obtain ⟨hfs, hag⟩ := hs
         have hsome : ∀ f ∈ fields.toList, (Γ f.type).isSome = true := fun f hf => by
           have : (f.offset, f.type) ∈ fs := by rw [<- hfs]; exact List.mem_map.2 ⟨f, hf, rfl⟩
           exact List.all_eq_true.1 hall _ this
         have hpl : (fields.mapM (m := Sem) fun f => do Pure.pure (f.offset, <- sizeOf f.type)).run P W = .ok (fields.toList.map fun f => (f.offset, ((Γ f.type).map (·.size)).getD 0)).toArray W := by
           have h1 := run_places hΓ W fields.toList hsome
           obtain ⟨l⟩ := fields
           rw [List.mapM_toArray]
           simp only [Sem.run_map, h1, Result.andThen_ok]
         obtain ⟨cv', h6, h7⟩ := fill_rel (place := fun i => (fields.toList.map fun f => (f.offset, ((Γ f.type).map (·.size)).getD 0)).toArray[i]?) (fs := fieldsOf Γ fs) (fun i p hp => by
           unfold fieldsOf at hp
           rw [<- hfs] at hp
           simp only [List.getElem?_map, List.getElem?_toArray] at hp ⊢
           cases hfi : fields.toList[i]? with
           | none => simp [hfi] at hp
           | some f =>
             simp only [hfi, Option.map_some, Option.bind_some] at hp ⊢
             cases hg : Γ f.type with
             | none => simp [hg] at hp
             | some y => simp only [hg, Option.map_some] at hp; cases hp; rfl) hrel hzr hf
         refine Out.pure hI (x := .agg cv') ?_ ⟨cv', rfl, h7⟩ (fill_mem (q := A1 U anyD) (zero_ok _) (fun p hp => cells_ok (hok p hp)) hf)
         rw [<- hxs] at h6
         simp only [execOp, ho, Instr.build, Sem.run_bind, hz, Result.andThen_ok, run_underlying hd, hpl, h6, Sem.run_pure]
     . cases he
   . rename_i n el hsh
     cases hel : Γ el with
     | none => simp [hel] at he
     | some ye =>
       simp only [hel, Option.bind_some] at he
       cases hf : fillV (fun i => some (i * ye.size, ye.size)) (ty.zero.map cV) (opdL st.fr ps.toList) with
       | none => simp [hf] at he
       | some cs =>
         simp only [hf, Option.map_some] at he
         cases he
         simp only [ShOk, hsh] at hs
         split at hs <;> first | (simp_all; done) | skip
         rename_i n' e' n'' e'' heq
         cases heq
         obtain ⟨rfl, rfl, hag⟩ := hs
         obtain ⟨cv', h6, h7⟩ := fill_rel (place := fun i => some (i * ye.size, ye.size)) (fun i p hp => hp) hrel hzr hf
         refine Out.pure hI (x := .agg cv') ?_ ⟨cv', rfl, h7⟩ (fill_mem (q := A1 U anyD) (zero_ok _) (fun p hp => cells_ok (hok p hp)) hf)
         rw [<- hxs] at h6
         simp only [execOp, ho, Instr.build, Sem.run_bind, hz, Result.andThen_ok, run_underlying hd, (hΓ _ ye hel).sizeOf, h6, Sem.run_pure]
   . cases he
end Go.Psl
namespace Go.Psl
variable {P : Program} {Γ : Tys} {eqs : Eqs} {E : Ent} {U U' : Nat -> Prop} {G : Gh} {st : St} {a : Act} {W : World}
theorem und_struct {t : TypeId} {y : Ty} {fs : List (Nat × TypeId)} (h : TyOk P t y) (hs : y.sh = .struct fs) : ∃ fields, P.underlying t = some (.struct fields) /\ fields.toList.map (fun f => (f.offset, f.type)) = fs := by
 obtain ⟨d, hd, h⟩ := h.und
 simp only [ShOk, hs] at h
 split at h <;> first | (simp_all; done) | skip
theorem und_slice {t e : TypeId} {y : Ty} (h : TyOk P t y) (hs : y.sh = .slice e) : P.underlying t = some (.slice e) := by
 obtain ⟨d, hd, h⟩ := h.und
 simp only [ShOk, hs] at h
 split at h <;> first | (simp_all; done) | skip
theorem und_array {t e : TypeId} {n : Nat} {y : Ty} (h : TyOk P t y) (hs : y.sh = .array n e) : P.underlying t = some (.array n e) := by
 obtain ⟨d, hd, h⟩ := h.und
 simp only [ShOk, hs] at h
 split at h <;> first | (simp_all; done) | skip
theorem und_str {t : TypeId} {y : Ty} (h : TyOk P t y) (hs : y.sh = .str) : P.underlying t = some .string := by
 obtain ⟨d, hd, h⟩ := h.und
 simp only [ShOk, hs] at h
 split at h <;> first | (simp_all; done) | skip
theorem und_int {t : TypeId} {k : IntKind} {y : Ty} (h : TyOk P t y) (hs : y.sh = .int k) : P.underlying t = some (.int k) := by
 obtain ⟨d, hd, h⟩ := h.und
 simp only [ShOk, hs] at h
 split at h <;> first | (simp_all; done) | skip
theorem ref_drop {ds : List D} {x : Value} (h : RD G.Im W (.ref ds) x) (n : Nat) : ∃ ad, x = .pointer (some ad) /\ RD G.Im W (.ref (ds.drop n)) (.pointer (some (ad.add n))) := by
 cases h with
 | ref _ ad vs hb hm hr =>
   refine ⟨ad, rfl, .ref _ _ (fun j => vs (n + j)) (by rw [block_add]; exact hb) (fun j x hx => ?_) (fun j x hx => ?_)⟩
   . rw [add_add]; exact hm _ _ (by rwa [List.getElem?_drop] at hx)
   . exact hr _ _ (by rwa [List.getElem?_drop] at hx)
theorem field_out (hΓ : GOk P Γ) (hI : Inv E U G st a W) {o : Oper} {t : TypeId} {x : Operand} {i : Nat} (ho : o.op = .fieldAddr t x i) {v : V} {e : Eff} (he : fieldF Γ t (evF st.fr x) i = some (v, e)) :
   Out P E U st a W o v e := by
 obtain ⟨hx, hxw⟩ := hI.op x
 unfold fieldF at he
 cases hty : Γ t with
 | none => simp [hty] at he
 | some ty =>
   simp only [hty, Option.bind_some] at he
   split at he
   . rename_i fs hsh
     obtain ⟨fields, hd, hfs⟩ := und_struct (hΓ t ty hty) hsh
     cases hfi : fs[i]? with
     | none => simp [hfi] at he
     | some p =>
       simp only [hfi, Option.bind_some] at he
       cases hyf : Γ p.2 with
       | none => simp [hyf] at he
       | some yf =>
         simp only [hyf, Option.bind_some] at he
         split at he
         . cases he
         . rename_i hnz
           have hf : ∃ f, fields[i]? = some f /\ f.offset = p.1 /\ f.type = p.2 := by
             rw [<- hfs, List.getElem?_map] at hfi
             rw [Array.getElem?_toList] at hfi
             cases hf : fields[i]? with
             | none => simp [hf] at hfi
             | some f => simp only [hf, Option.map_some] at hfi; cases hfi; exact ⟨f, rfl, rfl, rfl⟩
           obtain ⟨f, hf1, hf2, hf3⟩ := hf
           have hrun : ∀ ad, (Instr.fieldAt t (.pointer (some ad)) i).run P W = .ok (.pointer (some (ad.add p.1))) W := fun ad => by
             have hsz := (hΓ p.2 yf hyf).sizeOf W
             rw [<- hf3] at hsz
             simp only [Instr.fieldAt, Sem.run_bind, run_underlying hd, Result.andThen_ok, hf1, Instr.sureAddr, Sem.run_pure, fieldPlace, hsz, hnz, if_false, hf2]
           split at he
           . rename_i ds hds
             cases he
             rw [hds] at hx
             obtain ⟨ad, hxa, hr⟩ := ref_drop hx p.1
             refine Out.pure hI (x := .pointer (some (ad.add p.1))) ?_ hr trivial
             simp only [execOp, ho, hxa, Sem.run_bind, hrun, Result.andThen_ok, Sem.run_pure]
           . rename_i id off hds
             cases he
             rw [hds] at hx hxw
             obtain ⟨hph, hxa⟩ : (G.ph id = false /\ G.lo id = false) /\ a.eval x = .pointer (some ⟨G.β id, off, none⟩) := hx
             refine Out.pure hI (x := .pointer (some ⟨G.β id, off + p.1, none⟩)) ?_ ⟨hph, rfl⟩ hxw
             simp only [execOp, ho, hxa, Sem.run_bind, hrun, Result.andThen_ok, Sem.run_pure, add_plain]
           . cases he
   . cases he
theorem run_part {t : TypeId} {y : Ty} (h : TyOk P t y) (w : World) (cv : Array Value) (off : Nat) (hl : off + y.size <= cv.size) :
   ∃ v, (part t cv off).run P w = .ok v w /\ ((y.agg = true /\ v = .agg ((cv.toList.drop off).take y.size).toArray) \/ (y.agg = false /\ (cv.toList.drop off).take y.size = [v])) := by
 unfold part
 simp only [Sem.run_bind, h.isAgg, Result.andThen_ok]
 cases hy : y.agg
 . have h1 := h.one hy
   have hlt : off < cv.size := by omega
   refine ⟨cv[off], by simp [hlt], .inr ⟨rfl, ?_⟩⟩
   rw [h1]
   have : cv.toList.drop off = cv[off] :: cv.toList.drop (off + 1) := by
     rw [List.drop_eq_getElem_cons (by simpa using hlt)]; simp
   rw [this]; rfl
 . refine ⟨_, by simp only [if_true, Sem.run_bind, h.sizeOf, Result.andThen_ok, Sem.run_pure]; rfl, .inl ⟨rfl, ?_⟩⟩
   congr 1
   apply Array.ext'
   simp [List.take_drop]
theorem fieldV_out (hΓ : GOk P Γ) (hI : Inv E U G st a W) {o : Oper} {t : TypeId} {x : Operand} {i : Nat} (ho : o.op = .field t x i) {v : V} {e : Eff} (he : fieldV Γ t (evF st.fr x) i = some (v, e)) :
   Out P E U st a W o v e := by
 obtain ⟨hx, hxw⟩ := hI.op x
 unfold fieldV at he
 cases hty : Γ t with
 | none => simp [hty] at he
 | some ty =>
   simp only [hty, Option.bind_some] at he
   split at he
   . rename_i fs hsh
     obtain ⟨fields, hd, hfs⟩ := und_struct (hΓ t ty hty) hsh
     cases hfi : fs[i]? with
     | none => simp [hfi] at he
     | some p =>
       simp only [hfi, Option.bind_some] at he
       cases hyf : Γ p.2 with
       | none => simp [hyf] at he
       | some yf =>
         simp only [hyf, Option.bind_some] at he
         have hf : ∃ f, fields[i]? = some f /\ f.offset = p.1 /\ f.type = p.2 := by
           rw [<- hfs, List.getElem?_map] at hfi
           rw [Array.getElem?_toList] at hfi
           cases hf : fields[i]? with
           | none => simp [hf] at hfi
           | some f => simp only [hf, Option.map_some] at hfi; cases hfi; exact ⟨f, rfl, rfl, rfl⟩
         obtain ⟨f, hf1, hf2, hf3⟩ := hf
         split at he
         . rename_i cs hcs
           split at he
           . rename_i hl
             cases he
             rw [hcs] at hx hxw
             obtain ⟨cv, hxa, hr⟩ := hx
             have hlen := hr.length
             obtain ⟨u, hu, huv⟩ := run_part (hΓ p.2 yf hyf) W cv p.1 (by simp at hlen; omega)
             by_cases hcell : yf.agg = false -> ∀ c ∈ (cs.drop p.1).take yf.size, V.isCell c = true
             . refine Out.pure hI (x := u) ?_ (mk_rel ((hr.drop p.1).take yf.size) huv) (mk_ok (fun c hc => hxw c (List.mem_of_mem_drop (List.mem_of_mem_take hc))) hcell)
               simp only [execOp, ho, Instr.field, hxa, Sem.run_bind, run_underlying hd, Result.andThen_ok, hf1, asAgg, Sem.run_pure, hf3, hf2, hu]
             . have hag : yf.agg = false := by
                 cases h : yf.agg
                 . rfl
                 . exact absurd (fun h' => by rw [h] at h'; cases h') hcell
               refine Out.pure hI (x := u) ?_ (mk_rel ((hr.drop p.1).take yf.size) huv) ?_
               . simp only [execOp, ho, Instr.field, hxa, Sem.run_bind, run_underlying hd, Result.andThen_ok, hf1, asAgg, Sem.run_pure, hf3, hf2, hu]
               . rcases huv with ⟨h, _⟩ | ⟨_, h1⟩
                 . rw [hag] at h; cases h
                 . have hr2 := (hr.drop p.1).take yf.size
                   rw [h1] at hr2
                   have hmem : ∀ c ∈ (cs.drop p.1).take yf.size, A1 U anyD c := fun c hc => hxw c (List.mem_of_mem_drop (List.mem_of_mem_take hc))
                   generalize (cs.drop p.1).take yf.size = l at hr2 hmem
                   match l, hr2 with
                   | [c], hr2 =>
                     simp only [mkV, hag]
                     exact R2.av (R1.r2 hr2.1) (R1.a2 hr2.1 (hmem c (by simp)))
                   | [], hr2 => exact hr2.elim
                   | _ :: _ :: _, hr2 => exact hr2.2.elim
           . cases he
         . cases he
   . cases he
end Go.Psl
