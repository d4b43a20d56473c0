/- Own lemmas, used by the last text. Conditions: those that each theorem states. -/
import Derived.Deep.DeepHandedRow
import Derived.JoinedCond
import Derived.LaidLaws
import Derived.Lib.Bytealg
import Derived.Lib.IndexMore
import Derived.Lib.ItoaNum
import Derived.Lib.Join
import Derived.Lib.LaidTab
import Derived.Shelf.LaysM
import Derived.Shelf.Small.Strs
import Derived.Shelf.Strconv.Itoa3
import Derived.Shelf.Strings.BuilderF
import Derived.Shelf.Strings.Count
import Derived.Shelf.Strings.Cut
import Derived.Shelf.Strings.OnBuilder
import Derived.Shelf.Strings.Search1
import Derived.Shelf.Vars
import Derived.Test.YtcmmbjblncfhbaaGreatDoorOaaa
import Derived.Test.YtcmmbjblncfhbaaGreatDoorOaaf
import Derived.Test.YtcmmbjblncfhbaaGreatDoorOaag
import Derived.Test.YtcmmbjblncfhbaaGreatDoorOaai
import Derived.Test.YtcmmbjblncfhbaaGreatDoorProg
import Derived.Test.YtcmmbjblncfhbaaGreatDoorRows
set_option maxRecDepth 200000
set_option maxHeartbeats 8000000
namespace Go.Psl
open Go.Lib Go.Proofs Go.Shelf Go.RowKit
variable {P : Program}
abbrev OR := Option (Res × EH)
def digB : Nat -> Nat -> List UInt8 -> List UInt8
 | 0, _, acc => acc
 | n + 1, m, acc => bif Nat.blt m 10 then UInt8.ofNat (48 + m) :: acc else digB n (m / 10) (UInt8.ofNat (48 + m % 10) :: acc)
def itoB (z : Int) : List UInt8 := match z with
 | .ofNat m => digB 20 m []
 | .negSucc m => 45 :: digB 20 (m + 1) []
def in64 (z : Int) : Bool := decide (-9223372036854775808 <= z) && decide (z <= 9223372036854775807)
def strB : V -> Option ByteArray
 | .d (.lit (.string s)) => some s
 | _ => none
def strsB : List V -> Option (List ByteArray)
 | [] => some []
 | c :: r => match strB c with
   | some s => (strsB r).map (s :: ·)
   | none => none
def oRet (v : Value) : OR := some (.ret (cV v), [])
def oIx (av : List V) (L : EH) : OR := match av, L with
 | [.d (.lit (.string s)), .d (.lit (.int .u8 c))], [] => oRet (.int .i64 (Go.Lib.indexByte s.data.toList c.toNat.toUInt8))
 | _, _ => none
def oCt (av : List V) (L : EH) : OR := match av, L with
 | [.d (.lit (.string s)), .d (.lit (.string p))], [] => (match p.data.toList with | [c] => oRet (.int .i64 (Go.Lib.countByte s.data.toList c)) | _ => none)
 | _, _ => none
def oIt (av : List V) (L : EH) : OR := match av, L with
 | [.d (.lit (.int .i64 z))], [] => bif in64 z then oRet (.string ⟨(itoB z).toArray⟩) else none
 | _, _ => none
def oCu (av : List V) (L : EH) : OR := match av, L with
 | [.d (.lit (.string s)), .d (.lit (.string p))], [] => bif Nat.blt s.size 4294967281 then some (.ret (.tup [cV (.string ⟨(Go.Lib.cut s.data.toList p.data.toList).1.toArray⟩), cV (.string ⟨(Go.Lib.cut s.data.toList p.data.toList).2.1.toArray⟩), cV (.bool (Go.Lib.cut s.data.toList p.data.toList).2.2)]), []) else none
 | _, _ => none
def joinB (xs : List ByteArray) (sep : ByteArray) : List UInt8 := Go.Lib.join (xs.map (·.data.toList)) sep.data.toList
def oJn1 (j : Nat) (l : List V) (n : Nat) (sep : ByteArray) (xs : List ByteArray) : OR := bif Nat.ble n xs.length && Nat.ble 1 n && Nat.ble n 1000000 && Nat.ble (joinB (xs.take n) sep).length 140737488355328 then some (.ret (cV (.string ⟨(joinB (xs.take n) sep).toArray⟩)), [(j, .cs l)]) else none
def oJn0 (i n : Nat) (sep : ByteArray) (p : Nat × EC) : OR := match p.2 with
 | .cs l => (match strsB l with | some xs => bif Nat.beq i p.1 then oJn1 p.1 l n sep xs else none | none => none)
 | _ => none
def oJn (av : List V) (L : EH) : OR := match av, L with
 | [.ls i 0 n 1, .d (.lit (.string sep))], [p] => oJn0 i n sep p
 | _, _ => none
def bldE (i : Nat) (t : ByteArray) : EH := [(i, .cs [.yl 0, .d (.lit (.int .i64 t.size))]), (0, .cs [.d (.lit (.string t)), .d (.lit (.bool false))])]
def oWs1 (i : Nat) (t s : ByteArray) : OR := bif Nat.ble 1 s.size && Nat.ble (t.size + s.size) 1000000000 && Nat.blt 1 i then some (.ret (.tup [cV (.int .i64 s.size), cV .nilIface]), bldE i (t ++ s)) else none
def bldT2 (L : EH) : Option (Nat × Nat × ByteArray) := match L with
 | [(a, .cs [.yl b, .d (.lit (.int .i64 n))]), (c, .cs [.d (.lit (.string t)), .d (.lit (.bool false))])] => bif Nat.beq b c && !Nat.beq a c && eqI n t.size then some (a, c, t) else none
 | [(c, .cs [.d (.lit (.string t)), .d (.lit (.bool false))]), (a, .cs [.yl b, .d (.lit (.int .i64 n))])] => bif Nat.beq b c && !Nat.beq a c && eqI n t.size then some (a, c, t) else none
 | _ => none
def isNw (L : EH) : Option Nat := match L with
 | [(j, .cs [.d (.lit (.slice none 0 0)), .d (.lit (.int .i64 0))])] => some j
 | _ => none
def oWs2 (i : Nat) (s : ByteArray) (L : EH) (ks : List Nat) : OR := match bldT2 L with
 | some p => bif Nat.beq i p.1 && ks.contains i && Nat.blt 1 p.2.1 then oWs1 i p.2.2 s else none
 | none => (match isNw L with
   | some j => bif Nat.beq i j && ks.contains i then oWs1 i ByteArray.empty s else none
   | none => none)
def oWs (av : List V) (L : EH) (ks : List Nat) : OR := match av with
 | [.yl i, .d (.lit (.string s))] => oWs2 i s L ks
 | _ => none
def oBs (av : List V) (L : EH) : OR := match av with
 | [.yl i] => (match bldT2 L with
   | some p => bif Nat.beq i p.1 && Nat.ble 1 p.2.2.size then oRet (.string p.2.2) else none
   | none => none)
 | _ => none
structure Orc where
 i1 : Nat
 i2 : Nat
 ct : Nat
 ws : Nat
 bs : Nat
 jn : Nat
 it : Nat
 cu : Nat
def orcF (O : Orc) (_ : RS) (g : Nat) (av : List V) (L : EH) (ks : List Nat) : OR :=
 bif Nat.beq g O.i1 then oIx av L else bif Nat.beq g O.i2 then oIx av L else bif Nat.beq g O.ct then oCt av L else bif Nat.beq g O.ws then oWs av L ks
 else bif Nat.beq g O.bs then oBs av L else bif Nat.beq g O.jn then oJn av L else bif Nat.beq g O.it then oIt av L else bif Nat.beq g O.cu then oCu av L else none
theorem digB_eq : ∀ (n m : Nat) (acc : List UInt8), m < 10 ^ n -> 0 < n -> digB n m acc = Go.Lib.decDigits m ++ acc
 | 0, _, _, _, h0 => absurd h0 (Nat.lt_irrefl 0)
 | n + 1, m, acc, h, _ => by
   unfold digB
   rw [Go.Lib.decDigits]
   by_cases hm : m < 10
   . have : Nat.blt m 10 = true := by simpa [Nat.blt_eq] using hm
     rw [this, dif_pos hm]; rfl
   . have : Nat.blt m 10 = false := by
       rw [Bool.eq_false_iff]; intro h; exact hm ((by simpa [Nat.blt_eq] using h))
     rw [this, dif_neg hm, cond_false]
     have hn : 0 < n := by
       cases n with
       | zero => simp at h; omega
       | succ k => exact Nat.succ_pos k
     rw [digB_eq n (m / 10) _ (by rw [Nat.pow_succ] at h; omega) hn]
     simp
theorem itoB_eq {z : Int} (h : in64 z = true) : itoB z = Go.Lib.itoa z := by
 simp only [in64, Bool.and_eq_true, decide_eq_true_eq] at h
 cases z with
 | ofNat m =>
   have hm : m < 10 ^ 20 := by have := h.2; simp only [Int.ofNat_eq_natCast] at this; omega
   simp only [itoB, Go.Lib.itoa]
   rw [digB_eq 20 m [] hm (by decide)]
   simp
 | negSucc m =>
   have hm : m + 1 < 10 ^ 20 := by have := h.1; omega
   simp only [itoB, Go.Lib.itoa]
   rw [digB_eq 20 (m + 1) [] hm (by decide), if_pos (Int.negSucc_lt_zero m)]
   simp
theorem ks_nil {L : EH} {rs : RS} {ks : List Nat} (hL : L = []) (h : ∀ i ∈ ks, ∃ c, lk L i = some c /\ ECe rs i c = false) : ks = [] := by
 subst hL
 cases ks with
 | nil => rfl
 | cons i r => obtain ⟨c, hc, _⟩ := h i (by simp); cases hc
abbrev KsOk (rs : RS) (L : EH) (ks : List Nat) : Prop := ∀ i ∈ ks, ∃ c, lk L i = some c /\ ECe rs i c = false
section pieces
variable {g : FuncId} {av : List V} {L : EH} {ks : List Nat} {rs : RS} {r : Res × EH}
theorem oRet_ok {vs0 : List Value} {v : Value} (hf : isFn P g) (hv : flatV v = true) (h : oRet v = some r) (hL : L = []) (hks : KsOk rs L ks) (hc : ∀ W, GlobN W -> Calls P g vs0.toArray W fun e W' => e = .returned v /\ Below W.heap.size W W') : Cm P g (vs0.map cV) (lk (L.toL rs)) ks r.1 (lk (r.2.toL rs)) := by
 have := ks_nil hL hks
 subst this; subst hL
 cases h
 exact Cm.ofLit hf hv hc
theorem oIx_ok (hf : isFn P g) (hc : ∀ (s : ByteArray) (c : Int) (W : World), Calls P g #[.string s, .int .u8 c] W fun e w' => e = .returned (.int .i64 (Go.Lib.indexByte s.data.toList c.toNat.toUInt8)) /\ w' = W) (h : oIx av L = some r) (hks : KsOk rs L ks) : Cm P g av (lk (L.toL rs)) ks r.1 (lk (r.2.toL rs)) := by
 unfold oIx at h
 split at h
 . rename_i s c
   exact oRet_ok (vs0 := [.string s, .int .u8 c]) hf rfl h rfl hks fun W _ => (hc s c W).mono fun e W' ⟨he, hw⟩ => ⟨he, by rw [hw]; exact Below.refl _ _⟩
 . cases h
theorem oCt_ok (hf : isFn P g) (hc : ∀ (s : ByteArray) (c : UInt8) (W : World), Calls P g #[.string s, .string ⟨#[c]⟩] W fun e w' => e = .returned (.int .i64 (Go.Lib.countByte s.data.toList c)) /\ w' = W) (h : oCt av L = some r) (hks : KsOk rs L ks) : Cm P g av (lk (L.toL rs)) ks r.1 (lk (r.2.toL rs)) := by
 unfold oCt at h
 split at h
 . rename_i s p
   split at h
   . rename_i c hp
     have hp : p = ⟨#[c]⟩ := by
       obtain ⟨⟨l⟩⟩ := p
       have : l = [c] := hp
       subst this; rfl
     subst hp
     exact oRet_ok (vs0 := [.string s, .string ⟨#[c]⟩]) hf rfl h rfl hks fun W _ => (hc s c W).mono fun e W' ⟨he, hw⟩ => ⟨he, by rw [hw]; exact Below.refl _ _⟩
   . cases h
 . cases h
theorem oIt_ok (hf : isFn P g) (hc : ∀ (z : Int), -9223372036854775808 <= z -> z <= 9223372036854775807 -> ∀ W, GlobN W -> Calls P g #[.int .i64 z] W fun e w' => e = .returned (.string ⟨(Go.Lib.itoa z).toArray⟩) /\ Below W.heap.size W w') (h : oIt av L = some r) (hks : KsOk rs L ks) : Cm P g av (lk (L.toL rs)) ks r.1 (lk (r.2.toL rs)) := by
 unfold oIt at h
 split at h
 . rename_i z
   cases hz : in64 z with
   | false => rw [hz] at h; cases h
   | true =>
     rw [hz, cond_true, itoB_eq hz] at h
     simp only [in64, Bool.and_eq_true, decide_eq_true_eq] at hz
     exact oRet_ok (vs0 := [.int .i64 z]) hf rfl h rfl hks fun W hW => hc z hz.1 hz.2 W hW
 . cases h
theorem oCu_ok (hf : isFn P g) (hc : ∀ (s p : ByteArray), s.size < 4294967281 -> ∀ W, GlobN W -> Calls P g #[.string s, .string p] W fun e w' => e = .returned (.tuple #[.string ⟨(Go.Lib.cut s.data.toList p.data.toList).1.toArray⟩, .string ⟨(Go.Lib.cut s.data.toList p.data.toList).2.1.toArray⟩, .bool (Go.Lib.cut s.data.toList p.data.toList).2.2]) /\ Below W.heap.size W w') (h : oCu av L = some r) (hks : KsOk rs L ks) : Cm P g av (lk (L.toL rs)) ks r.1 (lk (r.2.toL rs)) := by
 unfold oCu at h
 split at h
 . rename_i s p
   cases hz : Nat.blt s.size 4294967281 with
   | false => rw [hz] at h; cases h
   | true =>
     rw [hz, cond_true] at h
     have := ks_nil rfl hks
     subst this
     cases h
     exact Cm.ofTup (vs0 := [.string s, .string p]) (vs := [_, _, _]) hf (by simp [flatV]) fun W hW => hc s p (by simpa [Nat.blt_eq] using hz) W hW
 . cases h
theorem strsB_at : ∀ {l : List V} {xs : List ByteArray}, strsB l = some xs -> l = xs.map fun x => .d (.lit (.string x))
 | [], xs, h => by cases h; rfl
 | c :: l, xs, h => by
   simp only [strsB] at h
   split at h
   . rename_i s hs
     simp only [Option.map_eq_some_iff] at h
     obtain ⟨ys, h1, rfl⟩ := h
     have : c = .d (.lit (.string s)) := by
       unfold strB at hs
       split at hs
       . cases hs; rfl
       . cases hs
     rw [this, strsB_at h1]; rfl
   . cases h
theorem join_cm (hf : isFn P g) {xs : List ByteArray} {sep : ByteArray} {k n : Nat} {ks : List Nat} (h0 : 1 <= n) (_ : n <= xs.length) (hc : ∀ (bk o c : Nat) (W : World), (∀ (j : Nat) x, (xs.take n)[j]? = some x -> W.cell? ⟨bk, o + j, none⟩ = some (.string x)) -> bk < W.heap.size -> n <= c -> Calls P g #[.slice (some ⟨bk, o, none⟩) n c, .string sep] W fun e w' => e = .returned (.string ⟨(joinB (xs.take n) sep).toArray⟩) /\ Below W.heap.size W w') :
   Cm P g [.ls k 0 n 1, .d (.lit (.string sep))] (lk [(k, xs.map fun x => .d (.lit (.string x)))]) ks (.ret (cV (.string ⟨(joinB (xs.take n) sep).toArray⟩))) (lk [(k, xs.map fun x => .d (.lit (.string x)))]) := by
 refine ⟨hf, fun G W as0 hGW hargs hpre => ?_⟩
 obtain ⟨u, v0, rfl, hu, hs⟩ := two_args hargs
 have := rv_lit hs.rv
 subst this
 obtain ⟨_, ⟨_, h, _⟩ | ⟨hph, o, cap, rfl, hcap, ho⟩⟩ := hu
 . omega
 obtain ⟨rfl, _⟩ := ho (by omega)
 have hB := hpre.hb k _ (by simp [lk]; rfl)
 obtain ⟨hnim, c, T, ⟨fz, hb, hfz⟩, hbs, hcl, hcr, _⟩ := hB.read hph
 have hcell : ∀ (j : Nat) (x : ByteArray), (xs.take n)[j]? = some x -> W.cell? ⟨G.β k, 0 + j, none⟩ = some (.string x) := fun j x hx => by
   rw [List.getElem?_take] at hx
   split at hx
   case isFalse => cases hx
   have hy : (xs.map fun x => V.d (.lit (.string x)))[j]? = some (.d (.lit (.string x))) := by simp [hx]
   obtain ⟨z, hz, hr⟩ := hcr.get hy
   rw [List.getElem?_take] at hz
   split at hz
   . have := rv_lit hr.r2.rv
     subst this
     simp only [World.cell?, hb, Nat.zero_add]
     simpa using hz
   . cases hz
 have key := hc (G.β k) 0 cap W hcell (Array.getElem?_eq_some_iff.1 hb).1 (by simpa using hcap)
 refine Calls.mono key fun e W' ⟨he, hbw⟩ => ?_
 subst he
 have hchg : Chg (fun _ => True) G W G W' := ⟨fun _ _ => ⟨rfl, rfl, rfl, rfl⟩, fun b hb => ⟨hb, hbw.block b (hGW.1 b hb)⟩⟩
 have hac : ∀ c ∈ (xs.map fun x => V.d (.lit (.string x))), AC (InH (lk [(k, xs.map fun x => V.d (.lit (.string x)))])) anyD c := fun c hc => by
   obtain ⟨x, _, rfl⟩ := List.mem_map.1 hc
   trivial
 refine ⟨G, ⟨hbw.os, hbw.tape, hbw.output, Nat.le_refl _, hbw.size, fun b hb' _ => hbw.block b hb', fun b hb' => ⟨Nat.lt_of_lt_of_le (hGW.1 b hb') hbw.size, .inl hb'⟩, fun _ h => h, RD.lit _ rfl, trivial, fun i cs h => ?_, hpre.inj, fun i hi _ => ⟨rfl, rfl, (hpre.st i hi).2, rfl⟩⟩⟩
 have hik : i = k /\ cs = xs.map fun x => V.d (.lit (.string x)) := by
   simp only [lk] at h
   split at h
   . rename_i he; cases h; exact ⟨he, rfl⟩
   . cases h
 obtain ⟨rfl, rfl⟩ := hik
 exact ⟨hchg.hb trivial (fun c hcc => AC.mono (fun _ _ => trivial) (fun _ h => h) (hac c hcc)) hB (fun hph => hbw.block _ (hB.lt hph)) (fun h _ => h), fun hph => .inr ⟨i, by simp [InH, lk], hph, rfl⟩, hac⟩
theorem oJn_ok (hf : isFn P g) (hc : ∀ (xs : List ByteArray) (sep : ByteArray) (bk o c : Nat) (W : World), (∀ (j : Nat) x, xs[j]? = some x -> W.cell? ⟨bk, o + j, none⟩ = some (.string x)) -> bk < W.heap.size -> xs.length <= 140737488355328 -> xs.length <= c -> (joinB xs sep).length <= 140737488355328 -> Calls P g #[.slice (some ⟨bk, o, none⟩) xs.length c, .string sep] W fun e w' => e = .returned (.string ⟨(joinB xs sep).toArray⟩) /\ Below W.heap.size W w') (h : oJn av L = some r) : Cm P g av (lk (L.toL rs)) ks r.1 (lk (r.2.toL rs)) := by
 unfold oJn at h
 split at h
 case h_2 => cases h
 rename_i i n sep p
 obtain ⟨j, c⟩ := p
 unfold oJn0 at h
 simp only at h
 split at h
 case h_2 => cases h
 rename_i l
 split at h
 case h_2 => cases h
 rename_i xs hxs
 have hl := strsB_at hxs
 subst hl
 cases hij : Nat.beq i j with
 | false => rw [hij] at h; cases h
 | true =>
   rw [hij, cond_true] at h
   have hij := Nat.eq_of_beq_eq_true hij
   subst hij
   unfold oJn1 at h
   cases hb : (Nat.ble n xs.length && Nat.ble 1 n && Nat.ble n 1000000 && Nat.ble (joinB (xs.take n) sep).length 140737488355328) with
   | false => rw [hb] at h; cases h
   | true =>
     rw [hb, cond_true] at h
     cases h
     simp only [Bool.and_eq_true] at hb
     obtain ⟨⟨⟨h1, h2⟩, h3⟩, h4⟩ := hb
     have h1 := Nat.le_of_ble_eq_true h1
     have h2 := Nat.le_of_ble_eq_true h2
     have h3 := Nat.le_of_ble_eq_true h3
     have h4 := Nat.le_of_ble_eq_true h4
     have hl : (xs.take n).length = n := by rw [List.length_take]; omega
     refine join_cm hf h2 h1 fun bk o c W q1 q2 q3 => ?_
     have := hc (xs.take n) sep bk o c W q1 q2 (by omega) (by omega) h4
     rw [hl] at this
     exact this
theorem eqI_at {a b : Int} (h : eqI a b = true) : a = b := by
 cases a <;> cases b <;> simp only [eqI] at h
 . rw [Nat.eq_of_beq_eq_true h]
 . cases h
 . cases h
 . rw [Nat.eq_of_beq_eq_true h]
def sgI (a c x : Nat) : Nat := if x = 0 then a else c
theorem sgI_inj {a c : Nat} (h : a ≠ c) : ∀ i j, i < 2 -> j < 2 -> sgI a c i = sgI a c j -> i = j := by
 intro i j hi hj he
 unfold sgI at he
 split at he <;> split at he <;> first | omega | (exact absurd he h) | (exact absurd he.symm h)
theorem bldT2_at {L : EH} {a c : Nat} {t : ByteArray} (h : bldT2 L = some (a, c, t)) : a ≠ c /\ lk (L.toL rs) = lk (renL (sgI a c) (bldL t)) /\ ∀ i, (lk L i).isSome -> i = a \/ i = c := by
 unfold bldT2 at h
 split at h
 . rename_i a' b' n' c' t'
   cases hb : (Nat.beq b' c' && !Nat.beq a' c' && eqI n' t'.size) with
   | false => rw [hb] at h; cases h
   | true =>
     rw [hb] at h
     cases h
     simp only [Bool.and_eq_true, Bool.not_eq_true'] at hb
     obtain ⟨⟨h1, h2⟩, h3⟩ := hb
     have h1 := Nat.eq_of_beq_eq_true h1
     have h3 := eqI_at h3
     subst h1; subst h3
     refine ⟨fun e => by subst e; simp at h2, rfl, fun i hi => ?_⟩
     simp only [lk] at hi
     split at hi
     . exact .inl (by assumption)
     . split at hi
       . exact .inr (by assumption)
       . cases hi
 . rename_i a' t' b' c' n'
   cases hb : (Nat.beq c' a' && !Nat.beq b' a' && eqI n' t'.size) with
   | false => rw [hb] at h; cases h
   | true =>
     rw [hb] at h
     cases h
     simp only [Bool.and_eq_true, Bool.not_eq_true'] at hb
     obtain ⟨⟨h1, h2⟩, h3⟩ := hb
     have h1 := Nat.eq_of_beq_eq_true h1
     have h3 := eqI_at h3
     subst h1; subst h3
     have hne : a ≠ c' := fun e => by subst e; simp at h2
     refine ⟨hne, ?_, fun i hi => ?_⟩
     . funext x
       show (if x = c' then some [V.d (.lit (.string t)), .d (.lit (.bool false))] else if x = a then some [V.yl c', .d (.lit (.int .i64 t.size))] else none) = (if x = a then some [V.yl c', .d (.lit (.int .i64 t.size))] else if x = c' then some [V.d (.lit (.string t)), .d (.lit (.bool false))] else none)
       by_cases h1 : x = a
       . subst h1; simp [hne]
       . simp [h1]
     . simp only [lk] at hi
       split at hi
       . exact .inr (by assumption)
       . split at hi
         . exact .inl (by assumption)
         . cases hi
 . cases h
theorem oWs1_at {i : Nat} {t s : ByteArray} (h : oWs1 i t s = some r) : 0 < s.size /\ t.size + s.size <= 1000000000 /\ 1 < i /\ r = (.ret (.tup [cV (.int .i64 s.size), cV .nilIface]), bldE i (t ++ s)) := by
 unfold oWs1 at h
 cases hb : (Nat.ble 1 s.size && Nat.ble (t.size + s.size) 1000000000 && Nat.blt 1 i) with
 | false => rw [hb] at h; cases h
 | true =>
   rw [hb] at h
   cases h
   simp only [Bool.and_eq_true] at hb
   exact ⟨Nat.le_of_ble_eq_true hb.1.1, Nat.le_of_ble_eq_true hb.1.2, by simpa [Nat.blt_eq] using hb.2, rfl⟩
theorem bldL_lt (t : ByteArray) : idsLt 2 (bldL t) := by simp [idsLt, bldL]
theorem bldE_in {i x : Nat} {t : ByteArray} (h : InH (lk (renL (sgI i 0) (bldL t))) x) : x = i \/ x = 0 := by
 have h : (if x = i then some [V.yl 0, .d (.lit (.int .i64 t.size))] else if x = 0 then some [V.d (.lit (.string t)), .d (.lit (.bool false))] else none).isSome = true := h
 split at h
 . exact .inl (by assumption)
 . split at h
   . exact .inr (by assumption)
   . cases h
theorem oWs_ok (h1 : ∀ s : ByteArray, 0 < s.size -> s.size <= 140737488355328 -> Cm P g [.yl 0, .d (.lit (.string s))] (lk [(0, [.d (.lit (.slice none 0 0)), .d (.lit (.int .i64 0))])]) [0] (.ret (.tup [.d (.lit (.int .i64 s.size)), .d (.lit .nilIface)])) (lk (bldL s)))
   (h2 : ∀ t s : ByteArray, 0 < s.size -> t.size + s.size <= 140737488355328 -> Cm P g [.yl 0, .d (.lit (.string s))] (lk (bldL t)) [0] (.ret (.tup [.d (.lit (.int .i64 s.size)), .d (.lit .nilIface)])) (lk (bldL (t ++ s)))) (h : oWs av L ks = some r) (hks : KsOk rs L ks) : Cm P g av (lk (L.toL rs)) ks r.1 (lk (r.2.toL rs)) := by
 unfold oWs at h
 split at h
 case h_2 => cases h
 rename_i i s
 unfold oWs2 at h
 split at h
 . rename_i p hp
   obtain ⟨a, c, t⟩ := p
   obtain ⟨q1, q2, q3⟩ := bldT2_at (rs := rs) hp
   simp only at h
   cases hb : (Nat.beq i a && ks.contains i && Nat.blt 1 c) with
   | false => rw [hb] at h; cases h
   | true =>
     rw [hb, cond_true] at h
     simp only [Bool.and_eq_true] at hb
     obtain ⟨⟨b1, b2⟩, b3⟩ := hb
     have b1 := Nat.eq_of_beq_eq_true b1
     have b3 : 1 < c := by simpa [Nat.blt_eq] using b3
     subst b1
     obtain ⟨w1, w2, w3, rfl⟩ := oWs1_at h
     rw [q2]
     refine Cm.ren2 (sgI i c) (sgI i 0) 2 (sgI_inj q1) (sgI_inj (by omega)) ks (h2 t s w1 (by omega)) (bldL_lt t) (bldL_lt _) (by simp) (fun x hx => ?_) fun x hx hin => ?_
     . have : x = 0 := by simpa using hx
       subst this
       exact by simpa [sgI] using b2
     . obtain ⟨cc, hc, _⟩ := hks x hx
       have hx' := q3 x (by rw [hc]; rfl)
       rcases bldE_in hin with rfl | rfl
       . exact ⟨0, by simp, rfl, rfl⟩
       . omega
 . split at h
   . rename_i j hj
     unfold isNw at hj
     split at hj
     case h_2 => cases hj
     cases hj
     cases hb : (Nat.beq i j && ks.contains i) with
     | false => rw [hb] at h; cases h
     | true =>
       rw [hb, cond_true] at h
       simp only [Bool.and_eq_true] at hb
       obtain ⟨b1, b2⟩ := hb
       have b1 := Nat.eq_of_beq_eq_true b1
       subst b1
       obtain ⟨w1, w2, w3, rfl⟩ := oWs1_at h
       have e0 : ByteArray.empty ++ s = s := ByteArray.ext (by rw [ByteArray.data_append]; exact Array.empty_append)
       rw [e0]
       refine Cm.ren2 (sgI i 0) (sgI i 0) 2 (sgI_inj (by omega)) (sgI_inj (by omega)) ks (h1 s w1 (by omega)) (by simp [idsLt]) (bldL_lt _) (by simp) (fun x hx => ?_) fun x hx hin => ?_
       . have : x = 0 := by simpa using hx
         subst this
         exact by simpa [sgI] using b2
       . obtain ⟨cc, hc, _⟩ := hks x hx
         have hx' : x = i := by
           simp only [lk] at hc
           split at hc
           . assumption
           . cases hc
         exact ⟨0, by simp, hx'.symm, hx'.symm⟩
   . cases h
theorem oBs_ok (h1 : ∀ t : ByteArray, 0 < t.size -> Cm P g [.yl 0] (lk (bldL t)) [] (.ret (.d (.lit (.string t)))) (lk [])) (h : oBs av L = some r) : Cm P g av (lk (L.toL rs)) ks r.1 (lk (r.2.toL rs)) := by
 unfold oBs at h
 split at h
 case h_2 => cases h
 rename_i i
 split at h
 case h_2 => cases h
 rename_i p hp
 obtain ⟨a, c, t⟩ := p
 obtain ⟨q1, q2, q3⟩ := bldT2_at (rs := rs) hp
 simp only at h
 cases hb : (Nat.beq i a && Nat.ble 1 t.size) with
 | false => rw [hb] at h; cases h
 | true =>
   rw [hb, cond_true] at h
   simp only [Bool.and_eq_true] at hb
   obtain ⟨b1, b2⟩ := hb
   have b1 := Nat.eq_of_beq_eq_true b1
   subst b1
   cases h
   rw [q2]
   exact Cm.ren2 (sgI i c) (sgI i c) 2 (sgI_inj q1) (sgI_inj q1) ks (h1 t (Nat.le_of_ble_eq_true b2)) (bldL_lt t) (by simp [idsLt]) nofun nofun fun x _ hin => by cases hin
end pieces
end Go.Psl
namespace Go.Proofs
def Tryz.itoaL_ren : Go.Shelf.Ren := ⟨fun | 171 => 56 | 243 => 157 | 246 => 236 | 283 => 307 | 284 => 308 | 285 => 309 | 286 => 310 | 129 => 357 | 317 => 356 | 318 => 358 | 319 => 359 | 320 => 360 | 337 => 380 | 338 => 381 | n => n, fun | 3 => 3 | 9 => 9 | 2 => 2 | 4 => 4 | 171 => 383 | 0 => 0 | 53 => 384 | 37 => 113 | 5 => 5 | 173 => 387 | 212 => 429 | 51 => 412 | 20 => 20 | 213 => 430 | 46 => 355 | 232 => 475 | 233 => 476 | n => n, fun | 17 => 3 | 18 => 6 | 19 => 7 | n => n⟩
theorem Tryz.itoaL : Go.Proofs.LaysM.n171 Tryz.prog Tryz.itoaL_ren := {
 mixed := by kernel_rfl,
 f129 := Tryz.func357.trans (congrArg some (by kernel_rfl)),
 f171 := Tryz.func56.trans (congrArg some (by kernel_rfl)),
 f243 := Tryz.func157.trans (congrArg some (by kernel_rfl)),
 f246 := Tryz.func236.trans (congrArg some (by kernel_rfl)),
 f283 := Tryz.func307.trans (congrArg some (by kernel_rfl)),
 f284 := Tryz.func308.trans (congrArg some (by kernel_rfl)),
 f285 := Tryz.func309.trans (congrArg some (by kernel_rfl)),
 f286 := Tryz.func310.trans (congrArg some (by kernel_rfl)),
 f317 := Tryz.func356.trans (congrArg some (by kernel_rfl)),
 f318 := Tryz.func358.trans (congrArg some (by kernel_rfl)),
 f319 := Tryz.func359.trans (congrArg some (by kernel_rfl)),
 f320 := Tryz.func360.trans (congrArg some (by kernel_rfl)),
 f337 := Tryz.func380.trans (congrArg some (by kernel_rfl)),
 f338 := Tryz.func381.trans (congrArg some (by kernel_rfl)),
 t0 := Tryz.underlying0,
 a0 := Tryz.isAgg0,
 z0 := Tryz.sizeOf0,
 v0 := Tryz.zeroValue0,
 t2 := Tryz.underlying2,
 a2 := Tryz.isAgg2,
 z2 := Tryz.sizeOf2,
 v2 := Tryz.zeroValue2,
 t3 := Tryz.underlying3,
 a3 := Tryz.isAgg3,
 z3 := Tryz.sizeOf3,
 v3 := Tryz.zeroValue3,
 t4 := Tryz.underlying4,
 a4 := Tryz.isAgg4,
 z4 := Tryz.sizeOf4,
 v4 := Tryz.zeroValue4,
 t5 := Tryz.underlying5,
 a5 := Tryz.isAgg5,
 z5 := Tryz.sizeOf5,
 v5 := Tryz.zeroValue5,
 t9 := Tryz.underlying9,
 a9 := Tryz.isAgg9,
 z9 := Tryz.sizeOf9,
 v9 := Tryz.zeroValue9,
 t20 := Tryz.underlying20,
 a20 := Tryz.isAgg20,
 z20 := Tryz.sizeOf20,
 v20 := Tryz.zeroValue20,
 t37 := Tryz.underlying113,
 a37 := Tryz.isAgg113,
 z37 := Tryz.sizeOf113,
 v37 := Tryz.zeroValue113,
 t46 := Tryz.underlying355,
 a46 := Tryz.isAgg355,
 z46 := Tryz.sizeOf355,
 v46 := Tryz.zeroValue355,
 t51 := Tryz.underlying412,
 a51 := Tryz.isAgg412,
 z51 := Tryz.sizeOf412,
 v51 := Tryz.zeroValue412,
 t53 := Tryz.underlying384,
 a53 := Tryz.isAgg384,
 z53 := Tryz.sizeOf384,
 v53 := Tryz.zeroValue384,
 t171 := Tryz.underlying383,
 a171 := Tryz.isAgg383,
 z171 := Tryz.sizeOf383,
 v171 := Tryz.zeroValue383,
 t173 := Tryz.underlying387,
 a173 := Tryz.isAgg387,
 z173 := Tryz.sizeOf387,
 v173 := Tryz.zeroValue387,
 t212 := Tryz.underlying429,
 a212 := Tryz.isAgg429,
 z212 := Tryz.sizeOf429,
 v212 := Tryz.zeroValue429,
 t213 := Tryz.underlying430,
 a213 := Tryz.isAgg430,
 z213 := Tryz.sizeOf430,
 t232 := Tryz.underlying475,
 a232 := Tryz.isAgg475,
 z232 := Tryz.sizeOf475,
 v232 := Tryz.zeroValue475,
 t233 := Tryz.underlying476,
 a233 := Tryz.isAgg476,
 z233 := Tryz.sizeOf476,
 v233 := Tryz.zeroValue476,
 g17 := by kernel_rfl,
 g18 := by kernel_rfl,
 g19 := by kernel_rfl,
 i0 := by kernel_rfl,
 i2 := by kernel_rfl,
 i3 := by kernel_rfl,
 i4 := by kernel_rfl,
 i5 := by kernel_rfl,
 i9 := by kernel_rfl,
 i20 := by kernel_rfl,
 i37 := by kernel_rfl,
 i46 := by kernel_rfl,
 i51 := by kernel_rfl,
 i53 := by kernel_rfl,
 i171 := by kernel_rfl,
 i173 := by kernel_rfl,
 i212 := by kernel_rfl,
 i232 := by kernel_rfl,
 i233 := by kernel_rfl,
 m17 := by kernel_rfl,
 m18 := by kernel_rfl,
 m19 := by kernel_rfl }
def Tryz.cutL_ren : Go.Shelf.Ren := ⟨fun | 145 => 193 | 220 => 278 | 219 => 177 | 217 => 265 | 225 => 266 | 224 => 267 | 267 => 268 | 266 => 338 | 314 => 339 | n => n, fun | 9 => 9 | 4 => 4 | 59 => 288 | 3 => 3 | 5 => 5 | 46 => 355 | 146 => 413 | 51 => 412 | n => n, fun | 1 => 0 | n => n⟩
theorem Tryz.cutL : Go.Proofs.LaysM.n145 Tryz.prog Tryz.cutL_ren := {
 mixed := by kernel_rfl,
 f145 := Tryz.func193.trans (congrArg some (by kernel_rfl)),
 f217 := Tryz.func265.trans (congrArg some (by kernel_rfl)),
 f219 := Tryz.func177.trans (congrArg some (by kernel_rfl)),
 f220 := Tryz.func278.trans (congrArg some (by kernel_rfl)),
 f224 := Tryz.func267.trans (congrArg some (by kernel_rfl)),
 f225 := Tryz.func266.trans (congrArg some (by kernel_rfl)),
 f266 := Tryz.func338.trans (congrArg some (by kernel_rfl)),
 f267 := Tryz.func268.trans (congrArg some (by kernel_rfl)),
 f314 := Tryz.func339.trans (congrArg some (by kernel_rfl)),
 t3 := Tryz.underlying3,
 a3 := Tryz.isAgg3,
 z3 := Tryz.sizeOf3,
 v3 := Tryz.zeroValue3,
 t4 := Tryz.underlying4,
 a4 := Tryz.isAgg4,
 z4 := Tryz.sizeOf4,
 v4 := Tryz.zeroValue4,
 t5 := Tryz.underlying5,
 a5 := Tryz.isAgg5,
 z5 := Tryz.sizeOf5,
 v5 := Tryz.zeroValue5,
 t9 := Tryz.underlying9,
 a9 := Tryz.isAgg9,
 z9 := Tryz.sizeOf9,
 v9 := Tryz.zeroValue9,
 t46 := Tryz.underlying355,
 a46 := Tryz.isAgg355,
 z46 := Tryz.sizeOf355,
 v46 := Tryz.zeroValue355,
 t51 := Tryz.underlying412,
 a51 := Tryz.isAgg412,
 z51 := Tryz.sizeOf412,
 v51 := Tryz.zeroValue412,
 t59 := Tryz.underlying288,
 a59 := Tryz.isAgg288,
 z59 := Tryz.sizeOf288,
 v59 := Tryz.zeroValue288,
 t146 := Tryz.underlying413,
 a146 := Tryz.isAgg413,
 z146 := Tryz.sizeOf413,
 v146 := Tryz.zeroValue413,
 g1 := by kernel_rfl,
 i3 := by kernel_rfl,
 i4 := by kernel_rfl,
 i5 := by kernel_rfl,
 i9 := by kernel_rfl,
 i46 := by kernel_rfl,
 i51 := by kernel_rfl,
 i59 := by kernel_rfl,
 i146 := by kernel_rfl,
 m1 := by kernel_rfl,
 s1_3 := fun w h => Go.Proofs.cell_of_shapedOpen_int (zero := #[.int .i64 0]) (t := 3) h (of_decide_eq_true (by kernel_rfl)) (by kernel_rfl) rfl (by kernel_rfl) (by kernel_rfl) Tryz.underlying3 }
def Tryz.joinL_ren : Go.Shelf.Ren := ⟨fun | 156 => 32 | 165 => 109 | 166 => 31 | 169 => 33 | 240 => 108 | 241 => 185 | 276 => 184 | 277 => 277 | n => n, fun | 31 => 119 | 9 => 9 | 3 => 3 | 4 => 4 | 0 => 0 | 20 => 20 | 72 => 115 | 76 => 124 | 70 => 112 | 37 => 113 | 75 => 123 | 127 => 194 | 164 => 282 | 5 => 5 | 80 => 95 | n => n, fun | n => n⟩
theorem Tryz.joinL : Go.Proofs.Lays.n156 Tryz.prog Tryz.joinL_ren := {
 mixed := by kernel_rfl,
 f156 := Tryz.func32.trans (congrArg some (by kernel_rfl)),
 f165 := Tryz.func109.trans (congrArg some (by kernel_rfl)),
 f166 := Tryz.func31.trans (congrArg some (by kernel_rfl)),
 f169 := Tryz.func33.trans (congrArg some (by kernel_rfl)),
 f240 := Tryz.func108.trans (congrArg some (by kernel_rfl)),
 f241 := Tryz.func185.trans (congrArg some (by kernel_rfl)),
 f276 := Tryz.func184.trans (congrArg some (by kernel_rfl)),
 f277 := Tryz.func277.trans (congrArg some (by kernel_rfl)),
 t0 := Tryz.underlying0,
 a0 := Tryz.isAgg0,
 z0 := Tryz.sizeOf0,
 v0 := Tryz.zeroValue0,
 t3 := Tryz.underlying3,
 a3 := Tryz.isAgg3,
 z3 := Tryz.sizeOf3,
 v3 := Tryz.zeroValue3,
 t4 := Tryz.underlying4,
 a4 := Tryz.isAgg4,
 z4 := Tryz.sizeOf4,
 v4 := Tryz.zeroValue4,
 t9 := Tryz.underlying9,
 a9 := Tryz.isAgg9,
 z9 := Tryz.sizeOf9,
 v9 := Tryz.zeroValue9,
 t20 := Tryz.underlying20,
 a20 := Tryz.isAgg20,
 z20 := Tryz.sizeOf20,
 v20 := Tryz.zeroValue20,
 t31 := Tryz.underlying119,
 a31 := Tryz.isAgg119,
 z31 := Tryz.sizeOf119,
 v31 := Tryz.zeroValue119,
 t37 := Tryz.underlying113,
 a37 := Tryz.isAgg113,
 z37 := Tryz.sizeOf113,
 v37 := Tryz.zeroValue113,
 t70 := Tryz.underlying112,
 a70 := Tryz.isAgg112,
 z70 := Tryz.sizeOf112,
 v70 := Tryz.zeroValue112,
 t72 := Tryz.underlying115,
 a72 := Tryz.isAgg115,
 z72 := Tryz.sizeOf115,
 v72 := Tryz.zeroValue115,
 t75 := Tryz.underlying123,
 a75 := Tryz.isAgg123,
 z75 := Tryz.sizeOf123,
 v75 := Tryz.zeroValue123,
 t76 := Tryz.underlying124,
 a76 := Tryz.isAgg124,
 z76 := Tryz.sizeOf124,
 v76 := Tryz.zeroValue124,
 t127 := Tryz.underlying194,
 a127 := Tryz.isAgg194,
 z127 := Tryz.sizeOf194,
 v127 := Tryz.zeroValue194,
 t164 := Tryz.underlying282,
 a164 := Tryz.isAgg282,
 z164 := Tryz.sizeOf282,
 v164 := Tryz.zeroValue282 }
def Tryz.wstrL_ren : Go.Shelf.Ren := ⟨fun | 166 => 31 | 240 => 108 | 276 => 184 | n => n, fun | 70 => 112 | 9 => 9 | 3 => 3 | 75 => 123 | 0 => 0 | 72 => 115 | 37 => 113 | 4 => 4 | 164 => 282 | 80 => 95 | 5 => 5 | n => n, fun | n => n⟩
theorem Tryz.wstrL : Go.Proofs.Lays.n166 Tryz.prog Tryz.wstrL_ren := {
 mixed := by kernel_rfl,
 f166 := Tryz.func31.trans (congrArg some (by kernel_rfl)),
 f240 := Tryz.func108.trans (congrArg some (by kernel_rfl)),
 f276 := Tryz.func184.trans (congrArg some (by kernel_rfl)),
 t0 := Tryz.underlying0,
 a0 := Tryz.isAgg0,
 z0 := Tryz.sizeOf0,
 v0 := Tryz.zeroValue0,
 t3 := Tryz.underlying3,
 a3 := Tryz.isAgg3,
 z3 := Tryz.sizeOf3,
 v3 := Tryz.zeroValue3,
 t4 := Tryz.underlying4,
 a4 := Tryz.isAgg4,
 z4 := Tryz.sizeOf4,
 v4 := Tryz.zeroValue4,
 t9 := Tryz.underlying9,
 a9 := Tryz.isAgg9,
 z9 := Tryz.sizeOf9,
 v9 := Tryz.zeroValue9,
 t20 := Tryz.underlying20,
 a20 := Tryz.isAgg20,
 z20 := Tryz.sizeOf20,
 v20 := Tryz.zeroValue20,
 t37 := Tryz.underlying113,
 a37 := Tryz.isAgg113,
 z37 := Tryz.sizeOf113,
 v37 := Tryz.zeroValue113,
 t70 := Tryz.underlying112,
 a70 := Tryz.isAgg112,
 z70 := Tryz.sizeOf112,
 v70 := Tryz.zeroValue112,
 t72 := Tryz.underlying115,
 a72 := Tryz.isAgg115,
 z72 := Tryz.sizeOf115,
 v72 := Tryz.zeroValue115,
 t75 := Tryz.underlying123,
 a75 := Tryz.isAgg123,
 z75 := Tryz.sizeOf123,
 v75 := Tryz.zeroValue123,
 t164 := Tryz.underlying282,
 a164 := Tryz.isAgg282,
 z164 := Tryz.sizeOf282,
 v164 := Tryz.zeroValue282 }
def Tryz.bstrL_ren : Go.Shelf.Ren := ⟨fun | 169 => 33 | n => n, fun | 70 => 112 | 9 => 9 | 0 => 0 | 72 => 115 | 37 => 113 | 127 => 194 | 3 => 3 | 5 => 5 | n => n, fun | n => n⟩
theorem Tryz.bstrL : Go.Proofs.Lays.n169 Tryz.prog Tryz.bstrL_ren := {
 mixed := by kernel_rfl,
 f169 := Tryz.func33.trans (congrArg some (by kernel_rfl)),
 t0 := Tryz.underlying0,
 a0 := Tryz.isAgg0,
 z0 := Tryz.sizeOf0,
 v0 := Tryz.zeroValue0,
 t3 := Tryz.underlying3,
 a3 := Tryz.isAgg3,
 z3 := Tryz.sizeOf3,
 v3 := Tryz.zeroValue3,
 t9 := Tryz.underlying9,
 a9 := Tryz.isAgg9,
 z9 := Tryz.sizeOf9,
 v9 := Tryz.zeroValue9,
 t37 := Tryz.underlying113,
 a37 := Tryz.isAgg113,
 z37 := Tryz.sizeOf113,
 v37 := Tryz.zeroValue113,
 t70 := Tryz.underlying112,
 a70 := Tryz.isAgg112,
 z70 := Tryz.sizeOf112,
 v70 := Tryz.zeroValue112,
 t72 := Tryz.underlying115,
 a72 := Tryz.isAgg115,
 z72 := Tryz.sizeOf115,
 v72 := Tryz.zeroValue115,
 t127 := Tryz.underlying194,
 a127 := Tryz.isAgg194,
 z127 := Tryz.sizeOf194,
 v127 := Tryz.zeroValue194 }
def Tryz.idxL_ren : Go.Shelf.Ren := ⟨fun | 137 => 188 | 217 => 265 | 266 => 338 | n => n, fun | 9 => 9 | 5 => 5 | 3 => 3 | n => n, fun | n => n⟩
theorem Tryz.idxL : Go.Proofs.Lays.n137 Tryz.prog Tryz.idxL_ren := {
 mixed := by kernel_rfl,
 f137 := Tryz.func188.trans (congrArg some (by kernel_rfl)),
 f217 := Tryz.func265.trans (congrArg some (by kernel_rfl)),
 f266 := Tryz.func338.trans (congrArg some (by kernel_rfl)),
 t3 := Tryz.underlying3,
 a3 := Tryz.isAgg3,
 z3 := Tryz.sizeOf3,
 v3 := Tryz.zeroValue3,
 t5 := Tryz.underlying5,
 a5 := Tryz.isAgg5,
 z5 := Tryz.sizeOf5,
 v5 := Tryz.zeroValue5,
 t9 := Tryz.underlying9,
 a9 := Tryz.isAgg9,
 z9 := Tryz.sizeOf9,
 v9 := Tryz.zeroValue9 }
def Tryz.cntL_ren : Go.Shelf.Ren := ⟨fun | 138 => 27 | 195 => 98 | 218 => 99 | 143 => 100 | 219 => 177 | 217 => 265 | 225 => 266 | 224 => 267 | 267 => 268 | 266 => 338 | 314 => 339 | n => n, fun | 9 => 9 | 3 => 3 | 4 => 4 | 5 => 5 | 0 => 0 | 46 => 355 | 146 => 413 | 51 => 412 | n => n, fun | 1 => 0 | n => n⟩
theorem Tryz.cntL : Go.Proofs.Lays.n138 Tryz.prog Tryz.cntL_ren := {
 mixed := by kernel_rfl,
 f138 := Tryz.func27.trans (congrArg some (by kernel_rfl)),
 f143 := Tryz.func100.trans (congrArg some (by kernel_rfl)),
 f195 := Tryz.func98.trans (congrArg some (by kernel_rfl)),
 f217 := Tryz.func265.trans (congrArg some (by kernel_rfl)),
 f218 := Tryz.func99.trans (congrArg some (by kernel_rfl)),
 f219 := Tryz.func177.trans (congrArg some (by kernel_rfl)),
 f224 := Tryz.func267.trans (congrArg some (by kernel_rfl)),
 f225 := Tryz.func266.trans (congrArg some (by kernel_rfl)),
 f266 := Tryz.func338.trans (congrArg some (by kernel_rfl)),
 f267 := Tryz.func268.trans (congrArg some (by kernel_rfl)),
 f314 := Tryz.func339.trans (congrArg some (by kernel_rfl)),
 t0 := Tryz.underlying0,
 a0 := Tryz.isAgg0,
 z0 := Tryz.sizeOf0,
 v0 := Tryz.zeroValue0,
 t3 := Tryz.underlying3,
 a3 := Tryz.isAgg3,
 z3 := Tryz.sizeOf3,
 v3 := Tryz.zeroValue3,
 t4 := Tryz.underlying4,
 a4 := Tryz.isAgg4,
 z4 := Tryz.sizeOf4,
 v4 := Tryz.zeroValue4,
 t5 := Tryz.underlying5,
 a5 := Tryz.isAgg5,
 z5 := Tryz.sizeOf5,
 v5 := Tryz.zeroValue5,
 t9 := Tryz.underlying9,
 a9 := Tryz.isAgg9,
 z9 := Tryz.sizeOf9,
 v9 := Tryz.zeroValue9,
 t46 := Tryz.underlying355,
 a46 := Tryz.isAgg355,
 z46 := Tryz.sizeOf355,
 v46 := Tryz.zeroValue355,
 t51 := Tryz.underlying412,
 a51 := Tryz.isAgg412,
 z51 := Tryz.sizeOf412,
 v51 := Tryz.zeroValue412,
 t146 := Tryz.underlying413,
 a146 := Tryz.isAgg413,
 z146 := Tryz.sizeOf413,
 v146 := Tryz.zeroValue413,
 g1 := by kernel_rfl }
theorem Tryz.bldX : Builder.Extra Tryz.prog Tryz.wstrL_ren := {
 sizeBuilder := by kernel_rfl, liesBuilder := by kernel_rfl, t5 := Tryz.underlying5, a5 := Tryz.isAgg5, z5 := Tryz.sizeOf5, v5 := Tryz.zeroValue5, infoByte := by kernel_rfl, cellsByte := by kernel_rfl, sizeByte := by kernel_rfl, neB5 := by decide }
theorem Tryz.bldXj : Builder.Extra Tryz.prog Tryz.joinL_ren := {
 sizeBuilder := by kernel_rfl, liesBuilder := by kernel_rfl, t5 := Tryz.underlying5, a5 := Tryz.isAgg5, z5 := Tryz.sizeOf5, v5 := Tryz.zeroValue5, infoByte := by kernel_rfl, cellsByte := by kernel_rfl, sizeByte := by kernel_rfl, neB5 := by decide }
theorem Tryz.bldXb : Builder.Extra Tryz.prog Tryz.bstrL_ren := {
 sizeBuilder := by kernel_rfl, liesBuilder := by kernel_rfl, t5 := Tryz.underlying5, a5 := Tryz.isAgg5, z5 := Tryz.sizeOf5, v5 := Tryz.zeroValue5, infoByte := by kernel_rfl, cellsByte := by kernel_rfl, sizeByte := by kernel_rfl, neB5 := by decide }
end Go.Proofs
namespace Go.Proofs.Tryz
open Go Go.Psl Go.Lib Go.Proofs Go.Shelf Go.RowKit Go.Sort
def OO : Orc := ⟨265, 188, 27, 31, 33, 32, 56, 193⟩
theorem tab_of {W Wr : World} {g : Nat} {c : Array Value} (h : tabW Wr g c) (h2 : ∀ k, k < Wr.heap.size -> W.heap[k]? = Wr.heap[k]?) : tabW W g c := by
 obtain ⟨T, fz, hb⟩ := h
 exact ⟨T, fz, (h2 g (Array.getElem?_eq_some_iff.1 hb).1).trans hb⟩
theorem tab_var {W : World} {g : Nat} {c : Array Value} (h : tabW W g c) {name : String} (hn : prog.globalNamed name = some g) : W.var? prog name = some c := by
 obtain ⟨T, fz, hb⟩ := h
 simp [World.var?, hn, hb]
theorem tab_cell {W : World} {g : Nat} {v : Value} (h : tabW W g #[v]) : W.cell? ⟨g, 0, none⟩ = some v := by
 obtain ⟨T, fz, hb⟩ := h
 simp [World.cell?, hb]
theorem globPow {W : World} (h : GlobN W) : Go.Lib.TabIs prog W "internal/strconv.uint64pow10" .u64 Go.Lib.pow10Tab := by
 obtain ⟨Wr, h1, h2⟩ := h
 have := h1 gPow (by decide)
 have h3 : tabW Wr gPow ((List.range 20).map fun i => Value.int .u64 ((10 ^ i : Nat) : Int)).toArray := by
   simpa [globAt, gPow, gMax, gSyn, gRng] using this
 have h4 := tab_var (tab_of h3 h2) (name := "internal/strconv.uint64pow10") itoaL.m17
 unfold Go.Lib.TabIs
 rw [h4]
 simp [Go.Lib.pow10Tab]
theorem globMax {W : World} (h : GlobN W) : ∃ m, W.cell? ⟨gMax, 0, none⟩ = some (.int .i64 m) := by
 obtain ⟨Wr, h1, h2⟩ := h
 have := h1 gMax (by decide)
 obtain ⟨m, h3⟩ : ∃ m, tabW Wr gMax #[.int .i64 m] := by simpa [globAt] using this
 exact ⟨m, tab_cell (tab_of h3 h2)⟩
theorem grow_below {W : World} {k : Nat} {os : Array Obj} : Below W.heap.size W (grow (W.drewN k) os) := by
 refine ⟨rfl, rfl, rfl, ?_, fun b hb => ?_⟩
 . show W.heap.size <= (W.heap ++ os).size
   simp
 . show (W.heap ++ os)[b]? = _
   rw [Array.getElem?_append_left hb]
theorem orcOk (rs : RS) (g : Nat) (av : List V) (L : EH) (ks : List Nat) (r : Res × EH) (h : orcF OO rs g av L ks = some r) (_ : ∀ p ∈ L, lk L p.1 = some p.2) (hks : ∀ i ∈ ks, ∃ c, lk L i = some c /\ ECe rs i c = false) : Cm prog g av (lk (L.toL rs)) ks r.1 (lk (r.2.toL rs)) := by
 have sp : ∀ {b : Bool} {x y : OR}, (bif b then x else y) = some r -> (b = true /\ x = some r) \/ (b = false /\ y = some r) := fun {b x y} hb => by
   cases b with
   | true => exact .inl ⟨rfl, hb⟩
   | false => exact .inr ⟨rfl, hb⟩
 unfold orcF at h
 rcases sp h with ⟨hg, h⟩ | ⟨_, h⟩
 . have hg := Nat.eq_of_beq_eq_true hg
   subst hg
   exact oIx_ok ⟨_, func265, by kernel_rfl, by decide⟩ (fun s c W => Any.stringslite_IndexByte { idxL with } s c W) h hks
 rcases sp h with ⟨hg, h⟩ | ⟨_, h⟩
 . have hg := Nat.eq_of_beq_eq_true hg
   subst hg
   exact oIx_ok ⟨_, func188, by kernel_rfl, by decide⟩ (fun s c W => Any.strings_IndexByte idxL s c W) h hks
 rcases sp h with ⟨hg, h⟩ | ⟨_, h⟩
 . have hg := Nat.eq_of_beq_eq_true hg
   subst hg
   exact oCt_ok ⟨_, func27, by kernel_rfl, by decide⟩ (fun s c W => Any.strings_Count_one cntL s c W) h hks
 rcases sp h with ⟨hg, h⟩ | ⟨_, h⟩
 . have hg := Nat.eq_of_beq_eq_true hg
   subst hg
   exact oWs_ok (fun s h0 h1 => wstr_first wstrL bldX rfl rfl ⟨_, func31, by kernel_rfl, by decide⟩ s h0 h1) (fun t s h0 h1 => wstr_next wstrL bldX rfl rfl ⟨_, func31, by kernel_rfl, by decide⟩ t s h0 h1) h hks
 rcases sp h with ⟨hg, h⟩ | ⟨_, h⟩
 . have hg := Nat.eq_of_beq_eq_true hg
   subst hg
   exact oBs_ok (fun t h0 => bstr_cm bstrL bldXb rfl rfl ⟨_, func33, by kernel_rfl, by decide⟩ t h0) h
 rcases sp h with ⟨hg, h⟩ | ⟨_, h⟩
 . have hg := Nat.eq_of_beq_eq_true hg
   subst hg
   exact oJn_ok ⟨_, func32, by kernel_rfl, by decide⟩ (fun xs sep bk o c W q1 q2 q3 q4 q5 => Any.strings_Join joinL bldXj bk o c xs sep W q1 q2 q3 q4 q5) h
 rcases sp h with ⟨hg, h⟩ | ⟨_, h⟩
 . have hg := Nat.eq_of_beq_eq_true hg
   subst hg
   exact oIt_ok ⟨_, func56, by kernel_rfl, by decide⟩ (fun z h0 h1 W hW => (Any.strconv_Itoa itoaL z h0 h1 W (globPow hW)).mono fun e W' ⟨he, k, os, hw⟩ => ⟨he, by rw [hw]; exact grow_below⟩) h hks
 rcases sp h with ⟨hg, h⟩ | ⟨_, h⟩
 . have hg := Nat.eq_of_beq_eq_true hg
   subst hg
   exact oCu_ok ⟨_, func193, by kernel_rfl, by decide⟩ (fun s p hs W hW => by
     obtain ⟨m, hm⟩ := globMax hW
     exact (Any.strings_Cut { cutL with } s p m W hs hm).mono fun e W' ⟨he, k, hw⟩ => ⟨he, by rw [hw]; exact ⟨rfl, rfl, rfl, Nat.le_refl _, fun _ _ => rfl⟩⟩) h hks
 cases h
end Go.Proofs.Tryz
namespace Go.Proofs.YtcmmbjblncfhbaaGreatDoor
open Go.Joins Go.ChangeShapes Go.WideShapes Go.ChangeAt Go.RowKit Go.Psl
theorem Tryz.own : ownKnob Tryz.prog.godebug = none := by kernel_rfl
theorem Tryz.laidOut : laidOutB Tryz.prog = true := by kernel_rfl
theorem all_map {α β : Type} {f : α -> β} : ∀ {es : List β}, (∀ x ∈ es, ∃ k, x = f k) -> ∃ t : List α, es = t.map f
 | [], _ => ⟨[], rfl⟩
 | e :: es, h => by
   obtain ⟨k, hk⟩ := h e (by simp)
   obtain ⟨t, ht⟩ := all_map (f := f) (es := es) fun x hx => h x (by simp [hx])
   exact ⟨k :: t, by rw [ht, hk]; rfl⟩
abbrev GA (W : World) : Gh := ⟨fun _ => 0, fun _ => 0, fun _ => true, fun _ => true, InW W⟩
def litV : DataW Unit -> Value
 | .lit (.int k x) => .int k x
 | _ => .bool false
def rowV : DataW Unit -> List Value
 | .agg ps => ps.map litV
 | d => [litV d]
def valsOf : DataW Unit -> Array Value
 | .agg ps => (ps.flatMap rowV).toArray
 | _ => #[]
def putV (d : DataW Unit) : Obj -> Obj
 | .cells _ t frozen => .cells (valsOf d) t frozen
 | o => o
noncomputable def laidWorld (laid : List (Nat × DataW Unit)) (os : Os) : World :=
 { World.holding Tryz.prog os ⟨#[], #[], []⟩ with heap := laid.foldl (fun h x => h.modify x.1 (putV x.2)) (World.holding Tryz.prog os ⟨#[], #[], []⟩).heap }
theorem var_of_laid {W : World} {name : String} {k : IntKind} {zs : List Int} {g : Nat} {t e : TypeId} {n : Nat}
   (hg : Tryz.prog.globalNamed name = some g) (hty : (Tryz.prog.globals[g]?).map (·.type) = some t) (ht : Tryz.prog.underlying t = some (.array n e)) (he : Tryz.prog.underlying e = some (.int k)) (hce : Tryz.prog.cellsOf e = 1) (hct : Tryz.prog.cellsOf t = n) :
   ∀ {laid : List (String × DataW Unit)} {ps : List MemPlace}, (name, Lib.tabData k zs) ∈ laid -> DataW.LaidVars Tryz.prog W laid ps -> W.var? Tryz.prog name = some (zs.map fun z => Value.int k z).toArray
 | [], _, hm, _ => by cases hm
 | (n', d) :: r, ps, hm, h => by
   obtain ⟨g', t', cs, fuel, p, q, hg', ht', hvar, hd, hr, _⟩ := h
   rcases List.mem_cons.1 hm with hm | hm
   . cases hm
     obtain rfl := Option.some.inj (hg.symm.trans hg')
     obtain rfl := Option.some.inj (hty.symm.trans ht')
     rw [hvar, <- Lib.cells_of_tab ht he hce hct hd]
   . exact var_of_laid hg hty ht he hce hct hm hr
theorem tabW_of_var {W : World} {name : String} {g : Nat} {c : Array Value} (hg : Tryz.prog.globalNamed name = some g) (h : W.var? Tryz.prog name = some c) : tabW W g c := by
 unfold World.var? at h
 rw [hg] at h
 simp only [Option.bind_some] at h
 split at h
 . rename_i cs t fz hh
   cases h
   exact ⟨t, fz, hh⟩
 . cases h
theorem tabW_of_shaped {w : World} {g : Nat} {t : TypeId} {zero : Array Value} {k : IntKind}
   (h : w.ShapedOpen Tryz.prog) (hg : g < Tryz.prog.globals.size)
   (h0 : ((begin Tryz.prog (fun _ _ => 0) default).world.heap[g]?).bind Obj.row? = some (zero, t)) (hz : zero.size = 1)
   (hb : Tryz.prog.buildable t = true) (hc : Tryz.prog.cellTypes Tryz.prog.depth t = some [t]) (hu : Tryz.prog.underlying t = some (.int k)) : ∃ m, tabW w g #[.int k m] := by
 obtain ⟨m, hm⟩ := cell_of_shapedOpen_int h hg h0 hz hb hc hu
 obtain ⟨cs, hh, hs, _⟩ := h.1 g zero t hg h0
 refine ⟨m, t, (0, 0), ?_⟩
 rw [hh]
 have h1 : cs[0]? = some (.int k m) := by
   simpa [World.cell?, hh] using hm
 have h2 : cs = #[.int k m] := by
   obtain ⟨l⟩ := cs
   rw [hz] at hs
   match l, hs with
   | [a], _ => simp at h1; rw [h1]
 rw [h2]
theorem pow_laid {W : World} {laid : List (String × DataW Unit)} (hm : ("internal/strconv.uint64pow10", Lib.tabData .u64 Lib.pow10Tab) ∈ laid) (h : laidMet Tryz.prog laid W) : globAt W gPow := by
 obtain ⟨ps, hv, _⟩ := h
 have h1 := var_of_laid (g := gPow) (t := (Tryz.prog.globals[gPow]?.map (·.type)).getD 0) (n := 20) (by kernel_rfl) (by kernel_rfl) (by kernel_rfl) (e := (Tryz.prog.globals[gPow]?.map fun _ => 384).getD 0) (by kernel_rfl) (by kernel_rfl) (by kernel_rfl) hm hv
 have h2 := tabW_of_var (g := gPow) (by kernel_rfl) h1
 have h3 : globAt W gPow = tabW W gPow ((List.range 20).map fun i => Value.int .u64 ((10 ^ i : Nat) : Int)).toArray := by simp [globAt, gPow, gMax, gSyn, gRng]
 rw [h3]
 unfold Lib.pow10Tab at h2
 rw [List.map_map] at h2
 exact h2
theorem max_laid {W : World} (h : W.ShapedOpen Tryz.prog) : globAt W gMax := by
 have h1 := tabW_of_shaped (zero := #[.int .i64 0]) (t := 3) (g := gMax) h (of_decide_eq_true (by kernel_rfl)) (by kernel_rfl) rfl (by kernel_rfl) (by kernel_rfl) Tryz.underlying3
 have h2 : globAt W gMax = ∃ m, tabW W gMax #[.int .i64 m] := by simp [globAt]
 rw [h2]
 exact h1
theorem iface_of_laid {W : World} {name nm : String} {d : DataW Unit} {g : Nat} {t : TypeId} {ms : Array (String × TypeId)}
   (hg : Tryz.prog.globalNamed name = some g) (hty : (Tryz.prog.globals[g]?).map (·.type) = some t) (ht : Tryz.prog.underlying t = some (.interface ms)) :
   ∀ {laid : List (String × DataW Unit)} {ps : List MemPlace}, (name, .iface nm d) ∈ laid -> DataW.LaidVars Tryz.prog W laid ps -> ∃ u v, W.var? Tryz.prog name = some #[.iface u v]
 | [], _, hm, _ => by cases hm
 | (n', d') :: r, ps, hm, h => by
   obtain ⟨g', t', cs, fuel, p, q, hg', ht', hvar, hd, hr, _⟩ := h
   rcases List.mem_cons.1 hm with hm | hm
   . cases hm
     obtain rfl := Option.some.inj (hg.symm.trans hg')
     obtain rfl := Option.some.inj (hty.symm.trans ht')
     obtain ⟨_, u, v, hcs, _, _⟩ := iface_of_trod ht hd
     refine ⟨u, v, ?_⟩
     rw [hvar, <- hcs]
   . exact iface_of_laid hg hty ht hm hr
theorem syn_laid {W : World} {laid : List (String × DataW Unit)} {nm : String} {d : DataW Unit} (hm : ("strconv.ErrSyntax", .iface nm d) ∈ laid) (h : laidMet Tryz.prog laid W) : globAt W gSyn := by
 obtain ⟨ps, hv, _⟩ := h
 obtain ⟨u, v, h1⟩ := iface_of_laid (g := gSyn) (t := 123) (by kernel_rfl) (by kernel_rfl) Tryz.underlying123 hm hv
 have h2 := tabW_of_var (g := gSyn) (by kernel_rfl) h1
 have h3 : globAt W gSyn = ∃ tp p, tabW W gSyn #[.iface tp p] := by simp [globAt, gMax, gSyn]
 rw [h3]
 exact ⟨u, v, h2⟩
theorem rng_laid {W : World} {laid : List (String × DataW Unit)} {nm : String} {d : DataW Unit} (hm : ("strconv.ErrRange", .iface nm d) ∈ laid) (h : laidMet Tryz.prog laid W) : globAt W gRng := by
 obtain ⟨ps, hv, _⟩ := h
 obtain ⟨u, v, h1⟩ := iface_of_laid (g := gRng) (t := 123) (by kernel_rfl) (by kernel_rfl) Tryz.underlying123 hm hv
 have h2 := tabW_of_var (g := gRng) (by kernel_rfl) h1
 have h3 : globAt W gRng = ∃ tp p, tabW W gRng #[.iface tp p] := by simp [globAt, gMax, gSyn, gRng]
 rw [h3]
 exact ⟨u, v, h2⟩
def errWorld (g u t : Nat) (text : List UInt8) (W : World) : World :=
 { W with heap := (W.heap.modify g fun | .cells _ t' fz => .cells #[.iface u (.pointer (some ⟨W.heap.size, 0, none⟩))] t' fz | o => o).push (.cells #[.string ⟨text.toArray⟩] t (0, 0)) }
theorem GA_of {W : World} (h : globW W) : Go.Psl.GW (GA W).Im W := ⟨fun _ h => h, W, h, fun _ hk => ⟨hk, rfl⟩⟩
def rowP (r : Nat × Nat) : List MemPlace := MemPlace.row ⟨r.1, 0, none⟩ r.2
theorem rowP_mem {r : Nat × Nat} {m : MemPlace} (h : m ∈ rowP r) : ∃ i, m = .cell r.1 i := by
 obtain ⟨i, _, rfl⟩ := List.mem_map.1 h
 exact ⟨_, rfl⟩
theorem rowP_nodup (r : Nat × Nat) : (rowP r).Nodup := by
 unfold rowP MemPlace.row
 refine List.Pairwise.map _ (fun a b h => ?_) List.nodup_range
 intro e
 injection e with _ e
 omega
theorem rows_nodup : ∀ rs : List (Nat × Nat), (rs.map (·.1)).Nodup -> (rs.flatMap rowP).Nodup
 | [], _ => List.nodup_nil
 | r :: rs, h => by
   rw [List.map_cons, List.nodup_cons] at h
   rw [List.flatMap_cons, List.nodup_append]
   refine ⟨rowP_nodup r, rows_nodup rs h.2, fun a ha b hb e => ?_⟩
   subst e
   obtain ⟨i, rfl⟩ := rowP_mem ha
   obtain ⟨q, hq, hb⟩ := List.mem_flatMap.1 hb
   obtain ⟨j, hj⟩ := rowP_mem hb
   injection hj with hj
   exact h.1 (by rw [hj]; exact List.mem_map.2 ⟨q, hq, rfl⟩)
theorem laidMet_rows {P : Program} {w : World} {l : List (String × DataW Unit)} (fuel : Nat) (rs : List (Nat × Nat)) (h : (DataW.laidRun P w fuel (l.map (·.1))).map (·.1) = some l)
   (hp : (DataW.laidRun P w fuel (l.map (·.1))).map (·.2) = some (rs.flatMap rowP)) (hn : (rs.map (·.1)).Nodup) (hb : laidRowsB P w (rs.flatMap rowP) = true) : laidMet P l w := by
 cases hx : DataW.laidRun P w fuel (l.map (·.1)) with
 | none => rw [hx] at h; cases h
 | some x =>
   obtain ⟨l', ps⟩ := x
   rw [hx] at h hp
   simp only [Option.map_some, Option.some.injEq] at h hp
   subst h hp
   exact laidMet_of_run fuel hx (decide_eq_true (rows_nodup rs hn)) hb
end Go.Proofs.YtcmmbjblncfhbaaGreatDoor
namespace Go.Psl
def foldL : PC -> List PC -> PC × List PC
 | .seq a b, ls => let x := foldL a ls; let y := foldL b x.2; (.seq x.1 y.1, y.2)
 | .cond c a b, ls => let x := foldL a ls; let y := foldL b x.2; (.cond c x.1 y.1, y.2)
 | .block i a, ls => let x := foldL a ls; (.block i x.1, x.2)
 | .loop _, l :: ls => (.loop l, ls)
 | .rangeF f ps _ _, a :: b :: ls => (.rangeF f ps a b, ls)
 | x, ls => (x, ls)
def loopsOf : PC -> List PC
 | .seq a b => loopsOf a ++ loopsOf b
 | .cond _ a b => loopsOf a ++ loopsOf b
 | .block _ a => loopsOf a
 | .loop a => loopsOf a ++ [a]
 | .rangeF _ _ a b => loopsOf a ++ [a] ++ loopsOf b ++ [b]
 | _ => []
def bodyOf (f : Func) : PC := match f.body.bind (comp f.ntmps) with | some p => p | none => .skip
def G (f : Func) (ls : List PC) : PC := (foldL (bodyOf f) ls).1
def K (f : Func) (k : Nat) (ls : List PC) : PC := (foldL ((loopsOf (bodyOf f)).getD k .skip) ls).1
abbrev Rd {α : Type} (x : α) := {y : α // x = y}
end Go.Psl
