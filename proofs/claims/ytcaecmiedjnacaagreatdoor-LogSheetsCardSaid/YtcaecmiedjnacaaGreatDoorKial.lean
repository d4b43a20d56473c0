/- Own lemmas, used by the last text. Conditions: those that each theorem states. -/
import Derived.Laws.AppendOwn
import Derived.Test.YtcaecmiedjnacaaGreatDoorKiae
import Derived.Test.YtcaecmiedjnacaaGreatDoorKiag
import Derived.Test.YtcaecmiedjnacaaGreatDoorKiah
import Derived.Test.YtcaecmiedjnacaaGreatDoorKiai
import Derived.Test.YtcaecmiedjnacaaGreatDoorKiak
set_option maxRecDepth 200000
set_option maxHeartbeats 8000000
namespace Go.Proofs.Tryz
open Go.Psl
open Go.Log
theorem fn125 (i : Nat) (b : UInt8) : Ct prog 125 [vi i, vu b] (vb (nameF i b)) [] := by
 have c := fn93 i b
 have e45 : decide (b = 45) = decide ((b.toNat : Int) = 45) := by
   by_cases h : b = 45
   . subst h; rfl
   . have h2 : ¬ (b.toNat : Int) = 45 := u8_ne h
     rw [decide_eq_false h, decide_eq_false h2]
 cases h : upB b
 . rw [h] at c
   by_cases h1 : 97 <= (b.toNat : Int)
   . have h3 : 48 <= (b.toNat : Int) := by omega
     have h4 : ¬ (b.toNat : Int) <= 57 := by omega
     have h5 : ¬ (b.toNat : Int) = 45 := by omega
     have h5' : decide ((b.toNat : Int) = 45) = false := decide_eq_false h5
     by_cases h2 : (b.toNat : Int) <= 122
     . have r : nameF i b = true := by simp [nameF, lowF, loB, h1, h2]
       rw [r]
       refine CB func125 c125 fun E hE => ?_
       simp [p125]
       refine CLa c ?_
       simp [h1, h2]
       apply RZ
       simp [results125]
     . have r : nameF i b = false := by simp [nameF, lowF, loB, dgB, h, h1, h2, h3, h4, e45, h5']
       rw [r]
       refine CB func125 c125 fun E hE => ?_
       simp [p125]
       refine CLa c ?_
       simp [h1, h2, h3, h4, h5]
       apply RZ
       simp [results125]
   . by_cases h3 : 48 <= (b.toNat : Int)
     . have h5 : ¬ (b.toNat : Int) = 45 := by omega
       have h5' : decide ((b.toNat : Int) = 45) = false := decide_eq_false h5
       by_cases h4 : (b.toNat : Int) <= 57
       . have r : nameF i b = true := by simp [nameF, lowF, dgB, h3, h4]
         rw [r]
         refine CB func125 c125 fun E hE => ?_
         simp [p125]
         refine CLa c ?_
         simp [h1, h3, h4]
         apply RZ
         simp [results125]
       . have r : nameF i b = false := by simp [nameF, lowF, loB, dgB, h, h1, h3, h4, e45, h5']
         rw [r]
         refine CB func125 c125 fun E hE => ?_
         simp [p125]
         refine CLa c ?_
         simp [h1, h3, h4, h5]
         apply RZ
         simp [results125]
     . by_cases h5 : (b.toNat : Int) = 45
       . have h5' : decide ((b.toNat : Int) = 45) = true := decide_eq_true h5
         have r : nameF i b = true := by simp only [nameF, lowF, e45, h5', Bool.or_true]
         rw [r]
         refine CB func125 c125 fun E hE => ?_
         simp [p125]
         refine CLa c ?_
         simp [h5]
         apply RZ
         simp [results125]
       . have h5' : decide ((b.toNat : Int) = 45) = false := decide_eq_false h5
         have r : nameF i b = false := by simp [nameF, lowF, loB, dgB, h, h1, h3, e45, h5']
         rw [r]
         refine CB func125 c125 fun E hE => ?_
         simp [p125]
         refine CLa c ?_
         simp [h1, h3, h5]
         apply RZ
         simp [results125]
 . rw [h] at c
   have r : nameF i b = true := by simp [nameF, lowF, h]
   rw [r]
   refine CB func125 c125 fun E hE => ?_
   simp [p125]
   refine CLa c ?_
   simp
   apply RZ
   simp [results125]
theorem fn70 (s : By) (hl : s.length <= 1000000) : Ct prog 70 [vS s] (vb (nameS s)) [] := by
 refine CB func70 c70 fun E hE => ?_
 simp [p70]
 refine CLa (fn91 s 12 125 nameF hl fun i b _ => fn125 i b) ?_
 simp
 apply RZ
 simp [results70, nameS]
abbrev ldL (x : Ldp) : List D := [di x.al, di x.ah, di x.wl, di x.wh]
abbrev rowL (r : Row) : List D := [dS r.n, di r.l.al, di r.l.ah, di r.l.wl, di r.l.wh]
abbrev rowV (r : Row) : V := .agg [vS r.n, vi r.l.al, vi r.l.ah, vi r.l.wl, vi r.l.wh]
abbrev rowsD (l : List Row) : D := .sl 5 (l.map rowL)
abbrev shtV (s : Sht) : V := .agg [vS s.s, .d (rowsD s.rs)]
theorem hfl : ∀ c : Ldp, (ldL c).length = 4 := fun _ => rfl
theorem hfr : ∀ c : Row, (rowL c).length = 5 := fun _ => rfl
def ldsT (l : List Row) (i : Nat) : List Ldp := (l.take i).map Row.l
theorem ldsT_succ {l : List Row} {i : Nat} {y : Row} (h : l[i]? = some y) : ldsT l (i + 1) = ldsT l i ++ [y.l] := by
 unfold ldsT
 rw [List.take_add_one, h]; simp
theorem ldsT_len {l : List Row} {i : Nat} (h : i <= l.length) : (ldsT l i).length = i := by unfold ldsT; simp; omega
theorem ld_one (c : Ldp) : fcel ldL [c] = [vi c.al, vi c.ah, vi c.wl, vi c.wh] := rfl
theorem loads_raw (s : Sht) (hl : s.rs.length <= 1000000) : Ct prog 58 [shtV s] (hdN s.rs.length 4) (bkN s.rs.length (fcel ldL (ldsT s.rs s.rs.length))) := by
 have hri : ResIds (hdN s.rs.length 4) (bkN s.rs.length (fcel ldL (ldsT s.rs s.rs.length))) := by
   unfold hdN bkN
   split <;> simp [ResIds]
 obtain ⟨l, hq⟩ : ∃ l, l = s.rs := ⟨_, rfl⟩
 rw [<- hq] at hl hri ⊢
 refine Ct.by gok eok mixed func58 c58 rfl (by simp [ntmps58]) (by simp) hri fun E hE => ?_
 simp [p58]
 refine pw_loop (α := Nat) (fun i => ⟨slots [(3, hdN i 4), (7, .d (rowsD l)), (8, vi l.length), (9, vi i)], lk (bkN i (fcel ldL (ldsT l i))), 1⟩) (fun i => i <= l.length) (fun i => l.length - i) 0 ?_ ?_ ?_
 . omega
 . rw [hdN_z, bkN_z]
   refine Weak.mk hE (lk []) _ _ _ ?_ ?_ ?_ ?_ ?_ <;> simp [hq]
 . intro i hi
   have hz := @wz i (by omega)
   by_cases h : i < l.length
   . obtain ⟨y, hy⟩ := gE h
     have hI : (i : Int) < l.length := by omega
     by_cases h0 : i = 0
     . have e3 : hdN i 4 = .d (.lit (.slice none 0 0)) := by rw [h0]; rfl
       have e4 : bkN i (fcel ldL (ldsT l i)) = [] := by rw [h0]; rfl
       have e5 : ldsT l i = [] := by rw [h0]; rfl
       have e6 : i + 1 = 1 := by omega
       have e7 : (i : Int) + 1 = 1 := by omega
       rw [e3, e4]
       simp [p58l0, hI, hy, splice, repl, hz]
       refine ⟨i + 1, by omega, by omega, ?_⟩
       rw [hdN_n (by omega), bkN_n (by omega), ldsT_succ hy, e5]
       refine Weak.mk hE (lk [(0, 9437185)]) _ _ _ ?_ ?_ ?_ ?_ ?_ <;> simp [ld_one, e6, e7]
     . have e2 : i + 1 ≠ 0 := by omega
       have hsl := fcel_len hfl (ldsT l i)
       have hwh := fcel_whole hfl (ldsT l i)
       rw [ldsT_len hi] at hsl hwh
       have n1 : (i + 1) * 32 <= 140737488355328 := by omega
       have n2 : i <= 9223372036854775806 := by omega
       rw [hdN_n h0, bkN_n h0]
       simp [p58l0, hI, hy, splice, repl, hz, hsl, hwh, n1, n2]
       refine ⟨i + 1, by omega, by omega, ?_⟩
       rw [hdN_n e2, bkN_n e2, ldsT_succ hy]
       refine Weak.mk hE (lk [(0, 9437185)]) _ _ _ ?_ ?_ ?_ ?_ ?_ <;> simp [fcel_one]
   . have hI : ¬ (i : Int) < l.length := by omega
     obtain rfl : i = l.length := by omega
     by_cases h0 : l.length = 0
     . obtain rfl : l = [] := List.length_eq_zero_iff.1 h0
       rw [List.length_nil, hdN_z, bkN_z]
       simp [p58l0]
       apply RZ
       simp [results58]
     . rw [hdN_n h0, bkN_n h0]
       simp [p58l0]
       refine RetOk.by (lk [(0, 0)]) ?_
       simp [results58]
end Go.Proofs.Tryz
namespace Go.Psl
open Go.RowKit
variable {P : Program}
theorem Cm.ofRowD {f : FuncId} {vs0 : List Value} {vs : List Value} {T : TypeId} (hf : isFn P f) (hv : ∀ v ∈ vs, flatV v = true)
   (h : ∀ W, GlobN W -> Calls P f vs0.toArray W fun e W' => ∃ A, e = .returned (.slice (some ⟨A, 0, none⟩) vs.length vs.length) /\ W.heap.size <= A /\ W'.ownsRow W.heap.size T 1 (.slice (some ⟨A, 0, none⟩) vs.length vs.length) vs.length vs /\ Below W.heap.size W W') :
   Ct P f (vs0.map cV) (.d (.sl 1 (vs.map fun v => [.lit v]))) [] := by
 refine ⟨hf, fun G W xs hGW hargs hpre => ?_⟩
 have hx := lit_args hargs
 obtain ⟨xs⟩ := xs
 simp only at hx
 subst hx
 refine Calls.mono (h W hGW.globN) fun e W' ⟨A, he, hA, ho, hb⟩ => ?_
 subst he
 obtain ⟨_, ⟨h1, _⟩ | ⟨g, cap, cur, h1, _, hg, hn, hcm, hcs, hct⟩⟩ := ho
 . cases h1
 injection h1 with e1 e2 e3
 injection e1 with e1
 injection e1 with e1
 subst e1 e3
 have hlt : A < W'.heap.size := by
   obtain ⟨hlt, _⟩ := Array.getElem?_eq_some_iff.1 hg
   exact hlt
 have hcur : cur.toList = vs := by
   rw [<- hct, List.take_of_length_le (by rw [Array.length_toList, hcs]; omega)]
 have key : ∀ (i : Nat) (e : List D), (vs.map fun v => [D.lit v])[i]? = some e -> ∀ (j : Nat) y, e[j]? = some y -> ∃ v, vs[i]? = some v /\ y = .lit v /\ j = 0 /\ vs.getD i undef = v := fun i e he j y hy => by
   rw [List.getElem?_map] at he
   cases hvi : vs[i]? with
   | none => rw [hvi] at he; cases he
   | some v =>
     rw [hvi] at he
     cases he
     have hj : j = 0 := by have := (List.getElem?_eq_some_iff.1 hy).1; simp at this; omega
     subst hj
     simp at hy
     exact ⟨v, rfl, hy.symm, rfl, by rw [List.getD_eq_getElem?_getD, hvi]; rfl⟩
 have hrd : RD (fun b => G.Im b \/ b = A) W' (.sl 1 (vs.map fun v => [.lit v])) (.slice (some ⟨A, 0, none⟩) vs.length vs.length) := by
   have := RD.sl (Im := fun b => G.Im b \/ b = A) (W := W') 1 (vs.map fun v => [.lit v]) (some ⟨A, 0, none⟩) vs.length (fun i _ => vs.getD i undef) (fun e he => by
     obtain ⟨v, _, rfl⟩ := List.mem_map.1 he; rfl) (by rw [List.length_map]; exact hcm) (by rw [List.length_map]; exact Nat.le_refl _) (fun i e he => ⟨_, rfl, .inr rfl, fun j y hy => ?_⟩) (fun i e he j y hy => ?_)
   . rwa [List.length_map] at this
   . obtain ⟨v, hvi, rfl, rfl, h2⟩ := key i e he j y hy
     rw [add_plain, h2]
     simp only [World.cell?, hg]
     rw [<- Array.getElem?_toList, hcur]
     simpa using hvi
   . obtain ⟨v, hvi, rfl, rfl, h2⟩ := key i e he j y hy
     rw [h2]
     exact RD.lit v (hv v (List.mem_of_getElem? hvi))
 refine ⟨{ G with Im := fun b => G.Im b \/ b = A }, ⟨hb.os, hb.tape, hb.output, Nat.le_refl _, hb.size, fun b hb' _ => hb.block b hb', fun b hb' => ?_, fun _ h => .inl h, hrd, trivial, ?_, ?_, ?_⟩⟩
 . rcases hb' with hb' | rfl
   . exact ⟨Nat.lt_of_lt_of_le (hGW.1 b hb') hb.size, .inl hb'⟩
   . exact ⟨hlt, .inr (.inl hA)⟩
 . intro i cs h; cases h
 . intro i j h; simp [InH, lk] at h
 . intro i h; cases h
end Go.Psl
namespace Go.Proofs.Tryz
open Go.Psl
open Go.Log
open Go.RowKit
theorem globSpc {W : World} (h : GlobN W) : Go.Lib.TabIs prog W "strings.asciiSpace" .u8 Go.Lib.asciiSpaceTab := by
 obtain ⟨Wr, h1, h2⟩ := h
 have := h1 gSpc (by decide)
 have h3 : tabW Wr gSpc ((List.range 256).map fun i => Value.int .u8 (if isSpB (UInt8.ofNat i) then 1 else 0)).toArray := by
   simpa [globAt, gPow, gMax, gSyn, gRng, gSpc] using this
 have h4 := tab_var (tab_of h3 h2) (name := "strings.asciiSpace") (by kernel_rfl)
 unfold Go.Lib.TabIs
 rw [h4]
 have e : ∀ b, isSpB b = Go.Lib.isSp b := fun b => rfl
 simp [Go.Lib.asciiSpaceTab, e, Function.comp_def]
theorem cell_of {W Wr : World} (h2 : ∀ k, k < Wr.heap.size -> W.heap[k]? = Wr.heap[k]?) {a : Addr} {v : Value} (h : Wr.cell? a = some v) : W.cell? a = some v := by
 rw [World.cell?_of_block (w := Wr) (h2 _ (World.block_lt_of_cell? _ _ h))]
 exact h
theorem wht_eq : ∀ i, i < 21 -> whtL.getD i 0 = ((Go.Lib.whiteT.getD i 0 : Nat) : Int) := by decide
theorem globWht {W : World} (h : GlobN W) : Go.Lib.WhiteTab gWht W := by
 obtain ⟨Wr, h1, h2⟩ := h
 have := h1 gWht (by decide)
 have h3 : whtW Wr gWht := by simpa [globAt, gPow, gMax, gSyn, gRng, gSpc, gWht] using this
 obtain ⟨T, oT, R, oR, ⟨q1, q2, q3, q4⟩, q5⟩ := h3
 exact ⟨T, oT, R, oR, cell_of h2 q1, cell_of h2 q2, cell_of h2 q3, cell_of h2 q4, fun i hi => by rw [<- wht_eq i hi]; exact cell_of h2 (q5 i hi)⟩
theorem fn65 (s p : By) : Ct prog 65 [vS s, vS p] (vS (Go.Lib.trimPrefix s p)) [] :=
 Cm.ofLit (vs0 := [.string (bs s), .string (bs p)]) (v := .string (bs (Go.Lib.trimPrefix s p))) ⟨_, func65, by kernel_rfl, by decide⟩ rfl fun W hW => by
   have := Go.Proofs.Any.strings_TrimPrefix tpfL (bs s) (bs p) W
   simp only [bs_toList] at this
   exact this.mono fun e W' ⟨he, hw⟩ => ⟨he, by rw [hw]; exact Below.refl _ _⟩
theorem repeatL_blk : ∀ n, Go.Lib.repeatL [32] n = blk n := by
 intro n
 induction n with
 | zero => rfl
 | succ n ih => simp [Go.Lib.repeatL, ih, blk, List.replicate_succ]
theorem fn112 (n : Nat) (h : n <= 1000000) : Ct prog 112 [vS [32], vi n] (vS (blk n)) [] :=
 Cm.ofLit (vs0 := [.string (bs [32]), .int .i64 n]) (v := .string (bs (blk n))) ⟨_, func112, by kernel_rfl, by decide⟩ rfl fun W hW => by
   by_cases h0 : n = 0
   . subst h0
     exact (Go.Proofs.Any.strings_Repeat_zero repL (bs [32]) W).mono fun e W' ⟨he, hw⟩ => ⟨he, by rw [hw]; exact Below.refl _ _⟩
   by_cases h1 : n = 1
   . subst h1
     exact (Go.Proofs.Any.strings_Repeat_one repL (bs [32]) W).mono fun e W' ⟨he, hw⟩ => ⟨he, by rw [hw]; exact Below.refl _ _⟩
   have := Go.Proofs.Any.strings_Repeat_main repL bldXr (bs [32]) n W (by omega) (by omega) (by simp only [bs_size, List.length_singleton]; omega) (by simp only [bs_size, List.length_singleton]; omega)
   simp only [bs_toList, repeatL_blk] at this
   exact this
theorem fn66 (s : By) (hs : s.length <= 1000000) : Ct prog 66 [vS s] (.d (strsD (Go.Lib.fieldsD s))) [] := by
 have key := Cm.ofRowD (P := prog) (f := 66) (vs0 := [.string (bs s)]) (vs := (Go.Lib.fieldsD s).map fun x => Value.string (bs x)) (T := 9) ⟨_, func66, by kernel_rfl, by decide⟩ (by
   intro v hv; obtain ⟨x, _, rfl⟩ := List.mem_map.1 hv; rfl) fun W hW => by
     have := Go.Proofs.Any.strings_Fields_any fldL (by kernel_rfl) (by kernel_rfl) (by kernel_rfl) (bs s) W (by simp only [bs_size]; omega) (globSpc hW) (globWht hW)
     simp only [bs_toList] at this
     rw [List.length_map]
     exact this
 rw [List.map_map] at key
 exact key
theorem hd_fz {l : List Ldp} : Fz (lk (bkN l.length (fcel ldL l))) (hdN l.length 4) (.d (ldsD l)) := by
 by_cases h0 : l.length = 0
 . obtain rfl : l = [] := List.length_eq_zero_iff.1 h0
   exact .inr ⟨rfl, _, rfl⟩
 . rw [hdN_n h0, bkN_n h0]
   exact bor_fcel (f := ldL) hfl (l := l) (by simp)
theorem fn58 (s : Sht) (hl : s.rs.length <= 1000000) : Ct prog 58 [shtV s] (.d (ldsD (s.rs.map Row.l))) [] := by
 refine Cm.freeze (loads_raw s hl) ?_
 have e : ldsT s.rs s.rs.length = s.rs.map Row.l := by unfold ldsT; rw [List.take_length]
 have e2 : s.rs.length = (s.rs.map Row.l).length := by simp
 rw [e, e2]
 exact hd_fz
structure SizedS (q : Sht) : Prop where
 s : q.s.length <= 1000000
 n : q.rs.length <= 1000000
 r : ∀ x ∈ q.rs, x.n.length <= 1000000
def chkNm (l : List Row) : Int := if l.all fun r => nameS r.n then 0 else 94
theorem fn22 (s : Sht) (hs : SizedS s) : Ct prog 22 [shtV s] (vi (chkSh s)) [] := by
 have c1 := fn44 s.s hs.s
 have c2 := fn58 s hs.n
 have c3 := fn69 (s.rs.map Row.l) (by simpa using hs.n)
 have hn := hs.n
 by_cases h1 : shipS s.s = false
 . rw [h1] at c1
   refine CB func22 c22 fun E hE => ?_
   simp [p22]
   refine CLa c1 ?_
   simp
   apply RZ
   simp [results22, chkSh, h1]
 simp only [Bool.not_eq_false] at h1
 rw [h1] at c1
 by_cases h2 : chkLds (s.rs.map Row.l) = 0
 . rw [h2] at c3
   have hq : chkSh s = chkNm s.rs := by simp [chkSh, chkNm, h1, h2]
   obtain ⟨l, hl⟩ : ∃ l, l = s.rs := ⟨_, rfl⟩
   have hr := hs.r
   rw [<- hl] at hn hr hq
   rw [<- hl] at c2 c3
   rw [hq]
   refine CB func22 c22 fun E hE => ?_
   simp [p22]
   refine CLa c1 ?_
   simp
   refine CLa c2 ?_
   simp
   refine CLa c3 ?_
   simp
   refine pw_loop (α := Nat) (fun i => ⟨slots [(16, .d (rowsD l)), (17, vi l.length), (18, vi i)], lk [], 0⟩) (fun i => i <= l.length /\ ∀ j, j < i -> (l[j]?).all (fun r => nameS r.n) = true) (fun i => l.length - i) 0 ?_ ?_ ?_
   . exact ⟨by omega, fun j hj => by omega⟩
   . refine Weak.mk hE (lk []) _ _ _ ?_ ?_ ?_ ?_ ?_ <;> simp [hl]
   . rintro i ⟨hi, hg3⟩
     have hz := @wz i (by omega)
     by_cases h : i < l.length
     . obtain ⟨x, hx⟩ := gE h
       have hI : (i : Int) < l.length := by omega
       have c4 := fn70 x.n (hr x (List.mem_of_getElem? hx))
       by_cases h4 : nameS x.n = true
       . rw [h4] at c4
         simp [p22l0, hI, hx, splice]
         refine CLa c4 ?_
         simp [hz]
         refine ⟨i + 1, ⟨by omega, fun j hj => ?_⟩, by omega, ?_⟩
         . by_cases e : j = i
           . subst e; rw [hx]; simp [h4]
           . exact hg3 j (by omega)
         . exact WK hE (lk [])
       . simp only [Bool.not_eq_true] at h4
         rw [h4] at c4
         have hb := all_bad (f := fun r : Row => nameS r.n) hx h4
         simp [p22l0, hI, hx, splice]
         refine CLa c4 ?_
         simp
         apply RZ
         simp only [chkNm, hb]
         simp [results22]
     . have hI : ¬ (i : Int) < l.length := by omega
       have hb : (l.all fun r => nameS r.n) = true := all_ok fun j hj => hg3 j (by omega)
       simp [p22l0, hI]
       apply RZ
       simp only [chkNm, hb]
       simp [results22]
 . have hq : chkSh s = 94 := by simp [chkSh, h1, h2]
   rw [hq]
   refine CB func22 c22 fun E hE => ?_
   simp [p22]
   refine CLa c1 ?_
   simp
   refine CLa c2 ?_
   simp
   refine CLa c3 ?_
   simp [h2]
   apply RZ
   simp [results22]
theorem fn60 (n : By) (a b c d : Int) (h1 : -9223372036854775808 <= a /\ a <= 9223372036854775807) (h2 : -9223372036854775808 <= b /\ b <= 9223372036854775807) (h3 : -9223372036854775808 <= c /\ c <= 9223372036854775807) (h4 : -9223372036854775808 <= d /\ d <= 9223372036854775807) :
   Ct prog 60 [vS n, vsp a b, vsp c d] (.agg [vS n, vS (numS a), vS (numS b), vS (numS c), vS (numS d)]) [] := by
 have c1 : Ct prog 61 [vi a] (vS (numS a)) [] := fn61 a h1.1 h1.2
 have c2 : Ct prog 61 [vi b] (vS (numS b)) [] := fn61 b h2.1 h2.2
 have c3 : Ct prog 61 [vi c] (vS (numS c)) [] := fn61 c h3.1 h3.2
 have c4 : Ct prog 61 [vi d] (vS (numS d)) [] := fn61 d h4.1 h4.2
 refine CB func60 c60 fun E hE => ?_
 simp [p60]
 refine CLa c1 ?_
 simp
 refine CLa c2 ?_
 simp
 refine CLa c3 ?_
 simp
 refine CLa c4 ?_
 simp [splice]
 apply RZ
 simp [results60]
end Go.Proofs.Tryz
namespace Go.Log
structure R5 where
 a : By
 b : By
 c : By
 d : By
 e : By
def R5.l (r : R5) : List By := [r.a, r.b, r.c, r.d, r.e]
def fK : Nat -> R5 -> By
 | 0, r => r.a
 | 1, r => r.b
 | 2, r => r.c
 | 3, r => r.d
 | _, r => r.e
theorem fK_l {k : Nat} (h : k < 5) (r : R5) : r.l[k]?.getD [] = fK k r := by
 match k, h with
 | 0, _ | 1, _ | 2, _ | 3, _ | 4, _ => rfl
 | n + 5, h => omega
def WI (k : Nat) (l : List R5) (i : Nat) : Int := ((l.take i).map fun r => ((fK k r).length : Int)).foldl max 0
theorem WI_succ {k : Nat} {l : List R5} {i : Nat} {x : R5} (h : l[i]? = some x) : WI k l (i + 1) = max (WI k l i) ((fK k x).length) := by
 unfold WI
 rw [List.take_add_one, h]
 simp [List.foldl_append]
def wd (l : List R5) (k : Nat) : Nat := wideS (l.map R5.l) k
theorem foldl_cast : ∀ (l : List Nat) (z : Nat), ((l.foldl max z : Nat) : Int) = (l.map Int.ofNat).foldl max (z : Int)
 | [], z => rfl
 | a :: l, z => by
   simp only [List.foldl_cons, List.map_cons]
   rw [foldl_cast l (max z a)]
   rw [show ((max z a : Nat) : Int) = max (z : Int) (Int.ofNat a) by simp only [Int.ofNat_eq_natCast]; omega]
theorem WI_all {k : Nat} (h : k < 5) (l : List R5) : WI k l l.length = (wd l k : Int) := by
 unfold WI wd wideS
 rw [foldl_cast, List.take_length]
 simp only [List.map_map]
 congr 1
 refine List.map_congr_left fun r _ => ?_
 simp only [Function.comp, Int.ofNat_eq_natCast]
 rw [fK_l h]
theorem foldl_max_ge : ∀ (l : List Nat) (z : Nat), z <= l.foldl max z /\ ∀ x ∈ l, x <= l.foldl max z
 | [], z => ⟨Nat.le_refl _, fun x hx => by cases hx⟩
 | a :: l, z => by
   obtain ⟨h1, h2⟩ := foldl_max_ge l (max z a)
   simp only [List.foldl_cons]
   refine ⟨by omega, fun x hx => ?_⟩
   rcases List.mem_cons.1 hx with rfl | hx
   . omega
   . exact h2 x hx
theorem foldl_max_le : ∀ (l : List Nat) (z m : Nat), z <= m -> (∀ x ∈ l, x <= m) -> l.foldl max z <= m
 | [], z, m, h, _ => h
 | a :: l, z, m, h, hl => by
   simp only [List.foldl_cons]
   exact foldl_max_le l (max z a) m (by have := hl a (by simp); omega) fun x hx => hl x (by simp [hx])
theorem wd_ge {l : List R5} {x : R5} {k : Nat} (hk : k < 5) (hx : x ∈ l) : (fK k x).length <= wd l k := by
 unfold wd wideS
 refine (foldl_max_ge _ 0).2 _ ?_
 rw [List.map_map]
 exact List.mem_map.2 ⟨x, hx, by simp only [Function.comp]; rw [fK_l hk]⟩
theorem wd_le {l : List R5} {m : Nat} {k : Nat} (hk : k < 5) (h : ∀ x ∈ l, (fK k x).length <= m) : wd l k <= m := by
 unfold wd wideS
 refine foldl_max_le _ 0 m (Nat.zero_le _) fun x hx => ?_
 rw [List.map_map] at hx
 obtain ⟨r, hr, rfl⟩ := List.mem_map.1 hx
 simp only [Function.comp]
 rw [fK_l hk]
 exact h r hr
def par0 (l : List R5) (x : R5) : By := x.a ++ blk (wd l 0 - x.a.length)
def cel (l : List R5) (x : R5) (k : Nat) : By := [32, 32] ++ blk (wd l (k + 1) - (fK (k + 1) x).length) ++ fK (k + 1) x
def cels (l : List R5) (x : R5) (k : Nat) : By := (List.range k).flatMap (cel l x)
theorem cels_zero (l : List R5) (x : R5) : cels l x 0 = [] := rfl
theorem cels_succ (l : List R5) (x : R5) (k : Nat) : cels l x (k + 1) = cels l x k ++ cel l x k := by
 unfold cels
 rw [List.range_succ]; simp
def txR (l : List R5) (i : Nat) : By := (l.take i).flatMap fun x => par0 l x ++ cels l x 4 ++ [10]
theorem txR_succ {l : List R5} {i : Nat} {x : R5} (h : l[i]? = some x) : txR l (i + 1) = txR l i ++ (par0 l x ++ cels l x 4 ++ [10]) := by
 unfold txR
 rw [List.take_add_one, h]
 simp
theorem txR_all (l : List R5) : txR l l.length = laidS (l.map R5.l) := by
 unfold txR laidS
 rw [List.take_length, List.flatMap_map]
 congr 1
structure OkR (l : List R5) : Prop where
 n : l.length <= 50
 a : ∀ x ∈ l, 0 < x.a.length
 w : ∀ x ∈ l, ∀ k, (fK k x).length <= 100
theorem OkR.wd {l : List R5} (h : OkR l) {k : Nat} (hk : k < 5) : wd l k <= 100 := wd_le hk fun x hx => h.w x hx k
theorem blk_len (n : Nat) : (blk n).length = n := by simp [blk]
theorem par0_len {l : List R5} (h : OkR l) {x : R5} (hx : x ∈ l) : 0 < (par0 l x).length /\ (par0 l x).length <= 200 := by
 have h1 := h.a x hx
 have h2 : (fK 0 x).length <= 100 := h.w x hx 0
 have h3 : wd l 0 <= 100 := h.wd (by omega)
 have h4 : (fK 0 x).length = x.a.length := rfl
 simp only [par0, List.length_append, blk_len]
 omega
theorem cel_len {l : List R5} (h : OkR l) {x : R5} (hx : x ∈ l) {k : Nat} (hk : k < 4) : 0 < (cel l x k).length /\ (cel l x k).length <= 202 := by
 have h2 : (fK (k + 1) x).length <= 100 := h.w x hx (k + 1)
 have h3 : wd l (k + 1) <= 100 := h.wd (by omega)
 simp only [cel, List.length_append, blk_len, List.length_cons, List.length_nil]
 omega
theorem cels_len {l : List R5} (h : OkR l) {x : R5} (hx : x ∈ l) : ∀ {k : Nat}, k <= 4 -> (cels l x k).length <= 202 * k
 | 0, _ => Nat.le_refl _
 | k + 1, hk => by
   have ih := cels_len h hx (k := k) (by omega)
   have := (cel_len h hx (k := k) (by omega)).2
   rw [cels_succ, List.length_append]
   omega
theorem txR_len {l : List R5} (h : OkR l) : ∀ {i : Nat}, i <= l.length -> (txR l i).length <= 1100 * i
 | 0, _ => Nat.le_refl _
 | i + 1, hi => by
   have ih := txR_len h (i := i) (by omega)
   have hx : l[i]? = some l[i] := List.getElem?_eq_getElem (by omega)
   have hm := List.mem_of_getElem? hx
   have h1 := (par0_len h hm).2
   have h2 := cels_len h hm (k := 4) (by omega)
   rw [txR_succ hx]
   simp only [List.length_append, List.length_cons, List.length_nil]
   omega
theorem txR_pos {l : List R5} {i : Nat} (hi : i < l.length) : 0 < (txR l (i + 1)).length := by
 have hx : l[i]? = some l[i] := List.getElem?_eq_getElem hi
 rw [txR_succ hx]
 simp only [List.length_append, List.length_cons, List.length_nil]
 omega
end Go.Log
namespace Go.Proofs.Tryz
open Go.Psl
open Go.Log
abbrev r5L (r : R5) : List D := [dS r.a, dS r.b, dS r.c, dS r.d, dS r.e]
abbrev r5D (l : List R5) : D := .sl 5 (l.map r5L)
theorem hf5 : ∀ r : R5, (r5L r).length = 5 := fun _ => rfl
def cwI (l : List R5) (i j k : Nat) : Int := if j < k then WI j l (i + 1) else WI j l i
abbrev wdV (l : List R5) : List V := [vi (wd l 0), vi (wd l 1), vi (wd l 2), vi (wd l 3), vi (wd l 4)]
theorem WI_zero (k : Nat) (l : List R5) : WI k l 0 = 0 := rfl
theorem laid_wide (l : List R5) (hn : l.length <= 50) (E : Ent) (hE : ∀ i, ¬ E.stab i) (Q : AExit -> St -> Prop) (st : St)
   (hw : Weak prog E st ⟨slots [(0, .d (r5D l)), (3, .lp 0 0), (11, .d (r5D l)), (12, vi l.length), (13, vi (0 : Nat))], lk [(0, [vi 0, vi 0, vi 0, vi 0, vi 0])], 1⟩)
   (hk : Q (.exit 0) ⟨slots [(0, .d (r5D l)), (3, .lp 0 0)], lk [(0, wdV l)], 1⟩) :
   PW prog tys eqs E (.loop p62l1) Q st := by
 refine pw_loopC (α := Nat) 0 (fun _ : Unit => ⟨slots [(0, .d (r5D l)), (3, .lp 0 0)], lk [(0, wdV l)], 1⟩) (fun _ => True) (fun i => ⟨slots [(0, .d (r5D l)), (3, .lp 0 0), (11, .d (r5D l)), (12, vi l.length), (13, vi i)], lk [(0, [vi (WI 0 l i), vi (WI 1 l i), vi (WI 2 l i), vi (WI 3 l i), vi (WI 4 l i)])], 1⟩) (fun i => i <= l.length) (fun i => l.length - i) 0 ?_ ?_ ?_ fun _ _ => ?_
 . omega
 . simpa only [WI_zero] using hw
 . intro i hi
   have hz := @wz i (by omega)
   by_cases h : i < l.length
   . obtain ⟨x, hx⟩ := gE h
     have hI : (i : Int) < l.length := by omega
     have s0 := WI_succ (k := 0) hx
     have s1 := WI_succ (k := 1) hx
     have s2 := WI_succ (k := 2) hx
     have s3 := WI_succ (k := 3) hx
     have s4 := WI_succ (k := 4) hx
     simp only [fK] at s0 s1 s2 s3 s4
     have z1 : IntKind.wrap .i64 1 = 1 := by decide
     have z2 : IntKind.wrap .i64 2 = 2 := by decide
     have z3 : IntKind.wrap .i64 3 = 3 := by decide
     have z4 : IntKind.wrap .i64 4 = 4 := by decide
     have z5 : IntKind.wrap .i64 5 = 5 := by decide
     simp [p62l1, hI, hx, splice]
     refine pw_loopC (α := Nat) 2 (fun _ : Unit => ⟨slots [(0, .d (r5D l)), (3, .lp 0 0), (11, .d (r5D l)), (12, vi l.length), (13, vi i)], lk [(0, [vi (WI 0 l (i + 1)), vi (WI 1 l (i + 1)), vi (WI 2 l (i + 1)), vi (WI 3 l (i + 1)), vi (WI 4 l (i + 1))])], 1⟩) (fun _ => True)
       (fun k => ⟨slots [(0, .d (r5D l)), (3, .lp 0 0), (5, .lp 1 0), (11, .d (r5D l)), (12, vi l.length), (13, vi i), (17, vi k)], lk [(0, [vi (cwI l i 0 k), vi (cwI l i 1 k), vi (cwI l i 2 k), vi (cwI l i 3 k), vi (cwI l i 4 k)]), (1, [vS x.a, vS x.b, vS x.c, vS x.d, vS x.e])], 2⟩) (fun k => k <= 5) (fun k => 5 - k) 0 ?_ ?_ ?_ fun _ _ => ?_
     . omega
     . refine Weak.mk hE (lk [(0, 0), (1, 3145729)]) _ _ _ ?_ ?_ ?_ ?_ ?_ <;> simp [cwI]
     . intro k hk
       match k, hk with
       | 0, _ =>
         simp [p62l0, splice, z1, cwI, inC, Nat.testBit]
         refine ⟨1, by omega, by omega, ?_⟩
         refine Weak.mk hE (lk [(0, 0), (1, 1)]) _ _ _ ?_ ?_ ?_ ?_ ?_ <;> simp [s0]
       | 1, _ =>
         simp [p62l0, splice, z2, cwI, inC, Nat.testBit]
         refine ⟨2, by omega, by omega, ?_⟩
         refine Weak.mk hE (lk [(0, 0), (1, 1)]) _ _ _ ?_ ?_ ?_ ?_ ?_ <;> simp [s1]
       | 2, _ =>
         simp [p62l0, splice, z3, cwI, inC, Nat.testBit]
         refine ⟨3, by omega, by omega, ?_⟩
         refine Weak.mk hE (lk [(0, 0), (1, 1)]) _ _ _ ?_ ?_ ?_ ?_ ?_ <;> simp [s2]
       | 3, _ =>
         simp [p62l0, splice, z4, cwI, inC, Nat.testBit]
         refine ⟨4, by omega, by omega, ?_⟩
         refine Weak.mk hE (lk [(0, 0), (1, 1)]) _ _ _ ?_ ?_ ?_ ?_ ?_ <;> simp [s3]
       | 4, _ =>
         simp [p62l0, splice, z5, cwI, inC, Nat.testBit]
         refine ⟨5, by omega, by omega, ?_⟩
         refine Weak.mk hE (lk [(0, 0), (1, 1)]) _ _ _ ?_ ?_ ?_ ?_ ?_ <;> simp [s4]
       | 5, _ =>
         simp [p62l0, cwI, exC_exit]
         exact WK hE (lk [(0, 0)])
       | n + 6, h => omega
     . simp [hz]
       refine ⟨i + 1, by omega, by omega, ?_⟩
       exact WK hE (lk [(0, 0)])
   . have hI : ¬ (i : Int) < l.length := by omega
     obtain rfl : i = l.length := by omega
     rw [WI_all (by omega), WI_all (by omega), WI_all (by omega), WI_all (by omega), WI_all (by omega)]
     simp [p62l1, exC_exit]
     exact WK hE (lk [(0, 0)])
 . exact hk
theorem sub_cast {a b : Nat} (h : b <= a) (ha : a <= 1000000) : IntKind.wrap .i64 ((a : Int) - (b : Int)) = ((a - b : Nat) : Int) := by
 rw [wrap64 (by omega) (by omega)]; omega
theorem cells_run (l : List R5) (x : R5) (i : Nat) (T : Nat -> By) (hO : OkR l) (hx : x ∈ l) (hT : ∀ k, T (k + 1) = T k ++ cel l x k) (hl : ∀ k, k <= 4 -> (T k).length <= 100000) (E : Ent) (hE : ∀ i, ¬ E.stab i) (Q : AExit -> St -> Prop) (st : St)
   (hw : Weak prog E st ⟨slots [(3, .lp 0 0), (7, .yl 1), (9, .lp 3 0), (32, .d (r5D l)), (33, vi l.length), (34, vi i), (49, vi (0 : Nat))], lk [(0, wdV l), (1, [.yl 2, vi (T 0).length]), (2, [vS (T 0), vb false]), (3, [vS x.a, vS x.b, vS x.c, vS x.d, vS x.e])], 4⟩)
   (hC : Q (.exit 6) ⟨slots [(3, .lp 0 0), (7, .yl 1), (32, .d (r5D l)), (33, vi l.length), (34, vi i)], lk [(0, wdV l), (1, [.yl 2, vi (T 4).length]), (2, [vS (T 4), vb false])], 3⟩) :
   PW prog tys eqs E (.loop p62l2) Q st := by
 have z1 : IntKind.wrap .i64 1 = 1 := by decide
 have z2 : IntKind.wrap .i64 2 = 2 := by decide
 have z3 : IntKind.wrap .i64 3 = 3 := by decide
 have z4 : IntKind.wrap .i64 4 = 4 := by decide
 refine pw_loopC (α := Nat) 6 (fun _ : Unit => ⟨slots [(3, .lp 0 0), (7, .yl 1), (32, .d (r5D l)), (33, vi l.length), (34, vi i)], lk [(0, wdV l), (1, [.yl 2, vi (T 4).length]), (2, [vS (T 4), vb false])], 3⟩) (fun _ => True)
   (fun k => ⟨slots [(3, .lp 0 0), (7, .yl 1), (9, .lp 3 0), (32, .d (r5D l)), (33, vi l.length), (34, vi i), (49, vi k)], lk [(0, wdV l), (1, [.yl 2, vi (T k).length]), (2, [vS (T k), vb false]), (3, [vS x.a, vS x.b, vS x.c, vS x.d, vS x.e])], 4⟩) (fun k => k <= 4) (fun k => 4 - k) 0 (by omega) hw ?_ (fun _ _ => hC)
 intro k hk
 match k, hk with
 | 0, _ =>
     have hw' := wd_ge (l := l) (x := x) (k := 1) (by omega) hx
     have hwl := hO.wd (k := 1) (by omega)
     have hfl' : (fK 1 x).length <= 100 := hO.w x hx 1
     have c1 := fn112 (wd l 1 - (fK 1 x).length) (by omega)
     have hcl := cel_len hO hx (k := 0) (by omega)
     have d1 := bld_at2 1 2 (by omega) (T 0) (cel l x 0) hcl.1 (by have := hl 0 (by omega); omega)
     rw [<- hT 0] at d1
     have s1 := sub_cast hw' (by omega)
     have bl := blk_len (wd l 1 - (fK 1 x).length)
     have e2 : 32 :: 32 :: (blk (wd l 1 - (fK 1 x).length) ++ fK 1 x) = cel l x 0 := rfl
     simp only [fK] at hw' hfl' c1 s1 bl e2
     have n1 : 2 + (blk (wd l 1 - x.b.length)).length <= 9223372036854775807 := by omega
     have n2 : (blk (wd l 1 - x.b.length)).length + 2 + x.b.length <= 9223372036854775807 := by omega
     simp [p62l2, z1, s1, inC, Nat.testBit]
     refine CLa c1 ?_
     simp [inC, Nat.testBit, n1, n2, e2, z1]
     refine CRs d1 (by simp) ?_
     simp [z1]
     refine ⟨1, by omega, by omega, ?_⟩
     exact WK hE (lk [(0, 0), (1, 1), (2, 20971526), (3, 3)])
 | 1, _ =>
     have hw' := wd_ge (l := l) (x := x) (k := 2) (by omega) hx
     have hwl := hO.wd (k := 2) (by omega)
     have hfl' : (fK 2 x).length <= 100 := hO.w x hx 2
     have c1 := fn112 (wd l 2 - (fK 2 x).length) (by omega)
     have hcl := cel_len hO hx (k := 1) (by omega)
     have d1 := bld_at2 1 2 (by omega) (T 1) (cel l x 1) hcl.1 (by have := hl 1 (by omega); omega)
     rw [<- hT 1] at d1
     have s1 := sub_cast hw' (by omega)
     have bl := blk_len (wd l 2 - (fK 2 x).length)
     have e2 : 32 :: 32 :: (blk (wd l 2 - (fK 2 x).length) ++ fK 2 x) = cel l x 1 := rfl
     simp only [fK] at hw' hfl' c1 s1 bl e2
     have n1 : 2 + (blk (wd l 2 - x.c.length)).length <= 9223372036854775807 := by omega
     have n2 : (blk (wd l 2 - x.c.length)).length + 2 + x.c.length <= 9223372036854775807 := by omega
     simp [p62l2, z2, s1, inC, Nat.testBit]
     refine CLa c1 ?_
     simp [inC, Nat.testBit, n1, n2, e2, z2]
     refine CRs d1 (by simp) ?_
     simp [z2]
     refine ⟨2, by omega, by omega, ?_⟩
     exact WK hE (lk [(0, 0), (1, 1), (2, 20971526), (3, 3)])
 | 2, _ =>
     have hw' := wd_ge (l := l) (x := x) (k := 3) (by omega) hx
     have hwl := hO.wd (k := 3) (by omega)
     have hfl' : (fK 3 x).length <= 100 := hO.w x hx 3
     have c1 := fn112 (wd l 3 - (fK 3 x).length) (by omega)
     have hcl := cel_len hO hx (k := 2) (by omega)
     have d1 := bld_at2 1 2 (by omega) (T 2) (cel l x 2) hcl.1 (by have := hl 2 (by omega); omega)
     rw [<- hT 2] at d1
     have s1 := sub_cast hw' (by omega)
     have bl := blk_len (wd l 3 - (fK 3 x).length)
     have e2 : 32 :: 32 :: (blk (wd l 3 - (fK 3 x).length) ++ fK 3 x) = cel l x 2 := rfl
     simp only [fK] at hw' hfl' c1 s1 bl e2
     have n1 : 2 + (blk (wd l 3 - x.d.length)).length <= 9223372036854775807 := by omega
     have n2 : (blk (wd l 3 - x.d.length)).length + 2 + x.d.length <= 9223372036854775807 := by omega
     simp [p62l2, z3, s1, inC, Nat.testBit]
     refine CLa c1 ?_
     simp [inC, Nat.testBit, n1, n2, e2, z3]
     refine CRs d1 (by simp) ?_
     simp [z3]
     refine ⟨3, by omega, by omega, ?_⟩
     exact WK hE (lk [(0, 0), (1, 1), (2, 20971526), (3, 3)])
 | 3, _ =>
     have hw' := wd_ge (l := l) (x := x) (k := 4) (by omega) hx
     have hwl := hO.wd (k := 4) (by omega)
     have hfl' : (fK 4 x).length <= 100 := hO.w x hx 4
     have c1 := fn112 (wd l 4 - (fK 4 x).length) (by omega)
     have hcl := cel_len hO hx (k := 3) (by omega)
     have d1 := bld_at2 1 2 (by omega) (T 3) (cel l x 3) hcl.1 (by have := hl 3 (by omega); omega)
     rw [<- hT 3] at d1
     have s1 := sub_cast hw' (by omega)
     have bl := blk_len (wd l 4 - (fK 4 x).length)
     have e2 : 32 :: 32 :: (blk (wd l 4 - (fK 4 x).length) ++ fK 4 x) = cel l x 3 := rfl
     simp only [fK] at hw' hfl' c1 s1 bl e2
     have n1 : 2 + (blk (wd l 4 - x.e.length)).length <= 9223372036854775807 := by omega
     have n2 : (blk (wd l 4 - x.e.length)).length + 2 + x.e.length <= 9223372036854775807 := by omega
     simp [p62l2, z4, s1, inC, Nat.testBit]
     refine CLa c1 ?_
     simp [inC, Nat.testBit, n1, n2, e2, z4]
     refine CRs d1 (by simp) ?_
     simp [z4]
     refine ⟨4, by omega, by omega, ?_⟩
     exact WK hE (lk [(0, 0), (1, 1), (2, 20971526), (3, 3)])
 | 4, _ =>
     simp [p62l2, exC_exit]
     exact WK hE (lk [(0, 0), (1, 1), (2, 2)])
 | n + 5, h => omega
def bT (i : Nat) (t : By) : List (Nat × List V) := if i = 0 then [(1, [.d (.lit (.slice none 0 0)), vi 0])] else [(1, [.yl 2, vi t.length]), (2, [vS t, vb false])]
theorem bT_z (t : By) : bT 0 t = [(1, [.d (.lit (.slice none 0 0)), vi 0])] := rfl
theorem bT_n {i : Nat} (h : i ≠ 0) (t : By) : bT i t = [(1, [.yl 2, vi t.length]), (2, [vS t, vb false])] := if_neg h
def rwT (l : List R5) (i : Nat) (x : R5) (k : Nat) : By := txR l i ++ par0 l x ++ cels l x k
theorem rwT_zero (l : List R5) (i : Nat) (x : R5) : rwT l i x 0 = txR l i ++ par0 l x := by simp [rwT, cels_zero]
theorem rwT_succ (l : List R5) (i : Nat) (x : R5) (k : Nat) : rwT l i x (k + 1) = rwT l i x k ++ cel l x k := by simp [rwT, cels_succ]
theorem rwT_len {l : List R5} (hO : OkR l) {i : Nat} {x : R5} (hi : i <= l.length) (hm : x ∈ l) {k : Nat} (hk : k <= 4) : (rwT l i x k).length <= 80000 := by
 have h1 := par0_len hO hm
 have h2 := txR_len hO hi
 have h3 := cels_len hO hm hk
 have h4 := hO.n
 simp only [rwT, List.length_append]
 omega
theorem rwT_all {l : List R5} {i : Nat} {x : R5} (hx : l[i]? = some x) : rwT l i x 4 ++ [10] = txR l (i + 1) := by rw [txR_succ hx]; simp [rwT]
theorem fn62 (l : List R5) (hO : OkR l) (h0 : 0 < l.length) : Ct prog 62 [.d (r5D l)] (vS (laidS (l.map R5.l))) [] := by
 have hn := hO.n
 refine CB func62 c62 fun E hE => ?_
 simp [p62]
 refine laid_wide l hn E hE _ _ ?_ ?_
 . exact WK hE (lk [(0, 1048576)])
 simp
 refine pw_loopC (α := Nat) 4 (fun _ : Unit => ⟨slots [(7, .yl 1)], lk [(1, [.yl 2, vi (laidS (l.map R5.l)).length]), (2, [vS (laidS (l.map R5.l)), vb false])], 3⟩) (fun _ => True) (fun i => ⟨slots [(3, .lp 0 0), (7, .yl 1), (32, .d (r5D l)), (33, vi l.length), (34, vi i)], lk ((0, wdV l) :: bT i (txR l i)), 3⟩) (fun i => i <= l.length) (fun i => l.length - i) 0 ?_ ?_ ?_ fun _ _ => ?_
 . omega
 . rw [bT_z]
   exact WK hE (lk [(0, 0), (1, 1)])
 . intro i hi
   have hz := @wz i (by omega)
   by_cases h : i < l.length
   . obtain ⟨x, hx⟩ := gE h
     have hI : (i : Int) < l.length := by omega
     have hm := List.mem_of_getElem? hx
     have hp := par0_len hO hm
     have ht := txR_len hO (i := i) (by omega)
     have hc4 := cels_len hO hm (k := 4) (by omega)
     have d3 := bld_at2 1 2 (by omega) (rwT l i x 4) [10] (by simp) (by have := rwT_len hO (i := i) (by omega) hm (k := 4) (by omega); simp only [List.length_cons, List.length_nil]; omega)
     rw [rwT_all hx] at d3
     have hw' := wd_ge (l := l) (x := x) (k := 0) (by omega) hm
     have hwl := hO.wd (k := 0) (by omega)
     have hfl' : (fK 0 x).length <= 100 := hO.w x hm 0
     have c1 := fn112 (wd l 0 - (fK 0 x).length) (by omega)
     have s1 := sub_cast hw' (by omega)
     have bl := blk_len (wd l 0 - (fK 0 x).length)
     have e2 : x.a ++ blk (wd l 0 - (fK 0 x).length) = par0 l x := rfl
     simp only [fK] at hw' hfl' c1 s1 bl e2
     have n1 : x.a.length + (blk (wd l 0 - x.a.length)).length <= 9223372036854775807 := by omega
     by_cases h0 : i = 0
     . have e4 : bT i (txR l i) = [(1, [.d (.lit (.slice none 0 0)), vi 0])] := by rw [h0]; rfl
       have e5 : txR l i = [] := by rw [h0]; rfl
       have d2 := bld_at1 1 2 (by omega) (par0 l x) hp.1 (by omega)
       rw [e4]
       simp [p62l3, hI, hx, splice, s1, inC, Nat.testBit]
       refine CLa c1 ?_
       simp [n1, e2]
       refine CRs d2 (by simp) ?_
       simp
       have e6 : rwT l i x 0 = par0 l x := by rw [rwT_zero, e5]; rfl
       refine cells_run l x i (rwT l i x) hO hm (rwT_succ l i x) (fun k hk => by have := rwT_len hO (i := i) (by omega) hm hk; omega) E hE _ _ ?_ ?_
       . rw [e6]
         exact WK hE (lk [(0, 0), (1, 1), (2, 15728645), (3, 3145731)])
       . simp
         refine CRs d3 (by simp) ?_
         simp [hz]
         refine ⟨i + 1, by omega, by omega, ?_⟩
         rw [bT_n (by omega)]
         exact WK hE (lk [(0, 0), (1, 1), (2, 5)])
     . have d2 := bld_at2 1 2 (by omega) (txR l i) (par0 l x) hp.1 (by omega)
       rw [<- rwT_zero l i x] at d2
       rw [bT_n h0]
       simp [p62l3, hI, hx, splice, s1, inC, Nat.testBit]
       refine CLa c1 ?_
       simp [n1, e2]
       refine CRs d2 (by simp) ?_
       simp
       refine cells_run l x i (rwT l i x) hO hm (rwT_succ l i x) (fun k hk => by have := rwT_len hO (i := i) (by omega) hm hk; omega) E hE _ _ ?_ ?_
       . skip
         exact WK hE (lk [(0, 0), (1, 1), (2, 15728645), (3, 3145731)])
       . simp
         refine CRs d3 (by simp) ?_
         simp [hz]
         refine ⟨i + 1, by omega, by omega, ?_⟩
         rw [bT_n (by omega)]
         exact WK hE (lk [(0, 0), (1, 1), (2, 5)])
   . have hI : ¬ (i : Int) < l.length := by omega
     obtain rfl : i = l.length := by omega
     rw [bT_n (by omega), txR_all]
     simp [p62l3, exC_exit]
     exact WK hE (lk [(1, 1), (2, 2)])
 . have hpos : 0 < (laidS (l.map R5.l)).length := by
     rw [<- txR_all]
     obtain ⟨n, hn'⟩ : ∃ n, l.length = n + 1 := ⟨l.length - 1, by omega⟩
     rw [hn']
     exact txR_pos (by omega)
   have d1 := bld_text 1 2 (by omega) (laidS (l.map R5.l)) hpos
   simp
   refine CRs d1 (by simp) ?_
   simp
   apply RZ
   simp [results62]
end Go.Proofs.Tryz
namespace Go.Log
theorem numS_len2 (n : Int) (h0 : -1000000000000000000 < n) (h1 : n < 1000000000000000000) : (numS n).length <= 19 := by
 unfold numS Go.Lib.itoa
 split
 . simp only [List.length_cons, Go.Lib.decDigits_length]
   have := nDigits_le 17 n.natAbs (by omega)
   omega
 . rw [Go.Lib.decDigits_length]
   have := nDigits_le 17 n.toNat (by omega)
   omega
def rowR (r : Row) : R5 := ⟨r.n, numS r.l.al, numS r.l.ah, numS r.l.wl, numS r.l.wh⟩
def totR (l : List Ldp) : R5 := ⟨totalB, numS (sumF Ldp.wl l), numS (sumF Ldp.wh l), numS (sumF mnP l), numS (sumF mxP l)⟩
def tabR (s : Sht) : List R5 := s.rs.map rowR ++ [totR (s.rs.map Row.l)]
theorem tabR_l (s : Sht) : (tabR s).map R5.l = tabS s := by
 simp [tabR, tabS, rowR, rowS, totR, totS, toldS, R5.l, Function.comp_def]
theorem lds_of {l : List Ldp} (h : chkLds l = 0) : l.length <= 40 /\ ∀ x ∈ l, okLd x = true := by
 unfold chkLds at h
 split at h
 . cases h
 . split at h
   . rename_i h1 h2
     exact ⟨by omega, fun x hx => List.all_eq_true.1 h2 x hx⟩
   . cases h
structure OkSh (q : Sht) : Prop where
 s : shipS q.s = true
 l : chkLds (q.rs.map Row.l) = 0
 n : ∀ r ∈ q.rs, nameS r.n = true
theorem okSh_of {s : Sht} (h : chkSh s = 0) : OkSh s := by
 unfold chkSh at h
 split at h
 . cases h
 . rename_i h1
   simp only [Bool.or_eq_true, Bool.not_eq_true', decide_eq_true_eq, not_or, Bool.not_eq_false, Decidable.not_not] at h1
   split at h
   . rename_i h2
     exact ⟨h1.1, h1.2, fun r hr => List.all_eq_true.1 h2 r hr⟩
   . cases h
theorem okSh_chk {s : Sht} (h : OkSh s) : chkSh s = 0 := by
 unfold chkSh
 have h2 : (s.rs.all fun r => nameS r.n) = true := List.all_eq_true.2 h.n
 simp [h.s, h.l, h2]
theorem OkSh.rows {s : Sht} (h : OkSh s) : s.rs.length <= 40 := by
 have := (lds_of h.l).1
 simpa using this
theorem OkSh.ld {s : Sht} (h : OkSh s) {r : Row} (hr : r ∈ s.rs) : okLd r.l = true := (lds_of h.l).2 _ (List.mem_map.2 ⟨r, hr, rfl⟩)
theorem name_len {s : By} (h : nameS s = true) : 1 <= s.length /\ s.length <= 12 := by
 simp only [nameS, madeS, betw, Bool.and_eq_true, decide_eq_true_eq] at h
 omega
theorem sum_bds {l : List Ldp} (h : chkLds l = 0) : (-1000000000000000 < sumF Ldp.wl l /\ sumF Ldp.wl l < 1000000000000000) /\ (-1000000000000000 < sumF Ldp.wh l /\ sumF Ldp.wh l < 1000000000000000) /\ (-1000000000000000 < sumF mnP l /\ sumF mnP l < 1000000000000000) /\ (-1000000000000000 < sumF mxP l /\ sumF mxP l < 1000000000000000) := by
 obtain ⟨hl, ho⟩ := lds_of h
 have key : ∀ f : Ldp -> Int, (∀ x, okLd x = true -> -21474836480000 <= f x /\ f x <= 21474836480000) -> -1000000000000000 < sumF f l /\ sumF f l < 1000000000000000 := fun f hf => by
   have b := sumF_bd (f := f) (b := 21474836480000) (by omega) l fun y hy => hf y (ho y hy)
   have : (21474836480000 : Int) * l.length <= 21474836480000 * 40 := Int.mul_le_mul_of_nonneg_left (by omega) (by omega)
   omega
 refine ⟨key _ fun x hx => ?_, key _ fun x hx => ?_, key _ fun x hx => ?_, key _ fun x hx => ?_⟩
 . have := okLd_bd hx; omega
 . have := okLd_bd hx; omega
 . have b := prod_bd hx
   have b1 := b x.al x.wl (.inl rfl) (.inl rfl)
   have b2 := b x.al x.wh (.inl rfl) (.inr rfl)
   have b3 := b x.ah x.wl (.inr rfl) (.inl rfl)
   have b4 := b x.ah x.wh (.inr rfl) (.inr rfl)
   unfold mnP
   omega
 . have b := prod_bd hx
   have b1 := b x.al x.wl (.inl rfl) (.inl rfl)
   have b2 := b x.al x.wh (.inl rfl) (.inr rfl)
   have b3 := b x.ah x.wl (.inr rfl) (.inl rfl)
   have b4 := b x.ah x.wh (.inr rfl) (.inr rfl)
   unfold mxP
   omega
theorem fK_five {m : Nat} {r : R5} (h0 : r.a.length <= m) (h1 : r.b.length <= m) (h2 : r.c.length <= m) (h3 : r.d.length <= m) (h4 : r.e.length <= m) (k : Nat) : (fK k r).length <= m := by
 match k with
 | 0 => exact h0
 | 1 => exact h1
 | 2 => exact h2
 | 3 => exact h3
 | _ + 4 => exact h4
theorem tabR_ok {s : Sht} (h : OkSh s) : OkR (tabR s) := by
 refine ⟨?_, fun x hx => ?_, fun x hx k => ?_⟩
 . have := h.rows
   simp only [tabR, List.length_append, List.length_map, List.length_cons, List.length_nil]
   omega
 . rcases List.mem_append.1 hx with hx | hx
   . obtain ⟨r, hr, rfl⟩ := List.mem_map.1 hx
     exact (name_len (h.n r hr)).1
   . obtain rfl := List.mem_singleton.1 hx
     show 0 < totalB.length
     decide
 . rcases List.mem_append.1 hx with hx | hx
   . obtain ⟨r, hr, rfl⟩ := List.mem_map.1 hx
     have hn := name_len (h.n r hr)
     have hb := okLd_bd (h.ld hr)
     have q1 := numS_len2 r.l.al (by omega) (by omega)
     have q2 := numS_len2 r.l.ah (by omega) (by omega)
     have q3 := numS_len2 r.l.wl (by omega) (by omega)
     have q4 := numS_len2 r.l.wh (by omega) (by omega)
     exact fK_five (m := 100) (by show r.n.length <= 100; omega) (Nat.le_trans q1 (by omega)) (Nat.le_trans q2 (by omega)) (Nat.le_trans q3 (by omega)) (Nat.le_trans q4 (by omega)) k
   . obtain rfl := List.mem_singleton.1 hx
     obtain ⟨b1, b2, b3, b4⟩ := sum_bds h.l
     have q1 := numS_len2 _ (by omega) (by omega : sumF Ldp.wl (s.rs.map Row.l) < 1000000000000000000)
     have q2 := numS_len2 _ (by omega) (by omega : sumF Ldp.wh (s.rs.map Row.l) < 1000000000000000000)
     have q3 := numS_len2 _ (by omega) (by omega : sumF mnP (s.rs.map Row.l) < 1000000000000000000)
     have q4 := numS_len2 _ (by omega) (by omega : sumF mxP (s.rs.map Row.l) < 1000000000000000000)
     exact fK_five (m := 100) (by show totalB.length <= 100; decide) (Nat.le_trans q1 (by omega)) (Nat.le_trans q2 (by omega)) (Nat.le_trans q3 (by omega)) (Nat.le_trans q4 (by omega)) k
theorem laid_len {s : Sht} (h : OkSh s) : (laidS (tabS s)).length <= 50000 := by
 rw [<- tabR_l, <- txR_all]
 have h1 := txR_len (tabR_ok h) (i := (tabR s).length) (Nat.le_refl _)
 have h2 : (tabR s).length <= 41 := by
   have := h.rows
   simp only [tabR, List.length_append, List.length_map, List.length_cons, List.length_nil]
   omega
 omega
end Go.Log
namespace Go.Proofs.Tryz
open Go.Psl
open Go.Log
def rw5 (l : List Row) (i : Nat) : List R5 := (l.take i).map rowR
theorem rw5_succ {l : List Row} {i : Nat} {y : Row} (h : l[i]? = some y) : rw5 l (i + 1) = rw5 l i ++ [rowR y] := by
 unfold rw5
 rw [List.take_add_one, h]; simp
theorem rw5_len {l : List Row} {i : Nat} (h : i <= l.length) : (rw5 l i).length = i := by unfold rw5; simp; omega
theorem r5_one (c : R5) : fcel r5L [c] = [vS c.a, vS c.b, vS c.c, vS c.d, vS c.e] := rfl
theorem rows_run (s : Sht) (h : OkSh s) (ls : List Lim) (E : Ent) (hE : ∀ i, ¬ E.stab i) (Q : AExit -> St -> Prop) (st : St)
   (hw : Weak prog E st ⟨slots [(1, .d (lmsD ls)), (2, .lp 1 0), (8, .d (ldsD (s.rs.map Row.l))), (9, .lp 2 0), (10, .lp 3 0), (12, hdN 0 5), (37, .d (rowsD s.rs)), (38, vi s.rs.length), (39, vi (0 : Nat))], lk (bkN 0 (fcel r5L (rw5 s.rs 0)) ++ [(1, [vS s.s, .d (rowsD s.rs)]), (2, [vi (sumF Ldp.wl (s.rs.map Row.l)), vi (sumF Ldp.wh (s.rs.map Row.l))]), (3, [vi (sumF mnP (s.rs.map Row.l)), vi (sumF mxP (s.rs.map Row.l))])]), 4⟩)
   (hC : Q (.exit 0) ⟨slots [(1, .d (lmsD ls)), (2, .lp 1 0), (8, .d (ldsD (s.rs.map Row.l))), (9, .lp 2 0), (10, .lp 3 0), (12, hdN s.rs.length 5)], lk (bkN s.rs.length (fcel r5L (rw5 s.rs s.rs.length)) ++ [(1, [vS s.s, .d (rowsD s.rs)]), (2, [vi (sumF Ldp.wl (s.rs.map Row.l)), vi (sumF Ldp.wh (s.rs.map Row.l))]), (3, [vi (sumF mnP (s.rs.map Row.l)), vi (sumF mxP (s.rs.map Row.l))])]), 4⟩) :
   PW prog tys eqs E (.loop p18l0) Q st := by
 have hn := h.rows
 have ho : ∀ r ∈ s.rs, okLd r.l = true := fun r hr => h.ld hr
 obtain ⟨l, hl⟩ : ∃ l, l = s.rs := ⟨_, rfl⟩
 obtain ⟨ds, hds⟩ : ∃ ds, ds = s.rs.map Row.l := ⟨_, rfl⟩
 rw [<- hds, <- hl] at hw hC
 rw [<- hl] at hn ho
 generalize sumF Ldp.wl ds = a1 at hw hC
 generalize sumF Ldp.wh ds = a2 at hw hC
 generalize sumF mnP ds = a3 at hw hC
 generalize sumF mxP ds = a4 at hw hC
 generalize s.s = nm at hw hC
 refine pw_loopC (α := Nat) 0 (fun _ : Unit => ⟨slots [(1, .d (lmsD ls)), (2, .lp 1 0), (8, .d (ldsD ds)), (9, .lp 2 0), (10, .lp 3 0), (12, hdN l.length 5)], lk (bkN l.length (fcel r5L (rw5 l l.length)) ++ [(1, [vS nm, .d (rowsD l)]), (2, [vi a1, vi a2]), (3, [vi a3, vi a4])]), 4⟩) (fun _ => True)
   (fun i => ⟨slots [(1, .d (lmsD ls)), (2, .lp 1 0), (8, .d (ldsD ds)), (9, .lp 2 0), (10, .lp 3 0), (12, hdN i 5), (37, .d (rowsD l)), (38, vi l.length), (39, vi i)], lk (bkN i (fcel r5L (rw5 l i)) ++ [(1, [vS nm, .d (rowsD l)]), (2, [vi a1, vi a2]), (3, [vi a3, vi a4])]), 4⟩) (fun i => i <= l.length) (fun i => l.length - i) 0 (by omega) hw ?_ (fun _ _ => hC)
 intro i hi
 have hz := @wz i (by omega)
 by_cases h : i < l.length
 . obtain ⟨y, hy⟩ := gE h
   have hI : (i : Int) < l.length := by omega
   have hb := okLd_bd (ho y (List.mem_of_getElem? hy))
   have c1 := fn60 y.n y.l.al y.l.ah y.l.wl y.l.wh (by omega) (by omega) (by omega) (by omega)
   by_cases h0 : i = 0
   . have e3 : hdN i 5 = .d (.lit (.slice none 0 0)) := by rw [h0]; rfl
     have e4 : bkN i (fcel r5L (rw5 l i)) = [] := by rw [h0]; rfl
     have e5 : rw5 l i = [] := by rw [h0]; rfl
     have e6 : i + 1 = 1 := by omega
     have e7 : (i : Int) + 1 = 1 := by omega
     rw [e3, e4]
     simp [p18l0, hI, hy, splice]
     refine CLa c1 ?_
     simp [splice, repl, hz]
     refine ⟨i + 1, by omega, by omega, ?_⟩
     rw [hdN_n (by omega), bkN_n (by omega), rw5_succ hy, e5]
     refine Weak.mk hE (lk [(0, 16777220), (1, 1), (2, 2), (3, 3)]) _ _ _ ?_ ?_ ?_ ?_ ?_ <;> simp [r5_one, e6, e7, rowR]
   . have e2 : i + 1 ≠ 0 := by omega
     have hsl := fcel_len hf5 (rw5 l i)
     have hwh := fcel_whole hf5 (rw5 l i)
     rw [rw5_len hi] at hsl hwh
     have n1 : (i + 1) * 80 <= 140737488355328 := by omega
     have n2 : i <= 9223372036854775806 := by omega
     rw [hdN_n h0, bkN_n h0]
     simp [p18l0, hI, hy, splice]
     refine CLa c1 ?_
     simp [splice, repl, hz, hsl, hwh, n1, n2]
     refine ⟨i + 1, by omega, by omega, ?_⟩
     rw [hdN_n e2, bkN_n e2, rw5_succ hy]
     refine Weak.mk hE (lk [(0, 16777220), (1, 1), (2, 2), (3, 3)]) _ _ _ ?_ ?_ ?_ ?_ ?_ <;> simp [fcel_one, rowR]
 . have hI : ¬ (i : Int) < l.length := by omega
   obtain rfl : i = l.length := by omega
   by_cases h0 : l.length = 0
   . rw [h0, hdN_z, bkN_z]
     simp [p18l0, exC_exit]
     exact WK hE (lk [(1, 1), (2, 2), (3, 3)])
   . rw [hdN_n h0, bkN_n h0]
     simp [p18l0, exC_exit]
     exact WK hE (lk [(0, 0), (1, 1), (2, 2), (3, 3)])
theorem last_none {l : List Ldp} {ls : List Lim} (h : brkS l ls = none) : lastS l ls = [75, 69, 80, 84] := by simp [lastS, h, keptB]
theorem last_some {l : List Ldp} {ls : List Lim} {i : Nat} (h : brkS l ls = some i) : lastS l ls = brokenB ++ numS i := by simp [lastS, h]
theorem brk_lt {l : List Ldp} {ls : List Lim} {i : Nat} (h : brkS l ls = some i) : i < ls.length := by
 unfold brkS at h
 rw [List.findIdx?_eq_some_iff_getElem] at h
 exact h.1
theorem fn18 (s : Sht) (hs : SizedS s) (ls : List Lim) (hn : ls.length <= 1000000) : Ct prog 18 [shtV s, .d (lmsD ls)] (.tup [vS (writeSh s ls).1, vi (writeSh s ls).2]) [] := by
 have c1 := fn22 s hs
 have c2 := fn57 ls hn
 by_cases h1 : chkSh s = 0
 case neg =>
   have e : writeSh s ls = ([], chkSh s) := by simp [writeSh, h1]
   rw [e]
   refine CB func18 c18 fun E hE => ?_
   simp [p18]
   refine CLa c1 ?_
   simp [h1]
   apply RZ
   simp [results18]
 rw [h1] at c1
 by_cases h2 : chkLms ls = 0
 case neg =>
   have e : writeSh s ls = ([], chkLms ls) := by simp [writeSh, h1, h2]
   rw [e]
   refine CB func18 c18 fun E hE => ?_
   simp [p18]
   refine CLa c1 ?_
   simp
   refine CLa c2 ?_
   simp [h2]
   apply RZ
   simp [results18]
 rw [h2] at c2
 have ho := okSh_of h1
 have e : writeSh s ls = (sheetS s ls, 0) := by simp [writeSh, h1, h2]
 have c3 := fn58 s hs.n
 have c4 := fn59 (s.rs.map Row.l) ho.l
 have c5 := fn30 (s.rs.map Row.l) ls ho.l h2
 have c6 := fn62 (tabR s) (tabR_ok ho) (by simp [tabR])
 rw [tabR_l] at c6
 have hT := laid_len ho
 have hq := ship_len ho.s
 rw [e]
 have es : sheetS s ls = sheetB ++ s.s ++ [10] ++ laidS (tabS s) ++ lastS (s.rs.map Row.l) ls ++ [10] := rfl
 rw [es]
 generalize laidS (tabS s) = T at c6 hT ⊢
 refine CB func18 c18 fun E hE => ?_
 simp [p18]
 refine CLa c1 ?_
 simp
 refine CLa c2 ?_
 simp
 refine CLa c3 ?_
 simp
 refine CLa c4 ?_
 simp [splice]
 refine rows_run s ho ls E hE _ _ ?_ ?_
 . rw [hdN_z, bkN_z]
   exact WK hE (lk [(1, 0), (2, 23068672), (3, 24117248)])
 have hds : (s.rs.map Row.l).length <= 40 := (lds_of ho.l).1
 obtain ⟨b1, b2, b3, b4⟩ := sum_bds ho.l
 have c7 := fn60 totalB (sumF Ldp.wl (s.rs.map Row.l)) (sumF Ldp.wh (s.rs.map Row.l)) (sumF mnP (s.rs.map Row.l)) (sumF mxP (s.rs.map Row.l)) (by omega) (by omega) (by omega) (by omega)
 have etab : tabR s = rw5 s.rs s.rs.length ++ [totR (s.rs.map Row.l)] := by simp [tabR, rw5]
 have hl5 := rw5_len (Nat.le_refl s.rs.length)
 have hb : ∀ (H : Hp) (id : Nat), H id = some (fcel r5L (rw5 s.rs s.rs.length) ++ [vS totalB, vS (numS (sumF Ldp.wl (s.rs.map Row.l))), vS (numS (sumF Ldp.wh (s.rs.map Row.l))), vS (numS (sumF mnP (s.rs.map Row.l))), vS (numS (sumF mxP (s.rs.map Row.l)))]) -> Bor H (.ls id 0 (s.rs.length + 1) 5) (.d (r5D (tabR s))) := fun H id hh => by
   rw [etab]
   have := bor_fcel (f := r5L) hf5 (H := H) (id := id) (l := rw5 s.rs s.rs.length ++ [totR (s.rs.map Row.l)]) (by rw [hh, fcel_one]; rfl)
   rwa [List.length_append, hl5] at this
 have l1 : (6 : Nat) + s.s.length <= 9223372036854775807 := by omega
 have l2 : s.s.length <= 9223372036854775801 := by omega
 have l3 : s.s.length <= 9223372036854775800 := by omega
 have l4 : s.s.length + 1 + 1 + 1 + 1 + 1 + 1 + 1 + T.length <= 9223372036854775807 := by omega
 have l5 : s.s.length + (T.length + 1) <= 9223372036854775797 := by omega
 have l6 : s.s.length + (T.length + 4 + 1) <= 9223372036854775800 := by omega
 rw [show totalB = [84, 79, 84, 65, 76] from rfl] at c7 hb
 have hb0 : s.rs.length = 0 -> ∀ (H : Hp) (id : Nat), H id = some [vS [84, 79, 84, 65, 76], vS (numS (sumF Ldp.wl (s.rs.map Row.l))), vS (numS (sumF Ldp.wh (s.rs.map Row.l))), vS (numS (sumF mnP (s.rs.map Row.l))), vS (numS (sumF mxP (s.rs.map Row.l)))] -> Bor H (.ls id 0 1 5) (.d (r5D (tabR s))) := fun h0 H id hh => by
   have e0 : s.rs = [] := List.length_eq_zero_iff.1 h0
   have := hb H id (by rw [hh, e0]; rfl)
   rwa [h0] at this
 have hsl := fcel_len hf5 (rw5 s.rs s.rs.length)
 have hwh := fcel_whole hf5 (rw5 s.rs s.rs.length)
 rw [hl5] at hsl hwh
 have hrn := ho.rows
 have n1 : (s.rs.length + 1) * 80 <= 140737488355328 := by omega
 have n2 : s.rs.length <= 9223372036854775806 := by omega
 clear b1 b2 b3 b4 hds hrn etab hl5
 cases hbr : brkS (s.rs.map Row.l) ls with
 | none =>
   rw [last_none hbr]
   rw [brkV_none hbr, hbr] at c5
   by_cases h0 : s.rs.length = 0
   . have hb1 := hb0 h0
     rw [h0, hdN_z, bkN_z]
     simp
     refine CLa c5 ?_
     simp [splice]
     refine pw_drawW [] (by kernel_rfl) ?_
     simp [inC, Nat.testBit, l1, l3]
     refine CLa c7 ?_
     simp [splice, repl, inC, Nat.testBit]
     refine CLb (c6) (by simp [hb1, inC, Nat.testBit]) ?_
     simp [l4, l5, l6]
     apply RZ
     simp [results18, sheetB]
   . rw [hdN_n h0, bkN_n h0]
     simp
     refine CLa c5 ?_
     simp [splice]
     refine pw_drawW [(9, 0)] (by kernel_rfl) ?_
     simp [inC, Nat.testBit, l1, l3]
     refine CLa c7 ?_
     simp [splice, repl, inC, Nat.testBit, hsl, hwh, n1, n2]
     refine CLb (c6) (by simp [hb, inC, Nat.testBit]) ?_
     simp [l4, l5, l6]
     apply RZ
     simp [results18, sheetB]
 | some i =>
   have hi := brk_lt hbr
   obtain ⟨x, hx⟩ := gE hi
   rw [last_some hbr]
   rw [brkV_some hx hbr, hbr] at c5
   have c8 : Ct prog 61 [vi i] (vS (numS i)) [] := fn61 i (by omega) (by omega)
   have hnl := numS_len2 (i : Int) (by omega) (by omega)
   generalize numS (i : Int) = N at c8 hnl ⊢
   have k1 : 7 + N.length <= 9223372036854775807 := by omega
   have k2 : s.s.length + (T.length + 1) + 1 + 1 + 1 + 1 + 1 + 1 + (N.length + 1 + 1 + 1 + 1 + 1 + 1 + 1) <= 9223372036854775807 := by omega
   have k3 : s.s.length + (T.length + (N.length + 1 + 1 + 1 + 1 + 1 + 1 + 1) + 1) <= 9223372036854775800 := by omega
   by_cases h0 : s.rs.length = 0
   . have hb1 := hb0 h0
     rw [h0, hdN_z, bkN_z]
     simp
     refine CLa c5 ?_
     simp [splice]
     refine CLa c8 ?_
     simp [k1]
     refine pw_drawW [] (by kernel_rfl) ?_
     simp [inC, Nat.testBit, l1, l3]
     refine CLa c7 ?_
     simp [splice, repl, inC, Nat.testBit]
     refine CLb (c6) (by simp [hb1, inC, Nat.testBit]) ?_
     simp [l4, k2, k3]
     apply RZ
     simp [results18, sheetB, brokenB]
   . rw [hdN_n h0, bkN_n h0]
     simp
     refine CLa c5 ?_
     simp [splice]
     refine CLa c8 ?_
     simp [k1]
     refine pw_drawW [(9, 0)] (by kernel_rfl) ?_
     simp [inC, Nat.testBit, l1, l3]
     refine CLa c7 ?_
     simp [splice, repl, inC, Nat.testBit, hsl, hwh, n1, n2]
     refine CLb (c6) (by simp [hb, inC, Nat.testBit]) ?_
     simp [l4, k2, k3]
     apply RZ
     simp [results18, sheetB, brokenB]
end Go.Proofs.Tryz
namespace Go.Log
theorem fieldsGoD_mem : ∀ (f : Nat) (cur l x : By), x ∈ Go.Lib.fieldsGoD f cur l -> x.length <= cur.length + l.length
 | 0, cur, l, x, h => by
   unfold Go.Lib.fieldsGoD at h
   first | (simp at h; done) | (simp at h; subst h; omega) | (split at h <;> simp at h <;> first | (subst h; omega))
 | f + 1, cur, l, x, h => by
   unfold Go.Lib.fieldsGoD at h
   split at h
   . split at h
     . cases h
     . simp at h; subst h; omega
   . split at h
     . rcases List.mem_append.1 h with h | h
       . split at h
         . cases h
         . simp at h; subst h; omega
       . have := fieldsGoD_mem f [] _ x h
         simp at this
         omega
     . have := fieldsGoD_mem f _ _ x h
       simp at this
       omega
theorem fieldsD_mem {l x : By} (h : x ∈ Go.Lib.fieldsD l) : x.length <= l.length := by
 have := fieldsGoD_mem _ _ _ x h
 simpa using this
end Go.Log
namespace Go.Proofs.Tryz
open Go.Psl
open Go.Log
theorem split10 (s : By) (hs : s.length <= 1000000000) : Ct prog 42 [vS s, vS [10]] (.d (strsD (splC 10 s))) [] := by
 have h := fn42 s [10] (by omega) (by simp)
 have e0 : (Go.Lib.splitB (bs [10]) 0 (Go.Lib.countB (bs s) (bs [10])) (bs s)).map (fun x => x.data.toList) = splC 10 s := by
   rw [Go.Lib.splitB_data]
   exact splitC_eq 10 s
 have e : fcel strL (splC 10 s) = (Go.Lib.splitB (bs [10]) 0 (Go.Lib.countB (bs s) (bs [10])) (bs s)).map fun x => V.d (.lit (.string x)) := by
   rw [<- e0, <- strsV_eq]
   unfold strsV
   rw [List.map_map]
   refine List.map_congr_left fun x _ => ?_
   show V.d (.lit (.string (bs x.data.toList))) = _
   rw [bs_data]
 rw [<- e] at h
 have e2 : (Go.Lib.splitB (bs [10]) 0 (Go.Lib.countB (bs s) (bs [10])) (bs s)).length = (splC 10 s).length := by rw [<- e0, List.length_map]
 rw [e2] at h
 exact Cm.freeze h (bor_fcel (f := strL) hfs (l := splC 10 s) (by simp))
end Go.Proofs.Tryz
namespace Go.Log
def rowF (f : By -> Int) (q : List By) : Row := ⟨q[0]?.getD [], ⟨f (q[1]?.getD []), f (q[2]?.getD []), f (q[3]?.getD []), f (q[4]?.getD [])⟩⟩
def midL (l : List By) : List By := (l.take (l.length - 3)).drop 1
theorem midL_len (l : List By) : (midL l).length = l.length - 3 - 1 := by simp [midL]
theorem midL_mem {l : List By} {x : By} (h : x ∈ midL l) : x ∈ l := List.mem_of_mem_take (List.mem_of_mem_drop h)
end Go.Log
namespace Go.Proofs.Tryz
open Go.Psl
open Go.Log
def rwP (M : List By) (i : Nat) : List Row := (M.take i).map fun x => rowF numA (Go.Lib.fieldsD x)
theorem rwP_succ {M : List By} {i : Nat} {x : By} (h : M[i]? = some x) : rwP M (i + 1) = rwP M i ++ [rowF numA (Go.Lib.fieldsD x)] := by
 unfold rwP
 rw [List.take_add_one, h]; simp
theorem rwP_len {M : List By} {i : Nat} (h : i <= M.length) : (rwP M i).length = i := by unfold rwP; simp; omega
theorem rw_one (c : Row) : fcel rowL [c] = [vS c.n, vi c.l.al, vi c.l.ah, vi c.l.wl, vi c.l.wh] := rfl
theorem five_of {f : List By} (h : f.length = 5) : ∃ a b c d e, f = [a, b, c, d, e] := by
 match f, h with
 | [a, b, c, d, e], _ => exact ⟨a, b, c, d, e, rfl⟩
theorem rsh_run (t sh : By) (M : List By) (ls : List Lim) (hn : M.length <= 1000000) (hm : ∀ x ∈ M, x.length <= 1000000) (E : Ent) (hE : ∀ i, ¬ E.stab i) (Q : AExit -> St -> Prop) (st : St)
   (hw : Weak prog E st ⟨slots [(0, vS t), (1, .d (lmsD ls)), (4, .lp 1 0), (8, .lp 2 0), (44, .d (strsD M)), (45, vi M.length), (46, vi (0 : Nat))], lk (bkN 0 (fcel rowL (rwP M 0)) ++ [(1, [vS [], .d (.lit (.slice none 0 0))]), (2, [vS sh, hdN 0 5])]), 3⟩)
   (hC : (∀ x ∈ M, (Go.Lib.fieldsD x).length = 5) -> Q (.exit 0) ⟨slots [(0, vS t), (1, .d (lmsD ls)), (4, .lp 1 0), (8, .lp 2 0)], lk (bkN M.length (fcel rowL (rwP M M.length)) ++ [(1, [vS [], .d (.lit (.slice none 0 0))]), (2, [vS sh, hdN M.length 5])]), 3⟩)
   (hX : ∀ x, x ∈ M -> (Go.Lib.fieldsD x).length ≠ 5 -> ∀ f H n, f 4 = .lp 1 0 -> f 5 = vi 94 -> H 1 = some [vS [], .d (.lit (.slice none 0 0))] -> Q .ret ⟨f, H, n⟩) :
   PW prog tys eqs E (.loop p20l0) Q st := by
 refine pw_loopC (α := Nat) 0 (fun _ : Unit => ⟨slots [(0, vS t), (1, .d (lmsD ls)), (4, .lp 1 0), (8, .lp 2 0)], lk (bkN M.length (fcel rowL (rwP M M.length)) ++ [(1, [vS [], .d (.lit (.slice none 0 0))]), (2, [vS sh, hdN M.length 5])]), 3⟩) (fun _ => ∀ x ∈ M, (Go.Lib.fieldsD x).length = 5)
   (fun i => ⟨slots [(0, vS t), (1, .d (lmsD ls)), (4, .lp 1 0), (8, .lp 2 0), (44, .d (strsD M)), (45, vi M.length), (46, vi i)], lk (bkN i (fcel rowL (rwP M i)) ++ [(1, [vS [], .d (.lit (.slice none 0 0))]), (2, [vS sh, hdN i 5])]), 3⟩) (fun i => i <= M.length /\ ∀ j, j < i -> (M[j]?).all (fun x => decide ((Go.Lib.fieldsD x).length = 5)) = true) (fun i => M.length - i) 0 ⟨by omega, fun j hj => by omega⟩ hw ?_ (fun _ h => hC h)
 rintro i ⟨hi, hg⟩
 have hz := @wz i (by omega)
 by_cases h : i < M.length
 . obtain ⟨y, hy⟩ := gE h
   have hI : (i : Int) < M.length := by omega
   have hym := List.mem_of_getElem? hy
   have c1 := fn66 y (hm y hym)
   by_cases h5 : (Go.Lib.fieldsD y).length = 5
   . have hgn : ∀ j, j < i + 1 -> (M[j]?).all (fun x => decide ((Go.Lib.fieldsD x).length = 5)) = true := fun j hj => by
       by_cases e : j = i
       . subst e; rw [hy]; simp [h5]
       . exact hg j (by omega)
     have hfm : ∀ x ∈ Go.Lib.fieldsD y, x.length <= 1000000000 := fun x hx => by
       have := fieldsD_mem hx
       have := hm y hym
       omega
     obtain ⟨a, b, c, d, e, hf⟩ := five_of h5
     have hrw : rowF numA (Go.Lib.fieldsD y) = ⟨a, ⟨numA b, numA c, numA d, numA e⟩⟩ := by rw [hf]; rfl
     have hsucc := rwP_succ hy
     rw [hrw] at hsucc
     rw [hf] at c1 hfm
     have d1 := fn43 b (hfm b (by simp))
     have d2 := fn43 c (hfm c (by simp))
     have d3 := fn43 d (hfm d (by simp))
     have d4 := fn43 e (hfm e (by simp))
     clear hf hfm hrw h5
     by_cases h0 : i = 0
     . have e3 : hdN i 5 = .d (.lit (.slice none 0 0)) := by rw [h0]; rfl
       have e4 : bkN i (fcel rowL (rwP M i)) = [] := by rw [h0]; rfl
       have e5 : rwP M i = [] := by rw [h0]; rfl
       have e6 : i + 1 = 1 := by omega
       have e7 : (i : Int) + 1 = 1 := by omega
       rw [e3, e4]
       simp [p20l0, hI, hy]
       refine CLa c1 ?_
       simp [inC, Nat.testBit]
       refine CLa d1 ?_
       simp [inC, Nat.testBit]
       refine CLa d2 ?_
       simp [splice, inC, Nat.testBit]
       refine CLa d3 ?_
       simp [inC, Nat.testBit]
       refine CLa d4 ?_
       simp [splice, repl, hz]
       refine ⟨i + 1, ⟨by omega, hgn⟩, by omega, ?_⟩
       rw [hdN_n (by omega), bkN_n (by omega), hsucc, e5]
       refine Weak.mk hE (lk [(0, 37748739), (1, 1), (2, 2)]) _ _ _ ?_ ?_ ?_ ?_ ?_ <;> simp [rw_one, e6, e7]
     . have e2 : i + 1 ≠ 0 := by omega
       have hsl := fcel_len hfr (rwP M i)
       have hwh := fcel_whole hfr (rwP M i)
       rw [rwP_len hi] at hsl hwh
       have n1 : (i + 1) * 48 <= 140737488355328 := by omega
       have n2 : i <= 9223372036854775806 := by omega
       rw [hdN_n h0, bkN_n h0]
       simp [p20l0, hI, hy]
       refine CLa c1 ?_
       simp [inC, Nat.testBit]
       refine CLa d1 ?_
       simp [inC, Nat.testBit]
       refine CLa d2 ?_
       simp [splice, inC, Nat.testBit]
       refine CLa d3 ?_
       simp [inC, Nat.testBit]
       refine CLa d4 ?_
       simp [splice, repl, hz, hsl, hwh, n1, n2]
       refine ⟨i + 1, ⟨by omega, hgn⟩, by omega, ?_⟩
       rw [hdN_n e2, bkN_n e2, hsucc]
       refine Weak.mk hE (lk [(0, 37748739), (1, 1), (2, 2)]) _ _ _ ?_ ?_ ?_ ?_ ?_ <;> simp [fcel_one]
   . have h5' : ¬ ((Go.Lib.fieldsD y).length : Int) = 5 := by omega
     have hq := hX y hym h5
     generalize Go.Lib.fieldsD y = F at c1 h5 h5'
     by_cases h0 : i = 0
     . have e3 : hdN i 5 = .d (.lit (.slice none 0 0)) := by rw [h0]; rfl
       have e4 : bkN i (fcel rowL (rwP M i)) = [] := by rw [h0]; rfl
       rw [e3, e4]
       simp [p20l0, hI, hy]
       refine CLa c1 ?_
       simp [h5']
       exact hq _ _ _ (by simp) (by simp) (by simp [splice])
     . rw [hdN_n h0, bkN_n h0]
       simp [p20l0, hI, hy]
       refine CLa c1 ?_
       simp [h5']
       exact hq _ _ _ (by simp) (by simp) (by simp [splice])
 . have hI : ¬ (i : Int) < M.length := by omega
   obtain rfl : i = M.length := by omega
   have hall : ∀ x ∈ M, (Go.Lib.fieldsD x).length = 5 := fun x hx => by
     obtain ⟨j, hj⟩ := List.getElem?_of_mem hx
     have := hg j (List.getElem?_eq_some_iff.1 hj).1
     rw [hj] at this
     simpa using this
   by_cases h0 : M.length = 0
   . rw [h0, hdN_z, bkN_z]
     simp [p20l0, exC_exit, h0]
     refine ⟨hall, ?_⟩
     exact WK hE (lk [(1, 1), (2, 2)])
   . rw [hdN_n h0, bkN_n h0]
     simp [p20l0, exC_exit]
     refine ⟨hall, ?_⟩
     exact WK hE (lk [(0, 0), (1, 1), (2, 2)])
end Go.Proofs.Tryz
namespace Go.Log
def zSh : Sht := ⟨[], []⟩
end Go.Log
namespace Go.Proofs.Tryz
open Go.Psl
open Go.Log
def rdSh (t : By) : Sht := ⟨Go.Lib.trimPrefix ((splC 10 t).headD []) sheetB, rwP (midL (splC 10 t)) (midL (splC 10 t)).length⟩
def fiveB (t : By) : Bool := (midL (splC 10 t)).all fun x => decide ((Go.Lib.fieldsD x).length = 5)
def readP (t : By) (ls : List Lim) : Sht × Int :=
 if chkLms ls ≠ 0 then (zSh, chkLms ls) else if 40000 < t.length then (zSh, 4) else
 if (splC 10 t).length < 4 \/ 44 < (splC 10 t).length then (zSh, 94) else
 if fiveB t = false then (zSh, 94) else if (writeSh (rdSh t) ls).2 = 0 /\ (writeSh (rdSh t) ls).1 = t then (rdSh t, 0) else (zSh, 94)
abbrev rshV (r : Sht × Int) : V := .tup [.agg [vS r.1.s, hdN r.1.rs.length 5], vi r.2]
abbrev rshB (r : Sht × Int) : List (Nat × List V) := bkN r.1.rs.length (fcel rowL r.1.rs)
theorem rsh_ids (r : Sht × Int) : ResIds (rshV r) (rshB r) := by
 unfold rshV rshB hdN bkN
 split <;> simp [ResIds]
theorem rsh_zero (e : Int) : rshV (zSh, e) = .tup [.agg [vS [], .d (.lit (.slice none 0 0))], vi e] /\ rshB (zSh, e) = [] := ⟨rfl, rfl⟩
theorem all_bad' {M : List By} {x : By} (hx : x ∈ M) (h : (Go.Lib.fieldsD x).length ≠ 5) : (M.all fun x => decide ((Go.Lib.fieldsD x).length = 5)) = false :=
 List.all_eq_false.2 ⟨x, hx, by simp [h]⟩
theorem rsh_raw (t : By) (ls : List Lim) (hn : ls.length <= 1000000) (ht : t.length <= 1000000) : Ct prog 20 [vS t, .d (lmsD ls)] (rshV (readP t ls)) (rshB (readP t ls)) := by
 have c1 := fn57 ls hn
 by_cases h1 : chkLms ls = 0
 case neg =>
   have er : readP t ls = (zSh, chkLms ls) := by simp [readP, h1]
   rw [er, (rsh_zero _).1, (rsh_zero _).2]
   refine CB func20 c20 fun E hE => ?_
   simp [p20]
   refine CLa c1 ?_
   simp [h1]
   apply RZ
   simp [results20, splice]
 rw [h1] at c1
 by_cases h2 : 40000 < t.length
 . have er : readP t ls = (zSh, 4) := by simp [readP, h1, h2]
   have h2' : (40000 : Int) < t.length := by omega
   rw [er, (rsh_zero _).1, (rsh_zero _).2]
   refine CB func20 c20 fun E hE => ?_
   simp [p20]
   refine CLa c1 ?_
   simp [h2']
   apply RZ
   simp [results20, splice]
 have h2' : ¬ (40000 : Int) < t.length := by omega
 have c2 := split10 t (by omega)
 have hsl := splC_len 10 t
 have hsm : ∀ x ∈ splC 10 t, x.length <= 1000000 := fun x hx => by have := splC_mem (c := 10) (s := t) (x := x) hx; omega
 by_cases h3 : (splC 10 t).length < 4 \/ 44 < (splC 10 t).length
 . have er : readP t ls = (zSh, 94) := by simp [readP, h1, h2, h3]
   rcases h3 with h3 | h3
   . have h3' : ((splC 10 t).length : Int) < 4 := by omega
     generalize splC 10 t = L at c2 h3' h3
     rw [er, (rsh_zero _).1, (rsh_zero _).2]
     refine CB func20 c20 fun E hE => ?_
     simp [p20]
     refine CLa c1 ?_
     simp [h2']
     refine CLa c2 ?_
     simp [h3']
     apply RZ
     simp [results20, splice]
   . have h3' : ¬ ((splC 10 t).length : Int) < 4 := by omega
     have h4' : (44 : Int) < (splC 10 t).length := by omega
     generalize splC 10 t = L at c2 h3' h4' h3
     rw [er, (rsh_zero _).1, (rsh_zero _).2]
     refine CB func20 c20 fun E hE => ?_
     simp [p20]
     refine CLa c1 ?_
     simp [h2']
     refine CLa c2 ?_
     simp [h3', h4']
     apply RZ
     simp [results20, splice]
 simp only [not_or, Nat.not_lt] at h3
 obtain ⟨x0, hx0⟩ : ∃ x0, (splC 10 t)[0]? = some x0 := ⟨_, List.getElem?_eq_getElem (by omega)⟩
 have hsh : rdSh t = ⟨Go.Lib.trimPrefix x0 sheetB, rwP (midL (splC 10 t)) (midL (splC 10 t)).length⟩ := by
   unfold rdSh
   rw [List.headD_eq_head?_getD, List.head?_eq_getElem?, hx0]
   rfl
 have c3 := fn65 x0 [83, 72, 69, 69, 84, 32]
 have h4' : ¬ ((splC 10 t).length : Int) < 4 := by omega
 have h5' : ¬ (44 : Int) < (splC 10 t).length := by omega
 have hMl := midL_len (splC 10 t)
 have hMm : ∀ x ∈ midL (splC 10 t), x.length <= 1000000 := fun x hx => hsm x (midL_mem hx)
 have hx0l := hsm x0 (List.mem_of_getElem? hx0)
 have hM0 : List.drop 1 (List.take ((splC 10 t).length - 3) (List.map strL (splC 10 t))) = (midL (splC 10 t)).map strL := by
   unfold midL; rw [List.map_drop, List.map_take]
 have hfv : fiveB t = (midL (splC 10 t)).all fun x => decide ((Go.Lib.fieldsD x).length = 5) := rfl
 have her : fiveB t = false -> readP t ls = (zSh, 94) := fun h => by
   have h3' : ¬ ((splC 10 t).length < 4 \/ 44 < (splC 10 t).length) := by omega
   simp [readP, h1, h2, h3', h]
 have heq : fiveB t = true -> readP t ls = if (writeSh (rdSh t) ls).2 = 0 /\ (writeSh (rdSh t) ls).1 = t then (rdSh t, 0) else (zSh, 94) := fun h => by
   have h3' : ¬ ((splC 10 t).length < 4 \/ 44 < (splC 10 t).length) := by omega
   simp [readP, h1, h2, h3', h]
 have w3 : IntKind.wrap .i64 (((splC 10 t).length : Int) - 3) = (((splC 10 t).length - 3 : Nat) : Int) := by rw [wrap64 (by omega) (by omega)]; omega
 generalize hN : (splC 10 t).length - 3 = N at hMl hM0 w3
 have m1 : (1 : Int) <= (N : Int) := by omega
 have m2 : (N : Int) <= (splC 10 t).length := by omega
 have m3 : N <= (splC 10 t).length := by omega
 have m4 : 1 <= N := by omega
 rw [hfv] at her heq
 generalize midL (splC 10 t) = M at *
 have hMn : M.length <= 100 := by omega
 generalize rdSh t = S at hsh heq
 refine Ct.by gok eok mixed func20 c20 rfl (by simp [ntmps20]) (by simp) (rsh_ids _) fun E hE => ?_
 simp [p20]
 refine CLa c1 ?_
 simp [h2']
 refine CLa c2 ?_
 simp [h4', h5', hx0]
 refine CLa c3 ?_
 simp [splice, w3, m1, m2, hM0]
 have hlen : (Go.Lib.trimPrefix x0 [83, 72, 69, 69, 84, 32]).length <= 1000000 := by
   unfold Go.Lib.trimPrefix
   split
   . rw [List.length_drop]; omega
   . exact hx0l
 change S = ⟨Go.Lib.trimPrefix x0 [83, 72, 69, 69, 84, 32], _⟩ at hsh
 generalize Go.Lib.trimPrefix x0 [83, 72, 69, 69, 84, 32] = sh at hsh hlen ⊢
 refine rsh_run t sh M ls (by omega) hMm E hE _ _ ?_ ?_ ?_
 . rw [hdN_z, bkN_z]
   exact WK hE (lk [(1, 0), (2, 27262976)])
 . intro hall
   have hall' : (M.all fun x => decide ((Go.Lib.fieldsD x).length = 5)) = true := List.all_eq_true.2 fun x hx => decide_eq_true (hall x hx)
   have he := heq hall'
   have hsz : SizedS S := by
     rw [hsh]
     refine ⟨hlen, ?_, fun r hr => ?_⟩
     . show (rwP M M.length).length <= 1000000
       rw [rwP_len (Nat.le_refl _)]; omega
     . obtain ⟨x, hx, rfl⟩ := List.mem_map.1 hr
       have hxM := List.mem_of_mem_take hx
       show ((Go.Lib.fieldsD x)[0]?.getD []).length <= 1000000
       cases hf : (Go.Lib.fieldsD x)[0]? with
       | none => simp
       | some y =>
         have h1 := fieldsD_mem (List.mem_of_getElem? hf)
         have h2 := hMm x hxM
         simp only [Option.getD_some]
         omega
   have c5 := fn18 S hsz ls hn
   have hRl := rwP_len (Nat.le_refl M.length)
   have hS1 : S.s = sh := by rw [hsh]
   have hS2 : S.rs = rwP M M.length := by rw [hsh]
   have hSn : S.rs.length = M.length := by rw [hS2, hRl]
   rw [<- hS2, <- hSn]
   have hv : rshV (S, 0) = .tup [.agg [vS sh, hdN S.rs.length 5], vi 0] := by show V.tup [.agg [vS S.s, _], _] = _; rw [hS1]
   have hw : rshB (S, 0) = bkN S.rs.length (fcel rowL S.rs) := rfl
   have hbr : ∀ H : Hp, H 0 = some (fcel rowL S.rs) -> Bor1 H (.ls 0 0 S.rs.length 5) (.d (rowsD S.rs)) := fun H hh => bor_fcel (f := rowL) hfr (l := S.rs) hh
   rw [show shtV S = .agg [vS sh, .d (rowsD S.rs)] by rw [<- hS1]] at c5
   generalize (writeSh S ls).1 = T at c5 he
   generalize (writeSh S ls).2 = e at c5 he
   generalize S.rs = R at *
   by_cases g1 : e = 0
   . by_cases g2 : T = t
     . rw [if_pos ⟨g1, g2⟩] at he
       rw [he, hv, hw]
       subst g1 g2
       by_cases h0 : R.length = 0
       . obtain rfl : R = [] := List.length_eq_zero_iff.1 h0
         rw [List.length_nil, hdN_z, bkN_z]
         simp
         refine CLa c5 ?_
         simp [splice]
         apply RZ
         simp [results20]
       . rw [hdN_n h0, bkN_n h0]
         simp
         refine CLb (c5) (by simp [hbr]) ?_
         simp [splice]
         refine RetOk.by (lk [(0, 0)]) ?_
         simp [results20]
     . rw [if_neg fun h => g2 h.2] at he
       rw [he, (rsh_zero _).1, (rsh_zero _).2]
       subst g1
       by_cases h0 : R.length = 0
       . obtain rfl : R = [] := List.length_eq_zero_iff.1 h0
         rw [List.length_nil, hdN_z, bkN_z]
         simp
         refine CLa c5 ?_
         simp [splice, bs_bne, g2]
         apply RZ
         simp [results20]
       . rw [hdN_n h0, bkN_n h0]
         simp
         refine CLb (c5) (by simp [hbr]) ?_
         simp [splice, bs_bne, g2]
         apply RZ
         simp [results20]
   . rw [if_neg fun h => g1 h.1] at he
     rw [he, (rsh_zero _).1, (rsh_zero _).2]
     by_cases h0 : R.length = 0
     . obtain rfl : R = [] := List.length_eq_zero_iff.1 h0
       rw [List.length_nil, hdN_z, bkN_z]
       simp
       refine CLa c5 ?_
       simp [splice, g1]
       apply RZ
       simp [results20]
     . rw [hdN_n h0, bkN_n h0]
       simp
       refine CLb (c5) (by simp [hbr]) ?_
       simp [splice, g1]
       apply RZ
       simp [results20]
 . intro x hx h5 f H n q1 q2 q3
   have hb := her (all_bad' hx h5)
   rw [hb, (rsh_zero _).1, (rsh_zero _).2]
   apply RZ
   simp [results20, q1, q2, q3]
end Go.Proofs.Tryz
namespace Go.Psl
variable {P : Program} {E : Ent}
theorem Weak.trans {a b c : St} (h : Weak P E a b) (g : Weak P E b c) : Weak P E a c := fun G x W hI => by
 obtain ⟨G', h'⟩ := h G x W hI
 exact g G' x W h'
def FzK (H : Hp) (v c : V) : Prop := v = c \/ FzC H v c
theorem FzK.one {G : Gh} {W : World} {H : Hp} (hB : ∀ id cs, H id = some cs -> HB G W id cs) (hin : Into (fun _ => True) anyD (fun i => i) G W { G with Im := fzIm G H } W) {v c : V} {x : Value} (h : FzK H v c) (ha : A1 (fun _ => True) anyD v) (hx : R1 G W v x) : R1 { G with Im := fzIm G H } W c x := by
 rcases h with rfl | ⟨y, rfl, hy⟩
 . exact hin.s1 ha hx
 . exact R0.r1 (fz0 hB hy (R2.rv (R1.r2 hx)))
end Go.Psl
namespace Go.Log
end Go.Log
namespace Go.Proofs.Tryz
open Go.Psl
open Go.Log
theorem fn20 (t : By) (ls : List Lim) (hn : ls.length <= 1000000) (ht : t.length <= 1000000) : Ct prog 20 [vS t, .d (lmsD ls)] (.tup [shtV (readP t ls).1, vi (readP t ls).2]) [] := by
 refine Cm.freeze (rsh_raw t ls hn ht) ?_
 generalize readP t ls = r
 obtain ⟨⟨s, R⟩, e⟩ := r
 show Fz (lk (bkN R.length (fcel rowL R))) (.tup [.agg [vS s, hdN R.length 5], vi e]) (.tup [.agg [vS s, .d (rowsD R)], vi e])
 by_cases h0 : R.length = 0
 . obtain rfl : R = [] := List.length_eq_zero_iff.1 h0
   exact ⟨⟨⟨_, rfl, .inl rfl⟩, ⟨_, rfl, .inr ⟨rfl, _, rfl⟩⟩, trivial⟩, .inl rfl, trivial⟩
 . rw [hdN_n h0, bkN_n h0]
   exact ⟨⟨⟨_, rfl, .inl rfl⟩, ⟨_, rfl, bor_fcel (f := rowL) hfr (l := R) (by simp)⟩, trivial⟩, .inl rfl, trivial⟩
end Go.Proofs.Tryz
namespace Go.Proofs.Tryz
open Go.Psl
open Go.Log
theorem fn24 (s : Sht) (hn : s.rs.length <= 1000000) : Ct prog 24 [shtV s, shtV s] (vb true) [] := by
 refine CB func24 c24 fun E hE => ?_
 simp [p24]
 refine pw_loop (α := Nat) (fun i => ⟨slots [(2, .lp 0 0), (3, .lp 1 0), (5, vi i)], lk [(0, [vS s.s, .d (rowsD s.rs)]), (1, [vS s.s, .d (rowsD s.rs)])], 2⟩) (fun i => i <= s.rs.length) (fun i => s.rs.length - i) 0 ?_ ?_ ?_
 . omega
 . exact WK hE (lk [(0, 0), (1, 1048576)])
 . intro i hi
   by_cases h : i < s.rs.length
   . obtain ⟨x, hx⟩ := gE h
     have hz := @wz i (by omega)
     have hI : (i : Int) < s.rs.length := by omega
     simp [p24l0, hI, hx, inC, Nat.testBit, hz]
     refine ⟨i + 1, by omega, by omega, ?_⟩
     exact WK hE (lk [(0, 0), (1, 1)])
   . have hI : ¬ (i : Int) < s.rs.length := by omega
     simp [p24l0, hI]
     apply RZ
     simp [results24]
end Go.Proofs.Tryz
namespace Go.Log
theorem linesOf_line {x r : By} (h : noB 10 x) : linesOf (x ++ [10] ++ r) = (x ++ [10]) :: linesOf r := by
 induction x with
 | nil => simp [linesOf]
 | cons a x ih =>
   have ha : a ≠ 10 := h a (by simp)
   have hx : noB 10 x := fun b hb => h b (by simp [hb])
   simp only [List.cons_append]
   rw [linesOf_cons, if_neg ha, ih hx]
theorem chop_line (x : By) : chopS (x ++ [10]) = x := by simp [chopS]
theorem noB_lit {c : UInt8} {s : By} (h : s.all (fun b => b != c) = true) : noB c s := fun b hb => by
 have := List.all_eq_true.1 h b hb
 simpa using this
theorem noB_app {c : UInt8} {x y : By} (h : noB c x) (h2 : noB c y) : noB c (x ++ y) := fun b hb => by
 rcases List.mem_append.1 hb with hb | hb
 . exact h b hb
 . exact h2 b hb
end Go.Log
