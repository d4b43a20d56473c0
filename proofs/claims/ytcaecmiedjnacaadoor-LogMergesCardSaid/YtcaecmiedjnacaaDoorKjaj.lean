/- Own lemmas, used by the last text. Conditions: those that each theorem states. -/
import Derived.Test.YtcaecmiedjnacaaDoorKjae
import Derived.Test.YtcaecmiedjnacaaDoorKjaf
import Derived.Test.YtcaecmiedjnacaaDoorKjag
import Derived.Test.YtcaecmiedjnacaaDoorKjah
import Derived.Test.YtcaecmiedjnacaaDoorKjai
set_option maxRecDepth 200000
set_option maxHeartbeats 8000000
namespace Go.Proofs.Tryd
open Go.Psl
open Go.Log
theorem hfe4 : ∀ x : Etr, (entL x).length = 4 := fun _ => rfl
theorem hfi1 : ∀ x : Int, (intL x).length = 1 := fun _ => rfl
theorem all2_refl {α : Type} {R : α -> α -> Prop} (h : ∀ a, R a a) : ∀ l : List α, All2 R l l
 | [] => trivial
 | a :: l => ⟨h a, all2_refl h l⟩
theorem all2_put {R : V -> V -> Prop} (h : ∀ a, R a a) {v c : V} (hv : R v c) : ∀ {cs : List V} {o : Nat}, cs[o]? = some c -> All2 R (cs.take o ++ v :: cs.drop (o + 1)) cs
 | [], o, hc => by simp at hc
 | a :: cs, 0, hc => by
   simp at hc
   subst hc
   exact ⟨hv, all2_refl h cs⟩
 | a :: cs, o + 1, hc => ⟨h a, all2_put h hv (cs := cs) (o := o) (by simpa using hc)⟩
theorem fn6 (l : Lg) (hl : l.es.length <= 1000000) (ha : ∀ x ∈ l.es, x.a.length <= 1000000) : Ct prog 6 [logV l] (.agg [vS l.s, .ls 0 0 l.es.length 4]) [(0, fcel entL l.es)] := by
 have hres : ∀ (E : List (Nat × List V)), E = [(0, fcel entL l.es)] -> ResIds (.agg [vS l.s, .ls 0 0 l.es.length 4]) E := fun E hE => by
   subst hE
   refine ⟨by simp, ?_⟩
   intro q hq c hc
   simp only [List.mem_cons, List.not_mem_nil, or_false] at hq
   subst hq
   obtain ⟨d, _, rfl⟩ := List.mem_map.1 (show c ∈ List.map V.d (List.map entL l.es).flatten from hc)
   trivial
 refine Ct.by gok eok mixed func6 c6 rfl (by simp [ntmps6]) (by simp) (hres _ rfl) fun E hE => ?_
 by_cases h0 : l.es = []
 . have e1 : entsD l.es = .sl 4 [] := by rw [h0]; rfl
   have e2 : fcel entL l.es = [] := by rw [h0]; rfl
   have e3 : l.es.length = 0 := by rw [h0]; rfl
   have eV : logV l = .agg [vS l.s, .d (.sl 4 [])] := by rw [<- e1]
   rw [eV]
   simp [p6, repl]
   refine pw_loop (α := Nat) (fun i => ⟨slots [(1, .lp 0 0), (2, .lp 1 0), (3, .ls 2 0 l.es.length 4), (4, vi i)], lk [(0, [vS l.s, .d (entsD l.es)]), (1, [vS [], .d (.lit (.slice none 0 0))]), (2, fcel entL l.es)], 3⟩) (fun i => i <= l.es.length) (fun i => l.es.length - i) 0 ?_ ?_ ?_
   . omega
   . refine Weak.mk hE (lk [(0, 0), (1, 1048576), (2, 5242880)]) _ _ _ ?_ ?_ ?_ ?_ ?_ <;> simp [e1, e2, e3]
   . intro i hi
     have hz := @wz i (by omega)
     by_cases h : i < l.es.length
     . obtain ⟨x, hx⟩ := gE h
       have hI : (i : Int) < l.es.length := by omega
       have hsl := fcel_len hfe4 l.es
       have s0 : i * 4 + 2 + 1 <= l.es.length * 4 := by omega
       have t10 : List.take 1 (List.drop (i * 4 + 2) (fcel entL l.es)) = [.d (intsD x.a)] := fcel_sub hfe4 (x := x) (j := 2) (k := 1) hx (by omega)
       have hcell : (fcel entL l.es)[i * 4 + 2]? = some (.d (intsD x.a)) := fcel_cellat hfe4 (x := x) (j := 2) hx rfl
       have hxa := ha x (List.mem_of_getElem? hx)
       by_cases ha0 : x.a = []
       . rw [show intsD x.a = .sl 1 [] by rw [ha0]; rfl] at t10 hcell
         simp [p6l0, hI, splice, repl, hsl, s0, t10, hz]
         refine ⟨i + 1, by omega, by omega, ?_⟩
         refine Weak.trans (Weak.frzR [12582915] (m := [(1, .lp 0 0), (2, .lp 1 0), (3, .ls 2 0 l.es.length 4), (4, vi (i + 1 : Nat))]) (h := [(0, [vS l.s, .d (entsD l.es)]), (1, [vS [], .d (.lit (.slice none 0 0))]), (2, fcel entL l.es)]) hE ?_ ?_) ?_
         . intro p hp
           simp only [List.mem_cons, List.not_mem_nil, or_false] at hp
           rcases hp with rfl | rfl | rfl | rfl
           . exact .inr (.inl (by simp))
           . exact .inr (.inl (by simp))
           . exact .inr (.inl (by simp))
           . exact .inr (.inl (by simp))
         . intro p hp
           simp only [List.mem_cons, List.not_mem_nil, or_false] at hp
           rcases hp with rfl | rfl | rfl
           . exact ⟨by simp, _, by simp, all2_refl (fun _ => .inl rfl) _⟩
           . exact ⟨by simp, _, by simp, all2_refl (fun _ => .inl rfl) _⟩
           . refine ⟨by simp, (fcel entL l.es).take (i * 4 + 2) ++ .ls 12582915 0 0 1 :: (fcel entL l.es).drop (i * 4 + 2 + 1), by simp, all2_put (fun _ => .inl rfl) (.inr ⟨_, rfl, ?_⟩) hcell⟩
             exact ⟨rfl, rfl, by simp, [], by simp [hpOf], by simp⟩
         . exact WK hE (lk [(0, 0), (1, 1), (2, 2)])
       . obtain ⟨b, u, e⟩ := List.exists_cons_of_ne_nil ha0
         have hmx2 : (u.length + 1) * 8 <= 140737488355328 /\ u.length + 1 <= 9223372036854775807 := by rw [e] at hxa; simp at hxa; omega
         have ee2 : intsD x.a = .sl 1 (intL b :: u.map intL) := by rw [e]; rfl
         have ef2 : (u.map (List.map V.d ∘ intL)).flatten = fcel intL u := by simp [fcel, List.map_flatten]
         have hcl2 : (∀ x ∈ fcel intL u, x.isCell = true) = True := eq_true fcel_cell
         rw [ee2] at t10 hcell
         simp [p6l0, hI, splice, repl, hsl, s0, t10, hz, ef2, hcl2, hmx2]
         have efa : V.d (di b) :: fcel intL u = fcel intL x.a := by rw [e, fcel_cons]; rfl
         have hxl : x.a.length = u.length + 1 := by rw [e]; simp
         rw [<- ee2] at hcell
         rw [efa, <- hxl]
         refine ⟨i + 1, by omega, by omega, ?_⟩
         refine Weak.trans (Weak.frzR [12582915] (m := [(1, .lp 0 0), (2, .lp 1 0), (3, .ls 2 0 l.es.length 4), (4, vi (i + 1 : Nat))]) (h := [(0, [vS l.s, .d (entsD l.es)]), (1, [vS [], .d (.lit (.slice none 0 0))]), (2, fcel entL l.es)]) hE ?_ ?_) ?_
         . intro p hp
           simp only [List.mem_cons, List.not_mem_nil, or_false] at hp
           rcases hp with rfl | rfl | rfl | rfl
           . exact .inr (.inl (by simp))
           . exact .inr (.inl (by simp))
           . exact .inr (.inl (by simp))
           . exact .inr (.inl (by simp))
         . intro p hp
           simp only [List.mem_cons, List.not_mem_nil, or_false] at hp
           rcases hp with rfl | rfl | rfl
           . exact ⟨by simp, _, by simp, all2_refl (fun _ => .inl rfl) _⟩
           . exact ⟨by simp, _, by simp, all2_refl (fun _ => .inl rfl) _⟩
           . refine ⟨by simp, (fcel entL l.es).take (i * 4 + 2) ++ .ls 12582915 0 x.a.length 1 :: (fcel entL l.es).drop (i * 4 + 2 + 1), by simp, all2_put (fun _ => .inl rfl) (.inr ⟨_, rfl, ?_⟩) hcell⟩
             exact bor_fcel (f := intL) hfi1 (l := x.a) (by simp [hpOf])
         . exact WK hE (lk [(0, 0), (1, 1), (2, 2)])
     . have hI : ¬ (i : Int) < l.es.length := by omega
       have ei : i = l.es.length := by omega
       simp [p6l0, hI, splice]
       refine RetOk.by (lk [(0, 2)]) ?_
       simp [results6]
 . obtain ⟨a, t, e⟩ := List.exists_cons_of_ne_nil h0
   have hmx : (t.length + 1) * 64 <= 140737488355328 /\ t.length + 1 <= 9223372036854775807 := by rw [e] at hl; simp at hl; omega
   have ee : entsD l.es = .sl 4 (entL a :: t.map entL) := by rw [e]; rfl
   have ef : (t.map (List.map V.d ∘ entL)).flatten = fcel entL t := by simp [fcel, List.map_flatten]
   have hcl : (∀ x ∈ fcel entL t, x.isCell = true) = True := eq_true fcel_cell
   have eln : l.es.length = t.length + 1 := by rw [e]; simp
   have eV : logV l = .agg [vS l.s, .d (.sl 4 (entL a :: t.map entL))] := by rw [<- ee]
   rw [eV]
   simp [p6, repl, ef, hcl, hmx]
   have efl : fcel entL l.es = V.d (di a.t) :: vS a.w :: V.d (intsD a.a) :: vS a.n :: fcel entL t := by rw [e, fcel_cons]; rfl
   rw [<- efl]
   refine pw_loop (α := Nat) (fun i => ⟨slots [(1, .lp 0 0), (2, .lp 1 0), (3, .ls 2 0 l.es.length 4), (4, vi i)], lk [(0, [vS l.s, .d (entsD l.es)]), (1, [vS [], .d (.lit (.slice none 0 0))]), (2, fcel entL l.es)], 3⟩) (fun i => i <= l.es.length) (fun i => l.es.length - i) 0 ?_ ?_ ?_
   . omega
   . refine Weak.mk hE (lk [(0, 0), (1, 1048576), (2, 5242880)]) _ _ _ ?_ ?_ ?_ ?_ ?_ <;> simp [e, fcel_cons, hcl]
   . intro i hi
     have hz := @wz i (by omega)
     by_cases h : i < l.es.length
     . obtain ⟨x, hx⟩ := gE h
       have hI : (i : Int) < l.es.length := by omega
       have hsl := fcel_len hfe4 l.es
       have s0 : i * 4 + 2 + 1 <= l.es.length * 4 := by omega
       have t10 : List.take 1 (List.drop (i * 4 + 2) (fcel entL l.es)) = [.d (intsD x.a)] := fcel_sub hfe4 (x := x) (j := 2) (k := 1) hx (by omega)
       have hcell : (fcel entL l.es)[i * 4 + 2]? = some (.d (intsD x.a)) := fcel_cellat hfe4 (x := x) (j := 2) hx rfl
       have hxa := ha x (List.mem_of_getElem? hx)
       by_cases ha0 : x.a = []
       . rw [show intsD x.a = .sl 1 [] by rw [ha0]; rfl] at t10 hcell
         simp [p6l0, hI, splice, repl, hsl, s0, t10, hz]
         refine ⟨i + 1, by omega, by omega, ?_⟩
         refine Weak.trans (Weak.frzR [12582915] (m := [(1, .lp 0 0), (2, .lp 1 0), (3, .ls 2 0 l.es.length 4), (4, vi (i + 1 : Nat))]) (h := [(0, [vS l.s, .d (entsD l.es)]), (1, [vS [], .d (.lit (.slice none 0 0))]), (2, fcel entL l.es)]) hE ?_ ?_) ?_
         . intro p hp
           simp only [List.mem_cons, List.not_mem_nil, or_false] at hp
           rcases hp with rfl | rfl | rfl | rfl
           . exact .inr (.inl (by simp))
           . exact .inr (.inl (by simp))
           . exact .inr (.inl (by simp))
           . exact .inr (.inl (by simp))
         . intro p hp
           simp only [List.mem_cons, List.not_mem_nil, or_false] at hp
           rcases hp with rfl | rfl | rfl
           . exact ⟨by simp, _, by simp, all2_refl (fun _ => .inl rfl) _⟩
           . exact ⟨by simp, _, by simp, all2_refl (fun _ => .inl rfl) _⟩
           . refine ⟨by simp, (fcel entL l.es).take (i * 4 + 2) ++ .ls 12582915 0 0 1 :: (fcel entL l.es).drop (i * 4 + 2 + 1), by simp, all2_put (fun _ => .inl rfl) (.inr ⟨_, rfl, ?_⟩) hcell⟩
             exact ⟨rfl, rfl, by simp, [], by simp [hpOf], by simp⟩
         . exact WK hE (lk [(0, 0), (1, 1), (2, 2)])
       . obtain ⟨b, u, e⟩ := List.exists_cons_of_ne_nil ha0
         have hmx2 : (u.length + 1) * 8 <= 140737488355328 /\ u.length + 1 <= 9223372036854775807 := by rw [e] at hxa; simp at hxa; omega
         have ee2 : intsD x.a = .sl 1 (intL b :: u.map intL) := by rw [e]; rfl
         have ef2 : (u.map (List.map V.d ∘ intL)).flatten = fcel intL u := by simp [fcel, List.map_flatten]
         have hcl2 : (∀ x ∈ fcel intL u, x.isCell = true) = True := eq_true fcel_cell
         rw [ee2] at t10 hcell
         simp [p6l0, hI, splice, repl, hsl, s0, t10, hz, ef2, hcl2, hmx2]
         have efa : V.d (di b) :: fcel intL u = fcel intL x.a := by rw [e, fcel_cons]; rfl
         have hxl : x.a.length = u.length + 1 := by rw [e]; simp
         rw [<- ee2] at hcell
         rw [efa, <- hxl]
         refine ⟨i + 1, by omega, by omega, ?_⟩
         refine Weak.trans (Weak.frzR [12582915] (m := [(1, .lp 0 0), (2, .lp 1 0), (3, .ls 2 0 l.es.length 4), (4, vi (i + 1 : Nat))]) (h := [(0, [vS l.s, .d (entsD l.es)]), (1, [vS [], .d (.lit (.slice none 0 0))]), (2, fcel entL l.es)]) hE ?_ ?_) ?_
         . intro p hp
           simp only [List.mem_cons, List.not_mem_nil, or_false] at hp
           rcases hp with rfl | rfl | rfl | rfl
           . exact .inr (.inl (by simp))
           . exact .inr (.inl (by simp))
           . exact .inr (.inl (by simp))
           . exact .inr (.inl (by simp))
         . intro p hp
           simp only [List.mem_cons, List.not_mem_nil, or_false] at hp
           rcases hp with rfl | rfl | rfl
           . exact ⟨by simp, _, by simp, all2_refl (fun _ => .inl rfl) _⟩
           . exact ⟨by simp, _, by simp, all2_refl (fun _ => .inl rfl) _⟩
           . refine ⟨by simp, (fcel entL l.es).take (i * 4 + 2) ++ .ls 12582915 0 x.a.length 1 :: (fcel entL l.es).drop (i * 4 + 2 + 1), by simp, all2_put (fun _ => .inl rfl) (.inr ⟨_, rfl, ?_⟩) hcell⟩
             exact bor_fcel (f := intL) hfi1 (l := x.a) (by simp [hpOf])
         . exact WK hE (lk [(0, 0), (1, 1), (2, 2)])
     . have hI : ¬ (i : Int) < l.es.length := by omega
       have ei : i = l.es.length := by omega
       simp [p6l0, hI, splice]
       refine RetOk.by (lk [(0, 2)]) ?_
       simp [results6]
end Go.Proofs.Tryd
namespace Go.Log
open Go.Stb
theorem lcons {α : Type} {S : List α} {i : Nat} {a : α} (h : S[i]? = some a) : S.drop i = a :: S.drop (i + 1) := by
 obtain ⟨hi, ha⟩ := List.getElem?_eq_some_iff.1 h
 rw [<- ha]
 exact List.drop_eq_getElem_cons hi
theorem lnone {α : Type} {S : List α} {i : Nat} (h : S.length <= i) : S.drop i = [] := List.drop_of_length_le h
theorem lhead {α : Type} {S r : List α} {i : Nat} {a : α} (h : S.drop i = a :: r) : S[i]? = some a /\ S.drop (i + 1) = r := by
 constructor
 . have := congrArg List.head? h
   rw [List.head?_drop] at this
   simpa using this
 . have := congrArg List.tail h
   rw [List.tail_drop] at this
   simpa using this
def MgAt (a b M : List Etr) (i k : Nat) : Prop := M.drop (i + k) = mergeK Etr.t (a.drop i) (b.drop k)
theorem mg_first {a b M : List Etr} {i k : Nat} {x : Etr} (h : MgAt a b M i k) (ha : a[i]? = some x) (hb : b.length <= k \/ ∃ y, b[k]? = some y /\ x.t <= y.t) : M[i + k]? = some x /\ MgAt a b M (i + 1) k := by
 unfold MgAt at h ⊢
 rw [lcons ha] at h
 rw [show i + 1 + k = i + k + 1 by omega]
 rcases hb with hb | ⟨y, hb, hle⟩
 . rw [lnone hb, mergeK_nil] at h
   rw [lnone hb, mergeK_nil]
   exact lhead h
 . rw [lcons hb, mergeK, if_pos hle] at h
   rw [lcons hb]
   exact lhead h
theorem mg_second {a b M : List Etr} {i k : Nat} {y : Etr} (h : MgAt a b M i k) (hb : b[k]? = some y) (ha : a.length <= i \/ ∃ x, a[i]? = some x /\ ¬ x.t <= y.t) : M[i + k]? = some y /\ MgAt a b M i (k + 1) := by
 unfold MgAt at h ⊢
 rw [lcons hb] at h
 rw [show i + (k + 1) = i + k + 1 by omega]
 rcases ha with ha | ⟨x, ha, hle⟩
 . rw [lnone ha, mergeK] at h
   rw [lnone ha, mergeK]
   exact lhead h
 . rw [lcons ha, mergeK, if_neg hle] at h
   rw [lcons ha]
   exact lhead h
end Go.Log
namespace Go.Psl
variable {P : Program}
theorem Cm.give {f : FuncId} {args args' : List V} {Hin : Hp} {res : Res} {H1 : Hp} (h : Cm P f args (fun _ => none) [] res H1) (hf : All2 (Fz1 Hin) args' args) : Cm P f args' Hin [] res H1 := by
 refine ⟨h.1, fun G W xs him hargs hpre => ?_⟩
 have him'0 : ∀ b, fzIm G Hin b -> b < W.heap.size := fun b hb => by
   rcases hb with hb | ⟨i, hi, hph, rfl⟩
   . exact him.1 b hb
   . cases hc : Hin i with
     | none => simp [InH, hc] at hi
     | some cs =>
       rcases hpre.hb i cs hc with ⟨h1, _⟩ | ⟨_, _, _, c, T, h3, _⟩ | ⟨_, _, _, ⟨_, fr, nt, ps, pa, pb, jmp, rec, _, h4, _⟩ | ⟨_, es, ms, ck, _, h4, _⟩ | ⟨_, bx, bp, bv, _, h4, _⟩⟩
       . rw [h1] at hph; cases hph
       . exact (Array.getElem?_eq_some_iff.1 h3.choose_spec.1).1
       . exact (Array.getElem?_eq_some_iff.1 h4).1
       . exact (Array.getElem?_eq_some_iff.1 h4).1
       . exact (Array.getElem?_eq_some_iff.1 h4).1
 have him' : GW (fzIm G Hin) W := ⟨him'0, him.2.mono fun b hb => ⟨.inl hb, rfl⟩⟩
 have hargs' : All2 (R2 { G with Im := fzIm G Hin } W) args xs.toList := All2.of_get (by rw [<- hf.length, hargs.length]) fun i a x ha hx => by
   obtain ⟨a', ha', hr⟩ := hf.get2 ha
   obtain ⟨y, hy, hry⟩ := hargs.get ha'
   rw [hx] at hy; cases hy
   exact fz1 hpre.hb hr hry
 have hno : ∀ b, ¬ lentB { G with Im := fzIm G Hin } (fun _ => none) b := fun b ⟨i, hi, _⟩ => by simp [InH] at hi
 refine Calls.mono (h.2 { G with Im := fzIm G Hin } W xs him' hargs' ⟨fun i cs hc => (by cases hc), fun i j hi => (by simp [InH] at hi), fun i hi => (by cases hi)⟩) fun e W' ⟨G', p⟩ => ?_
 refine ⟨G', p.os, p.tape, p.output, p.drawn, p.size, fun b hb _ => p.block b hb (hno b), fun b hb => ?_, fun b hb => p.im0 b (.inl hb), p.rv, p.wf, fun i cs hc => ?_, p.inj, fun i hi => (by cases hi)⟩
 . obtain ⟨h1, h2⟩ := p.im b hb
   refine ⟨h1, ?_⟩
   rcases h2 with (h2 | ⟨i, hi, hph, rfl⟩) | h2 | h2
   . exact .inl h2
   . exact .inr (.inr ⟨i, hi, hph, rfl⟩)
   . exact .inr (.inl h2)
   . exact absurd h2 (hno b)
 . obtain ⟨h1, h2, h3⟩ := p.hb i cs hc
   refine ⟨h1, fun hp => ?_, h3⟩
   rcases h2 hp with h2 | h2
   . exact .inl h2
   . exact absurd h2 (hno _)
end Go.Psl
namespace Go.Proofs.Tryd
open Go.Psl
open Go.Stb
open Go.Log
theorem twinL_f (l : Lg) (hs : SizedL l) : Ct prog 6 [logV l] (logV l) [] := by
 refine Cm.freeze (fn6 l hs.n fun x hx => (hs.e x hx).2.1) ?_
 exact ⟨⟨_, rfl, .inl rfl⟩, ⟨_, rfl, bor_fcel (f := entL) hfe4 (l := l.es) (by simp)⟩, trivial⟩
def mhN (i : Nat) : V := if i = 0 then .d (.lit (.slice none 0 0)) else .ls 0 0 i 4
def mbN (i : Nat) (cs : List V) : List (Nat × List V) := if i = 0 then [] else [(0, cs)]
theorem mhN_n {i : Nat} (h : i ≠ 0) : mhN i = .ls 0 0 i 4 := if_neg h
theorem mbN_n {i : Nat} {cs : List V} (h : i ≠ 0) : mbN i cs = [(0, cs)] := if_neg h
theorem hfe : ∀ x : Etr, (entL x).length = 4 := fun _ => rfl
theorem fc_ent1 (x : Etr) : fcel entL [x] = [vi x.t, vS x.w, .d (intsD x.a), vS x.n] := by simp [fcel]
theorem bor1_lss {H : Hp} {i o l z : Nat} : Bor1 H (.ls i o l z) (.ls i o l z) = True := eq_true ⟨rfl, rfl, rfl, rfl⟩
abbrev rmS (a b : Lg) (M : List Etr) (i k : Nat) : St := ⟨slots [(2, .lp 1 0), (3, .lp 2 0), (4, .lp 3 0), (6, .lp 4 0), (7, vi i), (8, vi k)], lk (mbN (i + k) (fcel entL (M.take (i + k))) ++ [(1, [vS a.s, .d (entsD a.es)]), (2, [vS b.s, .d (entsD b.es)]), (3, [vS [], .d (.lit (.slice none 0 0))]), (4, [vS a.s, mhN (i + k)])]), 5⟩
theorem rm_loop (a b : Lg) (M : List Etr) (hM0 : M = mergeK Etr.t a.es b.es) (hl : M.length = a.es.length + b.es.length) (hn : M.length <= 200) (E : Ent) (hE : ∀ i, ¬ E.stab i) (Q : AExit -> St -> Prop) (st : St) (hw : Weak prog E st (rmS a b M 0 0)) (hC : ∀ i k, i + k = M.length -> Q (.exit 0) (rmS a b M i k)) : PW prog tys eqs E (.loop p8l0) Q st := by
 refine pw_loopC (α := Nat × Nat) 0 (fun y : Nat × Nat => rmS a b M y.1 y.2) (fun y => y.1 + y.2 = M.length) (fun y => rmS a b M y.1 y.2) (fun y => y.1 <= a.es.length /\ y.2 <= b.es.length /\ MgAt a.es b.es M y.1 y.2) (fun y => M.length - (y.1 + y.2)) (0, 0) ⟨by simp, by simp, by simp [MgAt, hM0]⟩ hw ?_ fun y h => hC y.1 y.2 h
 rintro ⟨i, k⟩ ⟨hi, hk, hm⟩
 simp only at hi hk hm
 have ws : IntKind.wrap .i64 ((i : Int) + k) = ((i + k : Nat) : Int) := by rw [wrap64 (by omega) (by omega)]; omega
 have wt : IntKind.wrap .i64 ((a.es.length : Int) + b.es.length) = ((a.es.length + b.es.length : Nat) : Int) := by rw [wrap64 (by omega) (by omega)]; omega
 have wi := @wz i (by omega)
 have wk := @wz k (by omega)
 by_cases hlt : i + k < M.length
 . have hlt' : (i : Int) + k < (a.es.length : Int) + b.es.length := by omega
   by_cases hkb : k = b.es.length
   . obtain ⟨x, hx⟩ : ∃ x, a.es[i]? = some x := ⟨_, List.getElem?_eq_getElem (by omega)⟩
     obtain ⟨hM, hm'⟩ := mg_first hm hx (.inl (by omega))
     have hia : (i : Int) < a.es.length := by omega
     subst hkb
     unfold rmS
     have hT : M.take (i + b.es.length + 1) = M.take (i + b.es.length) ++ [x] := by rw [List.take_add_one, hM]; rfl
     by_cases h0 : i + b.es.length = 0
     . have e4 : mhN (i + b.es.length) = .d (.lit (.slice none 0 0)) := by rw [h0]; rfl
       have e5 : mbN (i + b.es.length) (fcel entL (M.take (i + b.es.length))) = [] := by rw [h0]; rfl
       have e6 : M.take (i + b.es.length) = [] := by rw [h0]; rfl
       simp only [e4, e5]
       simp [p8l0, inC, Nat.testBit, splice, repl, ws, wt, wi, hlt', hx]
       refine ⟨i + 1, b.es.length, ⟨by omega, by omega, hm'⟩, by omega, ?_⟩
       rw [show i + 1 + b.es.length = i + b.es.length + 1 by omega, mhN_n (by omega), mbN_n (by omega), hT, e6]
       have e7 : i + b.es.length + 1 = 1 := by omega
       refine Weak.mk hE (lk [(0, 48234501), (1, 1), (2, 2), (3, 3), (4, 4)]) _ _ _ ?_ ?_ ?_ ?_ ?_ <;> simp [e7, fc_ent1]
     . have hsl := fcel_len hfe (M.take (i + b.es.length))
       have hwh := fcel_whole hfe (M.take (i + b.es.length))
       rw [List.length_take, Nat.min_eq_left (by omega)] at hsl hwh
       have n1 : (i + b.es.length + 1) * 64 <= 140737488355328 := by omega
       have n2 : i + b.es.length <= 9223372036854775806 := by omega
       simp only [mhN_n h0, mbN_n h0]
       simp [p8l0, inC, Nat.testBit, splice, repl, ws, wt, wi, hlt', hx, hsl, hwh, n1, n2]
       refine ⟨i + 1, b.es.length, ⟨by omega, by omega, hm'⟩, by omega, ?_⟩
       rw [show i + 1 + b.es.length = i + b.es.length + 1 by omega, mhN_n (by omega), mbN_n (by omega), hT]
       refine Weak.mk hE (lk [(0, 48234501), (1, 1), (2, 2), (3, 3), (4, 4)]) _ _ _ ?_ ?_ ?_ ?_ ?_ <;> simp [fcel_one]
   . obtain ⟨y, hy⟩ : ∃ y, b.es[k]? = some y := ⟨_, List.getElem?_eq_getElem (by omega)⟩
     have hkb' : ¬ (k : Int) = b.es.length := by omega
     have hkI : (k : Int) < b.es.length := by omega
     by_cases hia0 : i < a.es.length
     . obtain ⟨x, hx⟩ := gE hia0
       have hia : (i : Int) < a.es.length := by omega
       by_cases hle : x.t <= y.t
       . obtain ⟨hM, hm'⟩ := mg_first hm hx (.inr ⟨y, hy, hle⟩)
         unfold rmS
         have hT : M.take (i + k + 1) = M.take (i + k) ++ [x] := by rw [List.take_add_one, hM]; rfl
         by_cases h0 : i + k = 0
         . have e4 : mhN (i + k) = .d (.lit (.slice none 0 0)) := by rw [h0]; rfl
           have e5 : mbN (i + k) (fcel entL (M.take (i + k))) = [] := by rw [h0]; rfl
           have e6 : M.take (i + k) = [] := by rw [h0]; rfl
           simp only [e4, e5]
           simp [p8l0, inC, Nat.testBit, splice, repl, ws, wt, wi, hlt', hkb', hx, hy, hia, hle]
           refine ⟨i + 1, k, ⟨by omega, by omega, hm'⟩, by omega, ?_⟩
           rw [show i + 1 + k = i + k + 1 by omega, mhN_n (by omega), mbN_n (by omega), hT, e6]
           have e7 : i + k + 1 = 1 := by omega
           refine Weak.mk hE (lk [(0, 48234501), (1, 1), (2, 2), (3, 3), (4, 4)]) _ _ _ ?_ ?_ ?_ ?_ ?_ <;> simp [e7, fc_ent1]
         . have hsl := fcel_len hfe (M.take (i + k))
           have hwh := fcel_whole hfe (M.take (i + k))
           rw [List.length_take, Nat.min_eq_left (by omega)] at hsl hwh
           have n1 : (i + k + 1) * 64 <= 140737488355328 := by omega
           have n2 : i + k <= 9223372036854775806 := by omega
           simp only [mhN_n h0, mbN_n h0]
           simp [p8l0, inC, Nat.testBit, splice, repl, ws, wt, wi, hlt', hkb', hx, hy, hia, hle, hsl, hwh, n1, n2]
           refine ⟨i + 1, k, ⟨by omega, by omega, hm'⟩, by omega, ?_⟩
           rw [show i + 1 + k = i + k + 1 by omega, mhN_n (by omega), mbN_n (by omega), hT]
           refine Weak.mk hE (lk [(0, 48234501), (1, 1), (2, 2), (3, 3), (4, 4)]) _ _ _ ?_ ?_ ?_ ?_ ?_ <;> simp [fcel_one]
       . obtain ⟨hM, hm'⟩ := mg_second hm hy (.inr ⟨x, hx, hle⟩)
         unfold rmS
         have hT : M.take (i + k + 1) = M.take (i + k) ++ [y] := by rw [List.take_add_one, hM]; rfl
         by_cases h0 : i + k = 0
         . have e4 : mhN (i + k) = .d (.lit (.slice none 0 0)) := by rw [h0]; rfl
           have e5 : mbN (i + k) (fcel entL (M.take (i + k))) = [] := by rw [h0]; rfl
           have e6 : M.take (i + k) = [] := by rw [h0]; rfl
           simp only [e4, e5]
           simp [p8l0, inC, Nat.testBit, splice, repl, ws, wt, wk, hlt', hkb', hx, hy, hia, hle]
           refine ⟨i, k + 1, ⟨by omega, by omega, hm'⟩, by omega, ?_⟩
           rw [show i + (k + 1) = i + k + 1 by omega, mhN_n (by omega), mbN_n (by omega), hT, e6]
           have e7 : i + k + 1 = 1 := by omega
           refine Weak.mk hE (lk [(0, 48234501), (1, 1), (2, 2), (3, 3), (4, 4)]) _ _ _ ?_ ?_ ?_ ?_ ?_ <;> simp [e7, fc_ent1]
         . have hsl := fcel_len hfe (M.take (i + k))
           have hwh := fcel_whole hfe (M.take (i + k))
           rw [List.length_take, Nat.min_eq_left (by omega)] at hsl hwh
           have n1 : (i + k + 1) * 64 <= 140737488355328 := by omega
           have n2 : i + k <= 9223372036854775806 := by omega
           simp only [mhN_n h0, mbN_n h0]
           simp [p8l0, inC, Nat.testBit, splice, repl, ws, wt, wk, hlt', hkb', hx, hy, hia, hle, hsl, hwh, n1, n2]
           refine ⟨i, k + 1, ⟨by omega, by omega, hm'⟩, by omega, ?_⟩
           rw [show i + (k + 1) = i + k + 1 by omega, mhN_n (by omega), mbN_n (by omega), hT]
           refine Weak.mk hE (lk [(0, 48234501), (1, 1), (2, 2), (3, 3), (4, 4)]) _ _ _ ?_ ?_ ?_ ?_ ?_ <;> simp [fcel_one]
     . obtain ⟨hM, hm'⟩ := mg_second hm hy (.inl (by omega))
       have hia : ¬ (i : Int) < a.es.length := by omega
       unfold rmS
       have hT : M.take (i + k + 1) = M.take (i + k) ++ [y] := by rw [List.take_add_one, hM]; rfl
       by_cases h0 : i + k = 0
       . have e4 : mhN (i + k) = .d (.lit (.slice none 0 0)) := by rw [h0]; rfl
         have e5 : mbN (i + k) (fcel entL (M.take (i + k))) = [] := by rw [h0]; rfl
         have e6 : M.take (i + k) = [] := by rw [h0]; rfl
         simp only [e4, e5]
         simp [p8l0, inC, Nat.testBit, splice, repl, ws, wt, wk, hlt', hkb', hy, hia]
         refine ⟨i, k + 1, ⟨by omega, by omega, hm'⟩, by omega, ?_⟩
         rw [show i + (k + 1) = i + k + 1 by omega, mhN_n (by omega), mbN_n (by omega), hT, e6]
         have e7 : i + k + 1 = 1 := by omega
         refine Weak.mk hE (lk [(0, 48234501), (1, 1), (2, 2), (3, 3), (4, 4)]) _ _ _ ?_ ?_ ?_ ?_ ?_ <;> simp [e7, fc_ent1]
       . have hsl := fcel_len hfe (M.take (i + k))
         have hwh := fcel_whole hfe (M.take (i + k))
         rw [List.length_take, Nat.min_eq_left (by omega)] at hsl hwh
         have n1 : (i + k + 1) * 64 <= 140737488355328 := by omega
         have n2 : i + k <= 9223372036854775806 := by omega
         simp only [mhN_n h0, mbN_n h0]
         simp [p8l0, inC, Nat.testBit, splice, repl, ws, wt, wk, hlt', hkb', hy, hia, hsl, hwh, n1, n2]
         refine ⟨i, k + 1, ⟨by omega, by omega, hm'⟩, by omega, ?_⟩
         rw [show i + (k + 1) = i + k + 1 by omega, mhN_n (by omega), mbN_n (by omega), hT]
         refine Weak.mk hE (lk [(0, 48234501), (1, 1), (2, 2), (3, 3), (4, 4)]) _ _ _ ?_ ?_ ?_ ?_ ?_ <;> simp [fcel_one]
 . have hlt' : ¬ (i : Int) + k < (a.es.length : Int) + b.es.length := by omega
   have hf : i + k = M.length := by omega
   unfold rmS
   by_cases h0 : i + k = 0
   . have e4 : mhN (i + k) = .d (.lit (.slice none 0 0)) := by rw [h0]; rfl
     have e5 : mbN (i + k) (fcel entL (M.take (i + k))) = [] := by rw [h0]; rfl
     simp only [e4, e5]
     simp [p8l0, ws, wt, hlt', exC_exit]
     refine ⟨i, k, hf, ?_⟩
     rw [e4, e5]
     exact WK hE (lk [(1, 1), (2, 2), (3, 3), (4, 4)])
   . simp only [mhN_n h0, mbN_n h0]
     simp [p8l0, ws, wt, hlt', exC_exit]
     refine ⟨i, k, hf, ?_⟩
     rw [mhN_n h0, mbN_n h0]
     exact WK hE (lk [(0, 0), (1, 1), (2, 2), (3, 3), (4, 4)])
theorem rm_ok (a b : Lg) (h1 : okLg a = true) (h2 : okLg b = true) (sa : SizedL a) (sb : SizedL b) (h3 : a.s = b.s) (hn : ¬ 200 < a.es.length + b.es.length) (st : SizedL ⟨a.s, mergeK Etr.t a.es b.es⟩) : Ct prog 8 [logV a, logV b] (.tup [logV ⟨a.s, mergeK Etr.t a.es b.es⟩, vi 0]) [] := by
 have ca := fn13 a sa
 have cb := fn13 b sb
 rw [h1, if_pos rfl] at ca
 rw [h2, if_pos rfl] at cb
 have ct := twinL_f ⟨a.s, mergeK Etr.t a.es b.es⟩ st
 have hl : (mergeK Etr.t a.es b.es).length = a.es.length + b.es.length := by rw [(mergeK_perm _ _ _).length_eq, List.length_append]
 have w1 : IntKind.wrap .i64 ((a.es.length : Int) + b.es.length) = ((a.es.length + b.es.length : Nat) : Int) := by rw [wrap64 (by omega) (by omega)]; omega
 have n1 : ¬ (200 : Int) < (a.es.length : Int) + b.es.length := by omega
 have rl := rm_loop a b (mergeK Etr.t a.es b.es) rfl hl (by omega)
 generalize mergeK Etr.t a.es b.es = M at ct hl rl ⊢
 refine CB func8 c8 fun E hE => ?_
 simp [p8]
 refine CLa ca ?_
 simp
 refine CLa cb ?_
 simp [splice, h3, w1, n1]
 refine rl E hE _ _ ?_ ?_
 . unfold rmS
   have e4 : mhN (0 + 0) = .d (.lit (.slice none 0 0)) := rfl
   have e5 : mbN (0 + 0) (fcel entL (M.take (0 + 0))) = [] := rfl
   simp only [e4, e5]
   refine Weak.mk hE (lk [(1, 0), (2, 1048576), (3, 2097152), (4, 29360128)]) _ _ _ ?_ ?_ ?_ ?_ ?_ <;> simp [h3]
 . intro i k hf
   unfold rmS
   rw [hf, List.take_length]
   by_cases h0 : M.length = 0
   . obtain rfl : M = [] := List.length_eq_zero_iff.1 h0
     have e4 : mhN ([] : List Etr).length = .d (.lit (.slice none 0 0)) := rfl
     have e5 : mbN ([] : List Etr).length (fcel entL ([] : List Etr)) = [] := rfl
     simp only [e4, e5]
     simp
     refine CLa ct ?_
     simp [splice]
     apply RZ
     simp [results8, h3]
   . simp only [mhN_n h0, mbN_n h0]
     have hb : ∀ (H : Hp), H 0 = some (fcel entL M) -> Bor1 H (.ls 0 0 M.length 4) (.d (entsD M)) := fun H hh => bor_fcel (f := entL) hfe (l := M) hh
     simp
     have cg : Cm prog 6 [.agg [vS a.s, .ls 0 0 M.length 4]] (lk [(0, fcel entL M)]) [] (.ret (logV ⟨a.s, M⟩)) (lk []) := Cm.give ct ⟨⟨⟨_, rfl, .inl rfl⟩, ⟨_, rfl, hb _ (by simp [lk])⟩, trivial⟩, trivial⟩
     refine CRs cg (by simp [bor1_lss]) ?_
     simp [splice]
     apply RZ
     simp [results8, h3]
theorem fn8 (a b : Lg) (sa : SizedL a) (sb : SizedL b) : Ct prog 8 [logV a, logV b] (.tup [logV (mrgS a b).1, vi (mrgS a b).2]) [] := by
 have ca := fn13 a sa
 have cb := fn13 b sb
 by_cases h1 : okLg a = true
 case neg =>
   rw [if_neg h1] at ca
   have e : mrgS a b = (⟨[], []⟩, 90) := by unfold mrgS; rw [if_pos (.inl (by simpa using h1))]
   rw [e]
   refine Cm.freeze (?_ : Ct prog 8 [logV a, logV b] (.tup [.agg [vS [], .d (.lit (.slice none 0 0))], vi 90]) []) mrg_no
   refine CB func8 c8 fun E hE => ?_
   simp [p8]
   refine CLa ca ?_
   simp [splice]
   apply RZ
   simp [results8]
 have h1' := h1
 rw [h1, if_pos rfl] at ca
 by_cases h2 : okLg b = true
 case neg =>
   rw [if_neg h2] at cb
   have e : mrgS a b = (⟨[], []⟩, 90) := by unfold mrgS; rw [if_pos (.inr (by simpa using h2))]
   rw [e]
   refine Cm.freeze (?_ : Ct prog 8 [logV a, logV b] (.tup [.agg [vS [], .d (.lit (.slice none 0 0))], vi 90]) []) mrg_no
   refine CB func8 c8 fun E hE => ?_
   simp [p8]
   refine CLa ca ?_
   simp
   refine CLa cb ?_
   simp [splice]
   apply RZ
   simp [results8]
 rw [h2, if_pos rfl] at cb
 have hno : ¬ (okLg a = false \/ okLg b = false) := by simp [h1, h2]
 by_cases h3 : a.s = b.s
 case neg =>
   have e : mrgS a b = (⟨[], []⟩, 95) := by unfold mrgS; rw [if_neg hno, if_pos h3]
   rw [e]
   refine Cm.freeze (?_ : Ct prog 8 [logV a, logV b] (.tup [.agg [vS [], .d (.lit (.slice none 0 0))], vi 95]) []) mrg_no
   refine CB func8 c8 fun E hE => ?_
   simp [p8]
   refine CLa ca ?_
   simp
   refine CLa cb ?_
   simp [splice, h3]
   apply RZ
   simp [results8]
 have la := (ok_all h1).2.1
 have lb := (ok_all h2).2.1
 have w1 : IntKind.wrap .i64 ((a.es.length : Int) + b.es.length) = (a.es.length : Int) + b.es.length := wrap64 (by omega) (by omega)
 by_cases h4 : 200 < a.es.length + b.es.length
 . have e : mrgS a b = (⟨[], []⟩, 4) := by unfold mrgS; rw [if_neg hno, if_neg (by simp [h3]), if_pos h4]
   have n1 : (200 : Int) < (a.es.length : Int) + b.es.length := by omega
   rw [e]
   refine Cm.freeze (?_ : Ct prog 8 [logV a, logV b] (.tup [.agg [vS [], .d (.lit (.slice none 0 0))], vi 4]) []) mrg_no
   refine CB func8 c8 fun E hE => ?_
   simp [p8]
   refine CLa ca ?_
   simp
   refine CLa cb ?_
   simp [splice, h3, w1, n1]
   apply RZ
   simp [results8]
 . have e : mrgS a b = (⟨a.s, mergeK Etr.t a.es b.es⟩, 0) := by unfold mrgS; rw [if_neg hno, if_neg (by simp [h3]), if_neg h4]
   rw [e]
   refine rm_ok a b h1 h2 sa sb h3 h4 ?_
   have hm := fun x => (mergeK_perm Etr.t a.es b.es).mem_iff (a := x)
   refine ⟨sa.s, ?_, fun x hx => ?_⟩
   . show (mergeK Etr.t a.es b.es).length <= _
     rw [(mergeK_perm _ _ _).length_eq, List.length_append]; omega
   . rcases List.mem_append.1 ((hm x).1 hx) with h | h
     . exact sa.e x h
     . exact sb.e x h
end Go.Proofs.Tryd
namespace Go.Psl
variable {P : Program} {Γ : Tys} {eqs : Eqs} {E : Ent}
def PWk (P : Program) (Γ : Tys) (eqs : Eqs) (E : Ent) : Nat -> PC -> (AExit -> St -> Prop) -> St -> Prop
 | 0, p, Q, st => ∃ st', Weak P E st st' /\ PW P Γ eqs E p Q st'
 | n + 1, .seq a b, Q, st => PW P Γ eqs E a (seqQ (fun st => PWk P Γ eqs E n b Q st) Q) st
 | _ + 1, _, _, _ => False
theorem PWk_zero {p : PC} {Q : AExit -> St -> Prop} {st : St} : PWk P Γ eqs E 0 p Q st = ∃ st', Weak P E st st' /\ PW P Γ eqs E p Q st' := nrfl rfl
theorem PWk_succ {n : Nat} {a b : PC} {Q : AExit -> St -> Prop} {st : St} : PWk P Γ eqs E (n + 1) (.seq a b) Q st = PW P Γ eqs E a (seqQ (fun st => PWk P Γ eqs E n b Q st) Q) st := nrfl rfl
theorem PWk.sound (hΓ : GOk P Γ) (hE : EqOk P eqs) (hm : P.follows .mixedOrders = true) : ∀ (n : Nat) (c : Code) (p : PC), comp E.nt c = some p -> ∀ (Q : AExit -> St -> Prop) (st : St), PWk P Γ eqs E n p Q st -> AW P E c Q st
 | 0, c, p, hc, Q, st, ⟨st', hw, h⟩ => AW.weak hw (PW.sound hΓ hE hm c p hc Q st' h)
 | n + 1, c, p, hc, Q, st, h => by
   cases c with
   | seq a b =>
     simp only [comp, Option.bind_eq_some_iff, Option.map_eq_some_iff] at hc
     obtain ⟨x, hx, y, hy, rfl⟩ := hc
     refine AW.seq (AW.mono (PW.sound hΓ hE hm a x hx _ _ h) fun e st hq => ?_)
     cases e with
     | normal => exact PWk.sound hΓ hE hm n b y hy Q st hq
     | _ => exact hq
   | region id ops draw =>
     exfalso
     cases draw with
     | false =>
       simp only [comp, Bool.false_eq_true, if_false, Option.ite_none_right_eq_some, Option.some.injEq] at hc
       obtain ⟨hd, rfl⟩ := hc
       exact h
     | true =>
       simp only [comp, if_true, Option.ite_none_right_eq_some, Option.some.injEq] at hc
       obtain ⟨hd, rfl⟩ := hc
       revert h
       unfold mkDraw
       split <;> exact fun h => h
   | cond c a b =>
     simp only [comp, Option.bind_eq_some_iff, Option.map_eq_some_iff] at hc
     obtain ⟨x, hx, y, hy, rfl⟩ := hc
     exact False.elim h
   | block id a =>
     simp only [comp, Option.map_eq_some_iff] at hc
     obtain ⟨x, hx, rfl⟩ := hc
     exact False.elim h
   | loop a =>
     simp only [comp, Option.map_eq_some_iff] at hc
     obtain ⟨x, hx, rfl⟩ := hc
     exact False.elim h
   | rangeFunc fo ps a b =>
     simp only [comp, Option.bind_eq_some_iff, Option.map_eq_some_iff] at hc
     obtain ⟨x, hx, y, hy, rfl⟩ := hc
     exact False.elim h
   | skip => cases hc; exact False.elim h
   | ret => cases hc; exact False.elim h
   | exit id => cases hc; exact False.elim h
   | _ => cases hc
theorem Cm.byK {f : FuncId} {fn : Func} {p : PC} {args : List V} {Hin : Hp} {ks : List Nat} {res : Res} {H1 : List (Nat × List V)} (n : Nat) (hΓ : GOk P Γ) (hE : EqOk P eqs) (hm : P.follows .mixedOrders = true) (N : Nat) (hf : P.funcs[f]? = some fn) (hc : fn.body.bind (comp fn.ntmps) = some p) (hname : (fn.name == "runtime.NumGoroutine") = false)
   (hn : args.length <= fn.ntmps) (hcl : ∀ v ∈ args, A2 (· < N) anyD v) (hids : IdsFn N Hin) (hks : ∀ i ∈ ks, i < N) (hri : ResIds res.v H1) (h : ∀ E : Ent, (∀ i, E.stab i ↔ i ∈ ks) -> E.nt = fn.ntmps /\ E.rq -> PWk P Γ eqs E n p (retM Γ fn ks res H1) ⟨argF 0 args, Hin, N⟩) : Cm P f args Hin ks res (lk H1) := by
 cases hb : fn.body with
 | none => rw [hb] at hc; cases hc
 | some c => rw [hb] at hc; exact Cm.intro hΓ N hf hb hname hn hcl hids hks hri fun E hE' hs hrd => PWk.sound hΓ hE hm n c p (by rw [hE']; exact hc) _ _ (h E hs ⟨hE', hrd⟩)
theorem Ct.byK {f : FuncId} {fn : Func} {p : PC} {args : List V} {r : V} {H1 : List (Nat × List V)} (n : Nat) (hΓ : GOk P Γ) (hE : EqOk P eqs) (hm : P.follows .mixedOrders = true) (hf : P.funcs[f]? = some fn) (hc : fn.body.bind (comp fn.ntmps) = some p) (hname : (fn.name == "runtime.NumGoroutine") = false)
   (hn : args.length <= fn.ntmps) (hcl : ∀ v ∈ args, Closed v) (hri : ResIds r H1) (h : ∀ E : Ent, (∀ i, ¬ E.stab i) -> E.nt = fn.ntmps /\ E.rq -> PWk P Γ eqs E n p (retQ Γ fn r H1) ⟨argF 0 args, fun _ => none, 0⟩) : Ct P f args r H1 :=
 Cm.byK n hΓ hE hm 0 hf hc hname hn (fun v hv => A2.mono (fun _ h => h.elim) (fun _ h => h) (hcl v hv)) nofun nofun hri fun E hs hn => h E (fun i hi => by have := (hs i).1 hi; cases this) hn
end Go.Psl
namespace Go.Proofs.Tryd
open Go.Psl
open Go.Stb
open Go.Log
theorem addH_old {H : Hp} {b id : Nat} (h : id < b) : ∀ L : List (Nat × List V), addH H b L id = H id
 | [] => rfl
 | p :: r => by
   show upd (addH H b r) (b + p.1) _ id = _
   rw [upd_at, if_neg (by omega), addH_old h r]
theorem addH_new {H : Hp} {b j : Nat} {cs : List V} : ∀ {L : List (Nat × List V)}, lk L j = some cs -> addH H b L (b + j) = some (cs.map (renC (b + ·)))
 | [], h => by simp [lk] at h
 | p :: r, h => by
   show upd (addH H b r) (b + p.1) _ (b + j) = _
   simp only [lk] at h
   rw [upd_at]
   split at h
   . rename_i e
     cases h
     rw [if_pos (by omega)]
   . rename_i e
     rw [if_neg (by omega)]
     exact addH_new h
theorem wc_sg {ρ : Nat -> Option Nat} {b : Nat} (p : Nat -> Prop) (hρ : ∀ i, p i -> ρ i = some (b + i)) : ∀ {cs : List V}, (∀ c ∈ cs, (∃ x, c = .d x) \/ ∃ i o l z, c = .ls i o l z /\ p i) -> All2 (WC ρ) (cs.map (renC (b + ·))) cs
 | [], _ => trivial
 | c :: r, h => by
   refine ⟨?_, wc_sg p hρ fun d hd => h d (by simp [hd])⟩
   rcases h c (by simp) with ⟨x, rfl⟩ | ⟨i, o, l, z, rfl, hp⟩
   . show WC ρ (.d x) (.d x); simp
   . show WC ρ (.ls (b + i) o l z) (.ls i o l z); simp [hρ i hp]
theorem mgB_ids {A : List Etr} {k : Nat} {p : Nat × List V} (h : p ∈ mgB k A) : k + 3 <= p.1 /\ p.1 < k + A.length + 3 := by
 obtain ⟨i, x, h1, _, rfl⟩ := mgB_mem h
 have := (List.getElem?_eq_some_iff.1 h1).1
 exact ⟨by show k + 3 <= k + i + 3; omega, by show k + i + 3 < _; omega⟩
theorem mgX {E : Ent} (hE : ∀ i, ¬ E.stab i) {st : St} (r : Nat -> Nat) (M A : List Etr) (X : List (Nat × List V)) (hM : M.length <= 800) (hA : A.length = M.length) (hr : ∀ i j, i < 1000 -> j < 1000 -> r i = r j -> i = j) (l : List (Nat × V))
   (hs : SlotsOk (fun i => some (r i)) st.fr l) (hi : SlotsIds 1000 l) (h0 : ∃ cs, st.H (r 0) = some cs /\ All2 (WC fun i => some (r i)) cs (mgC 0 M))
   (hX : HpOk (fun i => some (r i)) st.H X) (hXi : HpIds 1000 X) (hXl : ∀ p ∈ X, p.1 < 1000)
   (hB : ∀ j cs, lk (mgB 0 A) j = some cs -> st.H (r j) = some cs) : Weak prog E st ⟨slots l, lk ((0, mgC 0 M) :: (X ++ mgB 0 A)), 1000⟩ := by
 have hB' : ∀ p ∈ mgB 0 A, st.H (r p.1) = some p.2 /\ p.1 < 1000 /\ ∃ q, p.2 = fcel intL q := fun p hp => by
   obtain ⟨i, x, e1, e2, rfl⟩ := mgB_mem hp
   have hlt := (List.getElem?_eq_some_iff.1 e1).1
   exact ⟨hB _ _ (mgB_lk e1 e2), by show 0 + i + 3 < 1000; omega, _, rfl⟩
 have happ : ∀ {ρ : Nat -> Option Nat} {H : Hp} {x y : List (Nat × List V)}, HpOk ρ H x -> HpOk ρ H y -> HpOk ρ H (x ++ y) := by
   intro ρ H x y hx hy
   induction x with
   | nil => exact hy
   | cons p q ih => exact ⟨hx.1, ih hx.2⟩
 have hiapp : ∀ {x y : List (Nat × List V)}, HpIds 1000 x -> HpIds 1000 y -> HpIds 1000 (x ++ y) := by
   intro x y hx hy
   induction x with
   | nil => exact hy
   | cons p q ih => exact ⟨hx.1, hx.2.1, ih hx.2.2⟩
 have hlt : ∀ p ∈ ((0, mgC 0 M) :: (X ++ mgB 0 A)), p.1 < 1000 := fun p hp => by
   rcases List.mem_cons.1 hp with rfl | hp
   . show (_ : Nat) < 1000; simp
   rcases List.mem_append.1 hp with hp | hp
   . exact hXl p hp
   exact (hB' p hp).2.1
 refine Weak.mk hE (fun i => some (r i)) _ _ _ hs ⟨⟨h0, .inl (List.all_eq_true.2 fun c hc => ?_)⟩, happ hX (HpOk.of fun p hp => ?_)⟩ (RhoInj.of fun p hp q hq e => hr _ _ (hlt q hq) (hlt p hp) (Option.some.inj e)) hi ⟨by show 0 < 1000; omega, fun c hc => ?_, hiapp hXi (HpIds.of fun p hp => ⟨(hB' p hp).2.1, fun c hc => ?_⟩)⟩
 . rcases mgC_cell c hc with ⟨x, rfl⟩ | ⟨i, o, l, z, rfl, _⟩ <;> rfl
 . obtain ⟨e1, _, q, e2⟩ := hB' p hp
   refine ⟨_, _, rfl, e1, by rw [e2]; exact dls_wc _, .inl (List.all_eq_true.2 fun c hc => ?_)⟩
   rw [e2] at hc
   obtain ⟨y, _, rfl⟩ := List.mem_map.1 hc
   rfl
 . rcases mgC_cell c hc with ⟨x, rfl⟩ | ⟨i, o, l, z, rfl, k, y, hk, _, rfl⟩
   . trivial
   . have := (List.getElem?_eq_some_iff.1 hk).1
     show 0 + k + 3 < 1000; omega
 . obtain ⟨_, _, q, e2⟩ := hB' p hp
   rw [e2] at hc
   obtain ⟨y, _, rfl⟩ := List.mem_map.1 hc
   trivial
def mgL (M A : List Etr) : Prop := A.length = M.length /\ ∀ (i : Nat) x y, M[i]? = some x -> A[i]? = some y -> y.a.length = x.a.length
theorem mgL_refl (M : List Etr) : mgL M M := ⟨rfl, fun i x y h1 h2 => by rw [h1] at h2; cases h2; rfl⟩
theorem mgL_set {M A : List Etr} (h : mgL M A) {k : Nat} {y : Etr} (hy : A[k]? = some y) (q : List Int) (hq : q.length = y.a.length) : mgL M (A.set k { y with a := q }) := by
 refine ⟨by rw [List.length_set]; exact h.1, fun i x z h1 h2 => ?_⟩
 rw [List.getElem?_set] at h2
 split at h2
 . rename_i e
   subst e
   have hk := (List.getElem?_eq_some_iff.1 hy).1
   rw [if_pos hk] at h2
   cases h2
   show q.length = _
   rw [hq]
   exact h.2 _ x y h1 hy
 . exact h.2 i x z h1 h2
theorem mgB_set {A : List Etr} {k : Nat} {y : Etr} (hy : A[k]? = some y) (_ : y.a ≠ []) {q : List Int} (_ : q ≠ []) {j : Nat} {cs : List V} (h : lk (mgB 0 (A.set k { y with a := q })) j = some cs) : (j = k + 3 /\ cs = fcel intL q) \/ (j ≠ k + 3 /\ lk (mgB 0 A) j = some cs) := by
 obtain ⟨i, z, h1, h2, h3, h4⟩ := mgB_in h
 rw [List.getElem?_set] at h1
 split at h1
 . rename_i e
   subst e
   have hk := (List.getElem?_eq_some_iff.1 hy).1
   rw [if_pos hk] at h1
   cases h1
   exact .inl ⟨by omega, h4⟩
 . rename_i e
   have := mgB_lk (k := 0) h1 h2
   rw [h3, h4]
   exact .inr ⟨by omega, this⟩
theorem mg_row {M : List Etr} {k : Nat} {x : Etr} (h : M[k]? = some x) : List.take 4 (List.drop (k * 4) (mgC 0 M)) = mgRow k x := by
 have hk := (List.getElem?_eq_some_iff.1 h).1
 have e : M = M.take k ++ (x :: M.drop (k + 1)) := by
   have := List.drop_eq_getElem_cons hk
   rw [(List.getElem?_eq_some_iff.1 h).2] at this
   rw [<- this, List.take_append_drop]
 have el : (M.take k).length = k := by rw [List.length_take]; omega
 have hl : (mgC 0 (M.take k)).length = k * 4 := by rw [mgC_len, el]
 rw [e, mgC_app, el, List.drop_append, dropAll (l := mgC 0 (M.take k)) (by omega), hl, Nat.sub_self, mgC, Nat.zero_add]
 rfl
theorem mg_bor {H : Hp} : ∀ {A : List Etr} {k : Nat}, (∀ (i : Nat) x, A[i]? = some x -> x.a ≠ [] -> H (k + i + 3) = some (fcel intL x.a)) -> All2 (fun c y => Bor0 H c (.d y)) (mgC k A) (A.map entL).flatten
 | [], _, _ => trivial
 | x :: r, k, h => by
   have ih := mg_bor (A := r) (k := k + 1) fun i y h1 h2 => by
     have := h (i + 1) y h1 h2
     rwa [show k + (i + 1) + 3 = k + 1 + i + 3 by omega] at this
   rw [mgC, List.map_cons, List.flatten_cons]
   refine All2.append ⟨.inl rfl, .inl rfl, ?_, .inl rfl, trivial⟩ ih
   unfold mgArg
   split
   . rename_i h0
     rw [h0]
     exact .inl rfl
   . rename_i h0
     have := h 0 x rfl h0
     exact bor_fcel (f := intL) (fun _ => rfl) (l := x.a) this
abbrev mtX (a b : Lg) : List (Nat × List V) := [(1, [vS a.s, .d (entsD a.es)]), (2, [vS b.s, .d (entsD b.es)]), (901, [vS a.s, .d (entsD a.es)]), (902, [vS b.s, .d (entsD b.es)])]
abbrev mtF (n k : Nat) : List (Nat × V) := [(2, .lp 1 0), (3, .lp 2 0), (5, .lp 901 0), (6, .lp 902 0), (11, vb true), (46, .ls 0 0 n 4), (47, vi n), (48, vi k)]
abbrev mtS (a b : Lg) (M A : List Etr) (k : Nat) : St := ⟨slots (mtF M.length k), lk ((0, mgC 0 M) :: (mtX a b ++ mgB 0 A)), 1000⟩
abbrev mtI (a b : Lg) (M A : List Etr) (k i n : Nat) (z : List V) : St := ⟨slots (mtF M.length k ++ [(13, .lp 903 0), (54, vi n), (55, vi i)]), lk ((0, mgC 0 M) :: ((mtX a b ++ [(903, z)]) ++ mgB 0 A)), 1000⟩
theorem int_put {q : List Int} {i : Nat} (h : i < q.length) : splice (fcel intL q) i [vi (-7)] = fcel intL (q.set i (-7)) := by
 rw [fcel_int, fcel_int, List.set_eq_take_append_cons_drop, if_pos h]
 show List.take i _ ++ [vi (-7)] ++ List.drop (i + 1) _ = _
 simp [List.map_take, List.map_drop]
theorem mg_inner (a b : Lg) (M : List Etr) (hn : M.length <= 800) (k : Nat) (x : Etr) (hx : M[k]? = some x) (hqx : x.a.length <= 1000000) (h0 : x.a ≠ []) (E : Ent) (hE : ∀ i, ¬ E.stab i) (Q : AExit -> St -> Prop) (st : St) (A0 : List Etr) (hL0 : mgL M A0)
   (hw : Weak prog E st (mtI a b M A0 k 0 x.a.length [vi x.t, vS x.w, .ls (k + 3) 0 x.a.length 1, vS x.n])) (hC : ∀ A, mgL M A -> Q (.exit 2) (mtI a b M A k x.a.length x.a.length [vi x.t, vS x.w, .ls (k + 3) 0 x.a.length 1, vS x.n])) : PW prog tys eqs E (.loop p3l0) Q st := by
 refine pw_loopC (α := Nat × List Etr) 2 (fun A : List Etr => mtI a b M A k x.a.length x.a.length [vi x.t, vS x.w, .ls (k + 3) 0 x.a.length 1, vS x.n]) (fun A => mgL M A) (fun y => mtI a b M y.2 k y.1 x.a.length [vi x.t, vS x.w, .ls (k + 3) 0 x.a.length 1, vS x.n]) (fun y => y.1 <= x.a.length /\ mgL M y.2) (fun y => x.a.length - y.1) (0, A0) ⟨Nat.zero_le _, hL0⟩ hw ?_ fun A h => hC A h
 rintro ⟨i, A⟩ ⟨hi, hL⟩
 simp only at hi hL
 have hz := @wz i (by omega)
 have hk := (List.getElem?_eq_some_iff.1 hx).1
 have g1 : k ≠ 898 := by omega
 have g2 : k ≠ 899 := by omega
 have g3 : k ≠ 900 := by omega
 have g1' : 898 ≠ k := by omega
 have g2' : 899 ≠ k := by omega
 have g3' : 900 ≠ k := by omega
 have hAl := hL.1
 obtain ⟨y, hy⟩ : ∃ y, A[k]? = some y := ⟨_, List.getElem?_eq_getElem (by omega)⟩
 have hyl := hL.2 k x y hx hy
 have hy0 : y.a ≠ [] := fun e => h0 (List.length_eq_zero_iff.1 (by rw [<- hyl, e]; rfl))
 by_cases h : i < x.a.length
 . have hI : (i : Int) < x.a.length := by omega
   have hlk := mgB_lk (k := 0) hy hy0
   rw [Nat.zero_add] at hlk
   have hcl := fcel_len (f := intL) (sz := 1) (fun _ => rfl) y.a
   have hput := int_put (q := y.a) (i := i) (by omega)
   have hset := fun j cs => mgB_set (A := A) hy hy0 (q := y.a.set i (-7)) (by intro e; have := congrArg List.length e; rw [List.length_set, List.length_nil] at this; omega) (j := j) (cs := cs)
   have hL' := mgL_set hL hy (y.a.set i (-7)) (by rw [List.length_set])
   generalize A.set k { y with a := y.a.set i (-7) } = A' at hset hL'
   generalize fcel intL y.a = cs at hlk hcl hput
   rw [hyl, Nat.mul_one] at hcl
   have h6 : i + 1 <= x.a.length := h
   simp [p3l0, hI, hlk, hcl, g1, g2, g3, h6, hz]
   refine ⟨i + 1, A', ⟨by omega, hL'⟩, by omega, ?_⟩
   refine mgX hE (fun i => i) M A' (mtX a b ++ [(903, [vi x.t, vS x.w, .ls (k + 3) 0 x.a.length 1, vS x.n])]) hn hL'.1 (fun _ _ _ _ e => e) _ (by simp) (by simp) ⟨mgC 0 M, by simp, mgC_wc fun _ _ => rfl⟩ (by simp [g1, g2, g3]) (by simp; omega) (by simp) fun j cs' hj => ?_
   rcases hset j cs' hj with ⟨rfl, rfl⟩ | ⟨hne, hj2⟩
   . simp only [upd_at, if_true]
     exact congrArg some hput
   . obtain ⟨k2, k3, k4, k5⟩ := mg_at hj2
     have k6 : j ≠ 901 := by omega
     have k7 : j ≠ 902 := by omega
     have k8 : j ≠ 903 := by omega
     simp [hne, hj2, k2, k3, k4, k6, k7, k8]
 . have hI : ¬ (i : Int) < x.a.length := by omega
   obtain rfl : i = x.a.length := by omega
   simp [p3l0, exC_exit]
   refine ⟨A, hL, ?_⟩
   refine mgX hE (fun i => i) M A (mtX a b ++ [(903, [vi x.t, vS x.w, .ls (k + 3) 0 x.a.length 1, vS x.n])]) hn hL.1 (fun _ _ _ _ e => e) _ (by simp) (by simp) ⟨mgC 0 M, by simp, mgC_wc fun _ _ => rfl⟩ (by simp) (by simp; omega) (by simp) fun j cs' hj => ?_
   obtain ⟨k2, k3, k4, k5⟩ := mg_at hj
   have k6 : j ≠ 901 := by omega
   have k7 : j ≠ 902 := by omega
   have k8 : j ≠ 903 := by omega
   simp [hj, k2, k3, k4, k6, k7, k8]
theorem mg_outer (a b : Lg) (M : List Etr) (hn : M.length <= 800) (hq : ∀ x ∈ M, x.a.length <= 1000000) (E : Ent) (hE : ∀ i, ¬ E.stab i) (Q : AExit -> St -> Prop) (st : St) (hw : Weak prog E st (mtS a b M M 0)) (hC : ∀ A, Q (.exit 0) (mtS a b M A M.length)) : PW prog tys eqs E (.loop p3l1) Q st := by
 refine pw_loopC (α := Nat × List Etr) 0 (fun A : List Etr => mtS a b M A M.length) (fun _ => True) (fun y => mtS a b M y.2 y.1) (fun y => y.1 <= M.length /\ mgL M y.2) (fun y => M.length - y.1) (0, M) ⟨Nat.zero_le _, mgL_refl M⟩ hw ?_ fun A _ => hC A
 rintro ⟨k, A⟩ ⟨hk, hL⟩
 simp only at hk hL
 have hz := @wz k (by omega)
 have hCl := mgC_len M 0
 have hAl := hL.1
 by_cases h : k < M.length
 . obtain ⟨x, hx⟩ := gE h
   obtain ⟨y, hy⟩ : ∃ y, A[k]? = some y := ⟨_, List.getElem?_eq_getElem (by rw [hL.1]; exact h)⟩
   have hI : (k : Int) < M.length := by omega
   have hrow := mg_row hx
   have h5 : k * 4 + 4 <= M.length * 4 := by omega
   have h6 : k * 4 < M.length * 4 := by omega
   by_cases h0 : x.a = []
   . have hro : mgRow k x = [vi x.t, vS x.w, .d (.sl 1 []), vS x.n] := by unfold mgRow mgArg; rw [if_pos h0]; rfl
     rw [hro] at hrow
     simp [p3l1, hI, hCl, hrow, h5, splice]
     refine pw_loopC (α := Unit) 2 (fun _ : Unit => ⟨slots (mtF M.length k), lk ((0, mgC 0 M) :: (mtX a b ++ mgB 0 A)), 1000⟩) (fun _ => True) (fun _ => ⟨slots (mtF M.length k ++ [(54, vi 0), (55, vi 0)]), lk ((0, mgC 0 M) :: (mtX a b ++ mgB 0 A)), 1000⟩) (fun _ => True) (fun _ => 0) () trivial ?_ ?_ ?_
     . refine mgX hE (fun i => i) M A (mtX a b) hn hL.1 (fun _ _ _ _ e => e) _ (by simp) (by simp) ⟨mgC 0 M, by simp, mgC_wc fun _ _ => rfl⟩ (by simp) (by simp) (by simp) fun j cs' hj => ?_
       obtain ⟨k2, k3, k4, k5⟩ := mg_at hj
       have k6 : j ≠ 901 := by omega
       have k7 : j ≠ 902 := by omega
       have k8 : j ≠ 3146728 := by omega
       simp [hj, k2, k3, k4, k6, k7, k8]
     . rintro _ _
       simp [p3l0, exC_exit]
       refine mgX hE (fun i => i) M A (mtX a b) hn hL.1 (fun _ _ _ _ e => e) _ (by simp) (by simp) ⟨mgC 0 M, by simp, mgC_wc fun _ _ => rfl⟩ (by simp) (by simp) (by simp) fun j cs' hj => ?_
       obtain ⟨k2, k3, k4, k5⟩ := mg_at hj
       have k6 : j ≠ 901 := by omega
       have k7 : j ≠ 902 := by omega
       simp [hj, k2, k3, k4, k6, k7]
     . rintro _ _
       simp [hz]
       refine ⟨k + 1, A, ⟨by omega, hL⟩, by omega, ?_⟩
       refine mgX hE (fun i => i) M A (mtX a b) hn hL.1 (fun _ _ _ _ e => e) _ (by simp) (by simp) ⟨mgC 0 M, by simp, mgC_wc fun _ _ => rfl⟩ (by simp) (by simp) (by simp) fun j cs' hj => ?_
       obtain ⟨k2, k3, k4, k5⟩ := mg_at hj
       have k6 : j ≠ 901 := by omega
       have k7 : j ≠ 902 := by omega
       simp [hj, k2, k3, k4, k6, k7]
   . have hro : mgRow k x = [vi x.t, vS x.w, .ls (k + 3) 0 x.a.length 1, vS x.n] := by unfold mgRow mgArg; rw [if_neg h0]
     rw [hro] at hrow
     simp [p3l1, hI, hCl, hrow, h5, splice]
     refine mg_inner a b M hn k x hx (hq x (List.mem_of_getElem? hx)) h0 E hE _ _ A hL ?_ fun A' hL' => ?_
     . have q4 : ∀ i, i < 1000 -> i ≠ 903 -> (if i = 903 then 3146728 else i) = i := fun i _ h => if_neg h
       refine mgX hE (fun i => if i = 903 then 3146728 else i) M A (mtX a b ++ [(903, [vi x.t, vS x.w, .ls (k + 3) 0 x.a.length 1, vS x.n])]) hn hL.1 (fun i j _ _ e => by
         by_cases ha : i = 903
         . by_cases hb : j = 903
           . rw [ha, hb]
           . rw [if_pos ha, if_neg hb] at e; omega
         . by_cases hb : j = 903
           . rw [if_neg ha, if_pos hb] at e; omega
           . rw [if_neg ha, if_neg hb] at e; exact e) _ (by simp) (by simp) ⟨mgC 0 M, by simp, mgC_wc fun i hi => by rw [if_neg (by omega)]⟩ (by simp; omega) (by simp; omega) (by simp) fun j cs' hj => ?_
       obtain ⟨k2, k3, k4, k5⟩ := mg_at hj
       have k6 : j ≠ 901 := by omega
       have k7 : j ≠ 902 := by omega
       have k8 : j ≠ 903 := by omega
       have k9 : j ≠ 3146728 := by omega
       simp [hj, k2, k3, k4, k6, k7, k8, k9]
     . simp [hz]
       refine ⟨k + 1, A', ⟨by omega, hL'⟩, by omega, ?_⟩
       refine mgX hE (fun i => i) M A' (mtX a b) hn hL'.1 (fun _ _ _ _ e => e) _ (by simp) (by simp) ⟨mgC 0 M, by simp, mgC_wc fun _ _ => rfl⟩ (by simp) (by simp) (by simp) fun j cs' hj => ?_
       obtain ⟨k2, k3, k4, k5⟩ := mg_at hj
       have := hL'.1
       have k6 : j ≠ 901 := by omega
       have k7 : j ≠ 902 := by omega
       have k8 : j ≠ 903 := by omega
       simp [hj, k2, k3, k4, k6, k7, k8]
 . have hI : ¬ (k : Int) < M.length := by omega
   obtain rfl : k = M.length := by omega
   simp [p3l1, exC_exit]
   refine ⟨A, ?_⟩
   refine mgX hE (fun i => i) M A (mtX a b) hn hL.1 (fun _ _ _ _ e => e) _ (by simp) (by simp) ⟨mgC 0 M, by simp, mgC_wc fun _ _ => rfl⟩ (by simp) (by simp) (by simp) fun j cs' hj => ?_
   obtain ⟨k2, k3, k4, k5⟩ := mg_at hj
   have := hL.1
   have k6 : j ≠ 901 := by omega
   have k7 : j ≠ 902 := by omega
   simp [hj, k2, k3, k4, k6, k7]
theorem mrg_split (a b : Lg) : ((∃ e : Int, mrgS a b = (⟨[], []⟩, e)) \/ (okLg a = true /\ okLg b = true /\ a.s = b.s /\ ¬ 200 < a.es.length + b.es.length /\ mrgS a b = (⟨a.s, mergeK Etr.t a.es b.es⟩, 0))) := by
 unfold mrgS
 split
 . exact .inl ⟨_, rfl⟩
 . rename_i h1
   simp only [not_or, Bool.not_eq_false] at h1
   split
   . exact .inl ⟨_, rfl⟩
   . rename_i h2
     split
     . exact .inl ⟨_, rfl⟩
     . rename_i h3
       exact .inr ⟨h1.1, h1.2, Decidable.not_not.1 h2, h3, rfl⟩
def mtR (i : Nat) : Nat := if i = 1 then 0 else if i = 2 then 1048576 else if i = 901 then 13631488 else if i = 902 then 14680064 else if i = 903 then 24117248 else 19922944 + i
theorem mtR_inj {i j : Nat} (h1 : i < 1000) (h2 : j < 1000) (e : mtR i = mtR j) : i = j := by
 unfold mtR at e
 repeat' split at e
 all_goals omega
def mtN (M : List Etr) : List Nat := 0 :: (mgB 0 M).map Prod.fst
theorem mt_N {M : List Etr} {H : Hp} (h0 : M ≠ []) (f0 : H 0 = some (mgC 0 M)) (fk : ∀ j cs, lk (mgB 0 M) j = some cs -> H j = some cs) : (∀ i ∈ mtN M, ∃ cs, H i = some cs /\ H i = some cs /\ cs ≠ [] /\ ∀ c ∈ cs, V.isCell c = true /\ A1 (fun i => i ∈ mtN M) anyD c) /\ NB0 (hpOf H (mtN M)) (.ls 0 0 M.length 4) (.d (entsD M)) := by
 have hin : ∀ (n : Nat) y, M[n]? = some y -> y.a ≠ [] -> 0 + n + 3 ∈ mtN M := fun n y h1 h2 => List.mem_cons_of_mem _ (List.mem_map.2 ⟨_, lk_memE (mgB_lk h1 h2), rfl⟩)
 refine ⟨fun i hi => ?_, rfl, by simp, fun e he => ?_, mgC 0 M, ?_, ?_⟩
 . rcases List.mem_cons.1 hi with rfl | hi
   . refine ⟨_, f0, f0, fun e => h0 ?_, fun c hc => ?_⟩
     . have := mgC_len M 0
       rw [e] at this
       exact List.length_eq_zero_iff.1 (by simp at this; omega)
     . rcases mgC_cell c hc with ⟨x, rfl⟩ | ⟨i, o, l, z, rfl, n, y, h1, h2, rfl⟩
       . exact ⟨rfl, trivial⟩
       . exact ⟨rfl, hin n y h1 h2⟩
   . obtain ⟨p, hp, rfl⟩ := List.mem_map.1 hi
     obtain ⟨n, x, h1, h2, rfl⟩ := mgB_mem hp
     have := fk _ _ (mgB_lk h1 h2)
     refine ⟨_, this, this, fun e => h2 ?_, fun c hc => ?_⟩
     . have := fcel_len (f := intL) (sz := 1) (fun _ => rfl) x.a
       rw [e] at this
       exact List.length_eq_zero_iff.1 (by simp at this; omega)
     . obtain ⟨y, _, rfl⟩ := List.mem_map.1 hc
       exact ⟨rfl, trivial⟩
 . obtain ⟨x, _, rfl⟩ := List.mem_map.1 he
   rfl
 . unfold hpOf
   rw [if_pos (by simp [mtN]), f0]
 . rw [List.drop_zero, List.take_of_length_le (by rw [mgC_len]; omega)]
   exact mg_bor fun n x h1 h2 => by
     unfold hpOf
     rw [if_pos (hin n x h1 h2)]
     exact fk _ _ (mgB_lk h1 h2)
theorem idsLt_of {n : Nat} : ∀ {l : List (Nat × List V)}, (∀ p ∈ l, p.1 < n) -> idsLt n l
 | [], _ => trivial
 | p :: r, h => ⟨h p (by simp), idsLt_of fun q hq => h q (by simp [hq])⟩
theorem mt_flat (a b : Lg) (ga : Ct prog 5 [logV a] (vb false) []) (gb : Ct prog 5 [logV b] (vb false) []) (sa : SizedL a) (sb : SizedL b) (m : Lg) (e : Int) (hm0 : m.es = []) (sm : SizedL m) (d1 : Ct prog 7 [logV a, logV b] (.tup [logV m, vi e]) []) (d2 : Ct prog 8 [logV a, logV b] (.tup [logV m, vi e]) []) : Ct prog 3 [logV a, logV b] (vb true) [] := by
 have ta := twinL_f a sa
 have tb := twinL_f b sb
 have ca := fn9 a sa
 have cb := fn9 b sb
 have cm := fn9 m sm
 obtain ⟨s, es⟩ := m
 simp only at hm0
 subst hm0
 refine CB func3 c3 fun E hE => ?_
 simp [p3]
 refine CLa ga ?_
 simp
 refine CLa gb ?_
 simp [inC, Nat.testBit]
 refine CLb (ta) (by first | (simp; done) | simp [Bor_ls, Bor1_ls, inC, Nat.testBit]) ?_
 simp [inC, Nat.testBit]
 refine CLb (tb) (by first | (simp; done) | simp [Bor_ls, Bor1_ls, inC, Nat.testBit]) ?_
 simp [splice]
 refine CLa d1 ?_
 simp [splice]
 refine CLa d2 ?_
 simp [splice]
 refine CLa cm ?_
 simp
 refine pw_loop (α := Unit) (fun _ => ⟨slots [(2, .lp 1 0), (3, .lp 2 0), (5, .lp 3 0), (6, .lp 4 0), (11, vb true), (47, vi 0), (48, vi 0)], lk [(1, [vS a.s, .d (entsD a.es)]), (2, [vS b.s, .d (entsD b.es)]), (3, [vS a.s, .d (entsD a.es)]), (4, [vS b.s, .d (entsD b.es)])], 5⟩) (fun _ => True) (fun _ => 0) () trivial ?_ ?_
 . exact WK hE (lk [(1, 0), (2, 1048576), (3, 13631488), (4, 14680064)])
 . rintro _ _
   simp [p3l1]
   refine CLa ca ?_
   simp
   refine CLa cb ?_
   simp
   apply RZ
   simp [results3]
theorem mt_own (a b : Lg) (ga : Ct prog 5 [logV a] (vb false) []) (gb : Ct prog 5 [logV b] (vb false) []) (sa : SizedL a) (sb : SizedL b) (M : List Etr) (hn : M.length <= 800) (sm : SizedL ⟨a.s, M⟩) (d1 : Ct prog 7 [logV a, logV b] (.tup [.agg [vS a.s, .ls 0 0 M.length 4], vi 0]) ((0, mgC 0 M) :: mgB 0 M)) (d2 : Ct prog 8 [logV a, logV b] (.tup [logV ⟨a.s, M⟩, vi 0]) []) (h0 : M ≠ []) : Ct prog 3 [logV a, logV b] (vb true) [] := by
 have ta := twinL_f a sa
 have tb := twinL_f b sb
 have ca := fn9 a sa
 have cb := fn9 b sb
 have cm := fn9 ⟨a.s, M⟩ sm
 have hid : idsLt 1048576 ((0, mgC 0 M) :: mgB 0 M) := ⟨by show 0 < 1048576; omega, idsLt_of fun p hp => by have := mgB_ids hp; omega⟩
 refine Ct.byK 4 gok eok mixed func3 c3 rfl (by simp [ntmps3]) (by simp) (by simp [ResIds]) fun E hE hE2 => ?_
 simp [p3, PWk_succ, PWk_zero]
 refine CLa ga ?_
 simp
 refine CLa gb ?_
 simp [inC, Nat.testBit]
 refine CLb (ta) (by first | (simp; done) | simp [Bor_ls, Bor1_ls, inC, Nat.testBit]) ?_
 simp [inC, Nat.testBit]
 refine CLb (tb) (by first | (simp; done) | simp [Bor_ls, Bor1_ls, inC, Nat.testBit]) ?_
 simp [splice]
 refine ACall.mk _ _ _ d1 (by simp) hid (by left; simp) ?_
 have hH0 := fun (H : Hp) (B : Nat) => addH_new (H := H) (b := B) (L := (0, mgC 0 M) :: mgB 0 M) (j := 0) rfl
 have hHo := fun (H : Hp) (B i : Nat) (h : i < B) => addH_old (H := H) h ((0, mgC 0 M) :: mgB 0 M)
 have hHn := fun (H : Hp) (B j : Nat) (cs : List V) (h : lk ((0, mgC 0 M) :: mgB 0 M) j = some cs) => addH_new (H := H) (b := B) h
 generalize hL : ((0, mgC 0 M) :: mgB 0 M) = L at *
 simp [splice]
 have hC0 : ∀ (H : Hp) (B : Nat), addH H B L B = some ((mgC 0 M).map (renC (B + ·))) := hH0
 have hnum : ∀ i, 3 <= i -> i < 900 -> mtR i = 19922944 + i := fun i h1 h2 => by
   unfold mtR
   rw [if_neg (by omega), if_neg (by omega), if_neg (by omega), if_neg (by omega), if_neg (by omega)]
 refine ⟨⟨slots [(2, .lp 1 0), (3, .lp 2 0), (5, .lp 901 0), (6, .lp 902 0), (7, .lp 903 0), (8, vi 0)], lk ((0, mgC 0 M) :: ((mtX a b ++ [(903, [vS a.s, .ls 0 0 M.length 4])]) ++ mgB 0 M)), 1000⟩, ?_, ?_⟩
 . refine mgX hE mtR M M (mtX a b ++ [(903, [vS a.s, .ls 0 0 M.length 4])]) hn rfl (fun i j h1 h2 e => mtR_inj h1 h2 e) _ (by simp [mtR]) (by simp) ⟨_, by simp [mtR]; exact hC0 _ _, wc_sg (fun i => 3 <= i /\ i < 900) (fun i hi => by rw [hnum i hi.1 hi.2]) fun c hc => ?_⟩ (by simp [mtR, hHo]) (by simp) (by simp) fun j cs hj => ?_
   . rcases mgC_cell c hc with h | ⟨i, o, l, z, h1, k, y, h2, h3, h4⟩
     . exact .inl h
     . have := (List.getElem?_eq_some_iff.1 h2).1
       exact .inr ⟨i, o, l, z, h1, by omega, by omega⟩
   . obtain ⟨k2, k3, k4, k5⟩ := mg_at hj
     obtain ⟨n, x, e1, e2, e3, e4⟩ := mgB_in hj
     have hlk : lk L j = some cs := by
       rw [<- hL]
       simp only [lk]
       rw [if_neg k2, hj]
     rw [hnum j (by omega) (by omega)]
     have this := fun H => hHn H 19922944 j cs hlk
     have hcs : cs.map (renC (19922944 + ·)) = cs := by
       rw [e4, fcel_int, List.map_map, map_renC_d]
     simp only [hcs] at this
     have k6 : 19922944 + j ≠ 24117248 := by omega
     simp only [upd_at]
     rw [if_neg k6, if_neg k6, this]
 . simp
   refine CLa d2 ?_
   simp [splice]
   refine ACall.nest [logV ⟨a.s, M⟩, logV ⟨a.s, M⟩] (mtN M) cm ?_ (by simp [bor1_lss]) ?_ ?_
   . refine (mt_N h0 (by simp) fun j cs hj => ?_).1
     obtain ⟨k2, k3, k4, k5⟩ := mg_at hj
     have k6 : j ≠ 901 := by omega
     have k7 : j ≠ 902 := by omega
     have k8 : j ≠ 903 := by omega
     have k9 : j ≠ 6292456 := by omega
     simp [hj, k2, k3, k4, k6, k7, k8, k9]
   . refine ⟨⟨.inl ⟨_, rfl, .inl rfl⟩, .inr (mt_N h0 (by simp) fun j cs hj => ?_).2, trivial⟩, ⟨.inl ⟨_, rfl, .inl rfl⟩, .inl ⟨_, rfl, .inl rfl⟩, trivial⟩, trivial⟩
     obtain ⟨k2, k3, k4, k5⟩ := mg_at hj
     have k6 : j ≠ 901 := by omega
     have k7 : j ≠ 902 := by omega
     have k8 : j ≠ 903 := by omega
     have k9 : j ≠ 6292456 := by omega
     simp [hj, k2, k3, k4, k6, k7, k8, k9]
   . simp
     refine mg_outer a b M hn (fun x hx => (sm.e x hx).2.1) E hE _ _ ?_ fun A => ?_
     . refine mgX hE (fun i => i) M M (mtX a b) hn rfl (fun _ _ _ _ e => e) _ (by simp) (by simp) ⟨mgC 0 M, by simp, mgC_wc fun _ _ => rfl⟩ (by simp) (by simp) (by simp) fun j cs hj => ?_
       obtain ⟨k2, k3, k4, k5⟩ := mg_at hj
       have k6 : j ≠ 901 := by omega
       have k7 : j ≠ 902 := by omega
       have k8 : j ≠ 903 := by omega
       have k9 : j ≠ 6292456 := by omega
       simp [hj, k2, k3, k4, k6, k7, k8, k9]
     . simp
       refine CLa ca ?_
       simp
       refine CLa cb ?_
       simp
       apply RZ
       simp [results3]
theorem fn3 (a b : Lg) : Ct prog 3 [logV a, logV b] (vb true) [] := by
 have ga := fn5 a
 have gb := fn5 b
 by_cases h1 : grL a = true
 . rw [h1] at ga
   refine CB func3 c3 fun E hE => ?_
   simp [p3]
   refine CLa ga ?_
   simp
   apply RZ
   simp [results3]
 simp only [Bool.not_eq_true] at h1
 rw [h1] at ga
 by_cases h2 : grL b = true
 . rw [h2] at gb
   refine CB func3 c3 fun E hE => ?_
   simp [p3]
   refine CLa ga ?_
   simp
   refine CLa gb ?_
   simp
   apply RZ
   simp [results3]
 simp only [Bool.not_eq_true] at h2
 rw [h2] at gb
 have sa := grL_sized h1
 have sb := grL_sized h2
 have d1 := fn7 a b sa sb
 have d2 := fn8 a b sa sb
 have sz : SizedL ⟨[], []⟩ := ⟨by simp, by simp, fun x hx => by cases hx⟩
 rcases mrg_split a b with ⟨e, hm⟩ | ⟨oa, ob, hs, hn, hm⟩
 . rw [hm] at d1 d2
   exact mt_flat a b ga gb sa sb ⟨[], []⟩ e rfl sz d1 d2
 . have d3 := mg_raw a b oa ob sa sb hs hn
   rw [hm] at d1 d2
   have hp := mergeK_perm Etr.t a.es b.es
   have hl : (mergeK Etr.t a.es b.es).length = a.es.length + b.es.length := by rw [hp.length_eq, List.length_append]
   have sm : SizedL ⟨a.s, mergeK Etr.t a.es b.es⟩ := ⟨sa.s, by show (mergeK Etr.t a.es b.es).length <= _; omega, fun x hx => by
     rcases List.mem_append.1 ((hp.mem_iff (a := x)).1 hx) with h | h
     . exact sa.e x h
     . exact sb.e x h⟩
   generalize mergeK Etr.t a.es b.es = M at d1 d2 d3 hl sm
   by_cases h0 : M = []
   . subst h0
     exact mt_flat a b ga gb sa sb ⟨a.s, []⟩ 0 rfl sm d1 d2
   . exact mt_own a b ga gb sa sb M (by omega) sm d3 d2 h0
end Go.Proofs.Tryd
