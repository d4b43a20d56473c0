/- Own lemmas, used by the last text. Conditions: those that each theorem states. -/
import Derived.Lib.Fields
import Derived.Lib.SpaceU
import Derived.Shelf.Strings.FieldsAny
import Derived.Test.YtcaecmiedjnacaaGreatDoorKiah
import Derived.Test.YtcaecmiedjnacaaGreatDoorKiai
import Derived.Test.YtcaecmiedjnacaaGreatDoorKial
set_option maxRecDepth 200000
set_option maxHeartbeats 8000000
namespace Go.Proofs.YtcaecmiedjnacaaGreatDoor
open Go.Joins Go.ChangeShapes Go.WideShapes Go.ChangeAt Go.RowKit Go.Psl Go.Log
theorem sh_span {n : Nat} {ds : List D} (h : Sh' Tryz.prog (n + 2) 66 ds) : ∃ k : Int × Int, ds = [Tryz.di k.1, Tryz.di k.2] := by
 rw [Sh', Tryz.underlying66] at h
 obtain ⟨a, r, rfl, h1, b, r2, rfl, h2, rfl⟩ := h
 obtain ⟨i, rfl⟩ := sh_int h1
 obtain ⟨j, rfl⟩ := sh_int h2
 exact ⟨(i, j), rfl⟩
theorem sh_load {n : Nat} {ds : List D} (h : Sh' Tryz.prog (n + 3) 68 ds) : ∃ k : Ldp, ds = Tryz.ldL k := by
 rw [Sh', Tryz.underlying68] at h
 obtain ⟨a, r, rfl, h1, b, r2, rfl, h2, rfl⟩ := h
 obtain ⟨i, rfl⟩ := sh_span h1
 obtain ⟨j, rfl⟩ := sh_span h2
 exact ⟨⟨i.1, i.2, j.1, j.2⟩, rfl⟩
theorem sh_row {n : Nat} {ds : List D} (h : Sh' Tryz.prog (n + 4) 70 ds) : ∃ k : Row, ds = Tryz.rowL k := by
 rw [Sh', Tryz.underlying70] at h
 obtain ⟨a, r, rfl, h1, b, r2, rfl, h2, rfl⟩ := h
 obtain ⟨i, rfl⟩ := sh_text h1
 obtain ⟨j, rfl⟩ := sh_load h2
 exact ⟨⟨i, j⟩, rfl⟩
theorem sh_lim {n : Nat} {ds : List D} (h : Sh' Tryz.prog (n + 2) 128 ds) : ∃ k : Lim, ds = [Tryz.di k.a, Tryz.di k.b, Tryz.di k.c] := by
 rw [Sh', Tryz.underlying128] at h
 obtain ⟨a, r, rfl, h1, b, r2, rfl, h2, c, r3, rfl, h3, rfl⟩ := h
 obtain ⟨i, rfl⟩ := sh_int h1
 obtain ⟨j, rfl⟩ := sh_int h2
 obtain ⟨k, rfl⟩ := sh_int h3
 exact ⟨⟨i, j, k⟩, rfl⟩
theorem cells70 : Tryz.prog.cellsOf 70 = 5 := by kernel_rfl
theorem sh_rows {n : Nat} {ds : List D} (h : Sh' Tryz.prog (n + 5) 38 ds) : ∃ t : List (Row), ds = [.sl 5 (t.map Tryz.rowL)] := by
 rw [Sh', Tryz.underlying38] at h
 obtain ⟨es, rfl, _, h⟩ := h
 obtain ⟨t, rfl⟩ := all_map (f := Tryz.rowL) fun x hx => sh_row (h x hx)
 exact ⟨t, by rw [cells70]⟩
theorem cells128 : Tryz.prog.cellsOf 128 = 3 := by kernel_rfl
theorem sh_lims {n : Nat} {ds : List D} (h : Sh' Tryz.prog (n + 3) 41 ds) : ∃ t : List (Lim), ds = [.sl 3 (t.map (fun k : Lim => [Tryz.di k.a, Tryz.di k.b, Tryz.di k.c]))] := by
 rw [Sh', Tryz.underlying41] at h
 obtain ⟨es, rfl, _, h⟩ := h
 obtain ⟨t, rfl⟩ := all_map (f := (fun k : Lim => [Tryz.di k.a, Tryz.di k.b, Tryz.di k.c])) fun x hx => sh_lim (h x hx)
 exact ⟨t, by rw [cells128]⟩
theorem sh_sheet {n : Nat} {ds : List D} (h : Sh' Tryz.prog (n + 6) 40 ds) : ∃ k : Sht, ds = [Tryz.dS k.s, Tryz.rowsD k.rs] := by
 rw [Sh', Tryz.underlying40] at h
 obtain ⟨a, r, rfl, h1, b, r2, rfl, h2, rfl⟩ := h
 obtain ⟨i, rfl⟩ := sh_text h1
 obtain ⟨j, rfl⟩ := sh_rows h2
 exact ⟨⟨i, j⟩, rfl⟩
theorem slice_arg {H : Type} {enc : TypeId × Value -> H} {W : World} {base : Nat} {v : Value} {d : DataW H} {p : List MemPlace} {t e : TypeId} {n : Nat} (hu : Tryz.prog.underlying t = some (.slice e)) (hp : plainB Tryz.prog n t = true)
   (hval : Value.okWide Tryz.prog W .any base t v) (h : DataW.Trod enc Tryz.prog W 0 (fun _ => true) true t v d p) : ∃ D : D, Sh' Tryz.prog n t [D] /\ R2 (GA W) W (.d D) v := by
 obtain ⟨m, hm⟩ := h
 obtain ⟨a, len, cap, rfl⟩ := okWide_slice hu hval
 obtain ⟨ds, h1, h2⟩ := read_plain n t hp m _ _ hm
 match ds, h2 with
 | [D], h2 => exact ⟨D, h1, h2.1⟩
theorem sheet_arg {H : Type} {enc : TypeId × Value -> H} {W : World} {base : Nat} {v : Value} {d : DataW H} {p : List MemPlace} (hval : Value.okWide Tryz.prog W .any base 40 v) (h : DataW.Trod enc Tryz.prog W 0 (fun _ => true) true 40 v d p) :
   ∃ k : Sht, R2 (GA W) W (Tryz.shtV k) v := by
 obtain ⟨ds, h1, h2⟩ := struct_arg (n := 6) Tryz.underlying40 (by kernel_rfl) hval h
 obtain ⟨k, hk⟩ := sh_sheet h1
 cases hk
 exact ⟨k, h2⟩
theorem lims_arg {H : Type} {enc : TypeId × Value -> H} {W : World} {base : Nat} {v : Value} {d : DataW H} {p : List MemPlace} (hval : Value.okWide Tryz.prog W .any base 41 v) (h : DataW.Trod enc Tryz.prog W 0 (fun _ => true) true 41 v d p) :
   ∃ k : List Lim, R2 (GA W) W (.d (Tryz.lmsD k)) v := by
 obtain ⟨D, h1, h2⟩ := slice_arg (n := 3) Tryz.underlying41 (by kernel_rfl) hval h
 obtain ⟨k, hk⟩ := sh_lims h1
 cases hk
 exact ⟨k, h2⟩
end Go.Proofs.YtcaecmiedjnacaaGreatDoor
namespace Go.Log
def tokB (x : By) : Prop := ∀ b ∈ x, Go.Lib.isSp b = false
theorem go_tok : ∀ (x cur r : By), tokB x -> Go.Lib.fieldsGo cur (x ++ r) = Go.Lib.fieldsGo (cur ++ x) r
 | [], cur, r, _ => by simp
 | b :: x, cur, r, h => by
   have hb := h b (by simp)
   have ih := go_tok x (cur ++ [b]) r fun c hc => h c (by simp [hc])
   simp only [List.cons_append, Go.Lib.fieldsGo, hb]
   simp only [Bool.false_eq_true, if_false]
   rw [ih]; simp
theorem go_blk : ∀ (n : Nat) (r : By), Go.Lib.fieldsGo [] (blk n ++ r) = Go.Lib.fieldsGo [] r
 | 0, r => rfl
 | n + 1, r => by
   have h : Go.Lib.isSp 32 = true := by decide
   show Go.Lib.fieldsGo [] (32 :: (blk n ++ r)) = _
   simp only [Go.Lib.fieldsGo, h, if_true, List.isEmpty_nil]
   exact go_blk n r
theorem go_sep {x : By} (hx : x ≠ []) (n : Nat) (r : By) (ht : tokB x) : Go.Lib.fieldsGo [] (x ++ ([32] ++ blk n ++ r)) = x :: Go.Lib.fieldsGo [] r := by
 rw [go_tok x [] _ ht]
 have h : Go.Lib.isSp 32 = true := by decide
 have he : ([] ++ x).isEmpty = false := by cases x with
   | nil => exact absurd rfl hx
   | cons => rfl
 show Go.Lib.fieldsGo ([] ++ x) (32 :: (blk n ++ r)) = _
 simp only [Go.Lib.fieldsGo, h, if_true, he, Bool.false_eq_true, if_false]
 rw [go_blk]; simp
theorem go_end {x : By} (hx : x ≠ []) (ht : tokB x) : Go.Lib.fieldsGo [] x = [x] := by
 have := go_tok x [] [] ht
 rw [List.append_nil] at this
 rw [this]
 cases x with
 | nil => exact absurd rfl hx
 | cons => rfl
theorem blk_app (a b : Nat) (r : By) : blk a ++ (blk b ++ r) = blk (a + b) ++ r := by
 unfold blk
 rw [<- List.append_assoc, List.replicate_append_replicate]
theorem blk_two (a b : Nat) (r : By) : blk a ++ ([32, 32] ++ blk b ++ r) = [32] ++ blk (a + 1 + b) ++ r := by
 have e : ([32, 32] : By) = blk 2 := rfl
 have e1 : ([32] : By) = blk 1 := rfl
 rw [e, e1, List.append_assoc, blk_app, blk_app, List.append_assoc, blk_app, show a + 2 + b = 1 + (a + 1 + b) by omega]
structure Tok (x : R5) : Prop where
 n : ∀ k, fK k x ≠ []
 t : ∀ k, tokB (fK k x)
theorem fields_row (l : List R5) {x : R5} (h : Tok x) : Go.Lib.fields (par0 l x ++ cels l x 4) = x.l := by
 have e : par0 l x ++ cels l x 4 = x.a ++ (blk (wd l 0 - x.a.length) ++ ([32, 32] ++ blk (wd l 1 - x.b.length) ++ (x.b ++ (blk 0 ++ ([32, 32] ++ blk (wd l 2 - x.c.length) ++ (x.c ++ (blk 0 ++ ([32, 32] ++ blk (wd l 3 - x.d.length) ++ (x.d ++ (blk 0 ++ ([32, 32] ++ blk (wd l 4 - x.e.length) ++ x.e))))))))))) := by
   have hb : blk 0 = [] := rfl
   simp [par0, cels, cel, fK, hb, List.range_succ]
 rw [e]
 unfold Go.Lib.fields
 have g0 := fun n r => go_sep (x := x.a) (h.n 0) n r (h.t 0)
 have g1 := fun n r => go_sep (x := x.b) (h.n 1) n r (h.t 1)
 have g2 := fun n r => go_sep (x := x.c) (h.n 2) n r (h.t 2)
 have g3 := fun n r => go_sep (x := x.d) (h.n 3) n r (h.t 3)
 have g4 := go_end (x := x.e) (h.n 4) (h.t 4)
 rw [blk_two, g0, blk_two, g1, blk_two, g2, blk_two, g3, g4]
 rfl
theorem splC_line : ∀ {x : By} {r : By}, noB 10 x -> splC 10 (x ++ ([10] ++ r)) = x :: splC 10 r
 | [], r, _ => by
   show splC 10 (10 :: r) = _
   simp only [splC, if_true]
 | b :: x, r, h => by
   have hb := h b (by simp)
   have ih := splC_line (x := x) (r := r) fun z hz => h z (by simp [hz])
   rw [List.cons_append]
   simp only [splC, hb, if_false]
   rw [ih]
def plB (x : By) : Prop := ∀ b ∈ x, 33 <= b.toNat /\ b.toNat <= 126
theorem plB.tok {x : By} (h : plB x) : tokB x := fun b hb => by
 have := h b hb
 simp only [Go.Lib.isSp, Bool.or_eq_false_iff, beq_eq_false_iff_ne]
 refine ⟨⟨⟨⟨⟨?_, ?_⟩, ?_⟩, ?_⟩, ?_⟩, ?_⟩ <;> (rintro rfl; exact absurd this.1 (by decide))
theorem num_pl (n : Int) : plB (numS n) := fun b hb => by
 rcases numS_by hb with rfl | h
 . exact ⟨by decide, by decide⟩
 . omega
theorem lowF_pl {b : UInt8} (h : lowF b = true) : 33 <= b.toNat /\ b.toNat <= 126 := by
 simp only [lowF, upB, loB, dgB, Bool.or_eq_true, Bool.and_eq_true, decide_eq_true_eq] at h
 rcases h with ((h | h) | h) | rfl
 . omega
 . omega
 . omega
 . exact ⟨by decide, by decide⟩
theorem name_pl {s : By} (h : nameS s = true) : plB s := fun b hb => by
 obtain ⟨i, hi⟩ := List.getElem?_of_mem hb
 simp only [nameS, madeS, Bool.and_eq_true] at h
 exact lowF_pl (fitA_iff.1 h.1 i b hi)
theorem fK_all {p : By -> Prop} {r : R5} (h0 : p r.a) (h1 : p r.b) (h2 : p r.c) (h3 : p r.d) (h4 : p r.e) (k : Nat) : p (fK k r) := by
 match k with
 | 0 => exact h0
 | 1 => exact h1
 | 2 => exact h2
 | 3 => exact h3
 | _ + 4 => exact h4
theorem tab_pl {s : Sht} (h : OkSh s) : ∀ x ∈ tabR s, ∀ k, plB (fK k x) /\ fK k x ≠ [] /\ (fK k x).length <= 20 := by
 intro x hx k
 rcases List.mem_append.1 hx with hx | hx
 . obtain ⟨r, hr, rfl⟩ := List.mem_map.1 hx
   have hn := name_len (h.n r hr)
   have hb := okLd_bd (h.ld hr)
   have q1 := numS_len2 r.l.al (by omega) (by omega)
   have q2 := numS_len2 r.l.ah (by omega) (by omega)
   have q3 := numS_len2 r.l.wl (by omega) (by omega)
   have q4 := numS_len2 r.l.wh (by omega) (by omega)
   have e : r.n ≠ [] := by intro e; rw [e] at hn; exact absurd hn.1 (by decide)
   exact fK_all (p := fun y => plB y /\ y ≠ [] /\ y.length <= 20) ⟨name_pl (h.n r hr), e, show r.n.length <= 20 by omega⟩ ⟨num_pl _, numS_ne _, Nat.le_trans q1 (by omega)⟩ ⟨num_pl _, numS_ne _, Nat.le_trans q2 (by omega)⟩ ⟨num_pl _, numS_ne _, Nat.le_trans q3 (by omega)⟩ ⟨num_pl _, numS_ne _, Nat.le_trans q4 (by omega)⟩ k
 . obtain rfl := List.mem_singleton.1 hx
   obtain ⟨b1, b2, b3, b4⟩ := sum_bds h.l
   have q1 := numS_len2 _ (by omega) (by omega : sumF Ldp.wl (s.rs.map Row.l) < 1000000000000000000)
   have q2 := numS_len2 _ (by omega) (by omega : sumF Ldp.wh (s.rs.map Row.l) < 1000000000000000000)
   have q3 := numS_len2 _ (by omega) (by omega : sumF mnP (s.rs.map Row.l) < 1000000000000000000)
   have q4 := numS_len2 _ (by omega) (by omega : sumF mxP (s.rs.map Row.l) < 1000000000000000000)
   have q0 : plB totalB := fun b hb => by
     have hq : totalB.all (fun b => decide (33 <= b.toNat /\ b.toNat <= 126)) = true := by decide
     simpa using List.all_eq_true.1 hq b hb
   exact fK_all (p := fun y => plB y /\ y ≠ [] /\ y.length <= 20) ⟨q0, (by decide : totalB ≠ []), (by decide : totalB.length <= 20)⟩ ⟨num_pl _, numS_ne _, Nat.le_trans q1 (by omega)⟩ ⟨num_pl _, numS_ne _, Nat.le_trans q2 (by omega)⟩ ⟨num_pl _, numS_ne _, Nat.le_trans q3 (by omega)⟩ ⟨num_pl _, numS_ne _, Nat.le_trans q4 (by omega)⟩ k
def lnR (l : List R5) (x : R5) : By := par0 l x ++ cels l x 4
theorem blk_by {n : Nat} {b : UInt8} (h : b ∈ blk n) : b = 32 := (List.mem_replicate.1 h).2
theorem ln_by {l : List R5} {x : R5} (h : ∀ k, plB (fK k x)) : ∀ b ∈ lnR l x, 32 <= b.toNat /\ b.toNat <= 126 := by
 intro b hb
 have h32 : b = 32 -> 32 <= b.toNat /\ b.toNat <= 126 := by rintro rfl; exact ⟨by decide, by decide⟩
 have hk : ∀ k, b ∈ fK k x -> 32 <= b.toNat /\ b.toNat <= 126 := fun k hb => by have := h k b hb; omega
 rcases List.mem_append.1 hb with hb | hb
 . rcases List.mem_append.1 hb with hb | hb
   . exact hk 0 hb
   . exact h32 (blk_by hb)
 . obtain ⟨k, _, hb⟩ := List.mem_flatMap.1 hb
   rcases List.mem_append.1 hb with hb | hb
   . rcases List.mem_append.1 hb with hb | hb
     . simp only [List.mem_cons, List.not_mem_nil, or_false, or_self] at hb
       exact h32 hb
     . exact h32 (blk_by hb)
   . exact hk _ hb
theorem ln_no {l : List R5} {x : R5} (h : ∀ k, plB (fK k x)) : noB 10 (lnR l x) := fun b hb => by
 have := ln_by h b hb
 rintro rfl
 exact absurd this.1 (by decide)
theorem ln_fields {l : List R5} {x : R5} (h : ∀ k, plB (fK k x)) (hn : ∀ k, fK k x ≠ []) : Go.Lib.fieldsD (lnR l x) = x.l := by
 rw [Go.Lib.fieldsD_ascii _ fun b hb => by have := ln_by h b hb; omega]
 exact fields_row l ⟨hn, fun k => (h k).tok⟩
theorem ln_len {l : List R5} {x : R5} (hl : ∀ y ∈ l, ∀ k, (fK k y).length <= 20) (hx : x ∈ l) : (lnR l x).length <= 108 := by
 have w : ∀ k, k < 5 -> wd l k <= 20 := fun k hk => wd_le hk fun y hy => hl y hy k
 have q := fun k => hl x hx k
 have w0 := w 0 (by omega)
 have w1 := w 1 (by omega)
 have w2 := w 2 (by omega)
 have w3 := w 3 (by omega)
 have w4 := w 4 (by omega)
 have q0 : x.a.length <= 20 := q 0
 have q1 := q 1
 have q2 := q 2
 have q3 := q 3
 have q4 := q 4
 have e : cels l x 4 = cel l x 0 ++ (cel l x 1 ++ (cel l x 2 ++ cel l x 3)) := by simp [cels, List.range_succ]
 unfold lnR
 rw [e]
 simp only [par0, cel, List.length_append, blk_len, List.length_cons, List.length_nil, Nat.zero_add, Nat.reduceAdd]
 omega
theorem splC_flat {α : Type} {f : α -> By} {r : By} : ∀ {l : List α}, (∀ x ∈ l, noB 10 (f x)) -> splC 10 (l.flatMap (fun x => f x ++ [10]) ++ r) = l.map f ++ splC 10 r
 | [], _ => rfl
 | x :: l, h => by
   have ih := splC_flat (r := r) (l := l) fun y hy => h y (by simp [hy])
   rw [List.flatMap_cons, List.append_assoc, List.append_assoc, splC_line (h x (by simp)), ih]
   rfl
theorem flat_len {α : Type} {f : α -> By} {m : Nat} : ∀ {l : List α}, (∀ x ∈ l, (f x).length <= m) -> (l.flatMap fun x => f x ++ [10]).length <= (m + 1) * l.length
 | [], _ => Nat.le_refl _
 | x :: l, h => by
   have ih := flat_len (m := m) (l := l) fun y hy => h y (by simp [hy])
   have hx := h x (by simp)
   have e : (m + 1) * (x :: l).length = (m + 1) * l.length + (m + 1) := by rw [List.length_cons, Nat.mul_add, Nat.mul_one]
   rw [List.flatMap_cons, List.length_append, List.length_append, e]
   simp only [List.length_cons, List.length_nil]
   omega
theorem laid_flat (s : Sht) : laidS (tabS s) = (tabR s).flatMap fun x => lnR (tabR s) x ++ [10] := by
 rw [<- tabR_l, <- txR_all]
 unfold txR
 rw [List.take_length]
 rfl
theorem brk_idx {l : List Ldp} {ls : List Lim} {i : Nat} (h : brkS l ls = some i) : i < ls.length := by
 unfold brkS at h
 exact (List.findIdx?_eq_some_iff_getElem.1 h).1
theorem lms_len {ls : List Lim} (h : chkLms ls = 0) : ls.length <= 12 := by
 unfold chkLms at h
 split at h
 . cases h
 . omega
theorem last_no (l : List Ldp) (ls : List Lim) : noB 10 (lastS l ls) := by
 unfold lastS
 split
 . exact noB_app (noB_lit (by decide)) (numS_no (by decide) (by decide))
 . exact noB_lit (by decide)
theorem last_len {l : List Ldp} {ls : List Lim} (h : chkLms ls = 0) : (lastS l ls).length <= 30 := by
 unfold lastS
 split
 . rename_i i hi
   have h1 := brk_idx hi
   have h2 := lms_len h
   have := numS_len2 (i : Int) (by omega) (by omega)
   rw [List.length_append]
   have e : brokenB.length = 7 := rfl
   omega
 . decide
theorem sheet_len {s : Sht} {ls : List Lim} (h : OkSh s) (hl : chkLms ls = 0) : (sheetS s ls).length <= 10000 := by
 have h1 := last_len (l := s.rs.map Row.l) hl
 have h2 := flat_len (f := lnR (tabR s)) (m := 108) (l := tabR s) fun x hx => ln_len (fun y hy k => (tab_pl h y hy k).2.2) hx
 have h3 : (tabR s).length <= 41 := by
   have := h.rows
   simp only [tabR, List.length_append, List.length_map, List.length_cons, List.length_nil]
   omega
 have h4 : s.s.length <= 8 := by
   have := h.s
   simp only [shipS, madeS, betw, Bool.and_eq_true, decide_eq_true_eq] at this
   omega
 rw [<- laid_flat] at h2
 simp only [sheetS, List.length_append, List.length_cons, List.length_nil]
 have h5 : sheetB.length = 6 := rfl
 omega
theorem spl_sheet {s : Sht} (h : OkSh s) (ls : List Lim) : splC 10 (sheetS s ls) = (sheetB ++ s.s) :: ((tabR s).map (lnR (tabR s)) ++ [lastS (s.rs.map Row.l) ls, []]) := by
 have h1 : noB 10 (sheetB ++ s.s) := noB_app (noB_lit (by decide)) (ship_no h.s (by decide))
 have e : sheetS s ls = (sheetB ++ s.s) ++ ([10] ++ ((tabR s).flatMap (fun x => lnR (tabR s) x ++ [10]) ++ (lastS (s.rs.map Row.l) ls ++ ([10] ++ [])))) := by
   unfold sheetS
   rw [laid_flat]
   simp only [List.append_assoc, List.append_nil]
 rw [e, splC_line h1, splC_flat fun x hx => ln_no fun k => (tab_pl h x hx k).1, splC_line (last_no _ _)]
 rfl
theorem trim_head (s : By) : Go.Lib.trimPrefix (sheetB ++ s) sheetB = s := by
 unfold Go.Lib.trimPrefix Go.Lib.hasPrefix
 simp
end Go.Log
namespace Go.Proofs.Tryz
open Go.Psl
open Go.Log
theorem numA_num {v : Int} (h0 : -9223372036854775808 < v) (h1 : v < 9223372036854775808) : numA (numS v) = v := by
 unfold numA
 rw [atoi_num h0 h1]
theorem mid_of {a : By} {L : List By} {t x : By} : midL (a :: (L ++ [t] ++ [x, []])) = L := by
 unfold midL
 have e : (a :: (L ++ [t] ++ [x, []])).length - 3 = L.length + 1 := by simp
 rw [e]
 simp
theorem mid_tab {s : Sht} (h : OkSh s) (ls : List Lim) : midL (splC 10 (sheetS s ls)) = s.rs.map fun r => lnR (tabR s) (rowR r) := by
 rw [spl_sheet h]
 have e : (tabR s).map (lnR (tabR s)) = (s.rs.map fun r => lnR (tabR s) (rowR r)) ++ [lnR (tabR s) (totR (s.rs.map Row.l))] := by
   have e2 : tabR s = s.rs.map rowR ++ [totR (s.rs.map Row.l)] := rfl
   generalize lnR (tabR s) = f
   rw [e2]
   simp [Function.comp_def]
 rw [e, mid_of]
theorem row_mem {s : Sht} {r : Row} (hr : r ∈ s.rs) : rowR r ∈ tabR s := List.mem_append_left _ (List.mem_map.2 ⟨r, hr, rfl⟩)
theorem row_fields {s : Sht} (h : OkSh s) {r : Row} (hr : r ∈ s.rs) : Go.Lib.fieldsD (lnR (tabR s) (rowR r)) = (rowR r).l :=
 ln_fields (fun k => (tab_pl h _ (row_mem hr) k).1) fun k => (tab_pl h _ (row_mem hr) k).2.1
theorem row_back {s : Sht} (h : OkSh s) {r : Row} (hr : r ∈ s.rs) : rowF numA (rowR r).l = r := by
 have hb := okLd_bd (h.ld hr)
 have e : rowF numA (rowR r).l = ⟨r.n, ⟨numA (numS r.l.al), numA (numS r.l.ah), numA (numS r.l.wl), numA (numS r.l.wh)⟩⟩ := rfl
 rw [e, numA_num (by omega) (by omega), numA_num (by omega) (by omega), numA_num (by omega) (by omega), numA_num (by omega) (by omega)]
theorem read_sheet {s : Sht} {ls : List Lim} (h : OkSh s) (hl : chkLms ls = 0) : readP (sheetS s ls) ls = (s, 0) := by
 have hm := mid_tab h ls
 have h5 : fiveB (sheetS s ls) = true := by
   unfold fiveB
   rw [hm]
   refine List.all_eq_true.2 fun x hx => ?_
   obtain ⟨r, hr, rfl⟩ := List.mem_map.1 hx
   rw [row_fields h hr]
   rfl
 have hr : rdSh (sheetS s ls) = s := by
   unfold rdSh
   rw [hm]
   have e1 : (splC 10 (sheetS s ls)).headD [] = sheetB ++ s.s := by rw [spl_sheet h]; rfl
   rw [e1, trim_head]
   unfold rwP
   rw [List.take_length, List.map_map]
   have e2 : s.rs.map ((fun x => rowF numA (Go.Lib.fieldsD x)) ∘ fun r => lnR (tabR s) (rowR r)) = s.rs := by
     have e3 : s.rs.map ((fun x => rowF numA (Go.Lib.fieldsD x)) ∘ fun r => lnR (tabR s) (rowR r)) = s.rs.map id := List.map_congr_left fun r hr => by
       show rowF numA (Go.Lib.fieldsD (lnR (tabR s) (rowR r))) = r
       rw [row_fields h hr, row_back h hr]
     rw [e3, List.map_id]
   rw [e2]
 have hw : writeSh s ls = (sheetS s ls, 0) := by
   unfold writeSh
   rw [if_neg (by rw [okSh_chk h]; simp), if_neg (by rw [hl]; simp)]
 have hn : ¬ 40000 < (sheetS s ls).length := by have := sheet_len h hl; omega
 have hc : ¬ ((splC 10 (sheetS s ls)).length < 4 \/ 44 < (splC 10 (sheetS s ls)).length) := by
   have := h.rows
   rw [spl_sheet h]
   simp only [tabR, List.length_append, List.length_map, List.length_cons, List.length_nil]
   omega
 unfold readP
 rw [if_neg (by rw [hl]; simp), if_neg hn, if_neg hc, if_neg (by rw [h5]; simp), hr, hw]
 simp
theorem readP_back {t : By} {ls : List Lim} (h : (readP t ls).2 = 0) : writeSh (readP t ls).1 ls = (t, 0) := by
 unfold readP at h ⊢
 split at h
 . rename_i h1; exact absurd h h1
 . split at h
   . cases h
   . split at h
     . cases h
     . split at h
       . cases h
       . split at h
         . rename_i a b c d e
           rw [if_neg a, if_neg b, if_neg c, if_neg d, if_pos e]
           exact Prod.ext e.2 e.1
         . cases h
theorem writeSh_ok {s : Sht} {ls : List Lim} (h : (writeSh s ls).2 = 0) : OkSh s /\ chkLms ls = 0 /\ (writeSh s ls).1 = sheetS s ls := by
 unfold writeSh at h ⊢
 split at h
 . rename_i h1; exact absurd h h1
 . rename_i h1
   rw [if_neg h1]
   split at h
   . rename_i h2; exact absurd h h2
   . rename_i h2
     rw [if_neg h2]
     exact ⟨okSh_of (Decidable.not_not.1 h1), Decidable.not_not.1 h2, rfl⟩
end Go.Proofs.Tryz
namespace Go.Log
def grRw (r : Row) : Bool := decide (60 < r.n.length)
def grSh (s : Sht) (ls : List Lim) : Bool := decide (50 < s.rs.length) || decide (50 < ls.length) || decide (60 < s.s.length) || s.rs.any grRw
end Go.Log
namespace Go.Proofs.Tryz
open Go.Psl
open Go.Log
theorem grSh_sized {s : Sht} {ls : List Lim} (h : grSh s ls = false) : SizedS s /\ s.rs.length <= 50 /\ ls.length <= 50 := by
 simp only [grSh, Bool.or_eq_false_iff, decide_eq_false_iff_not] at h
 obtain ⟨⟨⟨h1, h2⟩, h3⟩, h4⟩ := h
 refine ⟨⟨by omega, by omega, fun x hx => ?_⟩, by omega, by omega⟩
 have := List.any_eq_false.1 h4 x hx
 simp only [grRw, decide_eq_true_eq] at this
 omega
theorem okSh_sized {s : Sht} (h : OkSh s) : SizedS s := by
 refine ⟨?_, by have := h.rows; omega, fun x hx => by have := name_len (h.n x hx); omega⟩
 have := h.s
 simp only [shipS, madeS, betw, Bool.and_eq_true, decide_eq_true_eq] at this
 omega
theorem fn17 (s : Sht) (ls : List Lim) : Ct prog 17 [shtV s, .d (lmsD ls)] (vb (grSh s ls)) [] := by
 by_cases h1 : 50 < s.rs.length
 . have h1' : (50 : Int) < s.rs.length := by omega
   refine CB func17 c17 fun E hE => ?_
   simp [p17, h1']
   apply RZ
   simp [results17, grSh, h1]
 have h1' : ¬ (50 : Int) < s.rs.length := by omega
 by_cases h2 : 50 < ls.length
 . have h2' : (50 : Int) < ls.length := by omega
   refine CB func17 c17 fun E hE => ?_
   simp [p17, h1', h2']
   apply RZ
   simp [results17, grSh, h2]
 have h2' : ¬ (50 : Int) < ls.length := by omega
 by_cases h3 : 60 < s.s.length
 . have h3' : (60 : Int) < s.s.length := by omega
   refine CB func17 c17 fun E hE => ?_
   simp [p17, h1', h2', h3']
   apply RZ
   simp [results17, grSh, h3]
 have h3' : ¬ (60 : Int) < s.s.length := by omega
 refine CB func17 c17 fun E hE => ?_
 simp [p17, h1', h2', h3']
 refine pw_loop (α := Nat) (fun i => ⟨slots [(2, .lp 0 0), (5, vi i)], lk [(0, [vS s.s, .d (rowsD s.rs)])], 1⟩) (fun i => i <= s.rs.length /\ ∀ j, j < i -> (s.rs[j]?).all (fun x => !grRw x) = true) (fun i => s.rs.length - i) 0 ?_ ?_ ?_
 . exact ⟨by omega, fun j hj => by omega⟩
 . exact WK hE (lk [(0, 0)])
 . rintro i ⟨hi, hg3⟩
   have hz := @wz i (by omega)
   by_cases h : i < s.rs.length
   . obtain ⟨x, hx⟩ := gE h
     have hI : (i : Int) < s.rs.length := by omega
     by_cases g1 : 60 < x.n.length
     . have g1' : (60 : Int) < x.n.length := by omega
       have hbad : s.rs.any grRw = true := List.any_eq_true.2 ⟨x, List.mem_of_getElem? hx, by simp [grRw, g1]⟩
       simp [p17l0, hI, hx, g1']
       apply RZ
       simp [results17, grSh, hbad]
     have g1' : ¬ (60 : Int) < x.n.length := by omega
     simp [p17l0, hI, hx, g1', hz]
     refine ⟨i + 1, ⟨by omega, fun j hj => ?_⟩, by omega, ?_⟩
     . by_cases e : j = i
       . subst e; rw [hx]; simp [grRw, g1]
       . exact hg3 j (by omega)
     . exact WK hE (lk [(0, 0)])
   . have hI : ¬ (i : Int) < s.rs.length := by omega
     have hno : s.rs.any grRw = false := List.any_eq_false.2 fun x hx => by
       obtain ⟨j, hj⟩ := List.getElem?_of_mem hx
       have := hg3 j (by have := (List.getElem?_eq_some_iff.1 hj).1; omega)
       rw [hj] at this
       simpa using this
     simp [p17l0, hI]
     apply RZ
     simp [results17, grSh, hno, h1, h2, h3]
end Go.Proofs.Tryz
