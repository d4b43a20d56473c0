/- Contracts: what each function of the program computes, for the arguments that its theorem names; and from there the given statement. Conditions: those that each theorem states. -/
import Derived.Test.YtaedloehfgmcnaaPd
import Derived.Shelf.SlSortCmp.NoneTotal
/- The library's sort, at whatever length, as a contract of this layer. -/
namespace Go.Psl
open Go.Shelf Go.RowKit Go.Lib Go.Sort
variable {P : Program} {ρ : Ren} {α : Type} [Inhabited α]
/-- a function's contract as what it does to a world: it adds draws and blocks -/
theorem grow_of {W W' : World} (hos : W'.os = W.os) (hta : W'.tape = W.tape) (hou : W'.output = W.output) (hdr : W.drawn ≤ W'.drawn) (hsz : W.heap.size ≤ W'.heap.size) (hb : ∀ b, b < W.heap.size → W'.heap[b]? = W.heap[b]?) :
    ∃ q os', W' = grow (W.drewN q) os' := by
  refine ⟨W'.drawn - W.drawn, W'.heap.extract W.heap.size W'.heap.size, ?_⟩
  obtain ⟨h, t, d, o, u⟩ := W
  obtain ⟨h', t', d', o', u'⟩ := W'
  simp only at hos hta hou hdr hsz hb
  subst hos hta hou
  simp only [grow, World.drewN]
  congr 1
  · apply Array.ext_getElem?
    intro i
    by_cases hi : i < h.size
    · rw [Array.getElem?_append_left hi, hb i hi]
    · rw [Array.getElem?_append_right (by omega), Array.getElem?_extract]
      split
      · congr 1; omega
      · rw [Array.getElem?_eq_none (by omega)]
  · omega
theorem flat_at {enc : α → List Value} {k : Nat} (h0 : 0 < k) (hk : ∀ x, (enc x).length = k) (l : List α) (j : Nat) (hj : j < l.length * k) : (l.flatMap enc)[j]? = some (flatK enc k l.toArray)[j]! := by
  rw [get_flatK _ _ _ _ (by simpa using hj), List.flatMap_def, flatten_get h0 _ (fun e he => by obtain ⟨x, _, rfl⟩ := List.mem_map.1 he; exact hk x)]
  have h1 : j / k < l.length := by rw [Nat.div_lt_iff_lt_mul h0]; exact hj
  have hm : j % k < k := Nat.mod_lt _ h0
  rw [List.getElem?_map, List.getElem?_eq_getElem h1]
  simp only [Option.map_some, Option.bind_some]
  have e1 : l.toArray[j / k]! = l[j / k] := by rw [getElem!_pos _ _ (by simpa using h1)]; simp
  rw [e1, List.getElem?_eq_getElem (by rw [hk]; exact hm), getElem!_pos _ _ (by rw [hk]; exact hm)]
omit [Inhabited α] in
theorem flat_len {enc : α → List Value} {k : Nat} (hk : ∀ x, (enc x).length = k) (l : List α) : (l.flatMap enc).length = l.length * k := by
  rw [List.flatMap_def, flatten_len (sz := k) _ (fun e he => by obtain ⟨x, _, rfl⟩ := List.mem_map.1 he; exact hk x), List.length_map]
theorem cV_rel {G : Gh} {W : World} {vs : List Value} (h : ∀ v ∈ vs, flatV v = true) : All2 (R1 G W) (vs.map cV) vs := by
  induction vs with
  | nil => trivial
  | cons v vs ih => exact ⟨RD.lit v (h v (by simp)), ih fun x hx => h x (by simp [hx])⟩
theorem cmpLays_of {g : Nat} {enc : α → List Value} {k : Nat} {cf : α → α → Int} (hflat : ∀ x, ∀ v ∈ enc x, flatV v = true) (hcmp : ∀ x y, Ct P g [.agg ((enc x).map cV), .agg ((enc y).map cV)] (.d (.lit (.int .i64 (cf x y)))) []) (blk off size : Nat) (w : World) : Go.Proofs.CmpLays P g #[] enc k cf blk off size w := by
  intro m os dk _ x y
  refine ((hcmp x y).2 ⟨fun _ => 0, fun _ => 0, fun _ => true, fun _ => true, fun _ => False⟩ _ #[.agg (enc x).toArray, .agg (enc y).toArray] (fun _ h => h.elim) ⟨⟨_, rfl, cV_rel (hflat x)⟩, ⟨_, rfl, cV_rel (hflat y)⟩, trivial⟩ ⟨nofun, fun i _ h => by simp [InH] at h, nofun⟩).mono fun e W' ⟨G', hp⟩ => ?_
  refine ⟨?_, grow_of hp.os hp.tape hp.output hp.drawn hp.size fun b hb => hp.block b hb fun ⟨_, h, _⟩ => by simp [InH] at h⟩
  cases e with
  | returned v => rw [rv_int hp.rv]
  | _ => exact hp.rv.elim
theorem sortFunc_cm (L : Go.Proofs.SlLaysF0.n6 P ρ) (hf : isFn P (ρ.f 6)) (k : Nat) (h0 : 0 < k) (aE : ∀ w, (isAgg (ρ.t 24)).run P w = .ok true w) (zE : ∀ w, (Go.sizeOf (ρ.t 24)).run P w = .ok k w) (enc : α → List Value) (hk : ∀ x, (enc x).length = k) (hflat : ∀ x, ∀ v ∈ enc x, flatV v = true) (cf : α → α → Int) (hO : SWO (Go.Proofs.ltOf cf)) (hT : ∀ x y, (Go.Proofs.ltOf cf) x y = false → (Go.Proofs.ltOf cf) y x = false → x = y)
    (g : Nat) (eg : ∀ args w, (callFunc g args).run P w = .ok (.enter g args) w) (hcmp : ∀ x y, Ct P g [.agg ((enc x).map cV), .agg ((enc y).map cV)] (.d (.lit (.int .i64 (cf x y)))) []) (l : List α) (hl0 : 0 < l.length) (hsz : l.length < 4611686018427387904) :
    Cm P (ρ.f 6) [.ls 0 0 l.length k, .d (.fn g [])] (lk [(0, (l.flatMap enc).map cV)]) [0] (.ret (.tup [])) (lk [(0, ((l.mergeSort fun x y => !(Go.Proofs.ltOf cf) y x).flatMap enc).map cV)]) := by
  refine ⟨hf, fun G W xs hGW hargs hpre => ?_⟩
  obtain ⟨v1, v2, rfl⟩ : ∃ v1 v2, xs = #[v1, v2] := by
    have := hargs.length
    obtain ⟨xs⟩ := xs
    match xs, this with
    | [a, b], _ => exact ⟨a, b, rfl⟩
    | [], h => simp at h
    | [_], h => simp at h
    | _ :: _ :: _ :: _, h => simp at h
  obtain ⟨h1, h2, _⟩ := hargs
  obtain ⟨hIn, hph⟩ := hpre.st 0 (by simp)
  obtain ⟨hml, ⟨_, h, _⟩ | ⟨hphl, o, cap, rfl, hcap, ho⟩⟩ := h1
  · omega
  obtain ⟨rfl, hbs0⟩ := ho (by omega)
  obtain ⟨cv, rfl, hcv⟩ : ∃ cv, v2 = .func (.func g) #[] cv ∧ cv.size = 0 := by
    cases h2 with
    | fn _ _ cv hl _ => exact ⟨cv, rfl, hl⟩
  obtain rfl : cv = #[] := Array.eq_empty_of_size_eq_zero hcv
  have hHB := hpre.hb 0 _ rfl
  obtain ⟨hnim, c, T, hb, hbs, hcl, hcr, hca⟩ := hHB.read hphl
  have hblk : G.β 0 < W.heap.size := (Array.getElem?_eq_some_iff.1 hb).1
  have hfl := flat_len hk l
  rw [List.length_map, hfl] at hcl hcr
  have hcell : ∀ j, j < l.length * k → c[j]? = some (flatK enc k l.toArray)[j]! := fun j hj => by
    have h3 := flat_at h0 hk l j hj
    have h4 : ((l.flatMap enc).map cV)[j]? = some (cV (flatK enc k l.toArray)[j]!) := by rw [List.getElem?_map, h3]; rfl
    obtain ⟨x, hx, hr⟩ := hcr.get h4
    rw [List.getElem?_take, if_pos hj, Array.getElem?_toList] at hx
    rw [hx, rv_lit hr.r2.rv]
  have hH : HoldsK enc k W (G.β 0) 0 l.toArray := fun j hj => by
    have hj' : j < l.length * k := by simpa using hj
    refine ⟨?_, ?_⟩
    · unfold World.cell?
      simp only [Nat.zero_add, hb, Option.isSome_none, Bool.false_eq_true, if_false]
      exact hcell j hj'
    · unfold World.frozen?
      simp [hb]
  have h1c : ∀ x, ∀ v ∈ enc x, v.oneCell' = true := fun x v hv => RD.oneCell (Im := fun _ => True) (W := W) (RD.lit v (hflat x v hv))
  have key := Go.Proofs.AnyQ.slices_SortFunc_total L k aE zE enc hk h1c cf hO g #[] (G.β 0) 0 cap l.toArray W eg (cmpLays_of hflat hcmp _ _ _ _) hH hblk (by simpa using hsz) hT
  have hperm : (l.mergeSort fun x y => !(Go.Proofs.ltOf cf) y x).length = l.length := List.length_mergeSort _
  generalize (l.mergeSort fun x y => !(Go.Proofs.ltOf cf) y x) = l' at key hperm ⊢
  have key' : Calls P (ρ.f 6) #[.slice (some ⟨G.β 0, 0, none⟩) l.length cap, .func (.func g) #[] #[]] W fun e w' => e = .returned (.tuple #[]) ∧ ∃ n os, w' = Go.Proofs.sortWorldK enc k W (G.β 0) 0 n l'.toArray os := by simpa using key
  refine key'.mono fun e W' ⟨he, n, os, hW'⟩ => ?_
  subst he
  have hlent : ∀ b, lentB G (lk [(0, (l.flatMap enc).map cV)]) b → b = G.β 0 := fun b ⟨i, hi, _, hbi⟩ => by
    have : i = 0 := by simp only [InH, lk] at hi; split at hi; assumption; cases hi
    rw [← hbi, this]
  have hlent0 : lentB G (lk [(0, (l.flatMap enc).map cV)]) (G.β 0) := ⟨0, hIn, hph, rfl⟩
  have hheap : ∀ b, b < W.heap.size → W'.heap[b]? = if b = G.β 0 then some (.cells (putCells id 0 (flatK enc k l'.toArray) c) T (0, 0)) else W.heap[b]? := fun b hlt => by
    rw [hW']
    show ((putRow id (Sort.ahead W n) (G.β 0) 0 (flatK enc k l'.toArray)).heap ++ os)[b]? = _
    rw [Array.getElem?_append_left (by simpa using hlt)]
    show (W.heap.modify (G.β 0) _)[b]? = _
    rw [Array.getElem?_modify]
    by_cases e : b = G.β 0
    · subst e
      simp [hb, onCells]
    · rw [if_neg (fun h => e h.symm), if_neg e]
  have hsz' : W.heap.size ≤ W'.heap.size := by rw [hW']; exact Go.Proofs.size_sortWorldK_c enc k W (G.β 0) 0 n l'.toArray os
  refine ⟨G, ⟨by rw [hW']; rfl, by rw [hW']; rfl, by rw [hW']; rfl, by rw [hW']; exact Nat.le_add_right _ _, hsz', fun b hlt hn => ?_, fun b hb => ⟨Nat.lt_of_lt_of_le (hGW b hb) hsz', .inl hb⟩, fun _ h => h, ⟨#[], rfl, trivial⟩, fun _ h => (by cases h), fun i cs hi => ?_, fun i j hi hj _ _ _ => ?_, fun i hi _ => ⟨rfl, rfl, (hpre.st i hi).2, rfl⟩⟩⟩
  · rw [hheap b hlt, if_neg (fun e : b = G.β 0 => hn (by rw [e]; exact hlent0))]
  · have hi0 : i = 0 ∧ cs = (l'.flatMap enc).map cV := by
      simp only [lk] at hi
      split at hi
      · rename_i e; cases hi; exact ⟨e, rfl⟩
      · cases hi
    obtain ⟨rfl, rfl⟩ := hi0
    have hfl' := flat_len hk l'
    refine ⟨.inr (.inl ⟨hphl.1, hphl.2, hnim, _, T, by rw [hheap _ hblk, if_pos rfl], by simp [putCells, hbs], by simp [putCells, hfl', hperm]; exact hcl, ?_, ?_⟩), fun _ => .inr hlent0, fun x hx => ?_⟩
    · refine All2.of_get ?_ fun j x y hx hy => ?_
      · simp [putCells, hfl', hperm]; omega
      · have hj : j < l'.length * k := by
          have := (List.getElem?_eq_some_iff.1 hx).1
          simpa [hfl'] using this
        rw [List.getElem?_map, flat_at h0 hk l' j hj] at hx
        cases hx
        rw [List.getElem?_take, List.length_map, hfl', if_pos hj, Array.getElem?_toList] at hy
        have hjc : j < c.size := by rw [hperm] at hj; omega
        simp only [putCells, Array.getElem?_mapIdx, Array.getElem?_eq_getElem hjc, Option.map_some, Nat.zero_le, true_and, Nat.zero_add, size_flatK, List.size_toArray, hj, if_true, Option.some.injEq, Nat.sub_zero, id] at hy
        subst hy
        have hm := flat_at h0 hk l' j hj
        have hmem := List.mem_of_getElem? hm
        obtain ⟨a, _, ha⟩ := List.mem_flatMap.1 hmem
        exact RD.lit _ (hflat a _ ha)
    · simp only [List.all_map, List.all_eq_true]
      intro v _; rfl
    · obtain ⟨v, _, rfl⟩ := List.mem_map.1 hx
      trivial
  · have e1 : i = 0 := by simp only [InH, lk] at hi; split at hi; assumption; cases hi
    have e2 : j = 0 := by simp only [InH, lk] at hj; split at hj; assumption; cases hj
    rw [e1, e2]
end Go.Psl
/- A result that is only read from now on is data: the blocks that it names are nobody's any more. -/
namespace Go.Psl
variable {P : Program} {G : Gh} {W : World} {H : Hp}
def fzIm (G : Gh) (H : Hp) (b : Nat) : Prop := G.Im b ∨ ∃ i, InH H i ∧ G.ph i = false ∧ G.β i = b
theorem fz0 (hp : ∀ id cs, H id = some cs → HB G W id cs) {v c : V} {x : Value} (hb : Bor0 H v c) (hx : RV G W v x) : R0 { G with Im := fzIm G H } W c x := by
  have him : ∀ b, G.Im b → fzIm G H b ∧ W.heap[b]? = W.heap[b]? := fun b hb => ⟨.inl hb, rfl⟩
  have hless : ∀ i cs, H i = some cs → H i = some cs ∧ True := fun i cs h => by
    exact ⟨h, trivial⟩
  unfold Bor0 at hb
  split at hb
  · rename_i y z
    rcases hb with rfl | ⟨rfl, sz, rfl⟩
    · exact RD.mono (x := y) hx him
    · have := rv_lit hx
      subst this
      exact RD.sl sz [] none 0 (fun _ _ => undef) (by simp) (by simp [maxL]) (by simp) (by simp) (by simp)
  · rename_i id off len sz sz' es
    obtain ⟨rfl, hl, hes, cs, hh0, hcs⟩ := hb
    obtain ⟨hh, hnin⟩ := hless _ _ hh0
    obtain ⟨hml, ⟨hph, h0, rfl⟩ | ⟨hph, o', cap, rfl, hcap, hoff⟩⟩ := hx
    · have : es = [] := List.eq_nil_of_length_eq_zero (by omega)
      subst this
      exact RD.sl sz' [] none 0 (fun _ _ => undef) (by simp) (by simp [maxL]) (by simp) (by simp) (by simp)
    · obtain ⟨_, c, T, hg, hbs, hcl, hcr, _⟩ := (hp id cs hh).read hph
      have hfl := flatten_len es hes
      have hlen : ((cs.drop off).take (len * sz')).length = len * sz' := by rw [hcs, List.length_map, hfl, hl]
      have hfit : off + len * sz' ≤ cs.length ∨ len * sz' = 0 := by simp at hlen; omega
      subst hl
      refine RD.sl sz' es (some ⟨G.β id, o', none⟩) cap (fun i j => c.toList.getD (off + i * sz' + j) undef) hes hml hcap (fun i e he => ⟨_, rfl, .inr ⟨id, by show (H id).isSome = true; rw [hh]; rfl, hph.1, rfl⟩, fun j y hy => ?_⟩) (fun i e he j y hy => ?_)
      all_goals
        have hil : i < es.length := (List.getElem?_eq_some_iff.1 he).1
        have hel := hes e (List.mem_of_getElem? he)
        have hjl : j < sz' := by have := (List.getElem?_eq_some_iff.1 hy).1; omega
        have hij : i * sz' + j < es.length * sz' := by
          have : (i + 1) * sz' ≤ es.length * sz' := Nat.mul_le_mul_right _ hil
          rw [Nat.add_mul] at this; omega
        have hfit' : off + es.length * sz' ≤ cs.length := by omega
        have hcell : cs[off + (i * sz' + j)]? = some (.d y) := by
          have h1 : ((cs.drop off).take (es.length * sz'))[i * sz' + j]? = some (V.d y) := by
            rw [hcs, List.getElem?_map, flatten_get (by omega) es hes]
            have e1 : (i * sz' + j) / sz' = i := by rw [Nat.add_comm, Nat.add_mul_div_right _ _ (by omega), Nat.div_eq_of_lt hjl]; omega
            have e2 : (i * sz' + j) % sz' = j := by rw [Nat.add_comm, Nat.add_mul_mod_self_right, Nat.mod_eq_of_lt hjl]
            rw [e1, e2, he]; simp [hy]
          rw [List.getElem?_take, if_pos hij, List.getElem?_drop] at h1
          exact h1
        obtain ⟨u, hu, hru⟩ := hcr.get hcell
        rw [List.getElem?_take] at hu
        split at hu
        rotate_left
        · cases hu
      · obtain ⟨rfl, _⟩ := hoff (by omega)
        rw [add_plain]
        simp only [World.cell?, hg]
        rw [Array.getElem?_toList] at hu
        have h2 : c.toList.getD (o' + i * sz' + j) undef = u := by
          rw [List.getD_eq_getElem?_getD, Array.getElem?_toList, show o' + i * sz' + j = o' + (i * sz' + j) by omega, hu]; rfl
        rw [h2]
        simpa using hu
      · have h2 : c.toList.getD (off + i * sz' + j) undef = u := by
          rw [List.getD_eq_getElem?_getD, show off + i * sz' + j = off + (i * sz' + j) by omega, hu]; rfl
        show RD _ _ y (c.toList.getD (off + i * sz' + j) undef)
        rw [h2]
        exact RD.mono (x := y) hru him
  · rename_i id off ds
    obtain ⟨cs, hh0, hcs⟩ := hb
    obtain ⟨hh, hnin⟩ := hless _ _ hh0
    obtain ⟨hph, rfl⟩ : (G.ph id = false ∧ G.lo id = false) ∧ x = .pointer (some ⟨G.β id, off, none⟩) := hx
    obtain ⟨_, c, T, hg, hbs, hcl, hcr, _⟩ := (hp id cs hh).read hph
    have get : ∀ (j : Nat) y, ds[j]? = some y → ∃ u, c.toList[off + j]? = some u ∧ RD (fzIm G H) W y u := fun j y hy => by
      have hj := (List.getElem?_eq_some_iff.1 hy).1
      have h1 : ((cs.drop off).take ds.length)[j]? = some (V.d y) := by rw [hcs, List.getElem?_map, hy]; rfl
      rw [List.getElem?_take, if_pos hj, List.getElem?_drop] at h1
      obtain ⟨u, hu, hru⟩ := hcr.get h1
      rw [List.getElem?_take] at hu
      split at hu
      · exact ⟨u, hu, RD.mono (x := y) hru him⟩
      · cases hu
    refine RD.ref ds _ (fun j => c.toList.getD (off + j) undef) (.inr ⟨id, by show (H id).isSome = true; rw [hh]; rfl, hph.1, rfl⟩) (fun j y hy => ?_) (fun j y hy => ?_)
    · obtain ⟨u, hu, _⟩ := get j y hy
      rw [add_plain, List.getD_eq_getElem?_getD, hu]
      simp only [World.cell?, hg]
      simpa using hu
    · obtain ⟨u, hu, hr⟩ := get j y hy
      rw [List.getD_eq_getElem?_getD, hu]
      exact hr
  · rename_i f caps g ds
    obtain ⟨rfl, rfl⟩ := hb
    obtain ⟨cv, rfl, hcr⟩ := hx
    have hl := hcr.length
    refine RD.fn f ds cv (by simpa using hl.symm) fun j y v hy hv => ?_
    have h1 : (ds.map V.d)[j]? = some (V.d y) := by rw [List.getElem?_map, hy]; rfl
    obtain ⟨u, hu, hru⟩ := hcr.get h1
    rw [Array.getElem?_toList, hv] at hu
    cases hu
    exact RD.mono (x := y) hru him
  · obtain ⟨rfl, rfl⟩ := hb; exact hx
  · obtain ⟨rfl, rfl, rfl, rfl⟩ := hb; exact hx
  · have hb : _ = _ := hb; subst hb; exact hx
  · exact hb.elim
/-- what a result is frozen to -/
def Fz1 (H : Hp) : V → V → Prop
  | .agg cs, .agg ds => cs = ds ∧ ∀ c ∈ cs, ∃ x, c = .d x
  | v, .d y => Bor0 H v (.d y)
  | _, _ => False
def Fz (H : Hp) : V → V → Prop
  | .tup vs, .tup ws => All2 (Fz1 H) vs ws
  | v, w => Fz1 H v w
theorem fz1 (hp : ∀ id cs, H id = some cs → HB G W id cs) {v c : V} {x : Value} (hb : Fz1 H v c) (hx : R2 G W v x) : R2 { G with Im := fzIm G H } W c x := by
  unfold Fz1 at hb
  split at hb
  · rename_i cs ds
    obtain ⟨rfl, hd⟩ := hb
    obtain ⟨cv, rfl, hr⟩ := hx
    refine ⟨cv, rfl, hr.mono fun c hc v h => ?_⟩
    obtain ⟨y, rfl⟩ := hd c hc
    exact RD.mono (x := y) h fun b hb => ⟨.inl hb, rfl⟩
  · refine R1.r2 (R0.r1 (fz0 hp hb (R2.rv hx)))
  · exact hb.elim
theorem fz1_wf {v c : V} (hb : Fz1 H v c) : A2 (fun _ => False) anyD c := by
  unfold Fz1 at hb
  split at hb
  · rename_i cs ds
    obtain ⟨rfl, hd⟩ := hb
    intro c hc
    obtain ⟨y, rfl⟩ := hd c hc
    trivial
  · trivial
  · exact hb.elim
theorem fz_rel (hp : ∀ id cs, H id = some cs → HB G W id cs) {v c : V} {x : Value} (hb : Fz H v c) (hx : RV G W v x) : RV { G with Im := fzIm G H } W c x := by
  unfold Fz at hb
  split at hb
  · rename_i vs ws
    obtain ⟨cv, rfl, hr⟩ := hx
    refine ⟨cv, rfl, All2.of_get (by rw [← hb.length, hr.length]) fun i y z hy hz => ?_⟩
    obtain ⟨w, hw, hbw⟩ := hb.get2 hy
    obtain ⟨u, hu, hru⟩ := hr.get hw
    rw [hz] at hu; cases hu
    exact fz1 hp hbw hru
  · refine R2.rv (fz1 hp hb ?_)
    cases v <;> first | exact hx | (exfalso; revert hb; cases c <;> simp [Fz1, Bor0]; done)
theorem fz_wf {v c : V} (hb : Fz H v c) : AV (fun _ => False) anyD c := by
  unfold Fz at hb
  split at hb
  · rename_i vs ws
    intro w hw
    obtain ⟨i, hi⟩ := List.getElem?_of_mem hw
    obtain ⟨u, _, hu⟩ := hb.get2 hi
    exact fz1_wf hu
  · have := fz1_wf hb
    cases c <;> first | exact this | (revert hb; simp [Fz1]; done)
theorem Cm.freeze {f : FuncId} {args : List V} {Hin : Hp} {r r' : V} {H1 : Hp} (h : Cm P f args Hin [] (.ret r) H1) (hf : Fz H1 r r') : Cm P f args Hin [] (.ret r') (fun _ => none) := by
  refine ⟨h.1, fun G W xs him hargs hpre => Calls.mono (h.2 G W xs him hargs hpre) fun e W' ⟨G', p⟩ => ?_⟩
  have hB : ∀ id cs, H1 id = some cs → HB G' W' id cs := fun id cs hid => (p.hb id cs hid).1
  have hblk : ∀ i, InH H1 i → G'.ph i = false → G'.β i < W'.heap.size := fun i hi hph => by
    cases hc : H1 i with
    | none => simp [InH, hc] at hi
    | some cs =>
      rcases hB i cs hc with ⟨h1, _⟩ | ⟨_, _, _, c, T, h3, _⟩ | ⟨_, _, _, fr, nt, ps, pa, pb, jmp, rec, _, h4, _⟩
      · rw [h1] at hph; cases hph
      · exact (Array.getElem?_eq_some_iff.1 h3).1
      · exact (Array.getElem?_eq_some_iff.1 h4).1
  refine ⟨{ G' with Im := fzIm G' H1 }, p.os, p.tape, p.output, p.drawn, p.size, p.block, fun b hb => ?_, fun b hb => .inl (p.im0 b hb), ?_, ?_, fun i cs h => (by cases h), fun i j h => (by simp [InH] at h), fun i h => (by cases h)⟩
  · rcases hb with hb | ⟨i, hi, hph, rfl⟩
    · exact p.im b hb
    · refine ⟨hblk i hi hph, .inr ?_⟩
      cases hc : H1 i with
      | none => simp [InH, hc] at hi
      | some cs => exact (p.hb i cs hc).2.1 hph
  · have hrv := p.rv
    cases e with
    | returned v => exact fz_rel hB hf hrv
    | _ => exact hrv.elim
  · show AV (InH fun _ => none) anyD r'
    exact AV.mono (fun _ h => h.elim) (fun _ h => h) (fz_wf hf)
end Go.Psl
