/- The given statement holds: from the contracts of the functions that it reaches. Conditions: none. -/
import Derived.Test.YtcaecmiedjnacaaDoorCards
import Derived.Test.YtcaecmiedjnacaaDoorJKjLogMerges
import Derived.Test.YtcaecmiedjnacaaDoorKjah
import Derived.Test.YtcaecmiedjnacaaDoorKjaj
import Derived.Test.YtcaecmiedjnacaaDoorTie
set_option maxRecDepth 200000
set_option maxHeartbeats 8000000
namespace Go.Proofs.YtcaecmiedjnacaaDoor
open Go.Joins Go.ChangeShapes Go.WideShapes Go.ChangeAt Go.RowKit Go.Psl Go.Log
theorem logMerges_contract (H : Type) (enc : TypeId × Value -> H) (W : World) (base : Nat) (args : Array Value) (ds gs : List (DataW H)) (before : List MemPlace)
   (hval0 : ∀ (j : Nat) t v, Tryd.f3.params[j]? = some t -> args[j]? = some v -> Value.okWide Tryd.prog W .any base t v)
   (hW : DataW.Whole enc Tryd.prog Tryd.f3.params.toList Rows.logMergesSpec.vars false W args.toList ds gs before) (_ : laidMetH Tryd.prog Rows.logMergesRow.laid W) (hsh : W.ShapedOpen Tryd.prog) :
   Calls Tryd.prog 3 args W fun e W' => ∃ v, e = .returned v /\ Rows.logMergesSpec.post enc Tryd.prog Tryd.f3 false true false false W args v W' := by
 have hval : ∀ (j : Nat) t v, Tryd.f3.params[j]? = some t -> args[j]? = some v -> Value.okWide Tryd.prog W .any base t v := hval0
 have hW' := hW
 obtain ⟨p, q, hA0, hV, rfl, hfz, hnd⟩ := hW
 have hA : DataW.TrodAll enc Tryd.prog W 0 (fun _ => true) true Tryd.f3.params.toList args.toList ds p := hA0
 rw [Tryd.params3] at hA hval
 obtain ⟨v0, v1, d0, d1, p0, p1, rfl, rfl, rfl, h0, h1⟩ := trodAll_two hA
 obtain ⟨rfl, rfl⟩ := trodVars_none hV
 obtain ⟨a0, r0⟩ := log_arg (hval 0 24 v0 rfl rfl) h0
 obtain ⟨a1, r1⟩ := log_arg (hval 1 24 v1 rfl rfl) h1
 have hG : globW W := fun g hg => by
   simp only [useG, List.mem_cons, List.not_mem_nil, or_false] at hg
   subst hg
   exact max_laid hsh
 have hlaw : LawOk Tryd.prog 3 #[v0, v1] W :=
   LawOk.of_ct (G := GA W) (Tryd.fn3 a0 a1) (GA_of hG) ⟨r0, r1, trivial⟩
 refine hlaw.mono fun e W' ⟨he, hbl⟩ => ?_
 subst he
 exact ⟨_, rfl, law_post Tryd.laidOut rfl hW' (by kernel_rfl) rfl Tryd.underlying4 rfl hbl⟩
noncomputable def logMerges_w : List (Nat × DataW Unit) := Rows.logMergesRow.laid.filterMap fun x => (Tryd.prog.globalNamed x.1).map fun g => (g, x.2)
abbrev logMerges_in : Array Value := #[.agg #[.string ByteArray.empty, .slice none 0 0], .agg #[.string ByteArray.empty, .slice none 0 0]]
theorem logMerges_lifted (os : Os) (started : os.Started) (H : Type) (enc : TypeId × Value -> H) (F : Stop.Interp) :
   ReturnsInHanded {} Tryd.checked os 3 .any ((OpenSpec.ofChange Rows.logMergesSpec).preRow enc Tryd.prog Tryd.f3 Rows.logMergesRow.domain false Rows.logMergesRow.laid) (((OpenSpec.ofChange Rows.logMergesSpec).at F).post enc Tryd.prog Tryd.f3 false true false false) := by
 have hx : ∃ places, DataW.whole enc Tryd.prog ((laidWorld logMerges_w os).forCall (fun _ _ => 0) ⟨#[], logMerges_in, []⟩).memory Tryd.f3.params.toList Rows.logMergesSpec.vars false logMerges_in.toList 8 = some ([.agg [.lit (.string []), .nil], .agg [.lit (.string []), .nil]], [], places) := ⟨[], by kernel_rfl⟩
 obtain ⟨places, hx⟩ := hx
 refine returnsInHanded_of_row (C := Tryd.checked) (s := OpenSpec.ofChange Rows.logMergesSpec) Tryd.own started (by kernel_rfl) Tryd.func3
   (witness_row_at (enc := enc) (C := Tryd.checked) false (laidWorld logMerges_w os) logMerges_in rfl (by kernel_rfl) (by kernel_rfl) (by kernel_rfl)
     (OpenSpec.preRow_of_cond 8 hx (by kernel_rfl) (fun k hk => by cases hk) (by kernel_rfl) (laidMet_of_run' 8 (by kernel_rfl) (by kernel_rfl)))) ?_
 intro W base args ds gs before hval hW _ _ _ hL hsh _
 exact logMerges_contract H enc W base args ds gs before hval hW hL hsh
theorem logMerges_holds : Rows.LogMergesSaid :=
 OpenClaim.holds_of_cond 3 Tryd.f3 rfl rfl rfl rfl rfl rfl rfl ⟨rfl, rfl, rfl, rfl, rfl⟩ rfl rfl rfl rfl rfl (by kernel_rfl) Tryd.func3 closed3
   (of_decide_eq_true (by kernel_rfl)) (by unfold Func.isWrapper; first | (rw [if_pos (by decide +kernel)]; kernel_rfl) | (rw [if_neg (by decide +kernel)]; exact ⟨rfl, rfl⟩))
   (fun os started H enc _ F => by rw [OpenClaim.pre_eq_preRow]; exact logMerges_lifted os started H enc F)
theorem logMerges_plain (f : FuncId) (fn : Func) (hf : Tryd.pinned.checked.prog.funcNamed "ballonet/ballonetlaw09.LogMerges" = some f) (hfn : Tryd.pinned.checked.prog.funcs[f]? = some fn) :
   false = Tryd.pinned.checked.prog.looks [] /\ ∀ (j : Nat) t, fn.params[j]? = some t -> Tryd.pinned.checked.prog.wantsStandIn t = false := by
 obtain rfl : f = 3 := Option.some.inj ((show Tryd.prog.funcNamed "ballonet/ballonetlaw09.LogMerges" = some 3 by kernel_rfl).symm.trans hf) |>.symm
 obtain rfl : fn = Tryd.f3 := (Option.some.inj (Tryd.func3.symm.trans hfn)).symm
 refine ⟨by kernel_rfl, fun j t ht => ?_⟩
 rw [Tryd.params3] at ht
 have hm := Array.mem_of_getElem? ht
 simp only [List.mem_toArray, List.mem_cons, List.not_mem_nil, or_false] at hm
 rcases hm with rfl | rfl
 . exact (show Tryd.prog.wantsStandIn 24 = false by kernel_rfl)
 . exact (show Tryd.prog.wantsStandIn 24 = false by kernel_rfl)
theorem logMerges_card : Rows.LogMergesCardSaid :=
 Claim7.holds_tied_plain_at .later [] _ _ _ _ logMerges_holds (fun _ h => by cases h) (by kernel_rfl) (fun _ h => by cases h) logMerges_row_tie rfl ⟨rfl, rfl⟩ (by kernel_rfl) rfl logMerges_plain (by kernel_rfl)
end Go.Proofs.YtcaecmiedjnacaaDoor
