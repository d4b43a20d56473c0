/- The given statement holds: from the contracts of the functions that it reaches. Conditions: none. -/
import Derived.Test.YtcaecmiedjnacaaGreatDoorCards
import Derived.Test.YtcaecmiedjnacaaGreatDoorJKbLogReads
import Derived.Test.YtcaecmiedjnacaaGreatDoorKbah
import Derived.Test.YtcaecmiedjnacaaGreatDoorKbak
import Derived.Test.YtcaecmiedjnacaaGreatDoorTie
set_option maxRecDepth 200000
set_option maxHeartbeats 8000000
namespace Go.Proofs.YtcaecmiedjnacaaGreatDoor
open Go.Joins Go.ChangeShapes Go.WideShapes Go.ChangeAt Go.RowKit Go.Psl Go.Log
theorem logReads_contract (H : Type) (enc : TypeId × Value -> H) (W : World) (base : Nat) (args : Array Value) (ds gs : List (DataW H)) (before : List MemPlace)
   (hval0 : ∀ (j : Nat) t v, Tryz.f3.params[j]? = some t -> args[j]? = some v -> Value.okWide Tryz.prog W .any base t v)
   (hW : DataW.Whole enc Tryz.prog Tryz.f3.params.toList Rows.logReadsSpec.vars false W args.toList ds gs before) (hL : laidMetH Tryz.prog Rows.logReadsRow.laid W) (hsh : W.ShapedOpen Tryz.prog) :
   Calls Tryz.prog 3 args W fun e W' => ∃ v, e = .returned v /\ Rows.logReadsSpec.post enc Tryz.prog Tryz.f3 false true false false W args v W' := by
 have hval : ∀ (j : Nat) t v, Tryz.f3.params[j]? = some t -> args[j]? = some v -> Value.okWide Tryz.prog W .any base t v := hval0
 have hW' := hW
 obtain ⟨p, q, hA0, hV, rfl, hfz, hnd⟩ := hW
 have hA : DataW.TrodAll enc Tryz.prog W 0 (fun _ => true) true Tryz.f3.params.toList args.toList ds p := hA0
 rw [Tryz.params3] at hA hval
 obtain ⟨v0, d0, rfl, rfl, h0⟩ := trodAll_one hA
 obtain ⟨rfl, rfl⟩ := trodVars_none hV
 obtain ⟨a0, r0⟩ := text_arg (hval 0 9 v0 rfl rfl) h0
 have hG : globW W := fun g hg => by
   simp only [useG, List.mem_cons, List.not_mem_nil, or_false] at hg
   rcases hg with rfl | rfl | rfl | rfl
   . exact max_laid hsh
   . exact syn_laid (laid := Rows.logReadsRow.laid) (.tail _ (.tail _ (.tail _ (.tail _ (.tail _ (.head _)))))) hL
   . exact rng_laid (laid := Rows.logReadsRow.laid) (.tail _ (.tail _ (.tail _ (.tail _ (.head _))))) hL
   . exact pow_laid (laid := Rows.logReadsRow.laid) (.tail _ (.tail _ (.head _))) hL
 have hlaw : LawOk Tryz.prog 3 #[v0] W :=
   LawOk.of_ct (G := GA W) (Tryz.fn3 a0) (GA_of hG) ⟨r0, trivial⟩
 refine hlaw.mono fun e W' ⟨he, hbl⟩ => ?_
 subst he
 exact ⟨_, rfl, law_post Tryz.laidOut rfl hW' (by kernel_rfl) rfl Tryz.underlying4 rfl hbl⟩
noncomputable def logReads_w : List (Nat × DataW Unit) := Rows.logReadsRow.laid.filterMap fun x => (Tryz.prog.globalNamed x.1).map fun g => (g, x.2)
abbrev logReads_in : Array Value := #[.string ByteArray.empty]
noncomputable def logReads_W (os : Os) : World := errWorld gSyn 269 271 [105, 110, 118, 97, 108, 105, 100, 32, 115, 121, 110, 116, 97, 120] (errWorld gRng 269 271 [118, 97, 108, 117, 101, 32, 111, 117, 116, 32, 111, 102, 32, 114, 97, 110, 103, 101] (laidWorld logReads_w os))
theorem logReads_lifted (os : Os) (started : os.Started) (H : Type) (enc : TypeId × Value -> H) (F : Stop.Interp) :
   ReturnsInHanded {} Tryz.checked os 3 .any ((OpenSpec.ofChange Rows.logReadsSpec).preRow enc Tryz.prog Tryz.f3 Rows.logReadsRow.domain false Rows.logReadsRow.laid) (((OpenSpec.ofChange Rows.logReadsSpec).at F).post enc Tryz.prog Tryz.f3 false true false false) := by
 have hx : ∃ places, DataW.whole enc Tryz.prog ((logReads_W os).forCall (fun _ _ => 0) ⟨#[], logReads_in, []⟩).memory Tryz.f3.params.toList Rows.logReadsSpec.vars false logReads_in.toList 8 = some ([.lit (.string [])], [], places) := ⟨[], by kernel_rfl⟩
 obtain ⟨places, hx⟩ := hx
 refine returnsInHanded_of_row (C := Tryz.checked) (s := OpenSpec.ofChange Rows.logReadsSpec) Tryz.own started (by kernel_rfl) Tryz.func3
   (witness_row_at (enc := enc) (C := Tryz.checked) false (logReads_W os) logReads_in rfl (by kernel_rfl) (by kernel_rfl) (by kernel_rfl)
     (OpenSpec.preRow_of_cond 8 hx (by kernel_rfl) (fun k hk => by cases hk) (by kernel_rfl) (laidMet_of_run' 8 (by kernel_rfl) (by kernel_rfl)))) ?_
 intro W base args ds gs before hval hW _ _ _ hL hsh _
 exact logReads_contract H enc W base args ds gs before hval hW hL hsh
theorem logReads_holds : Rows.LogReadsSaid :=
 OpenClaim.holds_of_cond 3 Tryz.f3 rfl rfl rfl rfl rfl rfl rfl ⟨rfl, rfl, rfl, rfl, rfl⟩ rfl rfl rfl rfl rfl (by kernel_rfl) Tryz.func3 closed3
   (of_decide_eq_true (by kernel_rfl)) (by unfold Func.isWrapper; first | (rw [if_pos (by decide +kernel)]; kernel_rfl) | (rw [if_neg (by decide +kernel)]; exact ⟨rfl, rfl⟩))
   (fun os started H enc _ F => by rw [OpenClaim.pre_eq_preRow]; exact logReads_lifted os started H enc F)
theorem logReads_plain (f : FuncId) (fn : Func) (hf : Tryz.pinned.checked.prog.funcNamed "ballonet/ballonetlaw09.LogReads" = some f) (hfn : Tryz.pinned.checked.prog.funcs[f]? = some fn) :
   true = Tryz.pinned.checked.prog.looks [] /\ ∀ (j : Nat) t, fn.params[j]? = some t -> Tryz.pinned.checked.prog.wantsStandIn t = false := by
 obtain rfl : f = 3 := Option.some.inj ((show Tryz.prog.funcNamed "ballonet/ballonetlaw09.LogReads" = some 3 by kernel_rfl).symm.trans hf) |>.symm
 obtain rfl : fn = Tryz.f3 := (Option.some.inj (Tryz.func3.symm.trans hfn)).symm
 refine ⟨by kernel_rfl, fun j t ht => ?_⟩
 rw [Tryz.params3] at ht
 have hm := Array.mem_of_getElem? ht
 simp only [List.mem_toArray, List.mem_cons, List.not_mem_nil, or_false] at hm
 subst hm
 exact (show Tryz.prog.wantsStandIn 9 = false by kernel_rfl)
theorem logReads_card : Rows.LogReadsCardSaid :=
 Claim7.holds_tied_plain_at .later [] _ _ _ _ logReads_holds (fun _ h => by cases h) (by kernel_rfl) (fun _ h => by cases h) logReads_row_tie rfl ⟨rfl, rfl⟩ (by kernel_rfl) rfl logReads_plain (by kernel_rfl)
end Go.Proofs.YtcaecmiedjnacaaGreatDoor
