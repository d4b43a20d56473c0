/- The given statement holds: from the contracts of the functions that it reaches. Conditions: none. -/
import Derived.Deep.DeepWitnessRowRef
import Derived.Test.YtcaecmiedjnacaaGreatDoorCards
import Derived.Test.YtcaecmiedjnacaaGreatDoorJKgLogExamples
import Derived.Test.YtcaecmiedjnacaaGreatDoorKgah
import Derived.Test.YtcaecmiedjnacaaGreatDoorKgan
import Derived.Test.YtcaecmiedjnacaaGreatDoorTie
set_option maxRecDepth 200000
set_option maxHeartbeats 8000000
namespace Go.Proofs.YtcaecmiedjnacaaGreatDoor
open Go.Joins Go.ChangeShapes Go.WideShapes Go.ChangeAt Go.RowKit Go.Psl Go.Log
theorem logExamples_contract (H : Type) (enc : TypeId × Value -> H) (W : World) (base : Nat) (args : Array Value) (ds gs : List (DataW H)) (before : List MemPlace)
   (hval0 : ∀ (j : Nat) t v, Tryz.f9.params[j]? = some t -> args[j]? = some v -> Value.okWide Tryz.prog W .any base t v)
   (hW : DataW.Whole enc Tryz.prog Tryz.f9.params.toList Rows.logExamplesSpec.vars false W args.toList ds gs before) (hL : laidMetH Tryz.prog Rows.logExamplesRow.laid W) (hsh : W.ShapedOpen Tryz.prog) :
   Calls Tryz.prog 9 args W fun e W' => ∃ v, e = .returned v /\ Rows.logExamplesSpec.post enc Tryz.prog Tryz.f9 false true false false W args v W' := by
 have hval : ∀ (j : Nat) t v, Tryz.f9.params[j]? = some t -> args[j]? = some v -> Value.okWide Tryz.prog W .any base t v := hval0
 have hW' := hW
 obtain ⟨p, q, hA0, hV, rfl, hfz, hnd⟩ := hW
 have hA : DataW.TrodAll enc Tryz.prog W 0 (fun _ => true) true Tryz.f9.params.toList args.toList ds p := hA0
 rw [Tryz.params9] at hA hval
 obtain ⟨rfl, rfl, rfl⟩ := trodAll_none hA
 obtain ⟨rfl, rfl⟩ := trodVars_none hV
 have hG : globW W := fun g hg => by
   simp only [useG, List.mem_cons, List.not_mem_nil, or_false] at hg
   have hp : ∀ {n : String} {d : DataW Unit} {k : Nat}, Rows.logExamplesRow.laid[k]? = some (n, d) -> (n, d) ∈ Rows.logExamplesRow.laid := fun h => List.mem_of_getElem? h
   rcases hg with rfl | rfl | rfl | rfl | rfl | rfl
   . exact spc_laid (laid := Rows.logExamplesRow.laid) (hp (k := 7) rfl) hL
   . exact wht_laid (laid := Rows.logExamplesRow.laid) (hp (k := 6) rfl) hL
   . exact max_laid hsh
   . exact syn_laid (laid := Rows.logExamplesRow.laid) (hp (k := 5) rfl) hL
   . exact rng_laid (laid := Rows.logExamplesRow.laid) (hp (k := 4) rfl) hL
   . exact pow_laid (laid := Rows.logExamplesRow.laid) (.tail _ (.tail _ (.head _))) hL
 have hlaw : LawOk Tryz.prog 9 #[] W :=
   LawOk.of_ct (G := GA W) (Tryz.fn9) (GA_of hG) trivial
 refine hlaw.mono fun e W' ⟨he, hbl⟩ => ?_
 subst he
 exact ⟨_, rfl, law_post Tryz.laidOut rfl hW' (by kernel_rfl) rfl Tryz.underlying4 rfl hbl⟩
noncomputable def logExamples_w : List (Nat × DataW Unit) := Rows.logExamplesRow.laid.filterMap fun x => (Tryz.prog.globalNamed x.1).map fun g => (g, x.2)
abbrev logExamples_in : Array Value := #[]
noncomputable def logExamples_W (os : Os) : World := errWorld gSyn 269 271 [105, 110, 118, 97, 108, 105, 100, 32, 115, 121, 110, 116, 97, 120] (errWorld gRng 269 271 [118, 97, 108, 117, 101, 32, 111, 117, 116, 32, 111, 102, 32, 114, 97, 110, 103, 101] (whtWorld gWht 243 241 (laidWorld logExamples_w os)))
noncomputable abbrev logExamples_M (os : Os) : World := (logExamples_W os).forCall (fun _ _ => 0) ⟨#[], logExamples_in, []⟩
theorem logExamples_vars (os : Os) : (logExamples_M os).variablesRefB Tryz.checked.prog = true := by kernel_rfl
theorem logExamples_rest (os : Os) : ((logExamples_M os).heap.toList.drop Tryz.checked.prog.globals.size).take ((begin Tryz.checked.prog (fun _ _ => 0) default).world.heap.size - Tryz.checked.prog.globals.size) = (begin Tryz.checked.prog (fun _ _ => 0) default).world.heap.toList.drop Tryz.checked.prog.globals.size := by kernel_rfl
theorem logExamples_ok (os : Os) : Input.okWideB Tryz.checked.prog (logExamples_M os) 9 ⟨#[], logExamples_in, []⟩ = true := by kernel_rfl
abbrev rowsOfLogExamples : List (Nat × Nat) := [(8, 32), (9, 64), (5, 20), (7, 32), (4, 1), (18, 1), (3, 1), (19, 1), (1, 1), (16, 3), (17, 21), (0, 256), (6, 256)]
theorem logExamples_m1 (os : Os) : (DataW.laidRun Tryz.checked.prog (logExamples_M os).memory 8 (Rows.logExamplesRow.laid.map (·.1))).map (·.1) = some Rows.logExamplesRow.laid := by kernel_rfl
theorem logExamples_m2 (os : Os) : (DataW.laidRun Tryz.checked.prog (logExamples_M os).memory 8 (Rows.logExamplesRow.laid.map (·.1))).map (·.2) = some (rowsOfLogExamples.flatMap rowP) := by kernel_rfl
theorem logExamples_m3 (os : Os) : laidRowsB Tryz.checked.prog (logExamples_M os).memory (rowsOfLogExamples.flatMap rowP) = true := by kernel_rfl
theorem logExamples_met (os : Os) : laidMet Tryz.checked.prog Rows.logExamplesRow.laid (logExamples_M os).memory := laidMet_rows 8 rowsOfLogExamples (logExamples_m1 os) (logExamples_m2 os) (by decide) (logExamples_m3 os)
theorem logExamples_whole (H : Type) (enc : TypeId × Value -> H) (os : Os) : ∃ places, DataW.whole enc Tryz.prog (logExamples_M os).memory Tryz.f9.params.toList Rows.logExamplesSpec.vars false logExamples_in.toList 8 = some ([], [], places) := ⟨[], by kernel_rfl⟩
theorem logExamples_lifted (os : Os) (started : os.Started) (H : Type) (enc : TypeId × Value -> H) (F : Stop.Interp) :
   ReturnsInHanded {} Tryz.checked os 9 .any ((OpenSpec.ofChange Rows.logExamplesSpec).preRow enc Tryz.prog Tryz.f9 Rows.logExamplesRow.domain false Rows.logExamplesRow.laid) (((OpenSpec.ofChange Rows.logExamplesSpec).at F).post enc Tryz.prog Tryz.f9 false true false false) := by
 have hx := logExamples_whole H enc os
 obtain ⟨places, hx⟩ := hx
 refine returnsInHanded_of_row (C := Tryz.checked) (s := OpenSpec.ofChange Rows.logExamplesSpec) Tryz.own started (by kernel_rfl) Tryz.func9
   (witness_row_atRef (enc := enc) (C := Tryz.checked) false (logExamples_W os) logExamples_in rfl (logExamples_vars os) (logExamples_rest os) (logExamples_ok os)
     (OpenSpec.preRow_of_cond 8 hx (by kernel_rfl) (fun k hk => by cases hk) (by kernel_rfl) (logExamples_met os))) ?_
 intro W base args ds gs before hval hW _ _ _ hL hsh _
 exact logExamples_contract H enc W base args ds gs before hval hW hL hsh
theorem logExamples_holds : Rows.LogExamplesSaid :=
 OpenClaim.holds_of_cond 9 Tryz.f9 rfl rfl rfl rfl rfl rfl rfl ⟨rfl, rfl, rfl, rfl, rfl⟩ rfl rfl rfl rfl rfl (by kernel_rfl) Tryz.func9 closed9
   (of_decide_eq_true (by kernel_rfl)) (by unfold Func.isWrapper; first | (rw [if_pos (by decide +kernel)]; kernel_rfl) | (rw [if_neg (by decide +kernel)]; exact ⟨rfl, rfl⟩))
   (fun os started H enc _ F => by rw [OpenClaim.pre_eq_preRow]; exact logExamples_lifted os started H enc F)
theorem logExamples_plain (f : FuncId) (fn : Func) (hf : Tryz.pinned.checked.prog.funcNamed "ballonet/ballonetlaw09.LogExamples" = some f) (hfn : Tryz.pinned.checked.prog.funcs[f]? = some fn) :
   true = Tryz.pinned.checked.prog.looks [] /\ ∀ (j : Nat) t, fn.params[j]? = some t -> Tryz.pinned.checked.prog.wantsStandIn t = false := by
 obtain rfl : f = 9 := Option.some.inj ((show Tryz.prog.funcNamed "ballonet/ballonetlaw09.LogExamples" = some 9 by kernel_rfl).symm.trans hf) |>.symm
 obtain rfl : fn = Tryz.f9 := (Option.some.inj (Tryz.func9.symm.trans hfn)).symm
 refine ⟨by kernel_rfl, fun j t ht => ?_⟩
 rw [Tryz.params9] at ht
 have hm := Array.mem_of_getElem? ht
 simp only [List.mem_toArray, List.not_mem_nil] at hm
theorem logExamples_card : Rows.LogExamplesCardSaid :=
 Claim7.holds_tied_plain_at .later [] _ _ _ _ logExamples_holds (fun _ h => by cases h) (by kernel_rfl) (fun _ h => by cases h) logExamples_row_tie rfl ⟨rfl, rfl⟩ (by kernel_rfl) rfl logExamples_plain (by kernel_rfl)
end Go.Proofs.YtcaecmiedjnacaaGreatDoor
