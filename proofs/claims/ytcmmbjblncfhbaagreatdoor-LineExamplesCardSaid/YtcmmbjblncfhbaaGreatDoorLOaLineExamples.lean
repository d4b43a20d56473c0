/- The given statement holds: from the contracts of the functions that it reaches. Conditions: none. -/
import Derived.Deep.DeepWitnessRowRef
import Derived.Test.YtcmmbjblncfhbaaGreatDoorCards
import Derived.Test.YtcmmbjblncfhbaaGreatDoorJOaLineExamples
import Derived.Test.YtcmmbjblncfhbaaGreatDoorOaaj
import Derived.Test.YtcmmbjblncfhbaaGreatDoorOaao
import Derived.Test.YtcmmbjblncfhbaaGreatDoorTie
set_option maxRecDepth 200000
set_option maxHeartbeats 8000000
namespace Go.Proofs.YtcmmbjblncfhbaaGreatDoor
open Go.Joins Go.ChangeShapes Go.WideShapes Go.ChangeAt Go.RowKit Go.Psl
theorem Tryz.fnEx : Ct Tryz.prog 3 [] (.d (.lit (.bool true))) [] := Tryz.M.c488
theorem lineExamples_contract (H : Type) (enc : TypeId × Value -> H) (W : World) (base : Nat) (args : Array Value) (ds gs : List (DataW H)) (before : List MemPlace)
   (hval0 : ∀ (j : Nat) t v, Tryz.f3.params[j]? = some t -> args[j]? = some v -> Value.okWide Tryz.prog W .any base t v)
   (hW : DataW.Whole enc Tryz.prog Tryz.f3.params.toList Rows.lineExamplesSpec.vars false W args.toList ds gs before) (hL : laidMetH Tryz.prog Rows.lineExamplesRow.laid W) (hsh : W.ShapedOpen Tryz.prog) :
   Calls Tryz.prog 3 args W fun e W' => ∃ v, e = .returned v /\ Rows.lineExamplesSpec.post enc Tryz.prog Tryz.f3 false true false false W args v W' := by
 have hval : ∀ (j : Nat) t v, Tryz.f3.params[j]? = some t -> args[j]? = some v -> Value.okWide Tryz.prog W .any base t v := hval0
 have hW' := hW
 obtain ⟨p, q, hA0, hV, rfl, hfz, hnd⟩ := hW
 have hA : DataW.TrodAll enc Tryz.prog W 0 (fun _ => true) true Tryz.f3.params.toList args.toList ds p := hA0
 rw [Tryz.params3] at hA hval
 obtain ⟨rfl, rfl, rfl⟩ := trodAll_none hA
 obtain ⟨rfl, rfl⟩ := trodVars_none hV
 have hG : globW W := fun g hg => by
   simp only [useG, List.mem_cons, List.not_mem_nil, or_false] at hg
   have hp : ∀ {n : String} {d : DataW Unit} {k : Nat}, Rows.lineExamplesRow.laid[k]? = some (n, d) -> (n, d) ∈ Rows.lineExamplesRow.laid := fun h => List.mem_of_getElem? h
   rcases hg with rfl | rfl | rfl | rfl
   . exact max_laid hsh
   . exact syn_laid (laid := Rows.lineExamplesRow.laid) (hp (k := 5) rfl) hL
   . exact rng_laid (laid := Rows.lineExamplesRow.laid) (hp (k := 4) rfl) hL
   . exact pow_laid (laid := Rows.lineExamplesRow.laid) (.tail _ (.tail _ (.head _))) hL
 have hlaw : LawOk Tryz.prog 3 #[] W :=
   LawOk.of_ct (G := GA W) Tryz.fnEx (GA_of hG) trivial
 refine hlaw.mono fun e W' ⟨he, hbl⟩ => ?_
 subst he
 exact ⟨_, rfl, law_post Tryz.laidOut rfl hW' (by kernel_rfl) rfl Tryz.underlying4 rfl hbl⟩
noncomputable def lineExamples_w : List (Nat × DataW Unit) := Rows.lineExamplesRow.laid.filterMap fun x => (Tryz.prog.globalNamed x.1).map fun g => (g, x.2)
abbrev lineExamples_in : Array Value := #[]
noncomputable def lineExamples_W (os : Os) : World := errWorld gSyn 442 444 [105, 110, 118, 97, 108, 105, 100, 32, 115, 121, 110, 116, 97, 120] (errWorld gRng 442 444 [118, 97, 108, 117, 101, 32, 111, 117, 116, 32, 111, 102, 32, 114, 97, 110, 103, 101] (laidWorld lineExamples_w os))
noncomputable abbrev lineExamples_M (os : Os) : World := (lineExamples_W os).forCall (fun _ _ => 0) ⟨#[], lineExamples_in, []⟩
theorem lineExamples_vars (os : Os) : (lineExamples_M os).variablesRefB Tryz.checked.prog = true := by kernel_rfl
theorem lineExamples_rest (os : Os) : ((lineExamples_M os).heap.toList.drop Tryz.checked.prog.globals.size).take ((begin Tryz.checked.prog (fun _ _ => 0) default).world.heap.size - Tryz.checked.prog.globals.size) = (begin Tryz.checked.prog (fun _ _ => 0) default).world.heap.toList.drop Tryz.checked.prog.globals.size := by kernel_rfl
theorem lineExamples_ok (os : Os) : Input.okWideB Tryz.checked.prog (lineExamples_M os) 3 ⟨#[], lineExamples_in, []⟩ = true := by kernel_rfl
abbrev rowsOfLineExamples : List (Nat × Nat) := [(6, 32), (7, 64), (3, 20), (5, 32), (2, 1), (15, 1), (1, 1), (16, 1), (4, 256)]
theorem lineExamples_m1 (os : Os) : (DataW.laidRun Tryz.checked.prog (lineExamples_M os).memory 8 (Rows.lineExamplesRow.laid.map (·.1))).map (·.1) = some Rows.lineExamplesRow.laid := by kernel_rfl
theorem lineExamples_m2 (os : Os) : (DataW.laidRun Tryz.checked.prog (lineExamples_M os).memory 8 (Rows.lineExamplesRow.laid.map (·.1))).map (·.2) = some (rowsOfLineExamples.flatMap rowP) := by kernel_rfl
theorem lineExamples_m3 (os : Os) : laidRowsB Tryz.checked.prog (lineExamples_M os).memory (rowsOfLineExamples.flatMap rowP) = true := by kernel_rfl
theorem lineExamples_met (os : Os) : laidMet Tryz.checked.prog Rows.lineExamplesRow.laid (lineExamples_M os).memory := laidMet_rows 8 rowsOfLineExamples (lineExamples_m1 os) (lineExamples_m2 os) (by decide) (lineExamples_m3 os)
theorem lineExamples_whole (H : Type) (enc : TypeId × Value -> H) (os : Os) : ∃ places, DataW.whole enc Tryz.prog (lineExamples_M os).memory Tryz.f3.params.toList Rows.lineExamplesSpec.vars false lineExamples_in.toList 8 = some ([], [], places) := ⟨[], by kernel_rfl⟩
theorem lineExamples_lifted (os : Os) (started : os.Started) (H : Type) (enc : TypeId × Value -> H) (F : Stop.Interp) :
   ReturnsInHanded {} Tryz.checked os 3 .any ((OpenSpec.ofChange Rows.lineExamplesSpec).preRow enc Tryz.prog Tryz.f3 Rows.lineExamplesRow.domain false Rows.lineExamplesRow.laid) (((OpenSpec.ofChange Rows.lineExamplesSpec).at F).post enc Tryz.prog Tryz.f3 false true false false) := by
 have hx := lineExamples_whole H enc os
 obtain ⟨places, hx⟩ := hx
 refine returnsInHanded_of_row (C := Tryz.checked) (s := OpenSpec.ofChange Rows.lineExamplesSpec) Tryz.own started (by kernel_rfl) Tryz.func3
   (witness_row_atRef (enc := enc) (C := Tryz.checked) false (lineExamples_W os) lineExamples_in rfl (lineExamples_vars os) (lineExamples_rest os) (lineExamples_ok os)
     (OpenSpec.preRow_of_cond 8 hx (by kernel_rfl) (fun k hk => by cases hk) (by kernel_rfl) (lineExamples_met os))) ?_
 intro W base args ds gs before hval hW _ _ _ hL hsh _
 exact lineExamples_contract H enc W base args ds gs before hval hW hL hsh
theorem lineExamples_holds : Rows.LineExamplesSaid :=
 OpenClaim.holds_of_cond 3 Tryz.f3 rfl rfl rfl rfl rfl rfl rfl ⟨rfl, rfl, rfl, rfl, rfl⟩ rfl rfl rfl rfl rfl (by kernel_rfl) Tryz.func3 closed3
   (of_decide_eq_true (by kernel_rfl)) (by unfold Func.isWrapper; first | (rw [if_pos (by decide +kernel)]; kernel_rfl) | (rw [if_neg (by decide +kernel)]; exact ⟨rfl, rfl⟩))
   (fun os started H enc _ F => by rw [OpenClaim.pre_eq_preRow]; exact lineExamples_lifted os started H enc F)
theorem lineExamples_plain (f : FuncId) (fn : Func) (hf : Tryz.pinned.checked.prog.funcNamed "ballonet/ballonetlaw10.LineExamples" = some f) (hfn : Tryz.pinned.checked.prog.funcs[f]? = some fn) :
   true = Tryz.pinned.checked.prog.looks [] /\ ∀ (j : Nat) t, fn.params[j]? = some t -> Tryz.pinned.checked.prog.wantsStandIn t = false := by
 obtain rfl : f = 3 := Option.some.inj ((show Tryz.prog.funcNamed "ballonet/ballonetlaw10.LineExamples" = some 3 by kernel_rfl).symm.trans hf) |>.symm
 obtain rfl : fn = Tryz.f3 := (Option.some.inj (Tryz.func3.symm.trans hfn)).symm
 refine ⟨by kernel_rfl, fun j t ht => ?_⟩
 rw [Tryz.params3] at ht
 have hm := Array.mem_of_getElem? ht
 simp only [List.mem_toArray, List.not_mem_nil] at hm
theorem lineExamples_k1 : Rows.lineExamplesRow.wfByText (OpenSpec.ofChange Rows.lineExamplesSpec) = true := by kernel_rfl
theorem lineExamples_k2 : Tryz.pinned.checked.prog.mainIs = some (Rows.lineExamplesCard.stood.harness.1, Rows.lineExamplesCard.stood.harness.2.toList) := by kernel_rfl
theorem lineExamples_go : Tryz.pinned.checked.prog.funcs.any Func.goes = false := by kernel_rfl
theorem lineExamples_k3 : false = Rows.lineExamplesRow.goesBy Tryz.pinned.checked.prog := goes_none rfl lineExamples_go
theorem lineExamples_card : Rows.LineExamplesCardSaid :=
 Claim7.holds_tied_plain_at .later [] _ _ _ _ lineExamples_holds (fun _ h => by cases h) lineExamples_k1 (fun _ h => by cases h) lineExamples_row_tie rfl ⟨rfl, rfl⟩ lineExamples_k2 rfl lineExamples_plain lineExamples_k3
end Go.Proofs.YtcmmbjblncfhbaaGreatDoor
