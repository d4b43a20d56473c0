/- The given statement holds: from the contracts of the functions that it reaches. Conditions: none. -/
import Derived.Deep.DeepWitnessRowRef
import Derived.Test.YtcaecmiedjnacaaGreatDoorCards
import Derived.Test.YtcaecmiedjnacaaGreatDoorJKiLogSheets
import Derived.Test.YtcaecmiedjnacaaGreatDoorKiam
import Derived.Test.YtcaecmiedjnacaaGreatDoorKiao
import Derived.Test.YtcaecmiedjnacaaGreatDoorTie
set_option maxRecDepth 200000
set_option maxHeartbeats 8000000
namespace Go.Proofs.YtcaecmiedjnacaaGreatDoor
open Go.Joins Go.ChangeShapes Go.WideShapes Go.ChangeAt Go.RowKit Go.Psl Go.Log
theorem logSheets_contract (H : Type) (enc : TypeId × Value -> H) (W : World) (base : Nat) (args : Array Value) (ds gs : List (DataW H)) (before : List MemPlace)
   (hval0 : ∀ (j : Nat) t v, Tryz.f4.params[j]? = some t -> args[j]? = some v -> Value.okWide Tryz.prog W .any base t v)
   (hW : DataW.Whole enc Tryz.prog Tryz.f4.params.toList Rows.logSheetsSpec.vars false W args.toList ds gs before) (hL : laidMetH Tryz.prog Rows.logSheetsRow.laid W) (hsh : W.ShapedOpen Tryz.prog) :
   Calls Tryz.prog 4 args W fun e W' => ∃ v, e = .returned v /\ Rows.logSheetsSpec.post enc Tryz.prog Tryz.f4 false true false false W args v W' := by
 have hval : ∀ (j : Nat) t v, Tryz.f4.params[j]? = some t -> args[j]? = some v -> Value.okWide Tryz.prog W .any base t v := hval0
 have hW' := hW
 obtain ⟨p, q, hA0, hV, rfl, hfz, hnd⟩ := hW
 have hA : DataW.TrodAll enc Tryz.prog W 0 (fun _ => true) true Tryz.f4.params.toList args.toList ds p := hA0
 rw [Tryz.params4] at hA hval
 obtain ⟨v0, v1, v2, d0, d1, d2, p0, p1, p2, rfl, rfl, rfl, h0, h1, h2⟩ := trodAll_three hA
 obtain ⟨rfl, rfl⟩ := trodVars_none hV
 obtain ⟨a0, r0⟩ := sheet_arg (hval 0 40 v0 rfl rfl) h0
 obtain ⟨a1, r1⟩ := lims_arg (hval 1 41 v1 rfl rfl) h1
 obtain ⟨a2, r2⟩ := text_arg (hval 2 9 v2 rfl rfl) h2
 have hG : globW W := fun g hg => by
   simp only [useG, List.mem_cons, List.not_mem_nil, or_false] at hg
   have hp : ∀ {n : String} {d : DataW Unit} {k : Nat}, Rows.logSheetsRow.laid[k]? = some (n, d) -> (n, d) ∈ Rows.logSheetsRow.laid := fun h => List.mem_of_getElem? h
   rcases hg with rfl | rfl | rfl | rfl | rfl | rfl
   . exact spc_laid (laid := Rows.logSheetsRow.laid) (hp (k := 7) rfl) hL
   . exact wht_laid (laid := Rows.logSheetsRow.laid) (hp (k := 6) rfl) hL
   . exact max_laid hsh
   . exact syn_laid (laid := Rows.logSheetsRow.laid) (hp (k := 5) rfl) hL
   . exact rng_laid (laid := Rows.logSheetsRow.laid) (hp (k := 4) rfl) hL
   . exact pow_laid (laid := Rows.logSheetsRow.laid) (.tail _ (.tail _ (.head _))) hL
 have hlaw : LawOk Tryz.prog 4 #[v0, v1, v2] W :=
   LawOk.of_ct (G := GA W) (Tryz.fn4 a0 a1 a2) (GA_of hG) ⟨r0, r1, r2, trivial⟩
 refine hlaw.mono fun e W' ⟨he, hbl⟩ => ?_
 subst he
 exact ⟨_, rfl, law_post Tryz.laidOut rfl hW' (by kernel_rfl) rfl Tryz.underlying4 rfl hbl⟩
noncomputable def logSheets_w : List (Nat × DataW Unit) := Rows.logSheetsRow.laid.filterMap fun x => (Tryz.prog.globalNamed x.1).map fun g => (g, x.2)
abbrev logSheets_in : Array Value := #[.agg #[.string ByteArray.empty, .slice none 0 0], .slice none 0 0, .string ByteArray.empty]
noncomputable def logSheets_W (os : Os) : World := errWorld gSyn 269 271 [105, 110, 118, 97, 108, 105, 100, 32, 115, 121, 110, 116, 97, 120] (errWorld gRng 269 271 [118, 97, 108, 117, 101, 32, 111, 117, 116, 32, 111, 102, 32, 114, 97, 110, 103, 101] (whtWorld gWht 243 241 (laidWorld logSheets_w os)))
noncomputable abbrev logSheets_M (os : Os) : World := (logSheets_W os).forCall (fun _ _ => 0) ⟨#[], logSheets_in, []⟩
theorem logSheets_vars (os : Os) : (logSheets_M os).variablesRefB Tryz.checked.prog = true := by kernel_rfl
theorem logSheets_rest (os : Os) : ((logSheets_M os).heap.toList.drop Tryz.checked.prog.globals.size).take ((begin Tryz.checked.prog (fun _ _ => 0) default).world.heap.size - Tryz.checked.prog.globals.size) = (begin Tryz.checked.prog (fun _ _ => 0) default).world.heap.toList.drop Tryz.checked.prog.globals.size := by kernel_rfl
theorem logSheets_ok (os : Os) : Input.okWideB Tryz.checked.prog (logSheets_M os) 4 ⟨#[], logSheets_in, []⟩ = true := by kernel_rfl
abbrev rowsOfLogSheets : List (Nat × Nat) := [(8, 32), (9, 64), (5, 20), (7, 32), (4, 1), (18, 1), (3, 1), (19, 1), (1, 1), (16, 3), (17, 21), (0, 256), (6, 256)]
theorem logSheets_m1 (os : Os) : (DataW.laidRun Tryz.checked.prog (logSheets_M os).memory 8 (Rows.logSheetsRow.laid.map (·.1))).map (·.1) = some Rows.logSheetsRow.laid := by kernel_rfl
theorem logSheets_m2 (os : Os) : (DataW.laidRun Tryz.checked.prog (logSheets_M os).memory 8 (Rows.logSheetsRow.laid.map (·.1))).map (·.2) = some (rowsOfLogSheets.flatMap rowP) := by kernel_rfl
theorem logSheets_m3 (os : Os) : laidRowsB Tryz.checked.prog (logSheets_M os).memory (rowsOfLogSheets.flatMap rowP) = true := by kernel_rfl
theorem logSheets_met (os : Os) : laidMet Tryz.checked.prog Rows.logSheetsRow.laid (logSheets_M os).memory := laidMet_rows 8 rowsOfLogSheets (logSheets_m1 os) (logSheets_m2 os) (by decide) (logSheets_m3 os)
theorem logSheets_whole (H : Type) (enc : TypeId × Value -> H) (os : Os) : ∃ places, DataW.whole enc Tryz.prog (logSheets_M os).memory Tryz.f4.params.toList Rows.logSheetsSpec.vars false logSheets_in.toList 8 = some ([.agg [.lit (.string []), .nil], .nil, .lit (.string [])], [], places) := ⟨[], by kernel_rfl⟩
theorem logSheets_lifted (os : Os) (started : os.Started) (H : Type) (enc : TypeId × Value -> H) (F : Stop.Interp) :
   ReturnsInHanded {} Tryz.checked os 4 .any ((OpenSpec.ofChange Rows.logSheetsSpec).preRow enc Tryz.prog Tryz.f4 Rows.logSheetsRow.domain false Rows.logSheetsRow.laid) (((OpenSpec.ofChange Rows.logSheetsSpec).at F).post enc Tryz.prog Tryz.f4 false true false false) := by
 have hx := logSheets_whole H enc os
 obtain ⟨places, hx⟩ := hx
 refine returnsInHanded_of_row (C := Tryz.checked) (s := OpenSpec.ofChange Rows.logSheetsSpec) Tryz.own started (by kernel_rfl) Tryz.func4
   (witness_row_atRef (enc := enc) (C := Tryz.checked) false (logSheets_W os) logSheets_in rfl (logSheets_vars os) (logSheets_rest os) (logSheets_ok os)
     (OpenSpec.preRow_of_cond 8 hx (by kernel_rfl) (fun k hk => by cases hk) (by kernel_rfl) (logSheets_met os))) ?_
 intro W base args ds gs before hval hW _ _ _ hL hsh _
 exact logSheets_contract H enc W base args ds gs before hval hW hL hsh
theorem logSheets_holds : Rows.LogSheetsSaid :=
 OpenClaim.holds_of_cond 4 Tryz.f4 rfl rfl rfl rfl rfl rfl rfl ⟨rfl, rfl, rfl, rfl, rfl⟩ rfl rfl rfl rfl rfl (by kernel_rfl) Tryz.func4 closed4
   (of_decide_eq_true (by kernel_rfl)) (by unfold Func.isWrapper; first | (rw [if_pos (by decide +kernel)]; kernel_rfl) | (rw [if_neg (by decide +kernel)]; exact ⟨rfl, rfl⟩))
   (fun os started H enc _ F => by rw [OpenClaim.pre_eq_preRow]; exact logSheets_lifted os started H enc F)
theorem logSheets_plain (f : FuncId) (fn : Func) (hf : Tryz.pinned.checked.prog.funcNamed "ballonet/ballonetlaw09.LogSheets" = some f) (hfn : Tryz.pinned.checked.prog.funcs[f]? = some fn) :
   true = Tryz.pinned.checked.prog.looks [] /\ ∀ (j : Nat) t, fn.params[j]? = some t -> Tryz.pinned.checked.prog.wantsStandIn t = false := by
 obtain rfl : f = 4 := Option.some.inj ((show Tryz.prog.funcNamed "ballonet/ballonetlaw09.LogSheets" = some 4 by kernel_rfl).symm.trans hf) |>.symm
 obtain rfl : fn = Tryz.f4 := (Option.some.inj (Tryz.func4.symm.trans hfn)).symm
 refine ⟨by kernel_rfl, fun j t ht => ?_⟩
 rw [Tryz.params4] at ht
 have hm := Array.mem_of_getElem? ht
 simp only [List.mem_toArray, List.mem_cons, List.not_mem_nil, or_false] at hm
 rcases hm with rfl | rfl | rfl
 . exact (show Tryz.prog.wantsStandIn 40 = false by kernel_rfl)
 . exact (show Tryz.prog.wantsStandIn 41 = false by kernel_rfl)
 . exact (show Tryz.prog.wantsStandIn 9 = false by kernel_rfl)
theorem logSheets_card : Rows.LogSheetsCardSaid :=
 Claim7.holds_tied_plain_at .later [] _ _ _ _ logSheets_holds (fun _ h => by cases h) (by kernel_rfl) (fun _ h => by cases h) logSheets_row_tie rfl ⟨rfl, rfl⟩ (by kernel_rfl) rfl logSheets_plain (by kernel_rfl)
end Go.Proofs.YtcaecmiedjnacaaGreatDoor
