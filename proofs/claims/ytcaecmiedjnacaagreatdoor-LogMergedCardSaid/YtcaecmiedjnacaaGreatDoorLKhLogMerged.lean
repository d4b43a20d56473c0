/- The given statement holds: from the contracts of the functions that it reaches. Conditions: none. -/
import Derived.Deep.DeepWitnessRowRef
import Derived.Test.YtcaecmiedjnacaaGreatDoorCards
import Derived.Test.YtcaecmiedjnacaaGreatDoorJKhLogMerged
import Derived.Test.YtcaecmiedjnacaaGreatDoorKhah
import Derived.Test.YtcaecmiedjnacaaGreatDoorKhan
import Derived.Test.YtcaecmiedjnacaaGreatDoorTie
set_option maxRecDepth 200000
set_option maxHeartbeats 8000000
namespace Go.Proofs.YtcaecmiedjnacaaGreatDoor
open Go.Joins Go.ChangeShapes Go.WideShapes Go.ChangeAt Go.RowKit Go.Psl Go.Log
theorem logMerged_contract (H : Type) (enc : TypeId × Value -> H) (W : World) (base : Nat) (args : Array Value) (ds gs : List (DataW H)) (before : List MemPlace)
   (hval0 : ∀ (j : Nat) t v, Tryz.f10.params[j]? = some t -> args[j]? = some v -> Value.okWide Tryz.prog W .any base t v)
   (hW : DataW.Whole enc Tryz.prog Tryz.f10.params.toList Rows.logMergedSpec.vars false W args.toList ds gs before) (hL : laidMetH Tryz.prog Rows.logMergedRow.laid W) (hsh : W.ShapedOpen Tryz.prog) :
   Calls Tryz.prog 10 args W fun e W' => ∃ v, e = .returned v /\ Rows.logMergedSpec.post enc Tryz.prog Tryz.f10 false true false false W args v W' := by
 have hval : ∀ (j : Nat) t v, Tryz.f10.params[j]? = some t -> args[j]? = some v -> Value.okWide Tryz.prog W .any base t v := hval0
 have hW' := hW
 obtain ⟨p, q, hA0, hV, rfl, hfz, hnd⟩ := hW
 have hA : DataW.TrodAll enc Tryz.prog W 0 (fun _ => true) true Tryz.f10.params.toList args.toList ds p := hA0
 rw [Tryz.params10] at hA hval
 obtain ⟨v0, v1, d0, d1, p0, p1, rfl, rfl, rfl, h0, h1⟩ := trodAll_two hA
 obtain ⟨rfl, rfl⟩ := trodVars_none hV
 obtain ⟨a0, r0⟩ := log_arg (hval 0 24 v0 rfl rfl) h0
 obtain ⟨a1, r1⟩ := log_arg (hval 1 24 v1 rfl rfl) h1
 have hG : globW W := fun g hg => by
   simp only [useG, List.mem_cons, List.not_mem_nil, or_false] at hg
   have hp : ∀ {n : String} {d : DataW Unit} {k : Nat}, Rows.logMergedRow.laid[k]? = some (n, d) -> (n, d) ∈ Rows.logMergedRow.laid := fun h => List.mem_of_getElem? h
   rcases hg with rfl | rfl | rfl | rfl | rfl | rfl
   . exact spc_laid (laid := Rows.logMergedRow.laid) (hp (k := 7) rfl) hL
   . exact wht_laid (laid := Rows.logMergedRow.laid) (hp (k := 6) rfl) hL
   . exact max_laid hsh
   . exact syn_laid (laid := Rows.logMergedRow.laid) (hp (k := 5) rfl) hL
   . exact rng_laid (laid := Rows.logMergedRow.laid) (hp (k := 4) rfl) hL
   . exact pow_laid (laid := Rows.logMergedRow.laid) (.tail _ (.tail _ (.head _))) hL
 have hlaw : LawOk Tryz.prog 10 #[v0, v1] W :=
   LawOk.of_ct (G := GA W) (Tryz.fn10 a0 a1) (GA_of hG) ⟨r0, r1, trivial⟩
 refine hlaw.mono fun e W' ⟨he, hbl⟩ => ?_
 subst he
 exact ⟨_, rfl, law_post Tryz.laidOut rfl hW' (by kernel_rfl) rfl Tryz.underlying4 rfl hbl⟩
noncomputable def logMerged_w : List (Nat × DataW Unit) := Rows.logMergedRow.laid.filterMap fun x => (Tryz.prog.globalNamed x.1).map fun g => (g, x.2)
abbrev logMerged_in : Array Value := #[.agg #[.string ByteArray.empty, .slice none 0 0], .agg #[.string ByteArray.empty, .slice none 0 0]]
noncomputable def logMerged_W (os : Os) : World := errWorld gSyn 269 271 [105, 110, 118, 97, 108, 105, 100, 32, 115, 121, 110, 116, 97, 120] (errWorld gRng 269 271 [118, 97, 108, 117, 101, 32, 111, 117, 116, 32, 111, 102, 32, 114, 97, 110, 103, 101] (whtWorld gWht 243 241 (laidWorld logMerged_w os)))
noncomputable abbrev logMerged_M (os : Os) : World := (logMerged_W os).forCall (fun _ _ => 0) ⟨#[], logMerged_in, []⟩
theorem logMerged_vars (os : Os) : (logMerged_M os).variablesRefB Tryz.checked.prog = true := by kernel_rfl
theorem logMerged_rest (os : Os) : ((logMerged_M os).heap.toList.drop Tryz.checked.prog.globals.size).take ((begin Tryz.checked.prog (fun _ _ => 0) default).world.heap.size - Tryz.checked.prog.globals.size) = (begin Tryz.checked.prog (fun _ _ => 0) default).world.heap.toList.drop Tryz.checked.prog.globals.size := by kernel_rfl
theorem logMerged_ok (os : Os) : Input.okWideB Tryz.checked.prog (logMerged_M os) 10 ⟨#[], logMerged_in, []⟩ = true := by kernel_rfl
abbrev rowsOfLogMerged : List (Nat × Nat) := [(8, 32), (9, 64), (5, 20), (7, 32), (4, 1), (18, 1), (3, 1), (19, 1), (1, 1), (16, 3), (17, 21), (0, 256), (6, 256)]
theorem logMerged_m1 (os : Os) : (DataW.laidRun Tryz.checked.prog (logMerged_M os).memory 8 (Rows.logMergedRow.laid.map (·.1))).map (·.1) = some Rows.logMergedRow.laid := by kernel_rfl
theorem logMerged_m2 (os : Os) : (DataW.laidRun Tryz.checked.prog (logMerged_M os).memory 8 (Rows.logMergedRow.laid.map (·.1))).map (·.2) = some (rowsOfLogMerged.flatMap rowP) := by kernel_rfl
theorem logMerged_m3 (os : Os) : laidRowsB Tryz.checked.prog (logMerged_M os).memory (rowsOfLogMerged.flatMap rowP) = true := by kernel_rfl
theorem logMerged_met (os : Os) : laidMet Tryz.checked.prog Rows.logMergedRow.laid (logMerged_M os).memory := laidMet_rows 8 rowsOfLogMerged (logMerged_m1 os) (logMerged_m2 os) (by decide) (logMerged_m3 os)
theorem logMerged_whole (H : Type) (enc : TypeId × Value -> H) (os : Os) : ∃ places, DataW.whole enc Tryz.prog (logMerged_M os).memory Tryz.f10.params.toList Rows.logMergedSpec.vars false logMerged_in.toList 8 = some ([.agg [.lit (.string []), .nil], .agg [.lit (.string []), .nil]], [], places) := ⟨[], by kernel_rfl⟩
theorem logMerged_lifted (os : Os) (started : os.Started) (H : Type) (enc : TypeId × Value -> H) (F : Stop.Interp) :
   ReturnsInHanded {} Tryz.checked os 10 .any ((OpenSpec.ofChange Rows.logMergedSpec).preRow enc Tryz.prog Tryz.f10 Rows.logMergedRow.domain false Rows.logMergedRow.laid) (((OpenSpec.ofChange Rows.logMergedSpec).at F).post enc Tryz.prog Tryz.f10 false true false false) := by
 have hx := logMerged_whole H enc os
 obtain ⟨places, hx⟩ := hx
 refine returnsInHanded_of_row (C := Tryz.checked) (s := OpenSpec.ofChange Rows.logMergedSpec) Tryz.own started (by kernel_rfl) Tryz.func10
   (witness_row_atRef (enc := enc) (C := Tryz.checked) false (logMerged_W os) logMerged_in rfl (logMerged_vars os) (logMerged_rest os) (logMerged_ok os)
     (OpenSpec.preRow_of_cond 8 hx (by kernel_rfl) (fun k hk => by cases hk) (by kernel_rfl) (logMerged_met os))) ?_
 intro W base args ds gs before hval hW _ _ _ hL hsh _
 exact logMerged_contract H enc W base args ds gs before hval hW hL hsh
theorem logMerged_holds : Rows.LogMergedSaid :=
 OpenClaim.holds_of_cond 10 Tryz.f10 rfl rfl rfl rfl rfl rfl rfl ⟨rfl, rfl, rfl, rfl, rfl⟩ rfl rfl rfl rfl rfl (by kernel_rfl) Tryz.func10 closed10
   (of_decide_eq_true (by kernel_rfl)) (by unfold Func.isWrapper; first | (rw [if_pos (by decide +kernel)]; kernel_rfl) | (rw [if_neg (by decide +kernel)]; exact ⟨rfl, rfl⟩))
   (fun os started H enc _ F => by rw [OpenClaim.pre_eq_preRow]; exact logMerged_lifted os started H enc F)
theorem logMerged_plain (f : FuncId) (fn : Func) (hf : Tryz.pinned.checked.prog.funcNamed "ballonet/ballonetlaw09.LogMerged" = some f) (hfn : Tryz.pinned.checked.prog.funcs[f]? = some fn) :
   true = Tryz.pinned.checked.prog.looks [] /\ ∀ (j : Nat) t, fn.params[j]? = some t -> Tryz.pinned.checked.prog.wantsStandIn t = false := by
 obtain rfl : f = 10 := Option.some.inj ((show Tryz.prog.funcNamed "ballonet/ballonetlaw09.LogMerged" = some 10 by kernel_rfl).symm.trans hf) |>.symm
 obtain rfl : fn = Tryz.f10 := (Option.some.inj (Tryz.func10.symm.trans hfn)).symm
 refine ⟨by kernel_rfl, fun j t ht => ?_⟩
 rw [Tryz.params10] at ht
 have hm := Array.mem_of_getElem? ht
 simp only [List.mem_toArray, List.mem_cons, List.not_mem_nil, or_false] at hm
 rcases hm with rfl | rfl
 . exact (show Tryz.prog.wantsStandIn 24 = false by kernel_rfl)
 . exact (show Tryz.prog.wantsStandIn 24 = false by kernel_rfl)
theorem logMerged_card : Rows.LogMergedCardSaid :=
 Claim7.holds_tied_plain_at .later [] _ _ _ _ logMerged_holds (fun _ h => by cases h) (by kernel_rfl) (fun _ h => by cases h) logMerged_row_tie rfl ⟨rfl, rfl⟩ (by kernel_rfl) rfl logMerged_plain (by kernel_rfl)
end Go.Proofs.YtcaecmiedjnacaaGreatDoor
