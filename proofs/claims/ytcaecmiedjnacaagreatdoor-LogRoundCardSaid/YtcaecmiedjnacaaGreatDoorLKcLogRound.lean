/- The given statement holds: from the contracts of the functions that it reaches. Conditions: none. -/
import Derived.Deep.DeepWitnessRowRef
import Derived.Test.YtcaecmiedjnacaaGreatDoorCards
import Derived.Test.YtcaecmiedjnacaaGreatDoorJKcLogRound
import Derived.Test.YtcaecmiedjnacaaGreatDoorKcah
import Derived.Test.YtcaecmiedjnacaaGreatDoorKcam
import Derived.Test.YtcaecmiedjnacaaGreatDoorTie
set_option maxRecDepth 200000
set_option maxHeartbeats 8000000
namespace Go.Proofs.YtcaecmiedjnacaaGreatDoor
open Go.Joins Go.ChangeShapes Go.WideShapes Go.ChangeAt Go.RowKit Go.Psl Go.Log
theorem logRound_contract (H : Type) (enc : TypeId × Value -> H) (W : World) (base : Nat) (args : Array Value) (ds gs : List (DataW H)) (before : List MemPlace)
   (hval0 : ∀ (j : Nat) t v, Tryz.f5.params[j]? = some t -> args[j]? = some v -> Value.okWide Tryz.prog W .any base t v)
   (hW : DataW.Whole enc Tryz.prog Tryz.f5.params.toList Rows.logRoundSpec.vars false W args.toList ds gs before) (hL : laidMetH Tryz.prog Rows.logRoundRow.laid W) (hsh : W.ShapedOpen Tryz.prog) :
   Calls Tryz.prog 5 args W fun e W' => ∃ v, e = .returned v /\ Rows.logRoundSpec.post enc Tryz.prog Tryz.f5 false true false false W args v W' := by
 have hval : ∀ (j : Nat) t v, Tryz.f5.params[j]? = some t -> args[j]? = some v -> Value.okWide Tryz.prog W .any base t v := hval0
 have hW' := hW
 obtain ⟨p, q, hA0, hV, rfl, hfz, hnd⟩ := hW
 have hA : DataW.TrodAll enc Tryz.prog W 0 (fun _ => true) true Tryz.f5.params.toList args.toList ds p := hA0
 rw [Tryz.params5] at hA hval
 obtain ⟨v0, v1, d0, d1, p0, p1, rfl, rfl, rfl, h0, h1⟩ := trodAll_two hA
 obtain ⟨rfl, rfl⟩ := trodVars_none hV
 obtain ⟨a0, r0⟩ := log_arg (hval 0 24 v0 rfl rfl) h0
 obtain ⟨a1, r1⟩ := text_arg (hval 1 9 v1 rfl rfl) h1
 have hG : globW W := fun g hg => by
   simp only [useG, List.mem_cons, List.not_mem_nil, or_false] at hg
   have hp : ∀ {n : String} {d : DataW Unit} {k : Nat}, Rows.logRoundRow.laid[k]? = some (n, d) -> (n, d) ∈ Rows.logRoundRow.laid := fun h => List.mem_of_getElem? h
   rcases hg with rfl | rfl | rfl | rfl | rfl | rfl
   . exact spc_laid (laid := Rows.logRoundRow.laid) (hp (k := 7) rfl) hL
   . exact wht_laid (laid := Rows.logRoundRow.laid) (hp (k := 6) rfl) hL
   . exact max_laid hsh
   . exact syn_laid (laid := Rows.logRoundRow.laid) (hp (k := 5) rfl) hL
   . exact rng_laid (laid := Rows.logRoundRow.laid) (hp (k := 4) rfl) hL
   . exact pow_laid (laid := Rows.logRoundRow.laid) (.tail _ (.tail _ (.head _))) hL
 have hlaw : LawOk Tryz.prog 5 #[v0, v1] W :=
   LawOk.of_ct (G := GA W) (Tryz.fn5 a0 a1) (GA_of hG) ⟨r0, r1, trivial⟩
 refine hlaw.mono fun e W' ⟨he, hbl⟩ => ?_
 subst he
 exact ⟨_, rfl, law_post Tryz.laidOut rfl hW' (by kernel_rfl) rfl Tryz.underlying4 rfl hbl⟩
noncomputable def logRound_w : List (Nat × DataW Unit) := Rows.logRoundRow.laid.filterMap fun x => (Tryz.prog.globalNamed x.1).map fun g => (g, x.2)
abbrev logRound_in : Array Value := #[.agg #[.string ByteArray.empty, .slice none 0 0], .string ByteArray.empty]
noncomputable def logRound_W (os : Os) : World := errWorld gSyn 269 271 [105, 110, 118, 97, 108, 105, 100, 32, 115, 121, 110, 116, 97, 120] (errWorld gRng 269 271 [118, 97, 108, 117, 101, 32, 111, 117, 116, 32, 111, 102, 32, 114, 97, 110, 103, 101] (whtWorld gWht 243 241 (laidWorld logRound_w os)))
noncomputable abbrev logRound_M (os : Os) : World := (logRound_W os).forCall (fun _ _ => 0) ⟨#[], logRound_in, []⟩
theorem logRound_vars (os : Os) : (logRound_M os).variablesRefB Tryz.checked.prog = true := by kernel_rfl
theorem logRound_rest (os : Os) : ((logRound_M os).heap.toList.drop Tryz.checked.prog.globals.size).take ((begin Tryz.checked.prog (fun _ _ => 0) default).world.heap.size - Tryz.checked.prog.globals.size) = (begin Tryz.checked.prog (fun _ _ => 0) default).world.heap.toList.drop Tryz.checked.prog.globals.size := by kernel_rfl
theorem logRound_ok (os : Os) : Input.okWideB Tryz.checked.prog (logRound_M os) 5 ⟨#[], logRound_in, []⟩ = true := by kernel_rfl
abbrev lrRows : List (Nat × Nat) := [(8, 32), (9, 64), (5, 20), (7, 32), (4, 1), (18, 1), (3, 1), (19, 1), (1, 1), (16, 3), (17, 21), (0, 256), (6, 256)]
theorem logRound_m1 (os : Os) : (DataW.laidRun Tryz.checked.prog (logRound_M os).memory 8 (Rows.logRoundRow.laid.map (·.1))).map (·.1) = some Rows.logRoundRow.laid := by kernel_rfl
theorem logRound_m2 (os : Os) : (DataW.laidRun Tryz.checked.prog (logRound_M os).memory 8 (Rows.logRoundRow.laid.map (·.1))).map (·.2) = some (lrRows.flatMap rowP) := by kernel_rfl
theorem logRound_m3 (os : Os) : laidRowsB Tryz.checked.prog (logRound_M os).memory (lrRows.flatMap rowP) = true := by kernel_rfl
theorem logRound_met (os : Os) : laidMet Tryz.checked.prog Rows.logRoundRow.laid (logRound_M os).memory := laidMet_rows 8 lrRows (logRound_m1 os) (logRound_m2 os) (by decide) (logRound_m3 os)
theorem logRound_whole (H : Type) (enc : TypeId × Value -> H) (os : Os) : ∃ places, DataW.whole enc Tryz.prog (logRound_M os).memory Tryz.f5.params.toList Rows.logRoundSpec.vars false logRound_in.toList 8 = some ([.agg [.lit (.string []), .nil], .lit (.string [])], [], places) := ⟨[], by kernel_rfl⟩
theorem logRound_lifted (os : Os) (started : os.Started) (H : Type) (enc : TypeId × Value -> H) (F : Stop.Interp) :
   ReturnsInHanded {} Tryz.checked os 5 .any ((OpenSpec.ofChange Rows.logRoundSpec).preRow enc Tryz.prog Tryz.f5 Rows.logRoundRow.domain false Rows.logRoundRow.laid) (((OpenSpec.ofChange Rows.logRoundSpec).at F).post enc Tryz.prog Tryz.f5 false true false false) := by
 have hx := logRound_whole H enc os
 obtain ⟨places, hx⟩ := hx
 refine returnsInHanded_of_row (C := Tryz.checked) (s := OpenSpec.ofChange Rows.logRoundSpec) Tryz.own started (by kernel_rfl) Tryz.func5
   (witness_row_atRef (enc := enc) (C := Tryz.checked) false (logRound_W os) logRound_in rfl (logRound_vars os) (logRound_rest os) (logRound_ok os)
     (OpenSpec.preRow_of_cond 8 hx (by kernel_rfl) (fun k hk => by cases hk) (by kernel_rfl) (logRound_met os))) ?_
 intro W base args ds gs before hval hW _ _ _ hL hsh _
 exact logRound_contract H enc W base args ds gs before hval hW hL hsh
theorem logRound_holds : Rows.LogRoundSaid :=
 OpenClaim.holds_of_cond 5 Tryz.f5 rfl rfl rfl rfl rfl rfl rfl ⟨rfl, rfl, rfl, rfl, rfl⟩ rfl rfl rfl rfl rfl (by kernel_rfl) Tryz.func5 closed5
   (of_decide_eq_true (by kernel_rfl)) (by unfold Func.isWrapper; first | (rw [if_pos (by decide +kernel)]; kernel_rfl) | (rw [if_neg (by decide +kernel)]; exact ⟨rfl, rfl⟩))
   (fun os started H enc _ F => by rw [OpenClaim.pre_eq_preRow]; exact logRound_lifted os started H enc F)
theorem logRound_plain (f : FuncId) (fn : Func) (hf : Tryz.pinned.checked.prog.funcNamed "ballonet/ballonetlaw09.LogRound" = some f) (hfn : Tryz.pinned.checked.prog.funcs[f]? = some fn) :
   true = Tryz.pinned.checked.prog.looks [] /\ ∀ (j : Nat) t, fn.params[j]? = some t -> Tryz.pinned.checked.prog.wantsStandIn t = false := by
 obtain rfl : f = 5 := Option.some.inj ((show Tryz.prog.funcNamed "ballonet/ballonetlaw09.LogRound" = some 5 by kernel_rfl).symm.trans hf) |>.symm
 obtain rfl : fn = Tryz.f5 := (Option.some.inj (Tryz.func5.symm.trans hfn)).symm
 refine ⟨by kernel_rfl, fun j t ht => ?_⟩
 rw [Tryz.params5] at ht
 have hm := Array.mem_of_getElem? ht
 simp only [List.mem_toArray, List.mem_cons, List.not_mem_nil, or_false] at hm
 rcases hm with rfl | rfl
 . exact (show Tryz.prog.wantsStandIn 24 = false by kernel_rfl)
 . exact (show Tryz.prog.wantsStandIn 9 = false by kernel_rfl)
theorem logRound_card : Rows.LogRoundCardSaid :=
 Claim7.holds_tied_plain_at .later [] _ _ _ _ logRound_holds (fun _ h => by cases h) (by kernel_rfl) (fun _ h => by cases h) logRound_row_tie rfl ⟨rfl, rfl⟩ (by kernel_rfl) rfl logRound_plain (by kernel_rfl)
end Go.Proofs.YtcaecmiedjnacaaGreatDoor
