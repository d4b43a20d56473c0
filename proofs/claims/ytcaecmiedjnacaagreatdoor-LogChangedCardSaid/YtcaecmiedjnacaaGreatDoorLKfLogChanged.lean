/- The given statement holds: from the contracts of the functions that it reaches. Conditions: none. -/
import Derived.Deep.DeepWitnessRowRef
import Derived.Test.YtcaecmiedjnacaaGreatDoorCards
import Derived.Test.YtcaecmiedjnacaaGreatDoorJKfLogChanged
import Derived.Test.YtcaecmiedjnacaaGreatDoorKfam
import Derived.Test.YtcaecmiedjnacaaGreatDoorTie
set_option maxRecDepth 200000
set_option maxHeartbeats 8000000
namespace Go.Proofs.YtcaecmiedjnacaaGreatDoor
open Go.Joins Go.ChangeShapes Go.WideShapes Go.ChangeAt Go.RowKit Go.Psl Go.Log
theorem logChanged_contract (H : Type) (enc : TypeId × Value -> H) (W : World) (base : Nat) (args : Array Value) (ds gs : List (DataW H)) (before : List MemPlace)
   (hval0 : ∀ (j : Nat) t v, Tryz.f6.params[j]? = some t -> args[j]? = some v -> Value.okWide Tryz.prog W .any base t v)
   (hW : DataW.Whole enc Tryz.prog Tryz.f6.params.toList Rows.logChangedSpec.vars false W args.toList ds gs before) (hL : laidMetH Tryz.prog Rows.logChangedRow.laid W) (hsh : W.ShapedOpen Tryz.prog) :
   Calls Tryz.prog 6 args W fun e W' => ∃ v, e = .returned v /\ Rows.logChangedSpec.post enc Tryz.prog Tryz.f6 false true false false W args v W' := by
 have hval : ∀ (j : Nat) t v, Tryz.f6.params[j]? = some t -> args[j]? = some v -> Value.okWide Tryz.prog W .any base t v := hval0
 have hW' := hW
 obtain ⟨p, q, hA0, hV, rfl, hfz, hnd⟩ := hW
 have hA : DataW.TrodAll enc Tryz.prog W 0 (fun _ => true) true Tryz.f6.params.toList args.toList ds p := hA0
 rw [Tryz.params6] at hA hval
 obtain ⟨v0, v1, v2, v3, d0, d1, d2, d3, p0, p1, p2, p3, rfl, rfl, rfl, h0, h1, h2, h3⟩ := trodAll_four hA
 obtain ⟨rfl, rfl⟩ := trodVars_none hV
 obtain ⟨a0, r0⟩ := log_arg (hval 0 24 v0 rfl rfl) h0
 obtain ⟨a1, b1, r1⟩ := u16_arg (hval 1 60 v1 rfl rfl) h1
 obtain ⟨a2, r2⟩ := byte_arg (hval 2 5 v2 rfl rfl) h2
 obtain ⟨a3, r3⟩ := bool_arg (hval 3 4 v3 rfl rfl) h3
 have hG : globW W := fun g hg => by
   simp only [useG, List.mem_cons, List.not_mem_nil, or_false] at hg
   have hp : ∀ {n : String} {d : DataW Unit} {k : Nat}, Rows.logChangedRow.laid[k]? = some (n, d) -> (n, d) ∈ Rows.logChangedRow.laid := fun h => List.mem_of_getElem? h
   rcases hg with rfl | rfl | rfl | rfl | rfl | rfl
   . exact spc_laid (laid := Rows.logChangedRow.laid) (hp (k := 7) rfl) hL
   . exact wht_laid (laid := Rows.logChangedRow.laid) (hp (k := 6) rfl) hL
   . exact max_laid hsh
   . exact syn_laid (laid := Rows.logChangedRow.laid) (hp (k := 5) rfl) hL
   . exact rng_laid (laid := Rows.logChangedRow.laid) (hp (k := 4) rfl) hL
   . exact pow_laid (laid := Rows.logChangedRow.laid) (.tail _ (.tail _ (.head _))) hL
 have hlaw : LawOk Tryz.prog 6 #[v0, v1, v2, v3] W :=
   LawOk.of_ct (G := GA W) (Tryz.fn6 a0 a1 a2 a3 b1) (GA_of hG) ⟨r0, r1, r2, r3, trivial⟩
 refine hlaw.mono fun e W' ⟨he, hbl⟩ => ?_
 subst he
 exact ⟨_, rfl, law_post Tryz.laidOut rfl hW' (by kernel_rfl) rfl Tryz.underlying4 rfl hbl⟩
noncomputable def logChanged_w : List (Nat × DataW Unit) := Rows.logChangedRow.laid.filterMap fun x => (Tryz.prog.globalNamed x.1).map fun g => (g, x.2)
abbrev logChanged_in : Array Value := #[.agg #[.string ByteArray.empty, .slice none 0 0], .int .u16 0, .int .u8 0, .bool false]
noncomputable def logChanged_W (os : Os) : World := errWorld gSyn 269 271 [105, 110, 118, 97, 108, 105, 100, 32, 115, 121, 110, 116, 97, 120] (errWorld gRng 269 271 [118, 97, 108, 117, 101, 32, 111, 117, 116, 32, 111, 102, 32, 114, 97, 110, 103, 101] (whtWorld gWht 243 241 (laidWorld logChanged_w os)))
noncomputable abbrev logChanged_M (os : Os) : World := (logChanged_W os).forCall (fun _ _ => 0) ⟨#[], logChanged_in, []⟩
theorem logChanged_vars (os : Os) : (logChanged_M os).variablesRefB Tryz.checked.prog = true := by kernel_rfl
theorem logChanged_rest (os : Os) : ((logChanged_M os).heap.toList.drop Tryz.checked.prog.globals.size).take ((begin Tryz.checked.prog (fun _ _ => 0) default).world.heap.size - Tryz.checked.prog.globals.size) = (begin Tryz.checked.prog (fun _ _ => 0) default).world.heap.toList.drop Tryz.checked.prog.globals.size := by kernel_rfl
theorem logChanged_ok (os : Os) : Input.okWideB Tryz.checked.prog (logChanged_M os) 6 ⟨#[], logChanged_in, []⟩ = true := by kernel_rfl
abbrev rowsOfLogChanged : List (Nat × Nat) := [(8, 32), (9, 64), (5, 20), (7, 32), (4, 1), (18, 1), (3, 1), (19, 1), (1, 1), (16, 3), (17, 21), (0, 256), (6, 256)]
theorem logChanged_m1 (os : Os) : (DataW.laidRun Tryz.checked.prog (logChanged_M os).memory 8 (Rows.logChangedRow.laid.map (·.1))).map (·.1) = some Rows.logChangedRow.laid := by kernel_rfl
theorem logChanged_m2 (os : Os) : (DataW.laidRun Tryz.checked.prog (logChanged_M os).memory 8 (Rows.logChangedRow.laid.map (·.1))).map (·.2) = some (rowsOfLogChanged.flatMap rowP) := by kernel_rfl
theorem logChanged_m3 (os : Os) : laidRowsB Tryz.checked.prog (logChanged_M os).memory (rowsOfLogChanged.flatMap rowP) = true := by kernel_rfl
theorem logChanged_met (os : Os) : laidMet Tryz.checked.prog Rows.logChangedRow.laid (logChanged_M os).memory := laidMet_rows 8 rowsOfLogChanged (logChanged_m1 os) (logChanged_m2 os) (by decide) (logChanged_m3 os)
theorem logChanged_whole (H : Type) (enc : TypeId × Value -> H) (os : Os) : ∃ places, DataW.whole enc Tryz.prog (logChanged_M os).memory Tryz.f6.params.toList Rows.logChangedSpec.vars false logChanged_in.toList 8 = some ([.agg [.lit (.string []), .nil], .lit (.int .u16 0), .lit (.int .u8 0), .lit (.bool false)], [], places) := ⟨[], by kernel_rfl⟩
theorem logChanged_lifted (os : Os) (started : os.Started) (H : Type) (enc : TypeId × Value -> H) (F : Stop.Interp) :
   ReturnsInHanded {} Tryz.checked os 6 .any ((OpenSpec.ofChange Rows.logChangedSpec).preRow enc Tryz.prog Tryz.f6 Rows.logChangedRow.domain false Rows.logChangedRow.laid) (((OpenSpec.ofChange Rows.logChangedSpec).at F).post enc Tryz.prog Tryz.f6 false true false false) := by
 have hx := logChanged_whole H enc os
 obtain ⟨places, hx⟩ := hx
 refine returnsInHanded_of_row (C := Tryz.checked) (s := OpenSpec.ofChange Rows.logChangedSpec) Tryz.own started (by kernel_rfl) Tryz.func6
   (witness_row_atRef (enc := enc) (C := Tryz.checked) false (logChanged_W os) logChanged_in rfl (logChanged_vars os) (logChanged_rest os) (logChanged_ok os)
     (OpenSpec.preRow_of_cond 8 hx (by kernel_rfl) (fun k hk => by cases hk) (by kernel_rfl) (logChanged_met os))) ?_
 intro W base args ds gs before hval hW _ _ _ hL hsh _
 exact logChanged_contract H enc W base args ds gs before hval hW hL hsh
theorem logChanged_holds : Rows.LogChangedSaid :=
 OpenClaim.holds_of_cond 6 Tryz.f6 rfl rfl rfl rfl rfl rfl rfl ⟨rfl, rfl, rfl, rfl, rfl⟩ rfl rfl rfl rfl rfl (by kernel_rfl) Tryz.func6 closed6
   (of_decide_eq_true (by kernel_rfl)) (by unfold Func.isWrapper; first | (rw [if_pos (by decide +kernel)]; kernel_rfl) | (rw [if_neg (by decide +kernel)]; exact ⟨rfl, rfl⟩))
   (fun os started H enc _ F => by rw [OpenClaim.pre_eq_preRow]; exact logChanged_lifted os started H enc F)
theorem logChanged_plain (f : FuncId) (fn : Func) (hf : Tryz.pinned.checked.prog.funcNamed "ballonet/ballonetlaw09.LogChanged" = some f) (hfn : Tryz.pinned.checked.prog.funcs[f]? = some fn) :
   true = Tryz.pinned.checked.prog.looks [] /\ ∀ (j : Nat) t, fn.params[j]? = some t -> Tryz.pinned.checked.prog.wantsStandIn t = false := by
 obtain rfl : f = 6 := Option.some.inj ((show Tryz.prog.funcNamed "ballonet/ballonetlaw09.LogChanged" = some 6 by kernel_rfl).symm.trans hf) |>.symm
 obtain rfl : fn = Tryz.f6 := (Option.some.inj (Tryz.func6.symm.trans hfn)).symm
 refine ⟨by kernel_rfl, fun j t ht => ?_⟩
 rw [Tryz.params6] at ht
 have hm := Array.mem_of_getElem? ht
 simp only [List.mem_toArray, List.mem_cons, List.not_mem_nil, or_false] at hm
 rcases hm with rfl | rfl | rfl | rfl
 . exact (show Tryz.prog.wantsStandIn 24 = false by kernel_rfl)
 . exact (show Tryz.prog.wantsStandIn 60 = false by kernel_rfl)
 . exact (show Tryz.prog.wantsStandIn 5 = false by kernel_rfl)
 . exact (show Tryz.prog.wantsStandIn 4 = false by kernel_rfl)
theorem logChanged_card : Rows.LogChangedCardSaid :=
 Claim7.holds_tied_plain_at .later [] _ _ _ _ logChanged_holds (fun _ h => by cases h) (by kernel_rfl) (fun _ h => by cases h) logChanged_row_tie rfl ⟨rfl, rfl⟩ (by kernel_rfl) rfl logChanged_plain (by kernel_rfl)
end Go.Proofs.YtcaecmiedjnacaaGreatDoor
