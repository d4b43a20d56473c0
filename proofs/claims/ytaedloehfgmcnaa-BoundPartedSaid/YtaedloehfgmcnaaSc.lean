/- Contracts: what each function of the program computes, for the arguments that its theorem names; and from there the given statement. Conditions: those that each theorem states. -/
import Derived.Test.YtaedloehfgmcnaaPc
import Derived.Test.YtaedloehfgmcnaaHa
import Derived.Test.YtaedloehfgmcnaaProg
import Derived.Test.YtaedloehfgmcnaaFn
namespace Go.Proofs
def Try.sortL_ren : Go.Shelf.Ren := ⟨fun | 6 => 127 | 15 => 146 | 14 => 145 | 28 => 160 | 29 => 151 | 20 => 152 | 21 => 153 | 22 => 154 | 23 => 155 | 24 => 156 | 25 => 157 | 26 => 158 | 27 => 159 | 46 => 162 | 47 => 163 | 48 => 164 | 49 => 165 | 50 => 166 | 57 => 168 | n => n, fun | 22 => 54 | 24 => 56 | 25 => 148 | 3 => 3 | 39 => 116 | 0 => 0 | 53 => 174 | 55 => 140 | 4 => 4 | 46 => 168 | 45 => 167 | 50 => 145 | 5 => 5 | 9 => 9 | 66 => 175 | 70 => 179 | 76 => 181 | 77 => 75 | n => n, fun | n => n⟩
theorem Try.sortL : Go.Proofs.SlLaysF0.n6 Try.prog Try.sortL_ren := {
  mixed := by kernel_rfl,
  f6 := ⟨Try.f127.name, by decide, Try.func127.trans (congrArg some (by kernel_rfl))⟩,
  f14 := ⟨Try.f145.name, by decide, Try.func145.trans (congrArg some (by kernel_rfl))⟩,
  f15 := Try.func146.trans (congrArg some (by kernel_rfl)),
  f20 := ⟨Try.f152.name, by decide, Try.func152.trans (congrArg some (by kernel_rfl))⟩,
  f21 := ⟨Try.f153.name, by decide, Try.func153.trans (congrArg some (by kernel_rfl))⟩,
  f22 := ⟨Try.f154.name, by decide, Try.func154.trans (congrArg some (by kernel_rfl))⟩,
  f23 := ⟨Try.f155.name, by decide, Try.func155.trans (congrArg some (by kernel_rfl))⟩,
  f24 := ⟨Try.f156.name, by decide, Try.func156.trans (congrArg some (by kernel_rfl))⟩,
  f25 := ⟨Try.f157.name, by decide, Try.func157.trans (congrArg some (by kernel_rfl))⟩,
  f26 := ⟨Try.f158.name, by decide, Try.func158.trans (congrArg some (by kernel_rfl))⟩,
  f27 := ⟨Try.f159.name, by decide, Try.func159.trans (congrArg some (by kernel_rfl))⟩,
  f28 := Try.func160.trans (congrArg some (by kernel_rfl)),
  f29 := Try.func151.trans (congrArg some (by kernel_rfl)),
  f46 := ⟨Try.f162.name, by decide, Try.func162.trans (congrArg some (by kernel_rfl))⟩,
  f47 := Try.func163.trans (congrArg some (by kernel_rfl)),
  f48 := Try.func164.trans (congrArg some (by kernel_rfl)),
  f49 := ⟨Try.f165.name, by decide, Try.func165.trans (congrArg some (by kernel_rfl))⟩,
  f50 := ⟨Try.f166.name, by decide, Try.func166.trans (congrArg some (by kernel_rfl))⟩,
  f57 := ⟨Try.f168.name, by decide, Try.func168.trans (congrArg some (by kernel_rfl))⟩,
  t0 := Try.underlying0,
  a0 := Try.isAgg0,
  z0 := Try.sizeOf0,
  v0 := Try.zeroValue0,
  t3 := Try.underlying3,
  a3 := Try.isAgg3,
  z3 := Try.sizeOf3,
  v3 := Try.zeroValue3,
  t4 := Try.underlying4,
  a4 := Try.isAgg4,
  z4 := Try.sizeOf4,
  v4 := Try.zeroValue4,
  t5 := Try.underlying5,
  a5 := Try.isAgg5,
  z5 := Try.sizeOf5,
  v5 := Try.zeroValue5,
  t9 := Try.underlying9,
  a9 := Try.isAgg9,
  z9 := Try.sizeOf9,
  v9 := Try.zeroValue9,
  t22 := Try.underlying54,
  a22 := Try.isAgg54,
  z22 := Try.sizeOf54,
  v22 := Try.zeroValue54,
  t25 := Try.underlying148,
  a25 := Try.isAgg148,
  z25 := Try.sizeOf148,
  v25 := Try.zeroValue148,
  t39 := Try.underlying116,
  a39 := Try.isAgg116,
  z39 := Try.sizeOf116,
  v39 := Try.zeroValue116,
  t45 := Try.underlying167,
  a45 := Try.isAgg167,
  z45 := Try.sizeOf167,
  v45 := Try.zeroValue167,
  t46 := Try.underlying168,
  a46 := Try.isAgg168,
  z46 := Try.sizeOf168,
  v46 := Try.zeroValue168,
  t50 := Try.underlying145,
  a50 := Try.isAgg145,
  z50 := Try.sizeOf145,
  v50 := Try.zeroValue145,
  t53 := Try.underlying174,
  a53 := Try.isAgg174,
  z53 := Try.sizeOf174,
  v53 := Try.zeroValue174,
  t55 := Try.underlying140,
  a55 := Try.isAgg140,
  z55 := Try.sizeOf140,
  v55 := Try.zeroValue140,
  t66 := Try.underlying175,
  a66 := Try.isAgg175,
  z66 := Try.sizeOf175,
  v66 := Try.zeroValue175,
  t70 := Try.underlying179,
  a70 := Try.isAgg179,
  z70 := Try.sizeOf179,
  v70 := Try.zeroValue179,
  t76 := Try.underlying181,
  a76 := Try.isAgg181,
  z76 := Try.sizeOf181,
  v76 := Try.zeroValue181,
  t77 := Try.underlying75,
  a77 := Try.isAgg75,
  z77 := Try.sizeOf75,
  v77 := Try.zeroValue75 }
end Go.Proofs
namespace Go.Proofs.Try
open Go.Psl
def encC (p : Int × Int) : List Value := [.int .i64 p.1, .int .i64 p.2]
theorem enc_cells (l : List (Int × Int)) : (l.flatMap encC).map cV = cellsI l := by
  induction l with
  | nil => rfl
  | cons a l ih =>
    rw [List.flatMap_cons, List.map_append, ih]
    rfl
theorem ltOf_order (x y : Int × Int) : Go.Proofs.ltOf orderS x y = true ↔ Go.Geo.lt x y := by
  unfold Go.Proofs.ltOf; rw [decide_eq_true_eq, order_lt]
theorem ltOf_order' (x y : Int × Int) : Go.Proofs.ltOf orderS x y = false ↔ ¬ Go.Geo.lt x y := by
  rw [← ltOf_order]; simp
theorem swo_order : Go.Sort.SWO (Go.Proofs.ltOf orderS) where
  irrefl x := by rw [ltOf_order']; exact Go.Geo.lt_irr x
  trans x y z h1 h2 := by rw [ltOf_order] at *; exact Go.Geo.lt_trans h1 h2
  ntrans x y z h1 h2 := by rw [ltOf_order'] at *; unfold Go.Geo.lt at *; omega
theorem sortOk : SortOk := fun l h1 h2 => by
  have hcmp : ∀ x y : Int × Int, Ct prog 128 [.agg ((encC x).map cV), .agg ((encC y).map cV)] (.d (.lit (.int .i64 (orderS x y)))) [] := fun x y => fn128 x y
  have h := sortFunc_cm Try.sortL ⟨_, func127, by kernel_rfl, by decide⟩ 2 (by omega) Try.isAgg56 Try.sizeOf56 encC (fun _ => rfl) (fun x v hv => by simp [encC] at hv; rcases hv with rfl | rfl <;> rfl) orderS swo_order
    (fun x y a b => by
      rw [ltOf_order'] at a b
      rcases Go.Geo.lt_tri x y with h | h | h
      · exact absurd h a
      · exact h
      · exact absurd h b) 128 (Go.Proofs.enters_of func128 (by kernel_rfl) rfl) hcmp l h1 (by omega)
  rw [enc_cells, enc_cells] at h
  exact h
end Go.Proofs.Try
