/- Own lemmas, used by the last text. Conditions: those that each theorem states. -/
import Derived.Test.YtnjclpglagcagaaGreatEbaj
import Derived.Test.YtnjclpglagcagaaGreatEban
import Derived.Test.YtnjclpglagcagaaGreatProg
set_option maxRecDepth 200000
set_option maxHeartbeats 8000000
namespace Go.Proofs
def Tryz.sortL_ren:Go.Shelf.Ren:=⟨fun | 6=>179 | 15=>195 | 14=>194 | 28=>209 | 29=>210 | 20=>201 | 21=>202 | 22=>203 | 23=>204 | 24=>205 | 25=>206 | 26=>207 | 27=>208 | 46=>213 | 47=>214 | 48=>215 | 49=>216 | 50=>217 | 57=>218 | n=>n,fun | 22=>26 | 24=>149 | 25=>293 | 3=>3 | 39=>227 | 0=>0 | 53=>321 | 55=>296 | 4=>4 | 46=>315 | 45=>314 | 50=>254 | 5=>5 | 9=>9 | 66=>323 | 70=>327 | 76=>329 | 77=>330 | n=>n,fun | n=>n⟩
theorem Tryz.sortL:Go.Proofs.SlLaysF0.n6 Tryz.prog Tryz.sortL_ren:={
 mixed:=by kernel_rfl,
 f6:=⟨Tryz.f179.name,by decide,Tryz.func179.trans (congrArg some (by kernel_rfl))⟩,
 f14:=⟨Tryz.f194.name,by decide,Tryz.func194.trans (congrArg some (by kernel_rfl))⟩,
 f15:=Tryz.func195.trans (congrArg some (by kernel_rfl)),
 f20:=⟨Tryz.f201.name,by decide,Tryz.func201.trans (congrArg some (by kernel_rfl))⟩,
 f21:=⟨Tryz.f202.name,by decide,Tryz.func202.trans (congrArg some (by kernel_rfl))⟩,
 f22:=⟨Tryz.f203.name,by decide,Tryz.func203.trans (congrArg some (by kernel_rfl))⟩,
 f23:=⟨Tryz.f204.name,by decide,Tryz.func204.trans (congrArg some (by kernel_rfl))⟩,
 f24:=⟨Tryz.f205.name,by decide,Tryz.func205.trans (congrArg some (by kernel_rfl))⟩,
 f25:=⟨Tryz.f206.name,by decide,Tryz.func206.trans (congrArg some (by kernel_rfl))⟩,
 f26:=⟨Tryz.f207.name,by decide,Tryz.func207.trans (congrArg some (by kernel_rfl))⟩,
 f27:=⟨Tryz.f208.name,by decide,Tryz.func208.trans (congrArg some (by kernel_rfl))⟩,
 f28:=Tryz.func209.trans (congrArg some (by kernel_rfl)),
 f29:=Tryz.func210.trans (congrArg some (by kernel_rfl)),
 f46:=⟨Tryz.f213.name,by decide,Tryz.func213.trans (congrArg some (by kernel_rfl))⟩,
 f47:=Tryz.func214.trans (congrArg some (by kernel_rfl)),
 f48:=Tryz.func215.trans (congrArg some (by kernel_rfl)),
 f49:=⟨Tryz.f216.name,by decide,Tryz.func216.trans (congrArg some (by kernel_rfl))⟩,
 f50:=⟨Tryz.f217.name,by decide,Tryz.func217.trans (congrArg some (by kernel_rfl))⟩,
 f57:=⟨Tryz.f218.name,by decide,Tryz.func218.trans (congrArg some (by kernel_rfl))⟩,
 t0:=Tryz.underlying0,
 a0:=Tryz.isAgg0,
 z0:=Tryz.sizeOf0,
 v0:=Tryz.zeroValue0,
 t3:=Tryz.underlying3,
 a3:=Tryz.isAgg3,
 z3:=Tryz.sizeOf3,
 v3:=Tryz.zeroValue3,
 t4:=Tryz.underlying4,
 a4:=Tryz.isAgg4,
 z4:=Tryz.sizeOf4,
 v4:=Tryz.zeroValue4,
 t5:=Tryz.underlying5,
 a5:=Tryz.isAgg5,
 z5:=Tryz.sizeOf5,
 v5:=Tryz.zeroValue5,
 t9:=Tryz.underlying9,
 a9:=Tryz.isAgg9,
 z9:=Tryz.sizeOf9,
 v9:=Tryz.zeroValue9,
 t22:=Tryz.underlying26,
 a22:=Tryz.isAgg26,
 z22:=Tryz.sizeOf26,
 v22:=Tryz.zeroValue26,
 t25:=Tryz.underlying293,
 a25:=Tryz.isAgg293,
 z25:=Tryz.sizeOf293,
 v25:=Tryz.zeroValue293,
 t39:=Tryz.underlying227,
 a39:=Tryz.isAgg227,
 z39:=Tryz.sizeOf227,
 v39:=Tryz.zeroValue227,
 t45:=Tryz.underlying314,
 a45:=Tryz.isAgg314,
 z45:=Tryz.sizeOf314,
 v45:=Tryz.zeroValue314,
 t46:=Tryz.underlying315,
 a46:=Tryz.isAgg315,
 z46:=Tryz.sizeOf315,
 v46:=Tryz.zeroValue315,
 t50:=Tryz.underlying254,
 a50:=Tryz.isAgg254,
 z50:=Tryz.sizeOf254,
 v50:=Tryz.zeroValue254,
 t53:=Tryz.underlying321,
 a53:=Tryz.isAgg321,
 z53:=Tryz.sizeOf321,
 v53:=Tryz.zeroValue321,
 t55:=Tryz.underlying296,
 a55:=Tryz.isAgg296,
 z55:=Tryz.sizeOf296,
 v55:=Tryz.zeroValue296,
 t66:=Tryz.underlying323,
 a66:=Tryz.isAgg323,
 z66:=Tryz.sizeOf323,
 v66:=Tryz.zeroValue323,
 t70:=Tryz.underlying327,
 a70:=Tryz.isAgg327,
 z70:=Tryz.sizeOf327,
 v70:=Tryz.zeroValue327,
 t76:=Tryz.underlying329,
 a76:=Tryz.isAgg329,
 z76:=Tryz.sizeOf329,
 v76:=Tryz.zeroValue329,
 t77:=Tryz.underlying330,
 a77:=Tryz.isAgg330,
 z77:=Tryz.sizeOf330,
 v77:=Tryz.zeroValue330}
end Go.Proofs
namespace Go.Proofs.Tryz
open Go.Psl
def Yn (p:Int × Int):List Value:=[.int .i64 p.1, .int .i64 p.2]
theorem AMh (l:List (Int × Int)):(l.flatMap Yn).map cV=BC l:=by
 induction l with
 | nil=>rfl
 | cons a l ih=>
   rw [List.flatMap_cons,List.map_append,ih];rfl
theorem Kq (x y:Int × Int):Go.Proofs.ltOf Dw x y=true↔Go.Geo.lt x y:=by
 unfold Go.Proofs.ltOf;rw [decide_eq_true_eq,PX]
theorem ay (x y:Int × Int):Go.Proofs.ltOf Dw x y=false↔¬ Go.Geo.lt x y:=by
 rw [<-Kq];simp
theorem VT:Go.Sort.SWO (Go.Proofs.ltOf Dw) where
 irrefl x:=by rw [ay];exact Go.Geo.lt_irr x
 trans x y z h1 h2:=by rw [Kq] at*;exact Go.Geo.lt_trans h1 h2
 ntrans x y z h1 h2:=by rw [ay] at*;unfold Go.Geo.lt at*;omega
theorem kX:SortOk:=fun l h1 h2=>by
 have hcmp:∀ x y:Int × Int,Ct prog 180 [.agg ((Yn x).map cV), .agg ((Yn y).map cV)] (.d (.lit (.int .i64 (Dw x y)))) []:=fun x y=>jJ x y
 have h:=N3 Tryz.sortL ⟨_,func179,by kernel_rfl,by decide⟩ 2 (by omega) Tryz.isAgg149 Tryz.sizeOf149 Yn (fun _=>rfl) (fun x v hv=>by simp [Yn] at hv;rcases hv with rfl | rfl<;>rfl) Dw VT
   (fun x y a b=>by
     rw [ay] at a b;rcases Go.Geo.lt_tri x y with h | h | h
     . exact absurd h a
     . exact h
     . exact absurd h b) 180 (Go.Proofs.enters_of func180 (by kernel_rfl) rfl) hcmp l h1 (by omega)
 rw [AMh,AMh] at h;exact h
end Go.Proofs.Tryz
