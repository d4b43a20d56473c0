/- Own lemmas, used by the last text. Conditions: those that each theorem states. -/
import Derived.Test.YtcaecmiedjnacaaDoorKjaf
import Derived.Test.YtcaecmiedjnacaaDoorProg
set_option maxRecDepth 200000
set_option maxHeartbeats 8000000
namespace Go.Proofs.Tryd
open Go.Psl
def p3l0 : PC := (⟨_, by conv => lhs; reduce⟩ : Rd (K f3 0 [])).1
def p3l1 : PC := (⟨_, by conv => lhs; reduce⟩ : Rd (fun a => K f3 1 [a])).1 p3l0
def p3 : PC := (⟨_, by conv => lhs; reduce⟩ : Rd (fun a => G f3 [a])).1 p3l1
theorem c3 : f3.body.bind (comp f3.ntmps) = some p3 := by kernel_rfl
def p4 : PC := (⟨_, by conv => lhs; reduce⟩ : Rd (G f4 [])).1
theorem c4 : f4.body.bind (comp f4.ntmps) = some p4 := by kernel_rfl
def p5l0 : PC := (⟨_, by conv => lhs; reduce⟩ : Rd (K f5 0 [])).1
def p5 : PC := (⟨_, by conv => lhs; reduce⟩ : Rd (fun a => G f5 [a])).1 p5l0
theorem c5 : f5.body.bind (comp f5.ntmps) = some p5 := by kernel_rfl
def p6l0 : PC := (⟨_, by conv => lhs; reduce⟩ : Rd (K f6 0 [])).1
def p6 : PC := (⟨_, by conv => lhs; reduce⟩ : Rd (fun a => G f6 [a])).1 p6l0
theorem c6 : f6.body.bind (comp f6.ntmps) = some p6 := by kernel_rfl
def p7l0 : PC := (⟨_, by conv => lhs; reduce⟩ : Rd (K f7 0 [])).1
def p7 : PC := (⟨_, by conv => lhs; reduce⟩ : Rd (fun a => G f7 [a])).1 p7l0
theorem c7 : f7.body.bind (comp f7.ntmps) = some p7 := by kernel_rfl
def p8l0 : PC := (⟨_, by conv => lhs; reduce⟩ : Rd (K f8 0 [])).1
def p8 : PC := (⟨_, by conv => lhs; reduce⟩ : Rd (fun a => G f8 [a])).1 p8l0
theorem c8 : f8.body.bind (comp f8.ntmps) = some p8 := by kernel_rfl
def p9l0 : PC := (⟨_, by conv => lhs; reduce⟩ : Rd (K f9 0 [])).1
def p9 : PC := (⟨_, by conv => lhs; reduce⟩ : Rd (fun a => G f9 [a])).1 p9l0
theorem c9 : f9.body.bind (comp f9.ntmps) = some p9 := by kernel_rfl
def p11l0 : PC := (⟨_, by conv => lhs; reduce⟩ : Rd (K f11 0 [])).1
def p12l0 : PC := (⟨_, by conv => lhs; reduce⟩ : Rd (K f12 0 [])).1
def p12 : PC := (⟨_, by conv => lhs; reduce⟩ : Rd (fun a => G f12 [a])).1 p12l0
theorem c12 : f12.body.bind (comp f12.ntmps) = some p12 := by kernel_rfl
def p13l0 : PC := (⟨_, by conv => lhs; reduce⟩ : Rd (K f13 0 [])).1
def p13 : PC := (⟨_, by conv => lhs; reduce⟩ : Rd (fun a => G f13 [a])).1 p13l0
theorem c13 : f13.body.bind (comp f13.ntmps) = some p13 := by kernel_rfl
def p14 : PC := (⟨_, by conv => lhs; reduce⟩ : Rd (G f14 [])).1
theorem c14 : f14.body.bind (comp f14.ntmps) = some p14 := by kernel_rfl
def p15 : PC := (⟨_, by conv => lhs; reduce⟩ : Rd (G f15 [])).1
theorem c15 : f15.body.bind (comp f15.ntmps) = some p15 := by kernel_rfl
def p16 : PC := (⟨_, by conv => lhs; reduce⟩ : Rd (G f16 [])).1
theorem c16 : f16.body.bind (comp f16.ntmps) = some p16 := by kernel_rfl
def p17 : PC := (⟨_, by conv => lhs; reduce⟩ : Rd (G f17 [])).1
theorem c17 : f17.body.bind (comp f17.ntmps) = some p17 := by kernel_rfl
def p20 : PC := (⟨_, by conv => lhs; reduce⟩ : Rd (G f20 [])).1
theorem c20 : f20.body.bind (comp f20.ntmps) = some p20 := by kernel_rfl
def p27 : PC := (⟨_, by conv => lhs; reduce⟩ : Rd (G f27 [])).1
theorem c27 : f27.body.bind (comp f27.ntmps) = some p27 := by kernel_rfl
def p28 : PC := (⟨_, by conv => lhs; reduce⟩ : Rd (G f28 [])).1
theorem c28 : f28.body.bind (comp f28.ntmps) = some p28 := by kernel_rfl
def p29l0 : PC := (⟨_, by conv => lhs; reduce⟩ : Rd (K f29 0 [])).1
def p29 : PC := (⟨_, by conv => lhs; reduce⟩ : Rd (fun a => G f29 [a])).1 p29l0
theorem c29 : f29.body.bind (comp f29.ntmps) = some p29 := by kernel_rfl
def p30l0 : PC := (⟨_, by conv => lhs; reduce⟩ : Rd (K f30 0 [])).1
def p30 : PC := (⟨_, by conv => lhs; reduce⟩ : Rd (fun a => G f30 [a])).1 p30l0
theorem c30 : f30.body.bind (comp f30.ntmps) = some p30 := by kernel_rfl
def p31l0 : PC := (⟨_, by conv => lhs; reduce⟩ : Rd (K f31 0 [])).1
def p31l1 : PC := (⟨_, by conv => lhs; reduce⟩ : Rd (K f31 1 [])).1
def p31 : PC := (⟨_, by conv => lhs; reduce⟩ : Rd (fun a b => G f31 [a, b])).1 p31l0 p31l1
theorem c31 : f31.body.bind (comp f31.ntmps) = some p31 := by kernel_rfl
def p32 : PC := (⟨_, by conv => lhs; reduce⟩ : Rd (G f32 [])).1
theorem c32 : f32.body.bind (comp f32.ntmps) = some p32 := by kernel_rfl
def p33l0 : PC := (⟨_, by conv => lhs; reduce⟩ : Rd (K f33 0 [])).1
def p33 : PC := (⟨_, by conv => lhs; reduce⟩ : Rd (fun a => G f33 [a])).1 p33l0
theorem c33 : f33.body.bind (comp f33.ntmps) = some p33 := by kernel_rfl
def p38l0 : PC := (⟨_, by conv => lhs; reduce⟩ : Rd (K f38 0 [])).1
def p40l0 : PC := (⟨_, by conv => lhs; reduce⟩ : Rd (K f40 0 [])).1
def p40 : PC := (⟨_, by conv => lhs; reduce⟩ : Rd (fun a => G f40 [a])).1 p40l0
theorem c40 : f40.body.bind (comp f40.ntmps) = some p40 := by kernel_rfl
def p41 : PC := (⟨_, by conv => lhs; reduce⟩ : Rd (G f41 [])).1
theorem c41 : f41.body.bind (comp f41.ntmps) = some p41 := by kernel_rfl
def p42 : PC := (⟨_, by conv => lhs; reduce⟩ : Rd (G f42 [])).1
theorem c42 : f42.body.bind (comp f42.ntmps) = some p42 := by kernel_rfl
def p43 : PC := (⟨_, by conv => lhs; reduce⟩ : Rd (G f43 [])).1
theorem c43 : f43.body.bind (comp f43.ntmps) = some p43 := by kernel_rfl
def p44 : PC := (⟨_, by conv => lhs; reduce⟩ : Rd (G f44 [])).1
theorem c44 : f44.body.bind (comp f44.ntmps) = some p44 := by kernel_rfl
def p45 : PC := (⟨_, by conv => lhs; reduce⟩ : Rd (G f45 [])).1
theorem c45 : f45.body.bind (comp f45.ntmps) = some p45 := by kernel_rfl
def p46 : PC := (⟨_, by conv => lhs; reduce⟩ : Rd (G f46 [])).1
theorem c46 : f46.body.bind (comp f46.ntmps) = some p46 := by kernel_rfl
def p47 : PC := (⟨_, by conv => lhs; reduce⟩ : Rd (G f47 [])).1
theorem c47 : f47.body.bind (comp f47.ntmps) = some p47 := by kernel_rfl
def p48 : PC := (⟨_, by conv => lhs; reduce⟩ : Rd (G f48 [])).1
theorem c48 : f48.body.bind (comp f48.ntmps) = some p48 := by kernel_rfl
def p49 : PC := (⟨_, by conv => lhs; reduce⟩ : Rd (G f49 [])).1
theorem c49 : f49.body.bind (comp f49.ntmps) = some p49 := by kernel_rfl
def p50 : PC := (⟨_, by conv => lhs; reduce⟩ : Rd (G f50 [])).1
theorem c50 : f50.body.bind (comp f50.ntmps) = some p50 := by kernel_rfl
def p51l0 : PC := (⟨_, by conv => lhs; reduce⟩ : Rd (K f51 0 [])).1
def p51 : PC := (⟨_, by conv => lhs; reduce⟩ : Rd (fun a => G f51 [a])).1 p51l0
theorem c51 : f51.body.bind (comp f51.ntmps) = some p51 := by kernel_rfl
def p52 : PC := (⟨_, by conv => lhs; reduce⟩ : Rd (G f52 [])).1
theorem c52 : f52.body.bind (comp f52.ntmps) = some p52 := by kernel_rfl
def p53l0 : PC := (⟨_, by conv => lhs; reduce⟩ : Rd (K f53 0 [])).1
def p53l1 : PC := (⟨_, by conv => lhs; reduce⟩ : Rd (K f53 1 [])).1
def p53l2 : PC := (⟨_, by conv => lhs; reduce⟩ : Rd (fun a => K f53 2 [a])).1 p53l1
def p53 : PC := (⟨_, by conv => lhs; reduce⟩ : Rd (fun a b => G f53 [a, b])).1 p53l0 p53l2
theorem c53 : f53.body.bind (comp f53.ntmps) = some p53 := by kernel_rfl
def p57l0 : PC := (⟨_, by conv => lhs; reduce⟩ : Rd (K f57 0 [])).1
def p57 : PC := (⟨_, by conv => lhs; reduce⟩ : Rd (fun a => G f57 [a])).1 p57l0
theorem c57 : f57.body.bind (comp f57.ntmps) = some p57 := by kernel_rfl
def p58l0 : PC := (⟨_, by conv => lhs; reduce⟩ : Rd (K f58 0 [])).1
def p58 : PC := (⟨_, by conv => lhs; reduce⟩ : Rd (fun a => G f58 [a])).1 p58l0
theorem c58 : f58.body.bind (comp f58.ntmps) = some p58 := by kernel_rfl
def p59l0 : PC := (⟨_, by conv => lhs; reduce⟩ : Rd (K f59 0 [])).1
def p59 : PC := (⟨_, by conv => lhs; reduce⟩ : Rd (fun a => G f59 [a])).1 p59l0
theorem c59 : f59.body.bind (comp f59.ntmps) = some p59 := by kernel_rfl
def p65l0 : PC := (⟨_, by conv => lhs; reduce⟩ : Rd (K f65 0 [])).1
def p65l1 : PC := (⟨_, by conv => lhs; reduce⟩ : Rd (fun a => K f65 1 [a])).1 p65l0
def p65 : PC := (⟨_, by conv => lhs; reduce⟩ : Rd (fun a => G f65 [a])).1 p65l1
theorem c65 : f65.body.bind (comp f65.ntmps) = some p65 := by kernel_rfl
def p66l0 : PC := (⟨_, by conv => lhs; reduce⟩ : Rd (K f66 0 [])).1
def p66l1 : PC := (⟨_, by conv => lhs; reduce⟩ : Rd (K f66 1 [])).1
def p66l2 : PC := (⟨_, by conv => lhs; reduce⟩ : Rd (K f66 2 [])).1
def p66l3 : PC := (⟨_, by conv => lhs; reduce⟩ : Rd (K f66 3 [])).1
def p66l4 : PC := (⟨_, by conv => lhs; reduce⟩ : Rd (K f66 4 [])).1
def p66 : PC := (⟨_, by conv => lhs; reduce⟩ : Rd (fun a b c d e => G f66 [a, b, c, d, e])).1 p66l0 p66l1 p66l2 p66l3 p66l4
theorem c66 : f66.body.bind (comp f66.ntmps) = some p66 := by kernel_rfl
def p73l0 : PC := (⟨_, by conv => lhs; reduce⟩ : Rd (K f73 0 [])).1
def p73 : PC := (⟨_, by conv => lhs; reduce⟩ : Rd (fun a => G f73 [a])).1 p73l0
theorem c73 : f73.body.bind (comp f73.ntmps) = some p73 := by kernel_rfl
def p82l0 : PC := (⟨_, by conv => lhs; reduce⟩ : Rd (K f82 0 [])).1
def p82 : PC := (⟨_, by conv => lhs; reduce⟩ : Rd (fun a => G f82 [a])).1 p82l0
theorem c82 : f82.body.bind (comp f82.ntmps) = some p82 := by kernel_rfl
def ty2 : Ty := ⟨1, 8, false, .int .i64, [(.int .i64 0)]⟩
def ty3 : Ty := ⟨1, 8, false, .int .i64, [(.int .i64 0)]⟩
def ty4 : Ty := ⟨1, 1, false, .bool, [(.bool false)]⟩
def ty5 : Ty := ⟨1, 1, false, .int .u8, [(.int .u8 0)]⟩
def ty9 : Ty := ⟨1, 16, false, .str, [(.string ByteArray.empty)]⟩
def ty21 : Ty := ⟨1, 4, false, .int .i32, [(.int .i32 0)]⟩
def ty22 : Ty := ⟨1, 24, false, .slice 35, [(.slice none 0 0)]⟩
def ty24 : Ty := ⟨2, 40, true, .struct [(0, 9), (1, 22)], [(.string ByteArray.empty), (.slice none 0 0)]⟩
def ty27 : Ty := ⟨1, 8, false, .int .i64, [(.int .i64 0)]⟩
def ty33 : Ty := ⟨1, 24, false, .slice 3, [(.slice none 0 0)]⟩
def ty35 : Ty := ⟨4, 64, true, .struct [(0, 3), (1, 9), (2, 33), (3, 9)], [(.int .i64 0), (.string ByteArray.empty), (.slice none 0 0), (.string ByteArray.empty)]⟩
def ty43 : Ty := ⟨1, 8, false, .other, [.nilFunc]⟩
def ty46 : Ty := ⟨1, 8, false, .other, [.nilFunc]⟩
def ty48 : Ty := ⟨1, 8, false, .ptr 51, [(.pointer none)]⟩
def ty49 : Ty := ⟨1, 24, false, .slice 5, [(.slice none 0 0)]⟩
def ty51 : Ty := ⟨2, 32, true, .struct [(0, 48), (1, 49)], [(.pointer none), (.slice none 0 0)]⟩
def ty53 : Ty := ⟨1, 16, false, .ifc false, [.nilIface]⟩
def ty67 : Ty := ⟨1, 24, false, .slice 9, [(.slice none 0 0)]⟩
def ty71 : Ty := ⟨1, 8, false, .other, [.nilFunc]⟩
def ty74 : Ty := ⟨1, 8, false, .other, [.nilFunc]⟩
def ty77 : Ty := ⟨1, 24, false, .slice 22, [(.slice none 0 0)]⟩
def ty80 : Ty := ⟨1, 8, false, .other, [(.pointer none)]⟩
def ty90 : Ty := ⟨1, 8, false, .ptr 86, [(.pointer none)]⟩
def ty97 : Ty := ⟨1, 8, false, .int .u64, [(.int .u64 0)]⟩
def ty98 : Ty := ⟨24, 24, true, .array 24 5, [(.int .u8 0), (.int .u8 0), (.int .u8 0), (.int .u8 0), (.int .u8 0), (.int .u8 0), (.int .u8 0), (.int .u8 0), (.int .u8 0), (.int .u8 0), (.int .u8 0), (.int .u8 0), (.int .u8 0), (.int .u8 0), (.int .u8 0), (.int .u8 0), (.int .u8 0), (.int .u8 0), (.int .u8 0), (.int .u8 0), (.int .u8 0), (.int .u8 0), (.int .u8 0), (.int .u8 0)]⟩
def ty99 : Ty := ⟨1, 8, false, .int .u64, [(.int .u64 0)]⟩
def ty108 : Ty := ⟨20, 160, true, .array 20 99, [(.int .u64 0), (.int .u64 0), (.int .u64 0), (.int .u64 0), (.int .u64 0), (.int .u64 0), (.int .u64 0), (.int .u64 0), (.int .u64 0), (.int .u64 0), (.int .u64 0), (.int .u64 0), (.int .u64 0), (.int .u64 0), (.int .u64 0), (.int .u64 0), (.int .u64 0), (.int .u64 0), (.int .u64 0), (.int .u64 0)]⟩
def ty109 : Ty := ⟨1, 4, false, .int .u32, [(.int .u32 0)]⟩
def ty114 : Ty := ⟨2, 2, true, .struct [(0, 5), (1, 5)], [(.int .u8 0), (.int .u8 0)]⟩
def ty115 : Ty := ⟨32, 32, true, .array 16 114, [(.int .u8 0), (.int .u8 0), (.int .u8 0), (.int .u8 0), (.int .u8 0), (.int .u8 0), (.int .u8 0), (.int .u8 0), (.int .u8 0), (.int .u8 0), (.int .u8 0), (.int .u8 0), (.int .u8 0), (.int .u8 0), (.int .u8 0), (.int .u8 0), (.int .u8 0), (.int .u8 0), (.int .u8 0), (.int .u8 0), (.int .u8 0), (.int .u8 0), (.int .u8 0), (.int .u8 0), (.int .u8 0), (.int .u8 0), (.int .u8 0), (.int .u8 0), (.int .u8 0), (.int .u8 0), (.int .u8 0), (.int .u8 0)]⟩
def ty120 : Ty := ⟨32, 32, true, .array 32 5, [(.int .u8 0), (.int .u8 0), (.int .u8 0), (.int .u8 0), (.int .u8 0), (.int .u8 0), (.int .u8 0), (.int .u8 0), (.int .u8 0), (.int .u8 0), (.int .u8 0), (.int .u8 0), (.int .u8 0), (.int .u8 0), (.int .u8 0), (.int .u8 0), (.int .u8 0), (.int .u8 0), (.int .u8 0), (.int .u8 0), (.int .u8 0), (.int .u8 0), (.int .u8 0), (.int .u8 0), (.int .u8 0), (.int .u8 0), (.int .u8 0), (.int .u8 0), (.int .u8 0), (.int .u8 0), (.int .u8 0), (.int .u8 0)]⟩
def tyL : List (Nat × Ty) := [(2, ty2), (3, ty3), (4, ty4), (5, ty5), (9, ty9), (21, ty21), (22, ty22), (24, ty24), (27, ty27), (33, ty33), (35, ty35), (43, ty43), (46, ty46), (48, ty48), (49, ty49), (51, ty51), (53, ty53), (67, ty67), (71, ty71), (74, ty74), (77, ty77), (80, ty80), (90, ty90), (97, ty97), (98, ty98), (99, ty99), (108, ty108), (109, ty109), (114, ty114), (115, ty115), (120, ty120)]
def eqL : List (Nat × List CK) := [(114, [.int, .int])]
def tys : Tys := lk tyL
def eqs : Eqs := lk eqL
theorem gok : GOk prog tys := gok_of (by kernel_rfl)
theorem eok : EqOk prog eqs := eqok_of (by kernel_rfl)
theorem mixed : prog.follows .mixedOrders = true := by kernel_rfl
@[simp] theorem g2 : tys 2 = some ⟨1, 8, false, .int .i64, [(.int .i64 0)]⟩ := nrfl rfl
@[simp] theorem g3 : tys 3 = some ⟨1, 8, false, .int .i64, [(.int .i64 0)]⟩ := nrfl rfl
@[simp] theorem g4 : tys 4 = some ⟨1, 1, false, .bool, [(.bool false)]⟩ := nrfl rfl
@[simp] theorem g5 : tys 5 = some ⟨1, 1, false, .int .u8, [(.int .u8 0)]⟩ := nrfl rfl
@[simp] theorem g9 : tys 9 = some ⟨1, 16, false, .str, [(.string ByteArray.empty)]⟩ := nrfl rfl
@[simp] theorem g21 : tys 21 = some ⟨1, 4, false, .int .i32, [(.int .i32 0)]⟩ := nrfl rfl
@[simp] theorem g22 : tys 22 = some ⟨1, 24, false, .slice 35, [(.slice none 0 0)]⟩ := nrfl rfl
@[simp] theorem g24 : tys 24 = some ⟨2, 40, true, .struct [(0, 9), (1, 22)], [(.string ByteArray.empty), (.slice none 0 0)]⟩ := nrfl rfl
@[simp] theorem g27 : tys 27 = some ⟨1, 8, false, .int .i64, [(.int .i64 0)]⟩ := nrfl rfl
@[simp] theorem g33 : tys 33 = some ⟨1, 24, false, .slice 3, [(.slice none 0 0)]⟩ := nrfl rfl
@[simp] theorem g35 : tys 35 = some ⟨4, 64, true, .struct [(0, 3), (1, 9), (2, 33), (3, 9)], [(.int .i64 0), (.string ByteArray.empty), (.slice none 0 0), (.string ByteArray.empty)]⟩ := nrfl rfl
@[simp] theorem g43 : tys 43 = some ⟨1, 8, false, .other, [.nilFunc]⟩ := nrfl rfl
@[simp] theorem g46 : tys 46 = some ⟨1, 8, false, .other, [.nilFunc]⟩ := nrfl rfl
@[simp] theorem g48 : tys 48 = some ⟨1, 8, false, .ptr 51, [(.pointer none)]⟩ := nrfl rfl
@[simp] theorem g49 : tys 49 = some ⟨1, 24, false, .slice 5, [(.slice none 0 0)]⟩ := nrfl rfl
@[simp] theorem g51 : tys 51 = some ⟨2, 32, true, .struct [(0, 48), (1, 49)], [(.pointer none), (.slice none 0 0)]⟩ := nrfl rfl
@[simp] theorem g53 : tys 53 = some ⟨1, 16, false, .ifc false, [.nilIface]⟩ := nrfl rfl
@[simp] theorem g67 : tys 67 = some ⟨1, 24, false, .slice 9, [(.slice none 0 0)]⟩ := nrfl rfl
@[simp] theorem g71 : tys 71 = some ⟨1, 8, false, .other, [.nilFunc]⟩ := nrfl rfl
@[simp] theorem g74 : tys 74 = some ⟨1, 8, false, .other, [.nilFunc]⟩ := nrfl rfl
@[simp] theorem g77 : tys 77 = some ⟨1, 24, false, .slice 22, [(.slice none 0 0)]⟩ := nrfl rfl
@[simp] theorem g80 : tys 80 = some ⟨1, 8, false, .other, [(.pointer none)]⟩ := nrfl rfl
@[simp] theorem g90 : tys 90 = some ⟨1, 8, false, .ptr 86, [(.pointer none)]⟩ := nrfl rfl
@[simp] theorem g97 : tys 97 = some ⟨1, 8, false, .int .u64, [(.int .u64 0)]⟩ := nrfl rfl
@[simp] theorem g98 : tys 98 = some ⟨24, 24, true, .array 24 5, [(.int .u8 0), (.int .u8 0), (.int .u8 0), (.int .u8 0), (.int .u8 0), (.int .u8 0), (.int .u8 0), (.int .u8 0), (.int .u8 0), (.int .u8 0), (.int .u8 0), (.int .u8 0), (.int .u8 0), (.int .u8 0), (.int .u8 0), (.int .u8 0), (.int .u8 0), (.int .u8 0), (.int .u8 0), (.int .u8 0), (.int .u8 0), (.int .u8 0), (.int .u8 0), (.int .u8 0)]⟩ := nrfl rfl
@[simp] theorem g99 : tys 99 = some ⟨1, 8, false, .int .u64, [(.int .u64 0)]⟩ := nrfl rfl
@[simp] theorem g108 : tys 108 = some ⟨20, 160, true, .array 20 99, [(.int .u64 0), (.int .u64 0), (.int .u64 0), (.int .u64 0), (.int .u64 0), (.int .u64 0), (.int .u64 0), (.int .u64 0), (.int .u64 0), (.int .u64 0), (.int .u64 0), (.int .u64 0), (.int .u64 0), (.int .u64 0), (.int .u64 0), (.int .u64 0), (.int .u64 0), (.int .u64 0), (.int .u64 0), (.int .u64 0)]⟩ := nrfl rfl
@[simp] theorem g109 : tys 109 = some ⟨1, 4, false, .int .u32, [(.int .u32 0)]⟩ := nrfl rfl
@[simp] theorem g114 : tys 114 = some ⟨2, 2, true, .struct [(0, 5), (1, 5)], [(.int .u8 0), (.int .u8 0)]⟩ := nrfl rfl
@[simp] theorem g115 : tys 115 = some ⟨32, 32, true, .array 16 114, [(.int .u8 0), (.int .u8 0), (.int .u8 0), (.int .u8 0), (.int .u8 0), (.int .u8 0), (.int .u8 0), (.int .u8 0), (.int .u8 0), (.int .u8 0), (.int .u8 0), (.int .u8 0), (.int .u8 0), (.int .u8 0), (.int .u8 0), (.int .u8 0), (.int .u8 0), (.int .u8 0), (.int .u8 0), (.int .u8 0), (.int .u8 0), (.int .u8 0), (.int .u8 0), (.int .u8 0), (.int .u8 0), (.int .u8 0), (.int .u8 0), (.int .u8 0), (.int .u8 0), (.int .u8 0), (.int .u8 0), (.int .u8 0)]⟩ := nrfl rfl
@[simp] theorem g120 : tys 120 = some ⟨32, 32, true, .array 32 5, [(.int .u8 0), (.int .u8 0), (.int .u8 0), (.int .u8 0), (.int .u8 0), (.int .u8 0), (.int .u8 0), (.int .u8 0), (.int .u8 0), (.int .u8 0), (.int .u8 0), (.int .u8 0), (.int .u8 0), (.int .u8 0), (.int .u8 0), (.int .u8 0), (.int .u8 0), (.int .u8 0), (.int .u8 0), (.int .u8 0), (.int .u8 0), (.int .u8 0), (.int .u8 0), (.int .u8 0), (.int .u8 0), (.int .u8 0), (.int .u8 0), (.int .u8 0), (.int .u8 0), (.int .u8 0), (.int .u8 0), (.int .u8 0)]⟩ := nrfl rfl
@[simp] theorem e114 : eqs 114 = some [.int, .int] := nrfl rfl
theorem CB {f : FuncId} {fn : Func} {p : PC} {args : List V} {r : V} {H1 : List (Nat × List V)} (hf : prog.funcs[f]? = some fn) (hc : fn.body.bind (comp fn.ntmps) = some p) (h : ∀ E : Ent, (∀ i, ¬ E.stab i) -> PW prog tys eqs E p (retQ tys fn r H1) ⟨argF 0 args, fun _ => none, 0⟩) (hn : args.length <= fn.ntmps := by exact Nat.le_of_ble_eq_true rfl) (hname : (fn.name == "runtime.NumGoroutine") = false := by rfl) (hcl : ∀ v ∈ args, Closed v := by simp) (hri : ResIds r H1 := by simp [ResIds]) : Ct prog f args r H1 :=
 Ct.by gok eok mixed hf hc hname hn hcl hri h
theorem CM {f : FuncId} {fn : Func} {p : PC} {args : List V} {Hin : List (Nat × List V)} {ks : List Nat} {res : Res} {H1 : List (Nat × List V)} (N : Nat) (hf : prog.funcs[f]? = some fn) (hc : fn.body.bind (comp fn.ntmps) = some p) (h : ∀ E : Ent, (∀ i, E.stab i ↔ i ∈ ks) -> E.nt = fn.ntmps /\ E.rq -> PW prog tys eqs E p (retM tys fn ks res H1) ⟨argF 0 args, lk Hin, N⟩) (hn : args.length <= fn.ntmps := by exact Nat.le_of_ble_eq_true rfl) (hname : (fn.name == "runtime.NumGoroutine") = false := by rfl) (hcl : ∀ v ∈ args, A2 (· < N) anyD v := by simp) (hids : HpIds N Hin := by simp) (hks : ∀ i ∈ ks, i < N := by simp) (hri : ResIds res.v H1 := by simp [ResIds]) : Cm prog f args (lk Hin) ks res (lk H1) :=
 Cm.by gok eok mixed N hf hc hname hn hcl (HpIds.at hids) hks hri h
abbrev vi (n : Int) : V := .d (.lit (.int .i64 n))
abbrev vb (b : Bool) : V := .d (.lit (.bool b))
abbrev di (n : Int) : D := .lit (.int .i64 n)
end Go.Proofs.Tryd
namespace Go.Psl
variable {P : Program} {G : Gh} {W : World} {H : Hp}
def fzIm (G : Gh) (H : Hp) (b : Nat) : Prop := G.Im b \/ ∃ i, InH H i /\ G.ph i = false /\ G.β i = b
theorem fz0 (hp : ∀ id cs, H id = some cs -> HB G W id cs) {v c : V} {x : Value} (hb : Bor0 H v c) (hx : RV G W v x) : R0 { G with Im := fzIm G H } W c x := by
 have him : ∀ b, G.Im b -> fzIm G H b /\ W.heap[b]? = W.heap[b]? := fun b hb => ⟨.inl hb, rfl⟩
 have hless : ∀ i cs, H i = some cs -> H i = some cs /\ True := fun i cs h => by
   exact ⟨h, trivial⟩
 unfold Bor0 at hb
 split at hb
 . rename_i y z
   rcases hb with rfl | ⟨rfl, sz, rfl⟩
   . exact RD.mono (x := y) hx him
   . have := rv_lit hx
     subst this
     exact RD.sl sz [] none 0 (fun _ _ => undef) (by simp) (by simp [maxL]) (by simp) (by simp) (by simp)
 . rename_i id off len sz sz' es
   obtain ⟨rfl, hl, hes, cs, hh0, hcs⟩ := hb
   obtain ⟨hh, hnin⟩ := hless _ _ hh0
   obtain ⟨hml, ⟨hph, h0, rfl⟩ | ⟨hph, o', cap, rfl, hcap, hoff⟩⟩ := hx
   . have : es = [] := List.eq_nil_of_length_eq_zero (by omega)
     subst this
     exact RD.sl sz' [] none 0 (fun _ _ => undef) (by simp) (by simp [maxL]) (by simp) (by simp) (by simp)
   . obtain ⟨_, c, T, ⟨fz, hg, _⟩, hbs, hcl, hcr, _⟩ := (hp id cs hh).read hph
     have hfl := flatten_len es hes
     have hlen : ((cs.drop off).take (len * sz')).length = len * sz' := by rw [hcs, List.length_map, hfl, hl]
     have hfit : off + len * sz' <= cs.length \/ len * sz' = 0 := by simp at hlen; omega
     subst hl
     refine RD.sl sz' es (some ⟨G.β id, o', none⟩) cap (fun i j => c.toList.getD (off + i * sz' + j) undef) hes hml hcap (fun i e he => ⟨_, rfl, .inr ⟨id, by show (H id).isSome = true; rw [hh]; rfl, hph.1, rfl⟩, fun j y hy => ?_⟩) (fun i e he j y hy => ?_)
     all_goals
       have hil : i < es.length := (List.getElem?_eq_some_iff.1 he).1
       have hel := hes e (List.mem_of_getElem? he)
       have hjl : j < sz' := by have := (List.getElem?_eq_some_iff.1 hy).1; omega
       have hij : i * sz' + j < es.length * sz' := by
         have : (i + 1) * sz' <= es.length * sz' := Nat.mul_le_mul_right _ hil
         rw [Nat.add_mul] at this; omega
       have hfit' : off + es.length * sz' <= cs.length := by omega
       have hcell : cs[off + (i * sz' + j)]? = some (.d y) := by
         have h1 : ((cs.drop off).take (es.length * sz'))[i * sz' + j]? = some (V.d y) := by
           rw [hcs, List.getElem?_map, flatten_get (by omega) es hes]
           have e1 : (i * sz' + j) / sz' = i := by rw [Nat.add_comm, Nat.add_mul_div_right _ _ (by omega), Nat.div_eq_of_lt hjl]; omega
           have e2 : (i * sz' + j) % sz' = j := by rw [Nat.add_comm, Nat.add_mul_mod_self_right, Nat.mod_eq_of_lt hjl]
           rw [e1, e2, he]; simp [hy]
         rw [List.getElem?_take, if_pos hij, List.getElem?_drop] at h1
         exact h1
       obtain ⟨u, hu, hru⟩ := hcr.get hcell
       rw [List.getElem?_take] at hu
       split at hu
       rotate_left
       . cases hu
     . obtain ⟨rfl, _⟩ := hoff (by omega)
       rw [add_plain]
       simp only [World.cell?, hg]
       rw [Array.getElem?_toList] at hu
       have h2 : c.toList.getD (o' + i * sz' + j) undef = u := by
         rw [List.getD_eq_getElem?_getD, Array.getElem?_toList, show o' + i * sz' + j = o' + (i * sz' + j) by omega, hu]; rfl
       rw [h2]
       simpa using hu
     . have h2 : c.toList.getD (off + i * sz' + j) undef = u := by
         rw [List.getD_eq_getElem?_getD, show off + i * sz' + j = off + (i * sz' + j) by omega, hu]; rfl
       show RD _ _ y (c.toList.getD (off + i * sz' + j) undef)
       rw [h2]
       exact RD.mono (x := y) hru him
 . rename_i id off ds
   obtain ⟨cs, hh0, hcs⟩ := hb
   obtain ⟨hh, hnin⟩ := hless _ _ hh0
   obtain ⟨hph, rfl⟩ : (G.ph id = false /\ G.lo id = false) /\ x = .pointer (some ⟨G.β id, off, none⟩) := hx
   obtain ⟨_, c, T, ⟨fz, hg, _⟩, hbs, hcl, hcr, _⟩ := (hp id cs hh).read hph
   have get : ∀ (j : Nat) y, ds[j]? = some y -> ∃ u, c.toList[off + j]? = some u /\ RD (fzIm G H) W y u := fun j y hy => by
     have hj := (List.getElem?_eq_some_iff.1 hy).1
     have h1 : ((cs.drop off).take ds.length)[j]? = some (V.d y) := by rw [hcs, List.getElem?_map, hy]; rfl
     rw [List.getElem?_take, if_pos hj, List.getElem?_drop] at h1
     obtain ⟨u, hu, hru⟩ := hcr.get h1
     rw [List.getElem?_take] at hu
     split at hu
     . exact ⟨u, hu, RD.mono (x := y) hru him⟩
     . cases hu
   refine RD.ref ds _ (fun j => c.toList.getD (off + j) undef) (.inr ⟨id, by show (H id).isSome = true; rw [hh]; rfl, hph.1, rfl⟩) (fun j y hy => ?_) (fun j y hy => ?_)
   . obtain ⟨u, hu, _⟩ := get j y hy
     rw [add_plain, List.getD_eq_getElem?_getD, hu]
     simp only [World.cell?, hg]
     simpa using hu
   . obtain ⟨u, hu, hr⟩ := get j y hy
     rw [List.getD_eq_getElem?_getD, hu]
     exact hr
 . rename_i f caps g ds
   obtain ⟨rfl, rfl⟩ := hb
   obtain ⟨cv, rfl, hcr⟩ := hx
   have hl := hcr.length
   refine RD.fn f ds cv (by simpa using hl.symm) fun j y v hy hv => ?_
   have h1 : (ds.map V.d)[j]? = some (V.d y) := by rw [List.getElem?_map, hy]; rfl
   obtain ⟨u, hu, hru⟩ := hcr.get h1
   rw [Array.getElem?_toList, hv] at hu
   cases hu
   exact RD.mono (x := y) hru him
 . obtain ⟨rfl, rfl⟩ := hb; exact hx
 . obtain ⟨rfl, rfl, rfl, rfl⟩ := hb; exact hx
 . have hb : _ = _ := hb; subst hb; exact hx
 . exact hb.elim
def FzC (H : Hp) (v c : V) : Prop := ∃ y, c = .d y /\ Bor0 H v (.d y)
def FzR (H : Hp) (v c : V) : Prop := Bor0 H v c \/ ∃ id off cs ds, v = .lp id off /\ c = .d (.ref ds) /\ H id = some cs /\ All2 (fun c y => Bor0 H c (.d y)) ((cs.drop off).take ds.length) ds
theorem fz0r (hp : ∀ id cs, H id = some cs -> HB G W id cs) {v c : V} {x : Value} (hb : FzR H v c) (hx : RV G W v x) : R0 { G with Im := fzIm G H } W c x := by
 rcases hb with hb | ⟨id, off, cs, ds, rfl, rfl, hh, hcs⟩
 . exact fz0 hp hb hx
 obtain ⟨hph, rfl⟩ : (G.ph id = false /\ G.lo id = false) /\ x = .pointer (some ⟨G.β id, off, none⟩) := hx
 obtain ⟨_, c, T, ⟨fz, hg, _⟩, hbs, hcl, hcr, _⟩ := (hp id cs hh).read hph
 have get : ∀ (j : Nat) y, ds[j]? = some y -> ∃ u, c.toList[off + j]? = some u /\ RD (fzIm G H) W y u := fun j y hy => by
   obtain ⟨v, hv, hvy⟩ := hcs.get2 hy
   have hj := (List.getElem?_eq_some_iff.1 hy).1
   rw [List.getElem?_take, if_pos hj, List.getElem?_drop] at hv
   obtain ⟨u, hu, hru⟩ := hcr.get hv
   rw [List.getElem?_take] at hu
   split at hu
   . exact ⟨u, hu, fz0 hp hvy (R2.rv (R1.r2 hru))⟩
   . cases hu
 refine RD.ref ds _ (fun j => c.toList.getD (off + j) undef) (.inr ⟨id, by show (H id).isSome = true; rw [hh]; rfl, hph.1, rfl⟩) (fun j y hy => ?_) (fun j y hy => ?_)
 . obtain ⟨u, hu, _⟩ := get j y hy
   rw [add_plain, List.getD_eq_getElem?_getD, hu]
   simp only [World.cell?, hg]
   simpa using hu
 . obtain ⟨u, hu, hr⟩ := get j y hy
   rw [List.getD_eq_getElem?_getD, hu]
   exact hr
def Fz1 (H : Hp) : V -> V -> Prop
 | .agg cs, .agg ds => All2 (FzC H) cs ds
 | .cl f caps, .d (.fn g ds) => f = g /\ All2 (FzR H) caps (ds.map .d)
 | v, .d y => Bor0 H v (.d y)
 | _, _ => False
def Fz (H : Hp) : V -> V -> Prop
 | .tup vs, .tup ws => All2 (Fz1 H) vs ws
 | v, w => Fz1 H v w
theorem fz1 (hp : ∀ id cs, H id = some cs -> HB G W id cs) {v c : V} {x : Value} (hb : Fz1 H v c) (hx : R2 G W v x) : R2 { G with Im := fzIm G H } W c x := by
 unfold Fz1 at hb
 split at hb
 . rename_i cs ds
   obtain ⟨cv, rfl, hr⟩ := hx
   refine ⟨cv, rfl, All2.of_get (by rw [<- hb.length, hr.length]) fun i d z hd hz => ?_⟩
   obtain ⟨c, hc, y, rfl, hy⟩ := hb.get2 hd
   obtain ⟨u, hu, hru⟩ := hr.get hc
   rw [hz] at hu; cases hu
   exact R0.r1 (fz0 hp hy (R2.rv (R1.r2 hru)))
 . rename_i f caps g ds
   obtain ⟨rfl, hc⟩ := hb
   obtain ⟨cv, rfl, hr⟩ := hx
   have hl : cv.size = ds.length := by have h1 := hc.length; have h2 := hr.length; simp at h1 h2; omega
   refine RD.fn f ds cv hl fun j y z hy hz => ?_
   obtain ⟨c, hcj, hcy⟩ := hc.get2 (show (ds.map V.d)[j]? = some (.d y) by rw [List.getElem?_map, hy]; rfl)
   obtain ⟨u, hu, hru⟩ := hr.get hcj
   rw [Array.getElem?_toList, hz] at hu; cases hu
   exact fz0r hp hcy (R2.rv (R1.r2 (R0.r1 hru)))
 . refine R1.r2 (R0.r1 (fz0 hp hb (R2.rv hx)))
 . exact hb.elim
theorem fz1_wf {v c : V} (hb : Fz1 H v c) : A2 (fun _ => False) anyD c := by
 unfold Fz1 at hb
 split at hb
 . rename_i cs ds
   intro d hd
   obtain ⟨i, hi⟩ := List.getElem?_of_mem hd
   obtain ⟨c, _, y, rfl, _⟩ := hb.get2 hi
   trivial
 . trivial
 . trivial
 . exact hb.elim
theorem fz_rel (hp : ∀ id cs, H id = some cs -> HB G W id cs) {v c : V} {x : Value} (hb : Fz H v c) (hx : RV G W v x) : RV { G with Im := fzIm G H } W c x := by
 unfold Fz at hb
 split at hb
 . rename_i vs ws
   obtain ⟨cv, rfl, hr⟩ := hx
   refine ⟨cv, rfl, All2.of_get (by rw [<- hb.length, hr.length]) fun i y z hy hz => ?_⟩
   obtain ⟨w, hw, hbw⟩ := hb.get2 hy
   obtain ⟨u, hu, hru⟩ := hr.get hw
   rw [hz] at hu; cases hu
   exact fz1 hp hbw hru
 . refine R2.rv (fz1 hp hb ?_)
   cases v <;> first | exact hx | (exfalso; revert hb; cases c <;> simp [Fz1, Bor0]; done)
theorem fz_wf {v c : V} (hb : Fz H v c) : AV (fun _ => False) anyD c := by
 unfold Fz at hb
 split at hb
 . rename_i vs ws
   intro w hw
   obtain ⟨i, hi⟩ := List.getElem?_of_mem hw
   obtain ⟨u, _, hu⟩ := hb.get2 hi
   exact fz1_wf hu
 . have := fz1_wf hb
   cases c <;> first | exact this | (revert hb; simp [Fz1]; done)
theorem Cm.freeze {f : FuncId} {args : List V} {Hin : Hp} {r r' : V} {H1 : Hp} (h : Cm P f args Hin [] (.ret r) H1) (hf : Fz H1 r r') : Cm P f args Hin [] (.ret r') (fun _ => none) := by
 refine ⟨h.1, fun G W xs him hargs hpre => Calls.mono (h.2 G W xs him hargs hpre) fun e W' ⟨G', p⟩ => ?_⟩
 have hB : ∀ id cs, H1 id = some cs -> HB G' W' id cs := fun id cs hid => (p.hb id cs hid).1
 have hblk : ∀ i, InH H1 i -> G'.ph i = false -> G'.β i < W'.heap.size := fun i hi hph => by
   cases hc : H1 i with
   | none => simp [InH, hc] at hi
   | some cs =>
     rcases hB i cs hc with ⟨h1, _⟩ | ⟨_, _, _, c, T, h3, _⟩ | ⟨_, _, _, ⟨_, fr, nt, ps, pa, pb, jmp, rec, _, h4, _⟩ | ⟨_, es, ms, ck, _, h4, _⟩ | ⟨_, bx, bp, bv, _, h4, _⟩⟩
     . rw [h1] at hph; cases hph
     . exact (Array.getElem?_eq_some_iff.1 h3.choose_spec.1).1
     . exact (Array.getElem?_eq_some_iff.1 h4).1
     . exact (Array.getElem?_eq_some_iff.1 h4).1
     . exact (Array.getElem?_eq_some_iff.1 h4).1
 refine ⟨{ G' with Im := fzIm G' H1 }, p.os, p.tape, p.output, p.drawn, p.size, p.block, fun b hb => ?_, fun b hb => .inl (p.im0 b hb), ?_, ?_, fun i cs h => (by cases h), fun i j h => (by simp [InH] at h), fun i h => (by cases h)⟩
 . rcases hb with hb | ⟨i, hi, hph, rfl⟩
   . exact p.im b hb
   . refine ⟨hblk i hi hph, .inr ?_⟩
     cases hc : H1 i with
     | none => simp [InH, hc] at hi
     | some cs => exact (p.hb i cs hc).2.1 hph
 . have hrv := p.rv
   cases e with
   | returned v => exact fz_rel hB hf hrv
   | _ => exact hrv.elim
 . show AV (InH fun _ => none) anyD r'
   exact AV.mono (fun _ h => h.elim) (fun _ h => h) (fz_wf hf)
end Go.Psl
namespace Go.Psl
variable {Γ : Tys} {eqs : Eqs} {H : Hp} {t : TypeId} {b : Nat}
theorem appF_nil {p : Option Addr} {n c : Nat} {x : V} : appF Γ H b t (.d (.lit (.slice p n c))) x = (Γ t).bind fun y => match y.sh with
 | .slice e => (Γ e).bind fun ye => if ye.size = 0 \/ sameId (.d (.lit (.slice p n c))) x = true then none else (cellsOf H ye.size x).bind fun nx => if nx.2.all V.isCell then (if nx.1 * ye.bytes <= maxA /\ nx.1 <= maxL then some (.ls b 0 nx.1 ye.size, .new b nx.2) else none) else none
 | _ => none := nrfl rfl
theorem sameId_nil {D' : D} {x : V} : sameId (.d D') x = false := nrfl rfl
theorem appF_ls {id len sz : Nat} {x : V} : appF Γ H b t (.ls id 0 len sz) x = (Γ t).bind fun y => match y.sh with
 | .slice e => (Γ e).bind fun ye => if ye.size = 0 \/ sameId (.ls id 0 len sz) x = true then none else (cellsOf H ye.size x).bind fun nx => if nx.2.all V.isCell then
     (if sz = ye.size then (H id).bind fun cs => if len * sz <= cs.length /\ (len + nx.1) * ye.bytes <= maxA /\ len + nx.1 <= maxL then some (.ls b 0 (len + nx.1) sz, .mov id b (cs.take (len * sz) ++ nx.2)) else none else none) else none
 | _ => none := nrfl rfl
theorem sameId_ls {i o l z i' o' l' z' : Nat} : sameId (.ls i o l z) (.ls i' o' l' z') = (i == i') := nrfl rfl
theorem sameId_d {i o l z : Nat} {x : D} : sameId (.ls i o l z) (.d x) = false := nrfl rfl
theorem cellsOf_nil {sz : Nat} {p : Option Addr} {n c : Nat} : cellsOf H sz (.d (.lit (.slice p n c))) = some (0, []) := nrfl rfl
theorem cellsOf_sl {sz sz' : Nat} {es : List (List D)} : cellsOf H sz (.d (.sl sz' es)) = if sz = sz' then some (es.length, es.flatten.map .d) else none := nrfl rfl
theorem cellsOf_ls {sz sz' id off len : Nat} : cellsOf H sz (.ls id off len sz') = if sz = sz' then (H id).bind fun cs => if off + len * sz <= cs.length then some (len, (cs.drop off).take (len * sz)) else none else none := nrfl rfl
theorem pack_nil : pack [] = .tup [] := nrfl rfl
theorem WV_tupnil {ρ : Nat -> Option Nat} : WV ρ (.tup []) (.tup []) := by simp
attribute [simp] pack_nil WV_tupnil appF_nil appF_ls sameId_ls sameId_d sameId_nil cellsOf_nil cellsOf_sl cellsOf_ls
theorem wc_data {ρ : Nat -> Option Nat} (x : D) : WC ρ (.d x) (.d x) := by simp
theorem all2_data {ρ : Nat -> Option Nat} {xs ys : List V} : ∀ ds : List D, All2 (WC ρ) (ds.map .d ++ xs) (ds.map .d ++ ys) = All2 (WC ρ) xs ys
 | [] => rfl
 | d :: ds => by
   show (WC ρ (.d d) (.d d) /\ All2 (WC ρ) (ds.map .d ++ xs) (ds.map .d ++ ys)) = _
   rw [all2_data ds]
   exact propext ⟨fun h => h.2, fun h => ⟨wc_data d, h⟩⟩
theorem all2_data0 {ρ : Nat -> Option Nat} (ds : List D) : All2 (WC ρ) (ds.map .d) (ds.map .d) = True := by
 have := all2_data (ρ := ρ) (xs := []) (ys := []) ds
 rw [List.append_nil] at this
 rw [this]
 exact propext ⟨fun _ => trivial, fun _ => trivial⟩
theorem cellsOk_data {xs : List V} {ds : List D} (h : xs.all V.isCell = true) : cellsOk (ds.map .d ++ xs) := Or.inl (by
 rw [List.all_append, h, Bool.and_true, List.all_map, List.all_eq_true]
 intro x _
 rfl)
theorem cellsOk_data0 {ds : List D} : cellsOk (ds.map .d) := Or.inl (by
 rw [List.all_map, List.all_eq_true]
 intro x _
 rfl)
theorem map_renC_d {ρ : Nat -> Nat} {ds : List D} : ds.map (renC ρ ∘ V.d) = ds.map V.d := by
 apply List.map_congr_left
 intro x _
 rfl
attribute [simp] map_renC_d all2_data all2_data0 cellsOk_data cellsOk_data0
end Go.Psl
namespace Go.Psl
variable {α : Type} {f : α -> List D} {sz : Nat}
abbrev slD (f : α -> List D) (sz : Nat) (l : List α) : D := .sl sz (l.map f)
def fcel (f : α -> List D) (l : List α) : List V := ((l.map f).flatten).map .d
theorem fcel_nil : fcel f [] = [] := rfl
theorem fcel_cons (x : α) (l : List α) : fcel f (x :: l) = (f x).map .d ++ fcel f l := by simp [fcel]
theorem fcel_app (l m : List α) : fcel f l ++ fcel f m = fcel f (l ++ m) := by simp [fcel]
theorem fcel_one (l : List α) (x : α) : fcel f (l ++ [x]) = fcel f l ++ (f x).map .d := by simp [fcel]
theorem fcel_cell {l : List α} : ∀ v ∈ fcel f l, v.isCell = true := fun v hv => by
 obtain ⟨y, _, rfl⟩ := List.mem_map.1 hv; rfl
theorem fcel_len (hf : ∀ x, (f x).length = sz) : ∀ l : List α, (fcel f l).length = l.length * sz
 | [] => by simp [fcel_nil]
 | x :: r => by rw [fcel_cons, List.length_append, List.length_map, hf, fcel_len hf r, List.length_cons, Nat.succ_mul]; omega
theorem fcel_take (hf : ∀ x, (f x).length = sz) (l m : List α) : (fcel f (l ++ m)).take (l.length * sz) = fcel f l := by
 rw [<- fcel_app, List.take_left' (fcel_len hf l)]
theorem fcel_whole (hf : ∀ x, (f x).length = sz) (l : List α) : (fcel f l).take (l.length * sz) = fcel f l := by
 rw [<- fcel_len hf, List.take_length]
theorem fcel_drop (hf : ∀ x, (f x).length = sz) : ∀ {l : List α} {i : Nat} {x : α}, l[i]? = some x -> ∃ m, (fcel f l).drop (i * sz) = (f x).map .d ++ m
 | [], _, _, h => by simp at h
 | a :: r, 0, x, h => by
   simp at h; subst h
   exact ⟨fcel f r, by rw [fcel_cons]; simp⟩
 | a :: r, i + 1, x, h => by
   obtain ⟨m, hm⟩ := fcel_drop hf (l := r) (i := i) (x := x) (by simpa using h)
   refine ⟨m, ?_⟩
   rw [fcel_cons, Nat.succ_mul, Nat.add_comm (i * sz) sz, <- List.drop_drop, List.drop_left' (by rw [List.length_map, hf])]
   exact hm
theorem fcel_sub (hf : ∀ x, (f x).length = sz) {l : List α} {i j k : Nat} {x : α} (h : l[i]? = some x) (hj : j + k <= sz) : ((fcel f l).drop (i * sz + j)).take k = (((f x).drop j).take k).map .d := by
 obtain ⟨m, hm⟩ := fcel_drop hf h
 rw [<- List.drop_drop, hm, List.drop_append_of_le_length (by rw [List.length_map, hf]; omega), List.take_append_of_le_length (by rw [List.length_drop, List.length_map, hf]; omega), List.map_take, List.map_drop]
theorem fcel_cellat (hf : ∀ x, (f x).length = sz) {l : List α} {i j : Nat} {x : α} {y : D} (h : l[i]? = some x) (hy : (f x)[j]? = some y) : (fcel f l)[i * sz + j]? = some (.d y) := by
 obtain ⟨m, hm⟩ := fcel_drop hf h
 have hj := (List.getElem?_eq_some_iff.1 hy).1
 rw [<- List.getElem?_drop, hm, List.getElem?_append_left (by simpa using hj), List.getElem?_map, hy]; rfl
theorem bor_fcelz (hf : ∀ x, (f x).length = sz) {H : Hp} {id : Nat} {l z : List α} (h : H id = some (fcel f (l ++ z))) : Bor H (.ls id 0 l.length sz) (.d (slD f sz l)) := by
 rw [Bor_ls]
 refine ⟨rfl, by simp, fun e he => ?_, _, h, ?_⟩
 . obtain ⟨k, _, rfl⟩ := List.mem_map.1 he; exact hf k
 . rw [List.drop_zero, fcel_take hf]; rfl
theorem bor_fcel (hf : ∀ x, (f x).length = sz) {H : Hp} {id : Nat} {l : List α} (h : H id = some (fcel f l)) : Bor H (.ls id 0 l.length sz) (.d (slD f sz l)) :=
 bor_fcelz hf (z := []) (by rw [List.append_nil]; exact h)
def ixF (q : α -> Bool) (l : List α) : Int := match l.findIdx? q with | some i => i | none => -1
theorem ixF_none {q : α -> Bool} {l : List α} (h : ∀ (j : Nat) (x : α), l[j]? = some x -> q x = false) : ixF q l = -1 := by
 unfold ixF
 have : l.findIdx? q = none := by
   rw [List.findIdx?_eq_none_iff]
   intro p hp
   obtain ⟨j, hj⟩ := List.getElem?_of_mem hp
   exact h j p hj
 rw [this]
theorem ixF_some {q : α -> Bool} {l : List α} {i : Nat} {x : α} (hx : l[i]? = some x) (hq : q x = true) (h : ∀ (j : Nat) (y : α), j < i -> l[j]? = some y -> q y = false) : ixF q l = i := by
 unfold ixF
 have : l.findIdx? q = some i := by
   rw [List.findIdx?_eq_some_iff_getElem]
   obtain ⟨h1, h2⟩ := List.getElem?_eq_some_iff.1 hx
   refine ⟨h1, by rw [h2]; exact hq, fun j hj => ?_⟩
   have := h j l[j] hj (List.getElem?_eq_getElem (by omega))
   rw [this]; simp
 rw [this]
theorem ixF_any (q : α -> Bool) (l : List α) : decide (0 <= ixF q l) = l.any q := by
 unfold ixF
 cases h : l.findIdx? q with
 | none =>
   rw [List.findIdx?_eq_none_iff] at h
   have h2 : l.any q = false := by rw [List.any_eq_false]; intro x hx; rw [h x hx]; simp
   rw [h2]; rfl
 | some i =>
   rw [List.findIdx?_eq_some_iff_getElem] at h
   obtain ⟨h1, h2, _⟩ := h
   have : l.any q = true := List.any_eq_true.2 ⟨_, List.getElem_mem h1, h2⟩
   rw [this]; simp
@[simp] theorem all2_fcel {ρ : Nat -> Option Nat} {l : List α} {xs ys : List V} : All2 (WC ρ) (fcel f l ++ xs) (fcel f l ++ ys) = All2 (WC ρ) xs ys := all2_data _
@[simp] theorem all2_fcel0 {ρ : Nat -> Option Nat} {l : List α} : All2 (WC ρ) (fcel f l) (fcel f l) = True := all2_data0 _
@[simp] theorem ok_fcel0 {l : List α} : cellsOk (fcel f l) = True := eq_true cellsOk_data0
@[simp] theorem ok_fcel4 {l : List α} {a b c d : D} : cellsOk (fcel f l ++ [V.d a, V.d b, V.d c, V.d d]) = True := eq_true (cellsOk_data rfl)
theorem ac_fcel {l : List α} {p : Nat -> Prop} : ∀ c ∈ fcel f l, AC p anyD c := fun c hc => by
 obtain ⟨y, _, rfl⟩ := List.mem_map.1 hc; trivial
@[simp] theorem ac_fcel_or {l : List α} {p : Nat -> Prop} {Q : V -> Prop} : (∀ c, c ∈ fcel f l \/ Q c -> AC p anyD c) = ∀ c, Q c -> AC p anyD c :=
 propext ⟨fun h c hc => h c (Or.inr hc), fun h c hc => hc.elim (ac_fcel c) (h c)⟩
@[simp] theorem ac_fcel0 {l : List α} {p : Nat -> Prop} : (∀ c, c ∈ fcel f l -> AC p anyD c) = True := eq_true ac_fcel
@[simp] theorem ren_fcel {l : List α} (ρ : Nat -> Nat) : List.map (renC ρ) (fcel f l) = fcel f l := by
 unfold fcel; rw [List.map_map]; exact List.map_congr_left fun _ _ => rfl
theorem bor_dat0 {H : Hp} : ∀ ds : List D, All2 (Bor H) (ds.map .d) (ds.map .d)
 | [] => by simp
 | d :: ds => by simp [bor_dat0 ds]
@[simp] theorem bor_dat {H : Hp} (ds : List D) : All2 (Bor H) (ds.map .d) (ds.map .d) = True := eq_true (bor_dat0 ds)
end Go.Psl
namespace Go.Psl
def bs (l : List UInt8) : ByteArray := ⟨l.toArray⟩
theorem bs_mk (l : List UInt8) : ByteArray.mk l.toArray = bs l := nrfl rfl
theorem bs_empty : ByteArray.empty = bs [] := nrfl rfl
theorem bs_data (s : ByteArray) : bs s.data.toList = s := by
 cases s; simp [bs]
theorem bs_toList (l : List UInt8) : (bs l).data.toList = l := by simp [bs]
theorem bs_size (l : List UInt8) : (bs l).size = l.length := by simp [bs, ByteArray.size]
theorem bs_append (a b : List UInt8) : bs a ++ bs b = bs (a ++ b) := by
 apply ByteArray.ext
 simp [bs]
theorem bs_get (l : List UInt8) (i : Nat) : (bs l)[i]? = l[i]? := by
 by_cases h : i < l.length
 . have : i < (bs l).size := by rw [bs_size]; exact h
   rw [getElem?_pos (bs l) i this, List.getElem?_eq_getElem h]
   rfl
 . have : ¬ i < (bs l).size := by rw [bs_size]; exact h
   rw [getElem?_neg (bs l) i this, List.getElem?_eq_none (by omega)]
theorem bs_getE (l : List UInt8) (i : Nat) (h : i < (bs l).size) : (bs l)[i] = l[i]'(by rw [<- bs_size]; exact h) := by
 have h2 : i < l.length := by rw [<- bs_size]; exact h
 have := bs_get l i
 rw [getElem?_pos (bs l) i h, List.getElem?_eq_getElem h2] at this
 exact Option.some.inj this
theorem bs_extract (l : List UInt8) (i j : Nat) : (bs l).extract i j = bs ((l.take j).drop i) := by
 apply ByteArray.ext
 simp [bs, List.drop_take]
theorem bs_inj {a b : List UInt8} : bs a = bs b ↔ a = b := by
 constructor
 . intro h
   have := congrArg (fun s : ByteArray => s.data.toList) h
   simpa [bs] using this
 . intro h; rw [h]
theorem bs_beq (a b : List UInt8) : (bs a == bs b) = decide (a = b) := by
 by_cases h : a = b
 . subst h
   simp only [decide_true]
   exact bytes_refl _
 . rw [decide_eq_false h]
   cases hq : (bs a == bs b)
   . rfl
   . exact absurd (bs_inj.1 (bytes_beq hq)) h
theorem bs_bne (a b : List UInt8) : (bs a != bs b) = !decide (a = b) := by
 rw [bne, bs_beq]
theorem bldZ_eq : bldZ [.pointer none, .slice none 0 0] = true := nrfl rfl
theorem WC_yl {ρ : Nat -> Option Nat} {v : V} {i : Nat} : WC ρ v (.yl i) = W0 ρ v (.yl i) := nrfl rfl
theorem renC_yl {ρ : Nat -> Nat} {i : Nat} : renC ρ (.yl i) = .yl (ρ i) := nrfl rfl
attribute [simp] WC_yl renC_yl bldZ_eq bldT_eq bs_mk bs_empty bs_size bs_append bs_get bs_getE bs_extract bs_beq bs_bne
end Go.Psl
namespace Go.Log
abbrev By := List UInt8
def upB (b : UInt8) : Bool := decide (65 <= (b.toNat : Int)) && decide ((b.toNat : Int) <= 90)
def dgB (b : UInt8) : Bool := decide (48 <= (b.toNat : Int)) && decide ((b.toNat : Int) <= 57)
def prB (b : UInt8) : Bool := decide (32 <= (b.toNat : Int)) && decide ((b.toNat : Int) <= 126)
def betw (n lo hi : Int) : Bool := decide (lo <= n) && decide (n <= hi)
def fitA (f : Nat -> UInt8 -> Bool) (s : By) : Bool := (List.range s.length).all fun i => (s[i]?).all (f i)
theorem fitA_bad {f : Nat -> UInt8 -> Bool} {s : By} {i : Nat} {b : UInt8} (h : s[i]? = some b) (hf : f i b = false) : fitA f s = false := by
 unfold fitA
 rw [List.all_eq_false]
 exact ⟨i, by simp; exact (List.getElem?_eq_some_iff.1 h).1, by simp [h, hf]⟩
theorem fitA_ok {f : Nat -> UInt8 -> Bool} {s : By} (h : ∀ j, j < s.length -> (s[j]?).all (f j) = true) : fitA f s = true := by
 unfold fitA
 rw [List.all_eq_true]
 intro i hi
 exact h i (by simpa using hi)
def madeS (s : By) (most : Int) (f : Nat -> UInt8 -> Bool) : Bool := fitA f s && betw s.length 1 most
def cptF (_ : Nat) (b : UInt8) : Bool := upB b
def shipF (i : Nat) (b : UInt8) : Bool := upB b || (decide (0 < i) && dgB b)
def noteF (_ : Nat) (b : UInt8) : Bool := prB b
def shipS (s : By) : Bool := madeS s 8 shipF
def wordS (s : By) : Bool := madeS s 8 cptF
def trimL (c : UInt8) : By -> By
 | [] => []
 | b :: r => if b = c then trimL c r else b :: r
def trimR (c : UInt8) (s : By) : By := (trimL c s.reverse).reverse
theorem trimL_len (c : UInt8) : ∀ s : By, (trimL c s).length <= s.length
 | [] => by simp [trimL]
 | b :: r => by
   unfold trimL
   split
   . have := trimL_len c r; simp; omega
   . simp
theorem trimR_len (c : UInt8) (s : By) : (trimR c s).length <= s.length := by
 have := trimL_len c s.reverse
 simpa [trimR] using this
theorem trimR_snoc (c : UInt8) (s : By) (b : UInt8) : trimR c (s ++ [b]) = if b = c then trimR c s else s ++ [b] := by
 unfold trimR
 rw [List.reverse_append]
 simp only [List.reverse_cons, List.reverse_nil, List.nil_append, List.cons_append, trimL]
 split <;> simp
def bareS (c : UInt8) (s : By) : Bool := (s.head?).all (fun b => decide (b ≠ c)) && (s.getLast?).all fun b => decide (b ≠ c)
theorem trim_same (c : UInt8) (s : By) : trimL c (trimR c s) = s ↔ bareS c s = true := by
 constructor
 . intro h
   have h1 := trimL_len c (trimR c s)
   have h2 := trimR_len c s
   rw [h] at h1
   have hr : trimR c s = s := by
     rcases List.eq_nil_or_concat s with rfl | ⟨r, b, rfl⟩
     . rfl
     . rw [List.concat_eq_append] at *
       rw [trimR_snoc] at h1 ⊢
       split
       . rename_i e
         rw [if_pos e] at h1
         have := trimR_len c r
         simp at h1
         omega
       . rfl
   rw [hr] at h
   unfold bareS
   rw [Bool.and_eq_true]
   constructor
   . cases s with
     | nil => rfl
     | cons b r =>
       simp only [List.head?_cons, Option.all_some, decide_eq_true_eq]
       intro e
       subst e
       simp only [trimL, if_true] at h
       have := trimL_len b r
       rw [h] at this
       simp at this
       omega
   . rcases List.eq_nil_or_concat s with rfl | ⟨r, b, rfl⟩
     . rfl
     . rw [List.concat_eq_append] at *
       simp only [List.getLast?_concat, Option.all_some, decide_eq_true_eq]
       intro e
       subst e
       rw [trimR_snoc, if_pos rfl] at hr
       have := trimR_len b r
       rw [hr] at this
       simp at this
       omega
 . intro h
   unfold bareS at h
   rw [Bool.and_eq_true] at h
   have hr : trimR c s = s := by
     rcases List.eq_nil_or_concat s with rfl | ⟨r, b, rfl⟩
     . rfl
     . rw [List.concat_eq_append] at *
       rw [trimR_snoc, if_neg]
       simpa using h.2
   rw [hr]
   cases s with
   | nil => rfl
   | cons b r =>
     simp only [trimL]
     rw [if_neg]
     simpa using h.1
def noteS (s : By) : Bool := decide (s = []) || (decide (trimL 32 (trimR 32 s) = s) && madeS s 40 noteF)
def argB (n : Int) : Bool := betw n (-1000000000) 1000000000
structure Etr where
 t : Int
 w : By
 a : List Int
 n : By
deriving DecidableEq, Inhabited
structure Lg where
 s : By
 es : List Etr
deriving DecidableEq, Inhabited
def entS (x : Etr) : Bool := betw x.t 0 1000000 && wordS x.w && decide (x.a.length <= 6) && x.a.all argB && noteS x.n
def ordS : Int -> List Etr -> Bool
 | _, [] => true
 | last, x :: r => entS x && decide (last <= x.t) && ordS x.t r
def okLg (l : Lg) : Bool := shipS l.s && decide (l.es.length <= 200) && ordS 0 l.es
def lastT (es : List Etr) (i : Nat) : Int := match i with
 | 0 => 0
 | j + 1 => (es[j]?).elim 0 Etr.t
theorem ordS_drop {es : List Etr} : ∀ {i : Nat} {last : Int} {x : Etr}, ordS last es = true -> es[i]? = some x -> entS x = true /\ (match i with | 0 => last | j + 1 => (es[j]?).elim 0 Etr.t) <= x.t := by
 induction es with
 | nil => intro i last x _ h; simp at h
 | cons y r ih =>
   intro i last x h hx
   simp only [ordS, Bool.and_eq_true, decide_eq_true_eq] at h
   cases i with
   | zero => simp at hx; subst hx; exact ⟨h.1.1, h.1.2⟩
   | succ j =>
     simp at hx
     have := ih h.2 hx
     refine ⟨this.1, ?_⟩
     cases j with
     | zero => simpa using this.2
     | succ k => simpa using this.2
theorem ordS_all {es : List Etr} : ∀ {last : Int}, (∀ (i : Nat) x, es[i]? = some x -> entS x = true /\ (match i with | 0 => last | j + 1 => (es[j]?).elim 0 Etr.t) <= x.t) -> ordS last es = true := by
 induction es with
 | nil => intro last _; rfl
 | cons y r ih =>
   intro last h
   simp only [ordS, Bool.and_eq_true, decide_eq_true_eq]
   have h0 := h 0 y rfl
   refine ⟨⟨h0.1, h0.2⟩, ih fun i x hx => ?_⟩
   have h1 := h (i + 1) x (by simpa using hx)
   refine ⟨h1.1, ?_⟩
   cases i with
   | zero => simpa using h1.2
   | succ k => simpa using h1.2
theorem ordS_bad {es : List Etr} {i : Nat} {x : Etr} (hx : es[i]? = some x) (hb : entS x = false \/ x.t < lastT es i) : ordS 0 es = false := by
 cases h : ordS 0 es with
 | false => rfl
 | true =>
   have := ordS_drop h hx
   rcases hb with hb | hb
   . rw [this.1] at hb; cases hb
   . have h2 := this.2
     unfold lastT at hb
     cases i <;> simp at hb h2 <;> omega
theorem ordS_ok {es : List Etr} (h : ∀ (i : Nat), i < es.length -> (es[i]?).all (fun x => entS x && decide (lastT es i <= x.t)) = true) : ordS 0 es = true := by
 refine ordS_all fun i x hx => ?_
 have := h i (List.getElem?_eq_some_iff.1 hx).1
 rw [hx] at this
 simp only [Option.all_some, Bool.and_eq_true, decide_eq_true_eq] at this
 refine ⟨this.1, ?_⟩
 unfold lastT at this
 cases i <;> simpa using this.2
end Go.Log
namespace Go.Proofs.Tryd
open Go.Psl
open Go.Log
abbrev dS (l : By) : D := .lit (.string (bs l))
abbrev vS (l : By) : V := .d (dS l)
abbrev vu (b : UInt8) : V := .d (.lit (.int .u8 b.toNat))
abbrev intL (n : Int) : List D := [di n]
abbrev intsD (l : List Int) : D := .sl 1 (l.map intL)
abbrev entL (x : Etr) : List D := [di x.t, dS x.w, intsD x.a, dS x.n]
abbrev entV (x : Etr) : V := .agg [vi x.t, vS x.w, .d (intsD x.a), vS x.n]
abbrev entsD (l : List Etr) : D := .sl 4 (l.map entL)
abbrev logV (l : Lg) : V := .agg [vS l.s, .d (entsD l.es)]
theorem any_nt {α : Type} (f : α -> Bool) (l : List α) : l.any (fun x => !f x) = !l.all f := by
 induction l with
 | nil => rfl
 | cons a l ih => simp [ih]
theorem fn43 (n lo hi : Int) : Ct prog 43 [vi n, vi lo, vi hi] (vb (betw n lo hi)) [] := by
 by_cases h1 : lo <= n
 . by_cases h2 : n <= hi
   . refine CB func43 c43 fun E hE => ?_
     simp [p43, h1, h2]
     apply RZ
     simp [results43, betw, h1, h2]
   . refine CB func43 c43 fun E hE => ?_
     simp [p43, h1, h2]
     apply RZ
     simp [results43, betw, h1, h2]
 . refine CB func43 c43 fun E hE => ?_
   simp [p43, h1]
   apply RZ
   simp [results43, betw, h1]
theorem fn40 (s : By) (most : Int) (g : FuncId) (f : Nat -> UInt8 -> Bool) (hl : s.length <= 1000000) (hg : ∀ (i : Nat) b, s[i]? = some b -> Ct prog g [vi i, vu b] (vb (f i b)) []) : Ct prog 40 [vS s, vi most, .d (.fn g [])] (vb (madeS s most f)) [] := by
 refine CB func40 c40 fun E hE => ?_
 simp [p40]
 refine pw_loop (α := Nat) (fun i => ⟨slots [(0, vS s), (1, vi most), (2, .d (.fn g [])), (9, vi s.length), (10, vi i)], lk [], 0⟩) (fun i => i <= s.length /\ ∀ j, j < i -> (s[j]?).all (f j) = true) (fun i => s.length - i) 0 ?_ ?_ ?_
 . exact ⟨by omega, fun j hj => by omega⟩
 . exact WK hE (lk [])
 . rintro i ⟨hi, hg3⟩
   have hz := @wz i (by omega)
   simp [p40l0]
   refine cR_split (fun h => ?_) (fun h => ?_)
   . simp at h
     obtain ⟨b, hb⟩ := gE h
     simp [hb]
     refine CLa (hg i b hb) ?_
     cases hq : f i b
     . simp
       apply RZ
       simp [results40, madeS, fitA_bad hb hq]
     . simp [hz]
       refine ⟨i + 1, ⟨by omega, fun j hj => ?_⟩, by omega, ?_⟩
       . by_cases e : j = i
         . subst e; rw [hb]; simp [hq]
         . exact hg3 j (by omega)
       . exact WK hE (lk [])
   . simp at h
     have e : fitA f s = true := fitA_ok fun j hj => hg3 j (by omega)
     simp
     refine CLa (fn43 s.length 1 most) ?_
     simp
     apply RZ
     simp [results40, madeS, e]
theorem fn42 (i : Int) (b : UInt8) : Ct prog 42 [vi i, vu b] (vb (upB b)) [] := by
 by_cases h1 : 65 <= (b.toNat : Int)
 . by_cases h2 : (b.toNat : Int) <= 90
   . refine CB func42 c42 fun E hE => ?_
     simp [p42, h1, h2]
     apply RZ
     simp [results42, upB, h1, h2]
   . refine CB func42 c42 fun E hE => ?_
     simp [p42, h1, h2]
     apply RZ
     simp [results42, upB, h1, h2]
 . refine CB func42 c42 fun E hE => ?_
   simp [p42, h1]
   apply RZ
   simp [results42, upB, h1]
theorem fn41 (i : Nat) (b : UInt8) : Ct prog 41 [vi i, vu b] (vb (shipF i b)) [] := by
 have c := fn42 i b
 cases h : upB b
 . rw [h] at c
   by_cases h0 : 0 < i
   . by_cases h1 : 48 <= (b.toNat : Int)
     . by_cases h2 : (b.toNat : Int) <= 57
       . refine CB func41 c41 fun E hE => ?_
         simp [p41]
         refine CLa c ?_
         simp [h0, h1, h2]
         apply RZ
         simp [results41, shipF, h, h0, dgB, h1, h2]
       . refine CB func41 c41 fun E hE => ?_
         simp [p41]
         refine CLa c ?_
         simp [h0, h1, h2]
         apply RZ
         simp [results41, shipF, h, h0, dgB, h1, h2]
     . refine CB func41 c41 fun E hE => ?_
       simp [p41]
       refine CLa c ?_
       simp [h0, h1]
       apply RZ
       simp [results41, shipF, h, h0, dgB, h1]
   . refine CB func41 c41 fun E hE => ?_
     simp [p41]
     refine CLa c ?_
     simp [h0]
     apply RZ
     simp [results41, shipF, h, h0]
 . rw [h] at c
   refine CB func41 c41 fun E hE => ?_
   simp [p41]
   refine CLa c ?_
   simp
   apply RZ
   simp [results41, shipF, h]
theorem fn27 (s : By) (hl : s.length <= 1000000) : Ct prog 27 [vS s] (vb (shipS s)) [] := by
 refine CB func27 c27 fun E hE => ?_
 simp [p27]
 refine CLa (fn40 s 8 41 shipF hl fun i b _ => fn41 i b) ?_
 simp
 apply RZ
 simp [results27, shipS]
theorem fn45 (n : Int) : Ct prog 45 [vi n] (vb (!argB n)) [] := by
 refine CB func45 c45 fun E hE => ?_
 simp [p45]
 refine CLa (fn43 n (-1000000000) 1000000000) ?_
 simp
 apply RZ
 simp [results45, argB]
theorem fn47 (i : Int) (b : UInt8) : Ct prog 47 [vi i, vu b] (vb (prB b)) [] := by
 by_cases h1 : 32 <= (b.toNat : Int)
 . by_cases h2 : (b.toNat : Int) <= 126
   . refine CB func47 c47 fun E hE => ?_
     simp [p47, h1, h2]
     apply RZ
     simp [results47, prB, h1, h2]
   . refine CB func47 c47 fun E hE => ?_
     simp [p47, h1, h2]
     apply RZ
     simp [results47, prB, h1, h2]
 . refine CB func47 c47 fun E hE => ?_
   simp [p47, h1]
   apply RZ
   simp [results47, prB, h1]
theorem fn57 (l : List Int) (g : FuncId) (ds : List D) (q : Int -> Bool) (hl : l.length <= 1000000000) (hg : ∀ p ∈ l, Ct prog g (vi p :: ds.map .d) (vb (q p)) []) : Ct prog 57 [.d (intsD l), .d (.fn g ds)] (vi (ixF q l)) [] := by
 refine CB func57 c57 fun E hE => ?_
 simp [p57]
 refine pw_loop (α := Nat) (fun i => ⟨slots [(0, .d (intsD l)), (1, .d (.fn g ds)), (7, vi l.length), (8, vi i)], lk [], 0⟩) (fun i => i <= l.length /\ ∀ j, j < i -> (l[j]?).all (fun p => !q p) = true) (fun i => l.length - i) 0 ?_ ?_ ?_
 . exact ⟨by omega, fun j hj => by omega⟩
 . exact WK hE (lk [])
 . rintro i ⟨hi, hg3⟩
   have hg2 : ∀ (j : Nat) (p : Int), j < i -> l[j]? = some p -> q p = false := fun j p hj hp => by
     have := hg3 j hj
     rw [hp] at this; simpa using this
   have hz := @wz i (by omega)
   simp [p57l0]
   refine cR_split (fun h => ?_) (fun h => ?_)
   . simp at h
     obtain ⟨p, hp⟩ := gE h
     simp [hp]
     refine CLa (hg p (List.mem_of_getElem? hp)) ?_
     cases hq : q p
     . simp [hz]
       refine ⟨i + 1, ⟨by omega, fun j hj => ?_⟩, by omega, ?_⟩
       . by_cases e : j = i
         . subst e; rw [hp]; simp [hq]
         . exact hg3 j (by omega)
       . exact WK hE (lk [])
     . have e : ixF q l = i := ixF_some hp hq fun j y hj hy => hg2 j y hj hy
       simp
       apply RZ
       simp [results57, e]
   . simp at h
     have e : ixF q l = -1 := ixF_none fun j x hx => hg2 j x (by have := (List.getElem?_eq_some_iff.1 hx).1; omega) hx
     simp
     apply RZ
     simp [results57, e]
theorem fn44 (l : List Int) (g : FuncId) (ds : List D) (q : Int -> Bool) (hl : l.length <= 1000000000) (hg : ∀ p ∈ l, Ct prog g (vi p :: ds.map .d) (vb (q p)) []) : Ct prog 44 [.d (intsD l), .d (.fn g ds)] (vb (l.any q)) [] := by
 refine CB func44 c44 fun E hE => ?_
 simp [p44]
 refine CLa (fn57 l g ds q hl hg) ?_
 simp
 apply RZ
 simp [results44, <- ixF_any]
theorem fn58 (s : By) (c : UInt8) (hl : s.length <= 1000000) : Ct prog 58 [vS s, vu c] (vS (trimL c s)) [] := by
 refine CB func58 c58 fun E hE => ?_
 simp [p58]
 refine pw_loop (α := By) (fun r => ⟨slots [(0, vS r), (1, vu c)], lk [], 0⟩) (fun r => trimL c r = trimL c s /\ r.length <= 1000000) (fun r => r.length) s ?_ ?_ ?_
 . exact ⟨rfl, hl⟩
 . exact WK hE (lk [])
 . rintro r ⟨hr, hrl⟩
   cases r with
   | nil =>
     simp [p58l0]
     apply RZ
     simp [results58, <- hr, trimL]
   | cons b r =>
     have h0 : (0 : Int) < (r.length : Int) + 1 := by omega
     by_cases hb : b = c
     . subst hb
       have h1 : (1 : Int) <= (r.length : Int) + 1 := by omega
       simp [p58l0, h0, h1]
       refine ⟨r, ⟨by rw [<- hr]; simp [trimL], by simp at hrl; omega⟩, by simp, ?_⟩
       exact WK hE (lk [])
     . have hn : ¬ (b.toNat : Int) = c.toNat := fun e => hb (UInt8.toNat_inj.1 (by omega))
       simp [p58l0, h0, hn]
       apply RZ
       simp [results58, <- hr, trimL, hb]
end Go.Proofs.Tryd
namespace Go.Psl
variable {P : Program} {G : Gh} {W : World}
def Gh.cmp (G : Gh) (σ : Nat -> Nat) : Gh := ⟨fun i => G.β (σ i), fun i => G.bs (σ i), fun i => G.ph (σ i), fun i => G.lo (σ i), G.Im⟩
theorem R0_ren {σ : Nat -> Nat} {v : V} {x : Value} (h : R0 G W (ren0 σ v) x) : R0 (G.cmp σ) W v x := by cases v <;> exact h
theorem all_ren {S S' : V -> Value -> Prop} {r : V -> V} (h : ∀ v x, S (r v) x -> S' v x) {cs : List V} {xs : List Value} (ha : All2 S (cs.map r) xs) : All2 S' cs xs :=
 (All2.map_left.1 ha).mono fun c _ x hx => h c x hx
theorem R1_ren {σ : Nat -> Nat} {v : V} {x : Value} (h : R1 G W (ren1 σ v) x) : R1 (G.cmp σ) W v x := by
 cases v with
 | cl f caps => obtain ⟨cv, hx, hc⟩ := h; exact ⟨cv, hx, all_ren (fun v x => R0_ren) hc⟩
 | _ => exact h
theorem R2_ren {σ : Nat -> Nat} {v : V} {x : Value} (h : R2 G W (ren2 σ v) x) : R2 (G.cmp σ) W v x := by
 cases v with
 | agg cs => obtain ⟨cv, hx, hc⟩ := h; exact ⟨cv, hx, all_ren (fun v x => R1_ren) hc⟩
 | cl f caps => exact R1_ren (v := .cl f caps) h
 | _ => exact h
theorem RV_ren {σ : Nat -> Nat} {v : V} {x : Value} (h : RV G W (ren σ v) x) : RV (G.cmp σ) W v x := by
 cases v with
 | tup cs => obtain ⟨cv, hx, hc⟩ := h; exact ⟨cv, hx, all_ren (fun v x => R2_ren) hc⟩
 | agg cs => exact R2_ren (v := .agg cs) h
 | cl f caps => exact R2_ren (v := .cl f caps) h
 | _ => exact h
theorem isCell_unren {σ : Nat -> Nat} {v : V} (h : V.isCell (renC σ v) = true) : V.isCell v = true := by
 cases v <;> first | rfl | (simp [renC, ren1, ren0, V.isCell] at h; done)
theorem ren_data {σ : Nat -> Nat} {es : List (Value × Bool × List D)} {t : Nat} {v : V} (h : ren σ v = mapFr es t) : v = mapFr es t := by
 unfold mapFr at *
 split at h
 . cases v with
   | agg cs =>
     simp only [ren, ren2, V.agg.injEq] at h
     congr 1
     refine List.ext_getElem? fun i => ?_
     have := congrArg (fun l => l[i]?) h
     simp only [List.getElem?_map] at this ⊢
     cases hc : cs[i]? with
     | none => rw [hc] at this; exact this
     | some c =>
       rw [hc] at this
       rename_i e _
       cases he : e.2.2[i]? with
       | none => rw [he] at this; cases this
       | some x =>
         rw [he] at this
         simp only [Option.map_some, Option.some.injEq] at this ⊢
         cases c <;> simp [ren1, ren0] at this ⊢
         exact this
   | _ => simp [ren, ren2, ren1, ren0] at h
 . cases v <;> simp [ren, ren2, ren1, ren0] at h ⊢
theorem HB_ren {σ : Nat -> Nat} {i : Nat} {cs : List V} (h : HB G W (σ i) (cs.map (renC σ))) : HB (G.cmp σ) W i cs := by
 rcases h with ⟨h1, h2⟩ | ⟨h1, h0, h2, c, T, h3, h4, h5, h6, h7⟩ | ⟨h1, h0, h2, ⟨hz, fr, nt, ps, pa, pb, jmp, rec, h3, h4, h5⟩ | ⟨hz, es, ms, ck, h3, h4, h5⟩ | ⟨hz, bx, bp, bv, h3, h4, h5, h6, h7⟩⟩
 . exact .inl ⟨h1, List.map_eq_nil_iff.1 h2⟩
 . have hcell : ∀ v ∈ cs, V.isCell v = true := fun v hv => isCell_unren (List.all_eq_true.1 h7 _ (List.mem_map.2 ⟨v, hv, rfl⟩))
   have hmap : cs.map (renC σ) = cs.map (ren1 σ) := List.map_congr_left fun c hc => renC_cell (hcell c hc)
   rw [hmap] at h5 h6
   refine .inr (.inl ⟨h1, h0, h2, c, T, h3, h4, by simpa using h5, ?_, List.all_eq_true.2 hcell⟩)
   rw [List.length_map] at h6
   exact all_ren (fun v x => R1_ren) h6
 . obtain ⟨c, rfl, hc⟩ : ∃ c, cs = [c] /\ renC σ c = .lr fr nt ps pa pb jmp := by
     match cs, h3 with
     | [c], h3 => simp at h3; exact ⟨c, rfl, h3⟩
     | [], h3 => simp at h3
     | _ :: _ :: _, h3 => simp at h3
   cases c with
   | lr fr0 nt0 ps0 pa0 pb0 jmp0 =>
     simp only [renC, V.lr.injEq] at hc
     obtain ⟨rfl, rfl, rfl, rfl, rfl, rfl⟩ := hc
     obtain ⟨q1, q2, q3, q4, q5, q6⟩ := h5
     exact .inr (.inr ⟨h1, h0, h2, .inl ⟨hz, fr0, _, _, _, _, _, rec, rfl, h4, q1, q2, q3, q4, fun t => RV_ren (q5 t), q6⟩⟩)
   | _ => simp [renC, ren1, ren0] at hc
 . refine .inr (.inr ⟨h1, h0, h2, .inr (.inl ⟨hz, es, ms, ck, ?_, h4, h5⟩)⟩)
   match cs, h3 with
   | [c, d], h3 =>
     simp only [List.map_cons, List.map_nil, mapC, List.cons.injEq, and_true] at h3
     obtain ⟨e1, e2⟩ := h3
     have d1 : d = .d (.lit (.bool true)) := by
       cases d <;> simp [renC, ren1, ren0] at e2 ⊢
       exact e2
     have c1 : c = mapB es := by
       cases c with
       | lr fr nt ps pa pb jmp =>
         simp only [renC, mapB, V.lr.injEq] at e1
         obtain ⟨e0, rfl, rfl, rfl, rfl, rfl⟩ := e1
         unfold mapB
         congr 1
         funext t
         have := congrFun e0 t
         exact ren_data this
       | _ => simp [renC, ren1, ren0, mapB] at e1
     rw [c1, d1]; rfl
   | [], h3 => simp [mapC] at h3
   | [_], h3 => simp [mapC] at h3
   | _ :: _ :: _ :: _, h3 => simp [mapC] at h3
 . match cs, h3 with
   | [c, d], h3 =>
     simp only [List.map_cons, List.map_nil, List.cons.injEq, and_true] at h3
     obtain ⟨e1, e2⟩ := h3
     have d1 : d = .d (.lit bp.m) := by
       cases d <;> simp [renC, ren1, ren0] at e2 ⊢
       exact e2
     subst e1
     have hc := isCell_unren h7
     rw [renC_cell hc] at h6
     rw [d1]
     exact .inr (.inr ⟨h1, h0, h2, .inr (.inr ⟨hz, c, bp, bv, rfl, h4, h5, R1_ren h6, hc⟩)⟩)
   | [], h3 => simp at h3
   | [_], h3 => simp at h3
   | _ :: _ :: _ :: _, h3 => simp at h3
def renL (σ : Nat -> Nat) (L : List (Nat × List V)) : List (Nat × List V) := L.map fun p => (σ p.1, p.2.map (renC σ))
theorem lk_ren {σ : Nat -> Nat} {K : Nat} (hinj : ∀ i j, i < K -> j < K -> σ i = σ j -> i = j) : ∀ {L : List (Nat × List V)} {i : Nat}, idsLt K L -> i < K -> lk (renL σ L) (σ i) = (lk L i).map (·.map (renC σ))
 | [], _, _, _ => rfl
 | p :: r, i, hL, hi => by
   simp only [renL, List.map_cons, lk]
   by_cases h : i = p.1
   . subst h; simp
   . rw [if_neg h, if_neg (fun e => h (hinj _ _ hi hL.1 e))]
     exact lk_ren hinj hL.2 hi
theorem lk_ren_inv {σ : Nat -> Nat} {K : Nat} (hinj : ∀ i j, i < K -> j < K -> σ i = σ j -> i = j) {L : List (Nat × List V)} {j : Nat} {cs' : List V} (hL : idsLt K L) (h : lk (renL σ L) j = some cs') : ∃ i cs, i < K /\ j = σ i /\ lk L i = some cs /\ cs' = cs.map (renC σ) := by
 have hm := lk_mem' h
 simp only [renL, List.mem_map] at hm
 obtain ⟨p, hp, e⟩ := hm
 have hlt : p.1 < K := by
   have : ∀ {L : List (Nat × List V)}, idsLt K L -> p ∈ L -> p.1 < K := by
     intro L
     induction L with
     | nil => intro _ h; cases h
     | cons q r ih =>
       intro h h2
       rcases List.mem_cons.1 h2 with rfl | h2
       . exact h.1
       . exact ih h.2 h2
   exact this hL hp
 have hj : j = σ p.1 := by cases e; rfl
 rw [hj, lk_ren hinj hL hlt, Option.map_eq_some_iff] at h
 obtain ⟨cs, h1, h2⟩ := h
 exact ⟨p.1, cs, hlt, hj, h1, h2.symm⟩
theorem Cm.rename (σ : Nat -> Nat) (K : Nat) (hinj : ∀ i j, i < K -> j < K -> σ i = σ j -> i = j) {f : FuncId} {args : List V} {L : List (Nat × List V)} {ks : List Nat} {res : Res} {L1 : List (Nat × List V)} (h : Cm P f args (lk L) ks res (lk L1)) (hL : idsLt K L) (hL1 : idsLt K L1) (hks : ∀ i ∈ ks, i < K) :
   Cm P f (args.map (ren2 σ)) (lk (renL σ L)) (ks.map σ) (renR σ res) (lk (renL σ L1)) := by
 refine ⟨h.1, fun G W xs hGW hargs hpre => ?_⟩
 have hIn : ∀ i, i < K -> (InH (lk (renL σ L)) (σ i) ↔ InH (lk L) i) := fun i hi => by unfold InH; rw [lk_ren hinj hL hi]; simp
 have hIn1 : ∀ i, i < K -> (InH (lk (renL σ L1)) (σ i) ↔ InH (lk L1) i) := fun i hi => by unfold InH; rw [lk_ren hinj hL1 hi]; simp
 have hlent : ∀ b, lentB (G.cmp σ) (lk L) b -> lentB G (lk (renL σ L)) b := fun b ⟨i, hi, hp, he⟩ => ⟨σ i, (hIn i (lk_lt hL hi)).2 hi, hp, he⟩
 have hlent' : ∀ b, lentB G (lk (renL σ L)) b -> lentB (G.cmp σ) (lk L) b := fun b ⟨j, hj, hp, he⟩ => by
   obtain ⟨cs', hcs⟩ := Option.isSome_iff_exists.1 hj
   obtain ⟨i, cs, hi, rfl, h1, _⟩ := lk_ren_inv hinj hL hcs
   exact ⟨i, by unfold InH; rw [h1]; rfl, hp, he⟩
 have hpre' : PreH (G.cmp σ) W (lk L) ks := by
   refine ⟨fun i cs hi => HB_ren (hpre.hb (σ i) _ ?_), fun i j hi hj hpi hpj he => ?_, fun i hi => ?_⟩
   . rw [lk_ren hinj hL (lk_lt hL (by unfold InH; rw [hi]; rfl)), hi]; rfl
   . have li := lk_lt hL hi; have lj := lk_lt hL hj
     exact hinj i j li lj (hpre.inj _ _ ((hIn i li).2 hi) ((hIn j lj).2 hj) hpi hpj he)
   . obtain ⟨h1, h2⟩ := hpre.st (σ i) (List.mem_map.2 ⟨i, hi, rfl⟩)
     exact ⟨(hIn i (hks i hi)).1 h1, h2⟩
 refine (h.2 (G.cmp σ) W xs hGW (all_ren (fun v x => R2_ren) hargs) hpre').mono fun e W' ⟨G1, hp⟩ => ?_
 obtain ⟨τ, hτ⟩ : ∃ τ : Nat -> Nat, ∀ i, i < K -> τ (σ i) = i := by
   refine ⟨fun j => if hj : ∃ i, i < K /\ σ i = j then hj.choose else 0, fun i hi => ?_⟩
   have hj : ∃ i', i' < K /\ σ i' = σ i := ⟨i, hi, rfl⟩
   simp only [dif_pos hj]
   exact hinj _ _ hj.choose_spec.1 hi hj.choose_spec.2
 have hint : Into (InH (lk L1)) anyD σ G1 W' (G1.cmp τ) W' := ⟨fun i hi => by
   have := hτ i (lk_lt hL1 hi)
   simp only [Gh.cmp, this, and_self], fun _ _ _ h => h⟩
 refine ⟨G1.cmp τ, ⟨hp.os, hp.tape, hp.output, hp.drawn, hp.size, fun b hb hl => hp.block b hb (fun h => hl (hlent b h)), fun b hb => ?_, fun b hb => hp.im0 b hb, resRel.into hint hp.wf hp.rv, ?_, ?_, ?_, ?_⟩⟩
 . obtain ⟨h1, h2⟩ := hp.im b hb
   exact ⟨h1, h2.imp id (Or.imp id (hlent b))⟩
 . cases res with
   | ret r => exact AV.ren (fun i hi => (hIn1 i (lk_lt hL1 hi)).2 hi) hp.wf
   | pan r => exact AV.ren (fun i hi => (hIn1 i (lk_lt hL1 hi)).2 hi) hp.wf
 . intro j cs' hj
   obtain ⟨i, cs, hi, rfl, h1, rfl⟩ := lk_ren_inv hinj hL1 hj
   have hin : InH (lk L1) i := by unfold InH; rw [h1]; rfl
   obtain ⟨q1, q2, q3⟩ := hp.hb i cs h1
   refine ⟨hint.hb hin q3 q1 (fun hph => q1.nim hph), fun hph => ?_, fun c hc => ?_⟩
   . simp only [Gh.cmp, hτ i hi] at hph ⊢
     exact (q2 hph).imp id (hlent _)
   . obtain ⟨c0, hc0, rfl⟩ := List.mem_map.1 hc
     exact AC.ren (fun i hi => (hIn1 i (lk_lt hL1 hi)).2 hi) (q3 c0 hc0)
 . intro j j' hj hj' hpj hpj' he
   obtain ⟨x, hx⟩ := Option.isSome_iff_exists.1 hj
   obtain ⟨y, hy⟩ := Option.isSome_iff_exists.1 hj'
   obtain ⟨i, cs, hi, rfl, h1, _⟩ := lk_ren_inv hinj hL1 hx
   obtain ⟨i', cs', hi', rfl, h1', _⟩ := lk_ren_inv hinj hL1 hy
   simp only [Gh.cmp, hτ i hi, hτ i' hi'] at hpj hpj' he
   rw [hp.inj i i' (by unfold InH; rw [h1]; rfl) (by unfold InH; rw [h1']; rfl) hpj hpj' he]
 . intro j hj hin
   obtain ⟨i, hi, rfl⟩ := List.mem_map.1 hj
   have := hp.st i hi ((hIn1 i (hks i hi)).1 hin)
   simp only [Gh.cmp, hτ i (hks i hi)] at this ⊢
   exact this
theorem hiOk_at {ks : List Nat} {L1 : List (Nat × List V)} (hi : ∀ p ∈ L1, p.1 ∈ ks \/ p.1 < 1048576) {i : Nat} (h : InH (lk L1) i) (hn : i ∉ ks) : i < 1048576 := by
 obtain ⟨x, hx⟩ := Option.isSome_iff_exists.1 h
 rcases hi _ (lk_mem' hx) with h | h
 . exact absurd h hn
 . exact h
theorem ACall.mkR {H : Hp} {b : Nat} {g : FuncId} {az : List V} {Kc Kx : V -> Hp -> Prop} (args : List V) (L : List (Nat × List V)) (ks : List Nat) (res : Res) (L1 : List (Nat × List V)) (hf : Cm P g args (lk L) ks res (lk L1)) (hin : HinOk H L) (hi : ∀ p ∈ L1, p.1 ∈ ks \/ p.1 < 1048576) (hks : ksOk b L L1 ks) (hL : ∀ p ∈ L, p.1 < b)
   (hb : All2 (Bor noH) az args \/ (All2 (Bor (delL H L)) az args /\ AV (InH (lk L1)) litD res.v /\ flatL (InH (lk L1)) L1)) (hk : afterC res (sg ks b) (addM (delL H L) ks b L1) Kc Kx) : ACall P none H H b g az Kc Kx := by
 have hL' : ∀ i, InH (lk L) i -> i < b := fun i h => by
   obtain ⟨x, hx⟩ := Option.isSome_iff_exists.1 h
   exact hL _ (lk_mem' hx)
 refine ⟨args, lk L, ks, res, lk L1, _, ⟨hf, hin.at, fun i h hn => hiOk_at hi h hn, fun i h => (hks.at i h).2.2, hb.imp id fun h => ⟨?_, flatRes_of h.2.1 h.2.2⟩⟩, trivial, (heapM_list H ks b L L1 hks hL').symm, hk⟩
 have : lessH H (lk L) = delL H L := by funext i; rw [delL_eq]; rfl
 rw [this]; exact h.1
def wrL (ws : List (Nat × Nat)) (k b : Nat) (ks : List Nat) (L1 : List (Nat × List V)) : List (Nat × List V) -> Prop
 | [] => True
 | p :: r => ((k, p.1) ∈ ws \/ (p.1 ∈ ks /\ (lk L1 p.1).map (·.map (renC (sg ks b))) = some p.2)) /\ wrL ws k b ks L1 r
theorem wrL.at {ws : List (Nat × Nat)} {k b : Nat} {ks : List Nat} {L1 : List (Nat × List V)} : ∀ {L : List (Nat × List V)}, wrL ws k b ks L1 L -> ∀ i cs, lk L i = some cs -> (k, i) ∈ ws \/ (i ∈ ks /\ (lk L1 i).map (·.map (renC (sg ks b))) = some cs)
 | [], _, i, cs, h => by simp [lk] at h
 | p :: r, hw, i, cs, h => by
   simp only [lk] at h
   split at h
   . rename_i e; cases h; rw [e]; exact hw.1
   . exact hw.2.at i cs h
section
variable {P : Program} {Hr H : Hp} {b : Nat} {g : FuncId} {az : List V} {Kc Kx : V -> Hp -> Prop} {args : List V} {L : List (Nat × List V)} {ks : List Nat} {res : Res} {L1 : List (Nat × List V)}
theorem CRs (hf : Cm P g args (lk L) ks res (lk L1)) (h : HinOk H L /\ (∀ p ∈ L1, p.1 ∈ ks \/ p.1 < 1048576) /\ ksOk b L L1 ks /\ (∀ p ∈ L, p.1 < b) /\ (All2 (Bor noH) az args \/ (All2 (Bor (delL H L)) az args /\ AV (InH (lk L1)) litD res.v /\ flatL (InH (lk L1)) L1))) (hk : afterC res (sg ks b) (addM (delL H L) ks b L1) Kc Kx) : ACall P none H H b g az Kc Kx :=
 ACall.mkR args L ks res L1 hf h.1 h.2.1 h.2.2.1 h.2.2.2.1 h.2.2.2.2 hk
end
end Go.Psl
namespace Go.Psl
variable {P : Program} {Γ : Tys} {eqs : Eqs} {E : Ent}
def rid (ks : List Nat) (i : Nat) : Option Nat := if i ∈ ks then some i else none
structure KeepOk (ks : List Nat) (L : List (Nat × List V)) : Prop where
 names : L.map (·.1) = ks
 nd : ks.Nodup
 cells : ∀ p ∈ L, p.2 ≠ [] /\ cellsOk p.2 /\ ∀ c ∈ p.2, WC (rid ks) c c
theorem rid_in {ks : List Nat} {i : Nat} (h : i ∈ ks) : rid ks i = some i := by simp [rid, h]
theorem lk_nd : ∀ {L : List (Nat × List V)}, (L.map (·.1)).Nodup -> ∀ p ∈ L, lk L p.1 = some p.2
 | [], _, p, hp => by simp at hp
 | q :: r, hn, p, hp => by
   simp only [List.map_cons, List.nodup_cons] at hn
   simp only [lk]
   rcases List.mem_cons.1 hp with rfl | hp
   . simp
   . have : p.1 ≠ q.1 := fun e => hn.1 (e ▸ List.mem_map.2 ⟨p, hp, rfl⟩)
     rw [if_neg this]
     exact lk_nd hn.2 p hp
section
variable {ks : List Nat} {L L1 : List (Nat × List V)}
theorem KeepOk.lk (h : KeepOk ks L) {p : Nat × List V} (hp : p ∈ L) : Go.Psl.lk L p.1 = some p.2 := lk_nd (by rw [h.names]; exact h.nd) p hp
theorem KeepOk.mem (h : KeepOk ks L) {p : Nat × List V} (hp : p ∈ L) : p.1 ∈ ks := by rw [<- h.names]; exact List.mem_map.2 ⟨p, hp, rfl⟩
theorem KeepOk.isIn (h : KeepOk ks L) {i : Nat} : (Go.Psl.lk L i).isSome = true ↔ i ∈ ks := by
 constructor
 . intro hi
   obtain ⟨x, hx⟩ := Option.isSome_iff_exists.1 hi
   exact h.mem (p := (i, x)) (lk_mem' hx)
 . intro hi
   rw [<- h.names] at hi
   obtain ⟨p, hp, rfl⟩ := List.mem_map.1 hi
   rw [h.lk hp]; rfl
theorem rid_some {i j : Nat} (h : rid ks i = some j) : i ∈ ks /\ j = i := by
 unfold rid at h; split at h
 . cases h; exact ⟨by assumption, rfl⟩
 . cases h
theorem W0_rid {c : V} (h : W0 (rid ks) c c) : A0 (· ∈ ks) anyD c /\ ∀ b, ren0 (sg ks b) c = c := by
 cases c with
 | junk => exact ⟨trivial, fun _ => rfl⟩
 | d x => exact ⟨trivial, fun _ => rfl⟩
 | lp i o =>
   obtain ⟨j, hj, _⟩ := h
   have hi := (rid_some hj).1
   exact ⟨hi, fun b => by simp [ren0, sg, hi]⟩
 | ls i o l z =>
   unfold W0 at h
   simp only at h
   split at h
   . rename_i j hj
     have hi := (rid_some hj).1
     exact ⟨hi, fun b => by simp [ren0, sg, hi]⟩
   . cases h.2
 | yl i =>
   obtain ⟨j, hj, _⟩ := h
   have hi := (rid_some hj).1
   exact ⟨hi, fun b => by simp [ren0, sg, hi]⟩
 | lr => exact False.elim h
 | cl f cs => exact ⟨trivial, fun _ => rfl⟩
 | agg cs => exact ⟨trivial, fun _ => rfl⟩
 | tup cs => exact ⟨trivial, fun _ => rfl⟩
theorem map_same {α : Type} {f : α -> α} : ∀ {l : List α}, (∀ x ∈ l, f x = x) -> l.map f = l
 | [], _ => rfl
 | a :: l, h => by rw [List.map_cons, h a (by simp), map_same fun x hx => h x (List.mem_cons_of_mem _ hx)]
theorem all2_same {α : Type} {R : α -> α -> Prop} : ∀ {l : List α}, All2 R l l -> ∀ x ∈ l, R x x
 | [], _, _, hx => by simp at hx
 | a :: l, h, x, hx => by
   rcases List.mem_cons.1 hx with rfl | hx
   . exact h.1
   . exact all2_same h.2 x hx
theorem all2_refl {α : Type} {R : α -> α -> Prop} : ∀ {l : List α}, (∀ x ∈ l, R x x) -> All2 R l l
 | [], _ => trivial
 | a :: l, h => ⟨h a (by simp), all2_refl fun x hx => h x (List.mem_cons_of_mem _ hx)⟩
theorem A0_ren {c : V} (h : A0 (· ∈ ks) anyD c) (b : Nat) : ren0 (sg ks b) c = c := by
 cases c <;> first | rfl | (have h2 : _ ∈ ks := h; simp [ren0, sg, h2]) | exact False.elim h
theorem A1_ren {c : V} (h : A1 (· ∈ ks) anyD c) (b : Nat) : ren1 (sg ks b) c = c := by
 cases c with
 | cl f cs => simp only [ren1]; rw [map_same fun x hx => A0_ren (h x hx) b]
 | junk => exact A0_ren (ks := ks) (c := .junk) h b
 | d x => exact A0_ren (ks := ks) (c := .d x) h b
 | lp i o => exact A0_ren (ks := ks) (c := .lp i o) h b
 | ls i o l z => exact A0_ren (ks := ks) (c := .ls i o l z) h b
 | yl i => exact A0_ren (ks := ks) (c := .yl i) h b
 | lr f n p pa pb j => exact A0_ren (ks := ks) (c := .lr f n p pa pb j) h b
 | agg cs => exact A0_ren (ks := ks) (c := .agg cs) h b
 | tup cs => exact A0_ren (ks := ks) (c := .tup cs) h b
theorem A2_ren {c : V} (h : A2 (· ∈ ks) anyD c) (b : Nat) : ren2 (sg ks b) c = c := by
 cases c with
 | agg cs => simp only [ren2]; rw [map_same fun x hx => A1_ren (h x hx) b]
 | junk => exact A1_ren (ks := ks) (c := .junk) h b
 | d x => exact A1_ren (ks := ks) (c := .d x) h b
 | lp i o => exact A1_ren (ks := ks) (c := .lp i o) h b
 | ls i o l z => exact A1_ren (ks := ks) (c := .ls i o l z) h b
 | yl i => exact A1_ren (ks := ks) (c := .yl i) h b
 | lr f n p pa pb j => exact A1_ren (ks := ks) (c := .lr f n p pa pb j) h b
 | cl f cs => exact A1_ren (ks := ks) (c := .cl f cs) h b
 | tup cs => exact A1_ren (ks := ks) (c := .tup cs) h b
theorem AV_ren {c : V} (h : AV (· ∈ ks) anyD c) (b : Nat) : ren (sg ks b) c = c := by
 cases c with
 | tup cs => simp only [ren]; rw [map_same fun x hx => A2_ren (h x hx) b]
 | junk => exact A2_ren (ks := ks) (c := .junk) h b
 | d x => exact A2_ren (ks := ks) (c := .d x) h b
 | lp i o => exact A2_ren (ks := ks) (c := .lp i o) h b
 | ls i o l z => exact A2_ren (ks := ks) (c := .ls i o l z) h b
 | yl i => exact A2_ren (ks := ks) (c := .yl i) h b
 | lr f n p pa pb j => exact A2_ren (ks := ks) (c := .lr f n p pa pb j) h b
 | cl f cs => exact A2_ren (ks := ks) (c := .cl f cs) h b
 | agg cs => exact A2_ren (ks := ks) (c := .agg cs) h b
theorem WC_rid {c : V} (h : WC (rid ks) c c) : AC (· ∈ ks) anyD c /\ ∀ b, renC (sg ks b) c = c := by
 cases c with
 | lr fr nt ps pa pb jmp =>
   have h2 : ∀ t, AV (· ∈ ks) anyD (fr t) := fun t => AV.mono (fun i hi => (rid_some hi).1) (fun _ h => h) (h.2 t)
   refine ⟨h2, fun b => ?_⟩
   simp only [renC]
   congr 1
   funext t; exact AV_ren (h2 t) b
 | cl f cs =>
   obtain ⟨cs', e, h2⟩ := h
   cases e
   have h3 := all2_same h2
   exact ⟨fun c hc => (W0_rid (h3 c hc)).1, fun b => by simp only [renC, ren1]; rw [map_same fun x hx => (W0_rid (h3 x hx)).2 b]⟩
 | junk => exact ⟨trivial, fun _ => rfl⟩
 | d x => exact ⟨trivial, fun _ => rfl⟩
 | lp i o => exact W0_rid (c := .lp i o) h
 | ls i o l z => exact W0_rid (c := .ls i o l z) h
 | yl i => exact W0_rid (c := .yl i) h
 | agg cs => exact False.elim h
 | tup cs => exact False.elim h
theorem KeepOk.ac (h : KeepOk ks L) {p : Nat × List V} (hp : p ∈ L) : ∀ c ∈ p.2, AC (· ∈ ks) anyD c := fun c hc => (WC_rid ((h.cells p hp).2.2 c hc)).1
theorem KeepOk.hp (h : KeepOk ks L) {H : Hp} (hH : ∀ i ∈ ks, H i = Go.Psl.lk L i) : HpOk (rid ks) H L := by
 have key : ∀ M : List (Nat × List V), (∀ p ∈ M, p ∈ L) -> HpOk (rid ks) H M := by
   intro M
   induction M with
   | nil => intro _; trivial
   | cons p r ih =>
     intro hM
     have hp := hM p (by simp)
     have hm := h.mem hp
     obtain ⟨c1, c2, c3⟩ := h.cells p hp
     refine ⟨?_, ih fun q hq => hM q (List.mem_cons_of_mem _ hq)⟩
     rw [rid_in hm]
     exact ⟨⟨p.2, by rw [hH _ hm, h.lk hp], all2_refl c3⟩, c2⟩
 exact key L fun _ h => h
theorem KeepOk.inj (h : KeepOk ks L) : RhoInj (rid ks) L := by
 have key : ∀ M : List (Nat × List V), (∀ p ∈ M, p ∈ L) -> RhoInj (rid ks) M := by
   intro M
   induction M with
   | nil => intro _; trivial
   | cons p r ih =>
     intro hM
     refine ⟨fun q hq => ?_, ih fun q hq => hM q (List.mem_cons_of_mem _ hq)⟩
     have h1 := h.mem (hM p (by simp))
     have h2 := h.mem (hM q (List.mem_cons_of_mem _ hq))
     rw [rid_in h1, rid_in h2]
     by_cases e : q.1 = p.1
     . exact Or.inr (Or.inr e)
     . exact Or.inr (Or.inl fun e' => e (Option.some.inj e'))
 exact key L fun _ h => h
theorem KeepOk.stab (_ : KeepOk ks L) {H : Hp} (hH : ∀ i ∈ ks, H i = Go.Psl.lk L i) : StabL (rid ks) H (Go.Psl.lk L) ks := by
 have key : ∀ M : List Nat, (∀ i ∈ M, i ∈ ks) -> StabL (rid ks) H (Go.Psl.lk L) M := by
   intro M
   induction M with
   | nil => intro _; trivial
   | cons i r ih =>
     intro hM
     have hi := hM i (by simp)
     exact ⟨fun hs => ⟨rid_in hi, by rw [hH i hi]; exact hs⟩, ih fun j hj => hM j (List.mem_cons_of_mem _ hj)⟩
 exact key ks fun _ h => h
theorem KeepOk.stabW (_ : KeepOk ks L) {H : Hp} (hH : ∀ i ∈ ks, H i = Go.Psl.lk L i) {n : Nat} (hn : ∀ i ∈ ks, i < n) : StabW (rid ks) H (Go.Psl.lk L) n ks := by
 have key : ∀ M : List Nat, (∀ i ∈ M, i ∈ ks) -> StabW (rid ks) H (Go.Psl.lk L) n M := by
   intro M
   induction M with
   | nil => intro _; trivial
   | cons i r ih =>
     intro hM
     have hi := hM i (by simp)
     exact ⟨hn i hi, fun hs => ⟨rid_in hi, by rw [hH i hi]; exact hs⟩, ih fun j hj => hM j (List.mem_cons_of_mem _ hj)⟩
 exact key ks fun _ h => h
theorem KeepOk.ids (h : KeepOk ks L) {n : Nat} (hn : ∀ i ∈ ks, i < n) : HpIds n L := by
 have key : ∀ M : List (Nat × List V), (∀ p ∈ M, p ∈ L) -> HpIds n M := by
   intro M
   induction M with
   | nil => intro _; trivial
   | cons p r ih =>
     intro hM
     have hp := hM p (by simp)
     exact ⟨hn _ (h.mem hp), fun c hc => AC.mono hn (fun _ h => h) (h.ac hp c hc), ih fun q hq => hM q (List.mem_cons_of_mem _ hq)⟩
 exact key L fun _ h => h
theorem Weak.keep {st : St} (hs : ∀ i, E.stab i ↔ i ∈ ks) (h : KeepOk ks L) (hH : ∀ i ∈ ks, st.H i = Go.Psl.lk L i) {n : Nat} (hn : ∀ i ∈ ks, i < n) (l : List (Nat × V)) (h1 : SlotsOk (rid ks) st.fr l) (h4 : SlotsIds n l) : Weak P E st ⟨slots l, Go.Psl.lk L, n⟩ :=
 Weak.mkM hs (rid ks) l L n h1 (h.hp hH) h.inj h4 (h.ids hn) (h.stabW hH hn)
theorem heapM_keep {H : Hp} {b : Nat} (hL : KeepOk ks L) (hL1 : KeepOk ks L1) : heapM H b (Go.Psl.lk L) ks (Go.Psl.lk L1) = fun i => if i ∈ ks then Go.Psl.lk L1 i else H i := by
 funext i
 unfold heapM
 by_cases hi : i ∈ ks
 . simp only [hi, if_true]
   have h1 := hL1.isIn.2 hi
   obtain ⟨x, hx⟩ := Option.isSome_iff_exists.1 h1
   rw [hx]
   have hm := hL1.cells (i, x) (lk_mem' hx)
   simp only [Option.map_some]
   rw [map_same fun c hc => (WC_rid (hm.2.2 c hc)).2 b]
 . simp only [hi, if_false]
   have h2 : (Go.Psl.lk L i).isSome = false := by
     cases hc : (Go.Psl.lk L i).isSome with
     | false => rfl
     | true => exact absurd (hL.isIn.1 hc) hi
   rw [h2]
   simp only [Bool.false_eq_true, if_false]
   split
   . split
     . rfl
     . rename_i hn
       have h3 : Go.Psl.lk L1 (i - b) = none := by
         cases hc : Go.Psl.lk L1 (i - b) with
         | none => rfl
         | some x => exact absurd (hL1.isIn.1 (by rw [hc]; rfl)) hn
       rw [h3]
   . rfl
theorem callB_keep {H : Hp} {av args : List V} {res : Res} (hL : KeepOk ks L) (hL1 : KeepOk ks L1) (hH : ∀ i ∈ ks, H i = Go.Psl.lk L i) (hb : All2 (Bor noH) av args) : CallB H av args (Go.Psl.lk L) ks res (Go.Psl.lk L1) :=
 ⟨fun i cs h => by rw [hH i (hL.isIn.1 (by rw [h]; rfl)), h], fun i h hn => absurd (hL1.isIn.1 h) hn, fun i hi => by
   obtain ⟨x, hx⟩ := Option.isSome_iff_exists.1 (hL.isIn.2 hi)
   exact ⟨x, hx, (hL.cells (i, x) (lk_mem' hx)).1⟩, Or.inl hb⟩
theorem AYield.keep {H : Hp} {b k : Nat} {av : List V} {Kc Kx : V -> Hp -> Prop} (args : List V) (L L1 : List (Nat × List V)) (ks : List Nat) (r : D) (hf : Ym P k args (Go.Psl.lk L) ks (.ret (.d r)) (Go.Psl.lk L1)) (hL : KeepOk ks L) (hL1 : KeepOk ks L1)
   (hrec : ∃ fr nt ps pa pb jmp, Go.Psl.lk L k = some [.lr fr nt ps pa pb jmp] /\ ps.length = args.length) (hH : ∀ i ∈ ks, H i = Go.Psl.lk L i) (hb : All2 (Bor noH) av args) (hk : Kc (.d r) (fun i => if i ∈ ks then Go.Psl.lk L1 i else H i)) : AYield P none H H b k av Kc Kx :=
 ⟨rfl, args, Go.Psl.lk L, ks, .ret (.d r), Go.Psl.lk L1, _, ⟨hf, hrec, callB_keep hL hL1 hH hb⟩, (heapM_keep hL hL1).symm, hk⟩
theorem ACall.keep {H : Hp} {b : Nat} {g : FuncId} {av : List V} {Kc Kx : V -> Hp -> Prop} (args : List V) (L L1 : List (Nat × List V)) (ks : List Nat) (r : V) (hf : Cm P g args (Go.Psl.lk L) ks (.ret r) (Go.Psl.lk L1)) (hL : KeepOk ks L) (hL1 : KeepOk ks L1) (hr : AV (· ∈ ks) anyD r)
   (hH : ∀ i ∈ ks, H i = Go.Psl.lk L i) (hb : All2 (Bor noH) av args) (hk : Kc r (fun i => if i ∈ ks then Go.Psl.lk L1 i else H i)) : ACall P none H H b g av Kc Kx :=
 ⟨args, Go.Psl.lk L, ks, .ret r, Go.Psl.lk L1, _, ⟨hf, callB_keep hL hL1 hH hb⟩, trivial, (heapM_keep hL hL1).symm, by show Kc (ren (sg ks b) r) _; rw [AV_ren hr]; exact hk⟩
theorem RetM.keep {fn : Func} {st : St} (hn : fn.results = #[]) (h : KeepOk ks L) (hH : ∀ i ∈ ks, st.H i = Go.Psl.lk L i) : RetM Γ fn ks (.tup []) L st :=
 ⟨[], rid ks, by rw [hn]; rfl, rfl, by simp, h.hp hH, h.inj, h.stab hH⟩
theorem PRange.keep {fo : Operand} {ps : List Nat} {pa pb : PC} {Q : AExit -> St -> Prop} {f : Nat -> V} {H : Hp} {n : Nat} {g : FuncId} {caps : List V} (L L1 : List (Nat × List V)) (ks : List Nat) (r : V) (jmp : LSt) (h0 : E.rq /\ E.nt ≠ panN) (hg : calleeOf (evF f fo) = some (g, caps))
   (hf : Cm P g (.yl n :: caps) (Go.Psl.lk ((n, [.lr f E.nt ps pa pb .ready]) :: L)) (n :: ks) (.ret r) (Go.Psl.lk ((n, [.lr f E.nt ps pa pb jmp]) :: L1)))
   (hL : KeepOk (n :: ks) ((n, [.lr f E.nt ps pa pb .ready]) :: L)) (hL1 : KeepOk (n :: ks) ((n, [.lr f E.nt ps pa pb jmp]) :: L1)) (hH : ∀ i ∈ ks, H i = Go.Psl.lk L i) (hb : All2 (Bor noH) caps caps)
   (hq : jumpQ Q ⟨f, fun i => if i = n then none else if i ∈ ks then Go.Psl.lk L1 i else H i, n + 2097152⟩ jmp) : PW P Γ eqs E (.rangeF fo ps pa pb) Q ⟨f, H, n⟩ := by
 have hH' : ∀ i ∈ n :: ks, upd H n (some [.lr f E.nt ps pa pb .ready]) i = Go.Psl.lk ((n, [.lr f E.nt ps pa pb .ready]) :: L) i := fun i hi => by
   simp only [upd_at, Go.Psl.lk]
   by_cases e : i = n
   . simp [e]
   . simp only [e, if_false]
     rcases List.mem_cons.1 hi with h | h
     . exact absurd h e
     . exact hH i h
 refine ⟨h0, g, caps, .yl n :: caps, _, n :: ks, .ret r, _, hg, ⟨hf, callB_keep hL hL1 hH' ⟨rfl, hb⟩⟩, by simp, jmp, by simp [Go.Psl.lk], ?_⟩
 have e : upd (heapM (upd H n (some [.lr f E.nt ps pa pb .ready])) (n + 1048576) (Go.Psl.lk ((n, [.lr f E.nt ps pa pb .ready]) :: L)) (n :: ks) (Go.Psl.lk ((n, [.lr f E.nt ps pa pb jmp]) :: L1))) n none = fun i => if i = n then none else if i ∈ ks then Go.Psl.lk L1 i else H i := by
   rw [heapM_keep hL hL1]
   funext i
   simp only [upd_at]
   by_cases h : i = n
   . simp [h]
   . simp [h, Go.Psl.lk]
 show jumpQ Q ⟨f, upd (heapM _ _ _ _ _) n none, n + 2097152⟩ jmp
 rw [e]; exact hq
theorem RndM.keep {k : Nat} {rc : LSt -> V} {s : LSt} {st : St} (h : KeepOk ks L) (hb : st.H k = some [rc .busy]) (hH : ∀ i ∈ ks, upd st.H k (some [rc s]) i = Go.Psl.lk L i) : RndM k rc s ks L st :=
 ⟨hb, rid ks, h.hp hH, h.inj, h.stab hH⟩
end
end Go.Psl
namespace Go.Psl
variable {P : Program} {Γ : Tys} {eqs : Eqs} {E : Ent}
def CX (ks xs : List Nat) (c : V) : Prop := match c with
 | .lr fr _ _ _ _ _ => ∀ t, AV (· ∈ ks) anyD (fr t)
 | c => W1 (rid (ks ++ xs)) c c
structure KeepX (ks xs : List Nat) (L : List (Nat × List V)) : Prop where
 names : L.map (·.1) = ks ++ xs
 nd : (ks ++ xs).Nodup
 cells : ∀ p ∈ L, p.2 ≠ [] /\ cellsOk p.2 /\ ∀ c ∈ p.2, CX ks xs c
section
variable {ks xs xs1 : List Nat} {L L1 : List (Nat × List V)}
theorem KeepX.lk (h : KeepX ks xs L) {p : Nat × List V} (hp : p ∈ L) : Go.Psl.lk L p.1 = some p.2 := lk_nd (by rw [h.names]; exact h.nd) p hp
theorem KeepX.mem (h : KeepX ks xs L) {p : Nat × List V} (hp : p ∈ L) : p.1 ∈ ks ++ xs := by rw [<- h.names]; exact List.mem_map.2 ⟨p, hp, rfl⟩
theorem KeepX.isIn (h : KeepX ks xs L) {i : Nat} : (Go.Psl.lk L i).isSome = true ↔ i ∈ ks ++ xs := by
 constructor
 . intro hi
   obtain ⟨x, hx⟩ := Option.isSome_iff_exists.1 hi
   exact h.mem (p := (i, x)) (lk_mem' hx)
 . intro hi
   rw [<- h.names] at hi
   obtain ⟨p, hp, rfl⟩ := List.mem_map.1 hi
   rw [h.lk hp]; rfl
theorem W1_rid {c : V} (h : W1 (rid ks) c c) : A1 (· ∈ ks) anyD c := by
 cases c with
 | cl f cs =>
   obtain ⟨cs', e, h2⟩ := h
   cases e
   exact fun c hc => (W0_rid (all2_same h2 c hc)).1
 | junk => exact trivial
 | d x => exact trivial
 | lp i o => exact (W0_rid (c := .lp i o) h).1
 | ls i o l z => exact (W0_rid (c := .ls i o l z) h).1
 | yl i => exact (W0_rid (c := .yl i) h).1
 | lr => exact False.elim h
 | agg cs => exact False.elim h
 | tup cs => exact False.elim h
theorem CX_ac {c : V} (h : CX ks xs c) : AC (· ∈ ks ++ xs) anyD c := by
 cases c with
 | lr fr nt ps pa pb jmp => exact fun t => AV.mono (fun i hi => List.mem_append_left _ hi) (fun _ h => h) (h t)
 | cl f cs => exact W1_rid (c := .cl f cs) h
 | junk => exact trivial
 | d x => exact trivial
 | lp i o => exact W1_rid (c := .lp i o) h
 | ls i o l z => exact W1_rid (c := .ls i o l z) h
 | yl i => exact W1_rid (c := .yl i) h
 | agg cs => exact False.elim h
 | tup cs => exact False.elim h
theorem KeepX.ids (h : KeepX ks xs L) {n : Nat} (hn : ∀ i ∈ ks ++ xs, i < n) : HpIds n L := by
 have key : ∀ M : List (Nat × List V), (∀ p ∈ M, p ∈ L) -> HpIds n M := by
   intro M
   induction M with
   | nil => intro _; trivial
   | cons p r ih =>
     intro hM
     have hp := hM p (by simp)
     exact ⟨hn _ (h.mem hp), fun c hc => AC.mono hn (fun _ h => h) (CX_ac ((h.cells p hp).2.2 c hc)), ih fun q hq => hM q (List.mem_cons_of_mem _ hq)⟩
 exact key L fun _ h => h
theorem CX_rid {c : V} (h : CX ks xs c) : WC (rid (ks ++ xs)) c c := by
 cases c with
 | lr fr nt ps pa pb jmp => exact ⟨rfl, fun t => AV.mono (fun i hi => rid_in (List.mem_append_left _ hi)) (fun _ h => h) (h t)⟩
 | cl f cs => exact h
 | junk => exact h
 | d x => exact h
 | lp i o => exact h
 | ls i o l z => exact h
 | yl i => exact h
 | agg cs => exact h
 | tup cs => exact h
theorem KeepX.same (h : KeepX ks xs L) : KeepOk (ks ++ xs) L := ⟨h.names, h.nd, fun p hp => ⟨(h.cells p hp).1, (h.cells p hp).2.1, fun c hc => CX_rid ((h.cells p hp).2.2 c hc)⟩⟩
end
end Go.Psl
namespace Go.Proofs.Tryd
open Go.Psl
open Go.Log
theorem u8_ne {b c : UInt8} (h : ¬ b = c) : ¬ (b.toNat : Int) = c.toNat := fun e => h (UInt8.toNat_inj.1 (by omega))
theorem fn59 (s : By) (c : UInt8) (hl : s.length <= 1000000) : Ct prog 59 [vS s, vu c] (vS (trimR c s)) [] := by
 refine CB func59 c59 fun E hE => ?_
 simp [p59]
 refine pw_loop (α := By) (fun r => ⟨slots [(0, vS r), (1, vu c)], lk [], 0⟩) (fun r => trimR c r = trimR c s /\ r.length <= 1000000) (fun r => r.length) s ?_ ?_ ?_
 . exact ⟨rfl, hl⟩
 . exact WK hE (lk [])
 . rintro r ⟨hr, hrl⟩
   rcases List.eq_nil_or_concat r with rfl | ⟨r, b, rfl⟩
   . have e : trimR c s = [] := by rw [<- hr]; rfl
     simp [p59l0]
     apply RZ
     simp [results59, e]
   . rw [List.concat_eq_append] at *
     have hrl' : r.length + 1 <= 1000000 := by simpa using hrl
     have h0 : (0 : Int) < (r.length : Int) + 1 := by omega
     have hle : (r.length : Int) <= (r.length : Int) + 1 := by omega
     have hw : IntKind.wrap .i64 (r.length : Int) = (r.length : Int) := by rw [wrap64 (by omega) (by omega)]
     by_cases hb : b = c
     . subst hb
       simp [p59l0, h0, hw, hle]
       refine ⟨r, ⟨by rw [<- hr, trimR_snoc, if_pos rfl], by omega⟩, by omega, ?_⟩
       exact WK hE (lk [])
     . simp [p59l0, h0, hw, u8_ne hb]
       apply RZ
       simp [results59, <- hr, trimR_snoc, hb]
theorem fn46 (s : By) (c : UInt8) (hc : c.toNat < 128) (hl : s.length <= 1000000) : Ct prog 46 [vS s, vS [c]] (vS (trimL c (trimR c s))) [] := by
 have h128 : (c.toNat : Int) < 128 := by omega
 by_cases hs : s = []
 . subst hs
   refine CB func46 c46 fun E hE => ?_
   simp [p46]
   apply RZ
   simp [results46, trimR, trimL]
 . refine CB func46 c46 fun E hE => ?_
   simp [p46, hs, h128, inC, Nat.testBit]
   refine CLa (fn59 s c hl) ?_
   simp
   refine ACall.mk _ _ _ (fn58 (trimR c s) c (Nat.le_trans (trimR_len c s) hl)) (by first | (simp; done) | simp [Bor_ls, Bor1_ls]) (by simp) (by first | (left; simp; done) | (right; simp; done)) ?_
   simp
   apply RZ
   simp [results46]
theorem fn28 (x : Etr) (hw : x.w.length <= 1000000) (ha : x.a.length <= 1000000) (hn : x.n.length <= 1000000) : Ct prog 28 [entV x] (vb (entS x)) [] := by
 have c1 := fn43 x.t 0 1000000
 have c2 := fn40 x.w 8 42 cptF hw fun i b _ => fn42 i b
 have c3 := fn44 x.a 45 [] (fun n => !argB n) (by omega) fun p _ => fn45 p
 rw [any_nt] at c3
 have c4 := fn46 x.n 32 (by decide) hn
 have c5 := fn40 x.n 40 47 noteF hn fun i b _ => fn47 i b
 change Ct prog _ _ (vb (wordS x.w)) _ at c2
 by_cases h1 : betw x.t 0 1000000 = false
 . rw [h1] at c1
   refine CB func28 c28 fun E hE => ?_
   simp [p28]
   refine CLa c1 ?_
   simp
   apply RZ
   simp [results28, entS, h1]
 simp only [Bool.not_eq_false] at h1
 rw [h1] at c1
 by_cases h2 : wordS x.w = false
 . rw [h2] at c2
   refine CB func28 c28 fun E hE => ?_
   simp [p28]
   refine CLa c1 ?_
   simp
   refine CLa c2 ?_
   simp
   apply RZ
   simp [results28, entS, h1, h2]
 simp only [Bool.not_eq_false] at h2
 rw [h2] at c2
 by_cases h3 : 6 < x.a.length
 . have h3' : (6 : Int) < x.a.length := by omega
   refine CB func28 c28 fun E hE => ?_
   simp [p28]
   refine CLa c1 ?_
   simp
   refine CLa c2 ?_
   simp [h3']
   apply RZ
   simp [results28, entS, h1, h2]
   omega
 have h3' : ¬ (6 : Int) < x.a.length := by omega
 have h3'' : x.a.length <= 6 := by omega
 by_cases h4 : x.a.all argB = false
 . rw [h4] at c3
   refine CB func28 c28 fun E hE => ?_
   simp [p28]
   refine CLa c1 ?_
   simp
   refine CLa c2 ?_
   simp [h3']
   refine CLa c3 ?_
   simp
   apply RZ
   simp [results28, entS, h1, h2, h4]
 simp only [Bool.not_eq_false] at h4
 rw [h4] at c3
 by_cases h5 : x.n = []
 . refine CB func28 c28 fun E hE => ?_
   simp [p28]
   refine CLa c1 ?_
   simp
   refine CLa c2 ?_
   simp [h3']
   refine CLa c3 ?_
   simp [h5, inC, Nat.testBit]
   apply RZ
   simp [results28, entS, h1, h2, h4, h3'', noteS, h5]
 by_cases h6 : trimL 32 (trimR 32 x.n) = x.n
 . rw [h6] at c4
   refine CB func28 c28 fun E hE => ?_
   simp [p28]
   refine CLa c1 ?_
   simp
   refine CLa c2 ?_
   simp [h3']
   refine CLa c3 ?_
   simp [h5, inC, Nat.testBit]
   refine CLa c4 ?_
   simp
   refine CLa c5 ?_
   simp
   apply RZ
   simp [results28, entS, h1, h2, h4, h3'', noteS, h5, h6]
 . refine CB func28 c28 fun E hE => ?_
   simp [p28]
   refine CLa c1 ?_
   simp
   refine CLa c2 ?_
   simp [h3']
   refine CLa c3 ?_
   simp [h5, inC, Nat.testBit]
   refine CLa c4 ?_
   simp [h6]
   apply RZ
   simp [results28, entS, h1, h2, h4, h3'', noteS, h5, h6]
theorem fn48 (n lo hi : Int) : Ct prog 48 [vi n, vi lo, vi hi] (vb (betw n lo hi)) [] := by
 by_cases h1 : lo <= n
 . by_cases h2 : n <= hi
   . refine CB func48 c48 fun E hE => ?_
     simp [p48, h1, h2]
     apply RZ
     simp [results48, betw, h1, h2]
   . refine CB func48 c48 fun E hE => ?_
     simp [p48, h1, h2]
     apply RZ
     simp [results48, betw, h1, h2]
 . refine CB func48 c48 fun E hE => ?_
   simp [p48, h1]
   apply RZ
   simp [results48, betw, h1]
theorem fn49 (b : UInt8) : Ct prog 49 [vu b] (vb (betw (b.toNat : Int) 65 90)) [] := by
 by_cases h1 : 65 <= (b.toNat : Int)
 . by_cases h2 : (b.toNat : Int) <= 90
   . refine CB func49 c49 fun E hE => ?_
     simp [p49, h1, h2]
     apply RZ
     simp [results49, betw, h1, h2]
   . refine CB func49 c49 fun E hE => ?_
     simp [p49, h1, h2]
     apply RZ
     simp [results49, betw, h1, h2]
 . refine CB func49 c49 fun E hE => ?_
   simp [p49, h1]
   apply RZ
   simp [results49, betw, h1]
theorem fn50 (b : UInt8) : Ct prog 50 [vu b] (vb (betw (b.toNat : Int) 48 57)) [] := by
 by_cases h1 : 48 <= (b.toNat : Int)
 . by_cases h2 : (b.toNat : Int) <= 57
   . refine CB func50 c50 fun E hE => ?_
     simp [p50, h1, h2]
     apply RZ
     simp [results50, betw, h1, h2]
   . refine CB func50 c50 fun E hE => ?_
     simp [p50, h1, h2]
     apply RZ
     simp [results50, betw, h1, h2]
 . refine CB func50 c50 fun E hE => ?_
   simp [p50, h1]
   apply RZ
   simp [results50, betw, h1]
def wdF (d : Bool) (i : Nat) (b : UInt8) : Bool := upB b || (d && decide (0 < i) && dgB b)
theorem wdF_true : wdF true = shipF := by funext i b; simp [wdF, shipF]
theorem wdF_false : wdF false = cptF := by funext i b; simp [wdF, cptF]
theorem fn29 (s : By) (d : Bool) (hl : s.length <= 1000000) : Ct prog 29 [vS s, vb d] (vb (madeS s 8 (wdF d))) [] := by
 have c1 := fn48 s.length 1 8
 by_cases h0 : betw s.length 1 8 = false
 . rw [h0] at c1
   refine CB func29 c29 fun E hE => ?_
   simp [p29]
   refine CLa c1 ?_
   simp
   apply RZ
   simp [results29, madeS, h0]
 simp only [Bool.not_eq_false] at h0
 rw [h0] at c1
 refine CB func29 c29 fun E hE => ?_
 simp [p29]
 refine CLa c1 ?_
 simp
 refine pw_loop (α := Nat) (fun i => ⟨slots [(0, vS s), (1, vb d), (5, vi i)], lk [], 0⟩) (fun i => i <= s.length /\ ∀ j, j < i -> (s[j]?).all (wdF d j) = true) (fun i => s.length - i) 0 ?_ ?_ ?_
 . exact ⟨by omega, fun j hj => by omega⟩
 . exact WK hE (lk [])
 . rintro i ⟨hi, hg3⟩
   have hz := @wz i (by omega)
   by_cases h : i < s.length
   . obtain ⟨b, hb⟩ := gE h
     have hI : (i : Int) < s.length := by omega
     have c2 := fn49 b
     have c3 := fn50 b
     change Ct prog _ _ (vb (upB b)) _ at c2
     change Ct prog _ _ (vb (dgB b)) _ at c3
     have hgo : wdF d i b = true -> i + 1 <= s.length /\ ∀ j, j < i + 1 -> (s[j]?).all (wdF d j) = true := fun hq => ⟨by omega, fun j hj => by
       by_cases e : j = i
       . subst e; rw [hb]; simp [hq]
       . exact hg3 j (by omega)⟩
     by_cases hu : upB b = true
     . rw [hu] at c2
       simp [p29l0, hI, hb]
       refine CLa c2 ?_
       simp [hz]
       refine ⟨i + 1, hgo (by simp [wdF, hu]), by omega, ?_⟩
       exact WK hE (lk [])
     simp only [Bool.not_eq_true] at hu
     rw [hu] at c2
     cases d with
     | false =>
       simp [p29l0, hI, hb]
       refine CLa c2 ?_
       simp
       apply RZ
       simp [results29, madeS, fitA_bad hb (show wdF false i b = false by simp [wdF, hu])]
     | true =>
       by_cases hi0 : 0 < i
       . have hi0' : (0 : Int) < i := by omega
         by_cases hd : dgB b = true
         . rw [hd] at c3
           simp [p29l0, hI, hb]
           refine CLa c2 ?_
           simp [hi0, hb]
           refine CLa c3 ?_
           simp [hz]
           refine ⟨i + 1, hgo (by simp [wdF, hi0, hd]), by omega, ?_⟩
           exact WK hE (lk [])
         . simp only [Bool.not_eq_true] at hd
           rw [hd] at c3
           simp [p29l0, hI, hb]
           refine CLa c2 ?_
           simp [hi0, hb]
           refine CLa c3 ?_
           simp
           apply RZ
           simp [results29, madeS, fitA_bad hb (show wdF true i b = false by simp [wdF, hu, hd])]
       . simp [p29l0, hI, hb]
         refine CLa c2 ?_
         simp [hi0]
         apply RZ
         simp [results29, madeS, fitA_bad hb (show wdF true i b = false by simp [wdF, hu, hi0])]
   . have hI : ¬ (i : Int) < s.length := by omega
     simp [p29l0, hI]
     apply RZ
     simp [results29, madeS, h0, fitA_ok fun j hj => hg3 j (by omega)]
theorem fn51 (s : By) (hl : s.length <= 1000000) : Ct prog 51 [vS s] (vb (decide (s.length <= 40) && fitA noteF s && bareS 32 s)) [] := by
 by_cases h0 : 40 < s.length
 . have h0' : (40 : Int) < s.length := by omega
   refine CB func51 c51 fun E hE => ?_
   simp [p51, h0']
   apply RZ
   simp [results51]
   omega
 have h0' : ¬ (40 : Int) < s.length := by omega
 have h40 : s.length <= 40 := by omega
 refine CB func51 c51 fun E hE => ?_
 simp [p51, h0']
 refine pw_loop (α := Nat) (fun i => ⟨slots [(0, vS s), (3, vi i)], lk [], 0⟩) (fun i => i <= s.length /\ ∀ j, j < i -> (s[j]?).all (noteF j) = true) (fun i => s.length - i) 0 ?_ ?_ ?_
 . exact ⟨by omega, fun j hj => by omega⟩
 . exact WK hE (lk [])
 . rintro i ⟨hi, hg3⟩
   have hz := @wz i (by omega)
   by_cases h : i < s.length
   . obtain ⟨b, hb⟩ := gE h
     have hI : (i : Int) < s.length := by omega
     by_cases h1 : (b.toNat : Int) < 32
     . simp [p51l0, hI, hb, h1]
       apply RZ
       simp [results51, fitA_bad hb (show noteF i b = false by simp [noteF, prB]; omega)]
     . by_cases h2 : 126 < (b.toNat : Int)
       . simp [p51l0, hI, hb, h1, h2]
         apply RZ
         simp [results51, fitA_bad hb (show noteF i b = false by simp [noteF, prB]; omega)]
       . simp [p51l0, hI, hb, h1, h2, hz]
         refine ⟨i + 1, ⟨by omega, fun j hj => ?_⟩, by omega, ?_⟩
         . by_cases e : j = i
           . subst e; rw [hb]; simp [noteF, prB]; omega
           . exact hg3 j (by omega)
         . exact WK hE (lk [])
   . have hI : ¬ (i : Int) < s.length := by omega
     have hfit : fitA noteF s = true := fitA_ok fun j hj => hg3 j (by omega)
     cases s with
     | nil =>
       have hI0 : ¬ (i : Int) < 0 := by omega
       simp [p51l0, hI0]
       apply RZ
       simp [results51, hfit, bareS]
     | cons b r =>
       have hlr : r.length + 1 <= 40 := by simpa using h40
       have hw : IntKind.wrap .i64 (r.length : Int) = (r.length : Int) := by rw [wrap64 (by omega) (by omega)]
       have hne : ¬ (r.length : Int) + 1 = 0 := by omega
       have hI' : ¬ (i : Int) < r.length + 1 := by simpa using hI
       by_cases hb : b = 32
       . subst hb
         simp [p51l0, hI', hne]
         apply RZ
         simp [results51, bareS]
       . have hbn : ¬ (b.toNat : Int) = 32 := u8_ne hb
         obtain ⟨c, hc⟩ : ∃ c, (b :: r).getLast? = some c := by
           cases hq : (b :: r).getLast? with
           | none => simp at hq
           | some c => exact ⟨c, rfl⟩
         have hge : (b :: r)[r.length]? = some c := by rw [<- hc, List.getLast?_eq_getElem?]; simp
         have hgl : (b :: r)[r.length] = c := by
           have := hge
           rw [List.getElem?_eq_getElem (by simp)] at this
           exact Option.some.inj this
         have hbare : bareS 32 (b :: r) = decide (c ≠ 32) := by simp [bareS, hb, hc]
         by_cases hc2 : c = 32
         . subst hc2
           simp [p51l0, hI', hne, hbn, hw, hgl]
           apply RZ
           simp [results51, hbare]
         . have hcn : ¬ (c.toNat : Int) = 32 := u8_ne hc2
           simp [p51l0, hI', hne, hbn, hw, hgl, hcn]
           apply RZ
           simp [results51, hbare, hc2, hfit, show r.length <= 39 by omega]
theorem note_eq (s : By) : (decide (s.length <= 40) && fitA noteF s && bareS 32 s) = noteS s := by
 unfold noteS
 by_cases hs : s = []
 . subst hs; simp [bareS, fitA]
 . have h1 : 1 <= s.length := by cases s with | nil => exact absurd rfl hs | cons a b => simp
   have h2 : decide (trimL 32 (trimR 32 s) = s) = bareS 32 s := by
     cases hb : bareS 32 s
     . exact decide_eq_false fun e => by rw [(trim_same 32 s).1 e] at hb; cases hb
     . exact decide_eq_true ((trim_same 32 s).2 hb)
   rw [h2]
   have h3 : betw s.length 1 40 = decide (s.length <= 40) := by
     unfold betw
     rw [decide_eq_true (show (1 : Int) <= s.length by omega), Bool.true_and]
     exact decide_eq_decide.2 (by omega)
   simp only [hs, decide_false, Bool.false_or, madeS, h3]
   cases bareS 32 s <;> cases fitA noteF s <;> cases decide (s.length <= 40) <;> rfl
theorem fn30 (x : Etr) (hw : x.w.length <= 1000000) (ha : x.a.length <= 1000000) (hn : x.n.length <= 1000000) : Ct prog 30 [entV x] (vb (entS x)) [] := by
 have c1 := fn48 x.t 0 1000000
 have c2 := fn29 x.w false hw
 rw [wdF_false] at c2
 change Ct prog _ _ (vb (wordS x.w)) _ at c2
 have c3 := fn51 x.n hn
 rw [note_eq] at c3
 by_cases h1 : betw x.t 0 1000000 = false
 . rw [h1] at c1
   refine CB func30 c30 fun E hE => ?_
   simp [p30]
   refine CLa c1 ?_
   simp
   apply RZ
   simp [results30, entS, h1]
 simp only [Bool.not_eq_false] at h1
 rw [h1] at c1
 by_cases h2 : wordS x.w = false
 . rw [h2] at c2
   refine CB func30 c30 fun E hE => ?_
   simp [p30]
   refine CLa c1 ?_
   simp
   refine CLa c2 ?_
   simp
   apply RZ
   simp [results30, entS, h1, h2]
 simp only [Bool.not_eq_false] at h2
 rw [h2] at c2
 by_cases h3 : 6 < x.a.length
 . have h3' : (6 : Int) < x.a.length := by omega
   refine CB func30 c30 fun E hE => ?_
   simp [p30]
   refine CLa c1 ?_
   simp
   refine CLa c2 ?_
   simp [h3']
   apply RZ
   simp [results30, entS, h1, h2]
   omega
 have h3' : ¬ (6 : Int) < x.a.length := by omega
 have h3'' : x.a.length <= 6 := by omega
 by_cases h5 : noteS x.n = false
 . rw [h5] at c3
   refine CB func30 c30 fun E hE => ?_
   simp [p30]
   refine CLa c1 ?_
   simp
   refine CLa c2 ?_
   simp [h3']
   refine CLa c3 ?_
   simp
   apply RZ
   simp [results30, entS, h5]
 simp only [Bool.not_eq_false] at h5
 rw [h5] at c3
 refine CB func30 c30 fun E hE => ?_
 simp [p30]
 refine CLa c1 ?_
 simp
 refine CLa c2 ?_
 simp [h3']
 refine CLa c3 ?_
 simp
 refine pw_loop (α := Nat) (fun i => ⟨slots [(1, .lp 0 0), (3, vi i)], lk [(0, [vi x.t, vS x.w, .d (intsD x.a), vS x.n])], 1⟩) (fun i => i <= x.a.length /\ ∀ j, j < i -> (x.a[j]?).all argB = true) (fun i => x.a.length - i) 0 ?_ ?_ ?_
 . exact ⟨by omega, fun j hj => by omega⟩
 . exact WK hE (lk [(0, 0)])
 . rintro i ⟨hi, hg3⟩
   have hz := @wz i (by omega)
   by_cases h : i < x.a.length
   . obtain ⟨n, hn⟩ := gE h
     have hI : (i : Int) < x.a.length := by omega
     have c4 := fn48 n (-1000000000) 1000000000
     change Ct prog _ _ (vb (argB n)) _ at c4
     by_cases hq : argB n = true
     . rw [hq] at c4
       simp [p30l0, hI, hn]
       refine CLa c4 ?_
       simp [hz]
       refine ⟨i + 1, ⟨by omega, fun j hj => ?_⟩, by omega, ?_⟩
       . by_cases e : j = i
         . subst e; rw [hn]; simp [hq]
         . exact hg3 j (by omega)
       . exact WK hE (lk [(0, 0)])
     . simp only [Bool.not_eq_true] at hq
       rw [hq] at c4
       simp [p30l0, hI, hn]
       refine CLa c4 ?_
       simp
       apply RZ
       have : x.a.all argB = false := by rw [List.all_eq_false]; exact ⟨n, List.mem_of_getElem? hn, by simp [hq]⟩
       simp [results30, entS, this]
   . have hI : ¬ (i : Int) < x.a.length := by omega
     have : x.a.all argB = true := by
       rw [List.all_eq_true]
       intro n hn
       obtain ⟨j, hj⟩ := List.getElem?_of_mem hn
       have := hg3 j (by have := (List.getElem?_eq_some_iff.1 hj).1; omega)
       rw [hj] at this
       simpa using this
     simp [p30l0, hI]
     apply RZ
     simp [results30, entS, h1, h2, h3'', h5, this]
end Go.Proofs.Tryd
