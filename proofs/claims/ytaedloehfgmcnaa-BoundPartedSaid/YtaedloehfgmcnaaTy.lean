/- Tables of the types, printed by a program of ours, each with the kernel's word. Conditions: none. -/
import Derived.Test.YtaedloehfgmcnaaProg
import Derived.Test.YtaedloehfgmcnaaPd
namespace Go.Proofs.Try
open Go.Psl
def ty2 : Ty := ⟨1, 8, false, .int .i64, [(.int .i64 0)]⟩
def ty3 : Ty := ⟨1, 8, false, .int .i64, [(.int .i64 0)]⟩
def ty4 : Ty := ⟨1, 1, false, .bool, [(.bool false)]⟩
def ty5 : Ty := ⟨1, 1, false, .int .u8, [(.int .u8 0)]⟩
def ty6 : Ty := ⟨1, 1, false, .int .u8, [(.int .u8 0)]⟩
def ty7 : Ty := ⟨4, 24, true, .struct [(0, 2), (1, 3), (2, 4), (3, 6)], [(.int .i64 0), (.int .i64 0), (.bool false), (.int .u8 0)]⟩
def ty8 : Ty := ⟨4, 24, true, .struct [(0, 2), (1, 3), (2, 4), (3, 6)], [(.int .i64 0), (.int .i64 0), (.bool false), (.int .u8 0)]⟩
def ty9 : Ty := ⟨1, 16, false, .str, [(.string ByteArray.empty)]⟩
def ty10 : Ty := ⟨1, 16, false, .str, [(.string ByteArray.empty)]⟩
def ty11 : Ty := ⟨1, 16, false, .str, [(.string ByteArray.empty)]⟩
def ty12 : Ty := ⟨1, 8, false, .int .u64, [(.int .u64 0)]⟩
def ty13 : Ty := ⟨2, 24, true, .struct [(0, 9), (1, 12)], [(.string ByteArray.empty), (.int .u64 0)]⟩
def ty14 : Ty := ⟨2, 24, true, .struct [(0, 9), (1, 12)], [(.string ByteArray.empty), (.int .u64 0)]⟩
def ty15 : Ty := ⟨1, 8, false, .ptr 186, [(.pointer none)]⟩
def ty16 : Ty := ⟨1, 8, false, .ptr 189, [(.pointer none)]⟩
def ty17 : Ty := ⟨1, 8, false, .ptr 198, [(.pointer none)]⟩
def ty18 : Ty := ⟨1, 8, true, .struct [(0, 17)], [(.pointer none)]⟩
def ty19 : Ty := ⟨1, 8, true, .struct [(0, 17)], [(.pointer none)]⟩
def ty21 : Ty := ⟨1, 4, false, .int .i32, [(.int .i32 0)]⟩
def ty22 : Ty := ⟨1, 24, false, .slice 87, [(.slice none 0 0)]⟩
def ty23 : Ty := ⟨2, 16, true, .struct [(0, 3), (1, 3)], [(.int .i64 0), (.int .i64 0)]⟩
def ty24 : Ty := ⟨2, 16, true, .struct [(0, 3), (1, 3)], [(.int .i64 0), (.int .i64 0)]⟩
def ty25 : Ty := ⟨1, 8, false, .int .i64, [(.int .i64 0)]⟩
def ty30 : Ty := ⟨1, 24, false, .slice 24, [(.slice none 0 0)]⟩
def ty54 : Ty := ⟨1, 24, false, .slice 56, [(.slice none 0 0)]⟩
def ty55 : Ty := ⟨2, 16, true, .struct [(0, 3), (1, 3)], [(.int .i64 0), (.int .i64 0)]⟩
def ty56 : Ty := ⟨2, 16, true, .struct [(0, 3), (1, 3)], [(.int .i64 0), (.int .i64 0)]⟩
def ty84 : Ty := ⟨1, 24, false, .slice 5, [(.slice none 0 0)]⟩
def ty86 : Ty := ⟨3, 24, true, .struct [(0, 3), (1, 24)], [(.int .i64 0), (.int .i64 0), (.int .i64 0)]⟩
def ty87 : Ty := ⟨3, 24, true, .struct [(0, 3), (1, 24)], [(.int .i64 0), (.int .i64 0), (.int .i64 0)]⟩
def ty91 : Ty := ⟨4, 4, true, .array 4 4, [(.bool false), (.bool false), (.bool false), (.bool false)]⟩
def ty92 : Ty := ⟨1, 24, false, .slice 30, [(.slice none 0 0)]⟩
def ty94 : Ty := ⟨1, 24, false, .slice 3, [(.slice none 0 0)]⟩
def ty113 : Ty := ⟨16, 128, true, .array 8 24, [(.int .i64 0), (.int .i64 0), (.int .i64 0), (.int .i64 0), (.int .i64 0), (.int .i64 0), (.int .i64 0), (.int .i64 0), (.int .i64 0), (.int .i64 0), (.int .i64 0), (.int .i64 0), (.int .i64 0), (.int .i64 0), (.int .i64 0), (.int .i64 0)]⟩
def ty114 : Ty := ⟨2, 16, true, .array 2 3, [(.int .i64 0), (.int .i64 0)]⟩
def ty116 : Ty := ⟨1, 8, false, .int .u64, [(.int .u64 0)]⟩
def ty135 : Ty := ⟨3, 24, true, .struct [(0, 3), (1, 3), (2, 3)], [(.int .i64 0), (.int .i64 0), (.int .i64 0)]⟩
def ty136 : Ty := ⟨3, 24, true, .struct [(0, 3), (1, 3), (2, 3)], [(.int .i64 0), (.int .i64 0), (.int .i64 0)]⟩
def ty140 : Ty := ⟨1, 8, false, .int .u64, [(.int .u64 0)]⟩
def ty154 : Ty := ⟨1, 24, false, .slice 54, [(.slice none 0 0)]⟩
def ty167 : Ty := ⟨1, 8, false, .int .i64, [(.int .i64 0)]⟩
def ty174 : Ty := ⟨1, 4, false, .int .u32, [(.int .u32 0)]⟩
def ty175 : Ty := ⟨1, 8, false, .int .u64, [(.int .u64 0)]⟩
def ty179 : Ty := ⟨1, 8, false, .ptr 3, [(.pointer none)]⟩
def ty181 : Ty := ⟨1, 8, false, .ptr 175, [(.pointer none)]⟩
def ty183 : Ty := ⟨1, 8, false, .ptr 200, [(.pointer none)]⟩
def ty185 : Ty := ⟨4, 40, true, .struct [(0, 17), (1, 17), (2, 17), (3, 9)], [(.pointer none), (.pointer none), (.pointer none), (.string ByteArray.empty)]⟩
def ty186 : Ty := ⟨4, 40, true, .struct [(0, 17), (1, 17), (2, 17), (3, 9)], [(.pointer none), (.pointer none), (.pointer none), (.string ByteArray.empty)]⟩
def ty187 : Ty := ⟨0, 0, true, .array 0 16, []⟩
def ty188 : Ty := ⟨0, 0, true, .struct [(0, 187)], []⟩
def ty189 : Ty := ⟨0, 0, true, .struct [(0, 187)], []⟩
def ty191 : Ty := ⟨1, 1, false, .int .u8, [(.int .u8 0)]⟩
def ty192 : Ty := ⟨1, 1, false, .int .u8, [(.int .u8 0)]⟩
def ty194 : Ty := ⟨1, 8, false, .ptr 5, [(.pointer none)]⟩
def ty195 : Ty := ⟨1, 4, false, .int .i32, [(.int .i32 0)]⟩
def ty196 : Ty := ⟨1, 4, false, .int .i32, [(.int .i32 0)]⟩
def ty197 : Ty := ⟨11, 48, true, .struct [(0, 12), (1, 12), (2, 174), (3, 191), (4, 5), (5, 5), (6, 192), (7, 193), (8, 194), (9, 195), (10, 196)], [(.int .u64 0), (.int .u64 0), (.int .u32 0), (.int .u8 0), (.int .u8 0), (.int .u8 0), (.int .u8 0), .nilFunc, (.pointer none), (.int .i32 0), (.int .i32 0)]⟩
def ty198 : Ty := ⟨11, 48, true, .struct [(0, 12), (1, 12), (2, 174), (3, 191), (4, 5), (5, 5), (6, 192), (7, 193), (8, 194), (9, 195), (10, 196)], [(.int .u64 0), (.int .u64 0), (.int .u32 0), (.int .u8 0), (.int .u8 0), (.int .u8 0), (.int .u8 0), .nilFunc, (.pointer none), (.int .i32 0), (.int .i32 0)]⟩
def ty199 : Ty := ⟨1, 16, true, .struct [(0, 9)], [(.string ByteArray.empty)]⟩
def ty200 : Ty := ⟨1, 16, true, .struct [(0, 9)], [(.string ByteArray.empty)]⟩
def tyL : List (Nat × Ty) := [(2, ty2), (3, ty3), (4, ty4), (5, ty5), (6, ty6), (7, ty7), (8, ty8), (9, ty9), (10, ty10), (11, ty11), (12, ty12), (13, ty13), (14, ty14), (15, ty15), (16, ty16), (17, ty17), (18, ty18), (19, ty19), (21, ty21), (22, ty22), (23, ty23), (24, ty24), (25, ty25), (30, ty30), (54, ty54), (55, ty55), (56, ty56), (84, ty84), (86, ty86), (87, ty87), (91, ty91), (92, ty92), (94, ty94), (113, ty113), (114, ty114), (116, ty116), (135, ty135), (136, ty136), (140, ty140), (154, ty154), (167, ty167), (174, ty174), (175, ty175), (179, ty179), (181, ty181), (183, ty183), (185, ty185), (186, ty186), (187, ty187), (188, ty188), (189, ty189), (191, ty191), (192, ty192), (194, ty194), (195, ty195), (196, ty196), (197, ty197), (198, ty198), (199, ty199), (200, ty200)]
def eqL : List (Nat × List CK) := [(7, [.int, .int, .bool, .int]), (8, [.int, .int, .bool, .int]), (23, [.int, .int]), (24, [.int, .int]), (55, [.int, .int]), (56, [.int, .int]), (86, [.int, .int, .int]), (87, [.int, .int, .int]), (135, [.int, .int, .int]), (136, [.int, .int, .int]), (199, [.str]), (200, [.str])]
def tys : Tys := lk tyL
def eqs : Eqs := lk eqL
theorem gok : GOk prog tys := gok_of (by kernel_rfl)
theorem eok : EqOk prog eqs := eqok_of (by kernel_rfl)
theorem mixed : prog.follows .mixedOrders = true := by kernel_rfl
@[simp] theorem g2 : tys 2 = some ⟨1, 8, false, .int .i64, [(.int .i64 0)]⟩ := nrfl rfl
@[simp] theorem g3 : tys 3 = some ⟨1, 8, false, .int .i64, [(.int .i64 0)]⟩ := nrfl rfl
@[simp] theorem g4 : tys 4 = some ⟨1, 1, false, .bool, [(.bool false)]⟩ := nrfl rfl
@[simp] theorem g5 : tys 5 = some ⟨1, 1, false, .int .u8, [(.int .u8 0)]⟩ := nrfl rfl
@[simp] theorem g6 : tys 6 = some ⟨1, 1, false, .int .u8, [(.int .u8 0)]⟩ := nrfl rfl
@[simp] theorem g7 : tys 7 = some ⟨4, 24, true, .struct [(0, 2), (1, 3), (2, 4), (3, 6)], [(.int .i64 0), (.int .i64 0), (.bool false), (.int .u8 0)]⟩ := nrfl rfl
@[simp] theorem g8 : tys 8 = some ⟨4, 24, true, .struct [(0, 2), (1, 3), (2, 4), (3, 6)], [(.int .i64 0), (.int .i64 0), (.bool false), (.int .u8 0)]⟩ := nrfl rfl
@[simp] theorem g9 : tys 9 = some ⟨1, 16, false, .str, [(.string ByteArray.empty)]⟩ := nrfl rfl
@[simp] theorem g10 : tys 10 = some ⟨1, 16, false, .str, [(.string ByteArray.empty)]⟩ := nrfl rfl
@[simp] theorem g11 : tys 11 = some ⟨1, 16, false, .str, [(.string ByteArray.empty)]⟩ := nrfl rfl
@[simp] theorem g12 : tys 12 = some ⟨1, 8, false, .int .u64, [(.int .u64 0)]⟩ := nrfl rfl
@[simp] theorem g13 : tys 13 = some ⟨2, 24, true, .struct [(0, 9), (1, 12)], [(.string ByteArray.empty), (.int .u64 0)]⟩ := nrfl rfl
@[simp] theorem g14 : tys 14 = some ⟨2, 24, true, .struct [(0, 9), (1, 12)], [(.string ByteArray.empty), (.int .u64 0)]⟩ := nrfl rfl
@[simp] theorem g15 : tys 15 = some ⟨1, 8, false, .ptr 186, [(.pointer none)]⟩ := nrfl rfl
@[simp] theorem g16 : tys 16 = some ⟨1, 8, false, .ptr 189, [(.pointer none)]⟩ := nrfl rfl
@[simp] theorem g17 : tys 17 = some ⟨1, 8, false, .ptr 198, [(.pointer none)]⟩ := nrfl rfl
@[simp] theorem g18 : tys 18 = some ⟨1, 8, true, .struct [(0, 17)], [(.pointer none)]⟩ := nrfl rfl
@[simp] theorem g19 : tys 19 = some ⟨1, 8, true, .struct [(0, 17)], [(.pointer none)]⟩ := nrfl rfl
@[simp] theorem g21 : tys 21 = some ⟨1, 4, false, .int .i32, [(.int .i32 0)]⟩ := nrfl rfl
@[simp] theorem g22 : tys 22 = some ⟨1, 24, false, .slice 87, [(.slice none 0 0)]⟩ := nrfl rfl
@[simp] theorem g23 : tys 23 = some ⟨2, 16, true, .struct [(0, 3), (1, 3)], [(.int .i64 0), (.int .i64 0)]⟩ := nrfl rfl
@[simp] theorem g24 : tys 24 = some ⟨2, 16, true, .struct [(0, 3), (1, 3)], [(.int .i64 0), (.int .i64 0)]⟩ := nrfl rfl
@[simp] theorem g25 : tys 25 = some ⟨1, 8, false, .int .i64, [(.int .i64 0)]⟩ := nrfl rfl
@[simp] theorem g30 : tys 30 = some ⟨1, 24, false, .slice 24, [(.slice none 0 0)]⟩ := nrfl rfl
@[simp] theorem g54 : tys 54 = some ⟨1, 24, false, .slice 56, [(.slice none 0 0)]⟩ := nrfl rfl
@[simp] theorem g55 : tys 55 = some ⟨2, 16, true, .struct [(0, 3), (1, 3)], [(.int .i64 0), (.int .i64 0)]⟩ := nrfl rfl
@[simp] theorem g56 : tys 56 = some ⟨2, 16, true, .struct [(0, 3), (1, 3)], [(.int .i64 0), (.int .i64 0)]⟩ := nrfl rfl
@[simp] theorem g84 : tys 84 = some ⟨1, 24, false, .slice 5, [(.slice none 0 0)]⟩ := nrfl rfl
@[simp] theorem g86 : tys 86 = some ⟨3, 24, true, .struct [(0, 3), (1, 24)], [(.int .i64 0), (.int .i64 0), (.int .i64 0)]⟩ := nrfl rfl
@[simp] theorem g87 : tys 87 = some ⟨3, 24, true, .struct [(0, 3), (1, 24)], [(.int .i64 0), (.int .i64 0), (.int .i64 0)]⟩ := nrfl rfl
@[simp] theorem g91 : tys 91 = some ⟨4, 4, true, .array 4 4, [(.bool false), (.bool false), (.bool false), (.bool false)]⟩ := nrfl rfl
@[simp] theorem g92 : tys 92 = some ⟨1, 24, false, .slice 30, [(.slice none 0 0)]⟩ := nrfl rfl
@[simp] theorem g94 : tys 94 = some ⟨1, 24, false, .slice 3, [(.slice none 0 0)]⟩ := nrfl rfl
@[simp] theorem g113 : tys 113 = some ⟨16, 128, true, .array 8 24, [(.int .i64 0), (.int .i64 0), (.int .i64 0), (.int .i64 0), (.int .i64 0), (.int .i64 0), (.int .i64 0), (.int .i64 0), (.int .i64 0), (.int .i64 0), (.int .i64 0), (.int .i64 0), (.int .i64 0), (.int .i64 0), (.int .i64 0), (.int .i64 0)]⟩ := nrfl rfl
@[simp] theorem g114 : tys 114 = some ⟨2, 16, true, .array 2 3, [(.int .i64 0), (.int .i64 0)]⟩ := nrfl rfl
@[simp] theorem g116 : tys 116 = some ⟨1, 8, false, .int .u64, [(.int .u64 0)]⟩ := nrfl rfl
@[simp] theorem g135 : tys 135 = some ⟨3, 24, true, .struct [(0, 3), (1, 3), (2, 3)], [(.int .i64 0), (.int .i64 0), (.int .i64 0)]⟩ := nrfl rfl
@[simp] theorem g136 : tys 136 = some ⟨3, 24, true, .struct [(0, 3), (1, 3), (2, 3)], [(.int .i64 0), (.int .i64 0), (.int .i64 0)]⟩ := nrfl rfl
@[simp] theorem g140 : tys 140 = some ⟨1, 8, false, .int .u64, [(.int .u64 0)]⟩ := nrfl rfl
@[simp] theorem g154 : tys 154 = some ⟨1, 24, false, .slice 54, [(.slice none 0 0)]⟩ := nrfl rfl
@[simp] theorem g167 : tys 167 = some ⟨1, 8, false, .int .i64, [(.int .i64 0)]⟩ := nrfl rfl
@[simp] theorem g174 : tys 174 = some ⟨1, 4, false, .int .u32, [(.int .u32 0)]⟩ := nrfl rfl
@[simp] theorem g175 : tys 175 = some ⟨1, 8, false, .int .u64, [(.int .u64 0)]⟩ := nrfl rfl
@[simp] theorem g179 : tys 179 = some ⟨1, 8, false, .ptr 3, [(.pointer none)]⟩ := nrfl rfl
@[simp] theorem g181 : tys 181 = some ⟨1, 8, false, .ptr 175, [(.pointer none)]⟩ := nrfl rfl
@[simp] theorem g183 : tys 183 = some ⟨1, 8, false, .ptr 200, [(.pointer none)]⟩ := nrfl rfl
@[simp] theorem g185 : tys 185 = some ⟨4, 40, true, .struct [(0, 17), (1, 17), (2, 17), (3, 9)], [(.pointer none), (.pointer none), (.pointer none), (.string ByteArray.empty)]⟩ := nrfl rfl
@[simp] theorem g186 : tys 186 = some ⟨4, 40, true, .struct [(0, 17), (1, 17), (2, 17), (3, 9)], [(.pointer none), (.pointer none), (.pointer none), (.string ByteArray.empty)]⟩ := nrfl rfl
@[simp] theorem g187 : tys 187 = some ⟨0, 0, true, .array 0 16, []⟩ := nrfl rfl
@[simp] theorem g188 : tys 188 = some ⟨0, 0, true, .struct [(0, 187)], []⟩ := nrfl rfl
@[simp] theorem g189 : tys 189 = some ⟨0, 0, true, .struct [(0, 187)], []⟩ := nrfl rfl
@[simp] theorem g191 : tys 191 = some ⟨1, 1, false, .int .u8, [(.int .u8 0)]⟩ := nrfl rfl
@[simp] theorem g192 : tys 192 = some ⟨1, 1, false, .int .u8, [(.int .u8 0)]⟩ := nrfl rfl
@[simp] theorem g194 : tys 194 = some ⟨1, 8, false, .ptr 5, [(.pointer none)]⟩ := nrfl rfl
@[simp] theorem g195 : tys 195 = some ⟨1, 4, false, .int .i32, [(.int .i32 0)]⟩ := nrfl rfl
@[simp] theorem g196 : tys 196 = some ⟨1, 4, false, .int .i32, [(.int .i32 0)]⟩ := nrfl rfl
@[simp] theorem g197 : tys 197 = some ⟨11, 48, true, .struct [(0, 12), (1, 12), (2, 174), (3, 191), (4, 5), (5, 5), (6, 192), (7, 193), (8, 194), (9, 195), (10, 196)], [(.int .u64 0), (.int .u64 0), (.int .u32 0), (.int .u8 0), (.int .u8 0), (.int .u8 0), (.int .u8 0), .nilFunc, (.pointer none), (.int .i32 0), (.int .i32 0)]⟩ := nrfl rfl
@[simp] theorem g198 : tys 198 = some ⟨11, 48, true, .struct [(0, 12), (1, 12), (2, 174), (3, 191), (4, 5), (5, 5), (6, 192), (7, 193), (8, 194), (9, 195), (10, 196)], [(.int .u64 0), (.int .u64 0), (.int .u32 0), (.int .u8 0), (.int .u8 0), (.int .u8 0), (.int .u8 0), .nilFunc, (.pointer none), (.int .i32 0), (.int .i32 0)]⟩ := nrfl rfl
@[simp] theorem g199 : tys 199 = some ⟨1, 16, true, .struct [(0, 9)], [(.string ByteArray.empty)]⟩ := nrfl rfl
@[simp] theorem g200 : tys 200 = some ⟨1, 16, true, .struct [(0, 9)], [(.string ByteArray.empty)]⟩ := nrfl rfl
@[simp] theorem e7 : eqs 7 = some [.int, .int, .bool, .int] := nrfl rfl
@[simp] theorem e8 : eqs 8 = some [.int, .int, .bool, .int] := nrfl rfl
@[simp] theorem e23 : eqs 23 = some [.int, .int] := nrfl rfl
@[simp] theorem e24 : eqs 24 = some [.int, .int] := nrfl rfl
@[simp] theorem e55 : eqs 55 = some [.int, .int] := nrfl rfl
@[simp] theorem e56 : eqs 56 = some [.int, .int] := nrfl rfl
@[simp] theorem e86 : eqs 86 = some [.int, .int, .int] := nrfl rfl
@[simp] theorem e87 : eqs 87 = some [.int, .int, .int] := nrfl rfl
@[simp] theorem e135 : eqs 135 = some [.int, .int, .int] := nrfl rfl
@[simp] theorem e136 : eqs 136 = some [.int, .int, .int] := nrfl rfl
@[simp] theorem e199 : eqs 199 = some [.str] := nrfl rfl
@[simp] theorem e200 : eqs 200 = some [.str] := nrfl rfl

end Go.Proofs.Try
