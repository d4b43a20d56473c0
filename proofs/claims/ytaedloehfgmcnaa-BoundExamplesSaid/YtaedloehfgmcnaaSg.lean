/- Own lemmas and contracts of functions, used by the last text of this claim for the given statement. Conditions: those that each theorem states. -/
import Derived.Test.YtaedloehfgmcnaaProg
import Derived.Test.YtaedloehfgmcnaaSe
import Derived.Test.YtaedloehfgmcnaaSf
import Derived.Test.YtaedloehfgmcnaaRows
import Derived.Deep.Slices
namespace Go.Proofs.Try
open Go.Psl
def ty2 : Ty := ⟨1, 8, false, .int .i64, [(.int .i64 0)]⟩
def ty3 : Ty := ⟨1, 8, false, .int .i64, [(.int .i64 0)]⟩
def ty4 : Ty := ⟨1, 1, false, .bool, [(.bool false)]⟩
def ty5 : Ty := ⟨1, 1, false, .int .u8, [(.int .u8 0)]⟩
def ty6 : Ty := ⟨1, 1, false, .int .u8, [(.int .u8 0)]⟩
def ty7 : Ty := ⟨4, 24, true, .struct [(0, 2), (1, 3), (2, 4), (3, 6)], [(.int .i64 0), (.int .i64 0), (.bool false), (.int .u8 0)]⟩
def ty8 : Ty := ⟨4, 24, true, .struct [(0, 2), (1, 3), (2, 4), (3, 6)], [(.int .i64 0), (.int .i64 0), (.bool false), (.int .u8 0)]⟩
def ty9 : Ty := ⟨1, 16, false, .str, [(.string ByteArray.empty)]⟩
def ty10 : Ty := ⟨1, 16, false, .str, [(.string ByteArray.empty)]⟩
def ty11 : Ty := ⟨1, 16, false, .str, [(.string ByteArray.empty)]⟩
def ty12 : Ty := ⟨1, 8, false, .int .u64, [(.int .u64 0)]⟩
def ty13 : Ty := ⟨2, 24, true, .struct [(0, 9), (1, 12)], [(.string ByteArray.empty), (.int .u64 0)]⟩
def ty14 : Ty := ⟨2, 24, true, .struct [(0, 9), (1, 12)], [(.string ByteArray.empty), (.int .u64 0)]⟩
def ty15 : Ty := ⟨1, 8, false, .ptr 186, [(.pointer none)]⟩
def ty16 : Ty := ⟨1, 8, false, .ptr 189, [(.pointer none)]⟩
def ty17 : Ty := ⟨1, 8, false, .ptr 198, [(.pointer none)]⟩
def ty18 : Ty := ⟨1, 8, true, .struct [(0, 17)], [(.pointer none)]⟩
def ty19 : Ty := ⟨1, 8, true, .struct [(0, 17)], [(.pointer none)]⟩
def ty21 : Ty := ⟨1, 4, false, .int .i32, [(.int .i32 0)]⟩
def ty22 : Ty := ⟨1, 24, false, .slice 87, [(.slice none 0 0)]⟩
def ty23 : Ty := ⟨2, 16, true, .struct [(0, 3), (1, 3)], [(.int .i64 0), (.int .i64 0)]⟩
def ty24 : Ty := ⟨2, 16, true, .struct [(0, 3), (1, 3)], [(.int .i64 0), (.int .i64 0)]⟩
def ty25 : Ty := ⟨1, 8, false, .int .i64, [(.int .i64 0)]⟩
def ty30 : Ty := ⟨1, 24, false, .slice 24, [(.slice none 0 0)]⟩
def ty54 : Ty := ⟨1, 24, false, .slice 56, [(.slice none 0 0)]⟩
def ty55 : Ty := ⟨2, 16, true, .struct [(0, 3), (1, 3)], [(.int .i64 0), (.int .i64 0)]⟩
def ty56 : Ty := ⟨2, 16, true, .struct [(0, 3), (1, 3)], [(.int .i64 0), (.int .i64 0)]⟩
def ty84 : Ty := ⟨1, 24, false, .slice 5, [(.slice none 0 0)]⟩
def ty86 : Ty := ⟨3, 24, true, .struct [(0, 3), (1, 24)], [(.int .i64 0), (.int .i64 0), (.int .i64 0)]⟩
def ty87 : Ty := ⟨3, 24, true, .struct [(0, 3), (1, 24)], [(.int .i64 0), (.int .i64 0), (.int .i64 0)]⟩
def ty91 : Ty := ⟨4, 4, true, .array 4 4, [(.bool false), (.bool false), (.bool false), (.bool false)]⟩
def ty92 : Ty := ⟨1, 24, false, .slice 30, [(.slice none 0 0)]⟩
def ty94 : Ty := ⟨1, 24, false, .slice 3, [(.slice none 0 0)]⟩
def ty113 : Ty := ⟨16, 128, true, .array 8 24, [(.int .i64 0), (.int .i64 0), (.int .i64 0), (.int .i64 0), (.int .i64 0), (.int .i64 0), (.int .i64 0), (.int .i64 0), (.int .i64 0), (.int .i64 0), (.int .i64 0), (.int .i64 0), (.int .i64 0), (.int .i64 0), (.int .i64 0), (.int .i64 0)]⟩
def ty114 : Ty := ⟨2, 16, true, .array 2 3, [(.int .i64 0), (.int .i64 0)]⟩
def ty116 : Ty := ⟨1, 8, false, .int .u64, [(.int .u64 0)]⟩
def ty135 : Ty := ⟨3, 24, true, .struct [(0, 3), (1, 3), (2, 3)], [(.int .i64 0), (.int .i64 0), (.int .i64 0)]⟩
def ty136 : Ty := ⟨3, 24, true, .struct [(0, 3), (1, 3), (2, 3)], [(.int .i64 0), (.int .i64 0), (.int .i64 0)]⟩
def ty140 : Ty := ⟨1, 8, false, .int .u64, [(.int .u64 0)]⟩
def ty154 : Ty := ⟨1, 24, false, .slice 54, [(.slice none 0 0)]⟩
def ty167 : Ty := ⟨1, 8, false, .int .i64, [(.int .i64 0)]⟩
def ty174 : Ty := ⟨1, 4, false, .int .u32, [(.int .u32 0)]⟩
def ty175 : Ty := ⟨1, 8, false, .int .u64, [(.int .u64 0)]⟩
def ty179 : Ty := ⟨1, 8, false, .ptr 3, [(.pointer none)]⟩
def ty181 : Ty := ⟨1, 8, false, .ptr 175, [(.pointer none)]⟩
def ty183 : Ty := ⟨1, 8, false, .ptr 200, [(.pointer none)]⟩
def ty185 : Ty := ⟨4, 40, true, .struct [(0, 17), (1, 17), (2, 17), (3, 9)], [(.pointer none), (.pointer none), (.pointer none), (.string ByteArray.empty)]⟩
def ty186 : Ty := ⟨4, 40, true, .struct [(0, 17), (1, 17), (2, 17), (3, 9)], [(.pointer none), (.pointer none), (.pointer none), (.string ByteArray.empty)]⟩
def ty187 : Ty := ⟨0, 0, true, .array 0 16, []⟩
def ty188 : Ty := ⟨0, 0, true, .struct [(0, 187)], []⟩
def ty189 : Ty := ⟨0, 0, true, .struct [(0, 187)], []⟩
def ty191 : Ty := ⟨1, 1, false, .int .u8, [(.int .u8 0)]⟩
def ty192 : Ty := ⟨1, 1, false, .int .u8, [(.int .u8 0)]⟩
def ty194 : Ty := ⟨1, 8, false, .ptr 5, [(.pointer none)]⟩
def ty195 : Ty := ⟨1, 4, false, .int .i32, [(.int .i32 0)]⟩
def ty196 : Ty := ⟨1, 4, false, .int .i32, [(.int .i32 0)]⟩
def ty197 : Ty := ⟨11, 48, true, .struct [(0, 12), (1, 12), (2, 174), (3, 191), (4, 5), (5, 5), (6, 192), (7, 193), (8, 194), (9, 195), (10, 196)], [(.int .u64 0), (.int .u64 0), (.int .u32 0), (.int .u8 0), (.int .u8 0), (.int .u8 0), (.int .u8 0), .nilFunc, (.pointer none), (.int .i32 0), (.int .i32 0)]⟩
def ty198 : Ty := ⟨11, 48, true, .struct [(0, 12), (1, 12), (2, 174), (3, 191), (4, 5), (5, 5), (6, 192), (7, 193), (8, 194), (9, 195), (10, 196)], [(.int .u64 0), (.int .u64 0), (.int .u32 0), (.int .u8 0), (.int .u8 0), (.int .u8 0), (.int .u8 0), .nilFunc, (.pointer none), (.int .i32 0), (.int .i32 0)]⟩
def ty199 : Ty := ⟨1, 16, true, .struct [(0, 9)], [(.string ByteArray.empty)]⟩
def ty200 : Ty := ⟨1, 16, true, .struct [(0, 9)], [(.string ByteArray.empty)]⟩
def tyL : List (Nat × Ty) := [(2, ty2), (3, ty3), (4, ty4), (5, ty5), (6, ty6), (7, ty7), (8, ty8), (9, ty9), (10, ty10), (11, ty11), (12, ty12), (13, ty13), (14, ty14), (15, ty15), (16, ty16), (17, ty17), (18, ty18), (19, ty19), (21, ty21), (22, ty22), (23, ty23), (24, ty24), (25, ty25), (30, ty30), (54, ty54), (55, ty55), (56, ty56), (84, ty84), (86, ty86), (87, ty87), (91, ty91), (92, ty92), (94, ty94), (113, ty113), (114, ty114), (116, ty116), (135, ty135), (136, ty136), (140, ty140), (154, ty154), (167, ty167), (174, ty174), (175, ty175), (179, ty179), (181, ty181), (183, ty183), (185, ty185), (186, ty186), (187, ty187), (188, ty188), (189, ty189), (191, ty191), (192, ty192), (194, ty194), (195, ty195), (196, ty196), (197, ty197), (198, ty198), (199, ty199), (200, ty200)]
def eqL : List (Nat × List CK) := [(7, [.int, .int, .bool, .int]), (8, [.int, .int, .bool, .int]), (23, [.int, .int]), (24, [.int, .int]), (55, [.int, .int]), (56, [.int, .int]), (86, [.int, .int, .int]), (87, [.int, .int, .int]), (135, [.int, .int, .int]), (136, [.int, .int, .int]), (199, [.str]), (200, [.str])]
def tys : Tys := lk tyL
def eqs : Eqs := lk eqL
theorem gok : GOk prog tys := gok_of (by kernel_rfl)
theorem eok : EqOk prog eqs := eqok_of (by kernel_rfl)
theorem mixed : prog.follows .mixedOrders = true := by kernel_rfl
@[simp] theorem g2 : tys 2 = some ⟨1, 8, false, .int .i64, [(.int .i64 0)]⟩ := nrfl rfl
@[simp] theorem g3 : tys 3 = some ⟨1, 8, false, .int .i64, [(.int .i64 0)]⟩ := nrfl rfl
@[simp] theorem g4 : tys 4 = some ⟨1, 1, false, .bool, [(.bool false)]⟩ := nrfl rfl
@[simp] theorem g5 : tys 5 = some ⟨1, 1, false, .int .u8, [(.int .u8 0)]⟩ := nrfl rfl
@[simp] theorem g6 : tys 6 = some ⟨1, 1, false, .int .u8, [(.int .u8 0)]⟩ := nrfl rfl
@[simp] theorem g7 : tys 7 = some ⟨4, 24, true, .struct [(0, 2), (1, 3), (2, 4), (3, 6)], [(.int .i64 0), (.int .i64 0), (.bool false), (.int .u8 0)]⟩ := nrfl rfl
@[simp] theorem g8 : tys 8 = some ⟨4, 24, true, .struct [(0, 2), (1, 3), (2, 4), (3, 6)], [(.int .i64 0), (.int .i64 0), (.bool false), (.int .u8 0)]⟩ := nrfl rfl
@[simp] theorem g9 : tys 9 = some ⟨1, 16, false, .str, [(.string ByteArray.empty)]⟩ := nrfl rfl
@[simp] theorem g10 : tys 10 = some ⟨1, 16, false, .str, [(.string ByteArray.empty)]⟩ := nrfl rfl
@[simp] theorem g11 : tys 11 = some ⟨1, 16, false, .str, [(.string ByteArray.empty)]⟩ := nrfl rfl
@[simp] theorem g12 : tys 12 = some ⟨1, 8, false, .int .u64, [(.int .u64 0)]⟩ := nrfl rfl
@[simp] theorem g13 : tys 13 = some ⟨2, 24, true, .struct [(0, 9), (1, 12)], [(.string ByteArray.empty), (.int .u64 0)]⟩ := nrfl rfl
@[simp] theorem g14 : tys 14 = some ⟨2, 24, true, .struct [(0, 9), (1, 12)], [(.string ByteArray.empty), (.int .u64 0)]⟩ := nrfl rfl
@[simp] theorem g15 : tys 15 = some ⟨1, 8, false, .ptr 186, [(.pointer none)]⟩ := nrfl rfl
@[simp] theorem g16 : tys 16 = some ⟨1, 8, false, .ptr 189, [(.pointer none)]⟩ := nrfl rfl
@[simp] theorem g17 : tys 17 = some ⟨1, 8, false, .ptr 198, [(.pointer none)]⟩ := nrfl rfl
@[simp] theorem g18 : tys 18 = some ⟨1, 8, true, .struct [(0, 17)], [(.pointer none)]⟩ := nrfl rfl
@[simp] theorem g19 : tys 19 = some ⟨1, 8, true, .struct [(0, 17)], [(.pointer none)]⟩ := nrfl rfl
@[simp] theorem g21 : tys 21 = some ⟨1, 4, false, .int .i32, [(.int .i32 0)]⟩ := nrfl rfl
@[simp] theorem g22 : tys 22 = some ⟨1, 24, false, .slice 87, [(.slice none 0 0)]⟩ := nrfl rfl
@[simp] theorem g23 : tys 23 = some ⟨2, 16, true, .struct [(0, 3), (1, 3)], [(.int .i64 0), (.int .i64 0)]⟩ := nrfl rfl
@[simp] theorem g24 : tys 24 = some ⟨2, 16, true, .struct [(0, 3), (1, 3)], [(.int .i64 0), (.int .i64 0)]⟩ := nrfl rfl
@[simp] theorem g25 : tys 25 = some ⟨1, 8, false, .int .i64, [(.int .i64 0)]⟩ := nrfl rfl
@[simp] theorem g30 : tys 30 = some ⟨1, 24, false, .slice 24, [(.slice none 0 0)]⟩ := nrfl rfl
@[simp] theorem g54 : tys 54 = some ⟨1, 24, false, .slice 56, [(.slice none 0 0)]⟩ := nrfl rfl
@[simp] theorem g55 : tys 55 = some ⟨2, 16, true, .struct [(0, 3), (1, 3)], [(.int .i64 0), (.int .i64 0)]⟩ := nrfl rfl
@[simp] theorem g56 : tys 56 = some ⟨2, 16, true, .struct [(0, 3), (1, 3)], [(.int .i64 0), (.int .i64 0)]⟩ := nrfl rfl
@[simp] theorem g84 : tys 84 = some ⟨1, 24, false, .slice 5, [(.slice none 0 0)]⟩ := nrfl rfl
@[simp] theorem g86 : tys 86 = some ⟨3, 24, true, .struct [(0, 3), (1, 24)], [(.int .i64 0), (.int .i64 0), (.int .i64 0)]⟩ := nrfl rfl
@[simp] theorem g87 : tys 87 = some ⟨3, 24, true, .struct [(0, 3), (1, 24)], [(.int .i64 0), (.int .i64 0), (.int .i64 0)]⟩ := nrfl rfl
@[simp] theorem g91 : tys 91 = some ⟨4, 4, true, .array 4 4, [(.bool false), (.bool false), (.bool false), (.bool false)]⟩ := nrfl rfl
@[simp] theorem g92 : tys 92 = some ⟨1, 24, false, .slice 30, [(.slice none 0 0)]⟩ := nrfl rfl
@[simp] theorem g94 : tys 94 = some ⟨1, 24, false, .slice 3, [(.slice none 0 0)]⟩ := nrfl rfl
@[simp] theorem g113 : tys 113 = some ⟨16, 128, true, .array 8 24, [(.int .i64 0), (.int .i64 0), (.int .i64 0), (.int .i64 0), (.int .i64 0), (.int .i64 0), (.int .i64 0), (.int .i64 0), (.int .i64 0), (.int .i64 0), (.int .i64 0), (.int .i64 0), (.int .i64 0), (.int .i64 0), (.int .i64 0), (.int .i64 0)]⟩ := nrfl rfl
@[simp] theorem g114 : tys 114 = some ⟨2, 16, true, .array 2 3, [(.int .i64 0), (.int .i64 0)]⟩ := nrfl rfl
@[simp] theorem g116 : tys 116 = some ⟨1, 8, false, .int .u64, [(.int .u64 0)]⟩ := nrfl rfl
@[simp] theorem g135 : tys 135 = some ⟨3, 24, true, .struct [(0, 3), (1, 3), (2, 3)], [(.int .i64 0), (.int .i64 0), (.int .i64 0)]⟩ := nrfl rfl
@[simp] theorem g136 : tys 136 = some ⟨3, 24, true, .struct [(0, 3), (1, 3), (2, 3)], [(.int .i64 0), (.int .i64 0), (.int .i64 0)]⟩ := nrfl rfl
@[simp] theorem g140 : tys 140 = some ⟨1, 8, false, .int .u64, [(.int .u64 0)]⟩ := nrfl rfl
@[simp] theorem g154 : tys 154 = some ⟨1, 24, false, .slice 54, [(.slice none 0 0)]⟩ := nrfl rfl
@[simp] theorem g167 : tys 167 = some ⟨1, 8, false, .int .i64, [(.int .i64 0)]⟩ := nrfl rfl
@[simp] theorem g174 : tys 174 = some ⟨1, 4, false, .int .u32, [(.int .u32 0)]⟩ := nrfl rfl
@[simp] theorem g175 : tys 175 = some ⟨1, 8, false, .int .u64, [(.int .u64 0)]⟩ := nrfl rfl
@[simp] theorem g179 : tys 179 = some ⟨1, 8, false, .ptr 3, [(.pointer none)]⟩ := nrfl rfl
@[simp] theorem g181 : tys 181 = some ⟨1, 8, false, .ptr 175, [(.pointer none)]⟩ := nrfl rfl
@[simp] theorem g183 : tys 183 = some ⟨1, 8, false, .ptr 200, [(.pointer none)]⟩ := nrfl rfl
@[simp] theorem g185 : tys 185 = some ⟨4, 40, true, .struct [(0, 17), (1, 17), (2, 17), (3, 9)], [(.pointer none), (.pointer none), (.pointer none), (.string ByteArray.empty)]⟩ := nrfl rfl
@[simp] theorem g186 : tys 186 = some ⟨4, 40, true, .struct [(0, 17), (1, 17), (2, 17), (3, 9)], [(.pointer none), (.pointer none), (.pointer none), (.string ByteArray.empty)]⟩ := nrfl rfl
@[simp] theorem g187 : tys 187 = some ⟨0, 0, true, .array 0 16, []⟩ := nrfl rfl
@[simp] theorem g188 : tys 188 = some ⟨0, 0, true, .struct [(0, 187)], []⟩ := nrfl rfl
@[simp] theorem g189 : tys 189 = some ⟨0, 0, true, .struct [(0, 187)], []⟩ := nrfl rfl
@[simp] theorem g191 : tys 191 = some ⟨1, 1, false, .int .u8, [(.int .u8 0)]⟩ := nrfl rfl
@[simp] theorem g192 : tys 192 = some ⟨1, 1, false, .int .u8, [(.int .u8 0)]⟩ := nrfl rfl
@[simp] theorem g194 : tys 194 = some ⟨1, 8, false, .ptr 5, [(.pointer none)]⟩ := nrfl rfl
@[simp] theorem g195 : tys 195 = some ⟨1, 4, false, .int .i32, [(.int .i32 0)]⟩ := nrfl rfl
@[simp] theorem g196 : tys 196 = some ⟨1, 4, false, .int .i32, [(.int .i32 0)]⟩ := nrfl rfl
@[simp] theorem g197 : tys 197 = some ⟨11, 48, true, .struct [(0, 12), (1, 12), (2, 174), (3, 191), (4, 5), (5, 5), (6, 192), (7, 193), (8, 194), (9, 195), (10, 196)], [(.int .u64 0), (.int .u64 0), (.int .u32 0), (.int .u8 0), (.int .u8 0), (.int .u8 0), (.int .u8 0), .nilFunc, (.pointer none), (.int .i32 0), (.int .i32 0)]⟩ := nrfl rfl
@[simp] theorem g198 : tys 198 = some ⟨11, 48, true, .struct [(0, 12), (1, 12), (2, 174), (3, 191), (4, 5), (5, 5), (6, 192), (7, 193), (8, 194), (9, 195), (10, 196)], [(.int .u64 0), (.int .u64 0), (.int .u32 0), (.int .u8 0), (.int .u8 0), (.int .u8 0), (.int .u8 0), .nilFunc, (.pointer none), (.int .i32 0), (.int .i32 0)]⟩ := nrfl rfl
@[simp] theorem g199 : tys 199 = some ⟨1, 16, true, .struct [(0, 9)], [(.string ByteArray.empty)]⟩ := nrfl rfl
@[simp] theorem g200 : tys 200 = some ⟨1, 16, true, .struct [(0, 9)], [(.string ByteArray.empty)]⟩ := nrfl rfl
@[simp] theorem e7 : eqs 7 = some [.int, .int, .bool, .int] := nrfl rfl
@[simp] theorem e8 : eqs 8 = some [.int, .int, .bool, .int] := nrfl rfl
@[simp] theorem e23 : eqs 23 = some [.int, .int] := nrfl rfl
@[simp] theorem e24 : eqs 24 = some [.int, .int] := nrfl rfl
@[simp] theorem e55 : eqs 55 = some [.int, .int] := nrfl rfl
@[simp] theorem e56 : eqs 56 = some [.int, .int] := nrfl rfl
@[simp] theorem e86 : eqs 86 = some [.int, .int, .int] := nrfl rfl
@[simp] theorem e87 : eqs 87 = some [.int, .int, .int] := nrfl rfl
@[simp] theorem e135 : eqs 135 = some [.int, .int, .int] := nrfl rfl
@[simp] theorem e136 : eqs 136 = some [.int, .int, .int] := nrfl rfl
@[simp] theorem e199 : eqs 199 = some [.str] := nrfl rfl
@[simp] theorem e200 : eqs 200 = some [.str] := nrfl rfl
end Go.Proofs.Try
namespace Go.Proofs.Try
open Go.Psl
abbrev vi (n : Int) : V := .d (.lit (.int .i64 n))
abbrev vb (b : Bool) : V := .d (.lit (.bool b))
abbrev di (n : Int) : D := .lit (.int .i64 n)
abbrev vsp (a b : Int) : V := .agg [vi a, vi b]
abbrev spansD (l : List (Int × Int)) : D := .sl 2 (l.map fun s => [di s.1, di s.2])
def okS (s : Int × Int) : Bool := decide (s.1 ≤ s.2) && decide (-1099511627776 ≤ s.1) && decide (s.2 ≤ 1099511627776)
def fineS (l : List (Int × Int)) : Bool := l.all okS
theorem fineS_take {l : List (Int × Int)} {i : Nat} {s : Int × Int} (hs : l[i]? = some s) : fineS (l.take (i + 1)) = (fineS (l.take i) && okS s) := by
  simp [fineS, List.take_add_one, hs]
theorem fineS_false {l : List (Int × Int)} {i : Nat} {s : Int × Int} (hs : l[i]? = some s) (h : okS s = false) : fineS l = false := by
  unfold fineS
  rw [List.all_eq_false]
  exact ⟨s, List.mem_of_getElem? hs, by simp [h]⟩
theorem fn85 (l : List (Int × Int)) (hl : l.length ≤ 1000000) : Ct prog 85 [.d (spansD l)] (vb (fineS l)) [] := by
  refine Ct.by gok eok mixed func85 c85 rfl ?_ ?_ ?_ fun E hE => ?_
  · simp [ntmps85]
  · simp
  · simp [ResIds]
  simp [p85]
  refine pw_loop (α := Nat) (fun i => ⟨slots [(5, .d (spansD l)), (6, vi l.length), (7, vi i)], lk [], 0⟩) (fun i => i ≤ l.length ∧ fineS (l.take i) = true) (fun i => l.length - i) 0 ?_ ?_ ?_
  · simp [fineS]
  · refine Weak.mk hE (fun _ => none) _ _ _ ?_ ?_ ?_ ?_ ?_ <;> simp
  · intro i ⟨hi, hf⟩
    simp [p85l0]
    refine cR_split (fun h => ?_) (fun h => ?_)
    · simp at h
      obtain ⟨s, hs⟩ : ∃ s, l[i]? = some s := ⟨l[i], by simp [h]⟩
      have hz : IntKind.wrap .i64 ((i : Int) + 1) = (i : Int) + 1 := wrap64 (by omega) (by omega)
      have hbad : okS s = false → RetOk tys f85 (vb (fineS l)) [] ⟨slots [(2, vb false)], lk [], 0⟩ := fun hh => by
        refine ⟨[vb false], fun _ => none, ?_⟩
        simp [results85, fineS_false hs hh]
      by_cases h1 : s.2 < s.1
      · have hh : okS s = false := by simp [okS]; omega
        simp [spansD, hs, splice, h1]
        refine ⟨[vb false], fun _ => none, ?_⟩
        simp [results85, fineS_false hs hh]
      · by_cases h2 : s.1 < -1099511627776
        · have hh : okS s = false := by simp [okS]; omega
          simp [spansD, hs, splice, h1, h2]
          refine ⟨[vb false], fun _ => none, ?_⟩
          simp [results85, fineS_false hs hh]
        · by_cases h3 : 1099511627776 < s.2
          · have hh : okS s = false := by simp [okS]; omega
            simp [spansD, hs, splice, h1, h2, h3]
            refine ⟨[vb false], fun _ => none, ?_⟩
            simp [results85, fineS_false hs hh]
          · have hh : okS s = true := by simp [okS]; omega
            simp [spansD, hs, splice, h1, h2, h3, hz]
            refine ⟨i + 1, ⟨by omega, ?_⟩, by omega, ?_⟩
            · rw [fineS_take hs, hf, hh]; rfl
            · refine Weak.mk hE (fun _ => none) _ _ _ ?_ ?_ ?_ ?_ ?_ <;> simp
    · simp at h
      have hil : i = l.length := by omega
      subst hil
      rw [List.take_length] at hf
      simp
      refine ⟨[vb true], fun _ => none, ?_⟩
      simp [results85, hf]
end Go.Proofs.Try
namespace Go.Proofs.Try
open Go.Psl
theorem fn46 (s : Int × Int) : Ct prog 46 [vsp s.1 s.2] (vi (if okS s then 0 else 10)) [] := by
  refine Ct.by gok eok mixed func46 c46 rfl ?_ ?_ ?_ fun E hE => ?_
  · simp [ntmps46]
  · simp
  · simp [ResIds]
  simp [p46, repl, splice]
  refine ACall.mk _ _ _ (fn85 [s] (by simp)) ?_ ?_ ?_ ?_
  · simp [Bor_ls]
  · simp
  · right; simp
  by_cases h : okS s = true
  · simp [fineS, h]
    refine ⟨[vi 0], fun _ => none, ?_⟩
    simp [results46]
  · simp [fineS, h]
    refine ⟨[vi 10], fun _ => none, ?_⟩
    simp [results46]
end Go.Proofs.Try
namespace Go.Proofs.Try
open Go.Psl
abbrev vse (s : (Int × Int) × Int) : V := .tup [vsp s.1.1 s.1.2, vi s.2]
def sizedS (s : Int × Int) : (Int × Int) × Int := if s.1 < -1099511627776 ∨ 1099511627776 < s.2 then ((0, 0), 11) else (s, 0)
theorem fn87 (s : Int × Int) : Ct prog 87 [vsp s.1 s.2] (vse (sizedS s)) [] := by
  refine Ct.by gok eok mixed func87 c87 rfl ?_ ?_ ?_ fun E hE => ?_
  · simp [ntmps87]
  · simp
  · simp [ResIds]
  by_cases h1 : s.1 < -1099511627776
  · simp [p87, h1, splice]
    refine RetOk.by (fun _ => none) ?_
    simp [results87, sizedS, h1]
  · by_cases h2 : 1099511627776 < s.2
    · simp [p87, h1, h2, splice]
      refine RetOk.by (fun _ => none) ?_
      simp [results87, sizedS, h1, h2]
    · simp [p87, h1, h2, splice]
      refine RetOk.by (fun _ => none) ?_
      simp [results87, sizedS, h1, h2]
theorem okS_iff {s : Int × Int} : okS s = true ↔ s.1 ≤ s.2 ∧ -1099511627776 ≤ s.1 ∧ s.2 ≤ 1099511627776 := by simp [okS, and_assoc]
def meetS (a b : Int × Int) : (Int × Int) × Int := if okS a && okS b then (if max a.1 b.1 ≤ min a.2 b.2 then ((max a.1 b.1, min a.2 b.2), 0) else ((0, 0), 6)) else ((0, 0), 10)
theorem fn40 (a b : Int × Int) : Ct prog 40 [vsp a.1 a.2, vsp b.1 b.2] (vse (meetS a b)) [] := by
  refine Ct.by gok eok mixed func40 c40 rfl ?_ ?_ ?_ fun E hE => ?_
  · simp [ntmps40]
  · simp
  · simp [ResIds]
  simp [p40, repl, splice]
  refine ACall.mk _ _ _ (fn85 [a, b] (by simp)) ?_ ?_ ?_ ?_
  · simp [Bor_ls]
  · simp
  · right; simp
  by_cases h : (okS a && okS b) = true
  · have hf : fineS [a, b] = true := by simpa [fineS] using h
    by_cases h2 : max a.1 b.1 ≤ min a.2 b.2
    · have h3 : decide (max a.1 b.1 ≤ min a.2 b.2) = true := by simpa using h2
      simp [hf, splice, h2]
      refine RetOk.by (fun _ => none) ?_
      simp only [meetS, h, h2, if_true]
      simp [results40]
    · have h3 : decide (max a.1 b.1 ≤ min a.2 b.2) = false := by simpa using h2
      simp [hf, splice, h2]
      refine RetOk.by (fun _ => none) ?_
      simp only [meetS, h, h2, if_true, if_false]
      simp [results40]
  · have hf : fineS [a, b] = false := by simpa [fineS] using h
    simp [hf, splice]
    refine RetOk.by (fun _ => none) ?_
    simp [results40, meetS, h]
end Go.Proofs.Try
namespace Go.Proofs.Try
open Go.Psl
theorem fn122 (x : Int) (hx : -4611686018427387904 ≤ x ∧ x ≤ 4611686018427387904) : Ct prog 122 [vi x] (.d (.lit (.int .u64 (max x (-x))))) [] := by
  refine Ct.by gok eok mixed func122 c122 rfl ?_ ?_ ?_ fun E hE => ?_
  · simp [ntmps122]
  · simp
  · simp [ResIds]
  have e1 : IntKind.wrap .i64 (-x) = -x := wrap64 (by omega) (by omega)
  have e2 : IntKind.wrap .u64 (max x (-x)) = max x (-x) := wrapu64 (by omega) (by omega)
  simp [p122, e1, e2]
  refine RetOk.by (fun _ => none) ?_
  simp [results122]
def joinS (a b : Int × Int) : (Int × Int) × Int := if okS a && okS b then ((min a.1 b.1, max a.2 b.2), 0) else ((0, 0), 10)
end Go.Proofs.Try
namespace Go.Proofs.Try
open Go.Psl
def joinI (o s : Int × Int) : Int × Int := (min o.1 s.1, max o.2 s.2)
def aroundS (s : Int × Int) (l : List (Int × Int)) : Int × Int := l.foldl joinI s
theorem aroundS_take {s0 : Int × Int} {l : List (Int × Int)} {i : Nat} {s : Int × Int} (hs : l[i]? = some s) : aroundS s0 (l.take (i + 1)) = joinI (aroundS s0 (l.take i)) s := by
  simp [aroundS, List.take_add_one, hs]
theorem fn74 (s0 : Int × Int) (l : List (Int × Int)) (hl : l.length ≤ 1000000) : Ct prog 74 [.d (spansD (s0 :: l))] (vsp (aroundS s0 l).1 (aroundS s0 l).2) [] := by
  refine Ct.by gok eok mixed func74 c74 rfl ?_ ?_ ?_ fun E hE => ?_
  · simp [ntmps74]
  · simp
  · simp [ResIds]
  have h0 : (1 : Int) ≤ (l.length : Int) + 1 := by omega
  simp [p74, splice, h0]
  refine pw_loop (α := Nat) (fun i => ⟨slots [(2, .lp 0 0), (3, .lp 1 0), (10, .d (spansD l)), (11, vi l.length), (12, vi i)], lk [(0, [vi 0, vi 0]), (1, [vi (aroundS s0 (l.take i)).1, vi (aroundS s0 (l.take i)).2])], 16⟩) (fun i => i ≤ l.length) (fun i => l.length - i) 0 ?_ ?_ ?_
  · simp
  · refine Weak.mk hE (fun i => if i = 0 then some 0 else some 4194304) _ _ _ ?_ ?_ ?_ ?_ ?_ <;> simp [aroundS]
    exact List.take_of_length_le (by simp)
  · intro i hi
    simp [p74l0]
    refine cR_split (fun h => ?_) (fun h => ?_)
    · simp at h
      obtain ⟨s, hs⟩ : ∃ s, l[i]? = some s := ⟨l[i], by simp [h]⟩
      have hz : IntKind.wrap .i64 ((i : Int) + 1) = (i : Int) + 1 := wrap64 (by omega) (by omega)
      simp [spansD, hs, splice]
      refine pw_drawW [(11, 1)] (by kernel_rfl) ?_
      simp [splice, hz, inC, Nat.testBit]
      refine ⟨i + 1, by omega, by omega, ?_⟩
      refine Weak.mk hE (fun i => some i) _ _ _ ?_ ?_ ?_ ?_ ?_ <;> simp [aroundS_take hs, joinI]
    · simp at h
      have hil : i = l.length := by omega
      subst hil
      simp [splice]
      refine RetOk.by (fun _ => none) ?_
      simp [results74]
end Go.Proofs.Try
namespace Go.Proofs.Try
open Go.Psl
theorem fn42 (a b : Int × Int) : Ct prog 42 [vsp a.1 a.2, vsp b.1 b.2] (vse (joinS a b)) [] := by
  refine Ct.by gok eok mixed func42 c42 rfl ?_ ?_ ?_ fun E hE => ?_
  · simp [ntmps42]
  · simp
  · simp [ResIds]
  simp [p42, repl, splice]
  refine ACall.mk _ _ _ (fn85 [a, b] (by simp)) ?_ ?_ ?_ ?_
  · simp [Bor_ls]
  · simp
  · right; simp
  by_cases h : (okS a && okS b) = true
  · have hf : fineS [a, b] = true := by simpa [fineS] using h
    simp [hf, splice, repl]
    refine ACall.mk _ _ _ (fn74 a [b] (by simp)) ?_ ?_ ?_ ?_
    · simp [Bor_ls]
    · simp
    · right; simp
    simp [splice]
    refine RetOk.by (fun _ => none) ?_
    simp [results42, joinS, h, aroundS, joinI]
  · have hf : fineS [a, b] = false := by simpa [fineS] using h
    simp [hf, splice]
    refine RetOk.by (fun _ => none) ?_
    simp [results42, joinS, h]
end Go.Proofs.Try
namespace Go.Proofs.Ytaedloehfgmcnaa
open Go.Joins Go.ChangeShapes Go.WideShapes Go.ChangeAt Go.RowKit Go.Psl
theorem Try.own : ownKnob Try.prog.godebug = none := by kernel_rfl
theorem Try.laidOut : laidOutB Try.prog = true := by kernel_rfl
end Go.Proofs.Ytaedloehfgmcnaa
namespace Go.Psl
open Go.ChangeShapes Go.WideShapes
section
variable {P : Program} {W : World}
abbrev InW (W : World) (b : Nat) : Prop := b < W.heap.size
end
end Go.Psl
namespace Go.Proofs.Try
open Go.Psl
abbrev knotsD (l : List (Int × Int × Int)) : D := .sl 3 (l.map fun k => [di k.1, di k.2.1, di k.2.2])
def okK (k : Int × Int × Int) : Bool := decide (-1073741824 ≤ k.1) && decide (k.1 ≤ 1073741824) && decide (-1073741824 ≤ k.2.1) && decide (k.2.1 ≤ k.2.2) && decide (k.2.2 ≤ 1073741824)
def goodK (l : List (Int × Int × Int)) (i : Nat) : Bool := match l[i]? with
  | some k => okK k && (decide (i = 0) || match l[i - 1]? with | some p => decide (p.1 < k.1) | none => true)
  | none => true
def goodTo (l : List (Int × Int × Int)) (i : Nat) : Bool := (List.range i).all (goodK l)
def tabS (l : List (Int × Int × Int)) : Bool := decide (2 ≤ l.length) && decide (l.length ≤ 32) && goodTo l l.length
theorem goodTo_succ (l : List (Int × Int × Int)) (i : Nat) : goodTo l (i + 1) = (goodTo l i && goodK l i) := by simp [goodTo, List.range_succ]
theorem goodTo_bad {l : List (Int × Int × Int)} {i : Nat} (h : i < l.length) (hb : goodK l i = false) : goodTo l l.length = false := by
  unfold goodTo
  rw [List.all_eq_false]
  exact ⟨i, List.mem_range.2 h, by simp [hb]⟩
theorem okK_iff {k : Int × Int × Int} : okK k = true ↔ -1073741824 ≤ k.1 ∧ k.1 ≤ 1073741824 ∧ -1073741824 ≤ k.2.1 ∧ k.2.1 ≤ k.2.2 ∧ k.2.2 ≤ 1073741824 := by
  unfold okK; simp only [Bool.and_eq_true, decide_eq_true_eq]; omega
theorem goodK_zero {l : List (Int × Int × Int)} {k : Int × Int × Int} (h : l[0]? = some k) : goodK l 0 = okK k := by simp [goodK, h]
theorem goodK_succ {l : List (Int × Int × Int)} {i : Nat} {k p : Int × Int × Int} (h : l[i + 1]? = some k) (hp : l[i]? = some p) : goodK l (i + 1) = (okK k && decide (p.1 < k.1)) := by simp [goodK, h, hp]
theorem okK_no {k : Int × Int × Int} (h : min k.1 k.2.1 < -1073741824 ∨ 1073741824 < max k.1 k.2.2 ∨ k.2.2 < k.2.1) : okK k = false := by
  have : ¬ okK k = true := by rw [okK_iff]; omega
  simpa using this
theorem fn26 (l : List (Int × Int × Int)) (hl : l.length ≤ 1000000) : Ct prog 26 [.d (knotsD l)] (vi (if tabS l then 0 else 13)) [] := by
  refine Ct.by gok eok mixed func26 c26 rfl (by simp [ntmps26]) (by simp) (by simp [ResIds]) fun E hE => ?_
  by_cases h2 : l.length < 2
  · have h2' : (l.length : Int) < 2 := by omega
    simp [p26, h2']
    refine RetOk.by (fun _ => none) ?_
    simp [results26, tabS]; omega
  by_cases h3 : 32 < l.length
  · have h2' : ¬ (l.length : Int) < 2 := by omega
    have h3' : (32 : Int) < l.length := by omega
    simp [p26, h2', h3']
    refine RetOk.by (fun _ => none) ?_
    simp [results26, tabS]; omega
  have h2' : ¬ (l.length : Int) < 2 := by omega
  have h3' : ¬ (32 : Int) < l.length := by omega
  simp [p26, h2', h3']
  refine pw_loop (α := Nat) (fun i => ⟨slots [(0, .d (knotsD l)), (13, .d (knotsD l)), (14, vi l.length), (15, vi i)], lk [], 0⟩) (fun i => i ≤ l.length ∧ goodTo l i = true) (fun i => l.length - i) 0 ?_ ?_ ?_
  · simp [goodTo]
  · refine Weak.mk hE (lk []) _ _ _ ?_ ?_ ?_ ?_ ?_ <;> simp
  · rintro i ⟨hi, hg⟩
    simp [p26l0]
    refine cR_split (fun h => ?_) (fun h => ?_)
    · simp at h
      have hil : i < l.length := by omega
      obtain ⟨k, hk⟩ : ∃ k, l[i]? = some k := ⟨l[i], by simp [hil]⟩
      by_cases h0 : i = 0
      · subst h0
        have e : goodK l 0 = okK k := goodK_zero hk
        have hz : IntKind.wrap .i64 1 = 1 := by decide
        by_cases c1 : min k.1 k.2.1 < -1073741824
        · have hb : goodK l 0 = false := by simp [e, okK_no (Or.inl c1)]
          simp [hk, splice, c1]
          refine RetOk.by (fun _ => none) ?_
          simp [results26, tabS, goodTo_bad hil hb]
        by_cases c2 : 1073741824 < max k.1 k.2.2
        · have hb : goodK l 0 = false := by simp [e, okK_no (Or.inr (Or.inl c2))]
          simp [hk, splice, c1, c2]
          refine RetOk.by (fun _ => none) ?_
          simp [results26, tabS, goodTo_bad hil hb]
        by_cases c3 : k.2.2 < k.2.1
        · have hb : goodK l 0 = false := by simp [e, okK_no (Or.inr (Or.inr c3))]
          simp [hk, splice, c1, c2, c3]
          refine RetOk.by (fun _ => none) ?_
          simp [results26, tabS, goodTo_bad hil hb]
        have hk1 : okK k = true := by rw [okK_iff]; omega
        simp [hk, splice, c1, c2, c3, hz]
        refine ⟨1, ⟨by omega, by rw [goodTo_succ, hg, e, hk1]; rfl⟩, by omega, ?_⟩
        refine Weak.mk hE (lk []) _ _ _ ?_ ?_ ?_ ?_ ?_ <;> simp
      · obtain ⟨j, hj⟩ : ∃ j, i = j + 1 := ⟨i - 1, by omega⟩
        obtain ⟨p, hp⟩ : ∃ p, l[j]? = some p := ⟨l[j], by simp [show j < l.length by omega]⟩
        have e : goodK l i = (okK k && decide (p.1 < k.1)) := by subst hj; exact goodK_succ hk hp
        have hz : IntKind.wrap .i64 ((i : Int) + 1) = (i : Int) + 1 := wrap64 (by omega) (by omega)
        have hz2 : IntKind.wrap .i64 ((i : Int) - 1) = (j : Int) := by rw [wrap64 (by omega) (by omega)]; omega
        have hpos : 0 < i := by omega
        by_cases c1 : min k.1 k.2.1 < -1073741824
        · have hb : goodK l i = false := by simp [e, okK_no (Or.inl c1)]
          simp [hk, splice, c1]
          refine RetOk.by (fun _ => none) ?_
          simp [results26, tabS, goodTo_bad hil hb]
        by_cases c2 : 1073741824 < max k.1 k.2.2
        · have hb : goodK l i = false := by simp [e, okK_no (Or.inr (Or.inl c2))]
          simp [hk, splice, c1, c2]
          refine RetOk.by (fun _ => none) ?_
          simp [results26, tabS, goodTo_bad hil hb]
        by_cases c3 : k.2.2 < k.2.1
        · have hb : goodK l i = false := by simp [e, okK_no (Or.inr (Or.inr c3))]
          simp [hk, splice, c1, c2, c3]
          refine RetOk.by (fun _ => none) ?_
          simp [results26, tabS, goodTo_bad hil hb]
        have hk1 : okK k = true := by rw [okK_iff]; omega
        by_cases c4 : k.1 ≤ p.1
        · have hb : goodK l i = false := by rw [e, decide_eq_false (by omega)]; simp
          simp [hk, hp, splice, c1, c2, c3, c4, hz2, hpos]
          refine RetOk.by (fun _ => none) ?_
          simp [results26, tabS, goodTo_bad hil hb]
        simp [hk, hp, splice, c1, c2, c3, c4, hz, hz2, hpos]
        refine ⟨i + 1, ⟨by omega, by rw [goodTo_succ, hg, e, hk1, decide_eq_true (by omega)]; rfl⟩, by omega, ?_⟩
        refine Weak.mk hE (lk []) _ _ _ ?_ ?_ ?_ ?_ ?_ <;> simp
    · simp at h
      have hil : i = l.length := by omega
      subst hil
      simp
      refine RetOk.by (fun _ => none) ?_
      simp [results26, tabS, hg]; omega
end Go.Proofs.Try
namespace Go.Proofs.Ytaedloehfgmcnaa
open Go.Joins Go.ChangeShapes Go.WideShapes Go.ChangeAt Go.RowKit Go.Psl
theorem all_map {α β : Type} {f : α → β} : ∀ {es : List β}, (∀ x ∈ es, ∃ k, x = f k) → ∃ t : List α, es = t.map f
  | [], _ => ⟨[], rfl⟩
  | e :: es, h => by
    obtain ⟨k, hk⟩ := h e (by simp)
    obtain ⟨t, ht⟩ := all_map (f := f) (es := es) fun x hx => h x (by simp [hx])
    exact ⟨k :: t, by rw [ht, hk]; rfl⟩
end Go.Proofs.Ytaedloehfgmcnaa
namespace Go.Psl
variable {Γ : Tys} {eqs : Eqs} {H : Hp} {t : TypeId} {b : Nat}
theorem appF_nil {p : Option Addr} {n c : Nat} {x : V} : appF Γ H b t (.d (.lit (.slice p n c))) x = (Γ t).bind fun y => match y.sh with
  | .slice e => (Γ e).bind fun ye => if ye.size = 0 ∨ sameId (.d (.lit (.slice p n c))) x = true then none else (cellsOf H ye.size x).bind fun nx => if nx.2.all V.isCell then (if nx.1 * ye.bytes ≤ maxA ∧ nx.1 ≤ maxL then some (.ls b 0 nx.1 ye.size, .new b nx.2) else none) else none
  | _ => none := nrfl rfl
theorem sameId_nil {D' : D} {x : V} : sameId (.d D') x = false := nrfl rfl
theorem appF_ls {id len sz : Nat} {x : V} : appF Γ H b t (.ls id 0 len sz) x = (Γ t).bind fun y => match y.sh with
  | .slice e => (Γ e).bind fun ye => if ye.size = 0 ∨ sameId (.ls id 0 len sz) x = true then none else (cellsOf H ye.size x).bind fun nx => if nx.2.all V.isCell then
      (if sz = ye.size then (H id).bind fun cs => if len * sz ≤ cs.length ∧ (len + nx.1) * ye.bytes ≤ maxA ∧ len + nx.1 ≤ maxL then some (.ls b 0 (len + nx.1) sz, .mov id b (cs.take (len * sz) ++ nx.2)) else none else none) else none
  | _ => none := nrfl rfl
theorem sameId_ls {i o l z i' o' l' z' : Nat} : sameId (.ls i o l z) (.ls i' o' l' z') = (i == i') := nrfl rfl
theorem sameId_d {i o l z : Nat} {x : D} : sameId (.ls i o l z) (.d x) = false := nrfl rfl
theorem cellsOf_nil {sz : Nat} {p : Option Addr} {n c : Nat} : cellsOf H sz (.d (.lit (.slice p n c))) = some (0, []) := nrfl rfl
theorem cellsOf_sl {sz sz' : Nat} {es : List (List D)} : cellsOf H sz (.d (.sl sz' es)) = if sz = sz' then some (es.length, es.flatten.map .d) else none := nrfl rfl
theorem cellsOf_ls {sz sz' id off len : Nat} : cellsOf H sz (.ls id off len sz') = if sz = sz' then (H id).bind fun cs => if off + len * sz ≤ cs.length then some (len, (cs.drop off).take (len * sz)) else none else none := nrfl rfl
theorem pack_nil : pack [] = .tup [] := nrfl rfl
theorem WV_tupnil {ρ : Nat → Option Nat} : WV ρ (.tup []) (.tup []) := by simp
attribute [simp] pack_nil WV_tupnil appF_nil appF_ls sameId_ls sameId_d sameId_nil cellsOf_nil cellsOf_sl cellsOf_ls
theorem wc_data {ρ : Nat → Option Nat} (x : D) : WC ρ (.d x) (.d x) := by simp
theorem all2_data {ρ : Nat → Option Nat} {xs ys : List V} : ∀ ds : List D, All2 (WC ρ) (ds.map .d ++ xs) (ds.map .d ++ ys) = All2 (WC ρ) xs ys
  | [] => rfl
  | d :: ds => by
    show (WC ρ (.d d) (.d d) ∧ All2 (WC ρ) (ds.map .d ++ xs) (ds.map .d ++ ys)) = _
    rw [all2_data ds]
    exact propext ⟨fun h => h.2, fun h => ⟨wc_data d, h⟩⟩
theorem all2_data0 {ρ : Nat → Option Nat} (ds : List D) : All2 (WC ρ) (ds.map .d) (ds.map .d) = True := by
  have := all2_data (ρ := ρ) (xs := []) (ys := []) ds
  rw [List.append_nil] at this
  rw [this]
  exact propext ⟨fun _ => trivial, fun _ => trivial⟩
theorem cellsOk_data {xs : List V} {ds : List D} (h : xs.all V.isCell = true) : cellsOk (ds.map .d ++ xs) := Or.inl (by
  rw [List.all_append, h, Bool.and_true, List.all_map, List.all_eq_true]
  intro x _
  rfl)
theorem cellsOk_data0 {ds : List D} : cellsOk (ds.map .d) := Or.inl (by
  rw [List.all_map, List.all_eq_true]
  intro x _
  rfl)
theorem ac_data {q : Nat → Prop} {ds : List D} : ∀ c ∈ ds.map V.d, AC q anyD c := fun c h => by
  simp only [List.mem_map] at h
  obtain ⟨d, _, rfl⟩ := h
  simp
theorem map_renC_d {ρ : Nat → Nat} {ds : List D} : ds.map (renC ρ ∘ V.d) = ds.map V.d := by
  apply List.map_congr_left
  intro x _
  rfl
theorem ACall.mkN {P : Program} {g : FuncId} {az : List V} {Kc Kx : V → Hp → Prop} (args : List V) (L : List (Nat × List V)) (ks : List Nat) (res : Res) (L1 : List (Nat × List V)) (hf : Cm P g args (lk L) ks res (lk L1)) (hin : HinOk H L) (hi : idsLt 1048576 L1) (hks : ksOk b L L1 ks) (hL : ∀ p ∈ L, p.1 < b)
    (hb : All2 (Bor noH) az args ∨ (All2 (Bor (delL H L)) az args ∧ AV (InH (lk L1)) litD res.v ∧ flatL (InH (lk L1)) L1)) (hk : afterC res (sg ks b) (addM (delL H L) ks b L1) Kc Kx) : ACall P true H H b g az Kc Kx :=
  ACall.mkM args L ks res L1 hf hin hi hks (fun i h => by
    unfold InH at h
    cases hc : lk L i with
    | none => rw [hc] at h; cases h
    | some cs => exact hL _ (lk_mem' hc)) hb hk
attribute [simp] map_renC_d all2_data all2_data0 cellsOk_data cellsOk_data0
end Go.Psl
namespace Go.Proofs.Try
open Go.Psl
theorem mul_abs {x y M N : Int} (hx : -M ≤ x ∧ x ≤ M) (hy : -N ≤ y ∧ y ≤ N) : -(M * N) ≤ x * y ∧ x * y ≤ M * N := by
  have hN : 0 ≤ N := by omega
  have hM : 0 ≤ M := by omega
  have a1 : M * -N = -(M * N) := Int.mul_neg M N
  by_cases h : 0 ≤ x
  · have h1 := Int.mul_le_mul_of_nonneg_left hy.2 h
    have h2 := Int.mul_le_mul_of_nonneg_left hy.1 h
    have h3 := Int.mul_le_mul_of_nonneg_right hx.2 hN
    have h4 : x * -N = -(x * N) := Int.mul_neg x N
    omega
  · have h1 := Int.mul_le_mul_of_nonpos_left (show x ≤ 0 by omega) hy.2
    have h2 := Int.mul_le_mul_of_nonpos_left (show x ≤ 0 by omega) hy.1
    have h3 := Int.mul_le_mul_of_nonneg_right hx.1 hN
    have h4 : x * -N = -(x * N) := Int.mul_neg x N
    have h5 : -M * N = -(M * N) := Int.neg_mul M N
    omega
def bd (M : Int) (p : Int × Int) : Prop := (-M ≤ p.1 ∧ p.1 ≤ M) ∧ (-M ≤ p.2 ∧ p.2 ≤ M)
def subC (a b : Int × Int) : Int × Int := (b.1 - a.1, b.2 - a.2)
theorem bd_sub {M N : Int} {a b : Int × Int} (ha : bd M a) (hb : bd M b) (h : N = 2 * M) : bd N (subC a b) := by
  unfold bd subC at *; simp only; omega
theorem fn110 (a b : Int × Int) (ha : bd 1152921504606846976 a) (hb : bd 1152921504606846976 b) : Ct prog 110 [vsp a.1 a.2, vsp b.1 b.2] (vsp (subC a b).1 (subC a b).2) [] := by
  refine Ct.by gok eok mixed func110 c110 rfl (by simp [ntmps110]) (by simp) (by simp [ResIds]) fun E hE => ?_
  unfold bd at ha hb
  have w1 : IntKind.wrap .i64 (b.1 - a.1) = b.1 - a.1 := wrap64 (by omega) (by omega)
  have w2 : IntKind.wrap .i64 (b.2 - a.2) = b.2 - a.2 := wrap64 (by omega) (by omega)
  simp [p110, w1, w2, splice]
  refine RetOk.by (fun _ => none) ?_
  simp [results110, subC]
def turnS (u v : Int × Int) : Int := u.1 * v.2 - u.2 * v.1
theorem turn_bd {M : Int} {u v : Int × Int} (hu : bd M u) (hv : bd M v) : (-(M * M) ≤ u.1 * v.2 ∧ u.1 * v.2 ≤ M * M) ∧ (-(M * M) ≤ u.2 * v.1 ∧ u.2 * v.1 ≤ M * M) := ⟨mul_abs hu.1 hv.2, mul_abs hu.2 hv.1⟩
theorem fn131 (u v : Int × Int) (hu : bd 2000000000 u) (hv : bd 2000000000 v) : Ct prog 131 [vsp u.1 u.2, vsp v.1 v.2] (vi (turnS u v)) [] := by
  refine Ct.by gok eok mixed func131 c131 rfl (by simp [ntmps131]) (by simp) (by simp [ResIds]) fun E hE => ?_
  have hb := turn_bd hu hv
  have w1 : IntKind.wrap .i64 (u.1 * v.2) = u.1 * v.2 := wrap64 (by omega) (by omega)
  have w2 : IntKind.wrap .i64 (u.2 * v.1) = u.2 * v.1 := wrap64 (by omega) (by omega)
  have w3 : IntKind.wrap .i64 (u.1 * v.2 - u.2 * v.1) = u.1 * v.2 - u.2 * v.1 := wrap64 (by omega) (by omega)
  simp [p131, w1, w2, w3]
  refine RetOk.by (fun _ => none) ?_
  simp [results131, turnS]
theorem fn150 (n : Int) : Ct prog 150 [vi n] (vb false) [] := by
  refine Ct.by gok eok mixed func150 c150 rfl (by simp [ntmps150]) (by simp) (by simp [ResIds]) fun E hE => ?_
  simp [p150]
  refine RetOk.by (fun _ => none) ?_
  simp [results150]
def cmpI (a b : Int) : Int := if a < b then -1 else if b < a then 1 else 0
theorem fn141 (a b : Int) : Ct prog 141 [vi a, vi b] (vi (cmpI a b)) [] := by
  refine Ct.by gok eok mixed func141 c141 rfl (by simp [ntmps141]) (by simp) (by simp [ResIds]) fun E hE => ?_
  simp [p141]
  refine ACall.mk _ _ _ (fn150 a) (by first | (simp; done) | simp [Bor_ls, Bor1_ls]) (by simp) (by first | (left; simp; done) | (right; simp; done)) ?_
  simp
  refine ACall.mk _ _ _ (fn150 b) (by first | (simp; done) | simp [Bor_ls, Bor1_ls]) (by simp) (by first | (left; simp; done) | (right; simp; done)) ?_
  simp
  by_cases h : a < b
  · simp [h]
    refine RetOk.by (fun _ => none) ?_
    simp [results141, cmpI, h]
  · by_cases h2 : b < a
    · simp [h, h2]
      refine RetOk.by (fun _ => none) ?_
      simp [results141, cmpI, h, h2]
    · simp [h, h2]
      refine RetOk.by (fun _ => none) ?_
      simp [results141, cmpI, h, h2]
def orI : List Int → Int
  | [] => 0
  | a :: r => if a = 0 then orI r else a
abbrev intsD (l : List Int) : D := .sl 1 (l.map fun n => [di n])
theorem fn1402 (a b : Int) : Ct prog 140 [.d (intsD [a, b])] (vi (orI [a, b])) [] := by
  refine Ct.by gok eok mixed func140 c140 rfl (by simp [ntmps140]) (by simp) (by simp [ResIds]) fun E hE => ?_
  have hz : IntKind.wrap .i64 1 = 1 := by decide
  have hz2 : IntKind.wrap .i64 2 = 2 := by decide
  simp [p140]
  refine pw_loop (α := Nat) (fun i => ⟨slots [(3, vi 0), (6, .d (intsD [a, b])), (7, vi 2), (8, vi i)], lk [], 0⟩) (fun i => i ≤ 2 ∧ (1 ≤ i → a = 0) ∧ (2 ≤ i → b = 0)) (fun i => 2 - i) 0 ?_ ?_ ?_
  · simp
  · refine Weak.mk hE (lk []) _ _ _ ?_ ?_ ?_ ?_ ?_ <;> simp
  · rintro i ⟨hi, h1, h2⟩
    simp [p140l0]
    obtain rfl | rfl | rfl : i = 0 ∨ i = 1 ∨ i = 2 := by omega
    · by_cases h : a = 0
      · simp [h, hz]
        refine ⟨1, by omega, by omega, ?_⟩
        refine Weak.mk hE (lk []) _ _ _ ?_ ?_ ?_ ?_ ?_ <;> simp
      · simp [h]
        refine RetOk.by (fun _ => none) ?_
        simp [results140, orI, h]
    · have ha := h1 (by omega)
      by_cases h : b = 0
      · simp [h, ha, hz2]
        refine ⟨2, by omega, by omega, ?_⟩
        refine Weak.mk hE (lk []) _ _ _ ?_ ?_ ?_ ?_ ?_ <;> simp
      · simp [h, ha]
        refine RetOk.by (fun _ => none) ?_
        simp [results140, orI, h]
    · have ha := h1 (by omega)
      have hb := h2 (by omega)
      simp [ha, hb]
      refine RetOk.by (fun _ => none) ?_
      simp [results140, orI]
def orderS (a b : Int × Int) : Int := orI [cmpI a.1 b.1, cmpI a.2 b.2]
end Go.Proofs.Try
namespace Go.Proofs.Try
open Go.Psl
theorem bor_two {H : Hp} {id : Nat} {a b : Int} (h : H id = some [vi a, vi b]) : Bor H (.ls id 0 2 1) (.d (intsD [a, b])) := by
  rw [Bor_ls]
  exact ⟨rfl, rfl, by simp, _, h, rfl⟩
theorem fn128 (a b : Int × Int) : Ct prog 128 [vsp a.1 a.2, vsp b.1 b.2] (vi (orderS a b)) [] := by
  refine Ct.by gok eok mixed func128 c128 rfl (by simp [ntmps128]) (by simp) (by simp [ResIds]) fun E hE => ?_
  simp [p128, inC, Nat.testBit]
  refine ACall.mk _ _ _ (fn141 a.1 b.1) (by first | (simp; done) | simp [Bor_ls, Bor1_ls]) (by simp) (by first | (left; simp; done) | (right; simp; done)) ?_
  simp [inC, Nat.testBit]
  refine ACall.mk _ _ _ (fn141 a.2 b.2) (by first | (simp; done) | simp [Bor_ls, Bor1_ls]) (by simp) (by first | (left; simp; done) | (right; simp; done)) ?_
  simp [splice, repl]
  refine ACall.mk _ _ _ (fn1402 (cmpI a.1 b.1) (cmpI a.2 b.2)) (by simp [bor_two]) (by simp) (by first | (left; simp; done) | (right; simp; done)) ?_
  simp
  refine RetOk.by (fun _ => none) ?_
  simp [results128, orderS]
def okC (p : Int × Int) : Bool := decide (max p.1 p.2 ≤ 268435456) && decide (-268435456 ≤ min p.1 p.2)
theorem okC_iff {p : Int × Int} : okC p = true ↔ bd 268435456 p := by
  unfold okC bd; simp only [Bool.and_eq_true, decide_eq_true_eq]; omega
def nearC (l : List (Int × Int)) : Bool := l.all okC
theorem nearC_take {l : List (Int × Int)} {i : Nat} {s : Int × Int} (hs : l[i]? = some s) : nearC (l.take (i + 1)) = (nearC (l.take i) && okC s) := by
  simp [nearC, List.take_add_one, hs]
theorem nearC_false {l : List (Int × Int)} {i : Nat} {s : Int × Int} (hs : l[i]? = some s) (h : okC s = false) : nearC l = false := by
  unfold nearC
  rw [List.all_eq_false]
  exact ⟨s, List.mem_of_getElem? hs, by simp [h]⟩
theorem fn92 (l : List (Int × Int)) (hl : l.length ≤ 1000000000) : Ct prog 92 [.d (spansD l)] (vb (nearC l)) [] := by
  refine Ct.by gok eok mixed func92 c92 rfl (by simp [ntmps92]) (by simp) (by simp [ResIds]) fun E hE => ?_
  simp [p92]
  refine pw_loop (α := Nat) (fun i => ⟨slots [(5, .d (spansD l)), (6, vi l.length), (7, vi i)], lk [], 0⟩) (fun i => i ≤ l.length ∧ nearC (l.take i) = true) (fun i => l.length - i) 0 ?_ ?_ ?_
  · simp [nearC]
  · refine Weak.mk hE (lk []) _ _ _ ?_ ?_ ?_ ?_ ?_ <;> simp
  · rintro i ⟨hi, hg⟩
    have hz : IntKind.wrap .i64 ((i : Int) + 1) = ((i : Int) + 1) := wrap64 (by omega) (by omega)
    simp [p92l0]
    refine cR_split (fun h => ?_) (fun h => ?_)
    · simp at h
      have hil : i < l.length := by omega
      obtain ⟨p, hp⟩ : ∃ p, l[i]? = some p := ⟨l[i], by simp [hil]⟩
      by_cases h1 : 268435456 < max p.1 p.2
      · have hb : okC p = false := by unfold okC; rw [decide_eq_false (by omega)]; rfl
        simp [hp, h1, splice]
        refine RetOk.by (fun _ => none) ?_
        simp [results92, nearC_false hp hb]
      by_cases h2 : min p.1 p.2 < -268435456
      · have hb : okC p = false := by unfold okC; rw [decide_eq_false (p := -268435456 ≤ min p.1 p.2) (by omega)]; simp
        simp [hp, h1, h2, splice]
        refine RetOk.by (fun _ => none) ?_
        simp [results92, nearC_false hp hb]
      have hb : okC p = true := by unfold okC; simp only [Bool.and_eq_true, decide_eq_true_eq]; omega
      simp [hp, h1, h2, hz, splice]
      refine ⟨i + 1, ⟨by omega, by rw [nearC_take hp, hg, hb]; rfl⟩, by omega, ?_⟩
      refine Weak.mk hE (lk []) _ _ _ ?_ ?_ ?_ ?_ ?_ <;> simp
    · simp at h
      have hil : i = l.length := by omega
      subst hil
      rw [List.take_length] at hg
      simp
      refine RetOk.by (fun _ => none) ?_
      simp [results92, hg]
theorem fn101 (l m : List (Int × Int)) (hl : l.length ≤ 1000000000) (_ : m.length ≤ 1000000000) : Ct prog 101 [.d (spansD l), .d (spansD m)] (vb (decide (l = m))) [] := by
  refine Ct.by gok eok mixed func101 c101 rfl (by simp [ntmps101]) (by simp) (by simp [ResIds]) fun E hE => ?_
  by_cases hlen : l.length = m.length
  case neg =>
    have hn : ¬ (l.length : Int) = m.length := by omega
    have hne : ¬ l = m := fun h => hlen (by rw [h])
    simp [p101, hn]
    refine RetOk.by (fun _ => none) ?_
    simp [results101, hne]
  simp [p101, hlen]
  refine pw_loop (α := Nat) (fun i => ⟨slots [(0, .d (spansD l)), (1, .d (spansD m)), (12, vi m.length), (13, vi i)], lk [], 0⟩) (fun i => i ≤ l.length ∧ l.take i = m.take i) (fun i => l.length - i) 0 ?_ ?_ ?_
  · simp
  · refine Weak.mk hE (lk []) _ _ _ ?_ ?_ ?_ ?_ ?_ <;> simp
  · rintro i ⟨hi, hg⟩
    have hz : IntKind.wrap .i64 ((i : Int) + 1) = ((i : Int) + 1) := wrap64 (by omega) (by omega)
    simp [p101l0]
    refine cR_split (fun h => ?_) (fun h => ?_)
    · simp at h
      have hil : i < l.length := by omega
      obtain ⟨a, ha⟩ : ∃ a, l[i]? = some a := ⟨l[i], by simp [hil]⟩
      obtain ⟨b, hb⟩ : ∃ b, m[i]? = some b := ⟨m[i], by simp [show i < m.length by omega]⟩
      by_cases h1 : a.1 = b.1 ∧ a.2 = b.2
      · have hab : a = b := by ext; exact h1.1; exact h1.2
        simp [ha, hb, h1, hz]
        refine ⟨i + 1, ⟨by omega, by simp [List.take_add_one, hg, ha, hb, hab]⟩, by omega, ?_⟩
        refine Weak.mk hE (lk []) _ _ _ ?_ ?_ ?_ ?_ ?_ <;> simp
      · have hne : ¬ l = m := fun h => by
          rw [h, hb] at ha
          cases ha
          exact h1 ⟨rfl, rfl⟩
        have hd : (!decide (a.1 = b.1) || !decide (a.2 = b.2)) = true := by simp; omega
        simp [ha, hb, hd]
        refine RetOk.by (fun _ => none) ?_
        simp [results101, hne]
    · simp at h
      have hil : i = l.length := by omega
      have hlm : l = m := by rw [hil, List.take_length, hlen, List.take_length] at hg; exact hg
      simp
      refine RetOk.by (fun _ => none) ?_
      simp [results101, hlm]
end Go.Proofs.Try
namespace Go.Proofs.Try
open Go.Psl
theorem tdiv_pos {a b : Int} (hb : 0 < b) : a.tdiv b = if 0 ≤ a ∨ a % b = 0 then a / b else a / b + 1 := by
  rw [Int.tdiv_eq_ediv]
  by_cases h : 0 ≤ a ∨ b ∣ a
  · rw [if_pos h, if_pos]
    · simp
    · exact h.imp id Int.emod_eq_zero_of_dvd
  · rw [if_neg h, if_neg]
    · rw [Int.sign_eq_one_of_pos hb]
    · exact fun h2 => h (h2.imp id Int.dvd_of_emod_eq_zero)
theorem fn113 (a b : Int) (ha : -9223372036854775807 ≤ a ∧ a ≤ 9223372036854775807) (hb : 1 ≤ b) (hb2 : b ≤ 9223372036854775807) : Ct prog 113 [vi a, vi b] (vi (a / b)) [] := by
  refine Ct.by gok eok mixed func113 c113 rfl (by simp [ntmps113]) (by simp) (by simp [ResIds]) fun E hE => ?_
  have e := Int.mul_ediv_add_emod a b
  have m0 := Int.emod_nonneg a (show b ≠ 0 by omega)
  have m1 := Int.emod_lt_of_pos a (show 0 < b by omega)
  have t := tdiv_pos (a := a) (b := b) (by omega)
  have q0 : -9223372036854775807 ≤ a / b := by
    refine (Int.le_ediv_iff_mul_le (by omega)).2 ?_
    have := Int.mul_le_mul_of_nonneg_left hb (show (0 : Int) ≤ 9223372036854775807 by omega)
    omega
  have q1 : a / b ≤ 9223372036854775807 := by
    by_cases h0 : 0 ≤ a
    · exact Int.le_trans (Int.ediv_le_self _ h0) ha.2
    · have := Int.ediv_neg_of_neg_of_pos (show a < 0 by omega) (show 0 < b by omega)
      omega
  rw [Int.mul_comm] at e
  have bn : ¬ b = 0 := by omega
  by_cases hc : 0 ≤ a ∨ a % b = 0
  · rw [if_pos hc] at t
    have w1 : IntKind.wrap .i64 (a / b) = a / b := wrap64 (by omega) (by omega)
    have w2 : IntKind.wrap .i64 (a / b * b) = a / b * b := wrap64 (by omega) (by omega)
    have hn : ¬ a < a / b * b := by omega
    simp [p113, bn, t, w1, w2, hn]
    refine RetOk.by (fun _ => none) ?_
    simp [results113]
  · rw [if_neg hc] at t
    have hneg : a < 0 := by omega
    have q2 := Int.ediv_neg_of_neg_of_pos hneg (show 0 < b by omega)
    have e2 : (a / b + 1) * b = a / b * b + b := by rw [Int.add_mul]; omega
    have e3 : (a / b + 1) * b ≤ 0 := Int.mul_nonpos_of_nonpos_of_nonneg (by omega) (by omega)
    have w1 : IntKind.wrap .i64 (a / b + 1) = a / b + 1 := wrap64 (by omega) (by omega)
    have w2 : IntKind.wrap .i64 ((a / b + 1) * b) = (a / b + 1) * b := wrap64 (by omega) (by omega)
    have hn : a < (a / b + 1) * b := by omega
    have w3 : IntKind.wrap .i64 (a / b + 1 - 1) = a / b := by rw [wrap64 (by omega) (by omega)]; omega
    have w4 : IntKind.wrap .i64 (a / b) = a / b := wrap64 (by omega) (by omega)
    simp [p113, bn, t, w1, w2, w4, hn]
    refine RetOk.by (fun _ => none) ?_
    simp [results113]
end Go.Proofs.Try
namespace Go.Proofs.Try
open Go.Psl
theorem bor_refl {H : Hp} (x : D) : Bor H (.d x) (.d x) := Or.inl rfl
@[simp] theorem bor_all {H : Hp} : ∀ ds : List D, All2 (Bor H) (ds.map .d) (ds.map .d)
  | [] => trivial
  | x :: ds => ⟨bor_refl x, bor_all ds⟩
theorem fn111 (n r : Nat) (f : FuncId) (ds : List D) (p : Nat → Bool) (hn : n ≤ 1000000) (hp : ∀ i : Nat, i < n → Ct prog f (vi i :: ds.map .d) (vb (p i)) []) (hr : r ≤ n) (h0 : ∀ i, i < r → p i = false) (h1 : ∀ i, r ≤ i → i < n → p i = true) :
    Ct prog 111 [vi n, .d (.fn f ds)] (vi r) [] := by
  refine Ct.by gok eok mixed func111 c111 rfl (by simp [ntmps111]) (by simp) (by simp [ResIds]) fun E hE => ?_
  simp [p111]
  refine pw_loop (α := Nat × Nat) (fun x => ⟨slots [(1, .d (.fn f ds)), (5, vi x.1), (6, vi x.2)], lk [], 0⟩) (fun x => x.1 ≤ r ∧ r ≤ x.2 ∧ x.2 ≤ n) (fun x => x.2 - x.1) (0, n) ?_ ?_ ?_
  · simp; omega
  · refine Weak.mk hE (lk []) _ _ _ ?_ ?_ ?_ ?_ ?_ <;> simp
  · rintro ⟨lo, hi⟩ ⟨g1, g2, g3⟩
    simp only at g1 g2 g3
    simp [p111l0]
    by_cases hlt : lo < hi
    · have e1 : IntKind.wrap .i64 ((lo : Int) + hi) = (lo : Int) + hi := wrap64 (by omega) (by omega)
      obtain ⟨m, hm⟩ : ∃ m : Nat, m = (lo + hi) / 2 := ⟨_, rfl⟩
      have e2 : IntKind.wrap .u64 ((lo : Int) + hi) = (lo : Int) + hi := wrapu64 (by omega) (by omega)
      have e3 : IntKind.wrap .i64 (((lo : Int) + hi) / 2) = (m : Int) := by rw [wrap64 (by omega) (by omega)]; omega
      have e4 : IntKind.wrap .i64 ((m : Int) + 1) = ((m + 1 : Nat) : Int) := by rw [wrap64 (by omega) (by omega)]; rfl
      simp only [Int.natCast_add, Int.cast_ofNat_Int] at e4
      simp [hlt, e1, e2, e3]
      refine ACall.mk _ _ _ (hp m (by omega)) (by first | (simp; done) | simp [Bor_ls, Bor1_ls]) (by simp) (by first | (left; simp; done) | (right; simp; done)) ?_
      cases hpm : p m with
      | true =>
        have : r ≤ m := Nat.not_lt.1 fun h => by rw [h0 m h] at hpm; cases hpm
        simp
        refine ⟨lo, m, ⟨by omega, by omega, by omega⟩, by omega, ?_⟩
        refine Weak.mk hE (lk []) _ _ _ ?_ ?_ ?_ ?_ ?_ <;> simp
      | false =>
        have : m < r := Nat.not_le.1 fun h => by rw [h1 m h (by omega)] at hpm; cases hpm
        simp [e4]
        refine ⟨m + 1, hi, ⟨by omega, by omega, by omega⟩, by omega, ?_⟩
        refine Weak.mk hE (lk []) _ _ _ ?_ ?_ ?_ ?_ ?_ <;> simp
    · have : lo = r := by omega
      subst this
      simp [hlt]
      refine RetOk.by (fun _ => none) ?_
      simp [results111]
end Go.Proofs.Try
namespace Go.Proofs.Try
open Go.Psl
theorem tab_lt {l : List (Int × Int × Int)} (h : tabS l = true) : ∀ (d i : Nat) (a b : Int × Int × Int), l[i]? = some a → l[i + d + 1]? = some b → a.1 < b.1 := by
  have hg : ∀ i (k : Int × Int × Int), l[i]? = some k → goodK l i = true := fun i k hk => by
    simp only [tabS, Bool.and_eq_true, goodTo, List.all_eq_true] at h
    refine h.2 i (List.mem_range.2 ?_)
    exact (List.getElem?_eq_some_iff.1 hk).1
  have hs : ∀ (i : Nat) (a b : Int × Int × Int), l[i]? = some a → l[i + 1]? = some b → a.1 < b.1 := fun i a b ha hb => by
    have := hg (i + 1) b hb
    rw [goodK_succ hb ha] at this
    simp only [Bool.and_eq_true, decide_eq_true_eq] at this
    exact this.2
  intro d
  induction d with
  | zero => exact hs
  | succ d ih =>
    intro i a b ha hb
    obtain ⟨c, hc⟩ : ∃ c, l[i + d + 1]? = some c := by
      have := (List.getElem?_eq_some_iff.1 hb).1
      exact ⟨l[i + d + 1], by simp⟩
    have h1 := ih i a c ha hc
    have h2 := hs (i + d + 1) c b hc hb
    omega
theorem tab_mono {l : List (Int × Int × Int)} (h : tabS l = true) {i j : Nat} {a b : Int × Int × Int} (ha : l[i]? = some a) (hb : l[j]? = some b) (hij : i < j) : a.1 < b.1 :=
  tab_lt h (j - i - 1) i a b ha (by rw [show i + (j - i - 1) + 1 = j by omega]; exact hb)
theorem tab_okK {l : List (Int × Int × Int)} (h : tabS l = true) {i : Nat} {k : Int × Int × Int} (hk : l[i]? = some k) : okK k = true := by
  simp only [tabS, Bool.and_eq_true, goodTo, List.all_eq_true] at h
  have := h.2 i (List.mem_range.2 (List.getElem?_eq_some_iff.1 hk).1)
  unfold goodK at this
  rw [hk] at this
  simp only [Bool.and_eq_true] at this
  exact this.1
theorem tab_len {l : List (Int × Int × Int)} (h : tabS l = true) : 2 ≤ l.length ∧ l.length ≤ 32 := by
  simp only [tabS, Bool.and_eq_true, decide_eq_true_eq] at h
  exact h.1
def cntS (l : List (Int × Int × Int)) (x : Int) : Nat := (l.takeWhile fun k => decide (k.1 ≤ x)).length
theorem cnt_le (l : List (Int × Int × Int)) (x : Int) : cntS l x ≤ l.length := by
  unfold cntS
  exact (List.takeWhile_sublist _).length_le
theorem cnt_in : ∀ (l : List (Int × Int × Int)) (x : Int) (i : Nat) (k : Int × Int × Int), l[i]? = some k → i < cntS l x → k.1 ≤ x
  | [], _, _, _, h, _ => by simp at h
  | a :: l, x, i, k, h, hi => by
    unfold cntS at hi
    by_cases hc : a.1 ≤ x
    · cases i with
      | zero => simp at h; subst h; exact hc
      | succ i =>
        simp [hc] at hi h
        exact cnt_in l x i k h (by unfold cntS; exact hi)
    · simp [hc] at hi
theorem cnt_at : ∀ (l : List (Int × Int × Int)) (x : Int) (k : Int × Int × Int), l[cntS l x]? = some k → x < k.1
  | [], _, _, h => by simp at h
  | a :: l, x, k, h => by
    unfold cntS at h
    by_cases hc : a.1 ≤ x
    · simp [hc] at h
      exact cnt_at l x k (by unfold cntS; exact h)
    · simp [hc] at h
      subst h; omega
theorem cnt_out {l : List (Int × Int × Int)} (ht : tabS l = true) {x : Int} {i : Nat} {k : Int × Int × Int} (hk : l[i]? = some k) (hi : cntS l x ≤ i) : x < k.1 := by
  have hlt := (List.getElem?_eq_some_iff.1 hk).1
  obtain ⟨c, hc⟩ : ∃ c, l[cntS l x]? = some c := ⟨l[cntS l x], by simp⟩
  have h1 := cnt_at l x c hc
  by_cases he : cntS l x = i
  · rw [he, hk] at hc; cases hc; exact h1
  · have := tab_mono ht hc hk (by omega)
    omega
def segS (l : List (Int × Int × Int)) (x : Int) : Nat := min (max (cntS l x) 1) (l.length - 1) - 1
def lineS (a b : Int × Int × Int) (x : Int) : Int × Int := (a.2.1 + (x - a.1) * (b.2.1 - a.2.1) / (b.1 - a.1), a.2.2 - (x - a.1) * (a.2.2 - b.2.2) / (b.1 - a.1))
def atS (l : List (Int × Int × Int)) (x : Int) : Int × Int := match l[segS l x]?, l[segS l x + 1]? with
  | some a, some b => lineS a b x
  | _, _ => (0, 0)
theorem fn112 (l : List (Int × Int × Int)) (_ : l.length ≤ 1000000) (x : Int) (i : Nat) (k : Int × Int × Int) (hk : l[i]? = some k) : Ct prog 112 [vi i, .d (.ref [knotsD l]), .d (.ref [di x])] (vb (decide (x < k.1))) [] := by
  refine Ct.by gok eok mixed func112 c112 rfl (by simp [ntmps112]) (by simp) (by simp [ResIds]) fun E hE => ?_
  have hil : i < l.length := (List.getElem?_eq_some_iff.1 hk).1
  simp [p112, hk]
  refine RetOk.by (fun _ => none) ?_
  simp [results112]
theorem ediv_between {m w n : Int} (hn : 0 < n) (h0 : 0 ≤ m) (h1 : m ≤ n) (hw : -2147483648 ≤ w ∧ w ≤ 2147483648) : -2147483648 ≤ m * w / n ∧ m * w / n ≤ 2147483648 := by
  have b1 : m * w ≤ 2147483648 * n := by
    have h2 : m * w ≤ m * 2147483648 := Int.mul_le_mul_of_nonneg_left hw.2 h0
    have h3 : m * 2147483648 ≤ n * 2147483648 := Int.mul_le_mul_of_nonneg_right h1 (by omega)
    omega
  have b2 : -2147483648 * n ≤ m * w := by
    have h2 : m * -2147483648 ≤ m * w := Int.mul_le_mul_of_nonneg_left hw.1 h0
    have h3 : n * -2147483648 ≤ m * -2147483648 := Int.mul_le_mul_of_nonpos_right h1 (by omega)
    omega
  refine ⟨(Int.le_ediv_iff_mul_le hn).2 b2, ?_⟩
  have := Int.ediv_le_ediv hn b1
  rw [Int.mul_ediv_cancel _ (by omega)] at this
  exact this
theorem mul_between {m w : Int} (h0 : 0 ≤ m) (h1 : m ≤ 2147483648) (hw : -2147483648 ≤ w ∧ w ≤ 2147483648) : -4611686018427387904 ≤ m * w ∧ m * w ≤ 4611686018427387904 := by
  have h2 : m * w ≤ m * 2147483648 := Int.mul_le_mul_of_nonneg_left hw.2 h0
  have h3 : m * -2147483648 ≤ m * w := Int.mul_le_mul_of_nonneg_left hw.1 h0
  omega
theorem fn75 (l : List (Int × Int × Int)) (x : Int) (ht : tabS l = true) (h0 : ∀ k, l[0]? = some k → k.1 ≤ x) (h1 : ∀ k, l[l.length - 1]? = some k → x ≤ k.1) : Ct prog 75 [.d (knotsD l), vi x] (vsp (atS l x).1 (atS l x).2) [] := by
  have hlen := tab_len ht
  have hc := cnt_le l x
  have hs : segS l x + 1 < l.length := by unfold segS; omega
  obtain ⟨a, ha⟩ : ∃ a, l[segS l x]? = some a := ⟨l[segS l x], by simp⟩
  obtain ⟨b, hb⟩ : ∃ b, l[segS l x + 1]? = some b := ⟨l[segS l x + 1], by simp⟩
  have hat : atS l x = lineS a b x := by simp [atS, ha, hb]
  have oa := okK_iff.1 (tab_okK ht ha)
  have ob := okK_iff.1 (tab_okK ht hb)
  have hab := tab_mono ht ha hb (by omega)
  have hax : a.1 ≤ x := by
    by_cases hz : segS l x = 0
    · rw [hz] at ha; exact h0 a ha
    · exact cnt_in l x _ a ha (by unfold segS at hz ⊢; omega)
  have hxb : x ≤ b.1 := by
    by_cases hz : segS l x + 1 = l.length - 1
    · rw [hz] at hb; exact h1 b hb
    · have := cnt_out ht hb (x := x) (by unfold segS at hz ⊢; omega)
      omega
  rw [hat]
  obtain ⟨s, hsg⟩ : ∃ s, segS l x = s := ⟨_, rfl⟩
  rw [hsg] at ha hb hs
  have hse : Ct prog 111 [vi l.length, .d (.fn 112 [.ref [knotsD l], .ref [di x]])] (vi (cntS l x)) [] := by
    refine fn111 l.length (cntS l x) _ _ (fun i => (l[i]?.map fun k => decide (x < k.1)).getD false) (by omega) (fun i hi => ?_) hc (fun i hi => ?_) (fun i hi hi2 => ?_)
    · obtain ⟨k, hk⟩ : ∃ k, l[i]? = some k := ⟨l[i], by simp [hi]⟩
      rw [hk]
      exact fn112 l (by omega) x i k hk
    · obtain ⟨k, hk⟩ : ∃ k, l[i]? = some k := ⟨l[i], by simp [show i < l.length by omega]⟩
      have := cnt_in l x i k hk hi
      simp [hk]; omega
    · obtain ⟨k, hk⟩ : ∃ k, l[i]? = some k := ⟨l[i], by simp [hi2]⟩
      have := cnt_out ht hk hi
      simp [hk]; omega
  refine Ct.by gok eok mixed func75 c75 rfl (by simp [ntmps75]) (by simp) (by simp [ResIds]) fun E hE => ?_
  simp [p75]
  refine ACall.mk _ _ _ (hse) (by first | (simp; done) | simp [Bor_ls, Bor1_ls]) (by simp) (by first | (left; simp; done) | (right; simp; done)) ?_
  obtain ⟨s1, hs1⟩ : ∃ s1, s1 = s + 1 := ⟨_, rfl⟩
  rw [← hs1] at hb
  have w0 : IntKind.wrap .i64 ((l.length : Int) - 1) = (l.length : Int) - 1 := wrap64 (by omega) (by omega)
  have w1 : IntKind.wrap .i64 ((s1 : Int) - 1) = (s : Int) := by rw [wrap64 (by omega) (by omega)]; omega
  have hmn : min (max (cntS l x : Int) 1) ((l.length : Int) - 1) = (s1 : Int) := by unfold segS at hsg; omega
  have w2 : IntKind.wrap .i64 (x - a.1) = x - a.1 := wrap64 (by omega) (by omega)
  have w3 : IntKind.wrap .i64 (b.1 - a.1) = b.1 - a.1 := wrap64 (by omega) (by omega)
  have w4 : IntKind.wrap .i64 (b.2.1 - a.2.1) = b.2.1 - a.2.1 := wrap64 (by omega) (by omega)
  have w5 : IntKind.wrap .i64 (a.2.2 - b.2.2) = a.2.2 - b.2.2 := wrap64 (by omega) (by omega)
  have b1 := mul_between (m := x - a.1) (w := b.2.1 - a.2.1) (by omega) (by omega) (by omega)
  have b2 := mul_between (m := x - a.1) (w := a.2.2 - b.2.2) (by omega) (by omega) (by omega)
  have c1 := ediv_between (n := b.1 - a.1) (m := x - a.1) (w := b.2.1 - a.2.1) (by omega) (by omega) (by omega) (by omega)
  have c2 := ediv_between (n := b.1 - a.1) (m := x - a.1) (w := a.2.2 - b.2.2) (by omega) (by omega) (by omega) (by omega)
  have w6 : IntKind.wrap .i64 ((x - a.1) * (b.2.1 - a.2.1)) = (x - a.1) * (b.2.1 - a.2.1) := wrap64 (by omega) (by omega)
  have w7 : IntKind.wrap .i64 ((x - a.1) * (a.2.2 - b.2.2)) = (x - a.1) * (a.2.2 - b.2.2) := wrap64 (by omega) (by omega)
  have w8 : IntKind.wrap .i64 (a.2.1 + (x - a.1) * (b.2.1 - a.2.1) / (b.1 - a.1)) = a.2.1 + (x - a.1) * (b.2.1 - a.2.1) / (b.1 - a.1) := wrap64 (by omega) (by omega)
  have w9 : IntKind.wrap .i64 (a.2.2 - (x - a.1) * (a.2.2 - b.2.2) / (b.1 - a.1)) = a.2.2 - (x - a.1) * (a.2.2 - b.2.2) / (b.1 - a.1) := wrap64 (by omega) (by omega)
  simp [w0, hmn]
  refine pw_drawA [(11, 9), (12, 10)] (by kernel_rfl) ?_
  simp [w1, ha, hb, inC, Nat.testBit, splice, w2, w3, w4, w6]
  refine ACall.mk _ _ _ (fn113 ((x - a.1) * (b.2.1 - a.2.1)) (b.1 - a.1) (by omega) (by omega) (by omega)) (by first | (simp; done) | simp [Bor_ls, Bor1_ls]) (by simp) (by first | (left; simp; done) | (right; simp; done)) ?_
  simp [w8, w5, w7]
  refine ACall.mk _ _ _ (fn113 ((x - a.1) * (a.2.2 - b.2.2)) (b.1 - a.1) (by omega) (by omega) (by omega)) (by first | (simp; done) | simp [Bor_ls, Bor1_ls]) (by simp) (by first | (left; simp; done) | (right; simp; done)) ?_
  simp [w9, splice]
  refine RetOk.by (fun _ => none) ?_
  simp [results75, lineS]
end Go.Proofs.Try
namespace Go.Proofs.Try
open Go.Psl
def accV (l : List (Int × Int × Int)) (x : Int × Int) (i : Nat) : Int × Int := (l.take i).foldl (fun o k => if x.1 < k.1 ∧ k.1 < x.2 then joinI o k.2 else o) (joinI (atS l x.1) (atS l x.2))
theorem accV_succ {l : List (Int × Int × Int)} {x : Int × Int} {i : Nat} {k : Int × Int × Int} (hk : l[i]? = some k) : accV l x (i + 1) = if x.1 < k.1 ∧ k.1 < x.2 then joinI (accV l x i) k.2 else accV l x i := by
  simp [accV, List.take_add_one, hk]
def valS (l : List (Int × Int × Int)) (x : Int × Int) : (Int × Int) × Int :=
  if tabS l = true then
    if okS x = true then
      match l[0]?, l[l.length - 1]? with
      | some a, some b => if x.1 < a.1 ∨ b.1 < x.2 then ((0, 0), 2) else (accV l x l.length, 0)
      | _, _ => ((0, 0), 0)
    else ((0, 0), 10)
  else ((0, 0), 13)
theorem fn20 (l : List (Int × Int × Int)) (x : Int × Int) (hl : l.length ≤ 1000000) : Ct prog 20 [.d (knotsD l), vsp x.1 x.2] (vse (valS l x)) [] := by
  refine Ct.by gok eok mixed func20 c20 rfl (by simp [ntmps20]) (by simp) (by simp [ResIds]) fun E hE => ?_
  simp [p20]
  refine ACall.mk _ _ _ (fn26 l hl) (by first | (simp; done) | simp [Bor_ls, Bor1_ls]) (by simp) (by first | (left; simp; done) | (right; simp; done)) ?_
  by_cases ht : tabS l = true
  · simp [ht]
    refine ACall.mk _ _ _ (fn46 x) (by first | (simp; done) | simp [Bor_ls, Bor1_ls]) (by simp) (by first | (left; simp; done) | (right; simp; done)) ?_
    by_cases hx : okS x = true
    · have hlen := tab_len ht
      obtain ⟨a, ha⟩ : ∃ a, l[0]? = some a := ⟨l[0], by simp⟩
      obtain ⟨e, he⟩ : ∃ e, e = l.length - 1 := ⟨_, rfl⟩
      obtain ⟨b, hb⟩ : ∃ b, l[e]? = some b := ⟨l[e], by simp [show e < l.length by omega]⟩
      have we : IntKind.wrap .i64 ((l.length : Int) - 1) = (e : Int) := by rw [wrap64 (by omega) (by omega)]; omega
      by_cases c1 : x.1 < a.1
      · simp [hx, ha, c1, splice]
        refine RetOk.by (fun _ => none) ?_
        simp [results20, valS, ht, hx, ha, ← he, hb, c1]
      by_cases c2 : b.1 < x.2
      · simp [hx, ha, hb, c1, c2, we, splice]
        refine RetOk.by (fun _ => none) ?_
        simp [results20, valS, ht, hx, ha, ← he, hb, c1, c2]
      have hxx := okS_iff.1 hx
      have hlast : ∀ k, l[l.length - 1]? = some k → x.2 ≤ k.1 := fun k hk => by rw [← he, hb] at hk; cases hk; omega
      have hfirst : ∀ k, l[0]? = some k → k.1 ≤ x.1 := fun k hk => by rw [ha] at hk; cases hk; omega
      simp [hx, ha, hb, c1, c2, we]
      refine ACall.mk _ _ _ (fn75 l x.1 ht hfirst (fun k hk => by have := hlast k hk; omega)) (by first | (simp; done) | simp [Bor_ls, Bor1_ls]) (by simp) (by first | (left; simp; done) | (right; simp; done)) ?_
      simp [inC, Nat.testBit]
      refine ACall.mk _ _ _ (fn75 l x.2 ht (fun k hk => by have := hfirst k hk; omega) hlast) (by first | (simp; done) | simp [Bor_ls, Bor1_ls]) (by simp) (by first | (left; simp; done) | (right; simp; done)) ?_
      simp [splice, repl]
      refine ACall.mk _ _ _ (fn74 (atS l x.1) [atS l x.2] (by simp)) (by first | (simp; done) | simp [Bor_ls, inC, Nat.testBit]) (by simp) (by first | (left; simp; done) | (right; simp; done)) ?_
      simp [splice]
      refine pw_loopC (α := Nat) 0 (fun _ : Unit => ⟨slots [(4, .lp 0 0), (8, .lp 1 0)], lk [(0, [vi 0, vi 0]), (1, [vi (accV l x l.length).1, vi (accV l x l.length).2])], 2⟩) (fun _ => True) (fun i => ⟨slots [(3, .lp 2 0), (4, .lp 0 0), (8, .lp 1 0), (53, .d (knotsD l)), (54, vi l.length), (55, vi i)], lk [(0, [vi 0, vi 0]), (1, [vi (accV l x i).1, vi (accV l x i).2]), (2, [vi x.1, vi x.2])], 3⟩) (fun i => i ≤ l.length) (fun i => l.length - i) 0 ?_ ?_ ?_ fun _ _ => ?_
      · simp
      · refine Weak.mk hE (lk [(0, 1048576), (1, 44040192), (2, 0)]) _ _ _ ?_ ?_ ?_ ?_ ?_ <;> simp [accV, aroundS]
      · intro i hi
        simp [p20l0]
        refine cR_split (fun h => ?_) (fun h => ?_)
        · simp at h
          obtain ⟨k, hk⟩ : ∃ k, l[i]? = some k := ⟨l[i], by simp [h]⟩
          have hz : IntKind.wrap .i64 ((i : Int) + 1) = (i : Int) + 1 := wrap64 (by omega) (by omega)
          by_cases d1 : x.1 < k.1
          · by_cases d2 : k.1 < x.2
            · simp [hk, d1, d2, splice, repl]
              refine ACall.mk _ _ _ (fn74 (accV l x i) [k.2] (by simp)) (by first | (simp; done) | simp [Bor_ls]) (by simp) (by first | (left; simp; done) | (right; simp; done)) ?_
              simp [hz, splice]
              refine ⟨i + 1, by omega, by omega, ?_⟩
              refine Weak.mk hE (lk [(0, 0), (1, 1), (2, 2)]) _ _ _ ?_ ?_ ?_ ?_ ?_ <;> simp [accV_succ hk, aroundS, d1, d2]
            · simp [hk, d1, d2, hz, splice]
              refine ⟨i + 1, by omega, by omega, ?_⟩
              refine Weak.mk hE (lk [(0, 0), (1, 1), (2, 2)]) _ _ _ ?_ ?_ ?_ ?_ ?_ <;> simp [accV_succ hk, d2]
          · simp [hk, d1, hz, splice]
            refine ⟨i + 1, by omega, by omega, ?_⟩
            refine Weak.mk hE (lk [(0, 0), (1, 1), (2, 2)]) _ _ _ ?_ ?_ ?_ ?_ ?_ <;> simp [accV_succ hk, d1]
        · simp at h
          have hil : i = l.length := by omega
          subst hil
          simp
          refine Weak.mk hE (lk [(0, 0), (1, 1)]) _ _ _ ?_ ?_ ?_ ?_ ?_ <;> simp
      · simp [splice]
        refine RetOk.by (fun _ => none) ?_
        simp [results20, valS, ht, hx, ha, ← he, hb, c1, c2]
    · simp [hx, splice]
      refine RetOk.by (fun _ => none) ?_
      simp [results20, valS, ht, hx]
  · simp [ht, splice]
    refine RetOk.by (fun _ => none) ?_
    simp [results20, valS, ht]
end Go.Proofs.Try
namespace Go.Proofs.Try
open Go.Psl
def spD (l : List (Int × Int)) : List D := l.flatMap fun s => [di s.1, di s.2]
abbrev cellsI (l : List (Int × Int)) : List V := (spD l).map .d
@[simp] theorem spD_len (l : List (Int × Int)) : (spD l).length = l.length * 2 := by
  induction l with
  | nil => rfl
  | cons a l ih => simp [spD] at ih ⊢; omega
theorem spD_snoc (l : List (Int × Int)) (p : Int × Int) : spD (l ++ [p]) = spD l ++ [di p.1, di p.2] := by simp [spD]
theorem fn116n (s : Int × Int) : Cm prog 116 [vsp s.1 s.2, .lp 0 0] (lk [(0, [.d (.lit (.slice none 0 0))])]) [0] (.ret (.tup [])) (lk [(0, [.ls 1 0 1 2]), (1, [vi s.1, vi s.2])]) := by
  refine Cm.by gok eok mixed 1 func116 c116 rfl (by simp [ntmps116]) (by simp) (HpIds.at (by simp)) (by simp) (by simp [ResIds]) fun E hs hE => ?_
  have w : IntKind.wrap .i64 (-1) = -1 := by decide
  simp [p116, w, repl, splice]
  refine RetOk.by (lk [(0, 0), (1, 22020097)]) ?_
  simp [results116]
theorem drop_last2 (l : List (Int × Int)) (x y : V) : (cellsI l ++ [x, y]).drop (l.length * 2 + 1) = [y] := by
  rw [show l.length * 2 = (cellsI l).length by simp, List.drop_append]
  simp
theorem splice_last2 (l : List (Int × Int)) (x y z : V) : splice (cellsI l ++ [x, y]) (l.length * 2 + 1) [z] = cellsI l ++ [x, z] := by
  have h1 : (cellsI l ++ [x, y]).take (l.length * 2 + 1) = cellsI l ++ [x] := by
    rw [show l.length * 2 = (cellsI l).length by simp, List.take_append, List.take_of_length_le (by omega)]
    simp
  have h2 : (cellsI l ++ [x, y]).drop (l.length * 2 + 1 + 1) = [] := by
    apply List.drop_of_length_le
    simp
  unfold splice
  simp [h1, h2]
theorem fn116a (l : List (Int × Int)) (p s : Int × Int) (hl : l.length ≤ 1000) (hp : -4611686018427387904 ≤ p.2 ∧ p.2 ≤ 4611686018427387904) (h : s.1 ≤ p.2 + 1) : Cm prog 116 [vsp s.1 s.2, .lp 0 0] (lk [(0, [.ls 1 0 (l.length + 1) 2]), (1, cellsI l ++ [vi p.1, vi p.2])]) [0] (.ret (.tup []))
    (lk [(0, [.ls 1 0 (l.length + 1) 2]), (1, cellsI l ++ [vi p.1, vi s.2])]) := by
  refine Cm.by gok eok mixed 2 func116 c116 rfl (by simp [ntmps116]) (by simp) (HpIds.at ?_) (by simp) ?_ fun E hs hE => ?_
  · simp
    rintro c (⟨a, _, rfl⟩ | rfl | rfl) <;> simp
  · simp [ResIds]
    rintro c (⟨a, _, rfl⟩ | rfl | rfl) <;> simp
  have w : IntKind.wrap .i64 (l.length : Int) = (l.length : Int) := wrap64 (by omega) (by omega)
  have w1 : IntKind.wrap .i64 (p.2 + 1) = p.2 + 1 := wrap64 (by omega) (by omega)
  have hlt : (l.length : Int) < (l.length : Int) + 1 := by omega
  have hdr := drop_last2 l (vi p.1) (vi p.2)
  simp [p116, w, w1, h, hlt, hdr, splice_last2]
  refine RetOk.by (lk [(0, 0), (1, 1)]) ?_
  simp [results116]
theorem fn116b (l : List (Int × Int)) (p s : Int × Int) (hl : l.length ≤ 1000) (hp : -4611686018427387904 ≤ p.2 ∧ p.2 ≤ 4611686018427387904) (h : ¬ s.1 ≤ p.2 + 1) : Cm prog 116 [vsp s.1 s.2, .lp 0 0] (lk [(0, [.ls 1 0 (l.length + 1) 2]), (1, cellsI l ++ [vi p.1, vi p.2])]) [0] (.ret (.tup []))
    (lk [(0, [.ls 1 0 (l.length + 2) 2]), (1, cellsI l ++ [vi p.1, vi p.2, vi s.1, vi s.2])]) := by
  refine Cm.by gok eok mixed 2 func116 c116 rfl (by simp [ntmps116]) (by simp) (HpIds.at ?_) (by simp) ?_ fun E hs hE => ?_
  · simp
    rintro c (⟨a, _, rfl⟩ | rfl | rfl) <;> simp
  · simp [ResIds]
    rintro c (⟨a, _, rfl⟩ | rfl | rfl | rfl | rfl) <;> simp
  have w : IntKind.wrap .i64 (l.length : Int) = (l.length : Int) := wrap64 (by omega) (by omega)
  have w1 : IntKind.wrap .i64 (p.2 + 1) = p.2 + 1 := wrap64 (by omega) (by omega)
  have hlt : (l.length : Int) < (l.length : Int) + 1 := by omega
  have hdr := drop_last2 l (vi p.1) (vi p.2)
  have hmx : (l.length + 1 + 1) * 16 ≤ 140737488355328 ∧ l.length + 1 + 1 ≤ 9223372036854775807 ∧ (l.length + 1) * 2 ≤ l.length * 2 + 2 := by omega
  have htk : (cellsI l ++ [vi p.1, vi p.2]).take ((l.length + 1) * 2) = cellsI l ++ [vi p.1, vi p.2] := List.take_of_length_le (by simp; omega)
  simp [p116, w, w1, h, repl, hlt, hdr, splice, hmx, htk]
  refine RetOk.by (lk [(0, 0), (1, 22020098)]) ?_
  simp [results116]
end Go.Proofs.Try
namespace Go.Proofs.Try
open Go.Psl
abbrev v3 (a b c : Int) : V := .agg [vi a, vi b, vi c]
def aboveS (f t w y : Int) : Int × Int :=
  if 0 < t - f then (max 0 (-(-((y - f) * w) / (t - f))), w) else if t - f < 0 then (0, min w (-((y - f) * w) / (-(t - f)))) else if 0 < (y - f) * w then (1, 0) else (0, w)
def lim (n : Int) : Prop := -1073741825 ≤ n ∧ n ≤ 1073741825
theorem want_le {f y w : Int} (hf : lim f) (hy : lim y) (hw : 0 ≤ w ∧ w ≤ 2147483648) : -4611686022722355200 ≤ (y - f) * w ∧ (y - f) * w ≤ 4611686022722355200 := by
  unfold lim at hf hy
  have h1 : (y - f) * w ≤ 2147483650 * w := Int.mul_le_mul_of_nonneg_right (by omega) hw.1
  have h2 : -2147483650 * w ≤ (y - f) * w := Int.mul_le_mul_of_nonneg_right (by omega) hw.1
  omega
theorem ediv_abs2 {a b M : Int} (hb : 1 ≤ b) (hM : 0 ≤ M) (ha : -M ≤ a ∧ a ≤ M) : -M ≤ a / b ∧ a / b ≤ M := by
  refine ⟨(Int.le_ediv_iff_mul_le (by omega)).2 ?_, ?_⟩
  · have h1 := Int.mul_le_mul_of_nonneg_left hb hM
    have h2 : -M * b = -(M * b) := by rw [Int.neg_mul]
    omega
  · by_cases h0 : 0 ≤ a
    · exact Int.le_trans (Int.ediv_le_self _ h0) ha.2
    · have := Int.ediv_neg_of_neg_of_pos (show a < 0 by omega) (show 0 < b by omega)
      omega
theorem fn117 (f t w y : Int) (hf : lim f) (ht : lim t) (hy : lim y) (hw : 0 ≤ w ∧ w ≤ 2147483648) : Ct prog 117 [v3 f t w, vi y] (.tup [vi (aboveS f t w y).1, vi (aboveS f t w y).2]) [] := by
  refine Ct.by gok eok mixed func117 c117 rfl (by simp [ntmps117]) (by simp) (by simp [ResIds]) fun E hE => ?_
  have hb := want_le hf hy hw
  unfold lim at hf ht hy
  have w1 : IntKind.wrap .i64 (t - f) = t - f := wrap64 (by omega) (by omega)
  have w2 : IntKind.wrap .i64 (y - f) = y - f := wrap64 (by omega) (by omega)
  have w3 : IntKind.wrap .i64 ((y - f) * w) = (y - f) * w := wrap64 (by omega) (by omega)
  obtain ⟨A, hA⟩ : ∃ A, (y - f) * w = A := ⟨_, rfl⟩
  obtain ⟨B, hB⟩ : ∃ B, t - f = B := ⟨_, rfl⟩
  rw [hA] at w3 hb
  rw [hB] at w1
  have w4 : IntKind.wrap .i64 (-A) = -A := wrap64 (by omega) (by omega)
  have w5 : IntKind.wrap .i64 (-B) = -B := wrap64 (by omega) (by omega)
  by_cases h1 : 0 < B
  · have q := ediv_abs2 (a := -A) (b := B) (M := 4611686022722355200) (by omega) (by omega) (by omega)
    have w6 : IntKind.wrap .i64 (-(-A / B)) = -(-A / B) := wrap64 (by omega) (by omega)
    simp [p117, hA, hB, w1, w2, w3, h1, w4]
    refine ACall.mk _ _ _ (fn113 (-A) B (by omega) (by omega) (by omega)) (by first | (simp; done) | simp [Bor_ls, Bor1_ls]) (by simp) (by first | (left; simp; done) | (right; simp; done)) ?_
    simp [w6]
    refine RetOk.by (fun _ => none) ?_
    simp [results117, aboveS, hA, hB, h1]
  · by_cases h2 : B < 0
    · have q := ediv_abs2 (a := -A) (b := -B) (M := 4611686022722355200) (by omega) (by omega) (by omega)
      simp [p117, hA, hB, w1, w2, w3, h1, h2, w4, w5]
      refine ACall.mk _ _ _ (fn113 (-A) (-B) (by omega) (by omega) (by omega)) (by first | (simp; done) | simp [Bor_ls, Bor1_ls]) (by simp) (by first | (left; simp; done) | (right; simp; done)) ?_
      simp
      refine RetOk.by (fun _ => none) ?_
      simp [results117, aboveS, hA, hB, h1, h2]
    · by_cases h3 : 0 < A
      · simp [p117, hA, hB, w1, w2, w3, h1, h2, h3]
        refine RetOk.by (fun _ => none) ?_
        simp [results117, aboveS, hA, hB, h1, h2, h3]
      · simp [p117, hA, hB, w1, w2, w3, h1, h2, h3]
        refine RetOk.by (fun _ => none) ?_
        simp [results117, aboveS, hA, hB, h1, h2, h3]
theorem fn118 (f t w y : Int) (hf : lim f) (ht : lim t) (hy : lim y) (hw : 0 ≤ w ∧ w ≤ 2147483648) : Ct prog 118 [v3 f t w, vi y] (.tup [vi (aboveS (-f) (-t) w (-y)).1, vi (aboveS (-f) (-t) w (-y)).2]) [] := by
  refine Ct.by gok eok mixed func118 c118 rfl (by simp [ntmps118]) (by simp) (by simp [ResIds]) fun E hE => ?_
  unfold lim at hf ht hy
  have w1 : IntKind.wrap .i64 (-f) = -f := wrap64 (by omega) (by omega)
  have w2 : IntKind.wrap .i64 (-t) = -t := wrap64 (by omega) (by omega)
  have w3 : IntKind.wrap .i64 (-y) = -y := wrap64 (by omega) (by omega)
  simp [p118, w1, w2, w3, splice]
  refine ACall.mk _ _ _ (fn117 (-f) (-t) w (-y) (by unfold lim; omega) (by unfold lim; omega) (by unfold lim; omega) hw) (by first | (simp; done) | simp [Bor_ls, Bor1_ls]) (by simp) (by first | (left; simp; done) | (right; simp; done)) ?_
  simp
  refine RetOk.by (fun _ => none) ?_
  simp [results118]
theorem fn81 (v : Int × Int) : Ct prog 81 [vsp v.1 v.2] (.tup [vi v.2, vi v.1]) [] := by
  refine Ct.by gok eok mixed func81 c81 rfl (by simp [ntmps81]) (by simp) (by simp [ResIds]) fun E hE => ?_
  simp [p81]
  refine RetOk.by (fun _ => none) ?_
  simp [results81]
theorem fn84 (v : Int × Int) : Ct prog 84 [vsp v.1 v.2] (.tup [vi v.1, vi v.2]) [] := by
  refine Ct.by gok eok mixed func84 c84 rfl (by simp [ntmps84]) (by simp) (by simp [ResIds]) fun E hE => ?_
  simp [p84]
  refine RetOk.by (fun _ => none) ?_
  simp [results84]
def putS (out : List (Int × Int)) (s : Int × Int) : List (Int × Int) := match out.getLast? with
  | some p => if s.1 ≤ p.2 + 1 then out.dropLast ++ [(p.1, s.2)] else out ++ [s]
  | none => [s]
theorem putS_nil (s : Int × Int) : putS [] s = [s] := rfl
theorem putS_snoc (l : List (Int × Int)) (p s : Int × Int) : putS (l ++ [p]) s = if s.1 ≤ p.2 + 1 then l ++ [(p.1, s.2)] else l ++ [p] ++ [s] := by simp [putS]
def edgeS (pick : Int × Int → Int × Int) (y : Int × Int) (a k : Int × Int × Int) : Int × Int :=
  (max (aboveS (pick a.2).1 (pick k.2).1 (k.1 - a.1) y.1).1 (aboveS (-(pick a.2).2) (-(pick k.2).2) (k.1 - a.1) (-y.2)).1,
   min (aboveS (pick a.2).1 (pick k.2).1 (k.1 - a.1) y.1).2 (aboveS (-(pick a.2).2) (-(pick k.2).2) (k.1 - a.1) (-y.2)).2)
def stepS (e : (Int × Int × Int) → (Int × Int × Int) → Int × Int) (l : List (Int × Int × Int)) (out : List (Int × Int)) (i : Nat) : List (Int × Int) := match l[i]?, l[i + 1]? with
  | some a, some k => if (e a k).1 ≤ (e a k).2 then putS out (a.1 + (e a k).1, a.1 + (e a k).2) else out
  | _, _ => out
def outS (e : (Int × Int × Int) → (Int × Int × Int) → Int × Int) (l : List (Int × Int × Int)) (i : Nat) : List (Int × Int) := (List.range i).foldl (stepS e l) []
theorem outS_succ (e : (Int × Int × Int) → (Int × Int × Int) → Int × Int) (l : List (Int × Int × Int)) (i : Nat) : outS e l (i + 1) = stepS e l (outS e l i) i := by simp [outS, List.range_succ]
def nearS (n : Int) : Int := min (max n (-1073741825)) 1073741825
def hdrV (out : List (Int × Int)) (b : Nat) : V := if out.isEmpty then .d (.lit (.slice none 0 0)) else .ls b 0 out.length 2
def outB (out : List (Int × Int)) (b : Nat) : List (Nat × List V) := if out.isEmpty then [] else [(b, cellsI out)]
end Go.Proofs.Try
namespace Go.Proofs.Try
open Go.Psl
theorem above_in (f t w y : Int) : 0 ≤ (aboveS f t w y).1 ∧ (aboveS f t w y).2 ≤ w ∨ (aboveS f t w y).2 < (aboveS f t w y).1 ∧ 0 ≤ (aboveS f t w y).1 := by
  unfold aboveS
  split
  · left; simp only; omega
  · split
    · left; simp only; omega
    · split
      · right; simp
      · left; simp
theorem edge_in {pick : Int × Int → Int × Int} {y : Int × Int} {a k : Int × Int × Int} (h : (edgeS pick y a k).1 ≤ (edgeS pick y a k).2) : 0 ≤ (edgeS pick y a k).1 ∧ (edgeS pick y a k).2 ≤ k.1 - a.1 := by
  unfold edgeS at h ⊢
  simp only at h ⊢
  have h1 := above_in (pick a.2).1 (pick k.2).1 (k.1 - a.1) y.1
  have h2 := above_in (-(pick a.2).2) (-(pick k.2).2) (k.1 - a.1) (-y.2)
  omega
theorem putS_all {q : Int × Int → Prop} (hq : ∀ a b c d, q (a, b) → q (c, d) → q (a, d)) {out : List (Int × Int)} {s : Int × Int} (ho : ∀ x ∈ out, q x) (hs : q s) : ∀ x ∈ putS out s, q x := by
  intro x hx
  unfold putS at hx
  cases hl : out.getLast? with
  | none =>
    rw [hl] at hx
    simp at hx
    subst hx; exact hs
  | some p =>
    rw [hl] at hx
    have hp : p ∈ out := List.mem_of_getLast? hl
    simp only at hx
    split at hx
    · simp only [List.mem_append, List.mem_singleton] at hx
      rcases hx with hx | rfl
      · exact ho x (List.dropLast_subset _ hx)
      · exact hq p.1 p.2 s.1 s.2 (ho p hp) hs
    · simp only [List.mem_append, List.mem_singleton] at hx
      rcases hx with hx | rfl
      · exact ho x hx
      · exact hs
theorem putS_len (out : List (Int × Int)) (s : Int × Int) : (putS out s).length ≤ out.length + 1 := by
  unfold putS
  cases hl : out.getLast? with
  | none => simp
  | some p =>
    simp only
    split <;> simp
theorem outS_in {pick : Int × Int → Int × Int} {y : Int × Int} {l : List (Int × Int × Int)} (ht : tabS l = true) : ∀ i, (∀ s ∈ outS (edgeS pick y) l i, -1073741824 ≤ s.2 ∧ s.2 ≤ 1073741824) ∧ (outS (edgeS pick y) l i).length ≤ i
  | 0 => by simp [outS]
  | i + 1 => by
    have ih := outS_in ht i (pick := pick) (y := y)
    rw [outS_succ]
    unfold stepS
    cases ha : l[i]? with
    | none => exact ⟨ih.1, by simp only; omega⟩
    | some a =>
      cases hk : l[i + 1]? with
      | none => exact ⟨ih.1, by simp only; omega⟩
      | some k =>
        simp only
        split
        · rename_i h
          have b := edge_in h
          have oa := okK_iff.1 (tab_okK ht ha)
          have ok := okK_iff.1 (tab_okK ht hk)
          have := putS_len (outS (edgeS pick y) l i) (a.1 + (edgeS pick y a k).1, a.1 + (edgeS pick y a k).2)
          refine ⟨putS_all (q := fun s => -1073741824 ≤ s.2 ∧ s.2 ≤ 1073741824) (fun _ _ _ _ _ h => h) ih.1 (by simp only; omega), by omega⟩
        · exact ⟨ih.1, by omega⟩
def findS (pick : Int × Int → Int × Int) (l : List (Int × Int × Int)) (y : Int × Int) : List (Int × Int) := outS (edgeS pick (nearS y.1, nearS y.2)) l (l.length - 1)
theorem nearS_lim (n : Int) : lim (nearS n) := by unfold lim nearS; omega
theorem nearS_max (n : Int) : min (max n (-1073741825)) 1073741825 = nearS n := rfl
theorem nearS_min (n : Int) : max (min n 1073741825) (-1073741825) = nearS n := by unfold nearS; omega
@[simp] theorem hdrV_nil (b : Nat) : hdrV [] b = .d (.lit (.slice none 0 0)) := rfl
@[simp] theorem hdrV_snoc (l : List (Int × Int)) (p : Int × Int) (b : Nat) : hdrV (l ++ [p]) b = .ls b 0 (l.length + 1) 2 := by simp [hdrV]
@[simp] theorem outB_nil (b : Nat) : outB [] b = [] := rfl
@[simp] theorem outB_snoc (l : List (Int × Int)) (p : Int × Int) (b : Nat) : outB (l ++ [p]) b = [(b, cellsI l ++ [vi p.1, vi p.2])] := by simp [outB, cellsI, spD_snoc]
@[simp] theorem hdrV_two (l : List (Int × Int)) (p q : Int × Int) (b : Nat) : hdrV (l ++ [p, q]) b = .ls b 0 (l.length + 2) 2 := by simp [hdrV]
@[simp] theorem outB_two (l : List (Int × Int)) (p q : Int × Int) (b : Nat) : outB (l ++ [p, q]) b = [(b, cellsI l ++ [vi p.1, vi p.2, vi q.1, vi q.2])] := by simp [outB, cellsI, spD]
@[simp] theorem hdrV_one (p : Int × Int) (b : Nat) : hdrV [p] b = .ls b 0 1 2 := rfl
@[simp] theorem outB_one (p : Int × Int) (b : Nat) : outB [p] b = [(b, [vi p.1, vi p.2])] := rfl
@[simp] theorem idsLt_outB (out : List (Int × Int)) (b n : Nat) (h : b < n) : idsLt n (outB out b) := by
  unfold outB
  split <;> simp [h]
theorem outB_ids (out : List (Int × Int)) (b : Nat) (L : List (Nat × List V)) : (∀ p ∈ outB out b, ∀ c ∈ p.2, AC (InB L) anyD c) := by
  unfold outB
  split
  · simp
  · simp
theorem outB_res (out : List (Int × Int)) (n : Int) : ResIds (.tup [hdrV out 0, vi n]) (outB out 0) := by
  refine ⟨?_, outB_ids out 0 _⟩
  unfold hdrV outB
  split
  · simp
  · simp [InB]
theorem fn80t (l : List (Int × Int × Int)) (y : Int × Int) (f : FuncId) (hl : l.length ≤ 1000000) (ht : tabS l = false) : Ct prog 80 [.d (knotsD l), vsp y.1 y.2, .d (.fn f [])] (.tup [.d (.lit (.slice none 0 0)), vi 13]) [] := by
  refine Ct.by gok eok mixed func80 c80 rfl (by simp [ntmps80]) (by simp) (by simp [ResIds]) fun E hE => ?_
  simp [p80]
  refine ACall.mk _ _ _ (fn26 l hl) (by first | (simp; done) | simp [Bor_ls, Bor1_ls]) (by simp) (by first | (left; simp; done) | (right; simp; done)) ?_
  simp [ht]
  refine RetOk.by (fun _ => none) ?_
  simp [results80]
theorem fn80s (l : List (Int × Int × Int)) (y : Int × Int) (f : FuncId) (hl : l.length ≤ 1000000) (ht : tabS l = true) (hy : okS y = false) : Ct prog 80 [.d (knotsD l), vsp y.1 y.2, .d (.fn f [])] (.tup [.d (.lit (.slice none 0 0)), vi 10]) [] := by
  refine Ct.by gok eok mixed func80 c80 rfl (by simp [ntmps80]) (by simp) (by simp [ResIds]) fun E hE => ?_
  simp [p80]
  refine ACall.mk _ _ _ (fn26 l hl) (by first | (simp; done) | simp [Bor_ls, Bor1_ls]) (by simp) (by first | (left; simp; done) | (right; simp; done)) ?_
  simp [ht]
  refine ACall.mk _ _ _ (fn46 y) (by first | (simp; done) | simp [Bor_ls, Bor1_ls]) (by simp) (by first | (left; simp; done) | (right; simp; done)) ?_
  simp [hy]
  refine RetOk.by (fun _ => none) ?_
  simp [results80]
theorem fn80 (l : List (Int × Int × Int)) (y : Int × Int) (f : FuncId) (pick : Int × Int → Int × Int) (hl : l.length ≤ 1000000) (hp : ∀ v : Int × Int, Ct prog f [vsp v.1 v.2] (.tup [vi (pick v).1, vi (pick v).2]) [])
    (hb : ∀ v : Int × Int, pick v = (v.1, v.2) ∨ pick v = (v.2, v.1)) (ht : tabS l = true) (hy : okS y = true) : Ct prog 80 [.d (knotsD l), vsp y.1 y.2, .d (.fn f [])]
    (.tup [hdrV (findS pick l y) 0, vi 0]) (outB (findS pick l y) 0) := by
  refine Ct.by gok eok mixed func80 c80 rfl (by simp [ntmps80]) (by simp) (outB_res _ _) fun E hE => ?_
  have hlen := tab_len ht
  have hlen1 : (1 : Int) ≤ l.length := by omega
  obtain ⟨rest, hrest⟩ : ∃ rest, l.drop 1 = rest := ⟨_, rfl⟩
  have hra : ∀ i, rest[i]? = l[i + 1]? := fun i => by rw [← hrest, List.getElem?_drop, Nat.add_comm]
  have hrl : rest.length = l.length - 1 := by rw [← hrest]; simp
  have hsl : (l.map fun k => [di k.1, di k.2.1, di k.2.2]).drop 1 = rest.map fun k => [di k.1, di k.2.1, di k.2.2] := by rw [← hrest, List.map_drop]
  have htk : (l.map fun k => [di k.1, di k.2.1, di k.2.2]).take l.length = l.map fun k => [di k.1, di k.2.1, di k.2.2] := List.take_of_length_le (by simp)
  simp [p80]
  refine ACall.mk _ _ _ (fn26 l hl) (by first | (simp; done) | simp [Bor_ls, Bor1_ls]) (by simp) (by first | (left; simp; done) | (right; simp; done)) ?_
  simp [ht]
  refine ACall.mk _ _ _ (fn46 y) (by first | (simp; done) | simp [Bor_ls, Bor1_ls]) (by simp) (by first | (left; simp; done) | (right; simp; done)) ?_
  simp [hy, splice, hlen1, htk, hsl, nearS_min, nearS_max]
  refine pw_loopC (α := Nat) 0 (fun _ : Unit => ⟨slots [(10, .lp 0 0)], lk ((0, [hdrV (findS pick l y) 1]) :: outB (findS pick l y) 1), 2⟩) (fun _ => True) (fun i => ⟨slots [(0, .d (knotsD l)), (2, .d (.fn f [])), (4, .lp 2 0), (10, .lp 0 0), (11, .cl 116 [.lp 0 0]), (53, .d (knotsD rest)), (54, vi rest.length), (55, vi i)], lk ((0, [hdrV (outS (edgeS pick (nearS y.1, nearS y.2)) l i) 1]) :: (2, [vi (nearS y.1), vi (nearS y.2)]) :: outB (outS (edgeS pick (nearS y.1, nearS y.2)) l i) 1), 3⟩) (fun i => i ≤ rest.length) (fun i => rest.length - i) 0 ?_ ?_ ?_ fun _ _ => ?_
  · simp
  · refine Weak.mk hE (lk [(0, 34603008), (2, 0)]) _ _ _ ?_ ?_ ?_ ?_ ?_ <;> simp [outS, hdrV, outB]
  · intro i hi
    simp [p80l0]
    refine cR_split (fun h => ?_) (fun h => ?_)
    · simp at h
      obtain ⟨i1, hi1⟩ : ∃ i1, i1 = i + 1 := ⟨_, rfl⟩
      obtain ⟨a, ha⟩ : ∃ a, l[i]? = some a := ⟨l[i], by simp [show i < l.length by omega]⟩
      obtain ⟨k, hk⟩ : ∃ k, l[i + 1]? = some k := ⟨l[i + 1], by simp [show i + 1 < l.length by omega]⟩
      have hrk : rest[i]? = some k := by rw [hra, hk]
      have oa := okK_iff.1 (tab_okK ht ha)
      have ok := okK_iff.1 (tab_okK ht hk)
      have hak := tab_mono ht ha hk (by omega)
      have hz : IntKind.wrap .i64 ((i : Int) + 1) = (i : Int) + 1 := wrap64 (by omega) (by omega)
      have ba : lim (pick a.2).1 ∧ lim (pick a.2).2 := by rcases hb a.2 with e | e <;> rw [e] <;> unfold lim <;> simp only <;> omega
      have bk : lim (pick k.2).1 ∧ lim (pick k.2).2 := by rcases hb k.2 with e | e <;> rw [e] <;> unfold lim <;> simp only <;> omega
      have w1 : IntKind.wrap .i64 (k.1 - a.1) = k.1 - a.1 := wrap64 (by omega) (by omega)
      have hst := outS_succ (edgeS pick (nearS y.1, nearS y.2)) l i
      simp only [stepS, ha, hk] at hst
      have hin := outS_in ht (pick := pick) (y := (nearS y.1, nearS y.2)) i
      have hei := edge_in (pick := pick) (y := (nearS y.1, nearS y.2)) (a := a) (k := k)
      obtain ⟨F, hF⟩ : ∃ F, (edgeS pick (nearS y.1, nearS y.2) a k).1 = F := ⟨_, rfl⟩
      obtain ⟨T, hT⟩ : ∃ T, (edgeS pick (nearS y.1, nearS y.2) a k).2 = T := ⟨_, rfl⟩
      rw [hF, hT] at hst hei
      have hF' : max (aboveS (pick a.2).1 (pick k.2).1 (k.1 - a.1) (nearS y.1)).1 (aboveS (-(pick a.2).2) (-(pick k.2).2) (k.1 - a.1) (-(nearS y.2))).1 = F := hF
      have hT' : min (aboveS (pick a.2).1 (pick k.2).1 (k.1 - a.1) (nearS y.1)).2 (aboveS (-(pick a.2).2) (-(pick k.2).2) (k.1 - a.1) (-(nearS y.2))).2 = T := hT
      obtain ⟨out, hout⟩ : ∃ out, outS (edgeS pick (nearS y.1, nearS y.2)) l i = out := ⟨_, rfl⟩
      rw [hout] at hst hin
      rw [hout]
      simp [hrk, ha, splice]
      refine ACall.mk _ _ _ (hp a.2) (by first | (simp; done) | simp [Bor_ls, Bor1_ls]) (by simp) (by first | (left; simp; done) | (right; simp; done)) ?_
      simp
      refine ACall.mk _ _ _ (hp k.2) (by first | (simp; done) | simp [Bor_ls, Bor1_ls]) (by simp) (by first | (left; simp; done) | (right; simp; done)) ?_
      simp [ha, w1, splice]
      refine ACall.mk _ _ _ (fn117 (pick a.2).1 (pick k.2).1 (k.1 - a.1) (nearS y.1) ba.1 bk.1 (nearS_lim _) (by omega)) (by first | (simp; done) | simp [Bor_ls, Bor1_ls]) (by simp) (by first | (left; simp; done) | (right; simp; done)) ?_
      simp [splice]
      refine ACall.mk _ _ _ (fn118 (pick a.2).2 (pick k.2).2 (k.1 - a.1) (nearS y.2) ba.2 bk.2 (nearS_lim _) (by omega)) (by first | (simp; done) | simp [Bor_ls, Bor1_ls]) (by simp) (by first | (left; simp; done) | (right; simp; done)) ?_
      by_cases hle : F ≤ T
      · rw [if_pos hle] at hst
        have hin2 := hei hle
        have u1 : IntKind.wrap .i64 (a.1 + F) = a.1 + F := wrap64 (by omega) (by omega)
        have u2 : IntKind.wrap .i64 (a.1 + T) = a.1 + T := wrap64 (by omega) (by omega)
        rcases List.eq_nil_or_concat out with rfl | ⟨l', p, rfl⟩
        · simp [hF', hT', hle, ha, u1, u2, splice]
          refine ACall.mkN [vsp (a.1 + F) (a.1 + T), .lp 0 0] [(0, [.d (.lit (.slice none 0 0))])] [0] (.ret (.tup [])) [(0, [.ls 1 0 1 2]), (1, [vi (a.1 + F), vi (a.1 + T)])] (fn116n (a.1 + F, a.1 + T)) ?_ ?_ ?_ ?_ ?_ ?_
          · simp
          · simp
          · simp
          · simp
          · left; simp
          simp [hz]
          refine ⟨i + 1, by omega, by omega, ?_⟩
          rw [hst, putS_nil]
          refine Weak.mk hE (lk [(0, 0), (1, 92274692), (2, 2)]) _ _ _ ?_ ?_ ?_ ?_ ?_ <;> simp
        · rw [List.concat_eq_append] at hst hin
          rw [putS_snoc] at hst
          have hpb := hin.1 p (by simp)
          have hll : l'.length ≤ 1000 := by have := hin.2; simp at this; omega
          rw [List.concat_eq_append]
          simp [hF', hT', hle, ha, u1, u2, splice]
          by_cases hov : a.1 + F ≤ p.2 + 1
          · rw [if_pos hov] at hst
            refine ACall.mkN [vsp (a.1 + F) (a.1 + T), .lp 0 0] [(0, [.ls 1 0 (l'.length + 1) 2]), (1, cellsI l' ++ [vi p.1, vi p.2])] [0] (.ret (.tup [])) [(0, [.ls 1 0 (l'.length + 1) 2]), (1, cellsI l' ++ [vi p.1, vi (a.1 + T)])] (fn116a l' p (a.1 + F, a.1 + T) hll (by omega) hov) ?_ ?_ ?_ ?_ ?_ ?_
            · simp
            · simp
            · simp
            · simp
            · left; simp
            simp [hz]
            refine ⟨i + 1, by omega, by omega, ?_⟩
            rw [hst]
            refine Weak.mk hE (lk [(0, 0), (1, 92274692), (2, 2)]) _ _ _ ?_ ?_ ?_ ?_ ?_ <;> simp
            rintro c (⟨a, _, rfl⟩ | rfl | rfl) <;> simp
          · rw [if_neg hov] at hst
            refine ACall.mkN [vsp (a.1 + F) (a.1 + T), .lp 0 0] [(0, [.ls 1 0 (l'.length + 1) 2]), (1, cellsI l' ++ [vi p.1, vi p.2])] [0] (.ret (.tup [])) [(0, [.ls 1 0 (l'.length + 2) 2]), (1, cellsI l' ++ [vi p.1, vi p.2, vi (a.1 + F), vi (a.1 + T)])] (fn116b l' p (a.1 + F, a.1 + T) hll (by omega) hov) ?_ ?_ ?_ ?_ ?_ ?_
            · simp
            · simp
            · simp
            · simp
            · left; simp
            simp [hz]
            refine ⟨i + 1, by omega, by omega, ?_⟩
            rw [hst]
            refine Weak.mk hE (lk [(0, 0), (1, 92274692), (2, 2)]) _ _ _ ?_ ?_ ?_ ?_ ?_ <;> simp
            rintro c (⟨a, _, rfl⟩ | rfl | rfl | rfl | rfl) <;> simp
      · rw [if_neg hle] at hst
        simp [hF', hT', hle, hz]
        refine ⟨i + 1, by omega, by omega, ?_⟩
        rw [hst]
        rcases List.eq_nil_or_concat out with rfl | ⟨l', p, rfl⟩
        · refine Weak.mk hE (lk [(0, 0), (2, 2)]) _ _ _ ?_ ?_ ?_ ?_ ?_ <;> simp
        · refine Weak.mk hE (lk [(0, 0), (1, 1), (2, 2)]) _ _ _ ?_ ?_ ?_ ?_ ?_ <;> simp
          rintro c (⟨a, _, rfl⟩ | rfl | rfl) <;> simp
    · simp at h
      have hil : i = l.length - 1 := by omega
      have hf : findS pick l y = outS (edgeS pick (nearS y.1, nearS y.2)) l i := by rw [findS, hil]
      simp
      rw [hf]
      rcases List.eq_nil_or_concat (outS (edgeS pick (nearS y.1, nearS y.2)) l i) with e | ⟨l', p, e⟩ <;> rw [e]
      · refine Weak.mk hE (lk [(0, 0)]) _ _ _ ?_ ?_ ?_ ?_ ?_ <;> simp
      · refine Weak.mk hE (lk [(0, 0), (1, 1)]) _ _ _ ?_ ?_ ?_ ?_ ?_ <;> simp
        rintro c (⟨a, _, rfl⟩ | rfl | rfl) <;> simp
  · simp
    rcases List.eq_nil_or_concat (findS pick l y) with e | ⟨l', p, e⟩ <;> rw [e]
    · simp
      refine RetOk.by (fun _ => none) ?_
      simp [results80]
    · simp
      refine RetOk.by (lk [(0, 1)]) ?_
      simp [results80]
end Go.Proofs.Try
namespace Go.Proofs.Try
open Go.Psl
def mayS (pick : Int × Int → Int × Int) (l : List (Int × Int × Int)) (y : Int × Int) : List (Int × Int) × Int := if tabS l = true then if okS y = true then (findS pick l y, 0) else ([], 10) else ([], 13)
theorem fn80u (l : List (Int × Int × Int)) (y : Int × Int) (f : FuncId) (pick : Int × Int → Int × Int) (hl : l.length ≤ 1000000) (hp : ∀ v : Int × Int, Ct prog f [vsp v.1 v.2] (.tup [vi (pick v).1, vi (pick v).2]) [])
    (hb : ∀ v : Int × Int, pick v = (v.1, v.2) ∨ pick v = (v.2, v.1)) : Ct prog 80 [.d (knotsD l), vsp y.1 y.2, .d (.fn f [])] (.tup [hdrV (mayS pick l y).1 0, vi (mayS pick l y).2]) (outB (mayS pick l y).1 0) := by
  unfold mayS
  cases ht : tabS l with
  | true =>
    cases hy : okS y with
    | true => exact fn80 l y f pick hl hp hb ht hy
    | false => exact fn80s l y f hl ht hy
  | false => exact fn80t l y f hl ht
theorem fn22 (l : List (Int × Int × Int)) (y : Int × Int) (hl : l.length ≤ 1000000) : Ct prog 22 [.d (knotsD l), vsp y.1 y.2] (.tup [hdrV (mayS (fun v => (v.2, v.1)) l y).1 0, vi (mayS (fun v => (v.2, v.1)) l y).2]) (outB (mayS (fun v => (v.2, v.1)) l y).1 0) := by
  refine Ct.by gok eok mixed func22 c22 rfl (by simp [ntmps22]) (by simp) (outB_res _ _) fun E hE => ?_
  simp [p22]
  refine ACall.mk _ _ _ (fn80u l y 81 (fun v => (v.2, v.1)) hl fn81 (fun _ => Or.inr rfl)) (by first | (simp; done) | simp [Bor_ls, Bor1_ls]) (by simp) (by first | (left; simp; done) | (right; simp; done)) ?_
  rcases List.eq_nil_or_concat (mayS (fun v => (v.2, v.1)) l y).1 with e | ⟨l', p, e⟩
  · simp [e]
    refine RetOk.by (fun _ => none) ?_
    simp [results22]
  · simp [e]
    refine RetOk.by (lk [(0, 5242880)]) ?_
    simp [results22]
theorem fn24 (l : List (Int × Int × Int)) (y : Int × Int) (hl : l.length ≤ 1000000) : Ct prog 24 [.d (knotsD l), vsp y.1 y.2] (.tup [hdrV (mayS (fun v => (v.1, v.2)) l y).1 0, vi (mayS (fun v => (v.1, v.2)) l y).2]) (outB (mayS (fun v => (v.1, v.2)) l y).1 0) := by
  refine Ct.by gok eok mixed func24 c24 rfl (by simp [ntmps24]) (by simp) (outB_res _ _) fun E hE => ?_
  simp [p24]
  refine ACall.mk _ _ _ (fn80u l y 84 (fun v => (v.1, v.2)) hl fn84 (fun _ => Or.inl rfl)) (by first | (simp; done) | simp [Bor_ls, Bor1_ls]) (by simp) (by first | (left; simp; done) | (right; simp; done)) ?_
  rcases List.eq_nil_or_concat (mayS (fun v => (v.1, v.2)) l y).1 with e | ⟨l', p, e⟩
  · simp [e]
    refine RetOk.by (fun _ => none) ?_
    simp [results24]
  · simp [e]
    refine RetOk.by (lk [(0, 5242880)]) ?_
    simp [results24]
end Go.Proofs.Try
namespace Go.Psl
variable {P : Program} {G : Gh} {W : World}
def Gh.cmp (G : Gh) (σ : Nat → Nat) : Gh := ⟨fun i => G.β (σ i), fun i => G.bs (σ i), fun i => G.ph (σ i), fun i => G.lo (σ i), G.Im⟩
theorem R0_ren {σ : Nat → Nat} {v : V} {x : Value} (h : R0 G W (ren0 σ v) x) : R0 (G.cmp σ) W v x := by cases v <;> exact h
theorem all_ren {S S' : V → Value → Prop} {r : V → V} (h : ∀ v x, S (r v) x → S' v x) {cs : List V} {xs : List Value} (ha : All2 S (cs.map r) xs) : All2 S' cs xs :=
  (All2.map_left.1 ha).mono fun c _ x hx => h c x hx
theorem R1_ren {σ : Nat → Nat} {v : V} {x : Value} (h : R1 G W (ren1 σ v) x) : R1 (G.cmp σ) W v x := by
  cases v with
  | cl f caps => obtain ⟨cv, hx, hc⟩ := h; exact ⟨cv, hx, all_ren (fun v x => R0_ren) hc⟩
  | _ => exact h
theorem R2_ren {σ : Nat → Nat} {v : V} {x : Value} (h : R2 G W (ren2 σ v) x) : R2 (G.cmp σ) W v x := by
  cases v with
  | agg cs => obtain ⟨cv, hx, hc⟩ := h; exact ⟨cv, hx, all_ren (fun v x => R1_ren) hc⟩
  | cl f caps => exact R1_ren (v := .cl f caps) h
  | _ => exact h
theorem RV_ren {σ : Nat → Nat} {v : V} {x : Value} (h : RV G W (ren σ v) x) : RV (G.cmp σ) W v x := by
  cases v with
  | tup cs => obtain ⟨cv, hx, hc⟩ := h; exact ⟨cv, hx, all_ren (fun v x => R2_ren) hc⟩
  | agg cs => exact R2_ren (v := .agg cs) h
  | cl f caps => exact R2_ren (v := .cl f caps) h
  | _ => exact h
theorem isCell_unren {σ : Nat → Nat} {v : V} (h : V.isCell (renC σ v) = true) : V.isCell v = true := by
  cases v <;> first | rfl | (simp [renC, ren1, ren0, V.isCell] at h; done)
theorem HB_ren {σ : Nat → Nat} {i : Nat} {cs : List V} (h : HB G W (σ i) (cs.map (renC σ))) : HB (G.cmp σ) W i cs := by
  rcases h with ⟨h1, h2⟩ | ⟨h1, h0, h2, c, T, h3, h4, h5, h6, h7⟩ | ⟨h1, h0, h2, fr, nt, ps, pa, pb, jmp, rec, h3, h4, h5⟩
  · exact .inl ⟨h1, List.map_eq_nil_iff.1 h2⟩
  · have hcell : ∀ v ∈ cs, V.isCell v = true := fun v hv => isCell_unren (List.all_eq_true.1 h7 _ (List.mem_map.2 ⟨v, hv, rfl⟩))
    have hmap : cs.map (renC σ) = cs.map (ren1 σ) := List.map_congr_left fun c hc => renC_cell (hcell c hc)
    rw [hmap] at h5 h6
    refine .inr (.inl ⟨h1, h0, h2, c, T, h3, h4, by simpa using h5, ?_, List.all_eq_true.2 hcell⟩)
    rw [List.length_map] at h6
    exact all_ren (fun v x => R1_ren) h6
  · obtain ⟨c, rfl, hc⟩ : ∃ c, cs = [c] ∧ renC σ c = .lr fr nt ps pa pb jmp := by
      match cs, h3 with
      | [c], h3 => simp at h3; exact ⟨c, rfl, h3⟩
      | [], h3 => simp at h3
      | _ :: _ :: _, h3 => simp at h3
    cases c with
    | lr fr0 nt0 ps0 pa0 pb0 jmp0 =>
      simp only [renC, V.lr.injEq] at hc
      obtain ⟨rfl, rfl, rfl, rfl, rfl, rfl⟩ := hc
      obtain ⟨q1, q2, q3, q4, q5, q6⟩ := h5
      exact .inr (.inr ⟨h1, h0, h2, fr0, _, _, _, _, _, rec, rfl, h4, q1, q2, q3, q4, fun t => RV_ren (q5 t), q6⟩)
    | _ => simp [renC, ren1, ren0] at hc
def renL (σ : Nat → Nat) (L : List (Nat × List V)) : List (Nat × List V) := L.map fun p => (σ p.1, p.2.map (renC σ))
theorem lk_ren {σ : Nat → Nat} {K : Nat} (hinj : ∀ i j, i < K → j < K → σ i = σ j → i = j) : ∀ {L : List (Nat × List V)} {i : Nat}, idsLt K L → i < K → lk (renL σ L) (σ i) = (lk L i).map (·.map (renC σ))
  | [], _, _, _ => rfl
  | p :: r, i, hL, hi => by
    simp only [renL, List.map_cons, lk]
    by_cases h : i = p.1
    · subst h; simp
    · rw [if_neg h, if_neg (fun e => h (hinj _ _ hi hL.1 e))]
      exact lk_ren hinj hL.2 hi
theorem lk_ren_inv {σ : Nat → Nat} {K : Nat} (hinj : ∀ i j, i < K → j < K → σ i = σ j → i = j) {L : List (Nat × List V)} {j : Nat} {cs' : List V} (hL : idsLt K L) (h : lk (renL σ L) j = some cs') : ∃ i cs, i < K ∧ j = σ i ∧ lk L i = some cs ∧ cs' = cs.map (renC σ) := by
  have hm := lk_mem' h
  simp only [renL, List.mem_map] at hm
  obtain ⟨p, hp, e⟩ := hm
  have hlt : p.1 < K := by
    have : ∀ {L : List (Nat × List V)}, idsLt K L → p ∈ L → p.1 < K := by
      intro L
      induction L with
      | nil => intro _ h; cases h
      | cons q r ih =>
        intro h h2
        rcases List.mem_cons.1 h2 with rfl | h2
        · exact h.1
        · exact ih h.2 h2
    exact this hL hp
  have hj : j = σ p.1 := by cases e; rfl
  rw [hj, lk_ren hinj hL hlt, Option.map_eq_some_iff] at h
  obtain ⟨cs, h1, h2⟩ := h
  exact ⟨p.1, cs, hlt, hj, h1, h2.symm⟩
theorem Cm.rename (σ : Nat → Nat) (K : Nat) (hinj : ∀ i j, i < K → j < K → σ i = σ j → i = j) {f : FuncId} {args : List V} {L : List (Nat × List V)} {ks : List Nat} {res : Res} {L1 : List (Nat × List V)} (h : Cm P f args (lk L) ks res (lk L1)) (hL : idsLt K L) (hL1 : idsLt K L1) (hks : ∀ i ∈ ks, i < K) :
    Cm P f (args.map (ren2 σ)) (lk (renL σ L)) (ks.map σ) (renR σ res) (lk (renL σ L1)) := by
  refine ⟨h.1, fun G W xs hGW hargs hpre => ?_⟩
  have hIn : ∀ i, i < K → (InH (lk (renL σ L)) (σ i) ↔ InH (lk L) i) := fun i hi => by unfold InH; rw [lk_ren hinj hL hi]; simp
  have hIn1 : ∀ i, i < K → (InH (lk (renL σ L1)) (σ i) ↔ InH (lk L1) i) := fun i hi => by unfold InH; rw [lk_ren hinj hL1 hi]; simp
  have hlent : ∀ b, lentB (G.cmp σ) (lk L) b → lentB G (lk (renL σ L)) b := fun b ⟨i, hi, hp, he⟩ => ⟨σ i, (hIn i (lk_lt hL hi)).2 hi, hp, he⟩
  have hlent' : ∀ b, lentB G (lk (renL σ L)) b → lentB (G.cmp σ) (lk L) b := fun b ⟨j, hj, hp, he⟩ => by
    obtain ⟨cs', hcs⟩ := Option.isSome_iff_exists.1 hj
    obtain ⟨i, cs, hi, rfl, h1, _⟩ := lk_ren_inv hinj hL hcs
    exact ⟨i, by unfold InH; rw [h1]; rfl, hp, he⟩
  have hpre' : PreH (G.cmp σ) W (lk L) ks := by
    refine ⟨fun i cs hi => HB_ren (hpre.hb (σ i) _ ?_), fun i j hi hj hpi hpj he => ?_, fun i hi => ?_⟩
    · rw [lk_ren hinj hL (lk_lt hL (by unfold InH; rw [hi]; rfl)), hi]; rfl
    · have li := lk_lt hL hi; have lj := lk_lt hL hj
      exact hinj i j li lj (hpre.inj _ _ ((hIn i li).2 hi) ((hIn j lj).2 hj) hpi hpj he)
    · obtain ⟨h1, h2⟩ := hpre.st (σ i) (List.mem_map.2 ⟨i, hi, rfl⟩)
      exact ⟨(hIn i (hks i hi)).1 h1, h2⟩
  refine (h.2 (G.cmp σ) W xs hGW (all_ren (fun v x => R2_ren) hargs) hpre').mono fun e W' ⟨G1, hp⟩ => ?_
  obtain ⟨τ, hτ⟩ : ∃ τ : Nat → Nat, ∀ i, i < K → τ (σ i) = i := by
    refine ⟨fun j => if hj : ∃ i, i < K ∧ σ i = j then hj.choose else 0, fun i hi => ?_⟩
    have hj : ∃ i', i' < K ∧ σ i' = σ i := ⟨i, hi, rfl⟩
    simp only [dif_pos hj]
    exact hinj _ _ hj.choose_spec.1 hi hj.choose_spec.2
  have hint : Into (InH (lk L1)) anyD σ G1 W' (G1.cmp τ) W' := ⟨fun i hi => by
    have := hτ i (lk_lt hL1 hi)
    simp only [Gh.cmp, this, and_self], fun _ _ _ h => h⟩
  refine ⟨G1.cmp τ, ⟨hp.os, hp.tape, hp.output, hp.drawn, hp.size, fun b hb hl => hp.block b hb (fun h => hl (hlent b h)), fun b hb => ?_, fun b hb => hp.im0 b hb, resRel.into hint hp.wf hp.rv, ?_, ?_, ?_, ?_⟩⟩
  · obtain ⟨h1, h2⟩ := hp.im b hb
    exact ⟨h1, h2.imp id (Or.imp id (hlent b))⟩
  · cases res with
    | ret r => exact AV.ren (fun i hi => (hIn1 i (lk_lt hL1 hi)).2 hi) hp.wf
    | pan r => exact AV.ren (fun i hi => (hIn1 i (lk_lt hL1 hi)).2 hi) hp.wf
  · intro j cs' hj
    obtain ⟨i, cs, hi, rfl, h1, rfl⟩ := lk_ren_inv hinj hL1 hj
    have hin : InH (lk L1) i := by unfold InH; rw [h1]; rfl
    obtain ⟨q1, q2, q3⟩ := hp.hb i cs h1
    refine ⟨hint.hb hin q3 q1 (fun hph => q1.nim hph), fun hph => ?_, fun c hc => ?_⟩
    · simp only [Gh.cmp, hτ i hi] at hph ⊢
      exact (q2 hph).imp id (hlent _)
    · obtain ⟨c0, hc0, rfl⟩ := List.mem_map.1 hc
      exact AC.ren (fun i hi => (hIn1 i (lk_lt hL1 hi)).2 hi) (q3 c0 hc0)
  · intro j j' hj hj' hpj hpj' he
    obtain ⟨x, hx⟩ := Option.isSome_iff_exists.1 hj
    obtain ⟨y, hy⟩ := Option.isSome_iff_exists.1 hj'
    obtain ⟨i, cs, hi, rfl, h1, _⟩ := lk_ren_inv hinj hL1 hx
    obtain ⟨i', cs', hi', rfl, h1', _⟩ := lk_ren_inv hinj hL1 hy
    simp only [Gh.cmp, hτ i hi, hτ i' hi'] at hpj hpj' he
    rw [hp.inj i i' (by unfold InH; rw [h1]; rfl) (by unfold InH; rw [h1']; rfl) hpj hpj' he]
  · intro j hj hin
    obtain ⟨i, hi, rfl⟩ := List.mem_map.1 hj
    have := hp.st i hi ((hIn1 i (hks i hi)).1 hin)
    simp only [Gh.cmp, hτ i (hks i hi)] at this ⊢
    exact this
theorem hiOk_at {ks : List Nat} {L1 : List (Nat × List V)} (hi : ∀ p ∈ L1, p.1 ∈ ks ∨ p.1 < 1048576) {i : Nat} (h : InH (lk L1) i) (hn : i ∉ ks) : i < 1048576 := by
  obtain ⟨x, hx⟩ := Option.isSome_iff_exists.1 h
  rcases hi _ (lk_mem' hx) with h | h
  · exact absurd h hn
  · exact h
theorem ACall.mkR {H : Hp} {b : Nat} {g : FuncId} {az : List V} {Kc Kx : V → Hp → Prop} (args : List V) (L : List (Nat × List V)) (ks : List Nat) (res : Res) (L1 : List (Nat × List V)) (hf : Cm P g args (lk L) ks res (lk L1)) (hin : HinOk H L) (hi : ∀ p ∈ L1, p.1 ∈ ks ∨ p.1 < 1048576) (hks : ksOk b L L1 ks) (hL : ∀ p ∈ L, p.1 < b)
    (hb : All2 (Bor noH) az args ∨ (All2 (Bor (delL H L)) az args ∧ AV (InH (lk L1)) litD res.v ∧ flatL (InH (lk L1)) L1)) (hk : afterC res (sg ks b) (addM (delL H L) ks b L1) Kc Kx) : ACall P true H H b g az Kc Kx := by
  have hL' : ∀ i, InH (lk L) i → i < b := fun i h => by
    obtain ⟨x, hx⟩ := Option.isSome_iff_exists.1 h
    exact hL _ (lk_mem' hx)
  refine ⟨args, lk L, ks, res, lk L1, _, ⟨hf, hin.at, fun i h hn => hiOk_at hi h hn, fun i h => (hks.at i h).2.2, hb.imp id fun h => ⟨?_, flatRes_of h.2.1 h.2.2⟩⟩, nofun, (heapM_list H ks b L L1 hks hL').symm, hk⟩
  have : lessH H (lk L) = delL H L := by funext i; rw [delL_eq]; rfl
  rw [this]; exact h.1
end Go.Psl
namespace Go.Proofs.Try
open Go.Psl
@[simp] theorem spD_nil : spD [] = [] := rfl
theorem spD_cons (p : Int × Int) (l : List (Int × Int)) : spD (p :: l) = di p.1 :: di p.2 :: spD l := rfl
theorem spD_app (l m : List (Int × Int)) : spD (l ++ m) = spD l ++ spD m := by simp [spD]
theorem spD_at : ∀ {l : List (Int × Int)} {i : Nat} {p : Int × Int}, l[i]? = some p → ((spD l).drop (i * 2)).take 2 = [di p.1, di p.2]
  | [], i, p, h => by simp at h
  | a :: l, 0, p, h => by simp at h; subst h; rfl
  | a :: l, i + 1, p, h => by
    simp at h
    rw [show (i + 1) * 2 = i * 2 + 2 by omega, spD_cons, List.drop_succ_cons, List.drop_succ_cons]
    exact spD_at h
theorem cells_at {l : List (Int × Int)} {i : Nat} {p : Int × Int} (h : l[i]? = some p) : List.take 2 (List.drop (i * 2) (List.map V.d (spD l))) = [vi p.1, vi p.2] := by
  rw [← List.map_drop, ← List.map_take, spD_at h]; rfl
theorem spD_set : ∀ {l : List (Int × Int)} {i : Nat} (p : Int × Int), i < l.length → (spD l).take (i * 2) ++ [di p.1, di p.2] ++ (spD l).drop (i * 2 + 2) = spD (l.set i p)
  | [], i, p, h => by simp at h
  | a :: l, 0, p, h => rfl
  | a :: l, i + 1, p, h => by
    have := spD_set (l := l) (i := i) p (by simpa using h)
    rw [show (i + 1) * 2 = i * 2 + 1 + 1 by omega, spD_cons, List.take_succ_cons, List.take_succ_cons, List.set_cons_succ, spD_cons, ← this]
    simp [List.drop_succ_cons]
theorem cells_set {l : List (Int × Int)} {i : Nat} (p : Int × Int) (h : i < l.length) : splice (List.map V.d (spD l)) (i * 2) [vi p.1, vi p.2] = List.map V.d (spD (l.set i p)) := by
  unfold splice
  rw [← spD_set p h, List.map_append, List.map_append, List.map_take, List.map_drop]
  rfl
theorem sp_flat' (l : List (Int × Int)) : (l.map fun s => [di s.1, di s.2]).flatten = spD l := rfl
theorem fn126 (l : List (Int × Int)) (hl : l.length ≤ 1000000000) (h0 : l ≠ []) : Ct prog 126 [.d (spansD l)] (.ls 0 0 l.length 2) [(0, cellsI l)] := by
  refine Ct.by gok eok mixed func126 c126 rfl (by simp [ntmps126]) (by simp) (by simp [ResIds]) fun E hE => ?_
  obtain ⟨a, r, rfl⟩ := List.exists_cons_of_ne_nil h0
  have hmx : (r.length + 1) * 16 ≤ 140737488355328 ∧ r.length + 1 ≤ 9223372036854775807 := by simp at hl; omega
  have e : spansD (a :: r) = .sl 2 ([di a.1, di a.2] :: r.map fun s => [di s.1, di s.2]) := rfl
  have ef : (r.map fun s => [di s.1, di s.2]).flatten = spD r := rfl
  simp [p126, e, ef, repl, hmx]
  refine RetOk.by (lk [(0, 5242880)]) ?_
  have ec : cellsI (a :: r) = V.d (di a.1) :: V.d (di a.2) :: (spD r).map .d := rfl
  simp [results126, ec]
end Go.Proofs.Try
namespace Go.Proofs.Try
open Go.Psl
def revN (l : List (Int × Int)) : Nat → List (Int × Int)
  | 0 => l
  | i + 1 => ((revN l i).set i (l.getD (l.length - 1 - i) (0, 0))).set (l.length - 1 - i) (l.getD i (0, 0))
theorem revN_len (l : List (Int × Int)) : ∀ i, (revN l i).length = l.length
  | 0 => rfl
  | i + 1 => by simp [revN, revN_len l i]
theorem revN_at (l : List (Int × Int)) : ∀ i, 2 * i ≤ l.length → ∀ k, k < l.length → (revN l i)[k]? = if k < i ∨ l.length - i ≤ k then l[l.length - 1 - k]? else l[k]?
  | 0, _, k, hk => by simp [revN]; omega
  | i + 1, h, k, hk => by
    have ih := revN_at l i (by omega) k hk
    have g : ∀ j, j < l.length → some (l.getD j (0, 0)) = l[j]? := fun j hj => by
      rw [List.getD_eq_getElem?_getD, List.getElem?_eq_getElem hj]; rfl
    simp only [revN]
    by_cases h1 : k = l.length - 1 - i
    · subst h1
      rw [List.getElem?_set_self (by simp [revN_len]; omega), g i (by omega), if_pos (by omega)]
      congr 1; omega
    · rw [List.getElem?_set_ne (by omega)]
      by_cases h2 : k = i
      · subst h2
        rw [List.getElem?_set_self (by simp [revN_len]; omega), g _ (by omega), if_pos (by omega)]
      · rw [List.getElem?_set_ne (by omega), ih]
        by_cases h3 : k < i ∨ l.length - i ≤ k
        · rw [if_pos h3, if_pos (by omega)]
        · rw [if_neg h3, if_neg (by omega)]
theorem revN_end {l : List (Int × Int)} {i : Nat} (h : 2 * i ≤ l.length) (h2 : l.length ≤ 2 * i + 1) : revN l i = l.reverse := by
  apply List.ext_getElem?
  intro k
  by_cases hk : k < l.length
  · rw [revN_at l i h k hk, List.getElem?_reverse hk]
    by_cases h3 : k < i ∨ l.length - i ≤ k
    · rw [if_pos h3]
    · rw [if_neg h3]; congr 1; omega
  · rw [List.getElem?_eq_none (by rw [revN_len]; omega), List.getElem?_eq_none (by rw [List.length_reverse]; omega)]
theorem fn132 (l z : List (Int × Int)) (hl : l.length ≤ 1000000000) : Cm prog 132 [.ls 0 0 l.length 2] (lk [(0, cellsI (l ++ z))]) [0] (.ret (.tup [])) (lk [(0, cellsI (l.reverse ++ z))]) := by
  refine Cm.by gok eok mixed 1 func132 c132 rfl (by simp [ntmps132]) (by simp) (HpIds.at ?_) (by simp) ?_ fun E hE hs => ?_
  · simp
  · simp [ResIds]
  have w0 : IntKind.wrap .i64 ((l.length : Int) - 1) = (l.length : Int) - 1 := wrap64 (by omega) (by omega)
  simp [p132, w0]
  refine pw_loop (α := Nat) (fun i => ⟨slots [(0, .ls 0 0 l.length 2), (2, vi i), (3, vi ((l.length : Int) - 1 - i))], lk [(0, cellsI (revN l i ++ z))], 1⟩) (fun i => 2 * i ≤ l.length) (fun i => l.length - i) 0 ?_ ?_ ?_
  · simp
  · refine Weak.mkM hE (lk [(0, 0)]) _ _ _ ?_ ?_ ?_ ?_ ?_ ?_ <;> simp [revN]
  · intro i hi
    simp [p132l0]
    by_cases h : (i : Int) < (l.length : Int) - 1 - i
    · obtain ⟨j, hj⟩ : ∃ j, j = l.length - 1 - i := ⟨_, rfl⟩
      have hj' : (l.length : Int) - 1 - i = (j : Int) := by omega
      obtain ⟨a, ha⟩ : ∃ a, l[i]? = some a := ⟨l[i], by simp [show i < l.length by omega]⟩
      obtain ⟨b, hb⟩ : ∃ b, l[j]? = some b := ⟨l[j], by simp [show j < l.length by omega]⟩
      have hlen := revN_len l i
      have ha' : (revN l i ++ z)[i]? = some a := by rw [List.getElem?_append_left (by omega), revN_at l i hi i (by omega), if_neg (by omega), ha]
      have hb' : (revN l i ++ z)[j]? = some b := by rw [List.getElem?_append_left (by omega), revN_at l i hi j (by omega), if_neg (by omega), hb]
      have hnx : ((revN l i ++ z).set i b).set j a = revN l (i + 1) ++ z := by
        have e1 : l.getD i (0, 0) = a := by rw [List.getD_eq_getElem?_getD, ha]; rfl
        have e2 : l.getD j (0, 0) = b := by rw [List.getD_eq_getElem?_getD, hb]; rfl
        rw [revN, ← hj, e1, e2, List.set_append_left _ _ (by omega), List.set_append_left _ _ (by simp; omega)]
      generalize revN l i ++ z = L at ha' hb' hnx ⊢
      have hL1 := (List.getElem?_eq_some_iff.1 ha').1
      have hL2 := (List.getElem?_eq_some_iff.1 hb').1
      have ca := cells_at ha'
      have cb := cells_at hb'
      have s1 := cells_set b hL1
      have s2 := cells_set (l := L.set i b) a (i := j) (by simpa using hL2)
      rw [hnx] at s2
      have hdl := spD_len L
      have hdl2 := spD_len (L.set i b)
      have q1 : i * 2 + 2 ≤ L.length * 2 := by omega
      have q2 : j * 2 + 2 ≤ L.length * 2 := by omega
      have z1 : IntKind.wrap .i64 ((i : Int) + 1) = ((i + 1 : Nat) : Int) := by rw [wrap64 (by omega) (by omega)]; omega
      have z2 : IntKind.wrap .i64 ((j : Int) - 1) = (j : Int) - 1 := wrap64 (by omega) (by omega)
      have i1 : i < l.length := by omega
      have j1 : j < l.length := by omega
      have hij : i < j := by omega
      rw [hj']
      simp [hij]
      refine pw_drawW [(13, 0)] (by kernel_rfl) ?_
      simp [inC, Nat.testBit, i1, j1, q1, q2, ca, cb, s1, s2, z1, z2]
      refine ⟨i + 1, by omega, by omega, ?_⟩
      refine Weak.mkM hE (lk [(0, 0)]) _ _ _ ?_ ?_ ?_ ?_ ?_ ?_ <;> simp
      omega
    · simp [h]
      have he : revN l i = l.reverse := revN_end hi (by omega)
      refine RetOk.by (lk [(0, 0)]) ?_
      simp [results132, he]
end Go.Proofs.Try
