/- Own lemmas and contracts of functions, used by the last text of this claim for the given statement. Conditions: those that each theorem states. -/
import Derived.Test.YtaedloehfgmcnaaProg
import Derived.Test.YtaedloehfgmcnaaSe
import Derived.Test.YtaedloehfgmcnaaSf
import Derived.Test.YtaedloehfgmcnaaRows
import Derived.Deep.Slices
namespace Go.Proofs.Try
open Go.Psl
def ty2 : Ty := ⟨1, 8, false, .int .i64, [(.int .i64 0)]⟩
def ty3 : Ty := ⟨1, 8, false, .int .i64, [(.int .i64 0)]⟩
def ty4 : Ty := ⟨1, 1, false, .bool, [(.bool false)]⟩
def ty5 : Ty := ⟨1, 1, false, .int .u8, [(.int .u8 0)]⟩
def ty6 : Ty := ⟨1, 1, false, .int .u8, [(.int .u8 0)]⟩
def ty7 : Ty := ⟨4, 24, true, .struct [(0, 2), (1, 3), (2, 4), (3, 6)], [(.int .i64 0), (.int .i64 0), (.bool false), (.int .u8 0)]⟩
def ty8 : Ty := ⟨4, 24, true, .struct [(0, 2), (1, 3), (2, 4), (3, 6)], [(.int .i64 0), (.int .i64 0), (.bool false), (.int .u8 0)]⟩
def ty9 : Ty := ⟨1, 16, false, .str, [(.string ByteArray.empty)]⟩
def ty10 : Ty := ⟨1, 16, false, .str, [(.string ByteArray.empty)]⟩
def ty11 : Ty := ⟨1, 16, false, .str, [(.string ByteArray.empty)]⟩
def ty12 : Ty := ⟨1, 8, false, .int .u64, [(.int .u64 0)]⟩
def ty13 : Ty := ⟨2, 24, true, .struct [(0, 9), (1, 12)], [(.string ByteArray.empty), (.int .u64 0)]⟩
def ty14 : Ty := ⟨2, 24, true, .struct [(0, 9), (1, 12)], [(.string ByteArray.empty), (.int .u64 0)]⟩
def ty15 : Ty := ⟨1, 8, false, .ptr 186, [(.pointer none)]⟩
def ty16 : Ty := ⟨1, 8, false, .ptr 189, [(.pointer none)]⟩
def ty17 : Ty := ⟨1, 8, false, .ptr 198, [(.pointer none)]⟩
def ty18 : Ty := ⟨1, 8, true, .struct [(0, 17)], [(.pointer none)]⟩
def ty19 : Ty := ⟨1, 8, true, .struct [(0, 17)], [(.pointer none)]⟩
def ty21 : Ty := ⟨1, 4, false, .int .i32, [(.int .i32 0)]⟩
def ty22 : Ty := ⟨1, 24, false, .slice 87, [(.slice none 0 0)]⟩
def ty23 : Ty := ⟨2, 16, true, .struct [(0, 3), (1, 3)], [(.int .i64 0), (.int .i64 0)]⟩
def ty24 : Ty := ⟨2, 16, true, .struct [(0, 3), (1, 3)], [(.int .i64 0), (.int .i64 0)]⟩
def ty25 : Ty := ⟨1, 8, false, .int .i64, [(.int .i64 0)]⟩
def ty30 : Ty := ⟨1, 24, false, .slice 24, [(.slice none 0 0)]⟩
def ty54 : Ty := ⟨1, 24, false, .slice 56, [(.slice none 0 0)]⟩
def ty55 : Ty := ⟨2, 16, true, .struct [(0, 3), (1, 3)], [(.int .i64 0), (.int .i64 0)]⟩
def ty56 : Ty := ⟨2, 16, true, .struct [(0, 3), (1, 3)], [(.int .i64 0), (.int .i64 0)]⟩
def ty84 : Ty := ⟨1, 24, false, .slice 5, [(.slice none 0 0)]⟩
def ty86 : Ty := ⟨3, 24, true, .struct [(0, 3), (1, 24)], [(.int .i64 0), (.int .i64 0), (.int .i64 0)]⟩
def ty87 : Ty := ⟨3, 24, true, .struct [(0, 3), (1, 24)], [(.int .i64 0), (.int .i64 0), (.int .i64 0)]⟩
def ty91 : Ty := ⟨4, 4, true, .array 4 4, [(.bool false), (.bool false), (.bool false), (.bool false)]⟩
def ty92 : Ty := ⟨1, 24, false, .slice 30, [(.slice none 0 0)]⟩
def ty94 : Ty := ⟨1, 24, false, .slice 3, [(.slice none 0 0)]⟩
def ty113 : Ty := ⟨16, 128, true, .array 8 24, [(.int .i64 0), (.int .i64 0), (.int .i64 0), (.int .i64 0), (.int .i64 0), (.int .i64 0), (.int .i64 0), (.int .i64 0), (.int .i64 0), (.int .i64 0), (.int .i64 0), (.int .i64 0), (.int .i64 0), (.int .i64 0), (.int .i64 0), (.int .i64 0)]⟩
def ty114 : Ty := ⟨2, 16, true, .array 2 3, [(.int .i64 0), (.int .i64 0)]⟩
def ty116 : Ty := ⟨1, 8, false, .int .u64, [(.int .u64 0)]⟩
def ty135 : Ty := ⟨3, 24, true, .struct [(0, 3), (1, 3), (2, 3)], [(.int .i64 0), (.int .i64 0), (.int .i64 0)]⟩
def ty136 : Ty := ⟨3, 24, true, .struct [(0, 3), (1, 3), (2, 3)], [(.int .i64 0), (.int .i64 0), (.int .i64 0)]⟩
def ty140 : Ty := ⟨1, 8, false, .int .u64, [(.int .u64 0)]⟩
def ty154 : Ty := ⟨1, 24, false, .slice 54, [(.slice none 0 0)]⟩
def ty167 : Ty := ⟨1, 8, false, .int .i64, [(.int .i64 0)]⟩
def ty174 : Ty := ⟨1, 4, false, .int .u32, [(.int .u32 0)]⟩
def ty175 : Ty := ⟨1, 8, false, .int .u64, [(.int .u64 0)]⟩
def ty179 : Ty := ⟨1, 8, false, .ptr 3, [(.pointer none)]⟩
def ty181 : Ty := ⟨1, 8, false, .ptr 175, [(.pointer none)]⟩
def ty183 : Ty := ⟨1, 8, false, .ptr 200, [(.pointer none)]⟩
def ty185 : Ty := ⟨4, 40, true, .struct [(0, 17), (1, 17), (2, 17), (3, 9)], [(.pointer none), (.pointer none), (.pointer none), (.string ByteArray.empty)]⟩
def ty186 : Ty := ⟨4, 40, true, .struct [(0, 17), (1, 17), (2, 17), (3, 9)], [(.pointer none), (.pointer none), (.pointer none), (.string ByteArray.empty)]⟩
def ty187 : Ty := ⟨0, 0, true, .array 0 16, []⟩
def ty188 : Ty := ⟨0, 0, true, .struct [(0, 187)], []⟩
def ty189 : Ty := ⟨0, 0, true, .struct [(0, 187)], []⟩
def ty191 : Ty := ⟨1, 1, false, .int .u8, [(.int .u8 0)]⟩
def ty192 : Ty := ⟨1, 1, false, .int .u8, [(.int .u8 0)]⟩
def ty194 : Ty := ⟨1, 8, false, .ptr 5, [(.pointer none)]⟩
def ty195 : Ty := ⟨1, 4, false, .int .i32, [(.int .i32 0)]⟩
def ty196 : Ty := ⟨1, 4, false, .int .i32, [(.int .i32 0)]⟩
def ty197 : Ty := ⟨11, 48, true, .struct [(0, 12), (1, 12), (2, 174), (3, 191), (4, 5), (5, 5), (6, 192), (7, 193), (8, 194), (9, 195), (10, 196)], [(.int .u64 0), (.int .u64 0), (.int .u32 0), (.int .u8 0), (.int .u8 0), (.int .u8 0), (.int .u8 0), .nilFunc, (.pointer none), (.int .i32 0), (.int .i32 0)]⟩
def ty198 : Ty := ⟨11, 48, true, .struct [(0, 12), (1, 12), (2, 174), (3, 191), (4, 5), (5, 5), (6, 192), (7, 193), (8, 194), (9, 195), (10, 196)], [(.int .u64 0), (.int .u64 0), (.int .u32 0), (.int .u8 0), (.int .u8 0), (.int .u8 0), (.int .u8 0), .nilFunc, (.pointer none), (.int .i32 0), (.int .i32 0)]⟩
def ty199 : Ty := ⟨1, 16, true, .struct [(0, 9)], [(.string ByteArray.empty)]⟩
def ty200 : Ty := ⟨1, 16, true, .struct [(0, 9)], [(.string ByteArray.empty)]⟩
def tyL : List (Nat × Ty) := [(2, ty2), (3, ty3), (4, ty4), (5, ty5), (6, ty6), (7, ty7), (8, ty8), (9, ty9), (10, ty10), (11, ty11), (12, ty12), (13, ty13), (14, ty14), (15, ty15), (16, ty16), (17, ty17), (18, ty18), (19, ty19), (21, ty21), (22, ty22), (23, ty23), (24, ty24), (25, ty25), (30, ty30), (54, ty54), (55, ty55), (56, ty56), (84, ty84), (86, ty86), (87, ty87), (91, ty91), (92, ty92), (94, ty94), (113, ty113), (114, ty114), (116, ty116), (135, ty135), (136, ty136), (140, ty140), (154, ty154), (167, ty167), (174, ty174), (175, ty175), (179, ty179), (181, ty181), (183, ty183), (185, ty185), (186, ty186), (187, ty187), (188, ty188), (189, ty189), (191, ty191), (192, ty192), (194, ty194), (195, ty195), (196, ty196), (197, ty197), (198, ty198), (199, ty199), (200, ty200)]
def eqL : List (Nat × List CK) := [(7, [.int, .int, .bool, .int]), (8, [.int, .int, .bool, .int]), (23, [.int, .int]), (24, [.int, .int]), (55, [.int, .int]), (56, [.int, .int]), (86, [.int, .int, .int]), (87, [.int, .int, .int]), (135, [.int, .int, .int]), (136, [.int, .int, .int]), (199, [.str]), (200, [.str])]
def tys : Tys := lk tyL
def eqs : Eqs := lk eqL
theorem gok : GOk prog tys := gok_of (by kernel_rfl)
theorem eok : EqOk prog eqs := eqok_of (by kernel_rfl)
theorem mixed : prog.follows .mixedOrders = true := by kernel_rfl
@[simp] theorem g2 : tys 2 = some ⟨1, 8, false, .int .i64, [(.int .i64 0)]⟩ := nrfl rfl
@[simp] theorem g3 : tys 3 = some ⟨1, 8, false, .int .i64, [(.int .i64 0)]⟩ := nrfl rfl
@[simp] theorem g4 : tys 4 = some ⟨1, 1, false, .bool, [(.bool false)]⟩ := nrfl rfl
@[simp] theorem g5 : tys 5 = some ⟨1, 1, false, .int .u8, [(.int .u8 0)]⟩ := nrfl rfl
@[simp] theorem g6 : tys 6 = some ⟨1, 1, false, .int .u8, [(.int .u8 0)]⟩ := nrfl rfl
@[simp] theorem g7 : tys 7 = some ⟨4, 24, true, .struct [(0, 2), (1, 3), (2, 4), (3, 6)], [(.int .i64 0), (.int .i64 0), (.bool false), (.int .u8 0)]⟩ := nrfl rfl
@[simp] theorem g8 : tys 8 = some ⟨4, 24, true, .struct [(0, 2), (1, 3), (2, 4), (3, 6)], [(.int .i64 0), (.int .i64 0), (.bool false), (.int .u8 0)]⟩ := nrfl rfl
@[simp] theorem g9 : tys 9 = some ⟨1, 16, false, .str, [(.string ByteArray.empty)]⟩ := nrfl rfl
@[simp] theorem g10 : tys 10 = some ⟨1, 16, false, .str, [(.string ByteArray.empty)]⟩ := nrfl rfl
@[simp] theorem g11 : tys 11 = some ⟨1, 16, false, .str, [(.string ByteArray.empty)]⟩ := nrfl rfl
@[simp] theorem g12 : tys 12 = some ⟨1, 8, false, .int .u64, [(.int .u64 0)]⟩ := nrfl rfl
@[simp] theorem g13 : tys 13 = some ⟨2, 24, true, .struct [(0, 9), (1, 12)], [(.string ByteArray.empty), (.int .u64 0)]⟩ := nrfl rfl
@[simp] theorem g14 : tys 14 = some ⟨2, 24, true, .struct [(0, 9), (1, 12)], [(.string ByteArray.empty), (.int .u64 0)]⟩ := nrfl rfl
@[simp] theorem g15 : tys 15 = some ⟨1, 8, false, .ptr 186, [(.pointer none)]⟩ := nrfl rfl
@[simp] theorem g16 : tys 16 = some ⟨1, 8, false, .ptr 189, [(.pointer none)]⟩ := nrfl rfl
@[simp] theorem g17 : tys 17 = some ⟨1, 8, false, .ptr 198, [(.pointer none)]⟩ := nrfl rfl
@[simp] theorem g18 : tys 18 = some ⟨1, 8, true, .struct [(0, 17)], [(.pointer none)]⟩ := nrfl rfl
@[simp] theorem g19 : tys 19 = some ⟨1, 8, true, .struct [(0, 17)], [(.pointer none)]⟩ := nrfl rfl
@[simp] theorem g21 : tys 21 = some ⟨1, 4, false, .int .i32, [(.int .i32 0)]⟩ := nrfl rfl
@[simp] theorem g22 : tys 22 = some ⟨1, 24, false, .slice 87, [(.slice none 0 0)]⟩ := nrfl rfl
@[simp] theorem g23 : tys 23 = some ⟨2, 16, true, .struct [(0, 3), (1, 3)], [(.int .i64 0), (.int .i64 0)]⟩ := nrfl rfl
@[simp] theorem g24 : tys 24 = some ⟨2, 16, true, .struct [(0, 3), (1, 3)], [(.int .i64 0), (.int .i64 0)]⟩ := nrfl rfl
@[simp] theorem g25 : tys 25 = some ⟨1, 8, false, .int .i64, [(.int .i64 0)]⟩ := nrfl rfl
@[simp] theorem g30 : tys 30 = some ⟨1, 24, false, .slice 24, [(.slice none 0 0)]⟩ := nrfl rfl
@[simp] theorem g54 : tys 54 = some ⟨1, 24, false, .slice 56, [(.slice none 0 0)]⟩ := nrfl rfl
@[simp] theorem g55 : tys 55 = some ⟨2, 16, true, .struct [(0, 3), (1, 3)], [(.int .i64 0), (.int .i64 0)]⟩ := nrfl rfl
@[simp] theorem g56 : tys 56 = some ⟨2, 16, true, .struct [(0, 3), (1, 3)], [(.int .i64 0), (.int .i64 0)]⟩ := nrfl rfl
@[simp] theorem g84 : tys 84 = some ⟨1, 24, false, .slice 5, [(.slice none 0 0)]⟩ := nrfl rfl
@[simp] theorem g86 : tys 86 = some ⟨3, 24, true, .struct [(0, 3), (1, 24)], [(.int .i64 0), (.int .i64 0), (.int .i64 0)]⟩ := nrfl rfl
@[simp] theorem g87 : tys 87 = some ⟨3, 24, true, .struct [(0, 3), (1, 24)], [(.int .i64 0), (.int .i64 0), (.int .i64 0)]⟩ := nrfl rfl
@[simp] theorem g91 : tys 91 = some ⟨4, 4, true, .array 4 4, [(.bool false), (.bool false), (.bool false), (.bool false)]⟩ := nrfl rfl
@[simp] theorem g92 : tys 92 = some ⟨1, 24, false, .slice 30, [(.slice none 0 0)]⟩ := nrfl rfl
@[simp] theorem g94 : tys 94 = some ⟨1, 24, false, .slice 3, [(.slice none 0 0)]⟩ := nrfl rfl
@[simp] theorem g113 : tys 113 = some ⟨16, 128, true, .array 8 24, [(.int .i64 0), (.int .i64 0), (.int .i64 0), (.int .i64 0), (.int .i64 0), (.int .i64 0), (.int .i64 0), (.int .i64 0), (.int .i64 0), (.int .i64 0), (.int .i64 0), (.int .i64 0), (.int .i64 0), (.int .i64 0), (.int .i64 0), (.int .i64 0)]⟩ := nrfl rfl
@[simp] theorem g114 : tys 114 = some ⟨2, 16, true, .array 2 3, [(.int .i64 0), (.int .i64 0)]⟩ := nrfl rfl
@[simp] theorem g116 : tys 116 = some ⟨1, 8, false, .int .u64, [(.int .u64 0)]⟩ := nrfl rfl
@[simp] theorem g135 : tys 135 = some ⟨3, 24, true, .struct [(0, 3), (1, 3), (2, 3)], [(.int .i64 0), (.int .i64 0), (.int .i64 0)]⟩ := nrfl rfl
@[simp] theorem g136 : tys 136 = some ⟨3, 24, true, .struct [(0, 3), (1, 3), (2, 3)], [(.int .i64 0), (.int .i64 0), (.int .i64 0)]⟩ := nrfl rfl
@[simp] theorem g140 : tys 140 = some ⟨1, 8, false, .int .u64, [(.int .u64 0)]⟩ := nrfl rfl
@[simp] theorem g154 : tys 154 = some ⟨1, 24, false, .slice 54, [(.slice none 0 0)]⟩ := nrfl rfl
@[simp] theorem g167 : tys 167 = some ⟨1, 8, false, .int .i64, [(.int .i64 0)]⟩ := nrfl rfl
@[simp] theorem g174 : tys 174 = some ⟨1, 4, false, .int .u32, [(.int .u32 0)]⟩ := nrfl rfl
@[simp] theorem g175 : tys 175 = some ⟨1, 8, false, .int .u64, [(.int .u64 0)]⟩ := nrfl rfl
@[simp] theorem g179 : tys 179 = some ⟨1, 8, false, .ptr 3, [(.pointer none)]⟩ := nrfl rfl
@[simp] theorem g181 : tys 181 = some ⟨1, 8, false, .ptr 175, [(.pointer none)]⟩ := nrfl rfl
@[simp] theorem g183 : tys 183 = some ⟨1, 8, false, .ptr 200, [(.pointer none)]⟩ := nrfl rfl
@[simp] theorem g185 : tys 185 = some ⟨4, 40, true, .struct [(0, 17), (1, 17), (2, 17), (3, 9)], [(.pointer none), (.pointer none), (.pointer none), (.string ByteArray.empty)]⟩ := nrfl rfl
@[simp] theorem g186 : tys 186 = some ⟨4, 40, true, .struct [(0, 17), (1, 17), (2, 17), (3, 9)], [(.pointer none), (.pointer none), (.pointer none), (.string ByteArray.empty)]⟩ := nrfl rfl
@[simp] theorem g187 : tys 187 = some ⟨0, 0, true, .array 0 16, []⟩ := nrfl rfl
@[simp] theorem g188 : tys 188 = some ⟨0, 0, true, .struct [(0, 187)], []⟩ := nrfl rfl
@[simp] theorem g189 : tys 189 = some ⟨0, 0, true, .struct [(0, 187)], []⟩ := nrfl rfl
@[simp] theorem g191 : tys 191 = some ⟨1, 1, false, .int .u8, [(.int .u8 0)]⟩ := nrfl rfl
@[simp] theorem g192 : tys 192 = some ⟨1, 1, false, .int .u8, [(.int .u8 0)]⟩ := nrfl rfl
@[simp] theorem g194 : tys 194 = some ⟨1, 8, false, .ptr 5, [(.pointer none)]⟩ := nrfl rfl
@[simp] theorem g195 : tys 195 = some ⟨1, 4, false, .int .i32, [(.int .i32 0)]⟩ := nrfl rfl
@[simp] theorem g196 : tys 196 = some ⟨1, 4, false, .int .i32, [(.int .i32 0)]⟩ := nrfl rfl
@[simp] theorem g197 : tys 197 = some ⟨11, 48, true, .struct [(0, 12), (1, 12), (2, 174), (3, 191), (4, 5), (5, 5), (6, 192), (7, 193), (8, 194), (9, 195), (10, 196)], [(.int .u64 0), (.int .u64 0), (.int .u32 0), (.int .u8 0), (.int .u8 0), (.int .u8 0), (.int .u8 0), .nilFunc, (.pointer none), (.int .i32 0), (.int .i32 0)]⟩ := nrfl rfl
@[simp] theorem g198 : tys 198 = some ⟨11, 48, true, .struct [(0, 12), (1, 12), (2, 174), (3, 191), (4, 5), (5, 5), (6, 192), (7, 193), (8, 194), (9, 195), (10, 196)], [(.int .u64 0), (.int .u64 0), (.int .u32 0), (.int .u8 0), (.int .u8 0), (.int .u8 0), (.int .u8 0), .nilFunc, (.pointer none), (.int .i32 0), (.int .i32 0)]⟩ := nrfl rfl
@[simp] theorem g199 : tys 199 = some ⟨1, 16, true, .struct [(0, 9)], [(.string ByteArray.empty)]⟩ := nrfl rfl
@[simp] theorem g200 : tys 200 = some ⟨1, 16, true, .struct [(0, 9)], [(.string ByteArray.empty)]⟩ := nrfl rfl
@[simp] theorem e7 : eqs 7 = some [.int, .int, .bool, .int] := nrfl rfl
@[simp] theorem e8 : eqs 8 = some [.int, .int, .bool, .int] := nrfl rfl
@[simp] theorem e23 : eqs 23 = some [.int, .int] := nrfl rfl
@[simp] theorem e24 : eqs 24 = some [.int, .int] := nrfl rfl
@[simp] theorem e55 : eqs 55 = some [.int, .int] := nrfl rfl
@[simp] theorem e56 : eqs 56 = some [.int, .int] := nrfl rfl
@[simp] theorem e86 : eqs 86 = some [.int, .int, .int] := nrfl rfl
@[simp] theorem e87 : eqs 87 = some [.int, .int, .int] := nrfl rfl
@[simp] theorem e135 : eqs 135 = some [.int, .int, .int] := nrfl rfl
@[simp] theorem e136 : eqs 136 = some [.int, .int, .int] := nrfl rfl
@[simp] theorem e199 : eqs 199 = some [.str] := nrfl rfl
@[simp] theorem e200 : eqs 200 = some [.str] := nrfl rfl
end Go.Proofs.Try
namespace Go.Proofs.Try
open Go.Psl
abbrev vi (n : Int) : V := .d (.lit (.int .i64 n))
abbrev vb (b : Bool) : V := .d (.lit (.bool b))
abbrev di (n : Int) : D := .lit (.int .i64 n)
abbrev vsp (a b : Int) : V := .agg [vi a, vi b]
abbrev spansD (l : List (Int × Int)) : D := .sl 2 (l.map fun s => [di s.1, di s.2])
end Go.Proofs.Try
namespace Go.Proofs.Try
open Go.Psl
theorem fn79 (n lo hi : Int) : Ct prog 79 [vi n, vi lo, vi hi] (vb (decide (lo ≤ n) && decide (n ≤ hi))) [] := by
  refine Ct.by gok eok mixed func79 c79 rfl ?_ ?_ ?_ fun E hE => ?_
  · simp [ntmps79]
  · simp
  · simp [ResIds]
  by_cases h1 : lo ≤ n
  · simp [p79, h1]
    refine RetOk.by (fun _ => none) ?_
    simp [results79]
  · simp [p79, h1]
    refine RetOk.by (fun _ => none) ?_
    simp [results79]
end Go.Proofs.Try
namespace Go.Proofs.Ytaedloehfgmcnaa
open Go.Joins Go.ChangeShapes Go.WideShapes Go.ChangeAt Go.RowKit Go.Psl
theorem Try.own : ownKnob Try.prog.godebug = none := by kernel_rfl
theorem Try.laidOut : laidOutB Try.prog = true := by kernel_rfl
end Go.Proofs.Ytaedloehfgmcnaa
namespace Go.Psl
open Go.ChangeShapes Go.WideShapes
section
variable {P : Program} {W : World}
abbrev InW (W : World) (b : Nat) : Prop := b < W.heap.size
def ShL (S : TypeId → List D → Prop) : List TypeId → List D → Prop
  | [], ds => ds = []
  | t :: ts, ds => ∃ a b, ds = a ++ b ∧ S t a ∧ ShL S ts b
def Sh' (P : Program) : Nat → TypeId → List D → Prop
  | 0, _, _ => False
  | n + 1, t, ds => match P.underlying t with
    | some .bool => ∃ b, ds = [.lit (.bool b)]
    | some (.int k) => ∃ i, ds = [.lit (.int k i)] ∧ (Lit.int k i).wf = true
    | some .string => ∃ s : ByteArray, ds = [.lit (.string s)] ∧ s.size ≤ maxLen
    | some (.slice e) => ∃ es, ds = [.sl (P.cellsOf e) es] ∧ es.length ≤ maxL ∧ ∀ x ∈ es, Sh' P n e x
    | some (.struct fs) => ShL (Sh' P n) (fs.toList.map (·.type)) ds
    | some (.array k e) => ShL (Sh' P n) (List.replicate k e) ds
    | _ => False
def contig (P : Program) : Nat → List Field → Option Nat
  | o, [] => some o
  | o, f :: fs => if f.offset = o then contig P (o + P.cellsOf f.type) fs else none
def plainB (P : Program) : Nat → TypeId → Bool
  | 0, _ => false
  | n + 1, t => match P.underlying t with
    | some .bool => true
    | some (.int _) => true
    | some .string => true
    | some (.slice e) => decide (0 < P.cellsOf e) && plainB P n e
    | some (.struct fs) => (contig P 0 fs.toList == some (P.cellsOf t)) && fs.toList.all fun f => plainB P n f.type
    | some (.array k e) => decide (k * P.cellsOf e = P.cellsOf t) && plainB P n e
    | _ => false
theorem rd_cell {H : Type} {_enc : TypeId × Value → H} {base : Nat} {a : Addr} {n : Nat} {cs : List Value} (hn : 0 < n) (h : W.cells? base a n = some cs) : InW W a.block ∧ cs.length = n ∧ ∀ j, j < n → W.cell? (a.add j) = cs[j]? := by
  obtain ⟨_, h2, h3⟩ := World.cells?_some h
  refine ⟨?_, h2, h3⟩
  have h4 := h3 0 hn
  rw [List.getElem?_eq_getElem (by omega)] at h4
  have hbl : (a.add 0).block = a.block := by unfold Addr.add; split <;> rfl
  unfold World.cell? at h4
  rw [hbl] at h4
  unfold InW
  refine Nat.not_le.1 fun hle => ?_
  rw [Array.getElem?_eq_none hle] at h4
  cases h4
theorem all2_append {α β : Type} {R : α → β → Prop} : ∀ {az as' : List α} {bs bs' : List β}, All2 R az bs → All2 R as' bs' → All2 R (az ++ as') (bs ++ bs')
  | [], _, [], _, _, h => h
  | _ :: _, _, _ :: _, _, h, h' => ⟨h.1, all2_append h.2 h'⟩
theorem read_fields {S : TypeId → List D → Prop} {T : TypeId → List Value → Prop} {cs : List Value} (hrec : ∀ t cs', T t cs' → ∃ ds, S t ds ∧ All2 (RD (InW W) W) ds cs') :
    ∀ (fs : List Field) (o m : Nat), contig P o fs = some m → m = cs.length → (∀ f ∈ fs, T f.type ((cs.drop f.offset).take (P.cellsOf f.type))) → o ≤ m → ∃ ds, ShL S (fs.map (·.type)) ds ∧ All2 (RD (InW W) W) ds (cs.drop o)
  | [], o, m, hc, hm, _, _ => by
    simp only [contig, Option.some.injEq] at hc
    subst hc
    exact ⟨[], rfl, by rw [hm, List.drop_length]; trivial⟩
  | f :: fs, o, m, hc, hm, hT, ho => by
    unfold contig at hc
    split at hc
    · rename_i hof
      have hle : o + P.cellsOf f.type ≤ m := by
        clear hT ho hm
        generalize o + P.cellsOf f.type = q at hc
        clear hof
        induction fs generalizing q with
        | nil => simp only [contig, Option.some.injEq] at hc; omega
        | cons g gs ih =>
          unfold contig at hc
          split at hc
          · have := ih _ hc; omega
          · cases hc
      obtain ⟨ds, h1, h2⟩ := read_fields hrec fs _ m hc hm (fun g hg => hT g (by simp [hg])) hle
      have hf := hT f (by simp)
      rw [hof] at hf
      obtain ⟨d0, h3, h4⟩ := hrec _ _ hf
      refine ⟨d0 ++ ds, ⟨d0, ds, rfl, h3, h1⟩, ?_⟩
      have e : cs.drop o = (cs.drop o).take (P.cellsOf f.type) ++ cs.drop (o + P.cellsOf f.type) := by
        rw [← List.drop_drop, List.take_append_drop]
      rw [e]
      exact all2_append h4 h2
    · cases hc
theorem read_elems {S : TypeId → List D → Prop} {T : TypeId → List Value → Prop} {e : TypeId} {cs : List Value} (hrec : ∀ t cs', T t cs' → ∃ ds, S t ds ∧ All2 (RD (InW W) W) ds cs') (z : Nat) :
    ∀ (k o : Nat), o + k * z = cs.length → (∀ i, i < k → T e ((cs.drop (o + i * z)).take z)) → ∃ ds, ShL S (List.replicate k e) ds ∧ All2 (RD (InW W) W) ds (cs.drop o)
  | 0, o, h, _ => ⟨[], rfl, by rw [show o = cs.length by omega, List.drop_length]; trivial⟩
  | k + 1, o, h, hT => by
    have hk : (k + 1) * z = k * z + z := Nat.succ_mul _ _
    obtain ⟨ds, h1, h2⟩ := read_elems (cs := cs) (e := e) hrec z k (o + z) (by omega) (fun i hi => by
      have := hT (i + 1) (by omega)
      rw [Nat.succ_mul] at this
      rw [show o + z + i * z = o + (i * z + z) by omega]
      exact this)
    have hf := hT 0 (by omega)
    rw [Nat.zero_mul, Nat.add_zero] at hf
    obtain ⟨d0, h3, h4⟩ := hrec _ _ hf
    refine ⟨d0 ++ ds, ⟨d0, ds, rfl, h3, h1⟩, ?_⟩
    have e : cs.drop o = (cs.drop o).take z ++ cs.drop (o + z) := by rw [← List.drop_drop, List.take_append_drop]
    rw [e]
    exact all2_append h4 h2
theorem read_plain {H : Type} {enc : TypeId × Value → H} {base : Nat} {sp : Nat → Bool} {held : Bool} : ∀ (n : Nat) (t : TypeId), plainB P n t = true → ∀ (m : Nat) (cs : List Value) (x : DataW H × List MemPlace), DataW.trod enc P W base sp held m t cs = some x → ∃ ds, Sh' P n t ds ∧ All2 (RD (InW W) W) ds cs
  | 0, _, h => by cases h
  | n + 1, t, h => fun m cs x hx => by
    have ih := read_plain (enc := enc) (base := base) (sp := sp) (held := held) n
    unfold plainB at h
    unfold Sh'
    split at h
    · rename_i hu
      obtain ⟨b, rfl, _⟩ := DataW.trod_bool hu hx
      exact ⟨_, ⟨b, rfl⟩, .lit _ rfl, trivial⟩
    · rename_i k hu
      obtain ⟨i, rfl, _, hw⟩ := DataW.trod_int hu hx
      exact ⟨_, ⟨i, rfl, hw⟩, .lit _ rfl, trivial⟩
    · rename_i hu
      obtain ⟨s, rfl, _, hw⟩ := DataW.trod_string hu hx
      exact ⟨_, ⟨s, rfl, hw⟩, .lit _ rfl, trivial⟩
    · rename_i e hu
      simp only [Bool.and_eq_true, decide_eq_true_eq] at h
      rcases Go.Deep.open_slice hu hx with ⟨rfl, _⟩ | ⟨a, len, cap, q, m', D0, Pl, rfl, _, hl, hm, hq, _, hel⟩
      · exact ⟨_, ⟨[], rfl, by simp, by simp⟩, RD.sl _ [] none 0 (fun _ _ => undef) (by simp) (by simp) (by simp) (by simp) (by simp), trivial⟩
      · have hlq : len ≤ q := by rw [hq]; split <;> omega
        obtain ⟨F, hF⟩ := Go.Deep.choose_lt (α := List D × List Value) (n := len) (p := fun i y => W.cells? base (a.add (i * P.cellsOf e)) (P.cellsOf e) = some y.2 ∧ Sh' P n e y.1 ∧ All2 (RD (InW W) W) y.1 y.2) (fun i hi => by
          obtain ⟨cs', h1, h2⟩ := hel i (by omega)
          obtain ⟨ds, h3, h4⟩ := ih e h.2 _ _ _ h2
          exact ⟨(ds, cs'), h1, h3, h4⟩)
        have hlen : ∀ i, i < len → (F i).1.length = P.cellsOf e := fun i hi => by
          obtain ⟨h1, _, h3⟩ := hF i hi
          rw [h3.length, (rd_cell (_enc := enc) h.1 h1).2.1]
        refine ⟨_, ⟨(List.range len).map fun i => (F i).1, rfl, ?_, ?_⟩, ?_, trivial⟩
        · simp; unfold maxLen at hm; omega
        · intro y hy
          simp only [List.mem_map, List.mem_range] at hy
          obtain ⟨i, hi, rfl⟩ := hy
          exact (hF i hi).2.1
        · have key := RD.sl (Im := InW W) (W := W) (P.cellsOf e) ((List.range len).map fun i => (F i).1) (some a) cap (fun i j => ((F i).2)[j]?.getD undef) ?_ ?_ ?_ ?_ ?_
          · simpa using key
          · intro y hy
            simp only [List.mem_map, List.mem_range] at hy
            obtain ⟨i, hi, rfl⟩ := hy
            exact hlen i hi
          · simp; unfold maxLen at hm; omega
          · simpa using hl
          · intro i y hy
            have hi : i < len := by
              have := (List.getElem?_eq_some_iff.1 hy).1
              simpa using this
            have hy' : (F i).1 = y := by simpa [hi] using hy
            obtain ⟨h1, _, h3⟩ := hF i hi
            obtain ⟨c1, c2, c3⟩ := rd_cell (_enc := enc) h.1 h1
            have hbl : (a.add (i * P.cellsOf e)).block = a.block := by unfold Addr.add; split <;> rfl
            refine ⟨a, rfl, by rw [hbl] at c1; exact c1, fun j z hz => ?_⟩
            have hj : j < P.cellsOf e := by
              have := (List.getElem?_eq_some_iff.1 hz).1
              rw [← hy', hlen i hi] at this
              exact this
            rw [← Go.Deep.add_add, c3 j hj, List.getElem?_eq_getElem (by omega)]
            simp
          · intro i y hy j z hz
            have hi : i < len := by
              have := (List.getElem?_eq_some_iff.1 hy).1
              simpa using this
            have hy' : (F i).1 = y := by simpa [hi] using hy
            obtain ⟨h1, _, h3⟩ := hF i hi
            subst hy'
            obtain ⟨u, hu2, hr⟩ := h3.get hz
            rw [hu2]
            exact hr
    · rename_i fs hu
      simp only [Bool.and_eq_true, beq_iff_eq, List.all_eq_true] at h
      obtain ⟨xs, m', _, _, hcl, hxl, hel⟩ := DataW.trod_struct hu hx
      have := read_fields (P := P) (W := W) (S := Sh' P n) (T := fun t cs' => plainB P n t = true ∧ ∃ m x, DataW.trod enc P W base sp held m t cs' = some x) (cs := cs) (fun t cs' ⟨h1, m, x, h2⟩ => ih t h1 m cs' x h2) fs.toList 0 _ h.1 hcl.symm (fun f hf => by
        refine ⟨h.2 f hf, m', ?_⟩
        obtain ⟨i, hi, rfl⟩ := List.mem_iff_getElem.1 hf
        have h1 := hel i fs[i] (by simp at hi ⊢)
        have h2 : i < xs.length := by simp at hi; omega
        rw [List.getElem?_eq_getElem h2] at h1
        exact ⟨_, h1⟩) (Nat.zero_le _)
      simpa using this
    · rename_i k e hu
      simp only [Bool.and_eq_true, decide_eq_true_eq] at h
      obtain ⟨xs, m', _, _, hcl, hxl, hel⟩ := DataW.trod_array hu hx
      have := read_elems (W := W) (S := Sh' P n) (T := fun t cs' => plainB P n t = true ∧ ∃ m x, DataW.trod enc P W base sp held m t cs' = some x) (e := e) (cs := cs) (fun t cs' ⟨h1, m, x, h2⟩ => ih t h1 m cs' x h2) (P.cellsOf e) k 0 (by omega) (fun i hi => by
        refine ⟨h.2, m', ?_⟩
        have h1 := hel i hi
        rw [List.getElem?_eq_getElem (by omega)] at h1
        rw [Nat.zero_add]
        exact ⟨_, h1⟩)
      simpa using this
    · cases h
end
end Go.Psl
namespace Go.Proofs.Try
open Go.Psl
def okK (k : Int × Int × Int) : Bool := decide (-1073741824 ≤ k.1) && decide (k.1 ≤ 1073741824) && decide (-1073741824 ≤ k.2.1) && decide (k.2.1 ≤ k.2.2) && decide (k.2.2 ≤ 1073741824)
def goodK (l : List (Int × Int × Int)) (i : Nat) : Bool := match l[i]? with
  | some k => okK k && (decide (i = 0) || match l[i - 1]? with | some p => decide (p.1 < k.1) | none => true)
  | none => true
def goodTo (l : List (Int × Int × Int)) (i : Nat) : Bool := (List.range i).all (goodK l)
def tabS (l : List (Int × Int × Int)) : Bool := decide (2 ≤ l.length) && decide (l.length ≤ 32) && goodTo l l.length
end Go.Proofs.Try
namespace Go.Proofs.Ytaedloehfgmcnaa
open Go.Joins Go.ChangeShapes Go.WideShapes Go.ChangeAt Go.RowKit Go.Psl
theorem all_map {α β : Type} {f : α → β} : ∀ {es : List β}, (∀ x ∈ es, ∃ k, x = f k) → ∃ t : List α, es = t.map f
  | [], _ => ⟨[], rfl⟩
  | e :: es, h => by
    obtain ⟨k, hk⟩ := h e (by simp)
    obtain ⟨t, ht⟩ := all_map (f := f) (es := es) fun x hx => h x (by simp [hx])
    exact ⟨k :: t, by rw [ht, hk]; rfl⟩
set_option maxRecDepth 100000 in
theorem sh_int {n : Nat} {ds : List D} (h : Sh' Try.prog (n + 1) 3 ds) : ∃ i : Int, ds = [.lit (.int .i64 i)] := by
  simp only [Sh', Try.underlying3] at h
  obtain ⟨i, h, _⟩ := h
  exact ⟨i, h⟩
end Go.Proofs.Ytaedloehfgmcnaa
namespace Go.Proofs.Ytaedloehfgmcnaa
open Go.Joins Go.ChangeShapes Go.WideShapes Go.ChangeAt Go.RowKit Go.Psl
set_option maxRecDepth 100000 in
theorem int_arg {H : Type} {enc : TypeId × Value → H} {W : World} {base : Nat} {v : Value} {d : DataW H} {p : List MemPlace} (hval : Value.okWide Try.prog W .any base 3 v) (h : DataW.Trod enc Try.prog W 0 (fun _ => true) true 3 v d p) : ∃ a : Int, v = .int .i64 a := by
  obtain ⟨a, ea, _⟩ := open_int Try.underlying3 hval h
  exact ⟨a, ea⟩
section
variable {H : Type} {enc : TypeId × Value → H} {P : Program} {w : World} {base : Nat} {spare : Nat → Bool} {held : Bool}
end
set_option maxRecDepth 100000 in
theorem sh_corner {n : Nat} {ds : List D} (h : Sh' Try.prog (n + 2) 56 ds) : ∃ k : Int × Int, ds = [.lit (.int .i64 k.1), .lit (.int .i64 k.2)] := by
  rw [Sh', Try.underlying56] at h
  obtain ⟨a, r, rfl, h1, b, r2, rfl, h2, rfl⟩ := h
  obtain ⟨i, rfl⟩ := sh_int h1
  obtain ⟨j, rfl⟩ := sh_int h2
  exact ⟨(i, j), rfl⟩
set_option maxRecDepth 100000 in
theorem cells56 : Try.prog.cellsOf 56 = 2 := by kernel_rfl
set_option maxRecDepth 100000 in
theorem sh_corners {n : Nat} {ds : List D} (h : Sh' Try.prog (n + 3) 54 ds) : ∃ t : List (Int × Int), ds = [Try.spansD t] := by
  rw [Sh', Try.underlying54] at h
  obtain ⟨es, rfl, _, h⟩ := h
  obtain ⟨t, rfl⟩ := all_map fun x hx => sh_corner (h x hx)
  exact ⟨t, by rw [cells56]⟩
set_option maxRecDepth 100000 in
theorem corners_arg {H : Type} {enc : TypeId × Value → H} {W : World} {base : Nat} {v : Value} {d : DataW H} {p : List MemPlace} (hval : Value.okWide Try.prog W .any base 54 v) (h : DataW.Trod enc Try.prog W 0 (fun _ => true) true 54 v d p) :
    ∃ t : List (Int × Int), RD (InW W) W (Try.spansD t) v := by
  obtain ⟨m, hm⟩ := h
  obtain ⟨ds, h1, h2⟩ := read_plain 4 54 (by kernel_rfl) m _ _ hm
  obtain ⟨t, rfl⟩ := sh_corners h1
  obtain ⟨a, len, cap, rfl⟩ := okWide_slice Try.underlying54 hval
  exact ⟨t, h2.1⟩
end Go.Proofs.Ytaedloehfgmcnaa
namespace Go.Psl
variable {Γ : Tys} {eqs : Eqs} {H : Hp} {t : TypeId} {b : Nat}
theorem appF_nil {p : Option Addr} {n c : Nat} {x : V} : appF Γ H b t (.d (.lit (.slice p n c))) x = (Γ t).bind fun y => match y.sh with
  | .slice e => (Γ e).bind fun ye => if ye.size = 0 ∨ sameId (.d (.lit (.slice p n c))) x = true then none else (cellsOf H ye.size x).bind fun nx => if nx.2.all V.isCell then (if nx.1 * ye.bytes ≤ maxA ∧ nx.1 ≤ maxL then some (.ls b 0 nx.1 ye.size, .new b nx.2) else none) else none
  | _ => none := nrfl rfl
theorem sameId_nil {D' : D} {x : V} : sameId (.d D') x = false := nrfl rfl
theorem appF_ls {id len sz : Nat} {x : V} : appF Γ H b t (.ls id 0 len sz) x = (Γ t).bind fun y => match y.sh with
  | .slice e => (Γ e).bind fun ye => if ye.size = 0 ∨ sameId (.ls id 0 len sz) x = true then none else (cellsOf H ye.size x).bind fun nx => if nx.2.all V.isCell then
      (if sz = ye.size then (H id).bind fun cs => if len * sz ≤ cs.length ∧ (len + nx.1) * ye.bytes ≤ maxA ∧ len + nx.1 ≤ maxL then some (.ls b 0 (len + nx.1) sz, .mov id b (cs.take (len * sz) ++ nx.2)) else none else none) else none
  | _ => none := nrfl rfl
theorem sameId_ls {i o l z i' o' l' z' : Nat} : sameId (.ls i o l z) (.ls i' o' l' z') = (i == i') := nrfl rfl
theorem sameId_d {i o l z : Nat} {x : D} : sameId (.ls i o l z) (.d x) = false := nrfl rfl
theorem cellsOf_nil {sz : Nat} {p : Option Addr} {n c : Nat} : cellsOf H sz (.d (.lit (.slice p n c))) = some (0, []) := nrfl rfl
theorem cellsOf_sl {sz sz' : Nat} {es : List (List D)} : cellsOf H sz (.d (.sl sz' es)) = if sz = sz' then some (es.length, es.flatten.map .d) else none := nrfl rfl
theorem cellsOf_ls {sz sz' id off len : Nat} : cellsOf H sz (.ls id off len sz') = if sz = sz' then (H id).bind fun cs => if off + len * sz ≤ cs.length then some (len, (cs.drop off).take (len * sz)) else none else none := nrfl rfl
theorem pack_nil : pack [] = .tup [] := nrfl rfl
theorem WV_tupnil {ρ : Nat → Option Nat} : WV ρ (.tup []) (.tup []) := by simp
attribute [simp] pack_nil WV_tupnil appF_nil appF_ls sameId_ls sameId_d sameId_nil cellsOf_nil cellsOf_sl cellsOf_ls
theorem wc_data {ρ : Nat → Option Nat} (x : D) : WC ρ (.d x) (.d x) := by simp
theorem all2_data {ρ : Nat → Option Nat} {xs ys : List V} : ∀ ds : List D, All2 (WC ρ) (ds.map .d ++ xs) (ds.map .d ++ ys) = All2 (WC ρ) xs ys
  | [] => rfl
  | d :: ds => by
    show (WC ρ (.d d) (.d d) ∧ All2 (WC ρ) (ds.map .d ++ xs) (ds.map .d ++ ys)) = _
    rw [all2_data ds]
    exact propext ⟨fun h => h.2, fun h => ⟨wc_data d, h⟩⟩
theorem all2_data0 {ρ : Nat → Option Nat} (ds : List D) : All2 (WC ρ) (ds.map .d) (ds.map .d) = True := by
  have := all2_data (ρ := ρ) (xs := []) (ys := []) ds
  rw [List.append_nil] at this
  rw [this]
  exact propext ⟨fun _ => trivial, fun _ => trivial⟩
theorem cellsOk_data {xs : List V} {ds : List D} (h : xs.all V.isCell = true) : cellsOk (ds.map .d ++ xs) := Or.inl (by
  rw [List.all_append, h, Bool.and_true, List.all_map, List.all_eq_true]
  intro x _
  rfl)
theorem cellsOk_data0 {ds : List D} : cellsOk (ds.map .d) := Or.inl (by
  rw [List.all_map, List.all_eq_true]
  intro x _
  rfl)
theorem ac_data {q : Nat → Prop} {ds : List D} : ∀ c ∈ ds.map V.d, AC q anyD c := fun c h => by
  simp only [List.mem_map] at h
  obtain ⟨d, _, rfl⟩ := h
  simp
theorem map_renC_d {ρ : Nat → Nat} {ds : List D} : ds.map (renC ρ ∘ V.d) = ds.map V.d := by
  apply List.map_congr_left
  intro x _
  rfl
attribute [simp] map_renC_d all2_data all2_data0 cellsOk_data cellsOk_data0
end Go.Psl
namespace Go.Proofs.Try
open Go.Psl
theorem mul_abs {x y M N : Int} (hx : -M ≤ x ∧ x ≤ M) (hy : -N ≤ y ∧ y ≤ N) : -(M * N) ≤ x * y ∧ x * y ≤ M * N := by
  have hN : 0 ≤ N := by omega
  have hM : 0 ≤ M := by omega
  have a1 : M * -N = -(M * N) := Int.mul_neg M N
  by_cases h : 0 ≤ x
  · have h1 := Int.mul_le_mul_of_nonneg_left hy.2 h
    have h2 := Int.mul_le_mul_of_nonneg_left hy.1 h
    have h3 := Int.mul_le_mul_of_nonneg_right hx.2 hN
    have h4 : x * -N = -(x * N) := Int.mul_neg x N
    omega
  · have h1 := Int.mul_le_mul_of_nonpos_left (show x ≤ 0 by omega) hy.2
    have h2 := Int.mul_le_mul_of_nonpos_left (show x ≤ 0 by omega) hy.1
    have h3 := Int.mul_le_mul_of_nonneg_right hx.1 hN
    have h4 : x * -N = -(x * N) := Int.mul_neg x N
    have h5 : -M * N = -(M * N) := Int.neg_mul M N
    omega
def bd (M : Int) (p : Int × Int) : Prop := (-M ≤ p.1 ∧ p.1 ≤ M) ∧ (-M ≤ p.2 ∧ p.2 ≤ M)
def subC (a b : Int × Int) : Int × Int := (b.1 - a.1, b.2 - a.2)
theorem bd_sub {M N : Int} {a b : Int × Int} (ha : bd M a) (hb : bd M b) (h : N = 2 * M) : bd N (subC a b) := by
  unfold bd subC at *; simp only; omega
theorem fn110 (a b : Int × Int) (ha : bd 1152921504606846976 a) (hb : bd 1152921504606846976 b) : Ct prog 110 [vsp a.1 a.2, vsp b.1 b.2] (vsp (subC a b).1 (subC a b).2) [] := by
  refine Ct.by gok eok mixed func110 c110 rfl (by simp [ntmps110]) (by simp) (by simp [ResIds]) fun E hE => ?_
  unfold bd at ha hb
  have w1 : IntKind.wrap .i64 (b.1 - a.1) = b.1 - a.1 := wrap64 (by omega) (by omega)
  have w2 : IntKind.wrap .i64 (b.2 - a.2) = b.2 - a.2 := wrap64 (by omega) (by omega)
  simp [p110, w1, w2, splice]
  refine RetOk.by (fun _ => none) ?_
  simp [results110, subC]
def turnS (u v : Int × Int) : Int := u.1 * v.2 - u.2 * v.1
theorem turn_bd {M : Int} {u v : Int × Int} (hu : bd M u) (hv : bd M v) : (-(M * M) ≤ u.1 * v.2 ∧ u.1 * v.2 ≤ M * M) ∧ (-(M * M) ≤ u.2 * v.1 ∧ u.2 * v.1 ≤ M * M) := ⟨mul_abs hu.1 hv.2, mul_abs hu.2 hv.1⟩
theorem fn131 (u v : Int × Int) (hu : bd 2000000000 u) (hv : bd 2000000000 v) : Ct prog 131 [vsp u.1 u.2, vsp v.1 v.2] (vi (turnS u v)) [] := by
  refine Ct.by gok eok mixed func131 c131 rfl (by simp [ntmps131]) (by simp) (by simp [ResIds]) fun E hE => ?_
  have hb := turn_bd hu hv
  have w1 : IntKind.wrap .i64 (u.1 * v.2) = u.1 * v.2 := wrap64 (by omega) (by omega)
  have w2 : IntKind.wrap .i64 (u.2 * v.1) = u.2 * v.1 := wrap64 (by omega) (by omega)
  have w3 : IntKind.wrap .i64 (u.1 * v.2 - u.2 * v.1) = u.1 * v.2 - u.2 * v.1 := wrap64 (by omega) (by omega)
  simp [p131, w1, w2, w3]
  refine RetOk.by (fun _ => none) ?_
  simp [results131, turnS]
theorem fn150 (n : Int) : Ct prog 150 [vi n] (vb false) [] := by
  refine Ct.by gok eok mixed func150 c150 rfl (by simp [ntmps150]) (by simp) (by simp [ResIds]) fun E hE => ?_
  simp [p150]
  refine RetOk.by (fun _ => none) ?_
  simp [results150]
def cmpI (a b : Int) : Int := if a < b then -1 else if b < a then 1 else 0
theorem fn141 (a b : Int) : Ct prog 141 [vi a, vi b] (vi (cmpI a b)) [] := by
  refine Ct.by gok eok mixed func141 c141 rfl (by simp [ntmps141]) (by simp) (by simp [ResIds]) fun E hE => ?_
  simp [p141]
  refine ACall.mk _ _ _ (fn150 a) (by first | (simp; done) | simp [Bor_ls, Bor1_ls]) (by simp) (by first | (left; simp; done) | (right; simp; done)) ?_
  simp
  refine ACall.mk _ _ _ (fn150 b) (by first | (simp; done) | simp [Bor_ls, Bor1_ls]) (by simp) (by first | (left; simp; done) | (right; simp; done)) ?_
  simp
  by_cases h : a < b
  · simp [h]
    refine RetOk.by (fun _ => none) ?_
    simp [results141, cmpI, h]
  · by_cases h2 : b < a
    · simp [h, h2]
      refine RetOk.by (fun _ => none) ?_
      simp [results141, cmpI, h, h2]
    · simp [h, h2]
      refine RetOk.by (fun _ => none) ?_
      simp [results141, cmpI, h, h2]
def orI : List Int → Int
  | [] => 0
  | a :: r => if a = 0 then orI r else a
abbrev intsD (l : List Int) : D := .sl 1 (l.map fun n => [di n])
theorem fn1402 (a b : Int) : Ct prog 140 [.d (intsD [a, b])] (vi (orI [a, b])) [] := by
  refine Ct.by gok eok mixed func140 c140 rfl (by simp [ntmps140]) (by simp) (by simp [ResIds]) fun E hE => ?_
  have hz : IntKind.wrap .i64 1 = 1 := by decide
  have hz2 : IntKind.wrap .i64 2 = 2 := by decide
  simp [p140]
  refine pw_loop (α := Nat) (fun i => ⟨slots [(3, vi 0), (6, .d (intsD [a, b])), (7, vi 2), (8, vi i)], lk [], 0⟩) (fun i => i ≤ 2 ∧ (1 ≤ i → a = 0) ∧ (2 ≤ i → b = 0)) (fun i => 2 - i) 0 ?_ ?_ ?_
  · simp
  · refine Weak.mk hE (lk []) _ _ _ ?_ ?_ ?_ ?_ ?_ <;> simp
  · rintro i ⟨hi, h1, h2⟩
    simp [p140l0]
    obtain rfl | rfl | rfl : i = 0 ∨ i = 1 ∨ i = 2 := by omega
    · by_cases h : a = 0
      · simp [h, hz]
        refine ⟨1, by omega, by omega, ?_⟩
        refine Weak.mk hE (lk []) _ _ _ ?_ ?_ ?_ ?_ ?_ <;> simp
      · simp [h]
        refine RetOk.by (fun _ => none) ?_
        simp [results140, orI, h]
    · have ha := h1 (by omega)
      by_cases h : b = 0
      · simp [h, ha, hz2]
        refine ⟨2, by omega, by omega, ?_⟩
        refine Weak.mk hE (lk []) _ _ _ ?_ ?_ ?_ ?_ ?_ <;> simp
      · simp [h, ha]
        refine RetOk.by (fun _ => none) ?_
        simp [results140, orI, h]
    · have ha := h1 (by omega)
      have hb := h2 (by omega)
      simp [ha, hb]
      refine RetOk.by (fun _ => none) ?_
      simp [results140, orI]
def orderS (a b : Int × Int) : Int := orI [cmpI a.1 b.1, cmpI a.2 b.2]
end Go.Proofs.Try
namespace Go.Proofs.Try
open Go.Psl
theorem bor_two {H : Hp} {id : Nat} {a b : Int} (h : H id = some [vi a, vi b]) : Bor H (.ls id 0 2 1) (.d (intsD [a, b])) := by
  rw [Bor_ls]
  exact ⟨rfl, rfl, by simp, _, h, rfl⟩
theorem fn128 (a b : Int × Int) : Ct prog 128 [vsp a.1 a.2, vsp b.1 b.2] (vi (orderS a b)) [] := by
  refine Ct.by gok eok mixed func128 c128 rfl (by simp [ntmps128]) (by simp) (by simp [ResIds]) fun E hE => ?_
  simp [p128, inC, Nat.testBit]
  refine ACall.mk _ _ _ (fn141 a.1 b.1) (by first | (simp; done) | simp [Bor_ls, Bor1_ls]) (by simp) (by first | (left; simp; done) | (right; simp; done)) ?_
  simp [inC, Nat.testBit]
  refine ACall.mk _ _ _ (fn141 a.2 b.2) (by first | (simp; done) | simp [Bor_ls, Bor1_ls]) (by simp) (by first | (left; simp; done) | (right; simp; done)) ?_
  simp [splice, repl]
  refine ACall.mk _ _ _ (fn1402 (cmpI a.1 b.1) (cmpI a.2 b.2)) (by simp [bor_two]) (by simp) (by first | (left; simp; done) | (right; simp; done)) ?_
  simp
  refine RetOk.by (fun _ => none) ?_
  simp [results128, orderS]
def okC (p : Int × Int) : Bool := decide (max p.1 p.2 ≤ 268435456) && decide (-268435456 ≤ min p.1 p.2)
theorem okC_iff {p : Int × Int} : okC p = true ↔ bd 268435456 p := by
  unfold okC bd; simp only [Bool.and_eq_true, decide_eq_true_eq]; omega
def nearC (l : List (Int × Int)) : Bool := l.all okC
theorem nearC_take {l : List (Int × Int)} {i : Nat} {s : Int × Int} (hs : l[i]? = some s) : nearC (l.take (i + 1)) = (nearC (l.take i) && okC s) := by
  simp [nearC, List.take_add_one, hs]
theorem nearC_false {l : List (Int × Int)} {i : Nat} {s : Int × Int} (hs : l[i]? = some s) (h : okC s = false) : nearC l = false := by
  unfold nearC
  rw [List.all_eq_false]
  exact ⟨s, List.mem_of_getElem? hs, by simp [h]⟩
theorem fn92 (l : List (Int × Int)) (hl : l.length ≤ 1000000000) : Ct prog 92 [.d (spansD l)] (vb (nearC l)) [] := by
  refine Ct.by gok eok mixed func92 c92 rfl (by simp [ntmps92]) (by simp) (by simp [ResIds]) fun E hE => ?_
  simp [p92]
  refine pw_loop (α := Nat) (fun i => ⟨slots [(5, .d (spansD l)), (6, vi l.length), (7, vi i)], lk [], 0⟩) (fun i => i ≤ l.length ∧ nearC (l.take i) = true) (fun i => l.length - i) 0 ?_ ?_ ?_
  · simp [nearC]
  · refine Weak.mk hE (lk []) _ _ _ ?_ ?_ ?_ ?_ ?_ <;> simp
  · rintro i ⟨hi, hg⟩
    have hz : IntKind.wrap .i64 ((i : Int) + 1) = ((i : Int) + 1) := wrap64 (by omega) (by omega)
    simp [p92l0]
    refine cR_split (fun h => ?_) (fun h => ?_)
    · simp at h
      have hil : i < l.length := by omega
      obtain ⟨p, hp⟩ : ∃ p, l[i]? = some p := ⟨l[i], by simp [hil]⟩
      by_cases h1 : 268435456 < max p.1 p.2
      · have hb : okC p = false := by unfold okC; rw [decide_eq_false (by omega)]; rfl
        simp [hp, h1, splice]
        refine RetOk.by (fun _ => none) ?_
        simp [results92, nearC_false hp hb]
      by_cases h2 : min p.1 p.2 < -268435456
      · have hb : okC p = false := by unfold okC; rw [decide_eq_false (p := -268435456 ≤ min p.1 p.2) (by omega)]; simp
        simp [hp, h1, h2, splice]
        refine RetOk.by (fun _ => none) ?_
        simp [results92, nearC_false hp hb]
      have hb : okC p = true := by unfold okC; simp only [Bool.and_eq_true, decide_eq_true_eq]; omega
      simp [hp, h1, h2, hz, splice]
      refine ⟨i + 1, ⟨by omega, by rw [nearC_take hp, hg, hb]; rfl⟩, by omega, ?_⟩
      refine Weak.mk hE (lk []) _ _ _ ?_ ?_ ?_ ?_ ?_ <;> simp
    · simp at h
      have hil : i = l.length := by omega
      subst hil
      rw [List.take_length] at hg
      simp
      refine RetOk.by (fun _ => none) ?_
      simp [results92, hg]
theorem fn101 (l m : List (Int × Int)) (hl : l.length ≤ 1000000000) (_ : m.length ≤ 1000000000) : Ct prog 101 [.d (spansD l), .d (spansD m)] (vb (decide (l = m))) [] := by
  refine Ct.by gok eok mixed func101 c101 rfl (by simp [ntmps101]) (by simp) (by simp [ResIds]) fun E hE => ?_
  by_cases hlen : l.length = m.length
  case neg =>
    have hn : ¬ (l.length : Int) = m.length := by omega
    have hne : ¬ l = m := fun h => hlen (by rw [h])
    simp [p101, hn]
    refine RetOk.by (fun _ => none) ?_
    simp [results101, hne]
  simp [p101, hlen]
  refine pw_loop (α := Nat) (fun i => ⟨slots [(0, .d (spansD l)), (1, .d (spansD m)), (12, vi m.length), (13, vi i)], lk [], 0⟩) (fun i => i ≤ l.length ∧ l.take i = m.take i) (fun i => l.length - i) 0 ?_ ?_ ?_
  · simp
  · refine Weak.mk hE (lk []) _ _ _ ?_ ?_ ?_ ?_ ?_ <;> simp
  · rintro i ⟨hi, hg⟩
    have hz : IntKind.wrap .i64 ((i : Int) + 1) = ((i : Int) + 1) := wrap64 (by omega) (by omega)
    simp [p101l0]
    refine cR_split (fun h => ?_) (fun h => ?_)
    · simp at h
      have hil : i < l.length := by omega
      obtain ⟨a, ha⟩ : ∃ a, l[i]? = some a := ⟨l[i], by simp [hil]⟩
      obtain ⟨b, hb⟩ : ∃ b, m[i]? = some b := ⟨m[i], by simp [show i < m.length by omega]⟩
      by_cases h1 : a.1 = b.1 ∧ a.2 = b.2
      · have hab : a = b := by ext; exact h1.1; exact h1.2
        simp [ha, hb, h1, hz]
        refine ⟨i + 1, ⟨by omega, by simp [List.take_add_one, hg, ha, hb, hab]⟩, by omega, ?_⟩
        refine Weak.mk hE (lk []) _ _ _ ?_ ?_ ?_ ?_ ?_ <;> simp
      · have hne : ¬ l = m := fun h => by
          rw [h, hb] at ha
          cases ha
          exact h1 ⟨rfl, rfl⟩
        have hd : (!decide (a.1 = b.1) || !decide (a.2 = b.2)) = true := by simp; omega
        simp [ha, hb, hd]
        refine RetOk.by (fun _ => none) ?_
        simp [results101, hne]
    · simp at h
      have hil : i = l.length := by omega
      have hlm : l = m := by rw [hil, List.take_length, hlen, List.take_length] at hg; exact hg
      simp
      refine RetOk.by (fun _ => none) ?_
      simp [results101, hlm]
end Go.Proofs.Try
namespace Go.Proofs.Try
open Go.Psl
theorem bor_refl {H : Hp} (x : D) : Bor H (.d x) (.d x) := Or.inl rfl
@[simp] theorem bor_all {H : Hp} : ∀ ds : List D, All2 (Bor H) (ds.map .d) (ds.map .d)
  | [] => trivial
  | x :: ds => ⟨bor_refl x, bor_all ds⟩
end Go.Proofs.Try
namespace Go.Proofs.Try
open Go.Psl
def spD (l : List (Int × Int)) : List D := l.flatMap fun s => [di s.1, di s.2]
abbrev cellsI (l : List (Int × Int)) : List V := (spD l).map .d
@[simp] theorem spD_len (l : List (Int × Int)) : (spD l).length = l.length * 2 := by
  induction l with
  | nil => rfl
  | cons a l ih => simp [spD] at ih ⊢; omega
theorem spD_snoc (l : List (Int × Int)) (p : Int × Int) : spD (l ++ [p]) = spD l ++ [di p.1, di p.2] := by simp [spD]
end Go.Proofs.Try
namespace Go.Proofs.Try
open Go.Psl
abbrev v3 (a b c : Int) : V := .agg [vi a, vi b, vi c]
def hdrV (out : List (Int × Int)) (b : Nat) : V := if out.isEmpty then .d (.lit (.slice none 0 0)) else .ls b 0 out.length 2
def outB (out : List (Int × Int)) (b : Nat) : List (Nat × List V) := if out.isEmpty then [] else [(b, cellsI out)]
end Go.Proofs.Try
namespace Go.Proofs.Try
open Go.Psl
@[simp] theorem hdrV_nil (b : Nat) : hdrV [] b = .d (.lit (.slice none 0 0)) := rfl
@[simp] theorem hdrV_snoc (l : List (Int × Int)) (p : Int × Int) (b : Nat) : hdrV (l ++ [p]) b = .ls b 0 (l.length + 1) 2 := by simp [hdrV]
@[simp] theorem outB_nil (b : Nat) : outB [] b = [] := rfl
@[simp] theorem outB_snoc (l : List (Int × Int)) (p : Int × Int) (b : Nat) : outB (l ++ [p]) b = [(b, cellsI l ++ [vi p.1, vi p.2])] := by simp [outB, cellsI, spD_snoc]
@[simp] theorem hdrV_one (p : Int × Int) (b : Nat) : hdrV [p] b = .ls b 0 1 2 := rfl
@[simp] theorem outB_one (p : Int × Int) (b : Nat) : outB [p] b = [(b, [vi p.1, vi p.2])] := rfl
end Go.Proofs.Try
namespace Go.Psl
variable {P : Program} {G : Gh} {W : World}
def Gh.cmp (G : Gh) (σ : Nat → Nat) : Gh := ⟨fun i => G.β (σ i), fun i => G.bs (σ i), fun i => G.ph (σ i), fun i => G.lo (σ i), G.Im⟩
theorem R0_ren {σ : Nat → Nat} {v : V} {x : Value} (h : R0 G W (ren0 σ v) x) : R0 (G.cmp σ) W v x := by cases v <;> exact h
theorem all_ren {S S' : V → Value → Prop} {r : V → V} (h : ∀ v x, S (r v) x → S' v x) {cs : List V} {xs : List Value} (ha : All2 S (cs.map r) xs) : All2 S' cs xs :=
  (All2.map_left.1 ha).mono fun c _ x hx => h c x hx
theorem R1_ren {σ : Nat → Nat} {v : V} {x : Value} (h : R1 G W (ren1 σ v) x) : R1 (G.cmp σ) W v x := by
  cases v with
  | cl f caps => obtain ⟨cv, hx, hc⟩ := h; exact ⟨cv, hx, all_ren (fun v x => R0_ren) hc⟩
  | _ => exact h
theorem R2_ren {σ : Nat → Nat} {v : V} {x : Value} (h : R2 G W (ren2 σ v) x) : R2 (G.cmp σ) W v x := by
  cases v with
  | agg cs => obtain ⟨cv, hx, hc⟩ := h; exact ⟨cv, hx, all_ren (fun v x => R1_ren) hc⟩
  | cl f caps => exact R1_ren (v := .cl f caps) h
  | _ => exact h
theorem RV_ren {σ : Nat → Nat} {v : V} {x : Value} (h : RV G W (ren σ v) x) : RV (G.cmp σ) W v x := by
  cases v with
  | tup cs => obtain ⟨cv, hx, hc⟩ := h; exact ⟨cv, hx, all_ren (fun v x => R2_ren) hc⟩
  | agg cs => exact R2_ren (v := .agg cs) h
  | cl f caps => exact R2_ren (v := .cl f caps) h
  | _ => exact h
theorem isCell_unren {σ : Nat → Nat} {v : V} (h : V.isCell (renC σ v) = true) : V.isCell v = true := by
  cases v <;> first | rfl | (simp [renC, ren1, ren0, V.isCell] at h; done)
theorem HB_ren {σ : Nat → Nat} {i : Nat} {cs : List V} (h : HB G W (σ i) (cs.map (renC σ))) : HB (G.cmp σ) W i cs := by
  rcases h with ⟨h1, h2⟩ | ⟨h1, h0, h2, c, T, h3, h4, h5, h6, h7⟩ | ⟨h1, h0, h2, fr, nt, ps, pa, pb, jmp, rec, h3, h4, h5⟩
  · exact .inl ⟨h1, List.map_eq_nil_iff.1 h2⟩
  · have hcell : ∀ v ∈ cs, V.isCell v = true := fun v hv => isCell_unren (List.all_eq_true.1 h7 _ (List.mem_map.2 ⟨v, hv, rfl⟩))
    have hmap : cs.map (renC σ) = cs.map (ren1 σ) := List.map_congr_left fun c hc => renC_cell (hcell c hc)
    rw [hmap] at h5 h6
    refine .inr (.inl ⟨h1, h0, h2, c, T, h3, h4, by simpa using h5, ?_, List.all_eq_true.2 hcell⟩)
    rw [List.length_map] at h6
    exact all_ren (fun v x => R1_ren) h6
  · obtain ⟨c, rfl, hc⟩ : ∃ c, cs = [c] ∧ renC σ c = .lr fr nt ps pa pb jmp := by
      match cs, h3 with
      | [c], h3 => simp at h3; exact ⟨c, rfl, h3⟩
      | [], h3 => simp at h3
      | _ :: _ :: _, h3 => simp at h3
    cases c with
    | lr fr0 nt0 ps0 pa0 pb0 jmp0 =>
      simp only [renC, V.lr.injEq] at hc
      obtain ⟨rfl, rfl, rfl, rfl, rfl, rfl⟩ := hc
      obtain ⟨q1, q2, q3, q4, q5, q6⟩ := h5
      exact .inr (.inr ⟨h1, h0, h2, fr0, _, _, _, _, _, rec, rfl, h4, q1, q2, q3, q4, fun t => RV_ren (q5 t), q6⟩)
    | _ => simp [renC, ren1, ren0] at hc
def renL (σ : Nat → Nat) (L : List (Nat × List V)) : List (Nat × List V) := L.map fun p => (σ p.1, p.2.map (renC σ))
theorem lk_ren {σ : Nat → Nat} {K : Nat} (hinj : ∀ i j, i < K → j < K → σ i = σ j → i = j) : ∀ {L : List (Nat × List V)} {i : Nat}, idsLt K L → i < K → lk (renL σ L) (σ i) = (lk L i).map (·.map (renC σ))
  | [], _, _, _ => rfl
  | p :: r, i, hL, hi => by
    simp only [renL, List.map_cons, lk]
    by_cases h : i = p.1
    · subst h; simp
    · rw [if_neg h, if_neg (fun e => h (hinj _ _ hi hL.1 e))]
      exact lk_ren hinj hL.2 hi
theorem lk_ren_inv {σ : Nat → Nat} {K : Nat} (hinj : ∀ i j, i < K → j < K → σ i = σ j → i = j) {L : List (Nat × List V)} {j : Nat} {cs' : List V} (hL : idsLt K L) (h : lk (renL σ L) j = some cs') : ∃ i cs, i < K ∧ j = σ i ∧ lk L i = some cs ∧ cs' = cs.map (renC σ) := by
  have hm := lk_mem' h
  simp only [renL, List.mem_map] at hm
  obtain ⟨p, hp, e⟩ := hm
  have hlt : p.1 < K := by
    have : ∀ {L : List (Nat × List V)}, idsLt K L → p ∈ L → p.1 < K := by
      intro L
      induction L with
      | nil => intro _ h; cases h
      | cons q r ih =>
        intro h h2
        rcases List.mem_cons.1 h2 with rfl | h2
        · exact h.1
        · exact ih h.2 h2
    exact this hL hp
  have hj : j = σ p.1 := by cases e; rfl
  rw [hj, lk_ren hinj hL hlt, Option.map_eq_some_iff] at h
  obtain ⟨cs, h1, h2⟩ := h
  exact ⟨p.1, cs, hlt, hj, h1, h2.symm⟩
theorem Cm.rename (σ : Nat → Nat) (K : Nat) (hinj : ∀ i j, i < K → j < K → σ i = σ j → i = j) {f : FuncId} {args : List V} {L : List (Nat × List V)} {ks : List Nat} {res : Res} {L1 : List (Nat × List V)} (h : Cm P f args (lk L) ks res (lk L1)) (hL : idsLt K L) (hL1 : idsLt K L1) (hks : ∀ i ∈ ks, i < K) :
    Cm P f (args.map (ren2 σ)) (lk (renL σ L)) (ks.map σ) (renR σ res) (lk (renL σ L1)) := by
  refine ⟨h.1, fun G W xs hGW hargs hpre => ?_⟩
  have hIn : ∀ i, i < K → (InH (lk (renL σ L)) (σ i) ↔ InH (lk L) i) := fun i hi => by unfold InH; rw [lk_ren hinj hL hi]; simp
  have hIn1 : ∀ i, i < K → (InH (lk (renL σ L1)) (σ i) ↔ InH (lk L1) i) := fun i hi => by unfold InH; rw [lk_ren hinj hL1 hi]; simp
  have hlent : ∀ b, lentB (G.cmp σ) (lk L) b → lentB G (lk (renL σ L)) b := fun b ⟨i, hi, hp, he⟩ => ⟨σ i, (hIn i (lk_lt hL hi)).2 hi, hp, he⟩
  have hlent' : ∀ b, lentB G (lk (renL σ L)) b → lentB (G.cmp σ) (lk L) b := fun b ⟨j, hj, hp, he⟩ => by
    obtain ⟨cs', hcs⟩ := Option.isSome_iff_exists.1 hj
    obtain ⟨i, cs, hi, rfl, h1, _⟩ := lk_ren_inv hinj hL hcs
    exact ⟨i, by unfold InH; rw [h1]; rfl, hp, he⟩
  have hpre' : PreH (G.cmp σ) W (lk L) ks := by
    refine ⟨fun i cs hi => HB_ren (hpre.hb (σ i) _ ?_), fun i j hi hj hpi hpj he => ?_, fun i hi => ?_⟩
    · rw [lk_ren hinj hL (lk_lt hL (by unfold InH; rw [hi]; rfl)), hi]; rfl
    · have li := lk_lt hL hi; have lj := lk_lt hL hj
      exact hinj i j li lj (hpre.inj _ _ ((hIn i li).2 hi) ((hIn j lj).2 hj) hpi hpj he)
    · obtain ⟨h1, h2⟩ := hpre.st (σ i) (List.mem_map.2 ⟨i, hi, rfl⟩)
      exact ⟨(hIn i (hks i hi)).1 h1, h2⟩
  refine (h.2 (G.cmp σ) W xs hGW (all_ren (fun v x => R2_ren) hargs) hpre').mono fun e W' ⟨G1, hp⟩ => ?_
  obtain ⟨τ, hτ⟩ : ∃ τ : Nat → Nat, ∀ i, i < K → τ (σ i) = i := by
    refine ⟨fun j => if hj : ∃ i, i < K ∧ σ i = j then hj.choose else 0, fun i hi => ?_⟩
    have hj : ∃ i', i' < K ∧ σ i' = σ i := ⟨i, hi, rfl⟩
    simp only [dif_pos hj]
    exact hinj _ _ hj.choose_spec.1 hi hj.choose_spec.2
  have hint : Into (InH (lk L1)) anyD σ G1 W' (G1.cmp τ) W' := ⟨fun i hi => by
    have := hτ i (lk_lt hL1 hi)
    simp only [Gh.cmp, this, and_self], fun _ _ _ h => h⟩
  refine ⟨G1.cmp τ, ⟨hp.os, hp.tape, hp.output, hp.drawn, hp.size, fun b hb hl => hp.block b hb (fun h => hl (hlent b h)), fun b hb => ?_, fun b hb => hp.im0 b hb, resRel.into hint hp.wf hp.rv, ?_, ?_, ?_, ?_⟩⟩
  · obtain ⟨h1, h2⟩ := hp.im b hb
    exact ⟨h1, h2.imp id (Or.imp id (hlent b))⟩
  · cases res with
    | ret r => exact AV.ren (fun i hi => (hIn1 i (lk_lt hL1 hi)).2 hi) hp.wf
    | pan r => exact AV.ren (fun i hi => (hIn1 i (lk_lt hL1 hi)).2 hi) hp.wf
  · intro j cs' hj
    obtain ⟨i, cs, hi, rfl, h1, rfl⟩ := lk_ren_inv hinj hL1 hj
    have hin : InH (lk L1) i := by unfold InH; rw [h1]; rfl
    obtain ⟨q1, q2, q3⟩ := hp.hb i cs h1
    refine ⟨hint.hb hin q3 q1 (fun hph => q1.nim hph), fun hph => ?_, fun c hc => ?_⟩
    · simp only [Gh.cmp, hτ i hi] at hph ⊢
      exact (q2 hph).imp id (hlent _)
    · obtain ⟨c0, hc0, rfl⟩ := List.mem_map.1 hc
      exact AC.ren (fun i hi => (hIn1 i (lk_lt hL1 hi)).2 hi) (q3 c0 hc0)
  · intro j j' hj hj' hpj hpj' he
    obtain ⟨x, hx⟩ := Option.isSome_iff_exists.1 hj
    obtain ⟨y, hy⟩ := Option.isSome_iff_exists.1 hj'
    obtain ⟨i, cs, hi, rfl, h1, _⟩ := lk_ren_inv hinj hL1 hx
    obtain ⟨i', cs', hi', rfl, h1', _⟩ := lk_ren_inv hinj hL1 hy
    simp only [Gh.cmp, hτ i hi, hτ i' hi'] at hpj hpj' he
    rw [hp.inj i i' (by unfold InH; rw [h1]; rfl) (by unfold InH; rw [h1']; rfl) hpj hpj' he]
  · intro j hj hin
    obtain ⟨i, hi, rfl⟩ := List.mem_map.1 hj
    have := hp.st i hi ((hIn1 i (hks i hi)).1 hin)
    simp only [Gh.cmp, hτ i (hks i hi)] at this ⊢
    exact this
theorem hiOk_at {ks : List Nat} {L1 : List (Nat × List V)} (hi : ∀ p ∈ L1, p.1 ∈ ks ∨ p.1 < 1048576) {i : Nat} (h : InH (lk L1) i) (hn : i ∉ ks) : i < 1048576 := by
  obtain ⟨x, hx⟩ := Option.isSome_iff_exists.1 h
  rcases hi _ (lk_mem' hx) with h | h
  · exact absurd h hn
  · exact h
theorem ACall.mkR {H : Hp} {b : Nat} {g : FuncId} {az : List V} {Kc Kx : V → Hp → Prop} (args : List V) (L : List (Nat × List V)) (ks : List Nat) (res : Res) (L1 : List (Nat × List V)) (hf : Cm P g args (lk L) ks res (lk L1)) (hin : HinOk H L) (hi : ∀ p ∈ L1, p.1 ∈ ks ∨ p.1 < 1048576) (hks : ksOk b L L1 ks) (hL : ∀ p ∈ L, p.1 < b)
    (hb : All2 (Bor noH) az args ∨ (All2 (Bor (delL H L)) az args ∧ AV (InH (lk L1)) litD res.v ∧ flatL (InH (lk L1)) L1)) (hk : afterC res (sg ks b) (addM (delL H L) ks b L1) Kc Kx) : ACall P true H H b g az Kc Kx := by
  have hL' : ∀ i, InH (lk L) i → i < b := fun i h => by
    obtain ⟨x, hx⟩ := Option.isSome_iff_exists.1 h
    exact hL _ (lk_mem' hx)
  refine ⟨args, lk L, ks, res, lk L1, _, ⟨hf, hin.at, fun i h hn => hiOk_at hi h hn, fun i h => (hks.at i h).2.2, hb.imp id fun h => ⟨?_, flatRes_of h.2.1 h.2.2⟩⟩, nofun, (heapM_list H ks b L L1 hks hL').symm, hk⟩
  have : lessH H (lk L) = delL H L := by funext i; rw [delL_eq]; rfl
  rw [this]; exact h.1
end Go.Psl
namespace Go.Proofs.Try
open Go.Psl
@[simp] theorem spD_nil : spD [] = [] := rfl
theorem spD_cons (p : Int × Int) (l : List (Int × Int)) : spD (p :: l) = di p.1 :: di p.2 :: spD l := rfl
theorem spD_app (l m : List (Int × Int)) : spD (l ++ m) = spD l ++ spD m := by simp [spD]
theorem spD_at : ∀ {l : List (Int × Int)} {i : Nat} {p : Int × Int}, l[i]? = some p → ((spD l).drop (i * 2)).take 2 = [di p.1, di p.2]
  | [], i, p, h => by simp at h
  | a :: l, 0, p, h => by simp at h; subst h; rfl
  | a :: l, i + 1, p, h => by
    simp at h
    rw [show (i + 1) * 2 = i * 2 + 2 by omega, spD_cons, List.drop_succ_cons, List.drop_succ_cons]
    exact spD_at h
theorem cells_at {l : List (Int × Int)} {i : Nat} {p : Int × Int} (h : l[i]? = some p) : List.take 2 (List.drop (i * 2) (List.map V.d (spD l))) = [vi p.1, vi p.2] := by
  rw [← List.map_drop, ← List.map_take, spD_at h]; rfl
theorem spD_set : ∀ {l : List (Int × Int)} {i : Nat} (p : Int × Int), i < l.length → (spD l).take (i * 2) ++ [di p.1, di p.2] ++ (spD l).drop (i * 2 + 2) = spD (l.set i p)
  | [], i, p, h => by simp at h
  | a :: l, 0, p, h => rfl
  | a :: l, i + 1, p, h => by
    have := spD_set (l := l) (i := i) p (by simpa using h)
    rw [show (i + 1) * 2 = i * 2 + 1 + 1 by omega, spD_cons, List.take_succ_cons, List.take_succ_cons, List.set_cons_succ, spD_cons, ← this]
    simp [List.drop_succ_cons]
theorem cells_set {l : List (Int × Int)} {i : Nat} (p : Int × Int) (h : i < l.length) : splice (List.map V.d (spD l)) (i * 2) [vi p.1, vi p.2] = List.map V.d (spD (l.set i p)) := by
  unfold splice
  rw [← spD_set p h, List.map_append, List.map_append, List.map_take, List.map_drop]
  rfl
theorem sp_flat' (l : List (Int × Int)) : (l.map fun s => [di s.1, di s.2]).flatten = spD l := rfl
theorem fn126 (l : List (Int × Int)) (hl : l.length ≤ 1000000000) (h0 : l ≠ []) : Ct prog 126 [.d (spansD l)] (.ls 0 0 l.length 2) [(0, cellsI l)] := by
  refine Ct.by gok eok mixed func126 c126 rfl (by simp [ntmps126]) (by simp) (by simp [ResIds]) fun E hE => ?_
  obtain ⟨a, r, rfl⟩ := List.exists_cons_of_ne_nil h0
  have hmx : (r.length + 1) * 16 ≤ 140737488355328 ∧ r.length + 1 ≤ 9223372036854775807 := by simp at hl; omega
  have e : spansD (a :: r) = .sl 2 ([di a.1, di a.2] :: r.map fun s => [di s.1, di s.2]) := rfl
  have ef : (r.map fun s => [di s.1, di s.2]).flatten = spD r := rfl
  simp [p126, e, ef, repl, hmx]
  refine RetOk.by (lk [(0, 5242880)]) ?_
  have ec : cellsI (a :: r) = V.d (di a.1) :: V.d (di a.2) :: (spD r).map .d := rfl
  simp [results126, ec]
end Go.Proofs.Try
namespace Go.Proofs.Try
open Go.Psl
def revN (l : List (Int × Int)) : Nat → List (Int × Int)
  | 0 => l
  | i + 1 => ((revN l i).set i (l.getD (l.length - 1 - i) (0, 0))).set (l.length - 1 - i) (l.getD i (0, 0))
theorem revN_len (l : List (Int × Int)) : ∀ i, (revN l i).length = l.length
  | 0 => rfl
  | i + 1 => by simp [revN, revN_len l i]
theorem revN_at (l : List (Int × Int)) : ∀ i, 2 * i ≤ l.length → ∀ k, k < l.length → (revN l i)[k]? = if k < i ∨ l.length - i ≤ k then l[l.length - 1 - k]? else l[k]?
  | 0, _, k, hk => by simp [revN]; omega
  | i + 1, h, k, hk => by
    have ih := revN_at l i (by omega) k hk
    have g : ∀ j, j < l.length → some (l.getD j (0, 0)) = l[j]? := fun j hj => by
      rw [List.getD_eq_getElem?_getD, List.getElem?_eq_getElem hj]; rfl
    simp only [revN]
    by_cases h1 : k = l.length - 1 - i
    · subst h1
      rw [List.getElem?_set_self (by simp [revN_len]; omega), g i (by omega), if_pos (by omega)]
      congr 1; omega
    · rw [List.getElem?_set_ne (by omega)]
      by_cases h2 : k = i
      · subst h2
        rw [List.getElem?_set_self (by simp [revN_len]; omega), g _ (by omega), if_pos (by omega)]
      · rw [List.getElem?_set_ne (by omega), ih]
        by_cases h3 : k < i ∨ l.length - i ≤ k
        · rw [if_pos h3, if_pos (by omega)]
        · rw [if_neg h3, if_neg (by omega)]
theorem revN_end {l : List (Int × Int)} {i : Nat} (h : 2 * i ≤ l.length) (h2 : l.length ≤ 2 * i + 1) : revN l i = l.reverse := by
  apply List.ext_getElem?
  intro k
  by_cases hk : k < l.length
  · rw [revN_at l i h k hk, List.getElem?_reverse hk]
    by_cases h3 : k < i ∨ l.length - i ≤ k
    · rw [if_pos h3]
    · rw [if_neg h3]; congr 1; omega
  · rw [List.getElem?_eq_none (by rw [revN_len]; omega), List.getElem?_eq_none (by rw [List.length_reverse]; omega)]
theorem fn132 (l z : List (Int × Int)) (hl : l.length ≤ 1000000000) : Cm prog 132 [.ls 0 0 l.length 2] (lk [(0, cellsI (l ++ z))]) [0] (.ret (.tup [])) (lk [(0, cellsI (l.reverse ++ z))]) := by
  refine Cm.by gok eok mixed 1 func132 c132 rfl (by simp [ntmps132]) (by simp) (HpIds.at ?_) (by simp) ?_ fun E hE hs => ?_
  · simp
  · simp [ResIds]
  have w0 : IntKind.wrap .i64 ((l.length : Int) - 1) = (l.length : Int) - 1 := wrap64 (by omega) (by omega)
  simp [p132, w0]
  refine pw_loop (α := Nat) (fun i => ⟨slots [(0, .ls 0 0 l.length 2), (2, vi i), (3, vi ((l.length : Int) - 1 - i))], lk [(0, cellsI (revN l i ++ z))], 1⟩) (fun i => 2 * i ≤ l.length) (fun i => l.length - i) 0 ?_ ?_ ?_
  · simp
  · refine Weak.mkM hE (lk [(0, 0)]) _ _ _ ?_ ?_ ?_ ?_ ?_ ?_ <;> simp [revN]
  · intro i hi
    simp [p132l0]
    by_cases h : (i : Int) < (l.length : Int) - 1 - i
    · obtain ⟨j, hj⟩ : ∃ j, j = l.length - 1 - i := ⟨_, rfl⟩
      have hj' : (l.length : Int) - 1 - i = (j : Int) := by omega
      obtain ⟨a, ha⟩ : ∃ a, l[i]? = some a := ⟨l[i], by simp [show i < l.length by omega]⟩
      obtain ⟨b, hb⟩ : ∃ b, l[j]? = some b := ⟨l[j], by simp [show j < l.length by omega]⟩
      have hlen := revN_len l i
      have ha' : (revN l i ++ z)[i]? = some a := by rw [List.getElem?_append_left (by omega), revN_at l i hi i (by omega), if_neg (by omega), ha]
      have hb' : (revN l i ++ z)[j]? = some b := by rw [List.getElem?_append_left (by omega), revN_at l i hi j (by omega), if_neg (by omega), hb]
      have hnx : ((revN l i ++ z).set i b).set j a = revN l (i + 1) ++ z := by
        have e1 : l.getD i (0, 0) = a := by rw [List.getD_eq_getElem?_getD, ha]; rfl
        have e2 : l.getD j (0, 0) = b := by rw [List.getD_eq_getElem?_getD, hb]; rfl
        rw [revN, ← hj, e1, e2, List.set_append_left _ _ (by omega), List.set_append_left _ _ (by simp; omega)]
      generalize revN l i ++ z = L at ha' hb' hnx ⊢
      have hL1 := (List.getElem?_eq_some_iff.1 ha').1
      have hL2 := (List.getElem?_eq_some_iff.1 hb').1
      have ca := cells_at ha'
      have cb := cells_at hb'
      have s1 := cells_set b hL1
      have s2 := cells_set (l := L.set i b) a (i := j) (by simpa using hL2)
      rw [hnx] at s2
      have hdl := spD_len L
      have hdl2 := spD_len (L.set i b)
      have q1 : i * 2 + 2 ≤ L.length * 2 := by omega
      have q2 : j * 2 + 2 ≤ L.length * 2 := by omega
      have z1 : IntKind.wrap .i64 ((i : Int) + 1) = ((i + 1 : Nat) : Int) := by rw [wrap64 (by omega) (by omega)]; omega
      have z2 : IntKind.wrap .i64 ((j : Int) - 1) = (j : Int) - 1 := wrap64 (by omega) (by omega)
      have i1 : i < l.length := by omega
      have j1 : j < l.length := by omega
      have hij : i < j := by omega
      rw [hj']
      simp [hij]
      refine pw_drawW [(13, 0)] (by kernel_rfl) ?_
      simp [inC, Nat.testBit, i1, j1, q1, q2, ca, cb, s1, s2, z1, z2]
      refine ⟨i + 1, by omega, by omega, ?_⟩
      refine Weak.mkM hE (lk [(0, 0)]) _ _ _ ?_ ?_ ?_ ?_ ?_ ?_ <;> simp
      omega
    · simp [h]
      have he : revN l i = l.reverse := revN_end hi (by omega)
      refine RetOk.by (lk [(0, 0)]) ?_
      simp [results132, he]
end Go.Proofs.Try
namespace Go.Stb
variable {α β : Type}
def bsr (t : Nat → Bool) : Nat → Nat → Nat → Nat
  | 0, i, _ => i
  | n + 1, i, j => if i < j then (if t ((i + j) / 2) then bsr t n ((i + j) / 2 + 1) j else bsr t n i ((i + j) / 2)) else i
theorem bsr_spec (t : Nat → Bool) (lo hi : Nat) : ∀ n i j, j - i ≤ n → lo ≤ i → i ≤ j → j ≤ hi → (lo < i → t (i - 1) = true) → (j < hi → t j = false) → lo ≤ bsr t n i j ∧ bsr t n i j ≤ hi ∧ (lo < bsr t n i j → t (bsr t n i j - 1) = true) ∧ (bsr t n i j < hi → t (bsr t n i j) = false)
  | 0, i, j, hn, h1, h2, h3, h4, h5 => by
    have e : i = j := by omega
    subst e
    exact ⟨h1, h3, h4, h5⟩
  | n + 1, i, j, hn, h1, h2, h3, h4, h5 => by
    unfold bsr
    by_cases h : i < j
    · rw [if_pos h]
      cases ht : t ((i + j) / 2)
      · simp only [Bool.false_eq_true, if_false]
        exact bsr_spec t lo hi n i _ (by omega) h1 (by omega) (by omega) h4 (fun _ => ht)
      · simp only [if_true]
        exact bsr_spec t lo hi n _ j (by omega) (by omega) (by omega) h3 (fun _ => by simpa using ht) h5
    · rw [if_neg h]
      have e : i = j := by omega
      subst e
      exact ⟨h1, h3, h4, h5⟩
theorem bsr_more (t : Nat → Bool) : ∀ n i j, j - i ≤ n → bsr t n i j = bsr t (j - i) i j
  | 0, i, j, h => by have : j - i = 0 := by omega
                     rw [this]
  | n + 1, i, j, h => by
    by_cases hij : i < j
    · obtain ⟨k, hk⟩ : ∃ k, j - i = k + 1 := ⟨j - i - 1, by omega⟩
      rw [hk]
      unfold bsr
      rw [if_pos hij, if_pos hij]
      cases t ((i + j) / 2)
      · simp only [Bool.false_eq_true, if_false]
        rw [bsr_more t n i _ (by omega), bsr_more t k i _ (by omega)]
      · simp only [if_true]
        rw [bsr_more t n _ j (by omega), bsr_more t k _ j (by omega)]
    · have : j - i = 0 := by omega
      rw [this]
      unfold bsr
      rw [if_neg hij]
def srch (t : Nat → Bool) (i j : Nat) : Nat := bsr t (j - i) i j
theorem srch_step (t : Nat → Bool) {i j : Nat} (h : i < j) : srch t i j = if t ((i + j) / 2) then srch t ((i + j) / 2 + 1) j else srch t i ((i + j) / 2) := by
  unfold srch
  obtain ⟨k, hk⟩ : ∃ k, j - i = k + 1 := ⟨j - i - 1, by omega⟩
  rw [hk]
  conv => lhs; unfold bsr
  rw [if_pos h]
  cases t ((i + j) / 2)
  · simp only [Bool.false_eq_true, if_false]
    exact bsr_more t k i _ (by omega)
  · simp only [if_true]
    exact bsr_more t k _ j (by omega)
theorem srch_end (t : Nat → Bool) {i j : Nat} (h : ¬ i < j) : srch t i j = i := by
  unfold srch
  have : j - i = 0 := by omega
  rw [this]; rfl
theorem srch_spec (t : Nat → Bool) {i j : Nat} (h : i ≤ j) : i ≤ srch t i j ∧ srch t i j ≤ j ∧ (i < srch t i j → t (srch t i j - 1) = true) ∧ (srch t i j < j → t (srch t i j) = false) :=
  bsr_spec t i j (j - i) i j (Nat.le_refl _) (Nat.le_refl _) h (Nat.le_refl _) (fun h => by omega) (fun h => by omega)
def sw (D : List α) (i j : Nat) : List α := match D[i]?, D[j]? with
  | some x, some y => (D.set i y).set j x
  | _, _ => D
theorem sw_len (D : List α) (i j : Nat) : (sw D i j).length = D.length := by
  unfold sw; split <;> simp
theorem sw_eq {D : List α} {i j : Nat} {x y : α} (hi : D[i]? = some x) (hj : D[j]? = some y) : sw D i j = (D.set i y).set j x := by
  unfold sw; rw [hi, hj]
def lessAt (c : α → α → Bool) (D : List α) (i j : Nat) : Bool := match D[i]?, D[j]? with
  | some x, some y => c x y
  | _, _ => false
theorem lessAt_eq {c : α → α → Bool} {D : List α} {i j : Nat} {x y : α} (hi : D[i]? = some x) (hj : D[j]? = some y) : lessAt c D i j = c x y := by
  unfold lessAt; rw [hi, hj]
def swpN (D : List α) (a b : Nat) : Nat → List α
  | 0 => D
  | i + 1 => sw (swpN D a b i) (a + i) (b + i)
theorem swpN_len (D : List α) (a b : Nat) : ∀ n, (swpN D a b n).length = D.length
  | 0 => rfl
  | n + 1 => by unfold swpN; rw [sw_len, swpN_len D a b n]
def rotL (m : Nat) : Nat → List α → Nat → Nat → List α
  | 0, D, i, _ => swpN D (m - i) m i
  | n + 1, D, i, j => if i = j then swpN D (m - i) m i else if j < i then rotL m n (swpN D (m - i) m j) (i - j) j else rotL m n (swpN D (m - i) (m + j - i) i) i (j - i)
theorem rotL_len (m : Nat) : ∀ n (D : List α) i j, (rotL m n D i j).length = D.length
  | 0, D, i, _ => swpN_len D _ _ _
  | n + 1, D, i, j => by
    unfold rotL
    split
    · exact swpN_len _ _ _ _
    · split
      · rw [rotL_len, swpN_len]
      · rw [rotL_len, swpN_len]
theorem rotL_more (m : Nat) : ∀ n k (D : List α) i j, 0 < i → 0 < j → i + j ≤ n → i + j ≤ k → rotL m n D i j = rotL m k D i j
  | 0, _, _, _, _, _, _, h, _ => by omega
  | _ + 1, 0, _, _, _, _, _, _, h => by omega
  | n + 1, k + 1, D, i, j, hi, hj, h1, h2 => by
    unfold rotL
    split
    · rfl
    · split
      · exact rotL_more m n k _ _ _ (by omega) hj (by omega) (by omega)
      · exact rotL_more m n k _ _ _ hi (by omega) (by omega) (by omega)
def rotF (D : List α) (m i j : Nat) : List α := rotL m (i + j) D i j
theorem rotF_step (D : List α) (m : Nat) {i j : Nat} (hi : 0 < i) (hj : 0 < j) : rotF D m i j = if i = j then swpN D (m - i) m i else if j < i then rotF (swpN D (m - i) m j) m (i - j) j else rotF (swpN D (m - i) (m + j - i) i) m i (j - i) := by
  unfold rotF
  obtain ⟨k, hk⟩ : ∃ k, i + j = k + 1 := ⟨i + j - 1, by omega⟩
  rw [hk]
  conv => lhs; unfold rotL
  split
  · rfl
  · split
    · exact rotL_more m k _ _ _ _ (by omega) hj (by omega) (by omega)
    · exact rotL_more m k _ _ _ _ hi (by omega) (by omega) (by omega)
theorem rotF_len (D : List α) (m i j : Nat) : (rotF D m i j).length = D.length := rotL_len _ _ _ _ _
def movR (D : List α) (k : Nat) : Nat → List α
  | 0 => D
  | n + 1 => movR (sw D k (k + 1)) (k + 1) n
theorem movR_len : ∀ n (D : List α) k, (movR D k n).length = D.length
  | 0, _, _ => rfl
  | n + 1, D, k => by unfold movR; rw [movR_len n, sw_len]
def movL (D : List α) (k : Nat) : Nat → List α
  | 0 => D
  | n + 1 => movL (sw D k (k - 1)) (k - 1) n
theorem movL_len : ∀ n (D : List α) k, (movL D k n).length = D.length
  | 0, _, _ => rfl
  | n + 1, D, k => by unfold movL; rw [movL_len n, sw_len]
def cutS (c : α → α → Bool) (D : List α) (a m b : Nat) : Nat :=
  srch (fun x => !lessAt c D ((a + b) / 2 + m - 1 - x) x) (if (a + b) / 2 < m then (a + b) / 2 + m - b else a) (if (a + b) / 2 < m then (a + b) / 2 else m)
def symL (c : α → α → Bool) : Nat → List α → Nat → Nat → Nat → List α
  | 0, D, _, _, _ => D
  | n + 1, D, a, m, b =>
    if m - a = 1 then movR D a (srch (fun h => lessAt c D h a) m b - 1 - a)
    else if b - m = 1 then movL D m (m - srch (fun h => !lessAt c D m h) a m)
    else
      let mid := (a + b) / 2
      let s := cutS c D a m b
      let e := mid + m - s
      let D1 := if s < m ∧ m < e then rotF D m (m - s) (e - m) else D
      let D2 := if a < s ∧ s < mid then symL c n D1 a s mid else D1
      if mid < e ∧ e < b then symL c n D2 mid e b else D2
theorem symL_len (c : α → α → Bool) : ∀ n (D : List α) a m b, (symL c n D a m b).length = D.length
  | 0, _, _, _, _ => rfl
  | n + 1, D, a, m, b => by
    unfold symL
    split
    · exact movR_len _ _ _
    · split
      · exact movL_len _ _ _
      · simp only
        split
        · rw [symL_len c n]
          split
          · rw [symL_len c n]
            split
            · exact rotF_len _ _ _ _
            · rfl
          · split
            · exact rotF_len _ _ _ _
            · rfl
        · split
          · rw [symL_len c n]
            split
            · exact rotF_len _ _ _ _
            · rfl
          · split
            · exact rotF_len _ _ _ _
            · rfl
def sift (c : α → α → Bool) (a : Nat) : Nat → List α → List α
  | 0, D => D
  | j + 1, D => if a < j + 1 ∧ lessAt c D (j + 1) j = true then sift c a j (sw D (j + 1) j) else D
theorem sift_len (c : α → α → Bool) (a : Nat) : ∀ j (D : List α), (sift c a j D).length = D.length
  | 0, _ => rfl
  | j + 1, D => by unfold sift; split; rw [sift_len c a j, sw_len]; rfl
def insN (c : α → α → Bool) (a : Nat) (D : List α) : Nat → List α
  | 0 => D
  | i + 1 => sift c a (a + (i + 1)) (insN c a D i)
theorem insN_len (c : α → α → Bool) (a : Nat) (D : List α) : ∀ n, (insN c a D n).length = D.length
  | 0 => rfl
  | n + 1 => by unfold insN; rw [sift_len, insN_len c a D n]
def insF (c : α → α → Bool) (D : List α) (a b : Nat) : List α := insN c a D (b - a - 1)
end Go.Stb
namespace Go.Stb
variable {α : Type}
theorem at_len {P S : List α} {x : α} {i : Nat} (h : i = P.length) : (P ++ x :: S)[i]? = some x := by
  subst h; simp
theorem sw_ok (P M S : List α) (x y : α) {i j : Nat} (hi : i = P.length) (hj : j = P.length + 1 + M.length) : sw (P ++ x :: (M ++ y :: S)) i j = P ++ y :: (M ++ x :: S) := by
  subst hi; subst hj
  have h1 : (P ++ x :: (M ++ y :: S))[P.length]? = some x := at_len rfl
  have e : P ++ x :: (M ++ y :: S) = (P ++ x :: M) ++ y :: S := by simp
  have h2 : (P ++ x :: (M ++ y :: S))[P.length + 1 + M.length]? = some y := by rw [e]; exact at_len (by simp; omega)
  rw [sw_eq h1 h2]
  rw [List.set_append_right _ _ (Nat.le_refl _), Nat.sub_self, List.set_cons_zero]
  have e2 : P ++ y :: (M ++ y :: S) = (P ++ y :: M) ++ y :: S := by simp
  rw [e2, List.set_append_right _ _ (by simp; omega)]
  have e3 : P.length + 1 + M.length - (P ++ y :: M).length = 0 := by simp; omega
  rw [e3, List.set_cons_zero]
  simp
theorem swpN_ok : ∀ (n : Nat) (P X M Y S : List α) {a b : Nat}, X.length = n → Y.length = n → a = P.length → b = P.length + X.length + M.length → swpN (P ++ X ++ M ++ Y ++ S) a b n = P ++ Y ++ M ++ X ++ S
  | 0, P, X, M, Y, S, a, b, hX, hY, ha, hb => by
    rw [List.length_eq_zero_iff] at hX hY
    subst hX; subst hY; rfl
  | n + 1, P, X, M, Y, S, a, b, hX, hY, ha, hb => by
    rcases List.eq_nil_or_concat X with rfl | ⟨X', x, rfl⟩
    · simp at hX
    rcases List.eq_nil_or_concat Y with rfl | ⟨Y', y, rfl⟩
    · simp at hY
    simp only [List.concat_eq_append, List.length_append, List.length_singleton] at hX hY hb ⊢
    unfold swpN
    have ih := swpN_ok n P X' ([x] ++ M) Y' ([y] ++ S) (a := a) (b := b) (by omega) (by omega) ha (by simp; omega)
    have e : P ++ (X' ++ [x]) ++ M ++ (Y' ++ [y]) ++ S = P ++ X' ++ ([x] ++ M) ++ Y' ++ ([y] ++ S) := by simp
    rw [e, ih]
    have e2 : P ++ Y' ++ ([x] ++ M) ++ X' ++ ([y] ++ S) = (P ++ Y') ++ x :: ((M ++ X') ++ y :: S) := by simp
    rw [e2, sw_ok (P ++ Y') (M ++ X') S x y (by simp; omega) (by simp; omega)]
    simp
theorem rotL_ok (m : Nat) : ∀ (n : Nat) (P U V S : List α), m = P.length + U.length → 0 < U.length → 0 < V.length → U.length + V.length ≤ n → rotL m n (P ++ U ++ V ++ S) U.length V.length = P ++ V ++ U ++ S
  | 0, _, _, _, _, _, h1, _, h => by omega
  | n + 1, P, U, V, S, hm, hU, hV, hn => by
    unfold rotL
    by_cases he : U.length = V.length
    · rw [if_pos he]
      have := swpN_ok U.length P U [] V S (a := m - U.length) (b := m) rfl he.symm (by omega) (by simp; omega)
      simpa using this
    · rw [if_neg he]
      by_cases hlt : V.length < U.length
      · rw [if_pos hlt]
        obtain ⟨U1, U2, rfl, h1⟩ : ∃ U1 U2, U = U1 ++ U2 ∧ U1.length = V.length := ⟨U.take V.length, U.drop V.length, (List.take_append_drop _ _).symm, by rw [List.length_take]; omega⟩
        have := swpN_ok V.length P U1 U2 V S (a := m - (U1 ++ U2).length) (b := m) h1 rfl (by omega) (by simp at hm; omega)
        have e : P ++ (U1 ++ U2) ++ V ++ S = P ++ U1 ++ U2 ++ V ++ S := by simp
        rw [e, this]
        have ih := rotL_ok m n (P ++ V) U2 U1 S (by simp at hm ⊢; omega) (by simp at hlt; omega) (by omega) (by simp at hn; omega)
        have e2 : (U1 ++ U2).length - V.length = U2.length := by simp; omega
        rw [e2, ← h1, ih]
        simp
      · rw [if_neg hlt]
        obtain ⟨V1, V2, rfl, h1⟩ : ∃ V1 V2, V = V1 ++ V2 ∧ V2.length = U.length := ⟨V.take (V.length - U.length), V.drop (V.length - U.length), (List.take_append_drop _ _).symm, by rw [List.length_drop]; omega⟩
        have := swpN_ok U.length P U V1 V2 S (a := m - U.length) (b := m + (V1 ++ V2).length - U.length) rfl h1 (by omega) (by simp; omega)
        have e : P ++ U ++ (V1 ++ V2) ++ S = P ++ U ++ V1 ++ V2 ++ S := by simp
        rw [e, this]
        have ih := rotL_ok m n P V2 V1 (U ++ S) (by omega) (by omega) (by simp at hlt he; omega) (by simp at hn; omega)
        have e2 : (V1 ++ V2).length - U.length = V1.length := by simp; omega
        have e3 : P ++ V2 ++ V1 ++ U ++ S = P ++ V2 ++ V1 ++ (U ++ S) := by simp
        rw [e2, ← h1, e3, ih]
        simp
theorem rotF_ok (P U V S : List α) {m i j : Nat} (hm : m = P.length + U.length) (hi : i = U.length) (hj : j = V.length) (hU : 0 < U.length) (hV : 0 < V.length) : rotF (P ++ U ++ V ++ S) m i j = P ++ V ++ U ++ S := by
  subst hi; subst hj
  exact rotL_ok m _ P U V S hm hU hV (Nat.le_refl _)
theorem movR_ok (x : α) (S : List α) : ∀ (B P : List α) {k : Nat}, k = P.length → movR (P ++ x :: (B ++ S)) k B.length = P ++ B ++ x :: S
  | [], P, k, _ => by simp [movR]
  | y :: B, P, k, hk => by
    simp only [List.length_cons, movR, List.cons_append]
    have := sw_ok P [] (B ++ S) x y (i := k) (j := k + 1) hk (by simp; omega)
    simp only [List.nil_append] at this
    rw [this]
    have ih := movR_ok x S B (P ++ [y]) (k := k + 1) (by simp; omega)
    have e : P ++ y :: x :: (B ++ S) = P ++ [y] ++ x :: (B ++ S) := by simp
    rw [e, ih]
    simp
theorem movL_ok (y : α) : ∀ (n : Nat) (A P S : List α) {k : Nat}, A.length = n → k = P.length + n → movL (P ++ A ++ y :: S) k n = P ++ y :: (A ++ S)
  | 0, A, P, S, k, hA, hk => by
    rw [List.length_eq_zero_iff] at hA
    subst hA
    simp [movL]
  | n + 1, A, P, S, k, hA, hk => by
    rcases List.eq_nil_or_concat A with rfl | ⟨A', x, rfl⟩
    · simp at hA
    simp only [List.concat_eq_append, List.length_append, List.length_singleton] at hA ⊢
    unfold movL
    have h1 : (P ++ (A' ++ [x]) ++ y :: S)[k]? = some y := at_len (by simp; omega)
    have e : P ++ (A' ++ [x]) ++ y :: S = (P ++ A') ++ x :: (y :: S) := by simp
    have h2 : (P ++ (A' ++ [x]) ++ y :: S)[k - 1]? = some x := by rw [e]; exact at_len (by simp; omega)
    have hsw : sw (P ++ (A' ++ [x]) ++ y :: S) k (k - 1) = (P ++ A') ++ y :: (x :: S) := by
      rw [sw_eq h1 h2]
      have e4 : (P ++ (A' ++ [x]) ++ y :: S).set k x = (P ++ A' ++ [x]) ++ x :: S := by
        have e5 : P ++ (A' ++ [x]) ++ y :: S = (P ++ A' ++ [x]) ++ y :: S := by simp
        rw [e5, List.set_append_right _ _ (by simp; omega), show k - (P ++ A' ++ [x]).length = 0 by simp; omega, List.set_cons_zero]
      rw [e4]
      have e6 : (P ++ A' ++ [x]) ++ x :: S = (P ++ A') ++ x :: (x :: S) := by simp
      rw [e6, List.set_append_right _ _ (by simp; omega), show k - 1 - (P ++ A').length = 0 by simp; omega, List.set_cons_zero]
    rw [hsw]
    have ih := movL_ok y n A' P (x :: S) (k := k - 1) (by omega) (by omega)
    rw [ih]
    simp
structure Cross (c : α → α → Bool) (lt : α → α → Prop) (A B : List α) : Prop where
  iff : ∀ x ∈ A, ∀ y ∈ B, (c y x = true → lt y x) ∧ (c y x = false → lt x y)
theorem Cross.sub {c : α → α → Bool} {lt : α → α → Prop} {A B A' B' : List α} (h : Cross c lt A B) (hA : ∀ x ∈ A', x ∈ A) (hB : ∀ y ∈ B', y ∈ B) : Cross c lt A' B' := ⟨fun x hx y hy => h.iff x (hA x hx) y (hB y hy)⟩
theorem Cross.no {c : α → α → Bool} {lt : α → α → Prop} {A B : List α} (h : Cross c lt A B) {x y : α} (hx : x ∈ A) (hy : y ∈ B) (hc : c y x = false) : lt x y := by
  exact (h.iff x hx y hy).2 hc
theorem sift_ok {c : α → α → Bool} {lt : α → α → Prop} (htr : ∀ x y z, lt x y → lt y z → lt x z) (P : List α) (y : α) : ∀ (n : Nat) (X S : List α), X.length = n → X.Pairwise lt → Cross c lt X [y] →
    ∃ R, sift c P.length (P.length + n) (P ++ X ++ y :: S) = P ++ R ++ S ∧ R.Perm (X ++ [y]) ∧ R.Pairwise lt
  | 0, X, S, hX, _, _ => by
    rw [List.length_eq_zero_iff] at hX
    subst hX
    refine ⟨[y], ?_, by simp, by simp⟩
    simp only [Nat.add_zero, List.append_nil]
    cases hP : P.length with
    | zero => simp [sift]
    | succ k =>
      unfold sift
      rw [if_neg (by omega)]; simp
  | n + 1, X, S, hX, hs, hc => by
    rcases List.eq_nil_or_concat X with rfl | ⟨X', x, rfl⟩
    · simp at hX
    simp only [List.concat_eq_append, List.length_append, List.length_singleton] at hX hs hc ⊢
    have hs' := List.pairwise_append.1 hs
    have h1 : (P ++ (X' ++ [x]) ++ y :: S)[P.length + n + 1]? = some y := at_len (by simp; omega)
    have e : P ++ (X' ++ [x]) ++ y :: S = (P ++ X') ++ x :: (y :: S) := by simp
    have h2 : (P ++ (X' ++ [x]) ++ y :: S)[P.length + n]? = some x := by rw [e]; exact at_len (by simp; omega)
    rw [show P.length + (n + 1) = P.length + n + 1 by omega]
    unfold sift
    rw [lessAt_eq h1 h2]
    cases hcc : c y x
    · rw [if_neg (by simp)]
      refine ⟨X' ++ [x] ++ [y], by simp, List.Perm.refl _, ?_⟩
      have hxy : lt x y := hc.no (by simp) (by simp) hcc
      refine List.pairwise_append.2 ⟨hs, List.pairwise_singleton _ _, fun z hz w hw => ?_⟩
      rw [List.mem_singleton.1 hw]
      rcases List.mem_append.1 hz with hz | hz
      · exact htr _ _ _ (hs'.2.2 z hz x (by simp)) hxy
      · rw [List.mem_singleton.1 hz]; exact hxy
    · rw [if_pos ⟨by omega, rfl⟩]
      have hyx : lt y x := (hc.iff x (by simp) y (by simp)).1 hcc
      have hsw : sw (P ++ (X' ++ [x]) ++ y :: S) (P.length + n + 1) (P.length + n) = P ++ X' ++ y :: (x :: S) := by
        rw [sw_eq h1 h2]
        have e4 : (P ++ (X' ++ [x]) ++ y :: S).set (P.length + n + 1) x = (P ++ X' ++ [x]) ++ x :: S := by
          have e5 : P ++ (X' ++ [x]) ++ y :: S = (P ++ X' ++ [x]) ++ y :: S := by simp
          rw [e5, List.set_append_right _ _ (by simp; omega), show P.length + n + 1 - (P ++ X' ++ [x]).length = 0 by simp; omega, List.set_cons_zero]
        rw [e4]
        have e6 : (P ++ X' ++ [x]) ++ x :: S = (P ++ X') ++ x :: (x :: S) := by simp
        rw [e6, List.set_append_right _ _ (by simp; omega), show P.length + n - (P ++ X').length = 0 by simp; omega, List.set_cons_zero]
      rw [hsw]
      obtain ⟨R, q1, q2, q3⟩ := sift_ok htr P y n X' (x :: S) (by omega) hs'.1 (hc.sub (fun z hz => List.mem_append_left _ hz) (fun z hz => hz))
      refine ⟨R ++ [x], by rw [q1]; simp, ?_, ?_⟩
      · have := q2.append_right [x]
        refine this.trans ?_
        rw [List.append_assoc, List.append_assoc]
        exact (List.Perm.refl X').append (List.Perm.swap x y [])
      · refine List.pairwise_append.2 ⟨q3, List.pairwise_singleton _ _, fun z hz w hw => ?_⟩
        rw [List.mem_singleton.1 hw]
        rcases List.mem_append.1 (q2.mem_iff.1 hz) with hz | hz
        · exact hs'.2.2 z hz x (by simp)
        · rw [List.mem_singleton.1 hz]; exact hyx
end Go.Stb
namespace Go.Stb
variable {α : Type}
def Rel (c : α → α → Bool) (lt : α → α → Prop) (x y : α) : Prop := (c y x = true → lt y x) ∧ (c y x = false → lt x y)
theorem insN_ok {c : α → α → Bool} {lt : α → α → Prop} (htr : ∀ x y z, lt x y → lt y z → lt x z) (P G S : List α) (hG : G.Pairwise (Rel c lt)) : ∀ i, i + 1 ≤ G.length →
    ∃ R, insN c P.length (P ++ G ++ S) i = P ++ R ++ (G.drop (i + 1) ++ S) ∧ R.Perm (G.take (i + 1)) ∧ R.Pairwise lt
  | 0, h => by
    match G, h with
    | g :: G, _ => exact ⟨[g], by simp [insN], by simp, by simp⟩
  | i + 1, h => by
    obtain ⟨R, q1, q2, q3⟩ := insN_ok htr P G S hG i (by omega)
    obtain ⟨y, hy⟩ : ∃ y, G[i + 1]? = some y := ⟨_, List.getElem?_eq_getElem (by omega)⟩
    have hd : G.drop (i + 1) = y :: G.drop (i + 2) := by rw [List.drop_eq_getElem_cons (by omega), (List.getElem?_eq_some_iff.1 hy).2]
    have ht : G.take (i + 2) = G.take (i + 1) ++ [y] := by rw [List.take_add_one, hy]; rfl
    have hRl : R.length = i + 1 := by rw [q2.length_eq, List.length_take]; omega
    have hcr : Cross c lt R [y] := ⟨fun x hx z hz => by
      rw [List.mem_singleton.1 hz]
      have hx' := q2.mem_iff.1 hx
      obtain ⟨k, hk⟩ := List.getElem?_of_mem hx'
      rw [List.getElem?_take] at hk
      split at hk
      · rename_i hki
        have k1 := List.getElem?_eq_some_iff.1 hk
        have k2 := List.getElem?_eq_some_iff.1 hy
        have := List.pairwise_iff_getElem.1 hG k (i + 1) k1.1 k2.1 (by omega)
        rw [k1.2, k2.2] at this
        exact this
      · cases hk⟩
    obtain ⟨R', p1, p2, p3⟩ := sift_ok htr P y (i + 1) R (G.drop (i + 2) ++ S) hRl q3 hcr
    refine ⟨R', ?_, ?_, p3⟩
    · unfold insN
      rw [q1, hd]
      exact p1
    · rw [ht]
      exact p2.trans (q2.append_right [y])
theorem insF_ok {c : α → α → Bool} {lt : α → α → Prop} (htr : ∀ x y z, lt x y → lt y z → lt x z) (P G S : List α) (hG : G.Pairwise (Rel c lt)) {a b : Nat} (ha : a = P.length) (hb : b = P.length + G.length) :
    ∃ R, insF c (P ++ G ++ S) a b = P ++ R ++ S ∧ R.Perm G ∧ R.Pairwise lt := by
  subst ha; subst hb
  unfold insF
  by_cases h0 : G.length = 0
  · rw [List.length_eq_zero_iff] at h0
    subst h0
    refine ⟨[], ?_, by simp, by simp⟩
    rw [show P.length + ([] : List α).length - P.length - 1 = 0 by simp]
    rfl
  · obtain ⟨R, q1, q2, q3⟩ := insN_ok htr P G S hG (G.length - 1) (by omega)
    refine ⟨R, ?_, ?_, q3⟩
    · rw [show P.length + G.length - P.length - 1 = G.length - 1 by omega, q1, show G.length - 1 + 1 = G.length by omega, List.drop_length]; rfl
    · rw [show G.length - 1 + 1 = G.length by omega, List.take_length] at q2; exact q2
theorem head_pw {lt : α → α → Prop} {x : α} {l : List α} (h : (x :: l).Pairwise lt) : ∀ y ∈ l, lt x y := (List.pairwise_cons.1 h).1
theorem last_first {lt : α → α → Prop} (htr : ∀ x y z, lt x y → lt y z → lt x z) {A B : List α} (sA : A.Pairwise lt) (sB : B.Pairwise lt) (h : ∀ z w, A[A.length - 1]? = some z → B[0]? = some w → lt z w) : ∀ x ∈ A, ∀ y ∈ B, lt x y := by
  rcases List.eq_nil_or_concat A with e | ⟨A0, z, e⟩
  · subst e; intro x hx; simp at hx
  rw [List.concat_eq_append] at e
  subst e
  cases B with
  | nil => intro x _ y hy; simp at hy
  | cons w B3 =>
    have hzw := h z w (by simp) rfl
    have g1 : ∀ x ∈ A0 ++ [z], lt x w := fun x hx => by
      rcases List.mem_append.1 hx with hx | hx
      · exact htr _ _ _ ((List.pairwise_append.1 sA).2.2 x hx z (by simp)) hzw
      · rw [List.mem_singleton.1 hx]; exact hzw
    intro x hx y hy
    rcases List.mem_cons.1 hy with e | hy
    · subst e; exact g1 x hx
    · exact htr _ _ _ (g1 x hx) (head_pw sB y hy)
theorem app1 {A1 A2 : List α} {i : Nat} {x : α} (h : A1[i]? = some x) : (A1 ++ A2)[i]? = some x := by
  rw [List.getElem?_append_left (List.getElem?_eq_some_iff.1 h).1]; exact h
theorem app2 {A1 A2 : List α} {i : Nat} {x : α} (h : A2[i]? = some x) : (A1 ++ A2)[A1.length + i]? = some x := by
  rw [List.getElem?_append_right (by omega), Nat.add_sub_cancel_left]; exact h
theorem memO {l : List α} {i : Nat} {x : α} (h : l[i]? = some x) : x ∈ l := List.mem_of_getElem? h
theorem lenO {l : List α} {i : Nat} {x : α} (h : l[i]? = some x) : i < l.length := (List.getElem?_eq_some_iff.1 h).1
theorem at_A {P A B S : List α} {a : Nat} (ha : a = P.length) (i : Nat) (x : α) (h : A[i]? = some x) : (P ++ A ++ B ++ S)[a + i]? = some x := by
  have := lenO h
  rw [List.append_assoc, List.append_assoc, List.getElem?_append_right (by omega), show a + i - P.length = i by omega, List.getElem?_append_left this]; exact h
theorem at_B {P A B S : List α} {m : Nat} (hm : m = P.length + A.length) (i : Nat) (x : α) (h : B[i]? = some x) : (P ++ A ++ B ++ S)[m + i]? = some x := by
  have := lenO h
  rw [List.getElem?_append_left (by simp; omega), List.getElem?_append_right (by simp; omega), show m + i - (P ++ A).length = i by simp; omega]; exact h
theorem sym_one {c : α → α → Bool} {lt : α → α → Prop} (htr : ∀ x y z, lt x y → lt y z → lt x z) (P B S : List α) (x : α) {a m b : Nat} (ha : a = P.length) (hm : m = P.length + 1) (hb : b = P.length + 1 + B.length) (sB : B.Pairwise lt) (hc : Cross c lt [x] B) :
    ∃ R, movR (P ++ [x] ++ B ++ S) a (srch (fun h => lessAt c (P ++ [x] ++ B ++ S) h a) m b - 1 - a) = P ++ R ++ S ∧ R.Perm (x :: B) ∧ R.Pairwise lt := by
  have hax := at_A (B := B) (S := S) ha 0 x (rfl : [x][0]? = some x)
  rw [Nat.add_zero] at hax
  have aB := at_B (P := P) (A := [x]) (B := B) (S := S) (m := m) (by simpa using hm)
  obtain ⟨i, hi⟩ : ∃ i, srch (fun h => lessAt c (P ++ [x] ++ B ++ S) h a) m b = i := ⟨_, rfl⟩
  obtain ⟨s1, s2, s3, s4⟩ := srch_spec (fun h => lessAt c (P ++ [x] ++ B ++ S) h a) (i := m) (j := b) (by omega)
  rw [hi] at s1 s2 s3 s4 ⊢
  obtain ⟨B1, B2, hB, hl⟩ : ∃ B1 B2, B = B1 ++ B2 ∧ B1.length = i - m := ⟨B.take (i - m), B.drop (i - m), (List.take_append_drop _ _).symm, by rw [List.length_take]; omega⟩
  have hBl : B.length = B1.length + B2.length := by rw [hB, List.length_append]
  have sB' : B1.Pairwise lt ∧ B2.Pairwise lt ∧ _ := List.pairwise_append.1 (hB ▸ sB)
  have hx1 := last_first htr sB'.1 (List.pairwise_singleton lt x) (fun z w hz hw => by
    cases hw
    have hz' : B[B1.length - 1]? = some z := by rw [hB]; exact app1 hz
    have := lenO hz
    have ht := s3 (by omega)
    rw [show i - 1 = m + (B1.length - 1) by omega, lessAt_eq (aB _ _ hz') hax] at ht
    exact (hc.iff x (by simp) z (memO hz')).1 ht)
  have hx2 := last_first htr (List.pairwise_singleton lt x) sB'.2.1 (fun w z hw hz => by
    cases hw
    have hz' : B[B1.length + 0]? = some z := by rw [hB]; exact app2 hz
    have := lenO hz
    have ht := s4 (by omega)
    rw [show i = m + (B1.length + 0) by omega, lessAt_eq (aB _ _ hz') hax] at ht
    exact hc.no (by simp) (memO hz') ht)
  refine ⟨B1 ++ x :: B2, ?_, ?_, ?_⟩
  · have := movR_ok x (B2 ++ S) B1 P (k := a) ha
    rw [show i - 1 - a = B1.length by omega]
    have e : P ++ [x] ++ B ++ S = P ++ x :: (B1 ++ (B2 ++ S)) := by rw [hB]; simp
    rw [e, this]; simp
  · rw [hB]; exact List.perm_middle
  · refine List.pairwise_append.2 ⟨sB'.1, List.pairwise_cons.2 ⟨fun y hy => hx2 x (by simp) y hy, sB'.2.1⟩, fun y hy w hw => ?_⟩
    rcases List.mem_cons.1 hw with e | hw
    · subst e; exact hx1 y hy w (by simp)
    · exact sB'.2.2 y hy w hw
theorem sym_last {c : α → α → Bool} {lt : α → α → Prop} (htr : ∀ x y z, lt x y → lt y z → lt x z) (P A S : List α) (y : α) {a m : Nat} (ha : a = P.length) (hm : m = P.length + A.length) (sA : A.Pairwise lt) (hc : Cross c lt A [y]) :
    ∃ R, movL (P ++ A ++ [y] ++ S) m (m - srch (fun h => !lessAt c (P ++ A ++ [y] ++ S) m h) a m) = P ++ R ++ S ∧ R.Perm (A ++ [y]) ∧ R.Pairwise lt := by
  have hmy := at_B (P := P) (A := A) (S := S) hm 0 y (rfl : [y][0]? = some y)
  rw [Nat.add_zero] at hmy
  have aA := at_A (P := P) (A := A) (B := [y]) (S := S) ha
  obtain ⟨i, hi⟩ : ∃ i, srch (fun h => !lessAt c (P ++ A ++ [y] ++ S) m h) a m = i := ⟨_, rfl⟩
  obtain ⟨s1, s2, s3, s4⟩ := srch_spec (fun h => !lessAt c (P ++ A ++ [y] ++ S) m h) (i := a) (j := m) (by omega)
  rw [hi] at s1 s2 s3 s4 ⊢
  obtain ⟨A1, A2, hA, hl⟩ : ∃ A1 A2, A = A1 ++ A2 ∧ A1.length = i - a := ⟨A.take (i - a), A.drop (i - a), (List.take_append_drop _ _).symm, by rw [List.length_take]; omega⟩
  have hAl : A.length = A1.length + A2.length := by rw [hA, List.length_append]
  have sA' : A1.Pairwise lt ∧ A2.Pairwise lt ∧ _ := List.pairwise_append.1 (hA ▸ sA)
  have hy1 := last_first htr sA'.1 (List.pairwise_singleton lt y) (fun z w hz hw => by
    cases hw
    have hz' : A[A1.length - 1]? = some z := by rw [hA]; exact app1 hz
    have := lenO hz
    have ht := s3 (by omega)
    rw [show i - 1 = a + (A1.length - 1) by omega, lessAt_eq hmy (aA _ _ hz'), Bool.not_eq_true'] at ht
    exact hc.no (memO hz') (by simp) ht)
  have hy2 := last_first htr (List.pairwise_singleton lt y) sA'.2.1 (fun w z hw hz => by
    cases hw
    have hz' : A[A1.length + 0]? = some z := by rw [hA]; exact app2 hz
    have := lenO hz
    have ht := s4 (by omega)
    rw [show i = a + (A1.length + 0) by omega, lessAt_eq hmy (aA _ _ hz'), Bool.not_eq_false'] at ht
    exact (hc.iff z (memO hz') y (by simp)).1 ht)
  refine ⟨A1 ++ y :: A2, ?_, ?_, ?_⟩
  · have := movL_ok y A2.length A2 (P ++ A1) S (k := m) rfl (by simp; omega)
    rw [show m - i = A2.length by omega]
    have e : P ++ A ++ [y] ++ S = P ++ A1 ++ A2 ++ y :: S := by rw [hA]; simp
    have e' : P ++ A1 ++ A2 ++ y :: S = (P ++ A1) ++ A2 ++ y :: S := by simp
    rw [e, e', this]; simp
  · rw [hA]
    exact (List.perm_middle (l₁ := A1) (a := y) (l₂ := A2)).trans (List.perm_append_comm (l₁ := [y]))
  · refine List.pairwise_append.2 ⟨sA'.1, List.pairwise_cons.2 ⟨fun x hx => hy2 y (by simp) x hx, sA'.2.1⟩, fun x hx w hw => ?_⟩
    rcases List.mem_cons.1 hw with e | hw
    · subst e; exact hy1 x hx w (by simp)
    · exact sA'.2.2 x hx w hw
end Go.Stb
namespace Go.Stb
variable {α : Type}
set_option maxHeartbeats 4000000 in
theorem cut_ok {c : α → α → Bool} {lt : α → α → Prop} (htr : ∀ x y z, lt x y → lt y z → lt x z) (P A B S : List α) {a m b mid s e : Nat} (ha : a = P.length) (hm : m = P.length + A.length) (hb : b = P.length + A.length + B.length) (hA : 2 ≤ A.length) (hB : 2 ≤ B.length) (sA : A.Pairwise lt) (sB : B.Pairwise lt) (hc : Cross c lt A B)
    (hmid : (a + b) / 2 = mid) (hs : cutS c (P ++ A ++ B ++ S) a m b = s) (he : mid + m - s = e) :
    ∃ A1 A2 B1 B2, A = A1 ++ A2 ∧ B = B1 ++ B2 ∧ s = a + A1.length ∧ e = m + B1.length ∧ mid = a + A1.length + B1.length ∧ (∀ x ∈ A1, ∀ y ∈ B2, lt x y) ∧ (∀ y ∈ B1, ∀ x ∈ A2, lt y x) := by
  unfold cutS at hs
  rw [hmid] at hs
  obtain ⟨lo, hlo⟩ : ∃ lo, (if mid < m then mid + m - b else a) = lo := ⟨_, rfl⟩
  obtain ⟨hi, hhi⟩ : ∃ hi, (if mid < m then mid else m) = hi := ⟨_, rfl⟩
  have hlh : a ≤ lo ∧ lo ≤ hi ∧ hi ≤ m ∧ hi ≤ mid ∧ mid + m - b ≤ lo ∧ (lo = a ∨ lo + b = mid + m) ∧ (hi = m ∨ hi = mid) := by
    rw [← hlo, ← hhi]
    split <;> omega
  rw [hlo, hhi] at hs
  obtain ⟨s1, s2, s3, s4⟩ := srch_spec (fun x => !lessAt c (P ++ A ++ B ++ S) (mid + m - 1 - x) x) hlh.2.1
  rw [hs] at s1 s2 s3 s4
  have aA := at_A (P := P) (A := A) (B := B) (S := S) ha
  have aB := at_B (P := P) (A := A) (B := B) (S := S) hm
  obtain ⟨A1, A2, eA, hA1⟩ : ∃ A1 A2, A = A1 ++ A2 ∧ A1.length = s - a := ⟨A.take (s - a), A.drop (s - a), (List.take_append_drop _ _).symm, by rw [List.length_take]; omega⟩
  obtain ⟨B1, B2, eB, hB1⟩ : ∃ B1 B2, B = B1 ++ B2 ∧ B1.length = e - m := ⟨B.take (e - m), B.drop (e - m), (List.take_append_drop _ _).symm, by rw [List.length_take]; omega⟩
  have lA : A.length = A1.length + A2.length := by rw [eA, List.length_append]
  have lB : B.length = B1.length + B2.length := by rw [eB, List.length_append]
  have sA' : A1.Pairwise lt ∧ A2.Pairwise lt ∧ _ := List.pairwise_append.1 (eA ▸ sA)
  have sB' : B1.Pairwise lt ∧ B2.Pairwise lt ∧ _ := List.pairwise_append.1 (eB ▸ sB)
  refine ⟨A1, A2, B1, B2, eA, eB, by omega, by omega, by omega, ?_, ?_⟩
  · refine last_first htr sA'.1 sB'.2.1 (fun z w hz hw => ?_)
    have hz' : A[A1.length - 1]? = some z := by rw [eA]; exact app1 hz
    have hw' : B[B1.length + 0]? = some w := by rw [eB]; exact app2 hw
    have g1 := lenO hz
    have g2 := lenO hw
    have ht := s3 (by omega)
    rw [show mid + m - 1 - (s - 1) = m + (B1.length + 0) by omega, show s - 1 = a + (A1.length - 1) by omega, lessAt_eq (aB _ _ hw') (aA _ _ hz'), Bool.not_eq_true'] at ht
    exact hc.no (memO hz') (memO hw') ht
  · refine last_first htr sB'.1 sA'.2.1 (fun z w hz hw => ?_)
    have hz' : B[B1.length - 1]? = some z := by rw [eB]; exact app1 hz
    have hw' : A[A1.length + 0]? = some w := by rw [eA]; exact app2 hw
    have g1 := lenO hz
    have g2 := lenO hw
    have ht := s4 (by omega)
    rw [show mid + m - 1 - s = m + (B1.length - 1) by omega, show s = a + (A1.length + 0) by omega, lessAt_eq (aB _ _ hz') (aA _ _ hw'), Bool.not_eq_false'] at ht
    exact (hc.iff w (memO hw') z (memO hz')).1 ht
theorem nil0 {l : List α} (h : l.length = 0) : l = [] := List.eq_nil_of_length_eq_zero h
theorem symL_ok {c : α → α → Bool} {lt : α → α → Prop} (htr : ∀ x y z, lt x y → lt y z → lt x z) : ∀ (n : Nat) (P A B S : List α) {a m b : Nat}, a = P.length → m = P.length + A.length → b = P.length + A.length + B.length → 0 < A.length → 0 < B.length → A.length + B.length ≤ n → A.Pairwise lt → B.Pairwise lt → Cross c lt A B →
    ∃ R, symL c n (P ++ A ++ B ++ S) a m b = P ++ R ++ S ∧ R.Perm (A ++ B) ∧ R.Pairwise lt
  | 0, _, A, _, _, _, _, _, _, _, _, h1, _, h, _, _, _ => by omega
  | n + 1, P, A, B, S, a, m, b, ha, hm, hb, hA, hB, hn, sA, sB, hc => by
    unfold symL
    by_cases h1 : m - a = 1
    · rw [if_pos h1]
      obtain ⟨x, e⟩ : ∃ x, A = [x] := List.length_eq_one_iff.1 (by omega)
      subst e
      exact sym_one htr P B S x ha hm hb sB hc
    rw [if_neg h1]
    by_cases h2 : b - m = 1
    · rw [if_pos h2]
      obtain ⟨y, e⟩ : ∃ y, B = [y] := List.length_eq_one_iff.1 (by omega)
      subst e
      exact sym_last htr P A S y ha hm sA hc
    rw [if_neg h2]
    simp only
    obtain ⟨mid, hmid⟩ : ∃ mid, (a + b) / 2 = mid := ⟨_, rfl⟩
    obtain ⟨s, hs⟩ : ∃ s, cutS c (P ++ A ++ B ++ S) a m b = s := ⟨_, rfl⟩
    obtain ⟨e, he⟩ : ∃ e, mid + m - s = e := ⟨_, rfl⟩
    obtain ⟨A1, A2, B1, B2, eA, eB, l1, l2, l3, k1, k2⟩ := cut_ok htr P A B S ha hm hb (by omega) (by omega) sA sB hc hmid hs he
    rw [hmid, hs, he]
    clear hs
    subst eA
    subst eB
    simp only [List.length_append] at hm hb hA hB hn
    have sA' := List.pairwise_append.1 sA
    have sB' := List.pairwise_append.1 sB
    have hD1 : (if s < m ∧ m < e then rotF (P ++ (A1 ++ A2) ++ (B1 ++ B2) ++ S) m (m - s) (e - m) else P ++ (A1 ++ A2) ++ (B1 ++ B2) ++ S) = P ++ A1 ++ B1 ++ (A2 ++ B2 ++ S) := by
      by_cases hr : s < m ∧ m < e
      · rw [if_pos hr]
        have := rotF_ok (P ++ A1) A2 B1 (B2 ++ S) (m := m) (i := m - s) (j := e - m) (by rw [List.length_append]; omega) (by omega) (by omega) (by omega) (by omega)
        have e1 : P ++ (A1 ++ A2) ++ (B1 ++ B2) ++ S = P ++ A1 ++ A2 ++ B1 ++ (B2 ++ S) := by simp
        rw [e1, this]; simp
      · rw [if_neg hr]
        by_cases hsm : s < m
        · rw [nil0 (l := B1) (by omega)]; simp
        · rw [nil0 (l := A2) (by omega)]; simp
    rw [hD1]
    obtain ⟨R1, q1, q2, q3⟩ : ∃ R1, (if a < s ∧ s < mid then symL c n (P ++ A1 ++ B1 ++ (A2 ++ B2 ++ S)) a s mid else P ++ A1 ++ B1 ++ (A2 ++ B2 ++ S)) = P ++ R1 ++ (A2 ++ B2 ++ S) ∧ R1.Perm (A1 ++ B1) ∧ R1.Pairwise lt := by
      by_cases hr : a < s ∧ s < mid
      · rw [if_pos hr]
        exact symL_ok htr n P A1 B1 (A2 ++ B2 ++ S) ha (by omega) (by omega) (by omega) (by omega) (by omega) sA'.1 sB'.1 (hc.sub (fun x hx => List.mem_append_left _ hx) (fun y hy => List.mem_append_left _ hy))
      · rw [if_neg hr]
        by_cases has : a < s
        · rw [nil0 (l := B1) (by omega)]
          exact ⟨A1, by simp, by simp, sA'.1⟩
        · rw [nil0 (l := A1) (by omega)]
          exact ⟨B1, by simp, by simp, sB'.1⟩
    rw [q1]
    have hR1 : R1.length = A1.length + B1.length := by rw [q2.length_eq, List.length_append]
    obtain ⟨R2, p1, p2, p3⟩ : ∃ R2, (if mid < e ∧ e < b then symL c n (P ++ R1 ++ (A2 ++ B2 ++ S)) mid e b else P ++ R1 ++ (A2 ++ B2 ++ S)) = P ++ R1 ++ R2 ++ S ∧ R2.Perm (A2 ++ B2) ∧ R2.Pairwise lt := by
      by_cases hr : mid < e ∧ e < b
      · rw [if_pos hr]
        have := symL_ok htr n (P ++ R1) A2 B2 S (a := mid) (m := e) (b := b) (by rw [List.length_append]; omega) (by rw [List.length_append]; omega) (by rw [List.length_append]; omega) (by omega) (by omega) (by omega) sA'.2.1 sB'.2.1 (hc.sub (fun x hx => List.mem_append_right _ hx) (fun y hy => List.mem_append_right _ hy))
        have e1 : P ++ R1 ++ (A2 ++ B2 ++ S) = P ++ R1 ++ A2 ++ B2 ++ S := by simp
        rw [e1]; exact this
      · rw [if_neg hr]
        by_cases hme : mid < e
        · rw [nil0 (l := B2) (by omega)]
          exact ⟨A2, by simp, by simp, sA'.2.1⟩
        · rw [nil0 (l := A2) (by omega)]
          exact ⟨B2, by simp, by simp, sB'.2.1⟩
    rw [p1]
    refine ⟨R1 ++ R2, by simp, ?_, ?_⟩
    · refine (q2.append p2).trans ?_
      have e1 : (A1 ++ B1 ++ (A2 ++ B2)).Perm (A1 ++ (A2 ++ (B1 ++ B2))) := by
        rw [List.append_assoc]
        refine (List.Perm.refl A1).append ?_
        rw [← List.append_assoc, ← List.append_assoc]
        exact List.perm_append_comm.append_right B2
      simpa using e1
    · refine List.pairwise_append.2 ⟨q3, p3, fun x hx y hy => ?_⟩
      have hx' := List.mem_append.1 (q2.mem_iff.1 hx)
      have hy' := List.mem_append.1 (p2.mem_iff.1 hy)
      rcases hx' with hx' | hx' <;> rcases hy' with hy' | hy'
      · exact sA'.2.2 x hx' y hy'
      · exact k1 x hx' y hy'
      · exact k2 x hx' y hy'
      · exact sB'.2.2 x hx' y hy'
end Go.Stb
namespace Go.Stb
variable {α : Type} {p : α → Prop}
theorem sw_all {D : List α} (h : ∀ x ∈ D, p x) (i j : Nat) : ∀ x ∈ sw D i j, p x := by
  intro x hx
  unfold sw at hx
  split at hx
  · rename_i y z hy hz
    rcases List.mem_or_eq_of_mem_set hx with hx | rfl
    · rcases List.mem_or_eq_of_mem_set hx with hx | rfl
      · exact h _ hx
      · exact h _ (List.mem_of_getElem? hz)
    · exact h _ (List.mem_of_getElem? hy)
  · exact h _ hx
theorem swpN_all {D : List α} (h : ∀ x ∈ D, p x) (a b : Nat) : ∀ n, ∀ x ∈ swpN D a b n, p x
  | 0 => h
  | n + 1 => sw_all (swpN_all h a b n) _ _
theorem rotL_all (m : Nat) : ∀ n (D : List α) i j, (∀ x ∈ D, p x) → ∀ x ∈ rotL m n D i j, p x
  | 0, D, i, _, h => swpN_all h _ _ _
  | n + 1, D, i, j, h => by
    unfold rotL
    split
    · exact swpN_all h _ _ _
    · split
      · exact rotL_all m n _ _ _ (swpN_all h _ _ _)
      · exact rotL_all m n _ _ _ (swpN_all h _ _ _)
theorem rotF_all {D : List α} (h : ∀ x ∈ D, p x) (m i j : Nat) : ∀ x ∈ rotF D m i j, p x := rotL_all _ _ _ _ _ h
theorem movR_all : ∀ n (D : List α) k, (∀ x ∈ D, p x) → ∀ x ∈ movR D k n, p x
  | 0, _, _, h => h
  | n + 1, _, _, h => movR_all n _ _ (sw_all h _ _)
theorem movL_all : ∀ n (D : List α) k, (∀ x ∈ D, p x) → ∀ x ∈ movL D k n, p x
  | 0, _, _, h => h
  | n + 1, _, _, h => movL_all n _ _ (sw_all h _ _)
theorem sift_all (c : α → α → Bool) (a : Nat) : ∀ j (D : List α), (∀ x ∈ D, p x) → ∀ x ∈ sift c a j D, p x
  | 0, _, h => h
  | j + 1, D, h => by
    unfold sift
    split
    · exact sift_all c a j _ (sw_all h _ _)
    · exact h
theorem insN_all (c : α → α → Bool) (a : Nat) {D : List α} (h : ∀ x ∈ D, p x) : ∀ n, ∀ x ∈ insN c a D n, p x
  | 0 => h
  | n + 1 => sift_all c a _ _ (insN_all c a h n)
theorem symL_all (c : α → α → Bool) : ∀ n (D : List α) a m b, (∀ x ∈ D, p x) → ∀ x ∈ symL c n D a m b, p x
  | 0, _, _, _, _, h => h
  | n + 1, D, a, m, b, h => by
    unfold symL
    split
    · exact movR_all _ _ _ h
    · split
      · exact movL_all _ _ _ h
      · simp only
        have h1 : ∀ x ∈ (if cutS c D a m b < m ∧ m < (a + b) / 2 + m - cutS c D a m b then rotF D m (m - cutS c D a m b) ((a + b) / 2 + m - cutS c D a m b - m) else D), p x := by
          split
          · exact rotF_all h _ _ _
          · exact h
        generalize (if cutS c D a m b < m ∧ m < (a + b) / 2 + m - cutS c D a m b then rotF D m (m - cutS c D a m b) ((a + b) / 2 + m - cutS c D a m b - m) else D) = D1 at h1 ⊢
        have h2 : ∀ x ∈ (if a < cutS c D a m b ∧ cutS c D a m b < (a + b) / 2 then symL c n D1 a (cutS c D a m b) ((a + b) / 2) else D1), p x := by
          split
          · exact symL_all c n _ _ _ _ h1
          · exact h1
        generalize (if a < cutS c D a m b ∧ cutS c D a m b < (a + b) / 2 then symL c n D1 a (cutS c D a m b) ((a + b) / 2) else D1) = D2 at h2 ⊢
        split
        · exact symL_all c n _ _ _ _ h2
        · exact h2
end Go.Stb
namespace Go.Proofs.Try
open Go.Psl
open Go.Stb
theorem fn169 (l : List (Int × Int)) (a b n : Nat) (x : D) (ha : a + n ≤ l.length) (hb : b + n ≤ l.length) (hl : l.length ≤ 1000000000) : Cm prog 169 [.ls 0 0 l.length 2, vi a, vi b, vi n, .d x] (lk [(0, cellsI l)]) [0] (.ret (.tup [])) (lk [(0, cellsI (swpN l a b n))]) := by
  refine Cm.by gok eok mixed 1 func169 c169 rfl (by simp [ntmps169]) (by simp) (HpIds.at ?_) (by simp) ?_ fun E hE hs => ?_
  · simp
  · simp [ResIds]
  simp [p169]
  refine pw_loop (α := Nat) (fun i => ⟨slots [(0, .ls 0 0 l.length 2), (1, vi a), (2, vi b), (3, vi n), (10, vi i)], lk [(0, cellsI (swpN l a b i))], 1⟩) (fun i => i ≤ n) (fun i => n - i) 0 ?_ ?_ ?_
  · simp
  · refine Weak.mkM hE (lk [(0, 0)]) _ _ _ ?_ ?_ ?_ ?_ ?_ ?_ <;> simp [swpN]
  · intro i hi
    simp [p169l0]
    by_cases h : i < n
    · have hlen := swpN_len l a b i
      obtain ⟨L, hL⟩ : ∃ L, L = swpN l a b i := ⟨_, rfl⟩
      rw [← hL] at hlen ⊢
      obtain ⟨u, hu⟩ : ∃ u, L[a + i]? = some u := ⟨_, List.getElem?_eq_getElem (by omega)⟩
      obtain ⟨v, hv⟩ : ∃ v, L[b + i]? = some v := ⟨_, List.getElem?_eq_getElem (by omega)⟩
      have hnx : (L.set (a + i) v).set (b + i) u = swpN l a b (i + 1) := by
        rw [swpN, ← hL, sw_eq hu hv]
      have cu := cells_at hu
      have cv := cells_at hv
      have s1 := cells_set (l := L) (i := a + i) v (by omega)
      have s2 := cells_set (l := L.set (a + i) v) (i := b + i) u (by rw [List.length_set]; omega)
      rw [hnx] at s2
      have hdl := spD_len L
      have hdl2 := spD_len (L.set (a + i) v)
      rw [List.length_set] at hdl2
      have q1 : (a + i) * 2 + 2 ≤ L.length * 2 := by omega
      have q2 : (b + i) * 2 + 2 ≤ L.length * 2 := by omega
      have z1 : IntKind.wrap .i64 ((i : Int) + 1) = ((i + 1 : Nat) : Int) := by rw [wrap64 (by omega) (by omega)]; omega
      have z2 : IntKind.wrap .i64 ((a : Int) + i) = ((a + i : Nat) : Int) := by rw [wrap64 (by omega) (by omega)]; omega
      have z3 : IntKind.wrap .i64 ((b : Int) + i) = ((b + i : Nat) : Int) := by rw [wrap64 (by omega) (by omega)]; omega
      have i1 : a + i < l.length := by omega
      have j1 : b + i < l.length := by omega
      have h' : (i : Int) < n := by omega
      clear hL hnx hu hv
      generalize a + i = k1 at *
      generalize b + i = k2 at *
      simp [h]
      refine pw_drawW [(21, 0)] (by kernel_rfl) ?_
      simp [inC, Nat.testBit, i1, j1, q1, q2, cu, cv, s1, s2, z1, z2, z3]
      refine ⟨i + 1, by omega, by omega, ?_⟩
      refine Weak.mkM hE (lk [(0, 0)]) _ _ _ ?_ ?_ ?_ ?_ ?_ ?_ <;> simp
    · have : i = n := by omega
      subst this
      simp
      refine RetOk.by (lk [(0, 0)]) ?_
      simp [results169]
end Go.Proofs.Try
namespace Go.Proofs.Try
open Go.Psl
open Go.Stb
theorem fn167 (l : List (Int × Int)) (a m b : Nat) (x : D) (ha : a < m) (hm : m < b) (hb : b ≤ l.length) (hl : l.length ≤ 1000000000) : Cm prog 167 [.ls 0 0 l.length 2, vi a, vi m, vi b, .d x] (lk [(0, cellsI l)]) [0] (.ret (.tup [])) (lk [(0, cellsI (rotF l m (m - a) (b - m)))]) := by
  refine Cm.by gok eok mixed 1 func167 c167 rfl (by simp [ntmps167]) (by simp) (HpIds.at ?_) (by simp) ?_ fun E hE hs => ?_
  · simp
  · simp [ResIds]
  have z1 : IntKind.wrap .i64 ((m : Int) - a) = ((m - a : Nat) : Int) := by rw [wrap64 (by omega) (by omega)]; omega
  have z2 : IntKind.wrap .i64 ((b : Int) - m) = ((b - m : Nat) : Int) := by rw [wrap64 (by omega) (by omega)]; omega
  simp [p167, z1, z2]
  obtain ⟨T, hT⟩ : ∃ T, T = rotF l m (m - a) (b - m) := ⟨_, rfl⟩
  rw [← hT]
  refine pw_loop (α := Nat × Nat × List (Int × Int)) (fun y => ⟨slots [(0, .ls 0 0 l.length 2), (2, vi m), (4, .d x), (10, vi y.1), (11, vi y.2.1)], lk [(0, cellsI y.2.2)], 1⟩) (fun y => 0 < y.1 ∧ 0 < y.2.1 ∧ y.1 ≤ m ∧ m + y.2.1 ≤ l.length ∧ y.2.2.length = l.length ∧ rotF y.2.2 m y.1 y.2.1 = T) (fun y => y.1 + y.2.1) (m - a, b - m, l) ?_ ?_ ?_
  · exact ⟨by simp only; omega, by simp only; omega, by simp only; omega, by simp only; omega, rfl, hT.symm⟩
  · refine Weak.mkM hE (lk [(0, 0)]) _ _ _ ?_ ?_ ?_ ?_ ?_ ?_ <;> simp
  · rintro ⟨i, j, L⟩ ⟨g1, g2, g3, g4, g5, g6⟩
    simp only at g1 g2 g3 g4 g5 g6
    have z3 : IntKind.wrap .i64 ((m : Int) - i) = ((m - i : Nat) : Int) := by rw [wrap64 (by omega) (by omega)]; omega
    have z4 : IntKind.wrap .i64 ((m : Int) + j) = ((m + j : Nat) : Int) := by rw [wrap64 (by omega) (by omega)]; omega
    rw [rotF_step _ _ g1 g2] at g6
    have n1 : spD L ≠ [] := by intro h; have := congrArg List.length h; simp at this; omega
    simp [p167l0]
    by_cases h : i = j
    · subst h
      rw [if_pos rfl] at g6
      simp [z3]
      have c := fn169 L (m - i) m i x (by omega) (by omega) (by omega)
      rw [g5, g6] at c
      refine ACall.mkR _ _ _ _ _ (c) (by simp) (by simp) (by simp [n1]) (by simp) (by first | (left; simp; done) | (right; simp [n1]; done)) ?_
      simp
      refine RetOk.by (lk [(0, 0)]) ?_
      simp [results167]
    · rw [if_neg h] at g6
      have h' : ¬ (i : Int) = j := by omega
      by_cases h2 : j < i
      · rw [if_pos h2] at g6
        have h2' : (j : Int) < i := by omega
        have z5 : IntKind.wrap .i64 ((i : Int) - j) = ((i - j : Nat) : Int) := by rw [wrap64 (by omega) (by omega)]; omega
        simp [h', h2', z3]
        have c := fn169 L (m - i) m j x (by omega) (by omega) (by omega)
        rw [g5] at c
        refine ACall.mkR _ _ _ _ _ (c) (by simp) (by simp) (by simp [n1]) (by simp) (by first | (left; simp; done) | (right; simp [n1]; done)) ?_
        simp [z5]
        refine ⟨i - j, j, swpN L (m - i) m j, ⟨by omega, g2, by omega, g4, by rw [swpN_len]; exact g5, g6⟩, by omega, ?_⟩
        refine Weak.mkM hE (lk [(0, 0)]) _ _ _ ?_ ?_ ?_ ?_ ?_ ?_ <;> simp
      · rw [if_neg h2] at g6
        have h2' : ¬ (j : Int) < i := by omega
        have z5 : IntKind.wrap .i64 ((j : Int) - i) = ((j - i : Nat) : Int) := by rw [wrap64 (by omega) (by omega)]; omega
        have z6 : IntKind.wrap .i64 (((m + j : Nat) : Int) - i) = ((m + j - i : Nat) : Int) := by rw [wrap64 (by omega) (by omega)]; omega
        simp only [Int.natCast_add] at z4 z6
        simp [h', h2', z3, z4, z6]
        have c := fn169 L (m - i) (m + j - i) i x (by omega) (by omega) (by omega)
        rw [g5] at c
        refine ACall.mkR _ _ _ _ _ (c) (by simp) (by simp) (by simp [n1]) (by simp) (by first | (left; simp; done) | (right; simp [n1]; done)) ?_
        simp [z5]
        refine ⟨i, j - i, swpN L (m - i) (m + j - i) i, ⟨g1, by omega, g3, by omega, by rw [swpN_len]; exact g5, g6⟩, by omega, ?_⟩
        refine Weak.mkM hE (lk [(0, 0)]) _ _ _ ?_ ?_ ?_ ?_ ?_ ?_ <;> simp
end Go.Proofs.Try
namespace Go.Proofs.Try
open Go.Psl
open Go.Stb
def CmpOk (f : FuncId) (ds : List D) (dom : Int × Int → Prop) (c : Int × Int → Int × Int → Bool) : Prop := ∀ x y, dom x → dom y → ∃ k : Int, (c x y = true ↔ k < 0) ∧ Ct prog f (vsp x.1 x.2 :: vsp y.1 y.2 :: ds.map .d) (vi k) []
theorem fn152 {f : FuncId} {ds : List D} {dom : Int × Int → Prop} {c : Int × Int → Int × Int → Bool} (hc : CmpOk f ds dom c) (l : List (Int × Int)) (a b : Nat) (hd : ∀ x ∈ l, dom x) (ha : a ≤ b) (hb : b ≤ l.length) (hl : l.length ≤ 1000000000) : Cm prog 152 [.ls 0 0 l.length 2, vi a, vi b, .d (.fn f ds)] (lk [(0, cellsI l)]) [0] (.ret (.tup [])) (lk [(0, cellsI (insF c l a b))]) := by
  refine Cm.by gok eok mixed 1 func152 c152 rfl (by simp [ntmps152]) (by simp) (HpIds.at ?_) (by simp) ?_ fun E hE hs => ?_
  · simp
  · simp [ResIds]
  have z1 : IntKind.wrap .i64 ((a : Int) + 1) = (a : Int) + 1 := wrap64 (by omega) (by omega)
  simp [p152, z1]
  refine pw_loop (α := Nat) (fun i => ⟨slots [(0, .ls 0 0 l.length 2), (1, vi a), (2, vi b), (3, .d (.fn f ds)), (8, vi ((a : Int) + 1 + i))], lk [(0, cellsI (insN c a l i))], 1⟩) (fun i => i ≤ b - a - 1) (fun i => b - i) 0 ?_ ?_ ?_
  · simp
  · refine Weak.mkM hE (lk [(0, 0)]) _ _ _ ?_ ?_ ?_ ?_ ?_ ?_ <;> simp [insN]
  · intro i hi
    simp [p152l1]
    by_cases h : a + 1 + i < b
    · have h' : (a : Int) + 1 + i < b := by omega
      have hlen := insN_len c a l i
      have hdo := insN_all (p := dom) c a hd i
      have hT : insN c a l (i + 1) = sift c a (a + (i + 1)) (insN c a l i) := rfl
      obtain ⟨L, hL⟩ : ∃ L, insN c a l i = L := ⟨_, rfl⟩
      rw [hL] at hlen hdo hT ⊢
      obtain ⟨T, hT'⟩ : ∃ T, insN c a l (i + 1) = T := ⟨_, rfl⟩
      rw [hT'] at hT
      simp [h']
      refine pw_loopC (α := Nat × List (Int × Int)) 2 (fun _ : Unit => ⟨slots [(0, .ls 0 0 l.length 2), (1, vi a), (2, vi b), (3, .d (.fn f ds)), (8, vi ((a : Int) + 1 + i))], lk [(0, cellsI T)], 1⟩) (fun _ => True)
        (fun y => ⟨slots [(0, .ls 0 0 l.length 2), (1, vi a), (2, vi b), (3, .d (.fn f ds)), (8, vi ((a : Int) + 1 + i)), (9, vi y.1)], lk [(0, cellsI y.2)], 1⟩)
        (fun y => a ≤ y.1 ∧ y.1 < b ∧ y.2.length = l.length ∧ (∀ x ∈ y.2, dom x) ∧ sift c a y.1 y.2 = T) (fun y => y.1) (a + (i + 1), L) ?_ ?_ ?_ fun _ hc => ?_
      · exact ⟨by simp only; omega, by simp only; omega, hlen, hdo, hT.symm⟩
      · refine Weak.mkM hE (lk [(0, 0)]) _ _ _ ?_ ?_ ?_ ?_ ?_ ?_ <;> simp
        omega
      · rintro ⟨j, M⟩ ⟨g1, g2, g3, g4, g5⟩
        simp only at g1 g2 g3 g4 g5
        simp [p152l0]
        by_cases hj : a < j
        · obtain ⟨k, hk⟩ : ∃ k, j = k + 1 := ⟨j - 1, by omega⟩
          obtain ⟨u, hu⟩ : ∃ u, M[j]? = some u := ⟨_, List.getElem?_eq_getElem (by omega)⟩
          obtain ⟨v, hv⟩ : ∃ v, M[k]? = some v := ⟨_, List.getElem?_eq_getElem (by omega)⟩
          have cu := cells_at hu
          have cv := cells_at hv
          have z2 : IntKind.wrap .i64 ((j : Int) - 1) = (k : Int) := by rw [wrap64 (by omega) (by omega)]; omega
          obtain ⟨r, hr, hcr⟩ := hc u v (g4 u (List.mem_of_getElem? hu)) (g4 v (List.mem_of_getElem? hv))
          have i1 : j < l.length := by omega
          have i2 : k < l.length := by omega
          have q1 : j * 2 + 2 ≤ l.length * 2 := by omega
          have q2 : k * 2 + 2 ≤ l.length * 2 := by omega
          have hdl := spD_len M
          rw [g3] at hdl
          have g6 : (if a < j ∧ c u v = true then sift c a k (sw M j k) else M) = T := by
            rw [← g5, hk, sift, ← hk, lessAt_eq hu hv]
          simp [inC, Nat.testBit, hj, i1, i2, q1, q2, cu, cv, z2, hdl]
          refine ACall.mk _ _ _ (hcr) (by first | (simp; done) | simp [Bor_ls, Bor1_ls]) (by simp) (by first | (left; simp; done) | (right; simp; done)) ?_
          by_cases hr0 : r < 0
          · rw [if_pos ⟨hj, hr.2 hr0⟩] at g6
            have s0 := sw_eq hu hv
            have s1 := cells_set (l := M) (i := j) v (by omega)
            have s2 := cells_set (l := M.set j v) (i := k) u (by rw [List.length_set]; omega)
            rw [← s0] at s2
            have hdl2 := spD_len (M.set j v)
            rw [List.length_set, g3] at hdl2
            simp [hr0]
            refine pw_drawW [(15, 0)] (by kernel_rfl) ?_
            simp [inC, Nat.testBit, i1, i2, q1, q2, cu, cv, s1, s2, z2, hdl, hdl2]
            refine ⟨k, sw M j k, ⟨by omega, by omega, by rw [sw_len]; exact g3, fun p q h => sw_all g4 _ _ (p, q) h, g6⟩, by omega, ?_⟩
            refine Weak.mkM hE (lk [(0, 0)]) _ _ _ ?_ ?_ ?_ ?_ ?_ ?_ <;> simp
          · rw [if_neg (fun e => hr0 (hr.1 e.2))] at g6
            simp [hr0]
            refine Weak.mkM hE (lk [(0, 0)]) _ _ _ ?_ ?_ ?_ ?_ ?_ ?_ <;> simp [g6]
        · have g6 : M = T := by
            rw [← g5]
            cases j with
            | zero => rfl
            | succ k => rw [sift, if_neg (fun e => hj e.1)]
          simp [hj]
          refine Weak.mkM hE (lk [(0, 0)]) _ _ _ ?_ ?_ ?_ ?_ ?_ ?_ <;> simp [g6]
      · have z3 : IntKind.wrap .i64 ((a : Int) + 1 + i + 1) = (a : Int) + 1 + ((i + 1 : Nat) : Int) := by rw [wrap64 (by omega) (by omega)]; omega
        simp [z3]
        refine ⟨i + 1, by omega, by omega, ?_⟩
        refine Weak.mkM hE (lk [(0, 0)]) _ _ _ ?_ ?_ ?_ ?_ ?_ ?_ <;> simp [hT']
    · have : i = b - a - 1 := by omega
      subst this
      have h' : ¬ (a : Int) + 1 + ((b - a - 1 : Nat) : Int) < b := by omega
      simp [h']
      refine RetOk.by (lk [(0, 0)]) ?_
      simp [results152, insF]
end Go.Proofs.Try
