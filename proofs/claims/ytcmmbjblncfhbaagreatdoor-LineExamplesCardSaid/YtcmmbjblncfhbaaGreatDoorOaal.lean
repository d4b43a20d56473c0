/- Own lemmas, used by the last text. Conditions: those that each theorem states. -/
import Derived.KernelRfl
import Derived.Test.YtcmmbjblncfhbaaGreatDoorOaaf
import Derived.Test.YtcmmbjblncfhbaaGreatDoorOaai
import Derived.Test.YtcmmbjblncfhbaaGreatDoorOaak
import Derived.Test.YtcmmbjblncfhbaaGreatDoorProg
set_option maxRecDepth 200000
set_option maxHeartbeats 8000000
namespace Go.Proofs.Tryz
open Go.Psl
def ty2 : Ty := ⟨1, 8, false, .int .i64, [(.int .i64 0)]⟩
def ty3 : Ty := ⟨1, 8, false, .int .i64, [(.int .i64 0)]⟩
def ty4 : Ty := ⟨1, 1, false, .bool, [(.bool false)]⟩
def ty5 : Ty := ⟨1, 1, false, .int .u8, [(.int .u8 0)]⟩
def ty6 : Ty := ⟨1, 1, false, .int .u8, [(.int .u8 0)]⟩
def ty8 : Ty := ⟨4, 24, true, .struct [(0, 2), (1, 3), (2, 4), (3, 6)], [(.int .i64 0), (.int .i64 0), (.bool false), (.int .u8 0)]⟩
def ty9 : Ty := ⟨1, 16, false, .str, [(.string ByteArray.empty)]⟩
def ty10 : Ty := ⟨1, 16, false, .str, [(.string ByteArray.empty)]⟩
def ty11 : Ty := ⟨1, 16, false, .str, [(.string ByteArray.empty)]⟩
def ty12 : Ty := ⟨1, 8, false, .int .u64, [(.int .u64 0)]⟩
def ty14 : Ty := ⟨2, 24, true, .struct [(0, 9), (1, 12)], [(.string ByteArray.empty), (.int .u64 0)]⟩
def ty15 : Ty := ⟨1, 8, false, .ptr 499, [(.pointer none)]⟩
def ty16 : Ty := ⟨1, 8, false, .ptr 502, [(.pointer none)]⟩
def ty17 : Ty := ⟨1, 8, false, .ptr 509, [(.pointer none)]⟩
def ty19 : Ty := ⟨1, 8, true, .struct [(0, 17)], [(.pointer none)]⟩
def ty20 : Ty := ⟨1, 16, false, .ifc true, [.nilIface]⟩
def ty21 : Ty := ⟨1, 4, false, .int .i32, [(.int .i32 0)]⟩
def ty22 : Ty := ⟨1, 24, false, .slice 60, [(.slice none 0 0)]⟩
def ty23 : Ty := ⟨1, 8, false, .int .i64, [(.int .i64 0)]⟩
def ty27 : Ty := ⟨2, 16, true, .struct [(0, 3), (1, 3)], [(.int .i64 0), (.int .i64 0)]⟩
def ty28 : Ty := ⟨1, 24, false, .slice 86, [(.slice none 0 0)]⟩
def ty30 : Ty := ⟨2, 16, true, .struct [(0, 3), (1, 3)], [(.int .i64 0), (.int .i64 0)]⟩
def ty32 : Ty := ⟨10, 96, true, .struct [(0, 28), (1, 3), (2, 30), (4, 30), (6, 30), (8, 30)], [(.slice none 0 0), (.int .i64 0), (.int .i64 0), (.int .i64 0), (.int .i64 0), (.int .i64 0), (.int .i64 0), (.int .i64 0), (.int .i64 0), (.int .i64 0)]⟩
def ty34 : Ty := ⟨25, 216, true, .struct [(0, 27), (2, 27), (4, 27), (6, 27), (8, 27), (10, 27), (12, 3), (13, 3), (14, 3), (15, 32)], [(.int .i64 0), (.int .i64 0), (.int .i64 0), (.int .i64 0), (.int .i64 0), (.int .i64 0), (.int .i64 0), (.int .i64 0), (.int .i64 0), (.int .i64 0), (.int .i64 0), (.int .i64 0), (.int .i64 0), (.int .i64 0), (.int .i64 0), (.slice none 0 0), (.int .i64 0), (.int .i64 0), (.int .i64 0), (.int .i64 0), (.int .i64 0), (.int .i64 0), (.int .i64 0), (.int .i64 0), (.int .i64 0)]⟩
def ty35 : Ty := ⟨1, 24, false, .slice 80, [(.slice none 0 0)]⟩
def ty36 : Ty := ⟨1, 24, false, .slice 82, [(.slice none 0 0)]⟩
def ty38 : Ty := ⟨2, 48, true, .struct [(0, 35), (1, 36)], [(.slice none 0 0), (.slice none 0 0)]⟩
def ty39 : Ty := ⟨1, 24, false, .slice 84, [(.slice none 0 0)]⟩
def ty41 : Ty := ⟨7, 72, true, .struct [(0, 39), (1, 27), (3, 3), (4, 3), (5, 3), (6, 3)], [(.slice none 0 0), (.int .i64 0), (.int .i64 0), (.int .i64 0), (.int .i64 0), (.int .i64 0), (.int .i64 0)]⟩
def ty42 : Ty := ⟨1, 24, false, .slice 87, [(.slice none 0 0)]⟩
def ty43 : Ty := ⟨1, 24, false, .slice 27, [(.slice none 0 0)]⟩
def ty45 : Ty := ⟨5, 72, true, .struct [(0, 42), (1, 3), (2, 3), (3, 43), (4, 3)], [(.slice none 0 0), (.int .i64 0), (.int .i64 0), (.slice none 0 0), (.int .i64 0)]⟩
def ty47 : Ty := ⟨5, 32, true, .struct [(0, 5), (1, 3), (2, 3), (3, 4), (4, 4)], [(.int .u8 0), (.int .i64 0), (.int .i64 0), (.bool false), (.bool false)]⟩
def ty49 : Ty := ⟨4, 32, true, .struct [(0, 27), (2, 27)], [(.int .i64 0), (.int .i64 0), (.int .i64 0), (.int .i64 0)]⟩
def ty50 : Ty := ⟨1, 24, false, .slice 3, [(.slice none 0 0)]⟩
def ty51 : Ty := ⟨1, 24, false, .slice 89, [(.slice none 0 0)]⟩
def ty52 : Ty := ⟨1, 24, false, .slice 91, [(.slice none 0 0)]⟩
def ty53 : Ty := ⟨1, 24, false, .slice 182, [(.slice none 0 0)]⟩
def ty54 : Ty := ⟨1, 24, false, .slice 66, [(.slice none 0 0)]⟩
def ty56 : Ty := ⟨65, 696, true, .struct [(0, 9), (1, 34), (26, 38), (28, 41), (35, 45), (40, 47), (45, 49), (49, 50), (50, 3), (51, 3), (52, 3), (53, 3), (54, 51), (55, 3), (56, 3), (57, 3), (58, 3), (59, 52), (60, 53), (61, 3), (62, 3), (63, 3), (64, 54)], [(.string ByteArray.empty), (.int .i64 0), (.int .i64 0), (.int .i64 0), (.int .i64 0), (.int .i64 0), (.int .i64 0), (.int .i64 0), (.int .i64 0), (.int .i64 0), (.int .i64 0), (.int .i64 0), (.int .i64 0), (.int .i64 0), (.int .i64 0), (.int .i64 0), (.slice none 0 0), (.int .i64 0), (.int .i64 0), (.int .i64 0), (.int .i64 0), (.int .i64 0), (.int .i64 0), (.int .i64 0), (.int .i64 0), (.int .i64 0), (.slice none 0 0), (.slice none 0 0), (.slice none 0 0), (.int .i64 0), (.int .i64 0), (.int .i64 0), (.int .i64 0), (.int .i64 0), (.int .i64 0), (.slice none 0 0), (.int .i64 0), (.int .i64 0), (.slice none 0 0), (.int .i64 0), (.int .u8 0), (.int .i64 0), (.int .i64 0), (.bool false), (.bool false), (.int .i64 0), (.int .i64 0), (.int .i64 0), (.int .i64 0), (.slice none 0 0), (.int .i64 0), (.int .i64 0), (.int .i64 0), (.int .i64 0), (.slice none 0 0), (.int .i64 0), (.int .i64 0), (.int .i64 0), (.int .i64 0), (.slice none 0 0), (.slice none 0 0), (.int .i64 0), (.int .i64 0), (.int .i64 0), (.slice none 0 0)]⟩
def ty58 : Ty := ⟨1, 8, false, .other, [.nilFunc]⟩
def ty60 : Ty := ⟨4, 32, true, .struct [(0, 27), (2, 27)], [(.int .i64 0), (.int .i64 0), (.int .i64 0), (.int .i64 0)]⟩
def ty63 : Ty := ⟨1, 8, false, .other, [.nilFunc]⟩
def ty66 : Ty := ⟨4, 64, true, .struct [(0, 3), (1, 9), (2, 50), (3, 9)], [(.int .i64 0), (.string ByteArray.empty), (.slice none 0 0), (.string ByteArray.empty)]⟩
def ty75 : Ty := ⟨4, 32, true, .struct [(0, 27), (2, 27)], [(.int .i64 0), (.int .i64 0), (.int .i64 0), (.int .i64 0)]⟩
def ty80 : Ty := ⟨5, 40, true, .struct [(0, 3), (1, 27), (3, 27)], [(.int .i64 0), (.int .i64 0), (.int .i64 0), (.int .i64 0), (.int .i64 0)]⟩
def ty82 : Ty := ⟨6, 48, true, .struct [(0, 3), (1, 49), (5, 3)], [(.int .i64 0), (.int .i64 0), (.int .i64 0), (.int .i64 0), (.int .i64 0), (.int .i64 0)]⟩
def ty84 : Ty := ⟨2, 16, true, .struct [(0, 3), (1, 3)], [(.int .i64 0), (.int .i64 0)]⟩
def ty86 : Ty := ⟨7, 56, true, .struct [(0, 3), (1, 3), (2, 3), (3, 27), (5, 3), (6, 3)], [(.int .i64 0), (.int .i64 0), (.int .i64 0), (.int .i64 0), (.int .i64 0), (.int .i64 0), (.int .i64 0)]⟩
def ty87 : Ty := ⟨2, 16, true, .struct [(0, 3), (1, 3)], [(.int .i64 0), (.int .i64 0)]⟩
def ty89 : Ty := ⟨3, 24, true, .struct [(0, 3), (1, 3), (2, 3)], [(.int .i64 0), (.int .i64 0), (.int .i64 0)]⟩
def ty91 : Ty := ⟨3, 24, true, .struct [(0, 3), (1, 3), (2, 3)], [(.int .i64 0), (.int .i64 0), (.int .i64 0)]⟩
def ty94 : Ty := ⟨2, 24, true, .struct [(0, 23), (1, 9)], [(.int .i64 0), (.string ByteArray.empty)]⟩
def ty96 : Ty := ⟨1, 8, false, .other, [.nilFunc]⟩
def ty97 : Ty := ⟨1, 8, false, .other, [.nilFunc]⟩
def ty99 : Ty := ⟨4, 32, true, .struct [(0, 3), (1, 96), (2, 97), (3, 5)], [(.int .i64 0), .nilFunc, .nilFunc, (.int .u8 0)]⟩
def ty101 : Ty := ⟨1, 8, false, .map 9 99, [(.map none)]⟩
def ty105 : Ty := ⟨1, 8, false, .ptr 108, [(.pointer none)]⟩
def ty108 : Ty := ⟨68, 744, true, .struct [(0, 56), (65, 50), (66, 5), (67, 9)], [(.string ByteArray.empty), (.int .i64 0), (.int .i64 0), (.int .i64 0), (.int .i64 0), (.int .i64 0), (.int .i64 0), (.int .i64 0), (.int .i64 0), (.int .i64 0), (.int .i64 0), (.int .i64 0), (.int .i64 0), (.int .i64 0), (.int .i64 0), (.int .i64 0), (.slice none 0 0), (.int .i64 0), (.int .i64 0), (.int .i64 0), (.int .i64 0), (.int .i64 0), (.int .i64 0), (.int .i64 0), (.int .i64 0), (.int .i64 0), (.slice none 0 0), (.slice none 0 0), (.slice none 0 0), (.int .i64 0), (.int .i64 0), (.int .i64 0), (.int .i64 0), (.int .i64 0), (.int .i64 0), (.slice none 0 0), (.int .i64 0), (.int .i64 0), (.slice none 0 0), (.int .i64 0), (.int .u8 0), (.int .i64 0), (.int .i64 0), (.bool false), (.bool false), (.int .i64 0), (.int .i64 0), (.int .i64 0), (.int .i64 0), (.slice none 0 0), (.int .i64 0), (.int .i64 0), (.int .i64 0), (.int .i64 0), (.slice none 0 0), (.int .i64 0), (.int .i64 0), (.int .i64 0), (.int .i64 0), (.slice none 0 0), (.slice none 0 0), (.int .i64 0), (.int .i64 0), (.int .i64 0), (.slice none 0 0), (.slice none 0 0), (.int .u8 0), (.string ByteArray.empty)]⟩
def ty112 : Ty := ⟨1, 8, false, .ptr 115, [(.pointer none)]⟩
def ty113 : Ty := ⟨1, 24, false, .slice 5, [(.slice none 0 0)]⟩
def ty115 : Ty := ⟨2, 32, true, .struct [(0, 112), (1, 113)], [(.pointer none), (.slice none 0 0)]⟩
def ty117 : Ty := ⟨1, 8, false, .other, [.nilFunc]⟩
def ty119 : Ty := ⟨1, 24, false, .slice 9, [(.slice none 0 0)]⟩
def ty123 : Ty := ⟨1, 16, false, .ifc false, [.nilIface]⟩
def ty129 : Ty := ⟨2, 40, true, .struct [(0, 9), (1, 54)], [(.string ByteArray.empty), (.slice none 0 0)]⟩
def ty134 : Ty := ⟨1, 8, false, .other, [.nilFunc]⟩
def ty143 : Ty := ⟨1, 24, false, .slice 23, [(.slice none 0 0)]⟩
def ty154 : Ty := ⟨1, 24, false, .slice 390, [(.slice none 0 0)]⟩
def ty156 : Ty := ⟨2, 32, true, .struct [(0, 3), (1, 154)], [(.int .i64 0), (.slice none 0 0)]⟩
def ty167 : Ty := ⟨1, 8, false, .map 23 9, [(.map none)]⟩
def ty171 : Ty := ⟨1, 8, false, .other, [.nilFunc]⟩
def ty182 : Ty := ⟨3, 24, true, .struct [(0, 3), (1, 3), (2, 3)], [(.int .i64 0), (.int .i64 0), (.int .i64 0)]⟩
def ty186 : Ty := ⟨1, 8, false, .other, [.nilFunc]⟩
def ty188 : Ty := ⟨1, 8, false, .other, [.nilFunc]⟩
def ty192 : Ty := ⟨1, 8, false, .other, [.nilFunc]⟩
def ty194 : Ty := ⟨1, 8, false, .ptr 5, [(.pointer none)]⟩
def ty195 : Ty := ⟨1, 8, false, .other, [.nilFunc]⟩
def ty200 : Ty := ⟨2, 16, true, .struct [(0, 3), (1, 23)], [(.int .i64 0), (.int .i64 0)]⟩
def ty202 : Ty := ⟨1, 8, false, .other, [.nilFunc]⟩
def ty219 : Ty := ⟨1, 8, false, .ptr 222, [(.pointer none)]⟩
def ty222 : Ty := ⟨16, 152, true, .struct [(0, 47), (5, 45), (10, 3), (11, 49), (15, 3)], [(.int .u8 0), (.int .i64 0), (.int .i64 0), (.bool false), (.bool false), (.slice none 0 0), (.int .i64 0), (.int .i64 0), (.slice none 0 0), (.int .i64 0), (.int .i64 0), (.int .i64 0), (.int .i64 0), (.int .i64 0), (.int .i64 0), (.int .i64 0)]⟩
def ty225 : Ty := ⟨1, 8, false, .other, [.nilFunc]⟩
def ty227 : Ty := ⟨1, 8, false, .other, [.nilFunc]⟩
def ty232 : Ty := ⟨1, 8, false, .other, [.nilFunc]⟩
def ty235 : Ty := ⟨14, 112, true, .struct [(0, 86), (7, 75), (11, 3), (12, 27)], [(.int .i64 0), (.int .i64 0), (.int .i64 0), (.int .i64 0), (.int .i64 0), (.int .i64 0), (.int .i64 0), (.int .i64 0), (.int .i64 0), (.int .i64 0), (.int .i64 0), (.int .i64 0), (.int .i64 0), (.int .i64 0)]⟩
def ty238 : Ty := ⟨1, 24, false, .slice 240, [(.slice none 0 0)]⟩
def ty240 : Ty := ⟨2, 16, true, .struct [(0, 3), (1, 3)], [(.int .i64 0), (.int .i64 0)]⟩
def ty251 : Ty := ⟨4, 32, true, .struct [(0, 5), (1, 3), (2, 3), (3, 3)], [(.int .u8 0), (.int .i64 0), (.int .i64 0), (.int .i64 0)]⟩
def ty255 : Ty := ⟨1, 8, false, .ptr 89, [(.pointer none)]⟩
def ty258 : Ty := ⟨2, 16, true, .struct [(0, 5), (1, 3)], [(.int .u8 0), (.int .i64 0)]⟩
def ty262 : Ty := ⟨6, 48, true, .struct [(0, 258), (2, 49)], [(.int .u8 0), (.int .i64 0), (.int .i64 0), (.int .i64 0), (.int .i64 0), (.int .i64 0)]⟩
def ty263 : Ty := ⟨1, 8, false, .other, [.nilFunc]⟩
def ty264 : Ty := ⟨1, 24, false, .slice 251, [(.slice none 0 0)]⟩
def ty266 : Ty := ⟨11, 104, true, .struct [(0, 3), (1, 49), (5, 27), (7, 27), (9, 3), (10, 264)], [(.int .i64 0), (.int .i64 0), (.int .i64 0), (.int .i64 0), (.int .i64 0), (.int .i64 0), (.int .i64 0), (.int .i64 0), (.int .i64 0), (.int .i64 0), (.slice none 0 0)]⟩
def ty267 : Ty := ⟨1, 24, false, .slice 266, [(.slice none 0 0)]⟩
def ty269 : Ty := ⟨1, 24, false, .slice 34, [(.slice none 0 0)]⟩
def ty271 : Ty := ⟨4, 32, true, .struct [(0, 3), (1, 3), (2, 3), (3, 3)], [(.int .i64 0), (.int .i64 0), (.int .i64 0), (.int .i64 0)]⟩
def ty282 : Ty := ⟨1, 8, false, .other, [(.pointer none)]⟩
def ty284 : Ty := ⟨1, 8, false, .other, [.nilFunc]⟩
def ty287 : Ty := ⟨1, 8, false, .other, [.nilFunc]⟩
def ty291 : Ty := ⟨1, 24, false, .slice 30, [(.slice none 0 0)]⟩
def ty293 : Ty := ⟨1, 8, false, .other, [.nilFunc]⟩
def ty300 : Ty := ⟨1, 8, false, .other, [.nilFunc]⟩
def ty308 : Ty := ⟨1, 8, false, .other, [.nilFunc]⟩
def ty313 : Ty := ⟨1, 8, false, .other, [.nilFunc]⟩
def ty314 : Ty := ⟨1, 24, false, .slice 316, [(.slice none 0 0)]⟩
def ty316 : Ty := ⟨3, 24, true, .struct [(0, 3), (1, 27)], [(.int .i64 0), (.int .i64 0), (.int .i64 0)]⟩
def ty323 : Ty := ⟨1, 8, false, .other, [.nilFunc]⟩
def ty325 : Ty := ⟨3, 24, true, .struct [(0, 91)], [(.int .i64 0), (.int .i64 0), (.int .i64 0)]⟩
def ty327 : Ty := ⟨1, 8, false, .other, [.nilFunc]⟩
def ty330 : Ty := ⟨1, 8, false, .other, [.nilFunc]⟩
def ty333 : Ty := ⟨1, 8, true, .struct [(0, 23)], [(.int .i64 0)]⟩
def ty334 : Ty := ⟨1, 8, false, .other, [.nilFunc]⟩
def ty336 : Ty := ⟨1, 8, false, .ptr 339, [(.pointer none)]⟩
def ty337 : Ty := ⟨8, 64, true, .array 8 334, [.nilFunc, .nilFunc, .nilFunc, .nilFunc, .nilFunc, .nilFunc, .nilFunc, .nilFunc]⟩
def ty339 : Ty := ⟨10, 96, true, .struct [(0, 32)], [(.slice none 0 0), (.int .i64 0), (.int .i64 0), (.int .i64 0), (.int .i64 0), (.int .i64 0), (.int .i64 0), (.int .i64 0), (.int .i64 0), (.int .i64 0)]⟩
def ty340 : Ty := ⟨1, 8, false, .map 5 345, [(.map none)]⟩
def ty342 : Ty := ⟨1, 24, false, .slice 398, [(.slice none 0 0)]⟩
def ty343 : Ty := ⟨1, 8, false, .other, [.nilFunc]⟩
def ty345 : Ty := ⟨2, 32, true, .struct [(0, 342), (1, 343)], [(.slice none 0 0), .nilFunc]⟩
def ty349 : Ty := ⟨1, 8, false, .ptr 404, [(.pointer none)]⟩
def ty354 : Ty := ⟨1, 8, false, .other, [.nilFunc]⟩
def ty355 : Ty := ⟨1, 8, false, .int .u64, [(.int .u64 0)]⟩
def ty359 : Ty := ⟨1, 8, false, .int .i64, [(.int .i64 0)]⟩
def ty362 : Ty := ⟨1, 8, false, .ptr 418, [(.pointer none)]⟩
def ty372 : Ty := ⟨1, 8, false, .ptr 368, [(.pointer none)]⟩
def ty375 : Ty := ⟨1, 8, false, .other, [.nilFunc]⟩
def ty380 : Ty := ⟨1, 8, false, .other, [.nilFunc]⟩
def ty383 : Ty := ⟨24, 24, true, .array 24 5, [(.int .u8 0), (.int .u8 0), (.int .u8 0), (.int .u8 0), (.int .u8 0), (.int .u8 0), (.int .u8 0), (.int .u8 0), (.int .u8 0), (.int .u8 0), (.int .u8 0), (.int .u8 0), (.int .u8 0), (.int .u8 0), (.int .u8 0), (.int .u8 0), (.int .u8 0), (.int .u8 0), (.int .u8 0), (.int .u8 0), (.int .u8 0), (.int .u8 0), (.int .u8 0), (.int .u8 0)]⟩
def ty384 : Ty := ⟨1, 8, false, .int .u64, [(.int .u64 0)]⟩
def ty390 : Ty := ⟨2, 16, true, .struct [(0, 3), (1, 3)], [(.int .i64 0), (.int .i64 0)]⟩
def ty394 : Ty := ⟨1, 8, false, .ptr 86, [(.pointer none)]⟩
def ty398 : Ty := ⟨1, 8, false, .other, [.nilFunc]⟩
def ty401 : Ty := ⟨1, 8, false, .other, [.nilFunc]⟩
def ty404 : Ty := ⟨9, 120, true, .struct [(0, 38), (2, 41)], [(.slice none 0 0), (.slice none 0 0), (.slice none 0 0), (.int .i64 0), (.int .i64 0), (.int .i64 0), (.int .i64 0), (.int .i64 0), (.int .i64 0)]⟩
def ty406 : Ty := ⟨1, 8, false, .other, [.nilFunc]⟩
def ty412 : Ty := ⟨1, 4, false, .int .u32, [(.int .u32 0)]⟩
def ty418 : Ty := ⟨3, 48, true, .struct [(0, 9), (1, 9), (2, 123)], [(.string ByteArray.empty), (.string ByteArray.empty), .nilIface]⟩
def ty429 : Ty := ⟨20, 160, true, .array 20 384, [(.int .u64 0), (.int .u64 0), (.int .u64 0), (.int .u64 0), (.int .u64 0), (.int .u64 0), (.int .u64 0), (.int .u64 0), (.int .u64 0), (.int .u64 0), (.int .u64 0), (.int .u64 0), (.int .u64 0), (.int .u64 0), (.int .u64 0), (.int .u64 0), (.int .u64 0), (.int .u64 0), (.int .u64 0), (.int .u64 0)]⟩
def ty430 : Ty := ⟨65, 65, true, .array 65 5, [(.int .u8 0), (.int .u8 0), (.int .u8 0), (.int .u8 0), (.int .u8 0), (.int .u8 0), (.int .u8 0), (.int .u8 0), (.int .u8 0), (.int .u8 0), (.int .u8 0), (.int .u8 0), (.int .u8 0), (.int .u8 0), (.int .u8 0), (.int .u8 0), (.int .u8 0), (.int .u8 0), (.int .u8 0), (.int .u8 0), (.int .u8 0), (.int .u8 0), (.int .u8 0), (.int .u8 0), (.int .u8 0), (.int .u8 0), (.int .u8 0), (.int .u8 0), (.int .u8 0), (.int .u8 0), (.int .u8 0), (.int .u8 0), (.int .u8 0), (.int .u8 0), (.int .u8 0), (.int .u8 0), (.int .u8 0), (.int .u8 0), (.int .u8 0), (.int .u8 0), (.int .u8 0), (.int .u8 0), (.int .u8 0), (.int .u8 0), (.int .u8 0), (.int .u8 0), (.int .u8 0), (.int .u8 0), (.int .u8 0), (.int .u8 0), (.int .u8 0), (.int .u8 0), (.int .u8 0), (.int .u8 0), (.int .u8 0), (.int .u8 0), (.int .u8 0), (.int .u8 0), (.int .u8 0), (.int .u8 0), (.int .u8 0), (.int .u8 0), (.int .u8 0), (.int .u8 0), (.int .u8 0)]⟩
def ty432 : Ty := ⟨1, 8, false, .other, [.nilFunc]⟩
def ty439 : Ty := ⟨2, 2, true, .struct [(0, 5), (1, 5)], [(.int .u8 0), (.int .u8 0)]⟩
def ty440 : Ty := ⟨32, 32, true, .array 16 439, [(.int .u8 0), (.int .u8 0), (.int .u8 0), (.int .u8 0), (.int .u8 0), (.int .u8 0), (.int .u8 0), (.int .u8 0), (.int .u8 0), (.int .u8 0), (.int .u8 0), (.int .u8 0), (.int .u8 0), (.int .u8 0), (.int .u8 0), (.int .u8 0), (.int .u8 0), (.int .u8 0), (.int .u8 0), (.int .u8 0), (.int .u8 0), (.int .u8 0), (.int .u8 0), (.int .u8 0), (.int .u8 0), (.int .u8 0), (.int .u8 0), (.int .u8 0), (.int .u8 0), (.int .u8 0), (.int .u8 0), (.int .u8 0)]⟩
def ty442 : Ty := ⟨1, 8, false, .ptr 444, [(.pointer none)]⟩
def ty444 : Ty := ⟨1, 16, true, .struct [(0, 9)], [(.string ByteArray.empty)]⟩
def ty447 : Ty := ⟨1, 8, false, .int .i64, [(.int .i64 0)]⟩
def ty460 : Ty := ⟨2, 16, true, .struct [(0, 3), (1, 63)], [(.int .i64 0), .nilFunc]⟩
def ty463 : Ty := ⟨1, 8, false, .other, [.nilFunc]⟩
def ty467 : Ty := ⟨1, 24, false, .slice 460, [(.slice none 0 0)]⟩
def ty469 : Ty := ⟨1, 8, false, .int .u64, [(.int .u64 0)]⟩
def ty473 : Ty := ⟨1, 8, false, .ptr 3, [(.pointer none)]⟩
def ty475 : Ty := ⟨32, 32, true, .array 32 5, [(.int .u8 0), (.int .u8 0), (.int .u8 0), (.int .u8 0), (.int .u8 0), (.int .u8 0), (.int .u8 0), (.int .u8 0), (.int .u8 0), (.int .u8 0), (.int .u8 0), (.int .u8 0), (.int .u8 0), (.int .u8 0), (.int .u8 0), (.int .u8 0), (.int .u8 0), (.int .u8 0), (.int .u8 0), (.int .u8 0), (.int .u8 0), (.int .u8 0), (.int .u8 0), (.int .u8 0), (.int .u8 0), (.int .u8 0), (.int .u8 0), (.int .u8 0), (.int .u8 0), (.int .u8 0), (.int .u8 0), (.int .u8 0)]⟩
def ty476 : Ty := ⟨64, 64, true, .array 64 5, [(.int .u8 0), (.int .u8 0), (.int .u8 0), (.int .u8 0), (.int .u8 0), (.int .u8 0), (.int .u8 0), (.int .u8 0), (.int .u8 0), (.int .u8 0), (.int .u8 0), (.int .u8 0), (.int .u8 0), (.int .u8 0), (.int .u8 0), (.int .u8 0), (.int .u8 0), (.int .u8 0), (.int .u8 0), (.int .u8 0), (.int .u8 0), (.int .u8 0), (.int .u8 0), (.int .u8 0), (.int .u8 0), (.int .u8 0), (.int .u8 0), (.int .u8 0), (.int .u8 0), (.int .u8 0), (.int .u8 0), (.int .u8 0), (.int .u8 0), (.int .u8 0), (.int .u8 0), (.int .u8 0), (.int .u8 0), (.int .u8 0), (.int .u8 0), (.int .u8 0), (.int .u8 0), (.int .u8 0), (.int .u8 0), (.int .u8 0), (.int .u8 0), (.int .u8 0), (.int .u8 0), (.int .u8 0), (.int .u8 0), (.int .u8 0), (.int .u8 0), (.int .u8 0), (.int .u8 0), (.int .u8 0), (.int .u8 0), (.int .u8 0), (.int .u8 0), (.int .u8 0), (.int .u8 0), (.int .u8 0), (.int .u8 0), (.int .u8 0), (.int .u8 0), (.int .u8 0)]⟩
def ty477 : Ty := ⟨16, 128, true, .array 8 27, [(.int .i64 0), (.int .i64 0), (.int .i64 0), (.int .i64 0), (.int .i64 0), (.int .i64 0), (.int .i64 0), (.int .i64 0), (.int .i64 0), (.int .i64 0), (.int .i64 0), (.int .i64 0), (.int .i64 0), (.int .i64 0), (.int .i64 0), (.int .i64 0)]⟩
def ty478 : Ty := ⟨2, 16, true, .array 2 3, [(.int .i64 0), (.int .i64 0)]⟩
def ty482 : Ty := ⟨1, 8, false, .other, [.nilFunc]⟩
def ty483 : Ty := ⟨4, 32, true, .array 2 27, [(.int .i64 0), (.int .i64 0), (.int .i64 0), (.int .i64 0)]⟩
def ty486 : Ty := ⟨1, 8, false, .ptr 469, [(.pointer none)]⟩
def ty495 : Ty := ⟨1, 8, false, .other, [.nilFunc]⟩
def ty497 : Ty := ⟨1, 8, false, .other, [.nilFunc]⟩
def ty499 : Ty := ⟨4, 40, true, .struct [(0, 17), (1, 17), (2, 17), (3, 9)], [(.pointer none), (.pointer none), (.pointer none), (.string ByteArray.empty)]⟩
def ty500 : Ty := ⟨0, 0, true, .array 0 16, []⟩
def ty502 : Ty := ⟨0, 0, true, .struct [(0, 500)], []⟩
def ty503 : Ty := ⟨1, 1, false, .int .u8, [(.int .u8 0)]⟩
def ty504 : Ty := ⟨1, 1, false, .int .u8, [(.int .u8 0)]⟩
def ty505 : Ty := ⟨1, 8, false, .other, [.nilFunc]⟩
def ty506 : Ty := ⟨1, 4, false, .int .i32, [(.int .i32 0)]⟩
def ty507 : Ty := ⟨1, 4, false, .int .i32, [(.int .i32 0)]⟩
def ty509 : Ty := ⟨11, 48, true, .struct [(0, 12), (1, 12), (2, 412), (3, 503), (4, 5), (5, 5), (6, 504), (7, 505), (8, 194), (9, 506), (10, 507)], [(.int .u64 0), (.int .u64 0), (.int .u32 0), (.int .u8 0), (.int .u8 0), (.int .u8 0), (.int .u8 0), .nilFunc, (.pointer none), (.int .i32 0), (.int .i32 0)]⟩
def tyL : List (Nat × Ty) := [(2, ty2), (3, ty3), (4, ty4), (5, ty5), (6, ty6), (8, ty8), (9, ty9), (10, ty10), (11, ty11), (12, ty12), (14, ty14), (15, ty15), (16, ty16), (17, ty17), (19, ty19), (20, ty20), (21, ty21), (22, ty22), (23, ty23), (27, ty27), (28, ty28), (30, ty30), (32, ty32), (34, ty34), (35, ty35), (36, ty36), (38, ty38), (39, ty39), (41, ty41), (42, ty42), (43, ty43), (45, ty45), (47, ty47), (49, ty49), (50, ty50), (51, ty51), (52, ty52), (53, ty53), (54, ty54), (56, ty56), (58, ty58), (60, ty60), (63, ty63), (66, ty66), (75, ty75), (80, ty80), (82, ty82), (84, ty84), (86, ty86), (87, ty87), (89, ty89), (91, ty91), (94, ty94), (96, ty96), (97, ty97), (99, ty99), (101, ty101), (105, ty105), (108, ty108), (112, ty112), (113, ty113), (115, ty115), (117, ty117), (119, ty119), (123, ty123), (129, ty129), (134, ty134), (143, ty143), (154, ty154), (156, ty156), (167, ty167), (171, ty171), (182, ty182), (186, ty186), (188, ty188), (192, ty192), (194, ty194), (195, ty195), (200, ty200), (202, ty202), (219, ty219), (222, ty222), (225, ty225), (227, ty227), (232, ty232), (235, ty235), (238, ty238), (240, ty240), (251, ty251), (255, ty255), (258, ty258), (262, ty262), (263, ty263), (264, ty264), (266, ty266), (267, ty267), (269, ty269), (271, ty271), (282, ty282), (284, ty284), (287, ty287), (291, ty291), (293, ty293), (300, ty300), (308, ty308), (313, ty313), (314, ty314), (316, ty316), (323, ty323), (325, ty325), (327, ty327), (330, ty330), (333, ty333), (334, ty334), (336, ty336), (337, ty337), (339, ty339), (340, ty340), (342, ty342), (343, ty343), (345, ty345), (349, ty349), (354, ty354), (355, ty355), (359, ty359), (362, ty362), (372, ty372), (375, ty375), (380, ty380), (383, ty383), (384, ty384), (390, ty390), (394, ty394), (398, ty398), (401, ty401), (404, ty404), (406, ty406), (412, ty412), (418, ty418), (429, ty429), (430, ty430), (432, ty432), (439, ty439), (440, ty440), (442, ty442), (444, ty444), (447, ty447), (460, ty460), (463, ty463), (467, ty467), (469, ty469), (473, ty473), (475, ty475), (476, ty476), (477, ty477), (478, ty478), (482, ty482), (483, ty483), (486, ty486), (495, ty495), (497, ty497), (499, ty499), (500, ty500), (502, ty502), (503, ty503), (504, ty504), (505, ty505), (506, ty506), (507, ty507), (509, ty509)]
def eqL : List (Nat × List CK) := [(8, [.int, .int, .bool, .int]), (27, [.int, .int]), (30, [.int, .int]), (47, [.int, .int, .int, .bool, .bool]), (49, [.int, .int, .int, .int]), (60, [.int, .int, .int, .int]), (75, [.int, .int, .int, .int]), (80, [.int, .int, .int, .int, .int]), (82, [.int, .int, .int, .int, .int, .int]), (84, [.int, .int]), (86, [.int, .int, .int, .int, .int, .int, .int]), (87, [.int, .int]), (89, [.int, .int, .int]), (91, [.int, .int, .int]), (94, [.int, .str]), (182, [.int, .int, .int]), (200, [.int, .int]), (235, [.int, .int, .int, .int, .int, .int, .int, .int, .int, .int, .int, .int, .int, .int]), (240, [.int, .int]), (251, [.int, .int, .int, .int]), (258, [.int, .int]), (262, [.int, .int, .int, .int, .int, .int]), (271, [.int, .int, .int, .int]), (316, [.int, .int, .int]), (325, [.int, .int, .int]), (333, [.int]), (390, [.int, .int]), (439, [.int, .int]), (444, [.str])]
def tys : Tys := lk tyL
def eqs : Eqs := lk eqL
theorem gok : GOk prog tys := gok_of (by kernel_rfl)
theorem eok : EqOk prog eqs := eqok_of (by kernel_rfl)
theorem mixed : prog.follows .mixedOrders = true := by kernel_rfl
@[simp] theorem g2 : tys 2 = some ⟨1, 8, false, .int .i64, [(.int .i64 0)]⟩ := nrfl rfl
@[simp] theorem g3 : tys 3 = some ⟨1, 8, false, .int .i64, [(.int .i64 0)]⟩ := nrfl rfl
@[simp] theorem g4 : tys 4 = some ⟨1, 1, false, .bool, [(.bool false)]⟩ := nrfl rfl
@[simp] theorem g5 : tys 5 = some ⟨1, 1, false, .int .u8, [(.int .u8 0)]⟩ := nrfl rfl
@[simp] theorem g6 : tys 6 = some ⟨1, 1, false, .int .u8, [(.int .u8 0)]⟩ := nrfl rfl
@[simp] theorem g8 : tys 8 = some ⟨4, 24, true, .struct [(0, 2), (1, 3), (2, 4), (3, 6)], [(.int .i64 0), (.int .i64 0), (.bool false), (.int .u8 0)]⟩ := nrfl rfl
@[simp] theorem g9 : tys 9 = some ⟨1, 16, false, .str, [(.string ByteArray.empty)]⟩ := nrfl rfl
@[simp] theorem g10 : tys 10 = some ⟨1, 16, false, .str, [(.string ByteArray.empty)]⟩ := nrfl rfl
@[simp] theorem g11 : tys 11 = some ⟨1, 16, false, .str, [(.string ByteArray.empty)]⟩ := nrfl rfl
@[simp] theorem g12 : tys 12 = some ⟨1, 8, false, .int .u64, [(.int .u64 0)]⟩ := nrfl rfl
@[simp] theorem g14 : tys 14 = some ⟨2, 24, true, .struct [(0, 9), (1, 12)], [(.string ByteArray.empty), (.int .u64 0)]⟩ := nrfl rfl
@[simp] theorem g15 : tys 15 = some ⟨1, 8, false, .ptr 499, [(.pointer none)]⟩ := nrfl rfl
@[simp] theorem g16 : tys 16 = some ⟨1, 8, false, .ptr 502, [(.pointer none)]⟩ := nrfl rfl
@[simp] theorem g17 : tys 17 = some ⟨1, 8, false, .ptr 509, [(.pointer none)]⟩ := nrfl rfl
@[simp] theorem g19 : tys 19 = some ⟨1, 8, true, .struct [(0, 17)], [(.pointer none)]⟩ := nrfl rfl
@[simp] theorem g20 : tys 20 = some ⟨1, 16, false, .ifc true, [.nilIface]⟩ := nrfl rfl
@[simp] theorem g21 : tys 21 = some ⟨1, 4, false, .int .i32, [(.int .i32 0)]⟩ := nrfl rfl
@[simp] theorem g22 : tys 22 = some ⟨1, 24, false, .slice 60, [(.slice none 0 0)]⟩ := nrfl rfl
@[simp] theorem g23 : tys 23 = some ⟨1, 8, false, .int .i64, [(.int .i64 0)]⟩ := nrfl rfl
@[simp] theorem g27 : tys 27 = some ⟨2, 16, true, .struct [(0, 3), (1, 3)], [(.int .i64 0), (.int .i64 0)]⟩ := nrfl rfl
@[simp] theorem g28 : tys 28 = some ⟨1, 24, false, .slice 86, [(.slice none 0 0)]⟩ := nrfl rfl
@[simp] theorem g30 : tys 30 = some ⟨2, 16, true, .struct [(0, 3), (1, 3)], [(.int .i64 0), (.int .i64 0)]⟩ := nrfl rfl
@[simp] theorem g32 : tys 32 = some ⟨10, 96, true, .struct [(0, 28), (1, 3), (2, 30), (4, 30), (6, 30), (8, 30)], [(.slice none 0 0), (.int .i64 0), (.int .i64 0), (.int .i64 0), (.int .i64 0), (.int .i64 0), (.int .i64 0), (.int .i64 0), (.int .i64 0), (.int .i64 0)]⟩ := nrfl rfl
@[simp] theorem g34 : tys 34 = some ⟨25, 216, true, .struct [(0, 27), (2, 27), (4, 27), (6, 27), (8, 27), (10, 27), (12, 3), (13, 3), (14, 3), (15, 32)], [(.int .i64 0), (.int .i64 0), (.int .i64 0), (.int .i64 0), (.int .i64 0), (.int .i64 0), (.int .i64 0), (.int .i64 0), (.int .i64 0), (.int .i64 0), (.int .i64 0), (.int .i64 0), (.int .i64 0), (.int .i64 0), (.int .i64 0), (.slice none 0 0), (.int .i64 0), (.int .i64 0), (.int .i64 0), (.int .i64 0), (.int .i64 0), (.int .i64 0), (.int .i64 0), (.int .i64 0), (.int .i64 0)]⟩ := nrfl rfl
@[simp] theorem g35 : tys 35 = some ⟨1, 24, false, .slice 80, [(.slice none 0 0)]⟩ := nrfl rfl
@[simp] theorem g36 : tys 36 = some ⟨1, 24, false, .slice 82, [(.slice none 0 0)]⟩ := nrfl rfl
@[simp] theorem g38 : tys 38 = some ⟨2, 48, true, .struct [(0, 35), (1, 36)], [(.slice none 0 0), (.slice none 0 0)]⟩ := nrfl rfl
@[simp] theorem g39 : tys 39 = some ⟨1, 24, false, .slice 84, [(.slice none 0 0)]⟩ := nrfl rfl
@[simp] theorem g41 : tys 41 = some ⟨7, 72, true, .struct [(0, 39), (1, 27), (3, 3), (4, 3), (5, 3), (6, 3)], [(.slice none 0 0), (.int .i64 0), (.int .i64 0), (.int .i64 0), (.int .i64 0), (.int .i64 0), (.int .i64 0)]⟩ := nrfl rfl
@[simp] theorem g42 : tys 42 = some ⟨1, 24, false, .slice 87, [(.slice none 0 0)]⟩ := nrfl rfl
@[simp] theorem g43 : tys 43 = some ⟨1, 24, false, .slice 27, [(.slice none 0 0)]⟩ := nrfl rfl
@[simp] theorem g45 : tys 45 = some ⟨5, 72, true, .struct [(0, 42), (1, 3), (2, 3), (3, 43), (4, 3)], [(.slice none 0 0), (.int .i64 0), (.int .i64 0), (.slice none 0 0), (.int .i64 0)]⟩ := nrfl rfl
@[simp] theorem g47 : tys 47 = some ⟨5, 32, true, .struct [(0, 5), (1, 3), (2, 3), (3, 4), (4, 4)], [(.int .u8 0), (.int .i64 0), (.int .i64 0), (.bool false), (.bool false)]⟩ := nrfl rfl
@[simp] theorem g49 : tys 49 = some ⟨4, 32, true, .struct [(0, 27), (2, 27)], [(.int .i64 0), (.int .i64 0), (.int .i64 0), (.int .i64 0)]⟩ := nrfl rfl
@[simp] theorem g50 : tys 50 = some ⟨1, 24, false, .slice 3, [(.slice none 0 0)]⟩ := nrfl rfl
@[simp] theorem g51 : tys 51 = some ⟨1, 24, false, .slice 89, [(.slice none 0 0)]⟩ := nrfl rfl
@[simp] theorem g52 : tys 52 = some ⟨1, 24, false, .slice 91, [(.slice none 0 0)]⟩ := nrfl rfl
@[simp] theorem g53 : tys 53 = some ⟨1, 24, false, .slice 182, [(.slice none 0 0)]⟩ := nrfl rfl
@[simp] theorem g54 : tys 54 = some ⟨1, 24, false, .slice 66, [(.slice none 0 0)]⟩ := nrfl rfl
@[simp] theorem g56 : tys 56 = some ⟨65, 696, true, .struct [(0, 9), (1, 34), (26, 38), (28, 41), (35, 45), (40, 47), (45, 49), (49, 50), (50, 3), (51, 3), (52, 3), (53, 3), (54, 51), (55, 3), (56, 3), (57, 3), (58, 3), (59, 52), (60, 53), (61, 3), (62, 3), (63, 3), (64, 54)], [(.string ByteArray.empty), (.int .i64 0), (.int .i64 0), (.int .i64 0), (.int .i64 0), (.int .i64 0), (.int .i64 0), (.int .i64 0), (.int .i64 0), (.int .i64 0), (.int .i64 0), (.int .i64 0), (.int .i64 0), (.int .i64 0), (.int .i64 0), (.int .i64 0), (.slice none 0 0), (.int .i64 0), (.int .i64 0), (.int .i64 0), (.int .i64 0), (.int .i64 0), (.int .i64 0), (.int .i64 0), (.int .i64 0), (.int .i64 0), (.slice none 0 0), (.slice none 0 0), (.slice none 0 0), (.int .i64 0), (.int .i64 0), (.int .i64 0), (.int .i64 0), (.int .i64 0), (.int .i64 0), (.slice none 0 0), (.int .i64 0), (.int .i64 0), (.slice none 0 0), (.int .i64 0), (.int .u8 0), (.int .i64 0), (.int .i64 0), (.bool false), (.bool false), (.int .i64 0), (.int .i64 0), (.int .i64 0), (.int .i64 0), (.slice none 0 0), (.int .i64 0), (.int .i64 0), (.int .i64 0), (.int .i64 0), (.slice none 0 0), (.int .i64 0), (.int .i64 0), (.int .i64 0), (.int .i64 0), (.slice none 0 0), (.slice none 0 0), (.int .i64 0), (.int .i64 0), (.int .i64 0), (.slice none 0 0)]⟩ := nrfl rfl
@[simp] theorem g58 : tys 58 = some ⟨1, 8, false, .other, [.nilFunc]⟩ := nrfl rfl
@[simp] theorem g60 : tys 60 = some ⟨4, 32, true, .struct [(0, 27), (2, 27)], [(.int .i64 0), (.int .i64 0), (.int .i64 0), (.int .i64 0)]⟩ := nrfl rfl
@[simp] theorem g63 : tys 63 = some ⟨1, 8, false, .other, [.nilFunc]⟩ := nrfl rfl
@[simp] theorem g66 : tys 66 = some ⟨4, 64, true, .struct [(0, 3), (1, 9), (2, 50), (3, 9)], [(.int .i64 0), (.string ByteArray.empty), (.slice none 0 0), (.string ByteArray.empty)]⟩ := nrfl rfl
@[simp] theorem g75 : tys 75 = some ⟨4, 32, true, .struct [(0, 27), (2, 27)], [(.int .i64 0), (.int .i64 0), (.int .i64 0), (.int .i64 0)]⟩ := nrfl rfl
@[simp] theorem g80 : tys 80 = some ⟨5, 40, true, .struct [(0, 3), (1, 27), (3, 27)], [(.int .i64 0), (.int .i64 0), (.int .i64 0), (.int .i64 0), (.int .i64 0)]⟩ := nrfl rfl
@[simp] theorem g82 : tys 82 = some ⟨6, 48, true, .struct [(0, 3), (1, 49), (5, 3)], [(.int .i64 0), (.int .i64 0), (.int .i64 0), (.int .i64 0), (.int .i64 0), (.int .i64 0)]⟩ := nrfl rfl
@[simp] theorem g84 : tys 84 = some ⟨2, 16, true, .struct [(0, 3), (1, 3)], [(.int .i64 0), (.int .i64 0)]⟩ := nrfl rfl
@[simp] theorem g86 : tys 86 = some ⟨7, 56, true, .struct [(0, 3), (1, 3), (2, 3), (3, 27), (5, 3), (6, 3)], [(.int .i64 0), (.int .i64 0), (.int .i64 0), (.int .i64 0), (.int .i64 0), (.int .i64 0), (.int .i64 0)]⟩ := nrfl rfl
@[simp] theorem g87 : tys 87 = some ⟨2, 16, true, .struct [(0, 3), (1, 3)], [(.int .i64 0), (.int .i64 0)]⟩ := nrfl rfl
@[simp] theorem g89 : tys 89 = some ⟨3, 24, true, .struct [(0, 3), (1, 3), (2, 3)], [(.int .i64 0), (.int .i64 0), (.int .i64 0)]⟩ := nrfl rfl
@[simp] theorem g91 : tys 91 = some ⟨3, 24, true, .struct [(0, 3), (1, 3), (2, 3)], [(.int .i64 0), (.int .i64 0), (.int .i64 0)]⟩ := nrfl rfl
@[simp] theorem g94 : tys 94 = some ⟨2, 24, true, .struct [(0, 23), (1, 9)], [(.int .i64 0), (.string ByteArray.empty)]⟩ := nrfl rfl
@[simp] theorem g96 : tys 96 = some ⟨1, 8, false, .other, [.nilFunc]⟩ := nrfl rfl
@[simp] theorem g97 : tys 97 = some ⟨1, 8, false, .other, [.nilFunc]⟩ := nrfl rfl
@[simp] theorem g99 : tys 99 = some ⟨4, 32, true, .struct [(0, 3), (1, 96), (2, 97), (3, 5)], [(.int .i64 0), .nilFunc, .nilFunc, (.int .u8 0)]⟩ := nrfl rfl
@[simp] theorem g101 : tys 101 = some ⟨1, 8, false, .map 9 99, [(.map none)]⟩ := nrfl rfl
@[simp] theorem g105 : tys 105 = some ⟨1, 8, false, .ptr 108, [(.pointer none)]⟩ := nrfl rfl
@[simp] theorem g108 : tys 108 = some ⟨68, 744, true, .struct [(0, 56), (65, 50), (66, 5), (67, 9)], [(.string ByteArray.empty), (.int .i64 0), (.int .i64 0), (.int .i64 0), (.int .i64 0), (.int .i64 0), (.int .i64 0), (.int .i64 0), (.int .i64 0), (.int .i64 0), (.int .i64 0), (.int .i64 0), (.int .i64 0), (.int .i64 0), (.int .i64 0), (.int .i64 0), (.slice none 0 0), (.int .i64 0), (.int .i64 0), (.int .i64 0), (.int .i64 0), (.int .i64 0), (.int .i64 0), (.int .i64 0), (.int .i64 0), (.int .i64 0), (.slice none 0 0), (.slice none 0 0), (.slice none 0 0), (.int .i64 0), (.int .i64 0), (.int .i64 0), (.int .i64 0), (.int .i64 0), (.int .i64 0), (.slice none 0 0), (.int .i64 0), (.int .i64 0), (.slice none 0 0), (.int .i64 0), (.int .u8 0), (.int .i64 0), (.int .i64 0), (.bool false), (.bool false), (.int .i64 0), (.int .i64 0), (.int .i64 0), (.int .i64 0), (.slice none 0 0), (.int .i64 0), (.int .i64 0), (.int .i64 0), (.int .i64 0), (.slice none 0 0), (.int .i64 0), (.int .i64 0), (.int .i64 0), (.int .i64 0), (.slice none 0 0), (.slice none 0 0), (.int .i64 0), (.int .i64 0), (.int .i64 0), (.slice none 0 0), (.slice none 0 0), (.int .u8 0), (.string ByteArray.empty)]⟩ := nrfl rfl
@[simp] theorem g112 : tys 112 = some ⟨1, 8, false, .ptr 115, [(.pointer none)]⟩ := nrfl rfl
@[simp] theorem g113 : tys 113 = some ⟨1, 24, false, .slice 5, [(.slice none 0 0)]⟩ := nrfl rfl
@[simp] theorem g115 : tys 115 = some ⟨2, 32, true, .struct [(0, 112), (1, 113)], [(.pointer none), (.slice none 0 0)]⟩ := nrfl rfl
@[simp] theorem g117 : tys 117 = some ⟨1, 8, false, .other, [.nilFunc]⟩ := nrfl rfl
@[simp] theorem g119 : tys 119 = some ⟨1, 24, false, .slice 9, [(.slice none 0 0)]⟩ := nrfl rfl
@[simp] theorem g123 : tys 123 = some ⟨1, 16, false, .ifc false, [.nilIface]⟩ := nrfl rfl
@[simp] theorem g129 : tys 129 = some ⟨2, 40, true, .struct [(0, 9), (1, 54)], [(.string ByteArray.empty), (.slice none 0 0)]⟩ := nrfl rfl
@[simp] theorem g134 : tys 134 = some ⟨1, 8, false, .other, [.nilFunc]⟩ := nrfl rfl
@[simp] theorem g143 : tys 143 = some ⟨1, 24, false, .slice 23, [(.slice none 0 0)]⟩ := nrfl rfl
@[simp] theorem g154 : tys 154 = some ⟨1, 24, false, .slice 390, [(.slice none 0 0)]⟩ := nrfl rfl
@[simp] theorem g156 : tys 156 = some ⟨2, 32, true, .struct [(0, 3), (1, 154)], [(.int .i64 0), (.slice none 0 0)]⟩ := nrfl rfl
@[simp] theorem g167 : tys 167 = some ⟨1, 8, false, .map 23 9, [(.map none)]⟩ := nrfl rfl
@[simp] theorem g171 : tys 171 = some ⟨1, 8, false, .other, [.nilFunc]⟩ := nrfl rfl
@[simp] theorem g182 : tys 182 = some ⟨3, 24, true, .struct [(0, 3), (1, 3), (2, 3)], [(.int .i64 0), (.int .i64 0), (.int .i64 0)]⟩ := nrfl rfl
@[simp] theorem g186 : tys 186 = some ⟨1, 8, false, .other, [.nilFunc]⟩ := nrfl rfl
@[simp] theorem g188 : tys 188 = some ⟨1, 8, false, .other, [.nilFunc]⟩ := nrfl rfl
@[simp] theorem g192 : tys 192 = some ⟨1, 8, false, .other, [.nilFunc]⟩ := nrfl rfl
@[simp] theorem g194 : tys 194 = some ⟨1, 8, false, .ptr 5, [(.pointer none)]⟩ := nrfl rfl
@[simp] theorem g195 : tys 195 = some ⟨1, 8, false, .other, [.nilFunc]⟩ := nrfl rfl
@[simp] theorem g200 : tys 200 = some ⟨2, 16, true, .struct [(0, 3), (1, 23)], [(.int .i64 0), (.int .i64 0)]⟩ := nrfl rfl
@[simp] theorem g202 : tys 202 = some ⟨1, 8, false, .other, [.nilFunc]⟩ := nrfl rfl
@[simp] theorem g219 : tys 219 = some ⟨1, 8, false, .ptr 222, [(.pointer none)]⟩ := nrfl rfl
@[simp] theorem g222 : tys 222 = some ⟨16, 152, true, .struct [(0, 47), (5, 45), (10, 3), (11, 49), (15, 3)], [(.int .u8 0), (.int .i64 0), (.int .i64 0), (.bool false), (.bool false), (.slice none 0 0), (.int .i64 0), (.int .i64 0), (.slice none 0 0), (.int .i64 0), (.int .i64 0), (.int .i64 0), (.int .i64 0), (.int .i64 0), (.int .i64 0), (.int .i64 0)]⟩ := nrfl rfl
@[simp] theorem g225 : tys 225 = some ⟨1, 8, false, .other, [.nilFunc]⟩ := nrfl rfl
@[simp] theorem g227 : tys 227 = some ⟨1, 8, false, .other, [.nilFunc]⟩ := nrfl rfl
@[simp] theorem g232 : tys 232 = some ⟨1, 8, false, .other, [.nilFunc]⟩ := nrfl rfl
@[simp] theorem g235 : tys 235 = some ⟨14, 112, true, .struct [(0, 86), (7, 75), (11, 3), (12, 27)], [(.int .i64 0), (.int .i64 0), (.int .i64 0), (.int .i64 0), (.int .i64 0), (.int .i64 0), (.int .i64 0), (.int .i64 0), (.int .i64 0), (.int .i64 0), (.int .i64 0), (.int .i64 0), (.int .i64 0), (.int .i64 0)]⟩ := nrfl rfl
@[simp] theorem g238 : tys 238 = some ⟨1, 24, false, .slice 240, [(.slice none 0 0)]⟩ := nrfl rfl
@[simp] theorem g240 : tys 240 = some ⟨2, 16, true, .struct [(0, 3), (1, 3)], [(.int .i64 0), (.int .i64 0)]⟩ := nrfl rfl
@[simp] theorem g251 : tys 251 = some ⟨4, 32, true, .struct [(0, 5), (1, 3), (2, 3), (3, 3)], [(.int .u8 0), (.int .i64 0), (.int .i64 0), (.int .i64 0)]⟩ := nrfl rfl
@[simp] theorem g255 : tys 255 = some ⟨1, 8, false, .ptr 89, [(.pointer none)]⟩ := nrfl rfl
@[simp] theorem g258 : tys 258 = some ⟨2, 16, true, .struct [(0, 5), (1, 3)], [(.int .u8 0), (.int .i64 0)]⟩ := nrfl rfl
@[simp] theorem g262 : tys 262 = some ⟨6, 48, true, .struct [(0, 258), (2, 49)], [(.int .u8 0), (.int .i64 0), (.int .i64 0), (.int .i64 0), (.int .i64 0), (.int .i64 0)]⟩ := nrfl rfl
@[simp] theorem g263 : tys 263 = some ⟨1, 8, false, .other, [.nilFunc]⟩ := nrfl rfl
@[simp] theorem g264 : tys 264 = some ⟨1, 24, false, .slice 251, [(.slice none 0 0)]⟩ := nrfl rfl
@[simp] theorem g266 : tys 266 = some ⟨11, 104, true, .struct [(0, 3), (1, 49), (5, 27), (7, 27), (9, 3), (10, 264)], [(.int .i64 0), (.int .i64 0), (.int .i64 0), (.int .i64 0), (.int .i64 0), (.int .i64 0), (.int .i64 0), (.int .i64 0), (.int .i64 0), (.int .i64 0), (.slice none 0 0)]⟩ := nrfl rfl
@[simp] theorem g267 : tys 267 = some ⟨1, 24, false, .slice 266, [(.slice none 0 0)]⟩ := nrfl rfl
@[simp] theorem g269 : tys 269 = some ⟨1, 24, false, .slice 34, [(.slice none 0 0)]⟩ := nrfl rfl
@[simp] theorem g271 : tys 271 = some ⟨4, 32, true, .struct [(0, 3), (1, 3), (2, 3), (3, 3)], [(.int .i64 0), (.int .i64 0), (.int .i64 0), (.int .i64 0)]⟩ := nrfl rfl
@[simp] theorem g282 : tys 282 = some ⟨1, 8, false, .other, [(.pointer none)]⟩ := nrfl rfl
@[simp] theorem g284 : tys 284 = some ⟨1, 8, false, .other, [.nilFunc]⟩ := nrfl rfl
@[simp] theorem g287 : tys 287 = some ⟨1, 8, false, .other, [.nilFunc]⟩ := nrfl rfl
@[simp] theorem g291 : tys 291 = some ⟨1, 24, false, .slice 30, [(.slice none 0 0)]⟩ := nrfl rfl
@[simp] theorem g293 : tys 293 = some ⟨1, 8, false, .other, [.nilFunc]⟩ := nrfl rfl
@[simp] theorem g300 : tys 300 = some ⟨1, 8, false, .other, [.nilFunc]⟩ := nrfl rfl
@[simp] theorem g308 : tys 308 = some ⟨1, 8, false, .other, [.nilFunc]⟩ := nrfl rfl
@[simp] theorem g313 : tys 313 = some ⟨1, 8, false, .other, [.nilFunc]⟩ := nrfl rfl
@[simp] theorem g314 : tys 314 = some ⟨1, 24, false, .slice 316, [(.slice none 0 0)]⟩ := nrfl rfl
@[simp] theorem g316 : tys 316 = some ⟨3, 24, true, .struct [(0, 3), (1, 27)], [(.int .i64 0), (.int .i64 0), (.int .i64 0)]⟩ := nrfl rfl
@[simp] theorem g323 : tys 323 = some ⟨1, 8, false, .other, [.nilFunc]⟩ := nrfl rfl
@[simp] theorem g325 : tys 325 = some ⟨3, 24, true, .struct [(0, 91)], [(.int .i64 0), (.int .i64 0), (.int .i64 0)]⟩ := nrfl rfl
@[simp] theorem g327 : tys 327 = some ⟨1, 8, false, .other, [.nilFunc]⟩ := nrfl rfl
@[simp] theorem g330 : tys 330 = some ⟨1, 8, false, .other, [.nilFunc]⟩ := nrfl rfl
@[simp] theorem g333 : tys 333 = some ⟨1, 8, true, .struct [(0, 23)], [(.int .i64 0)]⟩ := nrfl rfl
@[simp] theorem g334 : tys 334 = some ⟨1, 8, false, .other, [.nilFunc]⟩ := nrfl rfl
@[simp] theorem g336 : tys 336 = some ⟨1, 8, false, .ptr 339, [(.pointer none)]⟩ := nrfl rfl
@[simp] theorem g337 : tys 337 = some ⟨8, 64, true, .array 8 334, [.nilFunc, .nilFunc, .nilFunc, .nilFunc, .nilFunc, .nilFunc, .nilFunc, .nilFunc]⟩ := nrfl rfl
@[simp] theorem g339 : tys 339 = some ⟨10, 96, true, .struct [(0, 32)], [(.slice none 0 0), (.int .i64 0), (.int .i64 0), (.int .i64 0), (.int .i64 0), (.int .i64 0), (.int .i64 0), (.int .i64 0), (.int .i64 0), (.int .i64 0)]⟩ := nrfl rfl
@[simp] theorem g340 : tys 340 = some ⟨1, 8, false, .map 5 345, [(.map none)]⟩ := nrfl rfl
@[simp] theorem g342 : tys 342 = some ⟨1, 24, false, .slice 398, [(.slice none 0 0)]⟩ := nrfl rfl
@[simp] theorem g343 : tys 343 = some ⟨1, 8, false, .other, [.nilFunc]⟩ := nrfl rfl
@[simp] theorem g345 : tys 345 = some ⟨2, 32, true, .struct [(0, 342), (1, 343)], [(.slice none 0 0), .nilFunc]⟩ := nrfl rfl
@[simp] theorem g349 : tys 349 = some ⟨1, 8, false, .ptr 404, [(.pointer none)]⟩ := nrfl rfl
@[simp] theorem g354 : tys 354 = some ⟨1, 8, false, .other, [.nilFunc]⟩ := nrfl rfl
@[simp] theorem g355 : tys 355 = some ⟨1, 8, false, .int .u64, [(.int .u64 0)]⟩ := nrfl rfl
@[simp] theorem g359 : tys 359 = some ⟨1, 8, false, .int .i64, [(.int .i64 0)]⟩ := nrfl rfl
@[simp] theorem g362 : tys 362 = some ⟨1, 8, false, .ptr 418, [(.pointer none)]⟩ := nrfl rfl
@[simp] theorem g372 : tys 372 = some ⟨1, 8, false, .ptr 368, [(.pointer none)]⟩ := nrfl rfl
@[simp] theorem g375 : tys 375 = some ⟨1, 8, false, .other, [.nilFunc]⟩ := nrfl rfl
@[simp] theorem g380 : tys 380 = some ⟨1, 8, false, .other, [.nilFunc]⟩ := nrfl rfl
@[simp] theorem g383 : tys 383 = some ⟨24, 24, true, .array 24 5, [(.int .u8 0), (.int .u8 0), (.int .u8 0), (.int .u8 0), (.int .u8 0), (.int .u8 0), (.int .u8 0), (.int .u8 0), (.int .u8 0), (.int .u8 0), (.int .u8 0), (.int .u8 0), (.int .u8 0), (.int .u8 0), (.int .u8 0), (.int .u8 0), (.int .u8 0), (.int .u8 0), (.int .u8 0), (.int .u8 0), (.int .u8 0), (.int .u8 0), (.int .u8 0), (.int .u8 0)]⟩ := nrfl rfl
@[simp] theorem g384 : tys 384 = some ⟨1, 8, false, .int .u64, [(.int .u64 0)]⟩ := nrfl rfl
@[simp] theorem g390 : tys 390 = some ⟨2, 16, true, .struct [(0, 3), (1, 3)], [(.int .i64 0), (.int .i64 0)]⟩ := nrfl rfl
@[simp] theorem g394 : tys 394 = some ⟨1, 8, false, .ptr 86, [(.pointer none)]⟩ := nrfl rfl
@[simp] theorem g398 : tys 398 = some ⟨1, 8, false, .other, [.nilFunc]⟩ := nrfl rfl
@[simp] theorem g401 : tys 401 = some ⟨1, 8, false, .other, [.nilFunc]⟩ := nrfl rfl
@[simp] theorem g404 : tys 404 = some ⟨9, 120, true, .struct [(0, 38), (2, 41)], [(.slice none 0 0), (.slice none 0 0), (.slice none 0 0), (.int .i64 0), (.int .i64 0), (.int .i64 0), (.int .i64 0), (.int .i64 0), (.int .i64 0)]⟩ := nrfl rfl
@[simp] theorem g406 : tys 406 = some ⟨1, 8, false, .other, [.nilFunc]⟩ := nrfl rfl
@[simp] theorem g412 : tys 412 = some ⟨1, 4, false, .int .u32, [(.int .u32 0)]⟩ := nrfl rfl
@[simp] theorem g418 : tys 418 = some ⟨3, 48, true, .struct [(0, 9), (1, 9), (2, 123)], [(.string ByteArray.empty), (.string ByteArray.empty), .nilIface]⟩ := nrfl rfl
@[simp] theorem g429 : tys 429 = some ⟨20, 160, true, .array 20 384, [(.int .u64 0), (.int .u64 0), (.int .u64 0), (.int .u64 0), (.int .u64 0), (.int .u64 0), (.int .u64 0), (.int .u64 0), (.int .u64 0), (.int .u64 0), (.int .u64 0), (.int .u64 0), (.int .u64 0), (.int .u64 0), (.int .u64 0), (.int .u64 0), (.int .u64 0), (.int .u64 0), (.int .u64 0), (.int .u64 0)]⟩ := nrfl rfl
@[simp] theorem g430 : tys 430 = some ⟨65, 65, true, .array 65 5, [(.int .u8 0), (.int .u8 0), (.int .u8 0), (.int .u8 0), (.int .u8 0), (.int .u8 0), (.int .u8 0), (.int .u8 0), (.int .u8 0), (.int .u8 0), (.int .u8 0), (.int .u8 0), (.int .u8 0), (.int .u8 0), (.int .u8 0), (.int .u8 0), (.int .u8 0), (.int .u8 0), (.int .u8 0), (.int .u8 0), (.int .u8 0), (.int .u8 0), (.int .u8 0), (.int .u8 0), (.int .u8 0), (.int .u8 0), (.int .u8 0), (.int .u8 0), (.int .u8 0), (.int .u8 0), (.int .u8 0), (.int .u8 0), (.int .u8 0), (.int .u8 0), (.int .u8 0), (.int .u8 0), (.int .u8 0), (.int .u8 0), (.int .u8 0), (.int .u8 0), (.int .u8 0), (.int .u8 0), (.int .u8 0), (.int .u8 0), (.int .u8 0), (.int .u8 0), (.int .u8 0), (.int .u8 0), (.int .u8 0), (.int .u8 0), (.int .u8 0), (.int .u8 0), (.int .u8 0), (.int .u8 0), (.int .u8 0), (.int .u8 0), (.int .u8 0), (.int .u8 0), (.int .u8 0), (.int .u8 0), (.int .u8 0), (.int .u8 0), (.int .u8 0), (.int .u8 0), (.int .u8 0)]⟩ := nrfl rfl
@[simp] theorem g432 : tys 432 = some ⟨1, 8, false, .other, [.nilFunc]⟩ := nrfl rfl
@[simp] theorem g439 : tys 439 = some ⟨2, 2, true, .struct [(0, 5), (1, 5)], [(.int .u8 0), (.int .u8 0)]⟩ := nrfl rfl
@[simp] theorem g440 : tys 440 = some ⟨32, 32, true, .array 16 439, [(.int .u8 0), (.int .u8 0), (.int .u8 0), (.int .u8 0), (.int .u8 0), (.int .u8 0), (.int .u8 0), (.int .u8 0), (.int .u8 0), (.int .u8 0), (.int .u8 0), (.int .u8 0), (.int .u8 0), (.int .u8 0), (.int .u8 0), (.int .u8 0), (.int .u8 0), (.int .u8 0), (.int .u8 0), (.int .u8 0), (.int .u8 0), (.int .u8 0), (.int .u8 0), (.int .u8 0), (.int .u8 0), (.int .u8 0), (.int .u8 0), (.int .u8 0), (.int .u8 0), (.int .u8 0), (.int .u8 0), (.int .u8 0)]⟩ := nrfl rfl
@[simp] theorem g442 : tys 442 = some ⟨1, 8, false, .ptr 444, [(.pointer none)]⟩ := nrfl rfl
@[simp] theorem g444 : tys 444 = some ⟨1, 16, true, .struct [(0, 9)], [(.string ByteArray.empty)]⟩ := nrfl rfl
@[simp] theorem g447 : tys 447 = some ⟨1, 8, false, .int .i64, [(.int .i64 0)]⟩ := nrfl rfl
@[simp] theorem g460 : tys 460 = some ⟨2, 16, true, .struct [(0, 3), (1, 63)], [(.int .i64 0), .nilFunc]⟩ := nrfl rfl
@[simp] theorem g463 : tys 463 = some ⟨1, 8, false, .other, [.nilFunc]⟩ := nrfl rfl
@[simp] theorem g467 : tys 467 = some ⟨1, 24, false, .slice 460, [(.slice none 0 0)]⟩ := nrfl rfl
@[simp] theorem g469 : tys 469 = some ⟨1, 8, false, .int .u64, [(.int .u64 0)]⟩ := nrfl rfl
@[simp] theorem g473 : tys 473 = some ⟨1, 8, false, .ptr 3, [(.pointer none)]⟩ := nrfl rfl
@[simp] theorem g475 : tys 475 = some ⟨32, 32, true, .array 32 5, [(.int .u8 0), (.int .u8 0), (.int .u8 0), (.int .u8 0), (.int .u8 0), (.int .u8 0), (.int .u8 0), (.int .u8 0), (.int .u8 0), (.int .u8 0), (.int .u8 0), (.int .u8 0), (.int .u8 0), (.int .u8 0), (.int .u8 0), (.int .u8 0), (.int .u8 0), (.int .u8 0), (.int .u8 0), (.int .u8 0), (.int .u8 0), (.int .u8 0), (.int .u8 0), (.int .u8 0), (.int .u8 0), (.int .u8 0), (.int .u8 0), (.int .u8 0), (.int .u8 0), (.int .u8 0), (.int .u8 0), (.int .u8 0)]⟩ := nrfl rfl
@[simp] theorem g476 : tys 476 = some ⟨64, 64, true, .array 64 5, [(.int .u8 0), (.int .u8 0), (.int .u8 0), (.int .u8 0), (.int .u8 0), (.int .u8 0), (.int .u8 0), (.int .u8 0), (.int .u8 0), (.int .u8 0), (.int .u8 0), (.int .u8 0), (.int .u8 0), (.int .u8 0), (.int .u8 0), (.int .u8 0), (.int .u8 0), (.int .u8 0), (.int .u8 0), (.int .u8 0), (.int .u8 0), (.int .u8 0), (.int .u8 0), (.int .u8 0), (.int .u8 0), (.int .u8 0), (.int .u8 0), (.int .u8 0), (.int .u8 0), (.int .u8 0), (.int .u8 0), (.int .u8 0), (.int .u8 0), (.int .u8 0), (.int .u8 0), (.int .u8 0), (.int .u8 0), (.int .u8 0), (.int .u8 0), (.int .u8 0), (.int .u8 0), (.int .u8 0), (.int .u8 0), (.int .u8 0), (.int .u8 0), (.int .u8 0), (.int .u8 0), (.int .u8 0), (.int .u8 0), (.int .u8 0), (.int .u8 0), (.int .u8 0), (.int .u8 0), (.int .u8 0), (.int .u8 0), (.int .u8 0), (.int .u8 0), (.int .u8 0), (.int .u8 0), (.int .u8 0), (.int .u8 0), (.int .u8 0), (.int .u8 0), (.int .u8 0)]⟩ := nrfl rfl
@[simp] theorem g477 : tys 477 = some ⟨16, 128, true, .array 8 27, [(.int .i64 0), (.int .i64 0), (.int .i64 0), (.int .i64 0), (.int .i64 0), (.int .i64 0), (.int .i64 0), (.int .i64 0), (.int .i64 0), (.int .i64 0), (.int .i64 0), (.int .i64 0), (.int .i64 0), (.int .i64 0), (.int .i64 0), (.int .i64 0)]⟩ := nrfl rfl
@[simp] theorem g478 : tys 478 = some ⟨2, 16, true, .array 2 3, [(.int .i64 0), (.int .i64 0)]⟩ := nrfl rfl
@[simp] theorem g482 : tys 482 = some ⟨1, 8, false, .other, [.nilFunc]⟩ := nrfl rfl
@[simp] theorem g483 : tys 483 = some ⟨4, 32, true, .array 2 27, [(.int .i64 0), (.int .i64 0), (.int .i64 0), (.int .i64 0)]⟩ := nrfl rfl
@[simp] theorem g486 : tys 486 = some ⟨1, 8, false, .ptr 469, [(.pointer none)]⟩ := nrfl rfl
@[simp] theorem g495 : tys 495 = some ⟨1, 8, false, .other, [.nilFunc]⟩ := nrfl rfl
@[simp] theorem g497 : tys 497 = some ⟨1, 8, false, .other, [.nilFunc]⟩ := nrfl rfl
@[simp] theorem g499 : tys 499 = some ⟨4, 40, true, .struct [(0, 17), (1, 17), (2, 17), (3, 9)], [(.pointer none), (.pointer none), (.pointer none), (.string ByteArray.empty)]⟩ := nrfl rfl
@[simp] theorem g500 : tys 500 = some ⟨0, 0, true, .array 0 16, []⟩ := nrfl rfl
@[simp] theorem g502 : tys 502 = some ⟨0, 0, true, .struct [(0, 500)], []⟩ := nrfl rfl
@[simp] theorem g503 : tys 503 = some ⟨1, 1, false, .int .u8, [(.int .u8 0)]⟩ := nrfl rfl
@[simp] theorem g504 : tys 504 = some ⟨1, 1, false, .int .u8, [(.int .u8 0)]⟩ := nrfl rfl
@[simp] theorem g505 : tys 505 = some ⟨1, 8, false, .other, [.nilFunc]⟩ := nrfl rfl
@[simp] theorem g506 : tys 506 = some ⟨1, 4, false, .int .i32, [(.int .i32 0)]⟩ := nrfl rfl
@[simp] theorem g507 : tys 507 = some ⟨1, 4, false, .int .i32, [(.int .i32 0)]⟩ := nrfl rfl
@[simp] theorem g509 : tys 509 = some ⟨11, 48, true, .struct [(0, 12), (1, 12), (2, 412), (3, 503), (4, 5), (5, 5), (6, 504), (7, 505), (8, 194), (9, 506), (10, 507)], [(.int .u64 0), (.int .u64 0), (.int .u32 0), (.int .u8 0), (.int .u8 0), (.int .u8 0), (.int .u8 0), .nilFunc, (.pointer none), (.int .i32 0), (.int .i32 0)]⟩ := nrfl rfl
@[simp] theorem e8 : eqs 8 = some [.int, .int, .bool, .int] := nrfl rfl
@[simp] theorem e27 : eqs 27 = some [.int, .int] := nrfl rfl
@[simp] theorem e30 : eqs 30 = some [.int, .int] := nrfl rfl
@[simp] theorem e47 : eqs 47 = some [.int, .int, .int, .bool, .bool] := nrfl rfl
@[simp] theorem e49 : eqs 49 = some [.int, .int, .int, .int] := nrfl rfl
@[simp] theorem e60 : eqs 60 = some [.int, .int, .int, .int] := nrfl rfl
@[simp] theorem e75 : eqs 75 = some [.int, .int, .int, .int] := nrfl rfl
@[simp] theorem e80 : eqs 80 = some [.int, .int, .int, .int, .int] := nrfl rfl
@[simp] theorem e82 : eqs 82 = some [.int, .int, .int, .int, .int, .int] := nrfl rfl
@[simp] theorem e84 : eqs 84 = some [.int, .int] := nrfl rfl
@[simp] theorem e86 : eqs 86 = some [.int, .int, .int, .int, .int, .int, .int] := nrfl rfl
@[simp] theorem e87 : eqs 87 = some [.int, .int] := nrfl rfl
@[simp] theorem e89 : eqs 89 = some [.int, .int, .int] := nrfl rfl
@[simp] theorem e91 : eqs 91 = some [.int, .int, .int] := nrfl rfl
@[simp] theorem e94 : eqs 94 = some [.int, .str] := nrfl rfl
@[simp] theorem e182 : eqs 182 = some [.int, .int, .int] := nrfl rfl
@[simp] theorem e200 : eqs 200 = some [.int, .int] := nrfl rfl
@[simp] theorem e235 : eqs 235 = some [.int, .int, .int, .int, .int, .int, .int, .int, .int, .int, .int, .int, .int, .int] := nrfl rfl
@[simp] theorem e240 : eqs 240 = some [.int, .int] := nrfl rfl
@[simp] theorem e251 : eqs 251 = some [.int, .int, .int, .int] := nrfl rfl
@[simp] theorem e258 : eqs 258 = some [.int, .int] := nrfl rfl
@[simp] theorem e262 : eqs 262 = some [.int, .int, .int, .int, .int, .int] := nrfl rfl
@[simp] theorem e271 : eqs 271 = some [.int, .int, .int, .int] := nrfl rfl
@[simp] theorem e316 : eqs 316 = some [.int, .int, .int] := nrfl rfl
@[simp] theorem e325 : eqs 325 = some [.int, .int, .int] := nrfl rfl
@[simp] theorem e333 : eqs 333 = some [.int] := nrfl rfl
@[simp] theorem e390 : eqs 390 = some [.int, .int] := nrfl rfl
@[simp] theorem e439 : eqs 439 = some [.int, .int] := nrfl rfl
@[simp] theorem e444 : eqs 444 = some [.str] := nrfl rfl
end Go.Proofs.Tryz
namespace Go.Psl
variable {P : Program}
def GoodF (P : Program) (g : Nat) (fi : FI) : Prop :=
 (fi.kind < 2 -> ∃ fn c, P.funcs[g]? = some fn /\ fn.body = some c /\ comp fn.ntmps c = some fi.pc /\ (fn.name == "runtime.NumGoroutine") = false /\ fi.nt = fn.ntmps /\ fi.res = fn.results.toList) /\
 (fi.kind = 2 -> ∃ fn id o1 o2 rest, P.funcs[g]? = some fn /\ fn.body = some (.seq (.region id #[o1, o2] false) rest) /\ (fn.name == "runtime.NumGoroutine") = false /\ o1.guard = none /\ o2.guard = none /\ o1.dst = some fi.t3 /\ o2.dst = some fi.t2 /\
   (∀ ρ W, (execOp ρ o1).run P W = .ok .recover W) /\ (∀ ρ W, (execOp ρ o2).run P W = .ok (.value (ρ (.tmp fi.t3))) W) /\ fi.t3 < fn.ntmps /\ fi.t2 < fn.ntmps /\ comp fn.ntmps rest = some fi.pc /\ fi.nt = fn.ntmps /\ fn.results.toList = [])
theorem gdF {g : Nat} {fn : Func} {pc : PC} {keep : Nat -> Bool} {gv : Bool} {kd a b : Nat} (hf : P.funcs[g]? = some fn) (hc : fn.body.bind (comp fn.ntmps) = some pc) (hn : (fn.name == "runtime.NumGoroutine") = false) (hk : Nat.blt kd 2 = true) : GoodF P g ⟨pc, fn.ntmps, fn.results.toList, keep, gv, kd, a, b⟩ := by
 have hk : kd < 2 := Nat.le_of_ble_eq_true hk
 cases hb : fn.body with
 | none => rw [hb] at hc; cases hc
 | some c => rw [hb] at hc; exact ⟨fun _ => ⟨fn, c, hf, hb, hc, hn, rfl, rfl⟩, fun (h : kd = 2) => by omega⟩
theorem gdC {g : Nat} {fn : Func} {pc : PC} {keep : Nat -> Bool} {gv : Bool} {a b : Nat} {rest : Code} (hf : P.funcs[g]? = some fn) (hb : fn.body.bind recOf = some (a, b, rest)) (hc : comp fn.ntmps rest = some pc) (hn : (fn.name == "runtime.NumGoroutine") = false) (ha : Nat.blt a fn.ntmps = true) (hb' : Nat.blt b fn.ntmps = true) (hr : fn.results.toList = []) :
   GoodF P g ⟨pc, fn.ntmps, [], keep, gv, 2, a, b⟩ := by
 refine ⟨fun (h : 2 < 2) => by omega, fun _ => ?_⟩
 simp only [Option.bind_eq_some_iff] at hb
 obtain ⟨c, h2, hr2⟩ := hb
 obtain ⟨id, o1, o2, rfl, q1, q2, q3, q4, q5, q6⟩ := recOf_at hr2
 exact ⟨fn, id, o1, o2, rest, hf, h2, hn, q3, q4, q1, q2, exec_rec q5, fun ρ W => by simp [execOp, q6], Nat.le_of_ble_eq_true ha, Nat.le_of_ble_eq_true hb', hc, rfl, hr⟩
def AllG (P : Program) : List (Nat × FI) -> Prop
 | [] => True
 | p :: r => GoodF P p.1 p.2 /\ AllG P r
theorem AllG.at : ∀ {l : List (Nat × FI)} {p : Nat × FI}, AllG P l -> p ∈ l -> GoodF P p.1 p.2
 | _ :: _, p, h, hp => by
   rcases List.mem_cons.1 hp with rfl | hp
   . exact h.1
   . exact AllG.at h.2 hp
def memF' (t : Bt (List (List V × Res))) (g : Nat) (az : List V) : Option (Res × EH) := match t.get g with
 | some l => memL l az
 | none => none
def AllM (P : Program) : List (Nat × List (List V × Res)) -> Prop
 | [] => True
 | p :: r => (∀ q ∈ p.2, Cm P p.1 q.1 (fun _ => none) [] q.2 (fun _ => none)) /\ AllM P r
theorem AllM.at : ∀ {l : List (Nat × List (List V × Res))} {p : Nat × List (List V × Res)}, AllM P l -> p ∈ l -> ∀ q ∈ p.2, Cm P p.1 q.1 (fun _ => none) [] q.2 (fun _ => none)
 | _ :: _, p, h, hp => by
   rcases List.mem_cons.1 hp with rfl | hp
   . exact h.1
   . exact AllM.at h.2 hp
def cfgT (ty : List (Nat × Ty)) (eq : List (Nat × List CK)) (tab : List (Nat × FI)) (orc : RS -> Nat -> List V -> EH -> List Nat -> Option (Res × EH)) (mem : List (Nat × List (List V × Res))) : Cfg := ⟨(Bt.of ty).get, (Bt.of eq).get, (Bt.of tab).get, orc, memF' (Bt.of mem)⟩
theorem cfgT_ok {ty : List (Nat × Ty)} {eq : List (Nat × List CK)} {tab : List (Nat × FI)} {orc : RS -> Nat -> List V -> EH -> List Nat -> Option (Res × EH)} {mem : List (Nat × List (List V × Res))} (h1 : ty.all (fun p => tyB P p.1 p.2) = true) (h2 : eq.all (fun p => eqB P p.1 p.2) = true) (hm : P.follows .mixedOrders = true) (hpf : panN < 1000000 -> ∃ fn, P.funcs[panF]? = some fn) (h3 : AllG P tab) (h4 : AllM P mem)
   (ho : ∀ rs g az L ks r, orc rs g az L ks = some r -> (∀ p ∈ L, lk L p.1 = some p.2) -> (∀ i ∈ ks, ∃ c, lk L i = some c /\ ECe rs i c = false) -> Cm P g az (lk (L.toL rs)) ks r.1 (lk (r.2.toL rs))) : CfgOk P (cfgT ty eq tab orc mem) :=
 ⟨fun t y h => tyB_ok (List.all_eq_true.1 h1 _ (Bt.get_of h)), fun t ks h => eqok_of (l := [(t, ks)]) (by simpa using List.all_eq_true.1 h2 _ (Bt.get_of h)) t ks (by simp [lk]), hm, hpf,
   fun _ _ h => (h3.at (Bt.get_of h)).1, fun _ _ h => (h3.at (Bt.get_of h)).2, (fun rs g az r h => by
     have h : memF' (Bt.of mem) g az = some r := h
     unfold memF' at h
     split at h
     . rename_i l hl
       obtain ⟨q1, q2⟩ := memL_at h
       have := h4.at (Bt.get_of hl) _ q1
       rw [q2]
       exact this
     . cases h), fun rs g az L ks r h _ => ho rs g az L ks r h⟩
end Go.Psl
namespace Go.Proofs.Tryz
open Go Go.Psl
def kT : Nat -> Bool := fun _ => true
def kF : Nat -> Bool := fun _ => false
noncomputable def p20r : PC := (⟨_, by conv => lhs; reduce⟩ : Rd (match comp f20.ntmps (bodyR f20.body) with | some p => p | none => .skip)).1
noncomputable def a20 : Nat := match f20.body.bind recOf with | some p => p.1 | none => 0
noncomputable def b20 : Nat := match f20.body.bind recOf with | some p => p.2.1 | none => 0
noncomputable def p113r : PC := (⟨_, by conv => lhs; reduce⟩ : Rd (match comp f113.ntmps (bodyR f113.body) with | some p => p | none => .skip)).1
noncomputable def a113 : Nat := match f113.body.bind recOf with | some p => p.1 | none => 0
noncomputable def b113 : Nat := match f113.body.bind recOf with | some p => p.2.1 | none => 0
noncomputable def p247r : PC := (⟨_, by conv => lhs; reduce⟩ : Rd (match comp f247.ntmps (bodyR f247.body) with | some p => p | none => .skip)).1
noncomputable def a247 : Nat := match f247.body.bind recOf with | some p => p.1 | none => 0
noncomputable def b247 : Nat := match f247.body.bind recOf with | some p => p.2.1 | none => 0
noncomputable def tabL : List (Nat × FI) := [(3, ⟨p3, f3.ntmps, f3.results.toList, kF, false, 0, 0, 0⟩),
 (4, ⟨p4, f4.ntmps, f4.results.toList, kF, false, 0, 0, 0⟩),
 (5, ⟨p5, f5.ntmps, f5.results.toList, kF, false, 0, 0, 0⟩),
 (6, ⟨p6, f6.ntmps, f6.results.toList, kF, false, 0, 0, 0⟩),
 (7, ⟨p7, f7.ntmps, f7.results.toList, kF, false, 0, 0, 0⟩),
 (8, ⟨p8, f8.ntmps, f8.results.toList, kF, false, 0, 0, 0⟩),
 (9, ⟨p9, f9.ntmps, f9.results.toList, kF, false, 0, 0, 0⟩),
 (10, ⟨p10, f10.ntmps, f10.results.toList, kF, true, 0, 0, 0⟩),
 (11, ⟨p11, f11.ntmps, f11.results.toList, kF, true, 1, 0, 0⟩),
 (12, ⟨p12, f12.ntmps, f12.results.toList, kF, false, 0, 0, 0⟩),
 (13, ⟨p13, f13.ntmps, f13.results.toList, kF, false, 0, 0, 0⟩),
 (14, ⟨p14, f14.ntmps, f14.results.toList, kF, false, 0, 0, 0⟩),
 (15, ⟨p15, f15.ntmps, f15.results.toList, kF, false, 0, 0, 0⟩),
 (16, ⟨p16, f16.ntmps, f16.results.toList, kF, false, 0, 0, 0⟩),
 (17, ⟨p17, f17.ntmps, f17.results.toList, kF, false, 0, 0, 0⟩),
 (18, ⟨p18, f18.ntmps, f18.results.toList, kF, false, 0, 0, 0⟩),
 (19, ⟨p19, f19.ntmps, f19.results.toList, kF, false, 0, 0, 0⟩),
 (20, ⟨p20r, f20.ntmps, [], kT, false, 2, a20, b20⟩),
 (21, ⟨p21, f21.ntmps, f21.results.toList, kF, false, 0, 0, 0⟩),
 (22, ⟨p22, f22.ntmps, f22.results.toList, kF, false, 0, 0, 0⟩),
 (23, ⟨p23, f23.ntmps, f23.results.toList, kF, false, 0, 0, 0⟩),
 (24, ⟨p24, f24.ntmps, f24.results.toList, kF, false, 0, 0, 0⟩),
 (25, ⟨p25, f25.ntmps, f25.results.toList, (fun m => m == 11), false, 0, 0, 0⟩),
 (26, ⟨p26, f26.ntmps, f26.results.toList, (fun m => !(m == 11)), false, 0, 0, 0⟩),
 (28, ⟨p28, f28.ntmps, f28.results.toList, kF, false, 0, 0, 0⟩),
 (29, ⟨p29, f29.ntmps, f29.results.toList, kF, false, 0, 0, 0⟩),
 (30, ⟨p30, f30.ntmps, f30.results.toList, kF, false, 0, 0, 0⟩),
 (34, ⟨p34, f34.ntmps, f34.results.toList, kF, false, 0, 0, 0⟩),
 (35, ⟨p35, f35.ntmps, f35.results.toList, kF, false, 0, 0, 0⟩),
 (36, ⟨p36, f36.ntmps, f36.results.toList, kF, false, 1, 0, 0⟩),
 (37, ⟨p37, f37.ntmps, f37.results.toList, kF, false, 0, 0, 0⟩),
 (39, ⟨p39, f39.ntmps, f39.results.toList, kF, false, 0, 0, 0⟩),
 (40, ⟨p40, f40.ntmps, f40.results.toList, kF, false, 0, 0, 0⟩),
 (41, ⟨p41, f41.ntmps, f41.results.toList, kF, false, 0, 0, 0⟩),
 (42, ⟨p42, f42.ntmps, f42.results.toList, kF, false, 0, 0, 0⟩),
 (43, ⟨p43, f43.ntmps, f43.results.toList, kF, false, 0, 0, 0⟩),
 (44, ⟨p44, f44.ntmps, f44.results.toList, kF, false, 0, 0, 0⟩),
 (45, ⟨p45, f45.ntmps, f45.results.toList, kF, false, 0, 0, 0⟩),
 (46, ⟨p46, f46.ntmps, f46.results.toList, kF, false, 0, 0, 0⟩),
 (47, ⟨p47, f47.ntmps, f47.results.toList, kF, false, 0, 0, 0⟩),
 (48, ⟨p48, f48.ntmps, f48.results.toList, kF, false, 0, 0, 0⟩),
 (49, ⟨p49, f49.ntmps, f49.results.toList, kF, false, 0, 0, 0⟩),
 (50, ⟨p50, f50.ntmps, f50.results.toList, kF, false, 0, 0, 0⟩),
 (51, ⟨p51, f51.ntmps, f51.results.toList, kF, false, 0, 0, 0⟩),
 (52, ⟨p52, f52.ntmps, f52.results.toList, kF, false, 0, 0, 0⟩),
 (53, ⟨p53, f53.ntmps, f53.results.toList, kF, false, 0, 0, 0⟩),
 (54, ⟨p54, f54.ntmps, f54.results.toList, kF, false, 0, 0, 0⟩),
 (55, ⟨p55, f55.ntmps, f55.results.toList, kF, false, 0, 0, 0⟩),
 (57, ⟨p57, f57.ntmps, f57.results.toList, kF, false, 0, 0, 0⟩),
 (58, ⟨p58, f58.ntmps, f58.results.toList, kF, false, 0, 0, 0⟩),
 (59, ⟨p59, f59.ntmps, f59.results.toList, kF, false, 0, 0, 0⟩),
 (60, ⟨p60, f60.ntmps, f60.results.toList, kF, false, 0, 0, 0⟩),
 (61, ⟨p61, f61.ntmps, f61.results.toList, kF, false, 0, 0, 0⟩),
 (62, ⟨p62, f62.ntmps, f62.results.toList, kF, false, 0, 0, 0⟩),
 (63, ⟨p63, f63.ntmps, f63.results.toList, kF, false, 0, 0, 0⟩),
 (64, ⟨p64, f64.ntmps, f64.results.toList, kF, false, 0, 0, 0⟩),
 (65, ⟨p65, f65.ntmps, f65.results.toList, kF, false, 0, 0, 0⟩),
 (66, ⟨p66, f66.ntmps, f66.results.toList, kF, false, 0, 0, 0⟩),
 (67, ⟨p67, f67.ntmps, f67.results.toList, kF, false, 0, 0, 0⟩),
 (68, ⟨p68, f68.ntmps, f68.results.toList, kF, false, 0, 0, 0⟩),
 (70, ⟨p70, f70.ntmps, f70.results.toList, kF, false, 0, 0, 0⟩),
 (72, ⟨p72, f72.ntmps, f72.results.toList, kF, false, 0, 0, 0⟩),
 (74, ⟨p74, f74.ntmps, f74.results.toList, kF, false, 0, 0, 0⟩),
 (75, ⟨p75, f75.ntmps, f75.results.toList, kF, false, 0, 0, 0⟩),
 (77, ⟨p77, f77.ntmps, f77.results.toList, kF, false, 0, 0, 0⟩),
 (80, ⟨p80, f80.ntmps, f80.results.toList, kF, false, 0, 0, 0⟩),
 (81, ⟨p81, f81.ntmps, f81.results.toList, kF, false, 0, 0, 0⟩),
 (82, ⟨p82, f82.ntmps, f82.results.toList, kF, false, 0, 0, 0⟩),
 (83, ⟨p83, f83.ntmps, f83.results.toList, kF, false, 0, 0, 0⟩),
 (84, ⟨p84, f84.ntmps, f84.results.toList, kF, false, 0, 0, 0⟩),
 (85, ⟨p85, f85.ntmps, f85.results.toList, kF, false, 0, 0, 0⟩),
 (86, ⟨p86, f86.ntmps, f86.results.toList, kF, false, 0, 0, 0⟩),
 (87, ⟨p87, f87.ntmps, f87.results.toList, kF, false, 0, 0, 0⟩),
 (88, ⟨p88, f88.ntmps, f88.results.toList, kF, false, 0, 0, 0⟩),
 (89, ⟨p89, f89.ntmps, f89.results.toList, kF, false, 0, 0, 0⟩),
 (90, ⟨p90, f90.ntmps, f90.results.toList, kF, false, 0, 0, 0⟩),
 (91, ⟨p91, f91.ntmps, f91.results.toList, kF, false, 0, 0, 0⟩),
 (92, ⟨p92, f92.ntmps, f92.results.toList, kF, false, 0, 0, 0⟩),
 (93, ⟨p93, f93.ntmps, f93.results.toList, kF, false, 0, 0, 0⟩),
 (94, ⟨p94, f94.ntmps, f94.results.toList, kT, false, 0, 0, 0⟩),
 (95, ⟨p95, f95.ntmps, f95.results.toList, kF, false, 0, 0, 0⟩),
 (96, ⟨p96, f96.ntmps, f96.results.toList, kF, false, 0, 0, 0⟩),
 (97, ⟨p97, f97.ntmps, f97.results.toList, kT, false, 0, 0, 0⟩),
 (100, ⟨p100, f100.ntmps, f100.results.toList, kF, false, 0, 0, 0⟩),
 (101, ⟨p101, f101.ntmps, f101.results.toList, kF, false, 0, 0, 0⟩),
 (102, ⟨p102, f102.ntmps, f102.results.toList, kF, false, 0, 0, 0⟩),
 (103, ⟨p103, f103.ntmps, f103.results.toList, kT, false, 0, 0, 0⟩),
 (104, ⟨p104, f104.ntmps, f104.results.toList, kT, false, 0, 0, 0⟩),
 (105, ⟨p105, f105.ntmps, f105.results.toList, kT, false, 0, 0, 0⟩),
 (106, ⟨p106, f106.ntmps, f106.results.toList, kF, false, 0, 0, 0⟩),
 (107, ⟨p107, f107.ntmps, f107.results.toList, kF, false, 0, 0, 0⟩),
 (110, ⟨p110, f110.ntmps, f110.results.toList, kT, false, 0, 0, 0⟩),
 (111, ⟨p111, f111.ntmps, f111.results.toList, kF, false, 0, 0, 0⟩),
 (112, ⟨p112, f112.ntmps, f112.results.toList, kF, false, 0, 0, 0⟩),
 (113, ⟨p113r, f113.ntmps, [], kT, false, 2, a113, b113⟩),
 (114, ⟨p114, f114.ntmps, f114.results.toList, kT, false, 0, 0, 0⟩),
 (115, ⟨p115, f115.ntmps, f115.results.toList, kF, false, 0, 0, 0⟩),
 (116, ⟨p116, f116.ntmps, f116.results.toList, kF, false, 0, 0, 0⟩),
 (117, ⟨p117, f117.ntmps, f117.results.toList, kF, false, 0, 0, 0⟩),
 (118, ⟨p118, f118.ntmps, f118.results.toList, kF, false, 0, 0, 0⟩),
 (119, ⟨p119, f119.ntmps, f119.results.toList, kF, false, 0, 0, 0⟩),
 (120, ⟨p120, f120.ntmps, f120.results.toList, kF, false, 0, 0, 0⟩),
 (121, ⟨p121, f121.ntmps, f121.results.toList, kF, false, 0, 0, 0⟩),
 (122, ⟨p122, f122.ntmps, f122.results.toList, kF, false, 0, 0, 0⟩),
 (123, ⟨p123, f123.ntmps, f123.results.toList, kF, false, 0, 0, 0⟩),
 (125, ⟨p125, f125.ntmps, f125.results.toList, kF, false, 0, 0, 0⟩),
 (126, ⟨p126, f126.ntmps, f126.results.toList, kF, false, 0, 0, 0⟩),
 (127, ⟨p127, f127.ntmps, f127.results.toList, kF, false, 0, 0, 0⟩),
 (128, ⟨p128, f128.ntmps, f128.results.toList, kF, false, 0, 0, 0⟩),
 (129, ⟨p129, f129.ntmps, f129.results.toList, kF, false, 0, 0, 0⟩),
 (130, ⟨p130, f130.ntmps, f130.results.toList, kF, false, 0, 0, 0⟩),
 (131, ⟨p131, f131.ntmps, f131.results.toList, kF, false, 0, 0, 0⟩),
 (132, ⟨p132, f132.ntmps, f132.results.toList, kF, false, 0, 0, 0⟩),
 (133, ⟨p133, f133.ntmps, f133.results.toList, kF, false, 0, 0, 0⟩),
 (134, ⟨p134, f134.ntmps, f134.results.toList, kF, false, 0, 0, 0⟩),
 (135, ⟨p135, f135.ntmps, f135.results.toList, kF, false, 0, 0, 0⟩),
 (136, ⟨p136, f136.ntmps, f136.results.toList, kF, false, 0, 0, 0⟩),
 (137, ⟨p137, f137.ntmps, f137.results.toList, kF, false, 0, 0, 0⟩),
 (138, ⟨p138, f138.ntmps, f138.results.toList, kF, false, 0, 0, 0⟩),
 (139, ⟨p139, f139.ntmps, f139.results.toList, kF, false, 0, 0, 0⟩),
 (140, ⟨p140, f140.ntmps, f140.results.toList, kF, false, 0, 0, 0⟩),
 (141, ⟨p141, f141.ntmps, f141.results.toList, kF, false, 0, 0, 0⟩),
 (142, ⟨p142, f142.ntmps, f142.results.toList, kF, false, 0, 0, 0⟩),
 (143, ⟨p143, f143.ntmps, f143.results.toList, kF, false, 0, 0, 0⟩),
 (144, ⟨p144, f144.ntmps, f144.results.toList, kF, false, 0, 0, 0⟩),
 (147, ⟨p147, f147.ntmps, f147.results.toList, kF, false, 0, 0, 0⟩),
 (148, ⟨p148, f148.ntmps, f148.results.toList, kF, false, 0, 0, 0⟩),
 (149, ⟨p149, f149.ntmps, f149.results.toList, kF, false, 0, 0, 0⟩),
 (150, ⟨p150, f150.ntmps, f150.results.toList, kF, false, 0, 0, 0⟩),
 (151, ⟨p151, f151.ntmps, f151.results.toList, kF, false, 0, 0, 0⟩),
 (152, ⟨p152, f152.ntmps, f152.results.toList, kF, false, 0, 0, 0⟩),
 (153, ⟨p153, f153.ntmps, f153.results.toList, kF, false, 0, 0, 0⟩),
 (154, ⟨p154, f154.ntmps, f154.results.toList, kF, false, 0, 0, 0⟩),
 (155, ⟨p155, f155.ntmps, f155.results.toList, kF, false, 0, 0, 0⟩),
 (156, ⟨p156, f156.ntmps, f156.results.toList, kF, false, 0, 0, 0⟩),
 (158, ⟨p158, f158.ntmps, f158.results.toList, kF, false, 0, 0, 0⟩),
 (159, ⟨p159, f159.ntmps, f159.results.toList, kF, false, 0, 0, 0⟩),
 (160, ⟨p160, f160.ntmps, f160.results.toList, kF, false, 0, 0, 0⟩),
 (161, ⟨p161, f161.ntmps, f161.results.toList, kF, false, 0, 0, 0⟩),
 (164, ⟨p164, f164.ntmps, f164.results.toList, kF, false, 0, 0, 0⟩),
 (165, ⟨p165, f165.ntmps, f165.results.toList, kF, false, 0, 0, 0⟩),
 (166, ⟨p166, f166.ntmps, f166.results.toList, kF, false, 0, 0, 0⟩),
 (167, ⟨p167, f167.ntmps, f167.results.toList, kF, false, 1, 0, 0⟩),
 (168, ⟨p168, f168.ntmps, f168.results.toList, kF, false, 0, 0, 0⟩),
 (169, ⟨p169, f169.ntmps, f169.results.toList, kF, false, 0, 0, 0⟩),
 (170, ⟨p170, f170.ntmps, f170.results.toList, kF, false, 0, 0, 0⟩),
 (171, ⟨p171, f171.ntmps, f171.results.toList, kF, false, 0, 0, 0⟩),
 (172, ⟨p172, f172.ntmps, f172.results.toList, kF, false, 0, 0, 0⟩),
 (173, ⟨p173, f173.ntmps, f173.results.toList, kF, false, 0, 0, 0⟩),
 (174, ⟨p174, f174.ntmps, f174.results.toList, kF, false, 0, 0, 0⟩),
 (175, ⟨p175, f175.ntmps, f175.results.toList, kF, false, 0, 0, 0⟩),
 (176, ⟨p176, f176.ntmps, f176.results.toList, kF, false, 0, 0, 0⟩),
 (177, ⟨p177, f177.ntmps, f177.results.toList, kF, false, 0, 0, 0⟩),
 (178, ⟨p178, f178.ntmps, f178.results.toList, kF, false, 0, 0, 0⟩),
 (179, ⟨p179, f179.ntmps, f179.results.toList, kT, false, 0, 0, 0⟩),
 (180, ⟨p180, f180.ntmps, f180.results.toList, kF, false, 0, 0, 0⟩),
 (181, ⟨p181, f181.ntmps, f181.results.toList, kT, false, 0, 0, 0⟩),
 (182, ⟨p182, f182.ntmps, f182.results.toList, kF, false, 0, 0, 0⟩),
 (186, ⟨p186, f186.ntmps, f186.results.toList, kF, false, 0, 0, 0⟩),
 (187, ⟨p187, f187.ntmps, f187.results.toList, kF, false, 0, 0, 0⟩),
 (189, ⟨p189, f189.ntmps, f189.results.toList, kF, false, 0, 0, 0⟩),
 (190, ⟨p190, f190.ntmps, f190.results.toList, kF, false, 0, 0, 0⟩),
 (191, ⟨p191, f191.ntmps, f191.results.toList, kF, false, 0, 0, 0⟩),
 (192, ⟨p192, f192.ntmps, f192.results.toList, kF, false, 0, 0, 0⟩),
 (194, ⟨p194, f194.ntmps, f194.results.toList, kF, false, 0, 0, 0⟩),
 (197, ⟨p197, f197.ntmps, f197.results.toList, kF, false, 0, 0, 0⟩),
 (198, ⟨p198, f198.ntmps, f198.results.toList, kF, false, 0, 0, 0⟩),
 (199, ⟨p199, f199.ntmps, f199.results.toList, kF, false, 0, 0, 0⟩),
 (200, ⟨p200, f200.ntmps, f200.results.toList, kF, false, 0, 0, 0⟩),
 (201, ⟨p201, f201.ntmps, f201.results.toList, kF, false, 0, 0, 0⟩),
 (202, ⟨p202, f202.ntmps, f202.results.toList, kF, false, 0, 0, 0⟩),
 (203, ⟨p203, f203.ntmps, f203.results.toList, kF, false, 0, 0, 0⟩),
 (204, ⟨p204, f204.ntmps, f204.results.toList, kF, false, 0, 0, 0⟩),
 (205, ⟨p205, f205.ntmps, f205.results.toList, kT, false, 0, 0, 0⟩),
 (206, ⟨p206, f206.ntmps, f206.results.toList, kF, false, 0, 0, 0⟩),
 (207, ⟨p207, f207.ntmps, f207.results.toList, kF, false, 0, 0, 0⟩),
 (208, ⟨p208, f208.ntmps, f208.results.toList, kF, false, 0, 0, 0⟩),
 (209, ⟨p209, f209.ntmps, f209.results.toList, kF, false, 0, 0, 0⟩),
 (210, ⟨p210, f210.ntmps, f210.results.toList, kF, false, 0, 0, 0⟩),
 (211, ⟨p211, f211.ntmps, f211.results.toList, kF, false, 0, 0, 0⟩),
 (212, ⟨p212, f212.ntmps, f212.results.toList, kF, false, 0, 0, 0⟩),
 (213, ⟨p213, f213.ntmps, f213.results.toList, kF, false, 0, 0, 0⟩),
 (214, ⟨p214, f214.ntmps, f214.results.toList, kF, false, 0, 0, 0⟩),
 (215, ⟨p215, f215.ntmps, f215.results.toList, kF, false, 0, 0, 0⟩),
 (216, ⟨p216, f216.ntmps, f216.results.toList, kF, false, 0, 0, 0⟩),
 (217, ⟨p217, f217.ntmps, f217.results.toList, kF, false, 0, 0, 0⟩),
 (218, ⟨p218, f218.ntmps, f218.results.toList, kF, false, 0, 0, 0⟩),
 (219, ⟨p219, f219.ntmps, f219.results.toList, kF, false, 0, 0, 0⟩),
 (220, ⟨p220, f220.ntmps, f220.results.toList, kF, false, 0, 0, 0⟩),
 (221, ⟨p221, f221.ntmps, f221.results.toList, kF, false, 0, 0, 0⟩),
 (222, ⟨p222, f222.ntmps, f222.results.toList, kF, false, 0, 0, 0⟩),
 (223, ⟨p223, f223.ntmps, f223.results.toList, kF, false, 0, 0, 0⟩),
 (224, ⟨p224, f224.ntmps, f224.results.toList, kF, false, 0, 0, 0⟩),
 (225, ⟨p225, f225.ntmps, f225.results.toList, kF, false, 0, 0, 0⟩),
 (226, ⟨p226, f226.ntmps, f226.results.toList, kF, false, 0, 0, 0⟩),
 (227, ⟨p227, f227.ntmps, f227.results.toList, kF, false, 0, 0, 0⟩),
 (228, ⟨p228, f228.ntmps, f228.results.toList, kF, false, 0, 0, 0⟩),
 (229, ⟨p229, f229.ntmps, f229.results.toList, kF, false, 0, 0, 0⟩),
 (230, ⟨p230, f230.ntmps, f230.results.toList, kF, false, 0, 0, 0⟩),
 (231, ⟨p231, f231.ntmps, f231.results.toList, kF, false, 0, 0, 0⟩),
 (232, ⟨p232, f232.ntmps, f232.results.toList, kF, false, 0, 0, 0⟩),
 (233, ⟨p233, f233.ntmps, f233.results.toList, kF, false, 0, 0, 0⟩),
 (234, ⟨p234, f234.ntmps, f234.results.toList, kF, false, 0, 0, 0⟩),
 (235, ⟨p235, f235.ntmps, f235.results.toList, kF, false, 0, 0, 0⟩),
 (237, ⟨p237, f237.ntmps, f237.results.toList, kF, false, 0, 0, 0⟩),
 (238, ⟨p238, f238.ntmps, f238.results.toList, kF, false, 0, 0, 0⟩),
 (239, ⟨p239, f239.ntmps, f239.results.toList, kF, false, 0, 0, 0⟩),
 (240, ⟨p240, f240.ntmps, f240.results.toList, kF, false, 0, 0, 0⟩),
 (241, ⟨p241, f241.ntmps, f241.results.toList, kF, false, 0, 0, 0⟩),
 (244, ⟨p244, f244.ntmps, f244.results.toList, kF, false, 0, 0, 0⟩),
 (246, ⟨p246, f246.ntmps, f246.results.toList, kF, false, 0, 0, 0⟩),
 (247, ⟨p247r, f247.ntmps, [], kT, false, 2, a247, b247⟩),
 (254, ⟨p254, f254.ntmps, f254.results.toList, kF, false, 0, 0, 0⟩),
 (255, ⟨p255, f255.ntmps, f255.results.toList, kF, false, 0, 0, 0⟩),
 (256, ⟨p256, f256.ntmps, f256.results.toList, kT, false, 0, 0, 0⟩),
 (257, ⟨p257, f257.ntmps, f257.results.toList, kF, false, 0, 0, 0⟩),
 (258, ⟨p258, f258.ntmps, f258.results.toList, kF, false, 0, 0, 0⟩),
 (259, ⟨p259, f259.ntmps, f259.results.toList, kF, false, 0, 0, 0⟩),
 (260, ⟨p260, f260.ntmps, f260.results.toList, kF, false, 0, 0, 0⟩),
 (261, ⟨p261, f261.ntmps, f261.results.toList, kF, false, 0, 0, 0⟩),
 (262, ⟨p262, f262.ntmps, f262.results.toList, kF, false, 0, 0, 0⟩),
 (263, ⟨p263, f263.ntmps, f263.results.toList, kF, false, 0, 0, 0⟩),
 (264, ⟨p264, f264.ntmps, f264.results.toList, kF, false, 0, 0, 0⟩),
 (269, ⟨p269, f269.ntmps, f269.results.toList, kT, false, 0, 0, 0⟩),
 (286, ⟨p286, f286.ntmps, f286.results.toList, kF, false, 0, 0, 0⟩),
 (287, ⟨p287, f287.ntmps, f287.results.toList, kF, false, 0, 0, 0⟩),
 (288, ⟨p288, f288.ntmps, f288.results.toList, kT, false, 0, 0, 0⟩),
 (289, ⟨p289, f289.ntmps, f289.results.toList, kF, false, 0, 0, 0⟩),
 (290, ⟨p290, f290.ntmps, f290.results.toList, kF, false, 0, 0, 0⟩),
 (291, ⟨p291, f291.ntmps, f291.results.toList, kF, false, 0, 0, 0⟩),
 (292, ⟨p292, f292.ntmps, f292.results.toList, kT, false, 0, 0, 0⟩),
 (293, ⟨p293, f293.ntmps, f293.results.toList, kF, false, 0, 0, 0⟩),
 (294, ⟨p294, f294.ntmps, f294.results.toList, kF, false, 0, 0, 0⟩),
 (295, ⟨p295, f295.ntmps, f295.results.toList, kF, false, 0, 0, 0⟩),
 (296, ⟨p296, f296.ntmps, f296.results.toList, kF, false, 0, 0, 0⟩),
 (297, ⟨p297, f297.ntmps, f297.results.toList, kF, false, 0, 0, 0⟩),
 (298, ⟨p298, f298.ntmps, f298.results.toList, kF, false, 0, 0, 0⟩),
 (299, ⟨p299, f299.ntmps, f299.results.toList, kF, false, 0, 0, 0⟩),
 (300, ⟨p300, f300.ntmps, f300.results.toList, kF, false, 0, 0, 0⟩),
 (301, ⟨p301, f301.ntmps, f301.results.toList, kF, false, 0, 0, 0⟩),
 (302, ⟨p302, f302.ntmps, f302.results.toList, kF, false, 0, 0, 0⟩),
 (303, ⟨p303, f303.ntmps, f303.results.toList, kF, false, 0, 0, 0⟩),
 (304, ⟨p304, f304.ntmps, f304.results.toList, kF, false, 0, 0, 0⟩),
 (305, ⟨p305, f305.ntmps, f305.results.toList, kF, false, 0, 0, 0⟩),
 (306, ⟨p306, f306.ntmps, f306.results.toList, kF, false, 0, 0, 0⟩),
 (311, ⟨p311, f311.ntmps, f311.results.toList, kF, false, 0, 0, 0⟩),
 (312, ⟨p312, f312.ntmps, f312.results.toList, kF, false, 0, 0, 0⟩),
 (313, ⟨p313, f313.ntmps, f313.results.toList, kF, false, 0, 0, 0⟩),
 (316, ⟨p316, f316.ntmps, f316.results.toList, kF, true, 0, 0, 0⟩),
 (317, ⟨p317, f317.ntmps, f317.results.toList, kF, false, 0, 0, 0⟩),
 (318, ⟨p318, f318.ntmps, f318.results.toList, kF, false, 0, 0, 0⟩),
 (323, ⟨p323, f323.ntmps, f323.results.toList, kF, false, 0, 0, 0⟩),
 (329, ⟨p329, f329.ntmps, f329.results.toList, kF, false, 0, 0, 0⟩),
 (330, ⟨p330, f330.ntmps, f330.results.toList, kF, false, 0, 0, 0⟩),
 (332, ⟨p332, f332.ntmps, f332.results.toList, kF, false, 0, 0, 0⟩),
 (334, ⟨p334, f334.ntmps, f334.results.toList, kF, false, 0, 0, 0⟩),
 (335, ⟨p335, f335.ntmps, f335.results.toList, kF, false, 0, 0, 0⟩),
 (336, ⟨p336, f336.ntmps, f336.results.toList, kF, false, 0, 0, 0⟩),
 (337, ⟨p337, f337.ntmps, f337.results.toList, kF, false, 0, 0, 0⟩),
 (347, ⟨p347, f347.ntmps, f347.results.toList, kF, false, 0, 0, 0⟩),
 (348, ⟨p348, f348.ntmps, f348.results.toList, kF, false, 0, 0, 0⟩),
 (349, ⟨p349, f349.ntmps, f349.results.toList, kF, false, 0, 0, 0⟩),
 (350, ⟨p350, f350.ntmps, f350.results.toList, kF, false, 0, 0, 0⟩),
 (351, ⟨p351, f351.ntmps, f351.results.toList, kF, false, 0, 0, 0⟩),
 (352, ⟨p352, f352.ntmps, f352.results.toList, kF, false, 0, 0, 0⟩),
 (353, ⟨p353, f353.ntmps, f353.results.toList, kF, false, 0, 0, 0⟩),
 (354, ⟨p354, f354.ntmps, f354.results.toList, kF, false, 0, 0, 0⟩),
 (355, ⟨p355, f355.ntmps, f355.results.toList, kF, false, 0, 0, 0⟩),
 (357, ⟨p357, f357.ntmps, f357.results.toList, kF, false, 0, 0, 0⟩),
 (361, ⟨p361, f361.ntmps, f361.results.toList, kF, false, 0, 0, 0⟩),
 (363, ⟨p363, f363.ntmps, f363.results.toList, kF, false, 0, 0, 0⟩),
 (364, ⟨p364, f364.ntmps, f364.results.toList, kF, false, 0, 0, 0⟩),
 (365, ⟨p365, f365.ntmps, f365.results.toList, kF, false, 0, 0, 0⟩),
 (370, ⟨p370, f370.ntmps, f370.results.toList, kF, false, 0, 0, 0⟩),
 (379, ⟨p379, f379.ntmps, f379.results.toList, kF, false, 0, 0, 0⟩),
 (383, ⟨p383, f383.ntmps, f383.results.toList, kF, false, 0, 0, 0⟩),
 (384, ⟨p384, f384.ntmps, f384.results.toList, kF, false, 0, 0, 0⟩),
 (385, ⟨p385, f385.ntmps, f385.results.toList, kF, false, 0, 0, 0⟩),
 (386, ⟨p386, f386.ntmps, f386.results.toList, kF, false, 0, 0, 0⟩),
 (387, ⟨p387, f387.ntmps, f387.results.toList, kF, false, 0, 0, 0⟩),
 (388, ⟨p388, f388.ntmps, f388.results.toList, kF, false, 0, 0, 0⟩),
 (389, ⟨p389, f389.ntmps, f389.results.toList, kF, false, 0, 0, 0⟩),
 (390, ⟨p390, f390.ntmps, f390.results.toList, kF, false, 0, 0, 0⟩),
 (391, ⟨p391, f391.ntmps, f391.results.toList, kF, false, 0, 0, 0⟩),
 (392, ⟨p392, f392.ntmps, f392.results.toList, kF, false, 0, 0, 0⟩),
 (393, ⟨p393, f393.ntmps, f393.results.toList, kF, false, 0, 0, 0⟩),
 (394, ⟨p394, f394.ntmps, f394.results.toList, kF, false, 0, 0, 0⟩),
 (395, ⟨p395, f395.ntmps, f395.results.toList, kF, false, 0, 0, 0⟩),
 (396, ⟨p396, f396.ntmps, f396.results.toList, kF, false, 0, 0, 0⟩),
 (397, ⟨p397, f397.ntmps, f397.results.toList, kF, false, 0, 0, 0⟩),
 (398, ⟨p398, f398.ntmps, f398.results.toList, kF, false, 0, 0, 0⟩),
 (405, ⟨p405, f405.ntmps, f405.results.toList, kF, false, 0, 0, 0⟩),
 (406, ⟨p406, f406.ntmps, f406.results.toList, kF, false, 0, 0, 0⟩),
 (407, ⟨p407, f407.ntmps, f407.results.toList, kF, false, 0, 0, 0⟩),
 (408, ⟨p408, f408.ntmps, f408.results.toList, kF, false, 0, 0, 0⟩),
 (409, ⟨p409, f409.ntmps, f409.results.toList, kF, false, 0, 0, 0⟩),
 (410, ⟨p410, f410.ntmps, f410.results.toList, kF, false, 0, 0, 0⟩),
 (411, ⟨p411, f411.ntmps, f411.results.toList, kF, false, 0, 0, 0⟩),
 (412, ⟨p412, f412.ntmps, f412.results.toList, kF, false, 0, 0, 0⟩),
 (413, ⟨p413, f413.ntmps, f413.results.toList, kF, false, 0, 0, 0⟩),
 (414, ⟨p414, f414.ntmps, f414.results.toList, kF, false, 0, 0, 0⟩),
 (415, ⟨p415, f415.ntmps, f415.results.toList, kF, false, 0, 0, 0⟩),
 (417, ⟨p417, f417.ntmps, f417.results.toList, kF, false, 0, 0, 0⟩),
 (418, ⟨p418, f418.ntmps, f418.results.toList, kF, false, 0, 0, 0⟩),
 (419, ⟨p419, f419.ntmps, f419.results.toList, kF, false, 0, 0, 0⟩),
 (421, ⟨p421, f421.ntmps, f421.results.toList, kF, false, 0, 0, 0⟩),
 (422, ⟨p422, f422.ntmps, f422.results.toList, kF, false, 0, 0, 0⟩),
 (424, ⟨p424, f424.ntmps, f424.results.toList, kF, false, 0, 0, 0⟩),
 (425, ⟨p425, f425.ntmps, f425.results.toList, kF, false, 0, 0, 0⟩)]
theorem tabG : AllG prog tabL := ⟨gdF func3 c3 (by kernel_rfl) rfl,
 gdF func4 c4 (by kernel_rfl) rfl,
 gdF func5 c5 (by kernel_rfl) rfl,
 gdF func6 c6 (by kernel_rfl) rfl,
 gdF func7 c7 (by kernel_rfl) rfl,
 gdF func8 c8 (by kernel_rfl) rfl,
 gdF func9 c9 (by kernel_rfl) rfl,
 gdF func10 c10 (by kernel_rfl) rfl,
 gdF func11 c11 (by kernel_rfl) rfl,
 gdF func12 c12 (by kernel_rfl) rfl,
 gdF func13 c13 (by kernel_rfl) rfl,
 gdF func14 c14 (by kernel_rfl) rfl,
 gdF func15 c15 (by kernel_rfl) rfl,
 gdF func16 c16 (by kernel_rfl) rfl,
 gdF func17 c17 (by kernel_rfl) rfl,
 gdF func18 c18 (by kernel_rfl) rfl,
 gdF func19 c19 (by kernel_rfl) rfl,
 gdC func20 (rest := bodyR f20.body) (by kernel_rfl) (by kernel_rfl) (by kernel_rfl) (by kernel_rfl) (by kernel_rfl) (by kernel_rfl),
 gdF func21 c21 (by kernel_rfl) rfl,
 gdF func22 c22 (by kernel_rfl) rfl,
 gdF func23 c23 (by kernel_rfl) rfl,
 gdF func24 c24 (by kernel_rfl) rfl,
 gdF func25 c25 (by kernel_rfl) rfl,
 gdF func26 c26 (by kernel_rfl) rfl,
 gdF func28 c28 (by kernel_rfl) rfl,
 gdF func29 c29 (by kernel_rfl) rfl,
 gdF func30 c30 (by kernel_rfl) rfl,
 gdF func34 c34 (by kernel_rfl) rfl,
 gdF func35 c35 (by kernel_rfl) rfl,
 gdF func36 c36 (by kernel_rfl) rfl,
 gdF func37 c37 (by kernel_rfl) rfl,
 gdF func39 c39 (by kernel_rfl) rfl,
 gdF func40 c40 (by kernel_rfl) rfl,
 gdF func41 c41 (by kernel_rfl) rfl,
 gdF func42 c42 (by kernel_rfl) rfl,
 gdF func43 c43 (by kernel_rfl) rfl,
 gdF func44 c44 (by kernel_rfl) rfl,
 gdF func45 c45 (by kernel_rfl) rfl,
 gdF func46 c46 (by kernel_rfl) rfl,
 gdF func47 c47 (by kernel_rfl) rfl,
 gdF func48 c48 (by kernel_rfl) rfl,
 gdF func49 c49 (by kernel_rfl) rfl,
 gdF func50 c50 (by kernel_rfl) rfl,
 gdF func51 c51 (by kernel_rfl) rfl,
 gdF func52 c52 (by kernel_rfl) rfl,
 gdF func53 c53 (by kernel_rfl) rfl,
 gdF func54 c54 (by kernel_rfl) rfl,
 gdF func55 c55 (by kernel_rfl) rfl,
 gdF func57 c57 (by kernel_rfl) rfl,
 gdF func58 c58 (by kernel_rfl) rfl,
 gdF func59 c59 (by kernel_rfl) rfl,
 gdF func60 c60 (by kernel_rfl) rfl,
 gdF func61 c61 (by kernel_rfl) rfl,
 gdF func62 c62 (by kernel_rfl) rfl,
 gdF func63 c63 (by kernel_rfl) rfl,
 gdF func64 c64 (by kernel_rfl) rfl,
 gdF func65 c65 (by kernel_rfl) rfl,
 gdF func66 c66 (by kernel_rfl) rfl,
 gdF func67 c67 (by kernel_rfl) rfl,
 gdF func68 c68 (by kernel_rfl) rfl,
 gdF func70 c70 (by kernel_rfl) rfl,
 gdF func72 c72 (by kernel_rfl) rfl,
 gdF func74 c74 (by kernel_rfl) rfl,
 gdF func75 c75 (by kernel_rfl) rfl,
 gdF func77 c77 (by kernel_rfl) rfl,
 gdF func80 c80 (by kernel_rfl) rfl,
 gdF func81 c81 (by kernel_rfl) rfl,
 gdF func82 c82 (by kernel_rfl) rfl,
 gdF func83 c83 (by kernel_rfl) rfl,
 gdF func84 c84 (by kernel_rfl) rfl,
 gdF func85 c85 (by kernel_rfl) rfl,
 gdF func86 c86 (by kernel_rfl) rfl,
 gdF func87 c87 (by kernel_rfl) rfl,
 gdF func88 c88 (by kernel_rfl) rfl,
 gdF func89 c89 (by kernel_rfl) rfl,
 gdF func90 c90 (by kernel_rfl) rfl,
 gdF func91 c91 (by kernel_rfl) rfl,
 gdF func92 c92 (by kernel_rfl) rfl,
 gdF func93 c93 (by kernel_rfl) rfl,
 gdF func94 c94 (by kernel_rfl) rfl,
 gdF func95 c95 (by kernel_rfl) rfl,
 gdF func96 c96 (by kernel_rfl) rfl,
 gdF func97 c97 (by kernel_rfl) rfl,
 gdF func100 c100 (by kernel_rfl) rfl,
 gdF func101 c101 (by kernel_rfl) rfl,
 gdF func102 c102 (by kernel_rfl) rfl,
 gdF func103 c103 (by kernel_rfl) rfl,
 gdF func104 c104 (by kernel_rfl) rfl,
 gdF func105 c105 (by kernel_rfl) rfl,
 gdF func106 c106 (by kernel_rfl) rfl,
 gdF func107 c107 (by kernel_rfl) rfl,
 gdF func110 c110 (by kernel_rfl) rfl,
 gdF func111 c111 (by kernel_rfl) rfl,
 gdF func112 c112 (by kernel_rfl) rfl,
 gdC func113 (rest := bodyR f113.body) (by kernel_rfl) (by kernel_rfl) (by kernel_rfl) (by kernel_rfl) (by kernel_rfl) (by kernel_rfl),
 gdF func114 c114 (by kernel_rfl) rfl,
 gdF func115 c115 (by kernel_rfl) rfl,
 gdF func116 c116 (by kernel_rfl) rfl,
 gdF func117 c117 (by kernel_rfl) rfl,
 gdF func118 c118 (by kernel_rfl) rfl,
 gdF func119 c119 (by kernel_rfl) rfl,
 gdF func120 c120 (by kernel_rfl) rfl,
 gdF func121 c121 (by kernel_rfl) rfl,
 gdF func122 c122 (by kernel_rfl) rfl,
 gdF func123 c123 (by kernel_rfl) rfl,
 gdF func125 c125 (by kernel_rfl) rfl,
 gdF func126 c126 (by kernel_rfl) rfl,
 gdF func127 c127 (by kernel_rfl) rfl,
 gdF func128 c128 (by kernel_rfl) rfl,
 gdF func129 c129 (by kernel_rfl) rfl,
 gdF func130 c130 (by kernel_rfl) rfl,
 gdF func131 c131 (by kernel_rfl) rfl,
 gdF func132 c132 (by kernel_rfl) rfl,
 gdF func133 c133 (by kernel_rfl) rfl,
 gdF func134 c134 (by kernel_rfl) rfl,
 gdF func135 c135 (by kernel_rfl) rfl,
 gdF func136 c136 (by kernel_rfl) rfl,
 gdF func137 c137 (by kernel_rfl) rfl,
 gdF func138 c138 (by kernel_rfl) rfl,
 gdF func139 c139 (by kernel_rfl) rfl,
 gdF func140 c140 (by kernel_rfl) rfl,
 gdF func141 c141 (by kernel_rfl) rfl,
 gdF func142 c142 (by kernel_rfl) rfl,
 gdF func143 c143 (by kernel_rfl) rfl,
 gdF func144 c144 (by kernel_rfl) rfl,
 gdF func147 c147 (by kernel_rfl) rfl,
 gdF func148 c148 (by kernel_rfl) rfl,
 gdF func149 c149 (by kernel_rfl) rfl,
 gdF func150 c150 (by kernel_rfl) rfl,
 gdF func151 c151 (by kernel_rfl) rfl,
 gdF func152 c152 (by kernel_rfl) rfl,
 gdF func153 c153 (by kernel_rfl) rfl,
 gdF func154 c154 (by kernel_rfl) rfl,
 gdF func155 c155 (by kernel_rfl) rfl,
 gdF func156 c156 (by kernel_rfl) rfl,
 gdF func158 c158 (by kernel_rfl) rfl,
 gdF func159 c159 (by kernel_rfl) rfl,
 gdF func160 c160 (by kernel_rfl) rfl,
 gdF func161 c161 (by kernel_rfl) rfl,
 gdF func164 c164 (by kernel_rfl) rfl,
 gdF func165 c165 (by kernel_rfl) rfl,
 gdF func166 c166 (by kernel_rfl) rfl,
 gdF func167 c167 (by kernel_rfl) rfl,
 gdF func168 c168 (by kernel_rfl) rfl,
 gdF func169 c169 (by kernel_rfl) rfl,
 gdF func170 c170 (by kernel_rfl) rfl,
 gdF func171 c171 (by kernel_rfl) rfl,
 gdF func172 c172 (by kernel_rfl) rfl,
 gdF func173 c173 (by kernel_rfl) rfl,
 gdF func174 c174 (by kernel_rfl) rfl,
 gdF func175 c175 (by kernel_rfl) rfl,
 gdF func176 c176 (by kernel_rfl) rfl,
 gdF func177 c177 (by kernel_rfl) rfl,
 gdF func178 c178 (by kernel_rfl) rfl,
 gdF func179 c179 (by kernel_rfl) rfl,
 gdF func180 c180 (by kernel_rfl) rfl,
 gdF func181 c181 (by kernel_rfl) rfl,
 gdF func182 c182 (by kernel_rfl) rfl,
 gdF func186 c186 (by kernel_rfl) rfl,
 gdF func187 c187 (by kernel_rfl) rfl,
 gdF func189 c189 (by kernel_rfl) rfl,
 gdF func190 c190 (by kernel_rfl) rfl,
 gdF func191 c191 (by kernel_rfl) rfl,
 gdF func192 c192 (by kernel_rfl) rfl,
 gdF func194 c194 (by kernel_rfl) rfl,
 gdF func197 c197 (by kernel_rfl) rfl,
 gdF func198 c198 (by kernel_rfl) rfl,
 gdF func199 c199 (by kernel_rfl) rfl,
 gdF func200 c200 (by kernel_rfl) rfl,
 gdF func201 c201 (by kernel_rfl) rfl,
 gdF func202 c202 (by kernel_rfl) rfl,
 gdF func203 c203 (by kernel_rfl) rfl,
 gdF func204 c204 (by kernel_rfl) rfl,
 gdF func205 c205 (by kernel_rfl) rfl,
 gdF func206 c206 (by kernel_rfl) rfl,
 gdF func207 c207 (by kernel_rfl) rfl,
 gdF func208 c208 (by kernel_rfl) rfl,
 gdF func209 c209 (by kernel_rfl) rfl,
 gdF func210 c210 (by kernel_rfl) rfl,
 gdF func211 c211 (by kernel_rfl) rfl,
 gdF func212 c212 (by kernel_rfl) rfl,
 gdF func213 c213 (by kernel_rfl) rfl,
 gdF func214 c214 (by kernel_rfl) rfl,
 gdF func215 c215 (by kernel_rfl) rfl,
 gdF func216 c216 (by kernel_rfl) rfl,
 gdF func217 c217 (by kernel_rfl) rfl,
 gdF func218 c218 (by kernel_rfl) rfl,
 gdF func219 c219 (by kernel_rfl) rfl,
 gdF func220 c220 (by kernel_rfl) rfl,
 gdF func221 c221 (by kernel_rfl) rfl,
 gdF func222 c222 (by kernel_rfl) rfl,
 gdF func223 c223 (by kernel_rfl) rfl,
 gdF func224 c224 (by kernel_rfl) rfl,
 gdF func225 c225 (by kernel_rfl) rfl,
 gdF func226 c226 (by kernel_rfl) rfl,
 gdF func227 c227 (by kernel_rfl) rfl,
 gdF func228 c228 (by kernel_rfl) rfl,
 gdF func229 c229 (by kernel_rfl) rfl,
 gdF func230 c230 (by kernel_rfl) rfl,
 gdF func231 c231 (by kernel_rfl) rfl,
 gdF func232 c232 (by kernel_rfl) rfl,
 gdF func233 c233 (by kernel_rfl) rfl,
 gdF func234 c234 (by kernel_rfl) rfl,
 gdF func235 c235 (by kernel_rfl) rfl,
 gdF func237 c237 (by kernel_rfl) rfl,
 gdF func238 c238 (by kernel_rfl) rfl,
 gdF func239 c239 (by kernel_rfl) rfl,
 gdF func240 c240 (by kernel_rfl) rfl,
 gdF func241 c241 (by kernel_rfl) rfl,
 gdF func244 c244 (by kernel_rfl) rfl,
 gdF func246 c246 (by kernel_rfl) rfl,
 gdC func247 (rest := bodyR f247.body) (by kernel_rfl) (by kernel_rfl) (by kernel_rfl) (by kernel_rfl) (by kernel_rfl) (by kernel_rfl),
 gdF func254 c254 (by kernel_rfl) rfl,
 gdF func255 c255 (by kernel_rfl) rfl,
 gdF func256 c256 (by kernel_rfl) rfl,
 gdF func257 c257 (by kernel_rfl) rfl,
 gdF func258 c258 (by kernel_rfl) rfl,
 gdF func259 c259 (by kernel_rfl) rfl,
 gdF func260 c260 (by kernel_rfl) rfl,
 gdF func261 c261 (by kernel_rfl) rfl,
 gdF func262 c262 (by kernel_rfl) rfl,
 gdF func263 c263 (by kernel_rfl) rfl,
 gdF func264 c264 (by kernel_rfl) rfl,
 gdF func269 c269 (by kernel_rfl) rfl,
 gdF func286 c286 (by kernel_rfl) rfl,
 gdF func287 c287 (by kernel_rfl) rfl,
 gdF func288 c288 (by kernel_rfl) rfl,
 gdF func289 c289 (by kernel_rfl) rfl,
 gdF func290 c290 (by kernel_rfl) rfl,
 gdF func291 c291 (by kernel_rfl) rfl,
 gdF func292 c292 (by kernel_rfl) rfl,
 gdF func293 c293 (by kernel_rfl) rfl,
 gdF func294 c294 (by kernel_rfl) rfl,
 gdF func295 c295 (by kernel_rfl) rfl,
 gdF func296 c296 (by kernel_rfl) rfl,
 gdF func297 c297 (by kernel_rfl) rfl,
 gdF func298 c298 (by kernel_rfl) rfl,
 gdF func299 c299 (by kernel_rfl) rfl,
 gdF func300 c300 (by kernel_rfl) rfl,
 gdF func301 c301 (by kernel_rfl) rfl,
 gdF func302 c302 (by kernel_rfl) rfl,
 gdF func303 c303 (by kernel_rfl) rfl,
 gdF func304 c304 (by kernel_rfl) rfl,
 gdF func305 c305 (by kernel_rfl) rfl,
 gdF func306 c306 (by kernel_rfl) rfl,
 gdF func311 c311 (by kernel_rfl) rfl,
 gdF func312 c312 (by kernel_rfl) rfl,
 gdF func313 c313 (by kernel_rfl) rfl,
 gdF func316 c316 (by kernel_rfl) rfl,
 gdF func317 c317 (by kernel_rfl) rfl,
 gdF func318 c318 (by kernel_rfl) rfl,
 gdF func323 c323 (by kernel_rfl) rfl,
 gdF func329 c329 (by kernel_rfl) rfl,
 gdF func330 c330 (by kernel_rfl) rfl,
 gdF func332 c332 (by kernel_rfl) rfl,
 gdF func334 c334 (by kernel_rfl) rfl,
 gdF func335 c335 (by kernel_rfl) rfl,
 gdF func336 c336 (by kernel_rfl) rfl,
 gdF func337 c337 (by kernel_rfl) rfl,
 gdF func347 c347 (by kernel_rfl) rfl,
 gdF func348 c348 (by kernel_rfl) rfl,
 gdF func349 c349 (by kernel_rfl) rfl,
 gdF func350 c350 (by kernel_rfl) rfl,
 gdF func351 c351 (by kernel_rfl) rfl,
 gdF func352 c352 (by kernel_rfl) rfl,
 gdF func353 c353 (by kernel_rfl) rfl,
 gdF func354 c354 (by kernel_rfl) rfl,
 gdF func355 c355 (by kernel_rfl) rfl,
 gdF func357 c357 (by kernel_rfl) rfl,
 gdF func361 c361 (by kernel_rfl) rfl,
 gdF func363 c363 (by kernel_rfl) rfl,
 gdF func364 c364 (by kernel_rfl) rfl,
 gdF func365 c365 (by kernel_rfl) rfl,
 gdF func370 c370 (by kernel_rfl) rfl,
 gdF func379 c379 (by kernel_rfl) rfl,
 gdF func383 c383 (by kernel_rfl) rfl,
 gdF func384 c384 (by kernel_rfl) rfl,
 gdF func385 c385 (by kernel_rfl) rfl,
 gdF func386 c386 (by kernel_rfl) rfl,
 gdF func387 c387 (by kernel_rfl) rfl,
 gdF func388 c388 (by kernel_rfl) rfl,
 gdF func389 c389 (by kernel_rfl) rfl,
 gdF func390 c390 (by kernel_rfl) rfl,
 gdF func391 c391 (by kernel_rfl) rfl,
 gdF func392 c392 (by kernel_rfl) rfl,
 gdF func393 c393 (by kernel_rfl) rfl,
 gdF func394 c394 (by kernel_rfl) rfl,
 gdF func395 c395 (by kernel_rfl) rfl,
 gdF func396 c396 (by kernel_rfl) rfl,
 gdF func397 c397 (by kernel_rfl) rfl,
 gdF func398 c398 (by kernel_rfl) rfl,
 gdF func405 c405 (by kernel_rfl) rfl,
 gdF func406 c406 (by kernel_rfl) rfl,
 gdF func407 c407 (by kernel_rfl) rfl,
 gdF func408 c408 (by kernel_rfl) rfl,
 gdF func409 c409 (by kernel_rfl) rfl,
 gdF func410 c410 (by kernel_rfl) rfl,
 gdF func411 c411 (by kernel_rfl) rfl,
 gdF func412 c412 (by kernel_rfl) rfl,
 gdF func413 c413 (by kernel_rfl) rfl,
 gdF func414 c414 (by kernel_rfl) rfl,
 gdF func415 c415 (by kernel_rfl) rfl,
 gdF func417 c417 (by kernel_rfl) rfl,
 gdF func418 c418 (by kernel_rfl) rfl,
 gdF func419 c419 (by kernel_rfl) rfl,
 gdF func421 c421 (by kernel_rfl) rfl,
 gdF func422 c422 (by kernel_rfl) rfl,
 gdF func424 c424 (by kernel_rfl) rfl,
 gdF func425 c425 (by kernel_rfl) rfl, trivial⟩
theorem tyG : tyL.all (fun p => tyB prog p.1 p.2) = true := by kernel_rfl
theorem eqG : eqL.all (fun p => eqB prog p.1 p.2) = true := by kernel_rfl
end Go.Proofs.Tryz
