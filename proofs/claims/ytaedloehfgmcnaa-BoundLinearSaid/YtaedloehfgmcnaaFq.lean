/- The functions in computed form, printed by a program of ours out of the translation, each with the kernel's word that it is that form. Conditions: none. -/
import Derived.Test.YtaedloehfgmcnaaPa
import Derived.Test.YtaedloehfgmcnaaProg
namespace Go.Proofs.Try
open Go.Psl
def p9l0 : PC :=
  (.seq (.reg [⟨some 196, .binOp .lss 3 (.tmp 195) (.tmp 194) 3, none⟩])
  (.seq (.cond (.tmp 196)
    .skip
    (.exit 0))
  (.seq (.block 1
    (.seq (.reg [⟨some 197, .indexAddr 30 (.tmp 193) (.tmp 195), none⟩,
      ⟨some 198, .load 24 (.tmp 197), none⟩,
      ⟨some 27, .alloc 24, none⟩,
      ⟨none, .store 24 (.tmp 27) (.tmp 198), none⟩])
    (.reg [⟨some 199, .move (.tmp 24), none⟩,
      ⟨some 200, .move (.tmp 199), none⟩,
      ⟨some 201, .load 24 (.tmp 27), some ((some 200), false)⟩,
      ⟨some 202, .move (.tmp 10), some ((some 200), false)⟩,
      ⟨some 203, .call ⟨.value (.func 71), #[(.tmp 201), (.tmp 202)], #[24, 3]⟩, some ((some 200), false)⟩,
      ⟨some 204, .pick (.tmp 200) (.const (.bool true)) (.tmp 203), none⟩,
      ⟨some 24, .assign (.tmp 204), none⟩])))
  (.reg [⟨some 205, .binOp .add 3 (.tmp 195) (.const (.int .i64 1)) 3, none⟩,
    ⟨some 195, .move (.tmp 205), none⟩]))))
def p9l1 : PC :=
  (.seq (.reg [⟨some 209, .binOp .lss 3 (.tmp 208) (.tmp 207) 3, none⟩])
  (.seq (.cond (.tmp 209)
    .skip
    (.exit 2))
  (.seq (.block 3
    (.seq (.reg [⟨some 210, .indexAddr 30 (.tmp 206) (.tmp 208), none⟩,
      ⟨some 211, .load 24 (.tmp 210), none⟩,
      ⟨some 29, .alloc 24, none⟩,
      ⟨none, .store 24 (.tmp 29) (.tmp 211), none⟩])
    (.reg [⟨some 212, .move (.tmp 25), none⟩,
      ⟨some 213, .move (.tmp 212), none⟩,
      ⟨some 214, .load 24 (.tmp 29), some ((some 213), false)⟩,
      ⟨some 215, .move (.tmp 10), some ((some 213), false)⟩,
      ⟨some 216, .call ⟨.value (.func 71), #[(.tmp 214), (.tmp 215)], #[24, 3]⟩, some ((some 213), false)⟩,
      ⟨some 217, .pick (.tmp 213) (.const (.bool true)) (.tmp 216), none⟩,
      ⟨some 25, .assign (.tmp 217), none⟩])))
  (.reg [⟨some 218, .binOp .add 3 (.tmp 208) (.const (.int .i64 1)) 3, none⟩,
    ⟨some 208, .move (.tmp 218), none⟩]))))
def p9 : PC :=
  (.seq (.reg [⟨some 6, .box 24 (.tmp 2), none⟩,
    ⟨some 8, .assign (.const (.bool false)), none⟩])
  (.seq (.reg [⟨some 30, .call ⟨.value (.func 58), #[], #[]⟩, none⟩,
    ⟨some 9, .assign (.tmp 30), none⟩])
  (.seq (.seq (.reg [⟨some 31, .move (.tmp 0), none⟩,
    ⟨some 32, .call ⟨.builtin .len, #[(.tmp 31)], #[22]⟩, none⟩,
    ⟨some 33, .binOp .gtr 3 (.tmp 32) (.const (.int .i64 40)) 3, none⟩,
    ⟨some 34, .move (.tmp 33), none⟩,
    ⟨some 35, .move (.tmp 0), some ((some 34), false)⟩,
    ⟨some 36, .call ⟨.value (.func 27), #[(.tmp 35)], #[22]⟩, some ((some 34), false)⟩,
    ⟨some 37, .binOp .neq 3 (.tmp 36) (.const (.int .i64 0)) 3, some ((some 34), false)⟩,
    ⟨some 38, .pick (.tmp 34) (.const (.bool true)) (.tmp 37), none⟩,
    ⟨some 39, .move (.tmp 38), none⟩,
    ⟨some 40, .load 24 (.tmp 6), some ((some 39), false)⟩,
    ⟨some 41, .call ⟨.value (.func 46), #[(.tmp 40)], #[24]⟩, some ((some 39), false)⟩,
    ⟨some 42, .binOp .neq 25 (.tmp 41) (.const (.int .i64 0)) 25, some ((some 39), false)⟩,
    ⟨some 43, .pick (.tmp 39) (.const (.bool true)) (.tmp 42), none⟩,
    ⟨some 44, .move (.tmp 43), none⟩,
    ⟨some 45, .move (.tmp 9), some ((some 44), false)⟩,
    ⟨some 46, .unOp .not 4 (.tmp 45), some ((some 44), false)⟩,
    ⟨some 47, .pick (.tmp 44) (.const (.bool true)) (.tmp 46), none⟩])
  (.cond (.tmp 47)
    (.seq (.reg [⟨some 48, .move (.tmp 9), none⟩,
      ⟨some 8, .assign (.tmp 48), none⟩])
    .ret)
    .skip))
  (.seq (.draw [0, 1, 3, 7, 0, 0, 32, 96, 240, 496, 1008, 2047, 0, 8191, 16383] [⟨some 49, .move (.tmp 0), none⟩,
    ⟨some 50, .indexAddr 22 (.tmp 49) (.const (.int .i64 0)), none⟩,
    ⟨some 51, .fieldAddr 87 (.tmp 50) 0, none⟩,
    ⟨some 52, .load 3 (.tmp 51), none⟩,
    ⟨some 53, .move (.tmp 0), none⟩,
    ⟨some 54, .move (.tmp 0), none⟩,
    ⟨some 55, .call ⟨.builtin .len, #[(.tmp 54)], #[22]⟩, none⟩,
    ⟨some 56, .binOp .sub 3 (.tmp 55) (.const (.int .i64 1)) 3, none⟩,
    ⟨some 57, .indexAddr 22 (.tmp 53) (.tmp 56), none⟩,
    ⟨some 58, .fieldAddr 87 (.tmp 57) 0, none⟩,
    ⟨some 59, .load 3 (.tmp 58), none⟩,
    ⟨some 60, .call ⟨.value (.func 69), #[(.tmp 52), (.tmp 59)], #[3, 3]⟩, none⟩,
    ⟨some 61, .move (.tmp 3), none⟩]
    [⟨some 62, .call ⟨.value (.func 59), #[(.tmp 60), (.tmp 61)], #[24, 3]⟩, none⟩,
    ⟨some 10, .assign (.tmp 62), none⟩])
  (.seq (.reg [⟨some 64, .move (.tmp 0), none⟩,
    ⟨some 65, .move (.tmp 1), none⟩,
    ⟨some 66, .move (.tmp 10), none⟩,
    ⟨some 67, .call ⟨.value (.func 70), #[(.tmp 64), (.tmp 65), (.tmp 66)], #[22, 84, 3]⟩, none⟩,
    ⟨some 63, .move (.tmp 67), none⟩,
    ⟨some 68, .extract (.tmp 63) 0, none⟩,
    ⟨some 69, .extract (.tmp 63) 1, none⟩,
    ⟨some 11, .assign (.tmp 68), none⟩,
    ⟨some 12, .assign (.tmp 69), none⟩])
  (.seq (.reg [⟨some 71, .move (.tmp 0), none⟩,
    ⟨some 72, .move (.tmp 10), none⟩,
    ⟨some 73, .move (.tmp 10), none⟩,
    ⟨some 74, .call ⟨.value (.func 69), #[(.tmp 72), (.tmp 73)], #[3, 3]⟩, none⟩,
    ⟨some 75, .call ⟨.value (.func 20), #[(.tmp 71), (.tmp 74)], #[22, 24]⟩, none⟩,
    ⟨some 70, .move (.tmp 75), none⟩,
    ⟨some 76, .extract (.tmp 70) 0, none⟩,
    ⟨some 77, .extract (.tmp 70) 1, none⟩,
    ⟨some 13, .alloc 24, none⟩,
    ⟨none, .store 24 (.tmp 13) (.tmp 76), none⟩,
    ⟨some 14, .assign (.tmp 77), none⟩])
  (.seq (.drawW [0, 0, 2, 6, 14, 0, 0, 64, 192, 480, 992, 2016, 4094, 8191, 16383, 32767, 32767, 0, 196607, 524287] [⟨some 79, .move (.tmp 0), none⟩,
    ⟨some 80, .move (.tmp 0), none⟩,
    ⟨some 81, .indexAddr 22 (.tmp 80) (.const (.int .i64 0)), none⟩,
    ⟨some 82, .fieldAddr 87 (.tmp 81) 0, none⟩,
    ⟨some 83, .load 3 (.tmp 82), none⟩,
    ⟨some 84, .move (.tmp 0), none⟩,
    ⟨some 85, .move (.tmp 0), none⟩,
    ⟨some 86, .call ⟨.builtin .len, #[(.tmp 85)], #[22]⟩, none⟩,
    ⟨some 87, .binOp .sub 3 (.tmp 86) (.const (.int .i64 1)) 3, none⟩,
    ⟨some 88, .indexAddr 22 (.tmp 84) (.tmp 87), none⟩,
    ⟨some 89, .fieldAddr 87 (.tmp 88) 0, none⟩,
    ⟨some 90, .load 3 (.tmp 89), none⟩,
    ⟨some 91, .call ⟨.value (.func 69), #[(.tmp 83), (.tmp 90)], #[3, 3]⟩, none⟩,
    ⟨some 92, .call ⟨.value (.func 20), #[(.tmp 79), (.tmp 91)], #[22, 24]⟩, none⟩,
    ⟨some 78, .move (.tmp 92), none⟩,
    ⟨some 93, .extract (.tmp 78) 0, none⟩,
    ⟨some 94, .extract (.tmp 78) 1, none⟩,
    ⟨some 15, .alloc 24, none⟩,
    ⟨none, .store 24 (.tmp 15) (.tmp 93), none⟩]
    [⟨some 16, .assign (.tmp 94), none⟩])
  (.seq (.reg [⟨some 96, .move (.tmp 0), none⟩,
    ⟨some 97, .load 24 (.tmp 6), none⟩,
    ⟨some 98, .call ⟨.value (.func 22), #[(.tmp 96), (.tmp 97)], #[22, 24]⟩, none⟩,
    ⟨some 95, .move (.tmp 98), none⟩,
    ⟨some 99, .extract (.tmp 95) 0, none⟩,
    ⟨some 100, .extract (.tmp 95) 1, none⟩,
    ⟨some 17, .assign (.tmp 99), none⟩,
    ⟨some 18, .assign (.tmp 100), none⟩])
  (.seq (.reg [⟨some 102, .move (.tmp 0), none⟩,
    ⟨some 103, .load 24 (.tmp 6), none⟩,
    ⟨some 104, .call ⟨.value (.func 24), #[(.tmp 102), (.tmp 103)], #[22, 24]⟩, none⟩,
    ⟨some 101, .move (.tmp 104), none⟩,
    ⟨some 105, .extract (.tmp 101) 0, none⟩,
    ⟨some 106, .extract (.tmp 101) 1, none⟩,
    ⟨some 19, .assign (.tmp 105), none⟩,
    ⟨some 20, .assign (.tmp 106), none⟩])
  (.seq (.seq (.reg [⟨some 107, .move (.tmp 14), none⟩,
    ⟨some 108, .binOp .neq 25 (.tmp 107) (.const (.int .i64 0)) 25, none⟩,
    ⟨some 109, .move (.tmp 108), none⟩,
    ⟨some 110, .move (.tmp 16), some ((some 109), false)⟩,
    ⟨some 111, .binOp .neq 25 (.tmp 110) (.const (.int .i64 0)) 25, some ((some 109), false)⟩,
    ⟨some 112, .pick (.tmp 109) (.const (.bool true)) (.tmp 111), none⟩,
    ⟨some 113, .move (.tmp 112), none⟩,
    ⟨some 114, .move (.tmp 18), some ((some 113), false)⟩,
    ⟨some 115, .binOp .neq 25 (.tmp 114) (.const (.int .i64 0)) 25, some ((some 113), false)⟩,
    ⟨some 116, .pick (.tmp 113) (.const (.bool true)) (.tmp 115), none⟩,
    ⟨some 117, .move (.tmp 116), none⟩,
    ⟨some 118, .move (.tmp 20), some ((some 117), false)⟩,
    ⟨some 119, .binOp .neq 25 (.tmp 118) (.const (.int .i64 0)) 25, some ((some 117), false)⟩,
    ⟨some 120, .pick (.tmp 117) (.const (.bool true)) (.tmp 119), none⟩,
    ⟨some 121, .move (.tmp 120), none⟩,
    ⟨some 122, .fieldAddr 24 (.tmp 13) 0, some ((some 121), false)⟩,
    ⟨some 123, .load 3 (.tmp 122), some ((some 121), false)⟩,
    ⟨some 124, .fieldAddr 24 (.tmp 13) 1, some ((some 121), false)⟩,
    ⟨some 125, .load 3 (.tmp 124), some ((some 121), false)⟩,
    ⟨some 126, .binOp .gtr 3 (.tmp 123) (.tmp 125) 3, some ((some 121), false)⟩,
    ⟨some 127, .pick (.tmp 121) (.const (.bool true)) (.tmp 126), none⟩,
    ⟨some 128, .move (.tmp 127), none⟩,
    ⟨some 129, .fieldAddr 24 (.tmp 13) 0, some ((some 128), false)⟩,
    ⟨some 130, .load 3 (.tmp 129), some ((some 128), false)⟩,
    ⟨some 131, .unOp .neg 3 (.tmp 130), some ((some 128), false)⟩,
    ⟨some 132, .fieldAddr 24 (.tmp 13) 1, some ((some 128), false)⟩,
    ⟨some 133, .load 3 (.tmp 132), some ((some 128), false)⟩,
    ⟨some 134, .call ⟨.builtin .max, #[(.tmp 131), (.tmp 133)], #[3, 3]⟩, some ((some 128), false)⟩,
    ⟨some 135, .binOp .gtr 3 (.tmp 134) (.const (.int .i64 1073741824)) 3, some ((some 128), false)⟩,
    ⟨some 136, .pick (.tmp 128) (.const (.bool true)) (.tmp 135), none⟩,
    ⟨some 137, .move (.tmp 136), none⟩,
    ⟨some 138, .move (.tmp 11), some ((some 137), false)⟩,
    ⟨some 139, .fieldAddr 24 (.tmp 13) 0, some ((some 137), false)⟩,
    ⟨some 140, .load 3 (.tmp 139), some ((some 137), false)⟩,
    ⟨some 141, .move (.tmp 12), some ((some 137), false)⟩,
    ⟨some 142, .binOp .mul 3 (.tmp 140) (.tmp 141) 3, some ((some 137), false)⟩,
    ⟨some 143, .binOp .lss 3 (.tmp 138) (.tmp 142) 3, some ((some 137), false)⟩,
    ⟨some 144, .pick (.tmp 137) (.const (.bool true)) (.tmp 143), none⟩,
    ⟨some 145, .move (.tmp 144), none⟩,
    ⟨some 146, .move (.tmp 11), some ((some 145), false)⟩,
    ⟨some 147, .fieldAddr 24 (.tmp 13) 1, some ((some 145), false)⟩,
    ⟨some 148, .load 3 (.tmp 147), some ((some 145), false)⟩,
    ⟨some 149, .move (.tmp 12), some ((some 145), false)⟩,
    ⟨some 150, .binOp .mul 3 (.tmp 148) (.tmp 149) 3, some ((some 145), false)⟩,
    ⟨some 151, .binOp .gtr 3 (.tmp 146) (.tmp 150) 3, some ((some 145), false)⟩,
    ⟨some 152, .pick (.tmp 145) (.const (.bool true)) (.tmp 151), none⟩,
    ⟨some 153, .move (.tmp 152), none⟩,
    ⟨some 154, .load 24 (.tmp 15), some ((some 153), false)⟩,
    ⟨some 155, .fieldAddr 24 (.tmp 13) 0, some ((some 153), false)⟩,
    ⟨some 156, .load 3 (.tmp 155), some ((some 153), false)⟩,
    ⟨some 157, .call ⟨.value (.func 71), #[(.tmp 154), (.tmp 156)], #[24, 3]⟩, some ((some 153), false)⟩,
    ⟨some 158, .unOp .not 4 (.tmp 157), some ((some 153), false)⟩,
    ⟨some 159, .pick (.tmp 153) (.const (.bool true)) (.tmp 158), none⟩,
    ⟨some 160, .move (.tmp 159), none⟩,
    ⟨some 161, .load 24 (.tmp 15), some ((some 160), false)⟩,
    ⟨some 162, .fieldAddr 24 (.tmp 13) 1, some ((some 160), false)⟩,
    ⟨some 163, .load 3 (.tmp 162), some ((some 160), false)⟩,
    ⟨some 164, .call ⟨.value (.func 71), #[(.tmp 161), (.tmp 163)], #[24, 3]⟩, some ((some 160), false)⟩,
    ⟨some 165, .unOp .not 4 (.tmp 164), some ((some 160), false)⟩,
    ⟨some 166, .pick (.tmp 160) (.const (.bool true)) (.tmp 165), none⟩])
  (.cond (.tmp 166)
    (.seq (.reg [⟨some 8, .assign (.const (.bool false)), none⟩])
    .ret)
    .skip))
  (.seq (.draw [0, 1, 3, 0, 8, 24, 7, 127] [⟨some 167, .fieldAddr 24 (.tmp 6) 0, none⟩,
    ⟨some 168, .load 3 (.tmp 167), none⟩,
    ⟨some 169, .call ⟨.builtin .max, #[(.tmp 168), (.const (.int .i64 (-1073741825)))], #[3, 3]⟩, none⟩,
    ⟨some 170, .fieldAddr 24 (.tmp 6) 1, none⟩,
    ⟨some 171, .load 3 (.tmp 170), none⟩,
    ⟨some 172, .call ⟨.builtin .min, #[(.tmp 171), (.const (.int .i64 1073741825))], #[3, 3]⟩, none⟩,
    ⟨some 21, .assign (.tmp 169), none⟩]
    [⟨some 22, .assign (.tmp 172), none⟩])
  (.seq (.reg [⟨some 173, .move (.tmp 21), none⟩,
    ⟨some 174, .binOp .leq 3 (.tmp 173) (.const (.int .i64 1073741825)) 3, none⟩,
    ⟨some 175, .move (.tmp 174), none⟩,
    ⟨some 176, .move (.tmp 22), some ((some 175), true)⟩,
    ⟨some 177, .binOp .geq 3 (.tmp 176) (.const (.int .i64 (-1073741825))) 3, some ((some 175), true)⟩,
    ⟨some 178, .pick (.tmp 175) (.tmp 177) (.const (.bool false)), none⟩,
    ⟨some 179, .move (.tmp 178), none⟩,
    ⟨some 180, .move (.tmp 11), some ((some 179), true)⟩,
    ⟨some 181, .move (.tmp 21), some ((some 179), true)⟩,
    ⟨some 182, .move (.tmp 12), some ((some 179), true)⟩,
    ⟨some 183, .binOp .mul 3 (.tmp 181) (.tmp 182) 3, some ((some 179), true)⟩,
    ⟨some 184, .binOp .geq 3 (.tmp 180) (.tmp 183) 3, some ((some 179), true)⟩,
    ⟨some 185, .pick (.tmp 179) (.tmp 184) (.const (.bool false)), none⟩,
    ⟨some 186, .move (.tmp 185), none⟩,
    ⟨some 187, .move (.tmp 11), some ((some 186), true)⟩,
    ⟨some 188, .move (.tmp 22), some ((some 186), true)⟩,
    ⟨some 189, .move (.tmp 12), some ((some 186), true)⟩,
    ⟨some 190, .binOp .mul 3 (.tmp 188) (.tmp 189) 3, some ((some 186), true)⟩,
    ⟨some 191, .binOp .leq 3 (.tmp 187) (.tmp 190) 3, some ((some 186), true)⟩,
    ⟨some 192, .pick (.tmp 186) (.tmp 191) (.const (.bool false)), none⟩,
    ⟨some 23, .assign (.tmp 192), none⟩])
  (.seq (.reg [⟨some 24, .assign (.const (.bool false)), none⟩,
    ⟨some 25, .assign (.const (.bool false)), none⟩])
  (.seq (.seq (.reg [⟨some 193, .move (.tmp 17), none⟩,
    ⟨some 194, .call ⟨.builtin .len, #[(.tmp 193)], #[30]⟩, none⟩,
    ⟨some 195, .move (.const (.int .i64 0)), none⟩])
  (.block 0
    (.loop p9l0)))
  (.seq (.seq (.reg [⟨some 206, .move (.tmp 19), none⟩,
    ⟨some 207, .call ⟨.builtin .len, #[(.tmp 206)], #[30]⟩, none⟩,
    ⟨some 208, .move (.const (.int .i64 0)), none⟩])
  (.block 2
    (.loop p9l1)))
  (.seq (.reg [⟨some 219, .move (.tmp 9), none⟩,
    ⟨some 220, .move (.tmp 219), none⟩,
    ⟨some 221, .move (.tmp 23), some ((some 220), true)⟩,
    ⟨some 222, .unOp .not 4 (.tmp 221), some ((some 220), true)⟩,
    ⟨some 223, .move (.tmp 222), some ((some 220), true)⟩,
    ⟨some 224, .move (.tmp 24), some ((some 223), false)⟩,
    ⟨some 225, .pick (.tmp 223) (.const (.bool true)) (.tmp 224), some ((some 220), true)⟩,
    ⟨some 226, .pick (.tmp 220) (.tmp 225) (.const (.bool false)), none⟩,
    ⟨some 227, .move (.tmp 226), none⟩,
    ⟨some 228, .move (.tmp 25), some ((some 227), true)⟩,
    ⟨some 229, .unOp .not 4 (.tmp 228), some ((some 227), true)⟩,
    ⟨some 230, .move (.tmp 229), some ((some 227), true)⟩,
    ⟨some 231, .move (.tmp 23), some ((some 230), false)⟩,
    ⟨some 232, .move (.tmp 231), some ((some 230), false)⟩,
    ⟨some 233, .move (.tmp 24), some ((some 232), true)⟩,
    ⟨some 234, .pick (.tmp 232) (.tmp 233) (.const (.bool false)), some ((some 230), false)⟩,
    ⟨some 235, .pick (.tmp 230) (.const (.bool true)) (.tmp 234), some ((some 227), true)⟩,
    ⟨some 236, .pick (.tmp 227) (.tmp 235) (.const (.bool false)), none⟩,
    ⟨some 8, .assign (.tmp 236), none⟩])
  .ret))))))))))))))))
theorem c9 : f9.body.bind (comp f9.ntmps) = some p9 := by kernel_rfl

def p70l0 : PC :=
  (.seq (.seq (.reg [⟨some 13, .move (.tmp 8), none⟩,
    ⟨some 14, .move (.tmp 0), none⟩,
    ⟨some 15, .call ⟨.builtin .len, #[(.tmp 14)], #[22]⟩, none⟩,
    ⟨some 16, .binOp .lss 3 (.tmp 13) (.tmp 15) 3, none⟩])
  (.cond (.tmp 16)
    .skip
    (.exit 0)))
  (.seq (.block 1
    (.seq (.seq (.reg [⟨some 19, .move (.tmp 2), none⟩,
      ⟨some 20, .move (.tmp 0), none⟩,
      ⟨some 21, .move (.tmp 8), none⟩,
      ⟨some 22, .indexAddr 22 (.tmp 20) (.tmp 21), none⟩,
      ⟨some 23, .fieldAddr 87 (.tmp 22) 0, none⟩,
      ⟨some 24, .load 3 (.tmp 23), none⟩,
      ⟨some 25, .binOp .gtr 3 (.tmp 19) (.tmp 24) 3, none⟩])
    (.cond (.tmp 25)
      (.exit 1)
      .skip))
    (.seq (.drawW [0, 0, 2, 7, 15, 0, 0, 96, 224, 0, 0, 1567, 4095] [⟨some 26, .move (.tmp 0), none⟩,
      ⟨some 27, .move (.tmp 8), none⟩,
      ⟨some 28, .binOp .sub 3 (.tmp 27) (.const (.int .i64 1)) 3, none⟩,
      ⟨some 29, .indexAddr 22 (.tmp 26) (.tmp 28), none⟩,
      ⟨some 30, .load 87 (.tmp 29), none⟩,
      ⟨some 31, .move (.tmp 0), none⟩,
      ⟨some 32, .move (.tmp 8), none⟩,
      ⟨some 33, .indexAddr 22 (.tmp 31) (.tmp 32), none⟩,
      ⟨some 34, .load 87 (.tmp 33), none⟩,
      ⟨some 9, .alloc 87, none⟩,
      ⟨some 10, .alloc 87, none⟩,
      ⟨none, .store 87 (.tmp 9) (.tmp 30), none⟩]
      [⟨none, .store 87 (.tmp 10) (.tmp 34), none⟩])
    (.seq (.draw [0, 1, 3, 0, 8, 24, 7, 127] [⟨some 35, .fieldAddr 87 (.tmp 9) 1, none⟩,
      ⟨some 36, .fieldAddr 24 (.tmp 35) 0, none⟩,
      ⟨some 37, .load 3 (.tmp 36), none⟩,
      ⟨some 38, .fieldAddr 87 (.tmp 10) 1, none⟩,
      ⟨some 39, .fieldAddr 24 (.tmp 38) 0, none⟩,
      ⟨some 40, .load 3 (.tmp 39), none⟩,
      ⟨some 11, .assign (.tmp 37), none⟩]
      [⟨some 12, .assign (.tmp 40), none⟩])
    (.seq (.seq (.reg [⟨some 41, .move (.tmp 1), none⟩,
      ⟨some 42, .call ⟨.builtin .len, #[(.tmp 41)], #[84]⟩, none⟩,
      ⟨some 43, .binOp .gtr 3 (.tmp 42) (.const (.int .i64 0)) 3, none⟩])
    (.cond (.tmp 43)
      (.draw [0, 1, 0, 0, 8, 0, 32, 120, 252, 508, 1020, 2047, 0, 4096, 0, 0, 0, 65536, 229376, 507904, 1032192, 2080768, 4194303, 8388607, 16777215] [⟨some 44, .fieldAddr 87 (.tmp 9) 1, none⟩,
        ⟨some 45, .load 24 (.tmp 44), none⟩,
        ⟨some 46, .move (.tmp 1), none⟩,
        ⟨some 47, .move (.tmp 8), none⟩,
        ⟨some 48, .binOp .sub 3 (.tmp 47) (.const (.int .i64 1)) 3, none⟩,
        ⟨some 49, .move (.tmp 1), none⟩,
        ⟨some 50, .call ⟨.builtin .len, #[(.tmp 49)], #[84]⟩, none⟩,
        ⟨some 51, .binOp .rem 3 (.tmp 48) (.tmp 50) 3, none⟩,
        ⟨some 52, .indexAddr 84 (.tmp 46) (.tmp 51), none⟩,
        ⟨some 53, .load 5 (.tmp 52), none⟩,
        ⟨some 54, .convert 5 3 (.tmp 53), none⟩,
        ⟨some 55, .call ⟨.value (.func 59), #[(.tmp 45), (.tmp 54)], #[24, 3]⟩, none⟩,
        ⟨some 56, .fieldAddr 87 (.tmp 10) 1, none⟩,
        ⟨some 57, .load 24 (.tmp 56), none⟩,
        ⟨some 58, .move (.tmp 1), none⟩,
        ⟨some 59, .move (.tmp 8), none⟩,
        ⟨some 60, .move (.tmp 1), none⟩,
        ⟨some 61, .call ⟨.builtin .len, #[(.tmp 60)], #[84]⟩, none⟩,
        ⟨some 62, .binOp .rem 3 (.tmp 59) (.tmp 61) 3, none⟩,
        ⟨some 63, .indexAddr 84 (.tmp 58) (.tmp 62), none⟩,
        ⟨some 64, .load 5 (.tmp 63), none⟩,
        ⟨some 65, .convert 5 3 (.tmp 64), none⟩]
        [⟨some 66, .call ⟨.value (.func 59), #[(.tmp 57), (.tmp 65)], #[24, 3]⟩, none⟩,
        ⟨some 11, .assign (.tmp 55), none⟩,
        ⟨some 12, .assign (.tmp 66), none⟩])
      .skip))
    (.seq (.reg [⟨some 67, .fieldAddr 87 (.tmp 10) 0, none⟩,
      ⟨some 68, .load 3 (.tmp 67), none⟩,
      ⟨some 69, .fieldAddr 87 (.tmp 9) 0, none⟩,
      ⟨some 70, .load 3 (.tmp 69), none⟩,
      ⟨some 71, .binOp .sub 3 (.tmp 68) (.tmp 70) 3, none⟩,
      ⟨some 7, .assign (.tmp 71), none⟩])
    (.seq (.reg [⟨some 72, .move (.tmp 11), none⟩,
      ⟨some 73, .move (.tmp 7), none⟩,
      ⟨some 74, .binOp .mul 3 (.tmp 72) (.tmp 73) 3, none⟩,
      ⟨some 75, .move (.tmp 2), none⟩,
      ⟨some 76, .fieldAddr 87 (.tmp 9) 0, none⟩,
      ⟨some 77, .load 3 (.tmp 76), none⟩,
      ⟨some 78, .binOp .sub 3 (.tmp 75) (.tmp 77) 3, none⟩,
      ⟨some 79, .move (.tmp 12), none⟩,
      ⟨some 80, .move (.tmp 11), none⟩,
      ⟨some 81, .binOp .sub 3 (.tmp 79) (.tmp 80) 3, none⟩,
      ⟨some 82, .binOp .mul 3 (.tmp 78) (.tmp 81) 3, none⟩,
      ⟨some 83, .binOp .add 3 (.tmp 74) (.tmp 82) 3, none⟩,
      ⟨some 84, .move (.tmp 7), none⟩,
      ⟨some 6, .assign (.tmp 83), none⟩,
      ⟨some 7, .assign (.tmp 84), none⟩])
    .ret)))))))
  (.reg [⟨some 17, .move (.tmp 8), none⟩,
    ⟨some 18, .binOp .add 3 (.tmp 17) (.const (.int .i64 1)) 3, none⟩,
    ⟨some 8, .assign (.tmp 18), none⟩])))
def p70 : PC :=
  (.seq (.reg [⟨some 6, .assign (.const (.int .i64 0)), none⟩,
    ⟨some 7, .assign (.const (.int .i64 0)), none⟩])
  (.seq (.seq (.reg [⟨some 8, .assign (.const (.int .i64 1)), none⟩])
  (.block 0
    (.loop p70l0)))
  (.seq (.reg [⟨some 6, .assign (.const (.int .i64 0)), none⟩,
    ⟨some 7, .assign (.const (.int .i64 1)), none⟩])
  .ret)))
theorem c70 : f70.body.bind (comp f70.ntmps) = some p70 := by kernel_rfl

end Go.Proofs.Try
