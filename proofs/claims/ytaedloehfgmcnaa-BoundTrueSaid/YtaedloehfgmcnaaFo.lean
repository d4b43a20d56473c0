/- The functions in computed form, printed by a program of ours out of the translation, each with the kernel's word that it is that form. Conditions: none. -/
import Derived.Test.YtaedloehfgmcnaaPa
import Derived.Test.YtaedloehfgmcnaaProg
namespace Go.Proofs.Try
open Go.Psl
def p7l0 : PC :=
  (.seq (.reg [⟨some 35, .binOp .lss 3 (.tmp 34) (.tmp 33) 3, none⟩])
  (.seq (.cond (.tmp 35)
    .skip
    (.exit 0))
  (.seq (.block 1
    (.seq (.reg [⟨some 36, .indexAddr 30 (.tmp 32) (.tmp 34), none⟩,
      ⟨some 37, .load 24 (.tmp 36), none⟩,
      ⟨some 15, .alloc 24, none⟩,
      ⟨none, .store 24 (.tmp 15) (.tmp 37), none⟩])
    (.seq (.reg [⟨some 38, .load 24 (.tmp 15), none⟩,
      ⟨some 39, .call ⟨.value (.func 46), #[(.tmp 38)], #[24]⟩, none⟩,
      ⟨some 40, .binOp .neq 25 (.tmp 39) (.const (.int .i64 0)) 25, none⟩,
      ⟨some 41, .move (.tmp 40), none⟩,
      ⟨some 42, .fieldAddr 24 (.tmp 15) 1, some ((some 41), false)⟩,
      ⟨some 43, .load 3 (.tmp 42), some ((some 41), false)⟩,
      ⟨some 44, .fieldAddr 24 (.tmp 15) 0, some ((some 41), false)⟩,
      ⟨some 45, .load 3 (.tmp 44), some ((some 41), false)⟩,
      ⟨some 46, .unOp .neg 3 (.tmp 45), some ((some 41), false)⟩,
      ⟨some 47, .call ⟨.builtin .max, #[(.tmp 43), (.tmp 46)], #[3, 3]⟩, some ((some 41), false)⟩,
      ⟨some 48, .binOp .gtr 3 (.tmp 47) (.const (.int .i64 1073741824)) 3, some ((some 41), false)⟩,
      ⟨some 49, .pick (.tmp 41) (.const (.bool true)) (.tmp 48), none⟩])
    (.cond (.tmp 49)
      (.seq (.reg [⟨some 50, .move (.tmp 13), none⟩,
        ⟨some 12, .assign (.tmp 50), none⟩])
      .ret)
      .skip))))
  (.reg [⟨some 51, .binOp .add 3 (.tmp 34) (.const (.int .i64 1)) 3, none⟩,
    ⟨some 34, .move (.tmp 51), none⟩]))))
def p7l1 : PC :=
  (.seq (.reg [⟨some 72, .binOp .lss 3 (.tmp 71) (.const (.int .i64 8)) 3, none⟩])
  (.seq (.cond (.tmp 72)
    .skip
    (.exit 2))
  (.seq (.block 3
    (.seq (.reg [⟨some 73, .move (.tmp 71), none⟩,
      ⟨some 21, .assign (.tmp 73), none⟩])
    (.seq (.draw [0, 1, 0, 4, 0, 16, 3, 79, 255] [⟨some 74, .fieldAddr 24 (.tmp 6) 0, none⟩,
      ⟨some 75, .load 3 (.tmp 74), none⟩,
      ⟨some 76, .fieldAddr 24 (.tmp 7) 0, none⟩,
      ⟨some 77, .load 3 (.tmp 76), none⟩,
      ⟨some 78, .fieldAddr 24 (.tmp 8) 0, none⟩,
      ⟨some 79, .load 3 (.tmp 78), none⟩,
      ⟨some 22, .assign (.tmp 75), none⟩,
      ⟨some 23, .assign (.tmp 77), none⟩]
      [⟨some 24, .assign (.tmp 79), none⟩])
    (.seq (.seq (.reg [⟨some 80, .move (.tmp 21), none⟩,
      ⟨some 81, .binOp .and 3 (.tmp 80) (.const (.int .i64 1)) 3, none⟩,
      ⟨some 82, .binOp .neq 3 (.tmp 81) (.const (.int .i64 0)) 3, none⟩])
    (.cond (.tmp 82)
      (.reg [⟨some 83, .fieldAddr 24 (.tmp 6) 1, none⟩,
        ⟨some 84, .load 3 (.tmp 83), none⟩,
        ⟨some 22, .assign (.tmp 84), none⟩])
      .skip))
    (.seq (.seq (.reg [⟨some 85, .move (.tmp 21), none⟩,
      ⟨some 86, .binOp .and 3 (.tmp 85) (.const (.int .i64 2)) 3, none⟩,
      ⟨some 87, .binOp .neq 3 (.tmp 86) (.const (.int .i64 0)) 3, none⟩])
    (.cond (.tmp 87)
      (.reg [⟨some 88, .fieldAddr 24 (.tmp 7) 1, none⟩,
        ⟨some 89, .load 3 (.tmp 88), none⟩,
        ⟨some 23, .assign (.tmp 89), none⟩])
      .skip))
    (.seq (.seq (.reg [⟨some 90, .move (.tmp 21), none⟩,
      ⟨some 91, .binOp .and 3 (.tmp 90) (.const (.int .i64 4)) 3, none⟩,
      ⟨some 92, .binOp .neq 3 (.tmp 91) (.const (.int .i64 0)) 3, none⟩])
    (.cond (.tmp 92)
      (.reg [⟨some 93, .fieldAddr 24 (.tmp 8) 1, none⟩,
        ⟨some 94, .load 3 (.tmp 93), none⟩,
        ⟨some 24, .assign (.tmp 94), none⟩])
      .skip))
    (.seq (.reg [⟨some 95, .move (.tmp 20), none⟩,
      ⟨some 96, .move (.tmp 95), none⟩,
      ⟨some 97, .move (.tmp 22), some ((some 96), false)⟩,
      ⟨some 98, .move (.tmp 23), some ((some 96), false)⟩,
      ⟨some 99, .binOp .mul 3 (.tmp 97) (.tmp 98) 3, some ((some 96), false)⟩,
      ⟨some 100, .move (.tmp 24), some ((some 96), false)⟩,
      ⟨some 101, .binOp .mul 3 (.tmp 100) (.const (.int .i64 1099511627776)) 3, some ((some 96), false)⟩,
      ⟨some 102, .binOp .gtr 3 (.tmp 99) (.tmp 101) 3, some ((some 96), false)⟩,
      ⟨some 103, .pick (.tmp 96) (.const (.bool true)) (.tmp 102), none⟩,
      ⟨some 104, .move (.tmp 103), none⟩,
      ⟨some 105, .move (.tmp 22), some ((some 104), false)⟩,
      ⟨some 106, .move (.tmp 23), some ((some 104), false)⟩,
      ⟨some 107, .binOp .mul 3 (.tmp 105) (.tmp 106) 3, some ((some 104), false)⟩,
      ⟨some 108, .move (.tmp 24), some ((some 104), false)⟩,
      ⟨some 109, .unOp .neg 3 (.tmp 108), some ((some 104), false)⟩,
      ⟨some 110, .binOp .mul 3 (.tmp 109) (.const (.int .i64 1099511627776)) 3, some ((some 104), false)⟩,
      ⟨some 111, .binOp .lss 3 (.tmp 107) (.tmp 110) 3, some ((some 104), false)⟩,
      ⟨some 112, .pick (.tmp 104) (.const (.bool true)) (.tmp 111), none⟩,
      ⟨some 20, .assign (.tmp 112), none⟩])
    (.draw [0, 1, 3, 3, 15, 3, 35, 99, 3, 483, 1023, 2047, 0, 4099, 12291, 12291, 61443, 12291, 143363, 405507, 12291, 1978371, 4190211, 8384515, 16383, 33554431] [⟨some 113, .move (.tmp 18), none⟩,
      ⟨some 114, .move (.tmp 113), none⟩,
      ⟨some 115, .move (.tmp 22), some ((some 114), false)⟩,
      ⟨some 116, .move (.tmp 23), some ((some 114), false)⟩,
      ⟨some 117, .binOp .mul 3 (.tmp 115) (.tmp 116) 3, some ((some 114), false)⟩,
      ⟨some 118, .fieldAddr 24 (.tmp 16) 0, some ((some 114), false)⟩,
      ⟨some 119, .load 3 (.tmp 118), some ((some 114), false)⟩,
      ⟨some 120, .binOp .add 3 (.tmp 119) (.const (.int .i64 1)) 3, some ((some 114), false)⟩,
      ⟨some 121, .move (.tmp 24), some ((some 114), false)⟩,
      ⟨some 122, .binOp .mul 3 (.tmp 120) (.tmp 121) 3, some ((some 114), false)⟩,
      ⟨some 123, .binOp .lss 3 (.tmp 117) (.tmp 122) 3, some ((some 114), false)⟩,
      ⟨some 124, .pick (.tmp 114) (.const (.bool true)) (.tmp 123), none⟩,
      ⟨some 125, .move (.tmp 19), none⟩,
      ⟨some 126, .move (.tmp 125), none⟩,
      ⟨some 127, .move (.tmp 22), some ((some 126), false)⟩,
      ⟨some 128, .move (.tmp 23), some ((some 126), false)⟩,
      ⟨some 129, .binOp .mul 3 (.tmp 127) (.tmp 128) 3, some ((some 126), false)⟩,
      ⟨some 130, .fieldAddr 24 (.tmp 16) 1, some ((some 126), false)⟩,
      ⟨some 131, .load 3 (.tmp 130), some ((some 126), false)⟩,
      ⟨some 132, .binOp .sub 3 (.tmp 131) (.const (.int .i64 1)) 3, some ((some 126), false)⟩,
      ⟨some 133, .move (.tmp 24), some ((some 126), false)⟩,
      ⟨some 134, .binOp .mul 3 (.tmp 132) (.tmp 133) 3, some ((some 126), false)⟩,
      ⟨some 135, .binOp .gtr 3 (.tmp 129) (.tmp 134) 3, some ((some 126), false)⟩,
      ⟨some 136, .pick (.tmp 126) (.const (.bool true)) (.tmp 135), none⟩,
      ⟨some 18, .assign (.tmp 124), none⟩]
      [⟨some 19, .assign (.tmp 136), none⟩]))))))))
  (.reg [⟨some 137, .binOp .add 3 (.tmp 71) (.const (.int .i64 1)) 3, none⟩,
    ⟨some 71, .move (.tmp 137), none⟩]))))
def p7 : PC :=
  (.seq (.reg [⟨some 6, .box 24 (.tmp 0), none⟩,
    ⟨some 7, .box 24 (.tmp 1), none⟩,
    ⟨some 8, .box 24 (.tmp 2), none⟩,
    ⟨some 12, .assign (.const (.bool false)), none⟩])
  (.seq (.reg [⟨some 28, .call ⟨.value (.func 58), #[], #[]⟩, none⟩,
    ⟨some 13, .assign (.tmp 28), none⟩])
  (.seq (.seq (.reg [⟨some 29, .load 24 (.tmp 6), none⟩,
    ⟨some 30, .load 24 (.tmp 7), none⟩,
    ⟨some 31, .load 24 (.tmp 8), none⟩,
    ⟨some 32, .buildSlice 30 3 #[(0, (.tmp 29)), (1, (.tmp 30)), (2, (.tmp 31))], none⟩,
    ⟨some 33, .call ⟨.builtin .len, #[(.tmp 32)], #[30]⟩, none⟩,
    ⟨some 34, .move (.const (.int .i64 0)), none⟩])
  (.block 0
    (.loop p7l0)))
  (.seq (.reg [⟨some 53, .load 24 (.tmp 6), none⟩,
    ⟨some 54, .load 24 (.tmp 7), none⟩,
    ⟨some 55, .load 24 (.tmp 8), none⟩,
    ⟨some 56, .call ⟨.value (.func 30), #[(.tmp 53), (.tmp 54), (.tmp 55)], #[24, 24, 24]⟩, none⟩,
    ⟨some 52, .move (.tmp 56), none⟩,
    ⟨some 57, .extract (.tmp 52) 0, none⟩,
    ⟨some 58, .extract (.tmp 52) 1, none⟩,
    ⟨some 16, .alloc 24, none⟩,
    ⟨none, .store 24 (.tmp 16) (.tmp 57), none⟩,
    ⟨some 17, .assign (.tmp 58), none⟩])
  (.seq (.seq (.reg [⟨some 59, .fieldAddr 24 (.tmp 8) 0, none⟩,
    ⟨some 60, .load 3 (.tmp 59), none⟩,
    ⟨some 61, .binOp .lss 3 (.tmp 60) (.const (.int .i64 1)) 3, none⟩,
    ⟨some 62, .move (.tmp 61), none⟩,
    ⟨some 63, .move (.tmp 13), some ((some 62), false)⟩,
    ⟨some 64, .unOp .not 4 (.tmp 63), some ((some 62), false)⟩,
    ⟨some 65, .pick (.tmp 62) (.const (.bool true)) (.tmp 64), none⟩])
  (.cond (.tmp 65)
    (.seq (.reg [⟨some 66, .move (.tmp 13), none⟩,
      ⟨some 67, .move (.tmp 66), none⟩,
      ⟨some 68, .move (.tmp 17), some ((some 67), true)⟩,
      ⟨some 69, .binOp .eql 25 (.tmp 68) (.const (.int .i64 12)) 25, some ((some 67), true)⟩,
      ⟨some 70, .pick (.tmp 67) (.tmp 69) (.const (.bool false)), none⟩,
      ⟨some 12, .assign (.tmp 70), none⟩])
    .ret)
    .skip))
  (.seq (.reg [⟨some 18, .assign (.const (.bool false)), none⟩,
    ⟨some 19, .assign (.const (.bool false)), none⟩])
  (.seq (.reg [⟨some 20, .assign (.const (.bool false)), none⟩])
  (.seq (.seq (.reg [⟨some 71, .move (.const (.int .i64 0)), none⟩])
  (.block 2
    (.loop p7l1)))
  (.seq (.seq (.reg [⟨some 138, .fieldAddr 24 (.tmp 8) 1, none⟩,
    ⟨some 139, .load 3 (.tmp 138), none⟩,
    ⟨some 140, .call ⟨.builtin .max, #[(.tmp 139), (.const (.int .i64 1))], #[3, 3]⟩, none⟩,
    ⟨some 141, .binOp .gtr 3 (.tmp 140) (.const (.int .i64 1048576)) 3, none⟩])
  (.cond (.tmp 141)
    (.seq (.reg [⟨some 142, .move (.tmp 13), none⟩,
      ⟨some 143, .move (.tmp 142), none⟩,
      ⟨some 144, .move (.tmp 17), some ((some 143), true)⟩,
      ⟨some 145, .binOp .eql 25 (.tmp 144) (.const (.int .i64 0)) 25, some ((some 143), true)⟩,
      ⟨some 146, .move (.tmp 145), some ((some 143), true)⟩,
      ⟨some 147, .move (.tmp 17), some ((some 146), false)⟩,
      ⟨some 148, .binOp .eql 25 (.tmp 147) (.const (.int .i64 11)) 25, some ((some 146), false)⟩,
      ⟨some 149, .pick (.tmp 146) (.const (.bool true)) (.tmp 148), some ((some 143), true)⟩,
      ⟨some 150, .pick (.tmp 143) (.tmp 149) (.const (.bool false)), none⟩,
      ⟨some 12, .assign (.tmp 150), none⟩])
    .ret)
    .skip))
  (.seq (.seq (.reg [⟨some 151, .move (.tmp 17), none⟩,
    ⟨some 152, .binOp .neq 25 (.tmp 151) (.const (.int .i64 0)) 25, none⟩])
  (.cond (.tmp 152)
    (.seq (.reg [⟨some 153, .move (.tmp 13), none⟩,
      ⟨some 154, .move (.tmp 153), none⟩,
      ⟨some 155, .move (.tmp 17), some ((some 154), true)⟩,
      ⟨some 156, .binOp .eql 25 (.tmp 155) (.const (.int .i64 11)) 25, some ((some 154), true)⟩,
      ⟨some 157, .pick (.tmp 154) (.tmp 156) (.const (.bool false)), none⟩,
      ⟨some 158, .move (.tmp 157), none⟩,
      ⟨some 159, .move (.tmp 20), some ((some 158), true)⟩,
      ⟨some 160, .pick (.tmp 158) (.tmp 159) (.const (.bool false)), none⟩,
      ⟨some 12, .assign (.tmp 160), none⟩])
    .ret)
    .skip))
  (.seq (.draw [0, 0, 3, 0, 0, 31, 0, 0, 255, 511, 1023, 2047] [⟨some 161, .load 24 (.tmp 6), none⟩,
    ⟨some 162, .move (.tmp 3), none⟩,
    ⟨some 163, .call ⟨.value (.func 59), #[(.tmp 161), (.tmp 162)], #[24, 3]⟩, none⟩,
    ⟨some 164, .load 24 (.tmp 7), none⟩,
    ⟨some 165, .move (.tmp 4), none⟩,
    ⟨some 166, .call ⟨.value (.func 59), #[(.tmp 164), (.tmp 165)], #[24, 3]⟩, none⟩,
    ⟨some 167, .load 24 (.tmp 8), none⟩,
    ⟨some 168, .move (.tmp 5), none⟩]
    [⟨some 169, .call ⟨.value (.func 59), #[(.tmp 167), (.tmp 168)], #[24, 3]⟩, none⟩,
    ⟨some 25, .assign (.tmp 163), none⟩,
    ⟨some 26, .assign (.tmp 166), none⟩,
    ⟨some 27, .assign (.tmp 169), none⟩])
  (.seq (.reg [⟨some 170, .move (.tmp 13), none⟩,
    ⟨some 171, .move (.tmp 170), none⟩,
    ⟨some 172, .move (.tmp 20), some ((some 171), true)⟩,
    ⟨some 173, .unOp .not 4 (.tmp 172), some ((some 171), true)⟩,
    ⟨some 174, .pick (.tmp 171) (.tmp 173) (.const (.bool false)), none⟩,
    ⟨some 175, .move (.tmp 174), none⟩,
    ⟨some 176, .move (.tmp 18), some ((some 175), true)⟩,
    ⟨some 177, .pick (.tmp 175) (.tmp 176) (.const (.bool false)), none⟩,
    ⟨some 178, .move (.tmp 177), none⟩,
    ⟨some 179, .move (.tmp 19), some ((some 178), true)⟩,
    ⟨some 180, .pick (.tmp 178) (.tmp 179) (.const (.bool false)), none⟩,
    ⟨some 181, .move (.tmp 180), none⟩,
    ⟨some 182, .move (.tmp 25), some ((some 181), true)⟩,
    ⟨some 183, .move (.tmp 26), some ((some 181), true)⟩,
    ⟨some 184, .binOp .mul 3 (.tmp 182) (.tmp 183) 3, some ((some 181), true)⟩,
    ⟨some 185, .fieldAddr 24 (.tmp 16) 0, some ((some 181), true)⟩,
    ⟨some 186, .load 3 (.tmp 185), some ((some 181), true)⟩,
    ⟨some 187, .move (.tmp 27), some ((some 181), true)⟩,
    ⟨some 188, .binOp .mul 3 (.tmp 186) (.tmp 187) 3, some ((some 181), true)⟩,
    ⟨some 189, .binOp .geq 3 (.tmp 184) (.tmp 188) 3, some ((some 181), true)⟩,
    ⟨some 190, .pick (.tmp 181) (.tmp 189) (.const (.bool false)), none⟩,
    ⟨some 191, .move (.tmp 190), none⟩,
    ⟨some 192, .move (.tmp 25), some ((some 191), true)⟩,
    ⟨some 193, .move (.tmp 26), some ((some 191), true)⟩,
    ⟨some 194, .binOp .mul 3 (.tmp 192) (.tmp 193) 3, some ((some 191), true)⟩,
    ⟨some 195, .fieldAddr 24 (.tmp 16) 1, some ((some 191), true)⟩,
    ⟨some 196, .load 3 (.tmp 195), some ((some 191), true)⟩,
    ⟨some 197, .move (.tmp 27), some ((some 191), true)⟩,
    ⟨some 198, .binOp .mul 3 (.tmp 196) (.tmp 197) 3, some ((some 191), true)⟩,
    ⟨some 199, .binOp .leq 3 (.tmp 194) (.tmp 198) 3, some ((some 191), true)⟩,
    ⟨some 200, .pick (.tmp 191) (.tmp 199) (.const (.bool false)), none⟩,
    ⟨some 12, .assign (.tmp 200), none⟩])
  .ret))))))))))))
theorem c7 : f7.body.bind (comp f7.ntmps) = some p7 := by kernel_rfl

def p8 : PC :=
  (.seq (.reg [⟨some 8, .assign (.const (.bool false)), none⟩])
  (.seq (.seq (.reg [⟨some 26, .move (.tmp 0), none⟩,
    ⟨some 27, .call ⟨.value (.func 48), #[(.tmp 26)], #[54]⟩, none⟩,
    ⟨some 28, .move (.tmp 27), none⟩,
    ⟨some 29, .move (.tmp 1), some ((some 28), false)⟩,
    ⟨some 30, .call ⟨.value (.func 48), #[(.tmp 29)], #[54]⟩, some ((some 28), false)⟩,
    ⟨some 31, .pick (.tmp 28) (.const (.bool true)) (.tmp 30), none⟩])
  (.cond (.tmp 31)
    (.seq (.reg [⟨some 8, .assign (.const (.bool true)), none⟩])
    .ret)
    .skip))
  (.seq (.reg [⟨some 33, .move (.tmp 0), none⟩,
    ⟨some 34, .move (.tmp 2), none⟩,
    ⟨some 35, .move (.tmp 3), none⟩,
    ⟨some 36, .call ⟨.value (.func 60), #[(.tmp 33), (.tmp 34), (.tmp 35)], #[54, 3, 3]⟩, none⟩,
    ⟨some 32, .move (.tmp 36), none⟩,
    ⟨some 37, .extract (.tmp 32) 0, none⟩,
    ⟨some 38, .extract (.tmp 32) 1, none⟩,
    ⟨some 9, .assign (.tmp 37), none⟩,
    ⟨some 10, .assign (.tmp 38), none⟩])
  (.seq (.reg [⟨some 40, .move (.tmp 0), none⟩,
    ⟨some 41, .move (.tmp 2), none⟩,
    ⟨some 42, .move (.tmp 3), none⟩,
    ⟨some 43, .call ⟨.value (.func 61), #[(.tmp 40), (.tmp 41), (.tmp 42)], #[54, 3, 3]⟩, none⟩,
    ⟨some 39, .move (.tmp 43), none⟩,
    ⟨some 44, .extract (.tmp 39) 0, none⟩,
    ⟨some 45, .extract (.tmp 39) 1, none⟩,
    ⟨some 11, .assign (.tmp 44), none⟩,
    ⟨some 12, .assign (.tmp 45), none⟩])
  (.seq (.reg [⟨some 47, .move (.tmp 0), none⟩,
    ⟨some 48, .move (.tmp 1), none⟩,
    ⟨some 49, .call ⟨.value (.func 62), #[(.tmp 47), (.tmp 48)], #[54, 54]⟩, none⟩,
    ⟨some 46, .move (.tmp 49), none⟩,
    ⟨some 50, .extract (.tmp 46) 0, none⟩,
    ⟨some 51, .extract (.tmp 46) 1, none⟩,
    ⟨some 13, .assign (.tmp 50), none⟩,
    ⟨some 14, .assign (.tmp 51), none⟩])
  (.seq (.reg [⟨some 53, .move (.tmp 0), none⟩,
    ⟨some 54, .move (.tmp 1), none⟩,
    ⟨some 55, .call ⟨.value (.func 63), #[(.tmp 53), (.tmp 54)], #[54, 54]⟩, none⟩,
    ⟨some 52, .move (.tmp 55), none⟩,
    ⟨some 56, .extract (.tmp 52) 0, none⟩,
    ⟨some 57, .extract (.tmp 52) 1, none⟩,
    ⟨some 15, .assign (.tmp 56), none⟩,
    ⟨some 16, .assign (.tmp 57), none⟩])
  (.seq (.reg [⟨some 59, .move (.tmp 0), none⟩,
    ⟨some 60, .move (.tmp 1), none⟩,
    ⟨some 61, .move (.tmp 2), none⟩,
    ⟨some 62, .move (.tmp 3), none⟩,
    ⟨some 63, .call ⟨.value (.func 64), #[(.tmp 59), (.tmp 60), (.tmp 61), (.tmp 62)], #[54, 54, 3, 3]⟩, none⟩,
    ⟨some 58, .move (.tmp 63), none⟩,
    ⟨some 64, .extract (.tmp 58) 0, none⟩,
    ⟨some 65, .extract (.tmp 58) 1, none⟩,
    ⟨some 17, .assign (.tmp 64), none⟩,
    ⟨some 18, .assign (.tmp 65), none⟩])
  (.seq (.reg [⟨some 67, .move (.tmp 0), none⟩,
    ⟨some 68, .move (.tmp 1), none⟩,
    ⟨some 69, .move (.tmp 2), none⟩,
    ⟨some 70, .move (.tmp 3), none⟩,
    ⟨some 71, .call ⟨.value (.func 65), #[(.tmp 67), (.tmp 68), (.tmp 69), (.tmp 70)], #[54, 54, 3, 3]⟩, none⟩,
    ⟨some 66, .move (.tmp 71), none⟩,
    ⟨some 72, .extract (.tmp 66) 0, none⟩,
    ⟨some 73, .extract (.tmp 66) 1, none⟩,
    ⟨some 19, .assign (.tmp 72), none⟩,
    ⟨some 20, .assign (.tmp 73), none⟩])
  (.seq (.seq (.reg [⟨some 74, .move (.tmp 9), none⟩,
    ⟨some 75, .move (.tmp 11), none⟩,
    ⟨some 76, .binOp .neq 3 (.tmp 74) (.tmp 75) 3, none⟩,
    ⟨some 77, .move (.tmp 76), none⟩,
    ⟨some 78, .move (.tmp 10), some ((some 77), false)⟩,
    ⟨some 79, .move (.tmp 12), some ((some 77), false)⟩,
    ⟨some 80, .binOp .neq 3 (.tmp 78) (.tmp 79) 3, some ((some 77), false)⟩,
    ⟨some 81, .pick (.tmp 77) (.const (.bool true)) (.tmp 80), none⟩,
    ⟨some 82, .move (.tmp 81), none⟩,
    ⟨some 83, .move (.tmp 13), some ((some 82), false)⟩,
    ⟨some 84, .move (.tmp 15), some ((some 82), false)⟩,
    ⟨some 85, .call ⟨.value (.func 57), #[(.tmp 83), (.tmp 84)], #[54, 54]⟩, some ((some 82), false)⟩,
    ⟨some 86, .unOp .not 4 (.tmp 85), some ((some 82), false)⟩,
    ⟨some 87, .pick (.tmp 82) (.const (.bool true)) (.tmp 86), none⟩,
    ⟨some 88, .move (.tmp 87), none⟩,
    ⟨some 89, .move (.tmp 14), some ((some 88), false)⟩,
    ⟨some 90, .move (.tmp 16), some ((some 88), false)⟩,
    ⟨some 91, .binOp .neq 3 (.tmp 89) (.tmp 90) 3, some ((some 88), false)⟩,
    ⟨some 92, .pick (.tmp 88) (.const (.bool true)) (.tmp 91), none⟩,
    ⟨some 93, .move (.tmp 92), none⟩,
    ⟨some 94, .move (.tmp 17), some ((some 93), false)⟩,
    ⟨some 95, .move (.tmp 19), some ((some 93), false)⟩,
    ⟨some 96, .binOp .neq 4 (.tmp 94) (.tmp 95) 4, some ((some 93), false)⟩,
    ⟨some 97, .pick (.tmp 93) (.const (.bool true)) (.tmp 96), none⟩,
    ⟨some 98, .move (.tmp 97), none⟩,
    ⟨some 99, .move (.tmp 18), some ((some 98), false)⟩,
    ⟨some 100, .move (.tmp 20), some ((some 98), false)⟩,
    ⟨some 101, .binOp .neq 3 (.tmp 99) (.tmp 100) 3, some ((some 98), false)⟩,
    ⟨some 102, .pick (.tmp 98) (.const (.bool true)) (.tmp 101), none⟩])
  (.cond (.tmp 102)
    (.seq (.reg [⟨some 8, .assign (.const (.bool false)), none⟩])
    .ret)
    .skip))
  (.seq (.reg [⟨some 104, .move (.tmp 0), none⟩,
    ⟨some 105, .move (.tmp 1), none⟩,
    ⟨some 106, .call ⟨.value (.func 66), #[(.tmp 104), (.tmp 105)], #[54, 54]⟩, none⟩,
    ⟨some 103, .move (.tmp 106), none⟩,
    ⟨some 107, .extract (.tmp 103) 0, none⟩,
    ⟨some 108, .extract (.tmp 103) 1, none⟩,
    ⟨some 109, .extract (.tmp 103) 2, none⟩,
    ⟨some 21, .assign (.tmp 107), none⟩,
    ⟨some 22, .assign (.tmp 108), none⟩,
    ⟨some 23, .assign (.tmp 109), none⟩])
  (.seq (.seq (.reg [⟨some 110, .move (.tmp 0), none⟩,
    ⟨some 111, .call ⟨.value (.func 67), #[(.tmp 110)], #[54]⟩, none⟩,
    ⟨some 112, .unOp .not 4 (.tmp 111), none⟩,
    ⟨some 113, .move (.tmp 112), none⟩,
    ⟨some 114, .move (.tmp 1), some ((some 113), false)⟩,
    ⟨some 115, .call ⟨.value (.func 67), #[(.tmp 114)], #[54]⟩, some ((some 113), false)⟩,
    ⟨some 116, .unOp .not 4 (.tmp 115), some ((some 113), false)⟩,
    ⟨some 117, .pick (.tmp 113) (.const (.bool true)) (.tmp 116), none⟩])
  (.cond (.tmp 117)
    (.seq (.reg [⟨some 118, .move (.tmp 23), none⟩,
      ⟨some 119, .binOp .eql 25 (.tmp 118) (.const (.int .i64 14)) 25, none⟩,
      ⟨some 120, .move (.tmp 119), none⟩,
      ⟨some 121, .move (.tmp 21), some ((some 120), true)⟩,
      ⟨some 122, .binOp .eql 3 (.tmp 121) (.const (.int .i64 0)) 3, some ((some 120), true)⟩,
      ⟨some 123, .pick (.tmp 120) (.tmp 122) (.const (.bool false)), none⟩,
      ⟨some 124, .move (.tmp 123), none⟩,
      ⟨some 125, .move (.tmp 22), some ((some 124), true)⟩,
      ⟨some 126, .binOp .eql 3 (.tmp 125) (.const (.int .i64 0)) 3, some ((some 124), true)⟩,
      ⟨some 127, .pick (.tmp 124) (.tmp 126) (.const (.bool false)), none⟩,
      ⟨some 8, .assign (.tmp 127), none⟩])
    .ret)
    .skip))
  (.seq (.seq (.reg [⟨some 128, .move (.tmp 0), none⟩,
    ⟨some 129, .move (.tmp 1), none⟩,
    ⟨some 130, .call ⟨.value (.func 68), #[(.tmp 128), (.tmp 129)], #[54, 54]⟩, none⟩])
  (.cond (.tmp 130)
    (.seq (.reg [⟨some 131, .move (.tmp 23), none⟩,
      ⟨some 132, .binOp .eql 25 (.tmp 131) (.const (.int .i64 6)) 25, none⟩,
      ⟨some 133, .move (.tmp 132), none⟩,
      ⟨some 134, .move (.tmp 21), some ((some 133), true)⟩,
      ⟨some 135, .binOp .eql 3 (.tmp 134) (.const (.int .i64 0)) 3, some ((some 133), true)⟩,
      ⟨some 136, .pick (.tmp 133) (.tmp 135) (.const (.bool false)), none⟩,
      ⟨some 137, .move (.tmp 136), none⟩,
      ⟨some 138, .move (.tmp 22), some ((some 137), true)⟩,
      ⟨some 139, .binOp .eql 3 (.tmp 138) (.const (.int .i64 0)) 3, some ((some 137), true)⟩,
      ⟨some 140, .pick (.tmp 137) (.tmp 139) (.const (.bool false)), none⟩,
      ⟨some 8, .assign (.tmp 140), none⟩])
    .ret)
    .skip))
  (.seq (.reg [⟨some 142, .move (.tmp 0), none⟩,
    ⟨some 143, .move (.tmp 1), none⟩,
    ⟨some 144, .move (.tmp 21), none⟩,
    ⟨some 145, .move (.tmp 22), none⟩,
    ⟨some 146, .call ⟨.value (.func 65), #[(.tmp 142), (.tmp 143), (.tmp 144), (.tmp 145)], #[54, 54, 3, 3]⟩, none⟩,
    ⟨some 141, .move (.tmp 146), none⟩,
    ⟨some 147, .extract (.tmp 141) 0, none⟩,
    ⟨some 148, .extract (.tmp 141) 1, none⟩,
    ⟨some 24, .assign (.tmp 147), none⟩,
    ⟨some 25, .assign (.tmp 148), none⟩])
  (.seq (.reg [⟨some 149, .move (.tmp 23), none⟩,
    ⟨some 150, .binOp .eql 25 (.tmp 149) (.const (.int .i64 0)) 25, none⟩,
    ⟨some 151, .move (.tmp 150), none⟩,
    ⟨some 152, .move (.tmp 24), some ((some 151), true)⟩,
    ⟨some 153, .pick (.tmp 151) (.tmp 152) (.const (.bool false)), none⟩,
    ⟨some 154, .move (.tmp 153), none⟩,
    ⟨some 155, .move (.tmp 25), some ((some 154), true)⟩,
    ⟨some 156, .binOp .eql 3 (.tmp 155) (.const (.int .i64 0)) 3, some ((some 154), true)⟩,
    ⟨some 157, .pick (.tmp 154) (.tmp 156) (.const (.bool false)), none⟩,
    ⟨some 8, .assign (.tmp 157), none⟩])
  .ret))))))))))))))
theorem c8 : f8.body.bind (comp f8.ntmps) = some p8 := by kernel_rfl

def p12l0 : PC :=
  (.seq (.reg [⟨some 229, .binOp .lss 3 (.tmp 228) (.tmp 227) 3, none⟩])
  (.seq (.cond (.tmp 229)
    .skip
    (.exit 0))
  (.seq (.block 1
    (.seq (.reg [⟨some 230, .indexAddr 94 (.tmp 226) (.tmp 228), none⟩,
      ⟨some 231, .load 3 (.tmp 230), none⟩,
      ⟨some 21, .assign (.tmp 231), none⟩])
    (.draw [0, 1, 3, 3, 11, 31, 63, 0, 131, 387, 387, 1411, 3971, 8067, 511, 32767] [⟨some 232, .move (.tmp 18), none⟩,
      ⟨some 233, .move (.tmp 232), none⟩,
      ⟨some 234, .move (.tmp 21), some ((some 233), false)⟩,
      ⟨some 235, .fieldAddr 24 (.tmp 16) 0, some ((some 233), false)⟩,
      ⟨some 236, .load 3 (.tmp 235), some ((some 233), false)⟩,
      ⟨some 237, .binOp .eql 3 (.tmp 234) (.tmp 236) 3, some ((some 233), false)⟩,
      ⟨some 238, .pick (.tmp 233) (.const (.bool true)) (.tmp 237), none⟩,
      ⟨some 239, .move (.tmp 19), none⟩,
      ⟨some 240, .move (.tmp 239), none⟩,
      ⟨some 241, .move (.tmp 21), some ((some 240), false)⟩,
      ⟨some 242, .fieldAddr 24 (.tmp 16) 1, some ((some 240), false)⟩,
      ⟨some 243, .load 3 (.tmp 242), some ((some 240), false)⟩,
      ⟨some 244, .binOp .eql 3 (.tmp 241) (.tmp 243) 3, some ((some 240), false)⟩,
      ⟨some 245, .pick (.tmp 240) (.const (.bool true)) (.tmp 244), none⟩,
      ⟨some 18, .assign (.tmp 238), none⟩]
      [⟨some 19, .assign (.tmp 245), none⟩])))
  (.reg [⟨some 246, .binOp .add 3 (.tmp 228) (.const (.int .i64 1)) 3, none⟩,
    ⟨some 228, .move (.tmp 246), none⟩]))))
def p12 : PC :=
  (.seq (.reg [⟨some 4, .box 24 (.tmp 0), none⟩,
    ⟨some 5, .box 24 (.tmp 1), none⟩,
    ⟨some 8, .assign (.const (.bool false)), none⟩])
  (.seq (.reg [⟨some 22, .call ⟨.value (.func 58), #[], #[]⟩, none⟩,
    ⟨some 9, .assign (.tmp 22), none⟩])
  (.seq (.seq (.reg [⟨some 23, .load 24 (.tmp 4), none⟩,
    ⟨some 24, .call ⟨.value (.func 46), #[(.tmp 23)], #[24]⟩, none⟩,
    ⟨some 25, .binOp .neq 25 (.tmp 24) (.const (.int .i64 0)) 25, none⟩,
    ⟨some 26, .move (.tmp 25), none⟩,
    ⟨some 27, .load 24 (.tmp 5), some ((some 26), false)⟩,
    ⟨some 28, .call ⟨.value (.func 46), #[(.tmp 27)], #[24]⟩, some ((some 26), false)⟩,
    ⟨some 29, .binOp .neq 25 (.tmp 28) (.const (.int .i64 0)) 25, some ((some 26), false)⟩,
    ⟨some 30, .pick (.tmp 26) (.const (.bool true)) (.tmp 29), none⟩,
    ⟨some 31, .move (.tmp 30), none⟩,
    ⟨some 32, .move (.tmp 9), some ((some 31), false)⟩,
    ⟨some 33, .unOp .not 4 (.tmp 32), some ((some 31), false)⟩,
    ⟨some 34, .pick (.tmp 31) (.const (.bool true)) (.tmp 33), none⟩])
  (.cond (.tmp 34)
    (.seq (.reg [⟨some 35, .move (.tmp 9), none⟩,
      ⟨some 8, .assign (.tmp 35), none⟩])
    .ret)
    .skip))
  (.seq (.draw [0, 0, 3, 0, 0, 31, 63, 127] [⟨some 36, .load 24 (.tmp 4), none⟩,
    ⟨some 37, .move (.tmp 2), none⟩,
    ⟨some 38, .call ⟨.value (.func 59), #[(.tmp 36), (.tmp 37)], #[24, 3]⟩, none⟩,
    ⟨some 39, .load 24 (.tmp 5), none⟩,
    ⟨some 40, .move (.tmp 3), none⟩]
    [⟨some 41, .call ⟨.value (.func 59), #[(.tmp 39), (.tmp 40)], #[24, 3]⟩, none⟩,
    ⟨some 10, .assign (.tmp 38), none⟩,
    ⟨some 11, .assign (.tmp 41), none⟩])
  (.seq (.reg [⟨some 43, .load 24 (.tmp 4), none⟩,
    ⟨some 44, .load 24 (.tmp 5), none⟩,
    ⟨some 45, .call ⟨.value (.func 34), #[(.tmp 43), (.tmp 44)], #[24, 24]⟩, none⟩,
    ⟨some 42, .move (.tmp 45), none⟩,
    ⟨some 46, .extract (.tmp 42) 0, none⟩,
    ⟨some 47, .extract (.tmp 42) 1, none⟩,
    ⟨some 12, .alloc 24, none⟩,
    ⟨none, .store 24 (.tmp 12) (.tmp 46), none⟩,
    ⟨some 13, .assign (.tmp 47), none⟩])
  (.seq (.reg [⟨some 49, .load 24 (.tmp 4), none⟩,
    ⟨some 50, .load 24 (.tmp 5), none⟩,
    ⟨some 51, .call ⟨.value (.func 36), #[(.tmp 49), (.tmp 50)], #[24, 24]⟩, none⟩,
    ⟨some 48, .move (.tmp 51), none⟩,
    ⟨some 52, .extract (.tmp 48) 0, none⟩,
    ⟨some 53, .extract (.tmp 48) 1, none⟩,
    ⟨some 14, .alloc 24, none⟩,
    ⟨none, .store 24 (.tmp 14) (.tmp 52), none⟩,
    ⟨some 15, .assign (.tmp 53), none⟩])
  (.seq (.seq (.reg [⟨some 54, .move (.tmp 13), none⟩,
    ⟨some 55, .binOp .neq 25 (.tmp 54) (.const (.int .i64 0)) 25, none⟩,
    ⟨some 56, .move (.tmp 55), none⟩,
    ⟨some 57, .move (.tmp 13), some ((some 56), true)⟩,
    ⟨some 58, .binOp .neq 25 (.tmp 57) (.const (.int .i64 11)) 25, some ((some 56), true)⟩,
    ⟨some 59, .pick (.tmp 56) (.tmp 58) (.const (.bool false)), none⟩,
    ⟨some 60, .move (.tmp 59), none⟩,
    ⟨some 61, .move (.tmp 15), some ((some 60), false)⟩,
    ⟨some 62, .binOp .neq 25 (.tmp 61) (.const (.int .i64 0)) 25, some ((some 60), false)⟩,
    ⟨some 63, .move (.tmp 62), some ((some 60), false)⟩,
    ⟨some 64, .move (.tmp 15), some ((some 63), true)⟩,
    ⟨some 65, .binOp .neq 25 (.tmp 64) (.const (.int .i64 11)) 25, some ((some 63), true)⟩,
    ⟨some 66, .pick (.tmp 63) (.tmp 65) (.const (.bool false)), some ((some 60), false)⟩,
    ⟨some 67, .pick (.tmp 60) (.const (.bool true)) (.tmp 66), none⟩,
    ⟨some 68, .move (.tmp 67), none⟩,
    ⟨some 69, .move (.tmp 13), some ((some 68), false)⟩,
    ⟨some 70, .binOp .eql 25 (.tmp 69) (.const (.int .i64 0)) 25, some ((some 68), false)⟩,
    ⟨some 71, .move (.tmp 70), some ((some 68), false)⟩,
    ⟨some 72, .load 24 (.tmp 12), some ((some 71), true)⟩,
    ⟨some 73, .move (.tmp 10), some ((some 71), true)⟩,
    ⟨some 74, .move (.tmp 11), some ((some 71), true)⟩,
    ⟨some 75, .binOp .add 3 (.tmp 73) (.tmp 74) 3, some ((some 71), true)⟩,
    ⟨some 76, .call ⟨.value (.func 71), #[(.tmp 72), (.tmp 75)], #[24, 3]⟩, some ((some 71), true)⟩,
    ⟨some 77, .unOp .not 4 (.tmp 76), some ((some 71), true)⟩,
    ⟨some 78, .pick (.tmp 71) (.tmp 77) (.const (.bool false)), some ((some 68), false)⟩,
    ⟨some 79, .pick (.tmp 68) (.const (.bool true)) (.tmp 78), none⟩,
    ⟨some 80, .move (.tmp 79), none⟩,
    ⟨some 81, .move (.tmp 15), some ((some 80), false)⟩,
    ⟨some 82, .binOp .eql 25 (.tmp 81) (.const (.int .i64 0)) 25, some ((some 80), false)⟩,
    ⟨some 83, .move (.tmp 82), some ((some 80), false)⟩,
    ⟨some 84, .load 24 (.tmp 14), some ((some 83), true)⟩,
    ⟨some 85, .move (.tmp 10), some ((some 83), true)⟩,
    ⟨some 86, .move (.tmp 11), some ((some 83), true)⟩,
    ⟨some 87, .binOp .sub 3 (.tmp 85) (.tmp 86) 3, some ((some 83), true)⟩,
    ⟨some 88, .call ⟨.value (.func 71), #[(.tmp 84), (.tmp 87)], #[24, 3]⟩, some ((some 83), true)⟩,
    ⟨some 89, .unOp .not 4 (.tmp 88), some ((some 83), true)⟩,
    ⟨some 90, .pick (.tmp 83) (.tmp 89) (.const (.bool false)), some ((some 80), false)⟩,
    ⟨some 91, .pick (.tmp 80) (.const (.bool true)) (.tmp 90), none⟩])
  (.cond (.tmp 91)
    (.seq (.reg [⟨some 8, .assign (.const (.bool false)), none⟩])
    .ret)
    .skip))
  (.seq (.seq (.draw [0, 1, 3, 7, 7, 23, 7, 71, 247, 7, 519, 7, 2055, 7687, 16375, 32767, 65535, 131071, 262143, 524287, 1048575, 2097151, 2097151, 6291455, 2097151, 18874367, 65011711, 2097151, 136314879, 2097151, 538968063, 2015363071, 4292870143, 8589934591, 17179869183, 34359738367] [⟨some 92, .move (.tmp 13), none⟩,
    ⟨some 93, .binOp .eql 25 (.tmp 92) (.const (.int .i64 0)) 25, none⟩,
    ⟨some 94, .move (.tmp 93), none⟩,
    ⟨some 95, .load 24 (.tmp 12), some ((some 94), true)⟩,
    ⟨some 96, .fieldAddr 24 (.tmp 4) 0, some ((some 94), true)⟩,
    ⟨some 97, .load 3 (.tmp 96), some ((some 94), true)⟩,
    ⟨some 98, .fieldAddr 24 (.tmp 5) 0, some ((some 94), true)⟩,
    ⟨some 99, .load 3 (.tmp 98), some ((some 94), true)⟩,
    ⟨some 100, .binOp .add 3 (.tmp 97) (.tmp 99) 3, some ((some 94), true)⟩,
    ⟨some 101, .fieldAddr 24 (.tmp 4) 1, some ((some 94), true)⟩,
    ⟨some 102, .load 3 (.tmp 101), some ((some 94), true)⟩,
    ⟨some 103, .fieldAddr 24 (.tmp 5) 1, some ((some 94), true)⟩,
    ⟨some 104, .load 3 (.tmp 103), some ((some 94), true)⟩,
    ⟨some 105, .binOp .add 3 (.tmp 102) (.tmp 104) 3, some ((some 94), true)⟩,
    ⟨some 106, .call ⟨.value (.func 69), #[(.tmp 100), (.tmp 105)], #[3, 3]⟩, some ((some 94), true)⟩,
    ⟨some 107, .binOp .neq 24 (.tmp 95) (.tmp 106) 24, some ((some 94), true)⟩,
    ⟨some 108, .pick (.tmp 94) (.tmp 107) (.const (.bool false)), none⟩,
    ⟨some 109, .move (.tmp 108), none⟩,
    ⟨some 110, .move (.tmp 15), some ((some 109), false)⟩,
    ⟨some 111, .binOp .eql 25 (.tmp 110) (.const (.int .i64 0)) 25, some ((some 109), false)⟩,
    ⟨some 112, .move (.tmp 111), some ((some 109), false)⟩,
    ⟨some 113, .load 24 (.tmp 14), some ((some 112), true)⟩,
    ⟨some 114, .fieldAddr 24 (.tmp 4) 0, some ((some 112), true)⟩,
    ⟨some 115, .load 3 (.tmp 114), some ((some 112), true)⟩,
    ⟨some 116, .fieldAddr 24 (.tmp 5) 1, some ((some 112), true)⟩,
    ⟨some 117, .load 3 (.tmp 116), some ((some 112), true)⟩,
    ⟨some 118, .binOp .sub 3 (.tmp 115) (.tmp 117) 3, some ((some 112), true)⟩,
    ⟨some 119, .fieldAddr 24 (.tmp 4) 1, some ((some 112), true)⟩,
    ⟨some 120, .load 3 (.tmp 119), some ((some 112), true)⟩,
    ⟨some 121, .fieldAddr 24 (.tmp 5) 0, some ((some 112), true)⟩,
    ⟨some 122, .load 3 (.tmp 121), some ((some 112), true)⟩,
    ⟨some 123, .binOp .sub 3 (.tmp 120) (.tmp 122) 3, some ((some 112), true)⟩,
    ⟨some 124, .call ⟨.value (.func 69), #[(.tmp 118), (.tmp 123)], #[3, 3]⟩, some ((some 112), true)⟩]
    [⟨some 125, .binOp .neq 24 (.tmp 113) (.tmp 124) 24, some ((some 112), true)⟩,
    ⟨some 126, .pick (.tmp 112) (.tmp 125) (.const (.bool false)), some ((some 109), false)⟩,
    ⟨some 127, .pick (.tmp 109) (.const (.bool true)) (.tmp 126), none⟩])
  (.cond (.tmp 127)
    (.seq (.reg [⟨some 8, .assign (.const (.bool false)), none⟩])
    .ret)
    .skip))
  (.seq (.seq (.reg [⟨some 128, .fieldAddr 24 (.tmp 4) 1, none⟩,
    ⟨some 129, .load 3 (.tmp 128), none⟩,
    ⟨some 130, .fieldAddr 24 (.tmp 4) 0, none⟩,
    ⟨some 131, .load 3 (.tmp 130), none⟩,
    ⟨some 132, .unOp .neg 3 (.tmp 131), none⟩,
    ⟨some 133, .call ⟨.builtin .max, #[(.tmp 129), (.tmp 132)], #[3, 3]⟩, none⟩,
    ⟨some 134, .binOp .gtr 3 (.tmp 133) (.const (.int .i64 1073741824)) 3, none⟩,
    ⟨some 135, .move (.tmp 134), none⟩,
    ⟨some 136, .fieldAddr 24 (.tmp 5) 1, some ((some 135), false)⟩,
    ⟨some 137, .load 3 (.tmp 136), some ((some 135), false)⟩,
    ⟨some 138, .fieldAddr 24 (.tmp 5) 0, some ((some 135), false)⟩,
    ⟨some 139, .load 3 (.tmp 138), some ((some 135), false)⟩,
    ⟨some 140, .unOp .neg 3 (.tmp 139), some ((some 135), false)⟩,
    ⟨some 141, .call ⟨.builtin .max, #[(.tmp 137), (.tmp 140)], #[3, 3]⟩, some ((some 135), false)⟩,
    ⟨some 142, .binOp .gtr 3 (.tmp 141) (.const (.int .i64 1073741824)) 3, some ((some 135), false)⟩,
    ⟨some 143, .pick (.tmp 135) (.const (.bool true)) (.tmp 142), none⟩])
  (.cond (.tmp 143)
    (.seq (.reg [⟨some 144, .move (.tmp 9), none⟩,
      ⟨some 8, .assign (.tmp 144), none⟩])
    .ret)
    .skip))
  (.seq (.reg [⟨some 146, .load 24 (.tmp 4), none⟩,
    ⟨some 147, .load 24 (.tmp 5), none⟩,
    ⟨some 148, .call ⟨.value (.func 38), #[(.tmp 146), (.tmp 147)], #[24, 24]⟩, none⟩,
    ⟨some 145, .move (.tmp 148), none⟩,
    ⟨some 149, .extract (.tmp 145) 0, none⟩,
    ⟨some 150, .extract (.tmp 145) 1, none⟩,
    ⟨some 16, .alloc 24, none⟩,
    ⟨none, .store 24 (.tmp 16) (.tmp 149), none⟩,
    ⟨some 17, .assign (.tmp 150), none⟩])
  (.seq (.seq (.reg [⟨some 151, .move (.tmp 17), none⟩,
    ⟨some 152, .binOp .neq 25 (.tmp 151) (.const (.int .i64 0)) 25, none⟩])
  (.cond (.tmp 152)
    (.seq (.reg [⟨some 153, .move (.tmp 9), none⟩,
      ⟨some 154, .move (.tmp 153), none⟩,
      ⟨some 155, .move (.tmp 17), some ((some 154), true)⟩,
      ⟨some 156, .binOp .eql 25 (.tmp 155) (.const (.int .i64 11)) 25, some ((some 154), true)⟩,
      ⟨some 157, .pick (.tmp 154) (.tmp 156) (.const (.bool false)), none⟩,
      ⟨some 158, .move (.tmp 157), none⟩,
      ⟨some 159, .fieldAddr 24 (.tmp 4) 0, some ((some 158), true)⟩,
      ⟨some 160, .load 3 (.tmp 159), some ((some 158), true)⟩,
      ⟨some 161, .fieldAddr 24 (.tmp 5) 0, some ((some 158), true)⟩,
      ⟨some 162, .load 3 (.tmp 161), some ((some 158), true)⟩,
      ⟨some 163, .binOp .mul 3 (.tmp 160) (.tmp 162) 3, some ((some 158), true)⟩,
      ⟨some 164, .fieldAddr 24 (.tmp 4) 0, some ((some 158), true)⟩,
      ⟨some 165, .load 3 (.tmp 164), some ((some 158), true)⟩,
      ⟨some 166, .fieldAddr 24 (.tmp 5) 1, some ((some 158), true)⟩,
      ⟨some 167, .load 3 (.tmp 166), some ((some 158), true)⟩,
      ⟨some 168, .binOp .mul 3 (.tmp 165) (.tmp 167) 3, some ((some 158), true)⟩,
      ⟨some 169, .fieldAddr 24 (.tmp 4) 1, some ((some 158), true)⟩,
      ⟨some 170, .load 3 (.tmp 169), some ((some 158), true)⟩,
      ⟨some 171, .fieldAddr 24 (.tmp 5) 0, some ((some 158), true)⟩,
      ⟨some 172, .load 3 (.tmp 171), some ((some 158), true)⟩,
      ⟨some 173, .binOp .mul 3 (.tmp 170) (.tmp 172) 3, some ((some 158), true)⟩,
      ⟨some 174, .fieldAddr 24 (.tmp 4) 1, some ((some 158), true)⟩,
      ⟨some 175, .load 3 (.tmp 174), some ((some 158), true)⟩,
      ⟨some 176, .fieldAddr 24 (.tmp 5) 1, some ((some 158), true)⟩,
      ⟨some 177, .load 3 (.tmp 176), some ((some 158), true)⟩,
      ⟨some 178, .binOp .mul 3 (.tmp 175) (.tmp 177) 3, some ((some 158), true)⟩,
      ⟨some 179, .fieldAddr 24 (.tmp 4) 0, some ((some 158), true)⟩,
      ⟨some 180, .load 3 (.tmp 179), some ((some 158), true)⟩,
      ⟨some 181, .unOp .neg 3 (.tmp 180), some ((some 158), true)⟩,
      ⟨some 182, .fieldAddr 24 (.tmp 5) 0, some ((some 158), true)⟩,
      ⟨some 183, .load 3 (.tmp 182), some ((some 158), true)⟩,
      ⟨some 184, .binOp .mul 3 (.tmp 181) (.tmp 183) 3, some ((some 158), true)⟩,
      ⟨some 185, .fieldAddr 24 (.tmp 4) 0, some ((some 158), true)⟩,
      ⟨some 186, .load 3 (.tmp 185), some ((some 158), true)⟩,
      ⟨some 187, .unOp .neg 3 (.tmp 186), some ((some 158), true)⟩,
      ⟨some 188, .fieldAddr 24 (.tmp 5) 1, some ((some 158), true)⟩,
      ⟨some 189, .load 3 (.tmp 188), some ((some 158), true)⟩,
      ⟨some 190, .binOp .mul 3 (.tmp 187) (.tmp 189) 3, some ((some 158), true)⟩,
      ⟨some 191, .fieldAddr 24 (.tmp 4) 1, some ((some 158), true)⟩,
      ⟨some 192, .load 3 (.tmp 191), some ((some 158), true)⟩,
      ⟨some 193, .unOp .neg 3 (.tmp 192), some ((some 158), true)⟩,
      ⟨some 194, .fieldAddr 24 (.tmp 5) 0, some ((some 158), true)⟩,
      ⟨some 195, .load 3 (.tmp 194), some ((some 158), true)⟩,
      ⟨some 196, .binOp .mul 3 (.tmp 193) (.tmp 195) 3, some ((some 158), true)⟩,
      ⟨some 197, .fieldAddr 24 (.tmp 4) 1, some ((some 158), true)⟩,
      ⟨some 198, .load 3 (.tmp 197), some ((some 158), true)⟩,
      ⟨some 199, .unOp .neg 3 (.tmp 198), some ((some 158), true)⟩,
      ⟨some 200, .fieldAddr 24 (.tmp 5) 1, some ((some 158), true)⟩,
      ⟨some 201, .load 3 (.tmp 200), some ((some 158), true)⟩,
      ⟨some 202, .binOp .mul 3 (.tmp 199) (.tmp 201) 3, some ((some 158), true)⟩,
      ⟨some 203, .call ⟨.builtin .max, #[(.tmp 163), (.tmp 168), (.tmp 173), (.tmp 178), (.tmp 184), (.tmp 190), (.tmp 196), (.tmp 202)], #[3, 3, 3, 3, 3, 3, 3, 3]⟩, some ((some 158), true)⟩,
      ⟨some 204, .binOp .gtr 3 (.tmp 203) (.const (.int .i64 1099511627776)) 3, some ((some 158), true)⟩,
      ⟨some 205, .pick (.tmp 158) (.tmp 204) (.const (.bool false)), none⟩,
      ⟨some 8, .assign (.tmp 205), none⟩])
    .ret)
    .skip))
  (.seq (.reg [⟨some 18, .assign (.const (.bool false)), none⟩,
    ⟨some 19, .assign (.const (.bool false)), none⟩])
  (.seq (.seq (.reg [⟨some 206, .fieldAddr 24 (.tmp 4) 0, none⟩,
    ⟨some 207, .load 3 (.tmp 206), none⟩,
    ⟨some 208, .fieldAddr 24 (.tmp 5) 0, none⟩,
    ⟨some 209, .load 3 (.tmp 208), none⟩,
    ⟨some 210, .binOp .mul 3 (.tmp 207) (.tmp 209) 3, none⟩,
    ⟨some 211, .fieldAddr 24 (.tmp 4) 0, none⟩,
    ⟨some 212, .load 3 (.tmp 211), none⟩,
    ⟨some 213, .fieldAddr 24 (.tmp 5) 1, none⟩,
    ⟨some 214, .load 3 (.tmp 213), none⟩,
    ⟨some 215, .binOp .mul 3 (.tmp 212) (.tmp 214) 3, none⟩,
    ⟨some 216, .fieldAddr 24 (.tmp 4) 1, none⟩,
    ⟨some 217, .load 3 (.tmp 216), none⟩,
    ⟨some 218, .fieldAddr 24 (.tmp 5) 0, none⟩,
    ⟨some 219, .load 3 (.tmp 218), none⟩,
    ⟨some 220, .binOp .mul 3 (.tmp 217) (.tmp 219) 3, none⟩,
    ⟨some 221, .fieldAddr 24 (.tmp 4) 1, none⟩,
    ⟨some 222, .load 3 (.tmp 221), none⟩,
    ⟨some 223, .fieldAddr 24 (.tmp 5) 1, none⟩,
    ⟨some 224, .load 3 (.tmp 223), none⟩,
    ⟨some 225, .binOp .mul 3 (.tmp 222) (.tmp 224) 3, none⟩,
    ⟨some 226, .buildSlice 94 4 #[(0, (.tmp 210)), (1, (.tmp 215)), (2, (.tmp 220)), (3, (.tmp 225))], none⟩,
    ⟨some 227, .call ⟨.builtin .len, #[(.tmp 226)], #[94]⟩, none⟩,
    ⟨some 228, .move (.const (.int .i64 0)), none⟩])
  (.block 0
    (.loop p12l0)))
  (.seq (.reg [⟨some 247, .move (.tmp 9), none⟩,
    ⟨some 248, .move (.tmp 247), none⟩,
    ⟨some 249, .load 24 (.tmp 16), some ((some 248), true)⟩,
    ⟨some 250, .move (.tmp 10), some ((some 248), true)⟩,
    ⟨some 251, .move (.tmp 11), some ((some 248), true)⟩,
    ⟨some 252, .binOp .mul 3 (.tmp 250) (.tmp 251) 3, some ((some 248), true)⟩,
    ⟨some 253, .call ⟨.value (.func 71), #[(.tmp 249), (.tmp 252)], #[24, 3]⟩, some ((some 248), true)⟩,
    ⟨some 254, .pick (.tmp 248) (.tmp 253) (.const (.bool false)), none⟩,
    ⟨some 255, .move (.tmp 254), none⟩,
    ⟨some 256, .move (.tmp 18), some ((some 255), true)⟩,
    ⟨some 257, .pick (.tmp 255) (.tmp 256) (.const (.bool false)), none⟩,
    ⟨some 258, .move (.tmp 257), none⟩,
    ⟨some 259, .move (.tmp 19), some ((some 258), true)⟩,
    ⟨some 260, .pick (.tmp 258) (.tmp 259) (.const (.bool false)), none⟩,
    ⟨some 8, .assign (.tmp 260), none⟩])
  .ret))))))))))))))
theorem c12 : f12.body.bind (comp f12.ntmps) = some p12 := by kernel_rfl

def p13 : PC :=
  (.seq (.reg [⟨some 3, .box 24 (.tmp 0), none⟩,
    ⟨some 4, .box 24 (.tmp 1), none⟩,
    ⟨some 6, .assign (.const (.bool false)), none⟩])
  (.seq (.reg [⟨some 19, .call ⟨.value (.func 58), #[], #[]⟩, none⟩,
    ⟨some 7, .assign (.tmp 19), none⟩])
  (.seq (.reg [⟨some 21, .load 24 (.tmp 3), none⟩,
    ⟨some 22, .load 24 (.tmp 4), none⟩,
    ⟨some 23, .call ⟨.value (.func 40), #[(.tmp 21), (.tmp 22)], #[24, 24]⟩, none⟩,
    ⟨some 20, .move (.tmp 23), none⟩,
    ⟨some 24, .extract (.tmp 20) 0, none⟩,
    ⟨some 25, .extract (.tmp 20) 1, none⟩,
    ⟨some 8, .alloc 24, none⟩,
    ⟨none, .store 24 (.tmp 8) (.tmp 24), none⟩,
    ⟨some 9, .assign (.tmp 25), none⟩])
  (.seq (.reg [⟨some 27, .load 24 (.tmp 4), none⟩,
    ⟨some 28, .load 24 (.tmp 3), none⟩,
    ⟨some 29, .call ⟨.value (.func 40), #[(.tmp 27), (.tmp 28)], #[24, 24]⟩, none⟩,
    ⟨some 26, .move (.tmp 29), none⟩,
    ⟨some 30, .extract (.tmp 26) 0, none⟩,
    ⟨some 31, .extract (.tmp 26) 1, none⟩,
    ⟨some 10, .alloc 24, none⟩,
    ⟨none, .store 24 (.tmp 10) (.tmp 30), none⟩,
    ⟨some 11, .assign (.tmp 31), none⟩])
  (.seq (.reg [⟨some 33, .load 24 (.tmp 3), none⟩,
    ⟨some 34, .load 24 (.tmp 4), none⟩,
    ⟨some 35, .call ⟨.value (.func 42), #[(.tmp 33), (.tmp 34)], #[24, 24]⟩, none⟩,
    ⟨some 32, .move (.tmp 35), none⟩,
    ⟨some 36, .extract (.tmp 32) 0, none⟩,
    ⟨some 37, .extract (.tmp 32) 1, none⟩,
    ⟨some 12, .alloc 24, none⟩,
    ⟨none, .store 24 (.tmp 12) (.tmp 36), none⟩,
    ⟨some 13, .assign (.tmp 37), none⟩])
  (.seq (.reg [⟨some 39, .load 24 (.tmp 4), none⟩,
    ⟨some 40, .load 24 (.tmp 3), none⟩,
    ⟨some 41, .call ⟨.value (.func 42), #[(.tmp 39), (.tmp 40)], #[24, 24]⟩, none⟩,
    ⟨some 38, .move (.tmp 41), none⟩,
    ⟨some 42, .extract (.tmp 38) 0, none⟩,
    ⟨some 43, .extract (.tmp 38) 1, none⟩,
    ⟨some 14, .alloc 24, none⟩,
    ⟨none, .store 24 (.tmp 14) (.tmp 42), none⟩,
    ⟨some 15, .assign (.tmp 43), none⟩])
  (.seq (.reg [⟨some 45, .load 24 (.tmp 3), none⟩,
    ⟨some 46, .load 24 (.tmp 4), none⟩,
    ⟨some 47, .call ⟨.value (.func 44), #[(.tmp 45), (.tmp 46)], #[24, 24]⟩, none⟩,
    ⟨some 44, .move (.tmp 47), none⟩,
    ⟨some 48, .extract (.tmp 44) 0, none⟩,
    ⟨some 49, .extract (.tmp 44) 1, none⟩,
    ⟨some 16, .assign (.tmp 48), none⟩,
    ⟨some 17, .assign (.tmp 49), none⟩])
  (.seq (.seq (.reg [⟨some 50, .load 24 (.tmp 3), none⟩,
    ⟨some 51, .call ⟨.value (.func 46), #[(.tmp 50)], #[24]⟩, none⟩,
    ⟨some 52, .binOp .neq 25 (.tmp 51) (.const (.int .i64 0)) 25, none⟩,
    ⟨some 53, .move (.tmp 52), none⟩,
    ⟨some 54, .load 24 (.tmp 4), some ((some 53), false)⟩,
    ⟨some 55, .call ⟨.value (.func 46), #[(.tmp 54)], #[24]⟩, some ((some 53), false)⟩,
    ⟨some 56, .binOp .neq 25 (.tmp 55) (.const (.int .i64 0)) 25, some ((some 53), false)⟩,
    ⟨some 57, .pick (.tmp 53) (.const (.bool true)) (.tmp 56), none⟩])
  (.cond (.tmp 57)
    (.seq (.reg [⟨some 58, .move (.tmp 7), none⟩,
      ⟨some 59, .move (.tmp 58), none⟩,
      ⟨some 60, .move (.tmp 9), some ((some 59), true)⟩,
      ⟨some 61, .binOp .eql 25 (.tmp 60) (.const (.int .i64 10)) 25, some ((some 59), true)⟩,
      ⟨some 62, .pick (.tmp 59) (.tmp 61) (.const (.bool false)), none⟩,
      ⟨some 63, .move (.tmp 62), none⟩,
      ⟨some 64, .move (.tmp 11), some ((some 63), true)⟩,
      ⟨some 65, .move (.tmp 9), some ((some 63), true)⟩,
      ⟨some 66, .binOp .eql 25 (.tmp 64) (.tmp 65) 25, some ((some 63), true)⟩,
      ⟨some 67, .pick (.tmp 63) (.tmp 66) (.const (.bool false)), none⟩,
      ⟨some 68, .move (.tmp 67), none⟩,
      ⟨some 69, .move (.tmp 13), some ((some 68), true)⟩,
      ⟨some 70, .move (.tmp 9), some ((some 68), true)⟩,
      ⟨some 71, .binOp .eql 25 (.tmp 69) (.tmp 70) 25, some ((some 68), true)⟩,
      ⟨some 72, .pick (.tmp 68) (.tmp 71) (.const (.bool false)), none⟩,
      ⟨some 73, .move (.tmp 72), none⟩,
      ⟨some 74, .move (.tmp 15), some ((some 73), true)⟩,
      ⟨some 75, .move (.tmp 9), some ((some 73), true)⟩,
      ⟨some 76, .binOp .eql 25 (.tmp 74) (.tmp 75) 25, some ((some 73), true)⟩,
      ⟨some 77, .pick (.tmp 73) (.tmp 76) (.const (.bool false)), none⟩,
      ⟨some 78, .move (.tmp 77), none⟩,
      ⟨some 79, .move (.tmp 17), some ((some 78), true)⟩,
      ⟨some 80, .move (.tmp 9), some ((some 78), true)⟩,
      ⟨some 81, .binOp .eql 25 (.tmp 79) (.tmp 80) 25, some ((some 78), true)⟩,
      ⟨some 82, .pick (.tmp 78) (.tmp 81) (.const (.bool false)), none⟩,
      ⟨some 6, .assign (.tmp 82), none⟩])
    .ret)
    .skip))
  (.seq (.seq (.reg [⟨some 83, .move (.tmp 11), none⟩,
    ⟨some 84, .move (.tmp 9), none⟩,
    ⟨some 85, .binOp .neq 25 (.tmp 83) (.tmp 84) 25, none⟩,
    ⟨some 86, .move (.tmp 85), none⟩,
    ⟨some 87, .load 24 (.tmp 8), some ((some 86), false)⟩,
    ⟨some 88, .load 24 (.tmp 10), some ((some 86), false)⟩,
    ⟨some 89, .binOp .neq 24 (.tmp 87) (.tmp 88) 24, some ((some 86), false)⟩,
    ⟨some 90, .pick (.tmp 86) (.const (.bool true)) (.tmp 89), none⟩,
    ⟨some 91, .move (.tmp 90), none⟩,
    ⟨some 92, .move (.tmp 13), some ((some 91), false)⟩,
    ⟨some 93, .binOp .neq 25 (.tmp 92) (.const (.int .i64 0)) 25, some ((some 91), false)⟩,
    ⟨some 94, .pick (.tmp 91) (.const (.bool true)) (.tmp 93), none⟩,
    ⟨some 95, .move (.tmp 94), none⟩,
    ⟨some 96, .move (.tmp 15), some ((some 95), false)⟩,
    ⟨some 97, .binOp .neq 25 (.tmp 96) (.const (.int .i64 0)) 25, some ((some 95), false)⟩,
    ⟨some 98, .pick (.tmp 95) (.const (.bool true)) (.tmp 97), none⟩,
    ⟨some 99, .move (.tmp 98), none⟩,
    ⟨some 100, .load 24 (.tmp 12), some ((some 99), false)⟩,
    ⟨some 101, .load 24 (.tmp 14), some ((some 99), false)⟩,
    ⟨some 102, .binOp .neq 24 (.tmp 100) (.tmp 101) 24, some ((some 99), false)⟩,
    ⟨some 103, .pick (.tmp 99) (.const (.bool true)) (.tmp 102), none⟩,
    ⟨some 104, .move (.tmp 103), none⟩,
    ⟨some 105, .move (.tmp 17), some ((some 104), false)⟩,
    ⟨some 106, .binOp .neq 25 (.tmp 105) (.const (.int .i64 0)) 25, some ((some 104), false)⟩,
    ⟨some 107, .pick (.tmp 104) (.const (.bool true)) (.tmp 106), none⟩,
    ⟨some 108, .move (.tmp 107), none⟩,
    ⟨some 109, .move (.tmp 9), some ((some 108), false)⟩,
    ⟨some 110, .binOp .neq 25 (.tmp 109) (.const (.int .i64 0)) 25, some ((some 108), false)⟩,
    ⟨some 111, .move (.tmp 110), some ((some 108), false)⟩,
    ⟨some 112, .move (.tmp 9), some ((some 111), true)⟩,
    ⟨some 113, .binOp .neq 25 (.tmp 112) (.const (.int .i64 6)) 25, some ((some 111), true)⟩,
    ⟨some 114, .pick (.tmp 111) (.tmp 113) (.const (.bool false)), some ((some 108), false)⟩,
    ⟨some 115, .pick (.tmp 108) (.const (.bool true)) (.tmp 114), none⟩])
  (.cond (.tmp 115)
    (.seq (.reg [⟨some 6, .assign (.const (.bool false)), none⟩])
    .ret)
    .skip))
  (.seq (.reg [⟨some 116, .load 24 (.tmp 3), none⟩,
    ⟨some 117, .move (.tmp 2), none⟩,
    ⟨some 118, .call ⟨.value (.func 71), #[(.tmp 116), (.tmp 117)], #[24, 3]⟩, none⟩,
    ⟨some 119, .move (.tmp 118), none⟩,
    ⟨some 120, .load 24 (.tmp 4), some ((some 119), true)⟩,
    ⟨some 121, .move (.tmp 2), some ((some 119), true)⟩,
    ⟨some 122, .call ⟨.value (.func 71), #[(.tmp 120), (.tmp 121)], #[24, 3]⟩, some ((some 119), true)⟩,
    ⟨some 123, .pick (.tmp 119) (.tmp 122) (.const (.bool false)), none⟩,
    ⟨some 18, .assign (.tmp 123), none⟩])
  (.seq (.seq (.reg [⟨some 124, .move (.tmp 18), none⟩,
    ⟨some 125, .move (.tmp 9), none⟩,
    ⟨some 126, .binOp .eql 25 (.tmp 125) (.const (.int .i64 0)) 25, none⟩,
    ⟨some 127, .move (.tmp 126), none⟩,
    ⟨some 128, .load 24 (.tmp 8), some ((some 127), true)⟩,
    ⟨some 129, .move (.tmp 2), some ((some 127), true)⟩,
    ⟨some 130, .call ⟨.value (.func 71), #[(.tmp 128), (.tmp 129)], #[24, 3]⟩, some ((some 127), true)⟩,
    ⟨some 131, .pick (.tmp 127) (.tmp 130) (.const (.bool false)), none⟩,
    ⟨some 132, .binOp .neq 4 (.tmp 124) (.tmp 131) 4, none⟩,
    ⟨some 133, .move (.tmp 132), none⟩,
    ⟨some 134, .load 24 (.tmp 3), some ((some 133), false)⟩,
    ⟨some 135, .move (.tmp 2), some ((some 133), false)⟩,
    ⟨some 136, .call ⟨.value (.func 71), #[(.tmp 134), (.tmp 135)], #[24, 3]⟩, some ((some 133), false)⟩,
    ⟨some 137, .move (.tmp 136), some ((some 133), false)⟩,
    ⟨some 138, .load 24 (.tmp 4), some ((some 137), false)⟩,
    ⟨some 139, .move (.tmp 2), some ((some 137), false)⟩,
    ⟨some 140, .call ⟨.value (.func 71), #[(.tmp 138), (.tmp 139)], #[24, 3]⟩, some ((some 137), false)⟩,
    ⟨some 141, .pick (.tmp 137) (.const (.bool true)) (.tmp 140), some ((some 133), false)⟩,
    ⟨some 142, .move (.tmp 141), some ((some 133), false)⟩,
    ⟨some 143, .load 24 (.tmp 12), some ((some 142), true)⟩,
    ⟨some 144, .move (.tmp 2), some ((some 142), true)⟩,
    ⟨some 145, .call ⟨.value (.func 71), #[(.tmp 143), (.tmp 144)], #[24, 3]⟩, some ((some 142), true)⟩,
    ⟨some 146, .unOp .not 4 (.tmp 145), some ((some 142), true)⟩,
    ⟨some 147, .pick (.tmp 142) (.tmp 146) (.const (.bool false)), some ((some 133), false)⟩,
    ⟨some 148, .pick (.tmp 133) (.const (.bool true)) (.tmp 147), none⟩,
    ⟨some 149, .move (.tmp 148), none⟩,
    ⟨some 150, .fieldAddr 24 (.tmp 12) 0, some ((some 149), false)⟩,
    ⟨some 151, .load 3 (.tmp 150), some ((some 149), false)⟩,
    ⟨some 152, .fieldAddr 24 (.tmp 3) 0, some ((some 149), false)⟩,
    ⟨some 153, .load 3 (.tmp 152), some ((some 149), false)⟩,
    ⟨some 154, .binOp .neq 3 (.tmp 151) (.tmp 153) 3, some ((some 149), false)⟩,
    ⟨some 155, .move (.tmp 154), some ((some 149), false)⟩,
    ⟨some 156, .fieldAddr 24 (.tmp 12) 0, some ((some 155), true)⟩,
    ⟨some 157, .load 3 (.tmp 156), some ((some 155), true)⟩,
    ⟨some 158, .fieldAddr 24 (.tmp 4) 0, some ((some 155), true)⟩,
    ⟨some 159, .load 3 (.tmp 158), some ((some 155), true)⟩,
    ⟨some 160, .binOp .neq 3 (.tmp 157) (.tmp 159) 3, some ((some 155), true)⟩,
    ⟨some 161, .pick (.tmp 155) (.tmp 160) (.const (.bool false)), some ((some 149), false)⟩,
    ⟨some 162, .pick (.tmp 149) (.const (.bool true)) (.tmp 161), none⟩,
    ⟨some 163, .move (.tmp 162), none⟩,
    ⟨some 164, .fieldAddr 24 (.tmp 12) 1, some ((some 163), false)⟩,
    ⟨some 165, .load 3 (.tmp 164), some ((some 163), false)⟩,
    ⟨some 166, .fieldAddr 24 (.tmp 3) 1, some ((some 163), false)⟩,
    ⟨some 167, .load 3 (.tmp 166), some ((some 163), false)⟩,
    ⟨some 168, .binOp .neq 3 (.tmp 165) (.tmp 167) 3, some ((some 163), false)⟩,
    ⟨some 169, .move (.tmp 168), some ((some 163), false)⟩,
    ⟨some 170, .fieldAddr 24 (.tmp 12) 1, some ((some 169), true)⟩,
    ⟨some 171, .load 3 (.tmp 170), some ((some 169), true)⟩,
    ⟨some 172, .fieldAddr 24 (.tmp 4) 1, some ((some 169), true)⟩,
    ⟨some 173, .load 3 (.tmp 172), some ((some 169), true)⟩,
    ⟨some 174, .binOp .neq 3 (.tmp 171) (.tmp 173) 3, some ((some 169), true)⟩,
    ⟨some 175, .pick (.tmp 169) (.tmp 174) (.const (.bool false)), some ((some 163), false)⟩,
    ⟨some 176, .pick (.tmp 163) (.const (.bool true)) (.tmp 175), none⟩])
  (.cond (.tmp 176)
    (.seq (.reg [⟨some 6, .assign (.const (.bool false)), none⟩])
    .ret)
    .skip))
  (.seq (.reg [⟨some 177, .move (.tmp 7), none⟩,
    ⟨some 178, .move (.tmp 177), none⟩,
    ⟨some 179, .move (.tmp 16), some ((some 178), true)⟩,
    ⟨some 180, .load 24 (.tmp 12), some ((some 178), true)⟩,
    ⟨some 181, .load 24 (.tmp 3), some ((some 178), true)⟩,
    ⟨some 182, .binOp .eql 24 (.tmp 180) (.tmp 181) 24, some ((some 178), true)⟩,
    ⟨some 183, .binOp .eql 4 (.tmp 179) (.tmp 182) 4, some ((some 178), true)⟩,
    ⟨some 184, .pick (.tmp 178) (.tmp 183) (.const (.bool false)), none⟩,
    ⟨some 185, .move (.tmp 184), none⟩,
    ⟨some 186, .move (.tmp 16), some ((some 185), true)⟩,
    ⟨some 187, .move (.tmp 9), some ((some 185), true)⟩,
    ⟨some 188, .binOp .eql 25 (.tmp 187) (.const (.int .i64 0)) 25, some ((some 185), true)⟩,
    ⟨some 189, .move (.tmp 188), some ((some 185), true)⟩,
    ⟨some 190, .load 24 (.tmp 8), some ((some 189), true)⟩,
    ⟨some 191, .load 24 (.tmp 4), some ((some 189), true)⟩,
    ⟨some 192, .binOp .eql 24 (.tmp 190) (.tmp 191) 24, some ((some 189), true)⟩,
    ⟨some 193, .pick (.tmp 189) (.tmp 192) (.const (.bool false)), some ((some 185), true)⟩,
    ⟨some 194, .binOp .eql 4 (.tmp 186) (.tmp 193) 4, some ((some 185), true)⟩,
    ⟨some 195, .pick (.tmp 185) (.tmp 194) (.const (.bool false)), none⟩,
    ⟨some 6, .assign (.tmp 195), none⟩])
  .ret))))))))))))
theorem c13 : f13.body.bind (comp f13.ntmps) = some p13 := by kernel_rfl

end Go.Proofs.Try
