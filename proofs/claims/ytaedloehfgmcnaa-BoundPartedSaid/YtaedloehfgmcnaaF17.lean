/- The functions in computed form, printed by a program of ours out of the translation, each with the kernel's word that it is that form. Conditions: none. -/
import Derived.Test.YtaedloehfgmcnaaPa
import Derived.Test.YtaedloehfgmcnaaProg
namespace Go.Proofs.Try
open Go.Psl
def p17 : PC :=
  (.seq (.reg [⟨some 7, .box 56 (.tmp 2), none⟩,
    ⟨some 10, .assign (.const (.bool false)), none⟩])
  (.seq (.reg [⟨some 30, .call ⟨.value (.func 58), #[], #[]⟩, none⟩,
    ⟨some 11, .assign (.tmp 30), none⟩])
  (.seq (.seq (.reg [⟨some 31, .move (.tmp 0), none⟩,
    ⟨some 32, .call ⟨.value (.func 48), #[(.tmp 31)], #[54]⟩, none⟩,
    ⟨some 33, .move (.tmp 32), none⟩,
    ⟨some 34, .move (.tmp 1), some ((some 33), false)⟩,
    ⟨some 35, .call ⟨.value (.func 48), #[(.tmp 34)], #[54]⟩, some ((some 33), false)⟩,
    ⟨some 36, .pick (.tmp 33) (.const (.bool true)) (.tmp 35), none⟩,
    ⟨some 37, .move (.tmp 36), none⟩,
    ⟨some 38, .move (.tmp 11), some ((some 37), false)⟩,
    ⟨some 39, .unOp .not 4 (.tmp 38), some ((some 37), false)⟩,
    ⟨some 40, .pick (.tmp 37) (.const (.bool true)) (.tmp 39), none⟩])
  (.cond (.tmp 40)
    (.seq (.reg [⟨some 41, .move (.tmp 11), none⟩,
      ⟨some 10, .assign (.tmp 41), none⟩])
    .ret)
    .skip))
  (.seq (.reg [⟨some 43, .move (.tmp 0), none⟩,
    ⟨some 44, .move (.tmp 1), none⟩,
    ⟨some 45, .call ⟨.value (.func 66), #[(.tmp 43), (.tmp 44)], #[54, 54]⟩, none⟩,
    ⟨some 42, .move (.tmp 45), none⟩,
    ⟨some 46, .extract (.tmp 42) 0, none⟩,
    ⟨some 47, .extract (.tmp 42) 1, none⟩,
    ⟨some 48, .extract (.tmp 42) 2, none⟩,
    ⟨some 12, .assign (.tmp 46), none⟩,
    ⟨some 13, .assign (.tmp 47), none⟩,
    ⟨some 14, .assign (.tmp 48), none⟩])
  (.seq (.reg [⟨some 50, .move (.tmp 1), none⟩,
    ⟨some 51, .move (.tmp 0), none⟩,
    ⟨some 52, .call ⟨.value (.func 66), #[(.tmp 50), (.tmp 51)], #[54, 54]⟩, none⟩,
    ⟨some 49, .move (.tmp 52), none⟩,
    ⟨some 53, .extract (.tmp 49) 0, none⟩,
    ⟨some 54, .extract (.tmp 49) 1, none⟩,
    ⟨some 55, .extract (.tmp 49) 2, none⟩,
    ⟨some 15, .assign (.tmp 53), none⟩,
    ⟨some 16, .assign (.tmp 54), none⟩,
    ⟨some 17, .assign (.tmp 55), none⟩])
  (.seq (.seq (.reg [⟨some 56, .move (.tmp 0), none⟩,
    ⟨some 57, .call ⟨.value (.func 55), #[(.tmp 56)], #[54]⟩, none⟩,
    ⟨some 58, .binOp .neq 25 (.tmp 57) (.const (.int .i64 0)) 25, none⟩,
    ⟨some 59, .move (.tmp 58), none⟩,
    ⟨some 60, .move (.tmp 1), some ((some 59), false)⟩,
    ⟨some 61, .call ⟨.value (.func 55), #[(.tmp 60)], #[54]⟩, some ((some 59), false)⟩,
    ⟨some 62, .binOp .neq 25 (.tmp 61) (.const (.int .i64 0)) 25, some ((some 59), false)⟩,
    ⟨some 63, .pick (.tmp 59) (.const (.bool true)) (.tmp 62), none⟩])
  (.cond (.tmp 63)
    (.seq (.reg [⟨some 64, .move (.tmp 11), none⟩,
      ⟨some 65, .move (.tmp 64), none⟩,
      ⟨some 66, .move (.tmp 14), some ((some 65), true)⟩,
      ⟨some 67, .binOp .eql 25 (.tmp 66) (.const (.int .i64 14)) 25, some ((some 65), true)⟩,
      ⟨some 68, .pick (.tmp 65) (.tmp 67) (.const (.bool false)), none⟩,
      ⟨some 69, .move (.tmp 68), none⟩,
      ⟨some 70, .move (.tmp 17), some ((some 69), true)⟩,
      ⟨some 71, .move (.tmp 14), some ((some 69), true)⟩,
      ⟨some 72, .binOp .eql 25 (.tmp 70) (.tmp 71) 25, some ((some 69), true)⟩,
      ⟨some 73, .pick (.tmp 69) (.tmp 72) (.const (.bool false)), none⟩,
      ⟨some 10, .assign (.tmp 73), none⟩])
    .ret)
    .skip))
  (.seq (.reg [⟨some 75, .move (.tmp 0), none⟩,
    ⟨some 76, .load 56 (.tmp 7), none⟩,
    ⟨some 77, .call ⟨.value (.func 51), #[(.tmp 75), (.tmp 76)], #[54, 56]⟩, none⟩,
    ⟨some 74, .move (.tmp 77), none⟩,
    ⟨some 78, .extract (.tmp 74) 0, none⟩,
    ⟨some 79, .extract (.tmp 74) 1, none⟩,
    ⟨some 18, .assign (.tmp 78), none⟩,
    ⟨some 19, .assign (.tmp 79), none⟩])
  (.seq (.reg [⟨some 81, .move (.tmp 1), none⟩,
    ⟨some 82, .load 56 (.tmp 7), none⟩,
    ⟨some 83, .call ⟨.value (.func 51), #[(.tmp 81), (.tmp 82)], #[54, 56]⟩, none⟩,
    ⟨some 80, .move (.tmp 83), none⟩,
    ⟨some 84, .extract (.tmp 80) 0, none⟩,
    ⟨some 85, .extract (.tmp 80) 1, none⟩,
    ⟨some 20, .assign (.tmp 84), none⟩,
    ⟨some 21, .assign (.tmp 85), none⟩])
  (.seq (.reg [⟨some 87, .move (.tmp 0), none⟩,
    ⟨some 88, .move (.tmp 1), none⟩,
    ⟨some 89, .move (.tmp 3), none⟩,
    ⟨some 90, .move (.tmp 4), none⟩,
    ⟨some 91, .call ⟨.value (.func 64), #[(.tmp 87), (.tmp 88), (.tmp 89), (.tmp 90)], #[54, 54, 3, 3]⟩, none⟩,
    ⟨some 86, .move (.tmp 91), none⟩,
    ⟨some 92, .extract (.tmp 86) 0, none⟩,
    ⟨some 93, .extract (.tmp 86) 1, none⟩,
    ⟨some 22, .assign (.tmp 92), none⟩,
    ⟨some 23, .assign (.tmp 93), none⟩])
  (.seq (.seq (.reg [⟨some 94, .move (.tmp 14), none⟩,
    ⟨some 95, .move (.tmp 17), none⟩,
    ⟨some 96, .binOp .neq 25 (.tmp 94) (.tmp 95) 25, none⟩,
    ⟨some 97, .move (.tmp 96), none⟩,
    ⟨some 98, .move (.tmp 19), some ((some 97), false)⟩,
    ⟨some 99, .binOp .neq 25 (.tmp 98) (.const (.int .i64 0)) 25, some ((some 97), false)⟩,
    ⟨some 100, .pick (.tmp 97) (.const (.bool true)) (.tmp 99), none⟩,
    ⟨some 101, .move (.tmp 100), none⟩,
    ⟨some 102, .move (.tmp 21), some ((some 101), false)⟩,
    ⟨some 103, .binOp .neq 25 (.tmp 102) (.const (.int .i64 0)) 25, some ((some 101), false)⟩,
    ⟨some 104, .pick (.tmp 101) (.const (.bool true)) (.tmp 103), none⟩,
    ⟨some 105, .move (.tmp 104), none⟩,
    ⟨some 106, .move (.tmp 23), some ((some 105), false)⟩,
    ⟨some 107, .binOp .neq 25 (.tmp 106) (.const (.int .i64 0)) 25, some ((some 105), false)⟩,
    ⟨some 108, .move (.tmp 107), some ((some 105), false)⟩,
    ⟨some 109, .move (.tmp 23), some ((some 108), true)⟩,
    ⟨some 110, .binOp .neq 25 (.tmp 109) (.const (.int .i64 2)) 25, some ((some 108), true)⟩,
    ⟨some 111, .pick (.tmp 108) (.tmp 110) (.const (.bool false)), some ((some 105), false)⟩,
    ⟨some 112, .pick (.tmp 105) (.const (.bool true)) (.tmp 111), none⟩])
  (.cond (.tmp 112)
    (.seq (.reg [⟨some 10, .assign (.const (.bool false)), none⟩])
    .ret)
    .skip))
  (.seq (.seq (.reg [⟨some 113, .move (.tmp 14), none⟩,
    ⟨some 114, .binOp .eql 25 (.tmp 113) (.const (.int .i64 6)) 25, none⟩])
  (.cond (.tmp 114)
    (.seq (.reg [⟨some 115, .move (.tmp 11), none⟩,
      ⟨some 116, .move (.tmp 115), none⟩,
      ⟨some 117, .move (.tmp 22), some ((some 116), true)⟩,
      ⟨some 118, .unOp .not 4 (.tmp 117), some ((some 116), true)⟩,
      ⟨some 119, .pick (.tmp 116) (.tmp 118) (.const (.bool false)), none⟩,
      ⟨some 10, .assign (.tmp 119), none⟩])
    .ret)
    .skip))
  (.seq (.reg [⟨some 121, .move (.tmp 0), none⟩,
    ⟨some 122, .move (.tmp 1), none⟩,
    ⟨some 123, .move (.tmp 12), none⟩,
    ⟨some 124, .move (.tmp 13), none⟩,
    ⟨some 125, .call ⟨.value (.func 64), #[(.tmp 121), (.tmp 122), (.tmp 123), (.tmp 124)], #[54, 54, 3, 3]⟩, none⟩,
    ⟨some 120, .move (.tmp 125), none⟩,
    ⟨some 126, .extract (.tmp 120) 0, none⟩,
    ⟨some 127, .extract (.tmp 120) 1, none⟩,
    ⟨some 24, .assign (.tmp 126), none⟩,
    ⟨some 25, .assign (.tmp 127), none⟩])
  (.seq (.reg [⟨some 129, .move (.tmp 0), none⟩,
    ⟨some 130, .move (.tmp 12), none⟩,
    ⟨some 131, .move (.tmp 13), none⟩,
    ⟨some 132, .call ⟨.value (.func 60), #[(.tmp 129), (.tmp 130), (.tmp 131)], #[54, 3, 3]⟩, none⟩,
    ⟨some 128, .move (.tmp 132), none⟩,
    ⟨some 133, .extract (.tmp 128) 0, none⟩,
    ⟨some 134, .extract (.tmp 128) 1, none⟩,
    ⟨some 26, .assign (.tmp 133), none⟩,
    ⟨some 27, .assign (.tmp 134), none⟩])
  (.seq (.reg [⟨some 136, .move (.tmp 1), none⟩,
    ⟨some 137, .move (.tmp 12), none⟩,
    ⟨some 138, .unOp .neg 3 (.tmp 137), none⟩,
    ⟨some 139, .move (.tmp 13), none⟩,
    ⟨some 140, .unOp .neg 3 (.tmp 139), none⟩,
    ⟨some 141, .call ⟨.value (.func 60), #[(.tmp 136), (.tmp 138), (.tmp 140)], #[54, 3, 3]⟩, none⟩,
    ⟨some 135, .move (.tmp 141), none⟩,
    ⟨some 142, .extract (.tmp 135) 0, none⟩,
    ⟨some 143, .extract (.tmp 135) 1, none⟩,
    ⟨some 28, .assign (.tmp 142), none⟩,
    ⟨some 29, .assign (.tmp 143), none⟩])
  (.seq (.reg [⟨some 144, .move (.tmp 11), none⟩,
    ⟨some 145, .move (.tmp 144), none⟩,
    ⟨some 146, .move (.tmp 14), some ((some 145), true)⟩,
    ⟨some 147, .binOp .eql 25 (.tmp 146) (.const (.int .i64 0)) 25, some ((some 145), true)⟩,
    ⟨some 148, .pick (.tmp 145) (.tmp 147) (.const (.bool false)), none⟩,
    ⟨some 149, .move (.tmp 148), none⟩,
    ⟨some 150, .move (.tmp 25), some ((some 149), true)⟩,
    ⟨some 151, .binOp .eql 25 (.tmp 150) (.const (.int .i64 0)) 25, some ((some 149), true)⟩,
    ⟨some 152, .pick (.tmp 149) (.tmp 151) (.const (.bool false)), none⟩,
    ⟨some 153, .move (.tmp 152), none⟩,
    ⟨some 154, .move (.tmp 24), some ((some 153), true)⟩,
    ⟨some 155, .pick (.tmp 153) (.tmp 154) (.const (.bool false)), none⟩,
    ⟨some 156, .move (.tmp 155), none⟩,
    ⟨some 157, .move (.tmp 27), some ((some 156), true)⟩,
    ⟨some 158, .binOp .eql 25 (.tmp 157) (.const (.int .i64 0)) 25, some ((some 156), true)⟩,
    ⟨some 159, .pick (.tmp 156) (.tmp 158) (.const (.bool false)), none⟩,
    ⟨some 160, .move (.tmp 159), none⟩,
    ⟨some 161, .move (.tmp 29), some ((some 160), true)⟩,
    ⟨some 162, .binOp .eql 25 (.tmp 161) (.const (.int .i64 0)) 25, some ((some 160), true)⟩,
    ⟨some 163, .pick (.tmp 160) (.tmp 162) (.const (.bool false)), none⟩,
    ⟨some 164, .move (.tmp 163), none⟩,
    ⟨some 165, .move (.tmp 26), some ((some 164), true)⟩,
    ⟨some 166, .move (.tmp 28), some ((some 164), true)⟩,
    ⟨some 167, .unOp .neg 3 (.tmp 166), some ((some 164), true)⟩,
    ⟨some 168, .binOp .lss 3 (.tmp 165) (.tmp 167) 3, some ((some 164), true)⟩,
    ⟨some 169, .pick (.tmp 164) (.tmp 168) (.const (.bool false)), none⟩,
    ⟨some 170, .move (.tmp 169), none⟩,
    ⟨some 171, .move (.tmp 18), some ((some 170), true)⟩,
    ⟨some 172, .move (.tmp 171), some ((some 170), true)⟩,
    ⟨some 173, .move (.tmp 20), some ((some 172), true)⟩,
    ⟨some 174, .pick (.tmp 172) (.tmp 173) (.const (.bool false)), some ((some 170), true)⟩,
    ⟨some 175, .unOp .not 4 (.tmp 174), some ((some 170), true)⟩,
    ⟨some 176, .pick (.tmp 170) (.tmp 175) (.const (.bool false)), none⟩,
    ⟨some 10, .assign (.tmp 176), none⟩])
  .ret)))))))))))))))
theorem c17 : f17.body.bind (comp f17.ntmps) = some p17 := by kernel_rfl

end Go.Proofs.Try
