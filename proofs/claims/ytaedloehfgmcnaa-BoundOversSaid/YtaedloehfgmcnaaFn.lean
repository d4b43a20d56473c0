/- The functions in computed form, printed by a program of ours out of the translation, each with the kernel's word that it is that form. Conditions: none. -/
import Derived.Test.YtaedloehfgmcnaaPa
import Derived.Test.YtaedloehfgmcnaaProg
namespace Go.Proofs.Try
open Go.Psl
def p3 : PC :=
  (.seq (.reg [⟨some 4, .box 24 (.tmp 1), none⟩,
    ⟨some 5, .box 24 (.tmp 2), none⟩,
    ⟨some 6, .assign (.const (.bool false)), none⟩])
  (.seq (.seq (.reg [⟨some 20, .move (.tmp 0), none⟩,
    ⟨some 21, .call ⟨.builtin .len, #[(.tmp 20)], #[22]⟩, none⟩,
    ⟨some 22, .binOp .gtr 3 (.tmp 21) (.const (.int .i64 40)) 3, none⟩])
  (.cond (.tmp 22)
    (.seq (.reg [⟨some 6, .assign (.const (.bool true)), none⟩])
    .ret)
    .skip))
  (.seq (.reg [⟨some 23, .buildSlice 22 0 #[], none⟩,
    ⟨some 24, .move (.tmp 0), none⟩,
    ⟨some 25, .call ⟨.builtin .append, #[(.tmp 23), (.tmp 24)], #[22, 22]⟩, none⟩,
    ⟨some 7, .assign (.tmp 25), none⟩])
  (.seq (.reg [⟨some 27, .move (.tmp 7), none⟩,
    ⟨some 28, .load 24 (.tmp 4), none⟩,
    ⟨some 29, .call ⟨.value (.func 20), #[(.tmp 27), (.tmp 28)], #[22, 24]⟩, none⟩,
    ⟨some 26, .move (.tmp 29), none⟩,
    ⟨some 30, .extract (.tmp 26) 0, none⟩,
    ⟨some 31, .extract (.tmp 26) 1, none⟩,
    ⟨some 8, .alloc 24, none⟩,
    ⟨none, .store 24 (.tmp 8) (.tmp 30), none⟩,
    ⟨some 9, .assign (.tmp 31), none⟩])
  (.seq (.reg [⟨some 33, .move (.tmp 0), none⟩,
    ⟨some 34, .load 24 (.tmp 4), none⟩,
    ⟨some 35, .call ⟨.value (.func 21), #[(.tmp 33), (.tmp 34)], #[22, 24]⟩, none⟩,
    ⟨some 32, .move (.tmp 35), none⟩,
    ⟨some 36, .extract (.tmp 32) 0, none⟩,
    ⟨some 37, .extract (.tmp 32) 1, none⟩,
    ⟨some 10, .alloc 24, none⟩,
    ⟨none, .store 24 (.tmp 10) (.tmp 36), none⟩,
    ⟨some 11, .assign (.tmp 37), none⟩])
  (.seq (.reg [⟨some 39, .move (.tmp 7), none⟩,
    ⟨some 40, .load 24 (.tmp 5), none⟩,
    ⟨some 41, .call ⟨.value (.func 22), #[(.tmp 39), (.tmp 40)], #[22, 24]⟩, none⟩,
    ⟨some 38, .move (.tmp 41), none⟩,
    ⟨some 42, .extract (.tmp 38) 0, none⟩,
    ⟨some 43, .extract (.tmp 38) 1, none⟩,
    ⟨some 12, .assign (.tmp 42), none⟩,
    ⟨some 13, .assign (.tmp 43), none⟩])
  (.seq (.reg [⟨some 45, .move (.tmp 0), none⟩,
    ⟨some 46, .load 24 (.tmp 5), none⟩,
    ⟨some 47, .call ⟨.value (.func 23), #[(.tmp 45), (.tmp 46)], #[22, 24]⟩, none⟩,
    ⟨some 44, .move (.tmp 47), none⟩,
    ⟨some 48, .extract (.tmp 44) 0, none⟩,
    ⟨some 49, .extract (.tmp 44) 1, none⟩,
    ⟨some 14, .assign (.tmp 48), none⟩,
    ⟨some 15, .assign (.tmp 49), none⟩])
  (.seq (.reg [⟨some 51, .move (.tmp 7), none⟩,
    ⟨some 52, .load 24 (.tmp 5), none⟩,
    ⟨some 53, .call ⟨.value (.func 24), #[(.tmp 51), (.tmp 52)], #[22, 24]⟩, none⟩,
    ⟨some 50, .move (.tmp 53), none⟩,
    ⟨some 54, .extract (.tmp 50) 0, none⟩,
    ⟨some 55, .extract (.tmp 50) 1, none⟩,
    ⟨some 16, .assign (.tmp 54), none⟩,
    ⟨some 17, .assign (.tmp 55), none⟩])
  (.seq (.reg [⟨some 57, .move (.tmp 0), none⟩,
    ⟨some 58, .load 24 (.tmp 5), none⟩,
    ⟨some 59, .call ⟨.value (.func 25), #[(.tmp 57), (.tmp 58)], #[22, 24]⟩, none⟩,
    ⟨some 56, .move (.tmp 59), none⟩,
    ⟨some 60, .extract (.tmp 56) 0, none⟩,
    ⟨some 61, .extract (.tmp 56) 1, none⟩,
    ⟨some 18, .assign (.tmp 60), none⟩,
    ⟨some 19, .assign (.tmp 61), none⟩])
  (.seq (.reg [⟨some 62, .move (.tmp 7), none⟩,
    ⟨some 63, .call ⟨.value (.func 26), #[(.tmp 62)], #[22]⟩, none⟩,
    ⟨some 64, .move (.tmp 0), none⟩,
    ⟨some 65, .call ⟨.value (.func 27), #[(.tmp 64)], #[22]⟩, none⟩,
    ⟨some 66, .binOp .eql 3 (.tmp 63) (.tmp 65) 3, none⟩,
    ⟨some 67, .move (.tmp 66), none⟩,
    ⟨some 68, .load 24 (.tmp 8), some ((some 67), true)⟩,
    ⟨some 69, .load 24 (.tmp 10), some ((some 67), true)⟩,
    ⟨some 70, .binOp .eql 24 (.tmp 68) (.tmp 69) 24, some ((some 67), true)⟩,
    ⟨some 71, .pick (.tmp 67) (.tmp 70) (.const (.bool false)), none⟩,
    ⟨some 72, .move (.tmp 71), none⟩,
    ⟨some 73, .move (.tmp 9), some ((some 72), true)⟩,
    ⟨some 74, .move (.tmp 11), some ((some 72), true)⟩,
    ⟨some 75, .binOp .eql 3 (.tmp 73) (.tmp 74) 3, some ((some 72), true)⟩,
    ⟨some 76, .pick (.tmp 72) (.tmp 75) (.const (.bool false)), none⟩,
    ⟨some 77, .move (.tmp 76), none⟩,
    ⟨some 78, .move (.tmp 12), some ((some 77), true)⟩,
    ⟨some 79, .move (.tmp 14), some ((some 77), true)⟩,
    ⟨some 80, .call ⟨.value (.func 28), #[(.tmp 78), (.tmp 79)], #[30, 30]⟩, some ((some 77), true)⟩,
    ⟨some 81, .pick (.tmp 77) (.tmp 80) (.const (.bool false)), none⟩,
    ⟨some 82, .move (.tmp 81), none⟩,
    ⟨some 83, .move (.tmp 13), some ((some 82), true)⟩,
    ⟨some 84, .move (.tmp 15), some ((some 82), true)⟩,
    ⟨some 85, .binOp .eql 3 (.tmp 83) (.tmp 84) 3, some ((some 82), true)⟩,
    ⟨some 86, .pick (.tmp 82) (.tmp 85) (.const (.bool false)), none⟩,
    ⟨some 87, .move (.tmp 86), none⟩,
    ⟨some 88, .move (.tmp 16), some ((some 87), true)⟩,
    ⟨some 89, .move (.tmp 18), some ((some 87), true)⟩,
    ⟨some 90, .call ⟨.value (.func 28), #[(.tmp 88), (.tmp 89)], #[30, 30]⟩, some ((some 87), true)⟩,
    ⟨some 91, .pick (.tmp 87) (.tmp 90) (.const (.bool false)), none⟩,
    ⟨some 92, .move (.tmp 91), none⟩,
    ⟨some 93, .move (.tmp 17), some ((some 92), true)⟩,
    ⟨some 94, .move (.tmp 19), some ((some 92), true)⟩,
    ⟨some 95, .binOp .eql 3 (.tmp 93) (.tmp 94) 3, some ((some 92), true)⟩,
    ⟨some 96, .pick (.tmp 92) (.tmp 95) (.const (.bool false)), none⟩,
    ⟨some 97, .move (.tmp 96), none⟩,
    ⟨some 98, .move (.tmp 7), some ((some 97), true)⟩,
    ⟨some 99, .move (.tmp 0), some ((some 97), true)⟩,
    ⟨some 100, .call ⟨.value (.func 29), #[(.tmp 98), (.tmp 99)], #[22, 22]⟩, some ((some 97), true)⟩,
    ⟨some 101, .pick (.tmp 97) (.tmp 100) (.const (.bool false)), none⟩,
    ⟨some 6, .assign (.tmp 101), none⟩])
  .ret))))))))))
theorem c3 : f3.body.bind (comp f3.ntmps) = some p3 := by kernel_rfl

def p4 : PC :=
  (.seq (.reg [⟨some 3, .box 24 (.tmp 0), none⟩,
    ⟨some 4, .box 24 (.tmp 1), none⟩,
    ⟨some 5, .box 24 (.tmp 2), none⟩,
    ⟨some 6, .assign (.const (.bool false)), none⟩])
  (.seq (.reg [⟨some 16, .load 24 (.tmp 3), none⟩,
    ⟨some 17, .load 24 (.tmp 4), none⟩,
    ⟨some 18, .load 24 (.tmp 5), none⟩,
    ⟨some 19, .call ⟨.value (.func 30), #[(.tmp 16), (.tmp 17), (.tmp 18)], #[24, 24, 24]⟩, none⟩,
    ⟨some 15, .move (.tmp 19), none⟩,
    ⟨some 20, .extract (.tmp 15) 0, none⟩,
    ⟨some 21, .extract (.tmp 15) 1, none⟩,
    ⟨some 7, .alloc 24, none⟩,
    ⟨none, .store 24 (.tmp 7) (.tmp 20), none⟩,
    ⟨some 8, .assign (.tmp 21), none⟩])
  (.seq (.reg [⟨some 23, .load 24 (.tmp 3), none⟩,
    ⟨some 24, .load 24 (.tmp 4), none⟩,
    ⟨some 25, .load 24 (.tmp 5), none⟩,
    ⟨some 26, .call ⟨.value (.func 31), #[(.tmp 23), (.tmp 24), (.tmp 25)], #[24, 24, 24]⟩, none⟩,
    ⟨some 22, .move (.tmp 26), none⟩,
    ⟨some 27, .extract (.tmp 22) 0, none⟩,
    ⟨some 28, .extract (.tmp 22) 1, none⟩,
    ⟨some 9, .alloc 24, none⟩,
    ⟨none, .store 24 (.tmp 9) (.tmp 27), none⟩,
    ⟨some 10, .assign (.tmp 28), none⟩])
  (.seq (.reg [⟨some 30, .load 24 (.tmp 3), none⟩,
    ⟨some 31, .call ⟨.value (.func 32), #[(.tmp 30)], #[24]⟩, none⟩,
    ⟨some 29, .move (.tmp 31), none⟩,
    ⟨some 32, .extract (.tmp 29) 0, none⟩,
    ⟨some 33, .extract (.tmp 29) 1, none⟩,
    ⟨some 11, .alloc 24, none⟩,
    ⟨none, .store 24 (.tmp 11) (.tmp 32), none⟩,
    ⟨some 12, .assign (.tmp 33), none⟩])
  (.seq (.reg [⟨some 35, .load 24 (.tmp 3), none⟩,
    ⟨some 36, .call ⟨.value (.func 33), #[(.tmp 35)], #[24]⟩, none⟩,
    ⟨some 34, .move (.tmp 36), none⟩,
    ⟨some 37, .extract (.tmp 34) 0, none⟩,
    ⟨some 38, .extract (.tmp 34) 1, none⟩,
    ⟨some 13, .alloc 24, none⟩,
    ⟨none, .store 24 (.tmp 13) (.tmp 37), none⟩,
    ⟨some 14, .assign (.tmp 38), none⟩])
  (.seq (.reg [⟨some 39, .load 24 (.tmp 7), none⟩,
    ⟨some 40, .load 24 (.tmp 9), none⟩,
    ⟨some 41, .binOp .eql 24 (.tmp 39) (.tmp 40) 24, none⟩,
    ⟨some 42, .move (.tmp 41), none⟩,
    ⟨some 43, .move (.tmp 8), some ((some 42), true)⟩,
    ⟨some 44, .move (.tmp 10), some ((some 42), true)⟩,
    ⟨some 45, .binOp .eql 3 (.tmp 43) (.tmp 44) 3, some ((some 42), true)⟩,
    ⟨some 46, .pick (.tmp 42) (.tmp 45) (.const (.bool false)), none⟩,
    ⟨some 47, .move (.tmp 46), none⟩,
    ⟨some 48, .load 24 (.tmp 11), some ((some 47), true)⟩,
    ⟨some 49, .load 24 (.tmp 13), some ((some 47), true)⟩,
    ⟨some 50, .binOp .eql 24 (.tmp 48) (.tmp 49) 24, some ((some 47), true)⟩,
    ⟨some 51, .pick (.tmp 47) (.tmp 50) (.const (.bool false)), none⟩,
    ⟨some 52, .move (.tmp 51), none⟩,
    ⟨some 53, .move (.tmp 12), some ((some 52), true)⟩,
    ⟨some 54, .move (.tmp 14), some ((some 52), true)⟩,
    ⟨some 55, .binOp .eql 3 (.tmp 53) (.tmp 54) 3, some ((some 52), true)⟩,
    ⟨some 56, .pick (.tmp 52) (.tmp 55) (.const (.bool false)), none⟩,
    ⟨some 6, .assign (.tmp 56), none⟩])
  .ret))))))
theorem c4 : f4.body.bind (comp f4.ntmps) = some p4 := by kernel_rfl

def p5 : PC :=
  (.seq (.reg [⟨some 2, .box 24 (.tmp 0), none⟩,
    ⟨some 3, .box 24 (.tmp 1), none⟩,
    ⟨some 4, .assign (.const (.bool false)), none⟩])
  (.seq (.reg [⟨some 30, .load 24 (.tmp 2), none⟩,
    ⟨some 31, .load 24 (.tmp 3), none⟩,
    ⟨some 32, .call ⟨.value (.func 34), #[(.tmp 30), (.tmp 31)], #[24, 24]⟩, none⟩,
    ⟨some 29, .move (.tmp 32), none⟩,
    ⟨some 33, .extract (.tmp 29) 0, none⟩,
    ⟨some 34, .extract (.tmp 29) 1, none⟩,
    ⟨some 5, .alloc 24, none⟩,
    ⟨none, .store 24 (.tmp 5) (.tmp 33), none⟩,
    ⟨some 6, .assign (.tmp 34), none⟩])
  (.seq (.reg [⟨some 36, .load 24 (.tmp 2), none⟩,
    ⟨some 37, .load 24 (.tmp 3), none⟩,
    ⟨some 38, .call ⟨.value (.func 35), #[(.tmp 36), (.tmp 37)], #[24, 24]⟩, none⟩,
    ⟨some 35, .move (.tmp 38), none⟩,
    ⟨some 39, .extract (.tmp 35) 0, none⟩,
    ⟨some 40, .extract (.tmp 35) 1, none⟩,
    ⟨some 7, .alloc 24, none⟩,
    ⟨none, .store 24 (.tmp 7) (.tmp 39), none⟩,
    ⟨some 8, .assign (.tmp 40), none⟩])
  (.seq (.reg [⟨some 42, .load 24 (.tmp 2), none⟩,
    ⟨some 43, .load 24 (.tmp 3), none⟩,
    ⟨some 44, .call ⟨.value (.func 36), #[(.tmp 42), (.tmp 43)], #[24, 24]⟩, none⟩,
    ⟨some 41, .move (.tmp 44), none⟩,
    ⟨some 45, .extract (.tmp 41) 0, none⟩,
    ⟨some 46, .extract (.tmp 41) 1, none⟩,
    ⟨some 9, .alloc 24, none⟩,
    ⟨none, .store 24 (.tmp 9) (.tmp 45), none⟩,
    ⟨some 10, .assign (.tmp 46), none⟩])
  (.seq (.reg [⟨some 48, .load 24 (.tmp 2), none⟩,
    ⟨some 49, .load 24 (.tmp 3), none⟩,
    ⟨some 50, .call ⟨.value (.func 37), #[(.tmp 48), (.tmp 49)], #[24, 24]⟩, none⟩,
    ⟨some 47, .move (.tmp 50), none⟩,
    ⟨some 51, .extract (.tmp 47) 0, none⟩,
    ⟨some 52, .extract (.tmp 47) 1, none⟩,
    ⟨some 11, .alloc 24, none⟩,
    ⟨none, .store 24 (.tmp 11) (.tmp 51), none⟩,
    ⟨some 12, .assign (.tmp 52), none⟩])
  (.seq (.reg [⟨some 54, .load 24 (.tmp 2), none⟩,
    ⟨some 55, .load 24 (.tmp 3), none⟩,
    ⟨some 56, .call ⟨.value (.func 38), #[(.tmp 54), (.tmp 55)], #[24, 24]⟩, none⟩,
    ⟨some 53, .move (.tmp 56), none⟩,
    ⟨some 57, .extract (.tmp 53) 0, none⟩,
    ⟨some 58, .extract (.tmp 53) 1, none⟩,
    ⟨some 13, .alloc 24, none⟩,
    ⟨none, .store 24 (.tmp 13) (.tmp 57), none⟩,
    ⟨some 14, .assign (.tmp 58), none⟩])
  (.seq (.reg [⟨some 60, .load 24 (.tmp 2), none⟩,
    ⟨some 61, .load 24 (.tmp 3), none⟩,
    ⟨some 62, .call ⟨.value (.func 39), #[(.tmp 60), (.tmp 61)], #[24, 24]⟩, none⟩,
    ⟨some 59, .move (.tmp 62), none⟩,
    ⟨some 63, .extract (.tmp 59) 0, none⟩,
    ⟨some 64, .extract (.tmp 59) 1, none⟩,
    ⟨some 15, .alloc 24, none⟩,
    ⟨none, .store 24 (.tmp 15) (.tmp 63), none⟩,
    ⟨some 16, .assign (.tmp 64), none⟩])
  (.seq (.reg [⟨some 66, .load 24 (.tmp 2), none⟩,
    ⟨some 67, .load 24 (.tmp 3), none⟩,
    ⟨some 68, .call ⟨.value (.func 40), #[(.tmp 66), (.tmp 67)], #[24, 24]⟩, none⟩,
    ⟨some 65, .move (.tmp 68), none⟩,
    ⟨some 69, .extract (.tmp 65) 0, none⟩,
    ⟨some 70, .extract (.tmp 65) 1, none⟩,
    ⟨some 17, .alloc 24, none⟩,
    ⟨none, .store 24 (.tmp 17) (.tmp 69), none⟩,
    ⟨some 18, .assign (.tmp 70), none⟩])
  (.seq (.reg [⟨some 72, .load 24 (.tmp 2), none⟩,
    ⟨some 73, .load 24 (.tmp 3), none⟩,
    ⟨some 74, .call ⟨.value (.func 41), #[(.tmp 72), (.tmp 73)], #[24, 24]⟩, none⟩,
    ⟨some 71, .move (.tmp 74), none⟩,
    ⟨some 75, .extract (.tmp 71) 0, none⟩,
    ⟨some 76, .extract (.tmp 71) 1, none⟩,
    ⟨some 19, .alloc 24, none⟩,
    ⟨none, .store 24 (.tmp 19) (.tmp 75), none⟩,
    ⟨some 20, .assign (.tmp 76), none⟩])
  (.seq (.reg [⟨some 78, .load 24 (.tmp 2), none⟩,
    ⟨some 79, .load 24 (.tmp 3), none⟩,
    ⟨some 80, .call ⟨.value (.func 42), #[(.tmp 78), (.tmp 79)], #[24, 24]⟩, none⟩,
    ⟨some 77, .move (.tmp 80), none⟩,
    ⟨some 81, .extract (.tmp 77) 0, none⟩,
    ⟨some 82, .extract (.tmp 77) 1, none⟩,
    ⟨some 21, .alloc 24, none⟩,
    ⟨none, .store 24 (.tmp 21) (.tmp 81), none⟩,
    ⟨some 22, .assign (.tmp 82), none⟩])
  (.seq (.reg [⟨some 84, .load 24 (.tmp 2), none⟩,
    ⟨some 85, .load 24 (.tmp 3), none⟩,
    ⟨some 86, .call ⟨.value (.func 43), #[(.tmp 84), (.tmp 85)], #[24, 24]⟩, none⟩,
    ⟨some 83, .move (.tmp 86), none⟩,
    ⟨some 87, .extract (.tmp 83) 0, none⟩,
    ⟨some 88, .extract (.tmp 83) 1, none⟩,
    ⟨some 23, .alloc 24, none⟩,
    ⟨none, .store 24 (.tmp 23) (.tmp 87), none⟩,
    ⟨some 24, .assign (.tmp 88), none⟩])
  (.seq (.reg [⟨some 90, .load 24 (.tmp 2), none⟩,
    ⟨some 91, .load 24 (.tmp 3), none⟩,
    ⟨some 92, .call ⟨.value (.func 44), #[(.tmp 90), (.tmp 91)], #[24, 24]⟩, none⟩,
    ⟨some 89, .move (.tmp 92), none⟩,
    ⟨some 93, .extract (.tmp 89) 0, none⟩,
    ⟨some 94, .extract (.tmp 89) 1, none⟩,
    ⟨some 25, .assign (.tmp 93), none⟩,
    ⟨some 26, .assign (.tmp 94), none⟩])
  (.seq (.reg [⟨some 96, .load 24 (.tmp 2), none⟩,
    ⟨some 97, .load 24 (.tmp 3), none⟩,
    ⟨some 98, .call ⟨.value (.func 45), #[(.tmp 96), (.tmp 97)], #[24, 24]⟩, none⟩,
    ⟨some 95, .move (.tmp 98), none⟩,
    ⟨some 99, .extract (.tmp 95) 0, none⟩,
    ⟨some 100, .extract (.tmp 95) 1, none⟩,
    ⟨some 27, .assign (.tmp 99), none⟩,
    ⟨some 28, .assign (.tmp 100), none⟩])
  (.seq (.draw [0, 1, 0, 7, 15, 31, 63, 63, 255, 511, 1023, 2047, 2047, 8191, 16383, 32767, 65535, 65535, 262143, 524287, 1048575, 2097151, 2097151, 8388607, 16777215, 33554431, 67108863, 67108863, 268435455, 536870911, 1073741823, 2147483647, 2147483647, 8589934591, 17179869183, 34359738367, 68719476735, 68719476735, 274877906943, 549755813887, 1099511627775, 2199023255551, 2199023255551, 8796093022207, 17592186044415, 35184372088831, 70368744177663, 70368744177663, 281474976710655, 562949953421311, 1125899906842623, 2251799813685247, 2251799813685247, 9007199254740991, 18014398509481983, 36028797018963967, 72057594037927935, 72057594037927935, 288230376151711743, 576460752303423487, 1152921504606846975, 2305843009213693951, 2305843009213693951, 9223372036854775807, 18446744073709551615, 36893488147419103231] [⟨some 101, .load 24 (.tmp 2), none⟩,
    ⟨some 102, .call ⟨.value (.func 46), #[(.tmp 101)], #[24]⟩, none⟩,
    ⟨some 103, .load 24 (.tmp 2), none⟩,
    ⟨some 104, .call ⟨.value (.func 47), #[(.tmp 103)], #[24]⟩, none⟩,
    ⟨some 105, .binOp .eql 3 (.tmp 102) (.tmp 104) 3, none⟩,
    ⟨some 106, .move (.tmp 105), none⟩,
    ⟨some 107, .load 24 (.tmp 5), some ((some 106), true)⟩,
    ⟨some 108, .load 24 (.tmp 7), some ((some 106), true)⟩,
    ⟨some 109, .binOp .eql 24 (.tmp 107) (.tmp 108) 24, some ((some 106), true)⟩,
    ⟨some 110, .pick (.tmp 106) (.tmp 109) (.const (.bool false)), none⟩,
    ⟨some 111, .move (.tmp 110), none⟩,
    ⟨some 112, .move (.tmp 6), some ((some 111), true)⟩,
    ⟨some 113, .move (.tmp 8), some ((some 111), true)⟩,
    ⟨some 114, .binOp .eql 3 (.tmp 112) (.tmp 113) 3, some ((some 111), true)⟩,
    ⟨some 115, .pick (.tmp 111) (.tmp 114) (.const (.bool false)), none⟩,
    ⟨some 116, .move (.tmp 115), none⟩,
    ⟨some 117, .load 24 (.tmp 9), some ((some 116), true)⟩,
    ⟨some 118, .load 24 (.tmp 11), some ((some 116), true)⟩,
    ⟨some 119, .binOp .eql 24 (.tmp 117) (.tmp 118) 24, some ((some 116), true)⟩,
    ⟨some 120, .pick (.tmp 116) (.tmp 119) (.const (.bool false)), none⟩,
    ⟨some 121, .move (.tmp 120), none⟩,
    ⟨some 122, .move (.tmp 10), some ((some 121), true)⟩,
    ⟨some 123, .move (.tmp 12), some ((some 121), true)⟩,
    ⟨some 124, .binOp .eql 3 (.tmp 122) (.tmp 123) 3, some ((some 121), true)⟩,
    ⟨some 125, .pick (.tmp 121) (.tmp 124) (.const (.bool false)), none⟩,
    ⟨some 126, .move (.tmp 125), none⟩,
    ⟨some 127, .load 24 (.tmp 13), some ((some 126), true)⟩,
    ⟨some 128, .load 24 (.tmp 15), some ((some 126), true)⟩,
    ⟨some 129, .binOp .eql 24 (.tmp 127) (.tmp 128) 24, some ((some 126), true)⟩,
    ⟨some 130, .pick (.tmp 126) (.tmp 129) (.const (.bool false)), none⟩,
    ⟨some 131, .move (.tmp 130), none⟩,
    ⟨some 132, .move (.tmp 14), some ((some 131), true)⟩,
    ⟨some 133, .move (.tmp 16), some ((some 131), true)⟩,
    ⟨some 134, .binOp .eql 3 (.tmp 132) (.tmp 133) 3, some ((some 131), true)⟩,
    ⟨some 135, .pick (.tmp 131) (.tmp 134) (.const (.bool false)), none⟩,
    ⟨some 136, .move (.tmp 135), none⟩,
    ⟨some 137, .load 24 (.tmp 17), some ((some 136), true)⟩,
    ⟨some 138, .load 24 (.tmp 19), some ((some 136), true)⟩,
    ⟨some 139, .binOp .eql 24 (.tmp 137) (.tmp 138) 24, some ((some 136), true)⟩,
    ⟨some 140, .pick (.tmp 136) (.tmp 139) (.const (.bool false)), none⟩,
    ⟨some 141, .move (.tmp 140), none⟩,
    ⟨some 142, .move (.tmp 18), some ((some 141), true)⟩,
    ⟨some 143, .move (.tmp 20), some ((some 141), true)⟩,
    ⟨some 144, .binOp .eql 3 (.tmp 142) (.tmp 143) 3, some ((some 141), true)⟩,
    ⟨some 145, .pick (.tmp 141) (.tmp 144) (.const (.bool false)), none⟩,
    ⟨some 146, .move (.tmp 145), none⟩,
    ⟨some 147, .load 24 (.tmp 21), some ((some 146), true)⟩,
    ⟨some 148, .load 24 (.tmp 23), some ((some 146), true)⟩,
    ⟨some 149, .binOp .eql 24 (.tmp 147) (.tmp 148) 24, some ((some 146), true)⟩,
    ⟨some 150, .pick (.tmp 146) (.tmp 149) (.const (.bool false)), none⟩,
    ⟨some 151, .move (.tmp 150), none⟩,
    ⟨some 152, .move (.tmp 22), some ((some 151), true)⟩,
    ⟨some 153, .move (.tmp 24), some ((some 151), true)⟩,
    ⟨some 154, .binOp .eql 3 (.tmp 152) (.tmp 153) 3, some ((some 151), true)⟩,
    ⟨some 155, .pick (.tmp 151) (.tmp 154) (.const (.bool false)), none⟩,
    ⟨some 156, .move (.tmp 155), none⟩,
    ⟨some 157, .move (.tmp 25), some ((some 156), true)⟩,
    ⟨some 158, .move (.tmp 27), some ((some 156), true)⟩,
    ⟨some 159, .binOp .eql 4 (.tmp 157) (.tmp 158) 4, some ((some 156), true)⟩,
    ⟨some 160, .pick (.tmp 156) (.tmp 159) (.const (.bool false)), none⟩,
    ⟨some 161, .move (.tmp 160), none⟩,
    ⟨some 162, .move (.tmp 26), some ((some 161), true)⟩,
    ⟨some 163, .move (.tmp 28), some ((some 161), true)⟩]
    [⟨some 164, .binOp .eql 3 (.tmp 162) (.tmp 163) 3, some ((some 161), true)⟩,
    ⟨some 165, .pick (.tmp 161) (.tmp 164) (.const (.bool false)), none⟩,
    ⟨some 4, .assign (.tmp 165), none⟩])
  .ret))))))))))))))
theorem c5 : f5.body.bind (comp f5.ntmps) = some p5 := by kernel_rfl

def p10l0 : PC :=
  (.seq (.reg [⟨some 102, .binOp .lss 3 (.tmp 101) (.tmp 100) 3, none⟩])
  (.seq (.cond (.tmp 102)
    .skip
    (.exit 4))
  (.seq (.block 5
    (.seq (.reg [⟨some 103, .move (.tmp 101), none⟩,
      ⟨some 104, .indexAddr 30 (.tmp 99) (.tmp 101), none⟩,
      ⟨some 105, .load 24 (.tmp 104), none⟩,
      ⟨some 22, .alloc 24, none⟩,
      ⟨some 21, .assign (.tmp 103), none⟩,
      ⟨none, .store 24 (.tmp 22) (.tmp 105), none⟩])
    (.seq (.seq (.draw [0, 1, 0, 4, 15, 31, 63, 127, 63, 319, 831, 1855, 4095, 8191, 16383, 32767, 65535, 32767, 32767, 294911, 819199, 1998847, 4095999, 8290303, 16777215, 33554431, 67108863, 134217727, 268435455, 536870911, 1073741823, 2147483647, 1073741823, 1073741823, 9663676415, 31138512895, 65498251263, 134217727999, 271656681471, 549755813887, 1099511627775, 2199023255551] [⟨some 106, .fieldAddr 24 (.tmp 22) 0, none⟩,
      ⟨some 107, .load 3 (.tmp 106), none⟩,
      ⟨some 108, .fieldAddr 24 (.tmp 22) 1, none⟩,
      ⟨some 109, .load 3 (.tmp 108), none⟩,
      ⟨some 110, .binOp .gtr 3 (.tmp 107) (.tmp 109) 3, none⟩,
      ⟨some 111, .move (.tmp 110), none⟩,
      ⟨some 112, .fieldAddr 24 (.tmp 22) 0, some ((some 111), false)⟩,
      ⟨some 113, .load 3 (.tmp 112), some ((some 111), false)⟩,
      ⟨some 114, .move (.tmp 0), some ((some 111), false)⟩,
      ⟨some 115, .indexAddr 22 (.tmp 114) (.const (.int .i64 0)), some ((some 111), false)⟩,
      ⟨some 116, .fieldAddr 87 (.tmp 115) 0, some ((some 111), false)⟩,
      ⟨some 117, .load 3 (.tmp 116), some ((some 111), false)⟩,
      ⟨some 118, .binOp .lss 3 (.tmp 113) (.tmp 117) 3, some ((some 111), false)⟩,
      ⟨some 119, .pick (.tmp 111) (.const (.bool true)) (.tmp 118), none⟩,
      ⟨some 120, .move (.tmp 119), none⟩,
      ⟨some 121, .fieldAddr 24 (.tmp 22) 1, some ((some 120), false)⟩,
      ⟨some 122, .load 3 (.tmp 121), some ((some 120), false)⟩,
      ⟨some 123, .move (.tmp 0), some ((some 120), false)⟩,
      ⟨some 124, .move (.tmp 0), some ((some 120), false)⟩,
      ⟨some 125, .call ⟨.builtin .len, #[(.tmp 124)], #[22]⟩, some ((some 120), false)⟩,
      ⟨some 126, .binOp .sub 3 (.tmp 125) (.const (.int .i64 1)) 3, some ((some 120), false)⟩,
      ⟨some 127, .indexAddr 22 (.tmp 123) (.tmp 126), some ((some 120), false)⟩,
      ⟨some 128, .fieldAddr 87 (.tmp 127) 0, some ((some 120), false)⟩,
      ⟨some 129, .load 3 (.tmp 128), some ((some 120), false)⟩,
      ⟨some 130, .binOp .gtr 3 (.tmp 122) (.tmp 129) 3, some ((some 120), false)⟩,
      ⟨some 131, .pick (.tmp 120) (.const (.bool true)) (.tmp 130), none⟩,
      ⟨some 132, .move (.tmp 131), none⟩,
      ⟨some 133, .move (.tmp 21), some ((some 132), false)⟩,
      ⟨some 134, .binOp .gtr 3 (.tmp 133) (.const (.int .i64 0)) 3, some ((some 132), false)⟩,
      ⟨some 135, .move (.tmp 134), some ((some 132), false)⟩,
      ⟨some 136, .fieldAddr 24 (.tmp 22) 0, some ((some 135), true)⟩,
      ⟨some 137, .load 3 (.tmp 136), some ((some 135), true)⟩,
      ⟨some 138, .move (.tmp 20), some ((some 135), true)⟩,
      ⟨some 139, .move (.tmp 21), some ((some 135), true)⟩,
      ⟨some 140, .binOp .sub 3 (.tmp 139) (.const (.int .i64 1)) 3, some ((some 135), true)⟩,
      ⟨some 141, .indexAddr 30 (.tmp 138) (.tmp 140), some ((some 135), true)⟩,
      ⟨some 142, .fieldAddr 24 (.tmp 141) 1, some ((some 135), true)⟩,
      ⟨some 143, .load 3 (.tmp 142), some ((some 135), true)⟩,
      ⟨some 144, .binOp .add 3 (.tmp 143) (.const (.int .i64 1)) 3, some ((some 135), true)⟩]
      [⟨some 145, .binOp .leq 3 (.tmp 137) (.tmp 144) 3, some ((some 135), true)⟩,
      ⟨some 146, .pick (.tmp 135) (.tmp 145) (.const (.bool false)), some ((some 132), false)⟩,
      ⟨some 147, .pick (.tmp 132) (.const (.bool true)) (.tmp 146), none⟩])
    (.cond (.tmp 147)
      (.seq (.reg [⟨some 8, .assign (.const (.bool false)), none⟩])
      .ret)
      .skip))
    (.reg [⟨some 148, .move (.tmp 13), none⟩,
      ⟨some 149, .binOp .mul 3 (.const (.int .i64 2)) (.tmp 148) 3, none⟩,
      ⟨some 150, .move (.tmp 19), none⟩,
      ⟨some 151, .binOp .add 3 (.tmp 149) (.tmp 150) 3, none⟩,
      ⟨some 152, .move (.tmp 13), none⟩,
      ⟨some 153, .binOp .mul 3 (.const (.int .i64 2)) (.tmp 152) 3, none⟩,
      ⟨some 154, .move (.tmp 19), none⟩,
      ⟨some 155, .binOp .add 3 (.tmp 153) (.tmp 154) 3, none⟩,
      ⟨some 156, .indexAddr 91 (.tmp 12) (.tmp 155), none⟩,
      ⟨some 157, .load 4 (.tmp 156), none⟩,
      ⟨some 158, .move (.tmp 157), none⟩,
      ⟨some 159, .load 24 (.tmp 22), some ((some 158), false)⟩,
      ⟨some 160, .move (.tmp 11), some ((some 158), false)⟩,
      ⟨some 161, .call ⟨.value (.func 71), #[(.tmp 159), (.tmp 160)], #[24, 3]⟩, some ((some 158), false)⟩,
      ⟨some 162, .pick (.tmp 158) (.const (.bool true)) (.tmp 161), none⟩,
      ⟨some 163, .indexAddr 91 (.tmp 12) (.tmp 151), none⟩,
      ⟨none, .store 4 (.tmp 163) (.tmp 162), none⟩]))))
  (.reg [⟨some 164, .binOp .add 3 (.tmp 101) (.const (.int .i64 1)) 3, none⟩,
    ⟨some 101, .move (.tmp 164), none⟩]))))
def p10l1 : PC :=
  (.seq (.reg [⟨some 95, .binOp .lss 3 (.tmp 94) (.tmp 93) 3, none⟩])
  (.seq (.cond (.tmp 95)
    .skip
    (.exit 2))
  (.seq (.block 3
    (.seq (.reg [⟨some 96, .move (.tmp 94), none⟩,
      ⟨some 97, .indexAddr 92 (.tmp 92) (.tmp 94), none⟩,
      ⟨some 98, .load 30 (.tmp 97), none⟩,
      ⟨some 19, .assign (.tmp 96), none⟩,
      ⟨some 20, .assign (.tmp 98), none⟩])
    (.seq (.reg [⟨some 99, .move (.tmp 20), none⟩,
      ⟨some 100, .call ⟨.builtin .len, #[(.tmp 99)], #[30]⟩, none⟩,
      ⟨some 101, .move (.const (.int .i64 0)), none⟩])
    (.block 4
      (.loop p10l0)))))
  (.reg [⟨some 165, .binOp .add 3 (.tmp 94) (.const (.int .i64 1)) 3, none⟩,
    ⟨some 94, .move (.tmp 165), none⟩]))))
def p10l2 : PC :=
  (.seq (.reg [⟨some 68, .binOp .lss 3 (.tmp 67) (.tmp 66) 3, none⟩])
  (.seq (.cond (.tmp 68)
    .skip
    (.exit 0))
  (.seq (.block 1
    (.seq (.reg [⟨some 69, .move (.tmp 67), none⟩,
      ⟨some 70, .indexAddr 30 (.tmp 65) (.tmp 67), none⟩,
      ⟨some 71, .load 24 (.tmp 70), none⟩,
      ⟨some 14, .alloc 24, none⟩,
      ⟨some 13, .assign (.tmp 69), none⟩,
      ⟨none, .store 24 (.tmp 14) (.tmp 71), none⟩])
    (.seq (.reg [⟨some 73, .move (.tmp 0), none⟩,
      ⟨some 74, .load 24 (.tmp 14), none⟩,
      ⟨some 75, .call ⟨.value (.func 22), #[(.tmp 73), (.tmp 74)], #[22, 24]⟩, none⟩,
      ⟨some 72, .move (.tmp 75), none⟩,
      ⟨some 76, .extract (.tmp 72) 0, none⟩,
      ⟨some 77, .extract (.tmp 72) 1, none⟩,
      ⟨some 15, .assign (.tmp 76), none⟩,
      ⟨some 16, .assign (.tmp 77), none⟩])
    (.seq (.reg [⟨some 79, .move (.tmp 0), none⟩,
      ⟨some 80, .load 24 (.tmp 14), none⟩,
      ⟨some 81, .call ⟨.value (.func 24), #[(.tmp 79), (.tmp 80)], #[22, 24]⟩, none⟩,
      ⟨some 78, .move (.tmp 81), none⟩,
      ⟨some 82, .extract (.tmp 78) 0, none⟩,
      ⟨some 83, .extract (.tmp 78) 1, none⟩,
      ⟨some 17, .assign (.tmp 82), none⟩,
      ⟨some 18, .assign (.tmp 83), none⟩])
    (.seq (.seq (.reg [⟨some 84, .move (.tmp 16), none⟩,
      ⟨some 85, .binOp .neq 25 (.tmp 84) (.const (.int .i64 0)) 25, none⟩,
      ⟨some 86, .move (.tmp 85), none⟩,
      ⟨some 87, .move (.tmp 18), some ((some 86), false)⟩,
      ⟨some 88, .binOp .neq 25 (.tmp 87) (.const (.int .i64 0)) 25, some ((some 86), false)⟩,
      ⟨some 89, .pick (.tmp 86) (.const (.bool true)) (.tmp 88), none⟩])
    (.cond (.tmp 89)
      (.seq (.reg [⟨some 8, .assign (.const (.bool false)), none⟩])
      .ret)
      .skip))
    (.seq (.reg [⟨some 90, .move (.tmp 15), none⟩,
      ⟨some 91, .move (.tmp 17), none⟩,
      ⟨some 92, .buildSlice 92 2 #[(0, (.tmp 90)), (1, (.tmp 91))], none⟩,
      ⟨some 93, .call ⟨.builtin .len, #[(.tmp 92)], #[92]⟩, none⟩,
      ⟨some 94, .move (.const (.int .i64 0)), none⟩])
    (.block 2
      (.loop p10l1))))))))
  (.reg [⟨some 166, .binOp .add 3 (.tmp 67) (.const (.int .i64 1)) 3, none⟩,
    ⟨some 67, .move (.tmp 166), none⟩]))))
def p10 : PC :=
  (.seq (.reg [⟨some 5, .box 24 (.tmp 1), none⟩,
    ⟨some 8, .assign (.const (.bool false)), none⟩])
  (.seq (.reg [⟨some 23, .call ⟨.value (.func 58), #[], #[]⟩, none⟩,
    ⟨some 9, .assign (.tmp 23), none⟩])
  (.seq (.seq (.reg [⟨some 24, .move (.tmp 0), none⟩,
    ⟨some 25, .call ⟨.builtin .len, #[(.tmp 24)], #[22]⟩, none⟩,
    ⟨some 26, .binOp .gtr 3 (.tmp 25) (.const (.int .i64 40)) 3, none⟩,
    ⟨some 27, .move (.tmp 26), none⟩,
    ⟨some 28, .move (.tmp 0), some ((some 27), false)⟩,
    ⟨some 29, .call ⟨.value (.func 27), #[(.tmp 28)], #[22]⟩, some ((some 27), false)⟩,
    ⟨some 30, .binOp .neq 3 (.tmp 29) (.const (.int .i64 0)) 3, some ((some 27), false)⟩,
    ⟨some 31, .pick (.tmp 27) (.const (.bool true)) (.tmp 30), none⟩,
    ⟨some 32, .move (.tmp 31), none⟩,
    ⟨some 33, .load 24 (.tmp 5), some ((some 32), false)⟩,
    ⟨some 34, .call ⟨.value (.func 46), #[(.tmp 33)], #[24]⟩, some ((some 32), false)⟩,
    ⟨some 35, .binOp .neq 25 (.tmp 34) (.const (.int .i64 0)) 25, some ((some 32), false)⟩,
    ⟨some 36, .pick (.tmp 32) (.const (.bool true)) (.tmp 35), none⟩,
    ⟨some 37, .move (.tmp 36), none⟩,
    ⟨some 38, .move (.tmp 9), some ((some 37), false)⟩,
    ⟨some 39, .unOp .not 4 (.tmp 38), some ((some 37), false)⟩,
    ⟨some 40, .pick (.tmp 37) (.const (.bool true)) (.tmp 39), none⟩])
  (.cond (.tmp 40)
    (.seq (.reg [⟨some 41, .move (.tmp 9), none⟩,
      ⟨some 8, .assign (.tmp 41), none⟩])
    .ret)
    .skip))
  (.seq (.draw [0, 0, 3, 0, 8, 31, 0, 127] [⟨some 42, .load 24 (.tmp 5), none⟩,
    ⟨some 43, .move (.tmp 2), none⟩,
    ⟨some 44, .call ⟨.value (.func 59), #[(.tmp 42), (.tmp 43)], #[24, 3]⟩, none⟩,
    ⟨some 45, .fieldAddr 24 (.tmp 5) 1, none⟩,
    ⟨some 46, .load 3 (.tmp 45), none⟩,
    ⟨some 47, .call ⟨.value (.func 69), #[(.tmp 44), (.tmp 46)], #[3, 3]⟩, none⟩,
    ⟨some 10, .alloc 24, none⟩]
    [⟨none, .store 24 (.tmp 10) (.tmp 47), none⟩])
  (.seq (.draw [0, 1, 3, 7, 0, 0, 32, 96, 240, 496, 1008, 2047, 0, 8191, 16383] [⟨some 48, .move (.tmp 0), none⟩,
    ⟨some 49, .indexAddr 22 (.tmp 48) (.const (.int .i64 0)), none⟩,
    ⟨some 50, .fieldAddr 87 (.tmp 49) 0, none⟩,
    ⟨some 51, .load 3 (.tmp 50), none⟩,
    ⟨some 52, .move (.tmp 0), none⟩,
    ⟨some 53, .move (.tmp 0), none⟩,
    ⟨some 54, .call ⟨.builtin .len, #[(.tmp 53)], #[22]⟩, none⟩,
    ⟨some 55, .binOp .sub 3 (.tmp 54) (.const (.int .i64 1)) 3, none⟩,
    ⟨some 56, .indexAddr 22 (.tmp 52) (.tmp 55), none⟩,
    ⟨some 57, .fieldAddr 87 (.tmp 56) 0, none⟩,
    ⟨some 58, .load 3 (.tmp 57), none⟩,
    ⟨some 59, .call ⟨.value (.func 69), #[(.tmp 51), (.tmp 58)], #[3, 3]⟩, none⟩,
    ⟨some 60, .move (.tmp 3), none⟩]
    [⟨some 61, .call ⟨.value (.func 59), #[(.tmp 59), (.tmp 60)], #[24, 3]⟩, none⟩,
    ⟨some 11, .assign (.tmp 61), none⟩])
  (.seq (.reg [⟨some 62, .build 91 #[], none⟩,
    ⟨some 12, .alloc 91, none⟩,
    ⟨none, .store 91 (.tmp 12) (.tmp 62), none⟩])
  (.seq (.seq (.reg [⟨some 63, .load 24 (.tmp 5), none⟩,
    ⟨some 64, .load 24 (.tmp 10), none⟩,
    ⟨some 65, .buildSlice 30 2 #[(0, (.tmp 63)), (1, (.tmp 64))], none⟩,
    ⟨some 66, .call ⟨.builtin .len, #[(.tmp 65)], #[30]⟩, none⟩,
    ⟨some 67, .move (.const (.int .i64 0)), none⟩])
  (.block 0
    (.loop p10l2)))
  (.seq (.reg [⟨some 167, .move (.tmp 9), none⟩,
    ⟨some 168, .move (.tmp 167), none⟩,
    ⟨some 169, .indexAddr 91 (.tmp 12) (.const (.int .i64 1)), some ((some 168), true)⟩,
    ⟨some 170, .load 4 (.tmp 169), some ((some 168), true)⟩,
    ⟨some 171, .unOp .not 4 (.tmp 170), some ((some 168), true)⟩,
    ⟨some 172, .move (.tmp 171), some ((some 168), true)⟩,
    ⟨some 173, .indexAddr 91 (.tmp 12) (.const (.int .i64 0)), some ((some 172), false)⟩,
    ⟨some 174, .load 4 (.tmp 173), some ((some 172), false)⟩,
    ⟨some 175, .pick (.tmp 172) (.const (.bool true)) (.tmp 174), some ((some 168), true)⟩,
    ⟨some 176, .pick (.tmp 168) (.tmp 175) (.const (.bool false)), none⟩,
    ⟨some 177, .move (.tmp 176), none⟩,
    ⟨some 178, .indexAddr 91 (.tmp 12) (.const (.int .i64 3)), some ((some 177), true)⟩,
    ⟨some 179, .load 4 (.tmp 178), some ((some 177), true)⟩,
    ⟨some 180, .unOp .not 4 (.tmp 179), some ((some 177), true)⟩,
    ⟨some 181, .move (.tmp 180), some ((some 177), true)⟩,
    ⟨some 182, .indexAddr 91 (.tmp 12) (.const (.int .i64 2)), some ((some 181), false)⟩,
    ⟨some 183, .load 4 (.tmp 182), some ((some 181), false)⟩,
    ⟨some 184, .pick (.tmp 181) (.const (.bool true)) (.tmp 183), some ((some 177), true)⟩,
    ⟨some 185, .pick (.tmp 177) (.tmp 184) (.const (.bool false)), none⟩,
    ⟨some 186, .move (.tmp 185), none⟩,
    ⟨some 187, .indexAddr 91 (.tmp 12) (.const (.int .i64 2)), some ((some 186), true)⟩,
    ⟨some 188, .load 4 (.tmp 187), some ((some 186), true)⟩,
    ⟨some 189, .unOp .not 4 (.tmp 188), some ((some 186), true)⟩,
    ⟨some 190, .move (.tmp 189), some ((some 186), true)⟩,
    ⟨some 191, .indexAddr 91 (.tmp 12) (.const (.int .i64 0)), some ((some 190), false)⟩,
    ⟨some 192, .load 4 (.tmp 191), some ((some 190), false)⟩,
    ⟨some 193, .pick (.tmp 190) (.const (.bool true)) (.tmp 192), some ((some 186), true)⟩,
    ⟨some 194, .pick (.tmp 186) (.tmp 193) (.const (.bool false)), none⟩,
    ⟨some 195, .move (.tmp 194), none⟩,
    ⟨some 196, .indexAddr 91 (.tmp 12) (.const (.int .i64 3)), some ((some 195), true)⟩,
    ⟨some 197, .load 4 (.tmp 196), some ((some 195), true)⟩,
    ⟨some 198, .unOp .not 4 (.tmp 197), some ((some 195), true)⟩,
    ⟨some 199, .move (.tmp 198), some ((some 195), true)⟩,
    ⟨some 200, .indexAddr 91 (.tmp 12) (.const (.int .i64 1)), some ((some 199), false)⟩,
    ⟨some 201, .load 4 (.tmp 200), some ((some 199), false)⟩,
    ⟨some 202, .pick (.tmp 199) (.const (.bool true)) (.tmp 201), some ((some 195), true)⟩,
    ⟨some 203, .pick (.tmp 195) (.tmp 202) (.const (.bool false)), none⟩,
    ⟨some 8, .assign (.tmp 203), none⟩])
  .ret))))))))
theorem c10 : f10.body.bind (comp f10.ntmps) = some p10 := by kernel_rfl

def p11 : PC :=
  (.seq (.reg [⟨some 6, .box 24 (.tmp 0), none⟩,
    ⟨some 7, .box 24 (.tmp 1), none⟩,
    ⟨some 8, .box 24 (.tmp 2), none⟩,
    ⟨some 12, .assign (.const (.bool false)), none⟩])
  (.seq (.reg [⟨some 23, .call ⟨.value (.func 58), #[], #[]⟩, none⟩,
    ⟨some 13, .assign (.tmp 23), none⟩])
  (.seq (.reg [⟨some 25, .load 24 (.tmp 6), none⟩,
    ⟨some 26, .load 24 (.tmp 7), none⟩,
    ⟨some 27, .load 24 (.tmp 8), none⟩,
    ⟨some 28, .call ⟨.value (.func 30), #[(.tmp 25), (.tmp 26), (.tmp 27)], #[24, 24, 24]⟩, none⟩,
    ⟨some 24, .move (.tmp 28), none⟩,
    ⟨some 29, .extract (.tmp 24) 0, none⟩,
    ⟨some 30, .extract (.tmp 24) 1, none⟩,
    ⟨some 14, .alloc 24, none⟩,
    ⟨none, .store 24 (.tmp 14) (.tmp 29), none⟩,
    ⟨some 15, .assign (.tmp 30), none⟩])
  (.seq (.seq (.reg [⟨some 31, .move (.tmp 15), none⟩,
    ⟨some 32, .binOp .neq 25 (.tmp 31) (.const (.int .i64 0)) 25, none⟩,
    ⟨some 33, .move (.tmp 32), none⟩,
    ⟨some 34, .move (.tmp 13), some ((some 33), false)⟩,
    ⟨some 35, .unOp .not 4 (.tmp 34), some ((some 33), false)⟩,
    ⟨some 36, .pick (.tmp 33) (.const (.bool true)) (.tmp 35), none⟩])
  (.cond (.tmp 36)
    (.seq (.reg [⟨some 37, .move (.tmp 13), none⟩,
      ⟨some 38, .move (.tmp 37), none⟩,
      ⟨some 39, .load 24 (.tmp 14), some ((some 38), true)⟩,
      ⟨some 40, .build 24 #[], some ((some 38), true)⟩,
      ⟨some 41, .binOp .eql 24 (.tmp 39) (.tmp 40) 24, some ((some 38), true)⟩,
      ⟨some 42, .pick (.tmp 38) (.tmp 41) (.const (.bool false)), none⟩,
      ⟨some 12, .assign (.tmp 42), none⟩])
    .ret)
    .skip))
  (.seq (.draw [0, 0, 3, 0, 8, 31, 0, 64, 0, 0, 831, 2047, 0, 0, 16383, 0, 32768, 131071, 0, 0, 0, 2097151, 4194303, 8388607] [⟨some 43, .load 24 (.tmp 6), none⟩,
    ⟨some 44, .move (.tmp 3), none⟩,
    ⟨some 45, .call ⟨.value (.func 59), #[(.tmp 43), (.tmp 44)], #[24, 3]⟩, none⟩,
    ⟨some 46, .fieldAddr 24 (.tmp 6) 1, none⟩,
    ⟨some 47, .load 3 (.tmp 46), none⟩,
    ⟨some 48, .call ⟨.value (.func 69), #[(.tmp 45), (.tmp 47)], #[3, 3]⟩, none⟩,
    ⟨some 49, .fieldAddr 24 (.tmp 7) 0, none⟩,
    ⟨some 50, .load 3 (.tmp 49), none⟩,
    ⟨some 51, .load 24 (.tmp 7), none⟩,
    ⟨some 52, .move (.tmp 4), none⟩,
    ⟨some 53, .call ⟨.value (.func 59), #[(.tmp 51), (.tmp 52)], #[24, 3]⟩, none⟩,
    ⟨some 54, .call ⟨.value (.func 69), #[(.tmp 50), (.tmp 53)], #[3, 3]⟩, none⟩,
    ⟨some 55, .load 24 (.tmp 8), none⟩,
    ⟨some 56, .move (.tmp 5), none⟩,
    ⟨some 57, .call ⟨.value (.func 59), #[(.tmp 55), (.tmp 56)], #[24, 3]⟩, none⟩,
    ⟨some 58, .fieldAddr 24 (.tmp 8) 1, none⟩,
    ⟨some 59, .load 3 (.tmp 58), none⟩,
    ⟨some 60, .call ⟨.value (.func 69), #[(.tmp 57), (.tmp 59)], #[3, 3]⟩, none⟩,
    ⟨some 16, .alloc 24, none⟩,
    ⟨some 17, .alloc 24, none⟩,
    ⟨some 18, .alloc 24, none⟩]
    [⟨none, .store 24 (.tmp 16) (.tmp 48), none⟩,
    ⟨none, .store 24 (.tmp 17) (.tmp 54), none⟩,
    ⟨none, .store 24 (.tmp 18) (.tmp 60), none⟩])
  (.seq (.reg [⟨some 62, .load 24 (.tmp 16), none⟩,
    ⟨some 63, .load 24 (.tmp 17), none⟩,
    ⟨some 64, .load 24 (.tmp 18), none⟩,
    ⟨some 65, .call ⟨.value (.func 30), #[(.tmp 62), (.tmp 63), (.tmp 64)], #[24, 24, 24]⟩, none⟩,
    ⟨some 61, .move (.tmp 65), none⟩,
    ⟨some 66, .extract (.tmp 61) 0, none⟩,
    ⟨some 67, .extract (.tmp 61) 1, none⟩,
    ⟨some 19, .alloc 24, none⟩,
    ⟨none, .store 24 (.tmp 19) (.tmp 66), none⟩,
    ⟨some 20, .assign (.tmp 67), none⟩])
  (.seq (.reg [⟨some 69, .load 24 (.tmp 14), none⟩,
    ⟨some 70, .load 24 (.tmp 19), none⟩,
    ⟨some 71, .call ⟨.value (.func 44), #[(.tmp 69), (.tmp 70)], #[24, 24]⟩, none⟩,
    ⟨some 68, .move (.tmp 71), none⟩,
    ⟨some 72, .extract (.tmp 68) 0, none⟩,
    ⟨some 73, .extract (.tmp 68) 1, none⟩,
    ⟨some 21, .assign (.tmp 72), none⟩,
    ⟨some 22, .assign (.tmp 73), none⟩])
  (.seq (.reg [⟨some 74, .move (.tmp 13), none⟩,
    ⟨some 75, .move (.tmp 74), none⟩,
    ⟨some 76, .move (.tmp 20), some ((some 75), true)⟩,
    ⟨some 77, .binOp .eql 25 (.tmp 76) (.const (.int .i64 0)) 25, some ((some 75), true)⟩,
    ⟨some 78, .pick (.tmp 75) (.tmp 77) (.const (.bool false)), none⟩,
    ⟨some 79, .move (.tmp 78), none⟩,
    ⟨some 80, .move (.tmp 22), some ((some 79), true)⟩,
    ⟨some 81, .binOp .eql 25 (.tmp 80) (.const (.int .i64 0)) 25, some ((some 79), true)⟩,
    ⟨some 82, .pick (.tmp 79) (.tmp 81) (.const (.bool false)), none⟩,
    ⟨some 83, .move (.tmp 82), none⟩,
    ⟨some 84, .move (.tmp 21), some ((some 83), true)⟩,
    ⟨some 85, .pick (.tmp 83) (.tmp 84) (.const (.bool false)), none⟩,
    ⟨some 12, .assign (.tmp 85), none⟩])
  .ret))))))))
theorem c11 : f11.body.bind (comp f11.ntmps) = some p11 := by kernel_rfl

def p30l0 : PC :=
  (.seq (.reg [⟨some 27, .binOp .lss 3 (.tmp 26) (.const (.int .i64 8)) 3, none⟩])
  (.seq (.cond (.tmp 27)
    .skip
    (.exit 1))
  (.seq (.block 2
    (.seq (.reg [⟨some 28, .move (.tmp 26), none⟩,
      ⟨some 9, .assign (.tmp 28), none⟩])
    (.seq (.drawW [0, 1, 0, 4, 15, 0, 32, 0, 128, 480, 0, 1024, 0, 4096, 15360, 0, 0, 0, 229407, 492543, 1048575] [⟨some 29, .fieldAddr 24 (.tmp 3) 0, none⟩,
      ⟨some 30, .load 3 (.tmp 29), none⟩,
      ⟨some 31, .fieldAddr 24 (.tmp 3) 1, none⟩,
      ⟨some 32, .load 3 (.tmp 31), none⟩,
      ⟨some 33, .build 114 #[(0, (.tmp 30)), (1, (.tmp 32))], none⟩,
      ⟨some 34, .fieldAddr 24 (.tmp 4) 0, none⟩,
      ⟨some 35, .load 3 (.tmp 34), none⟩,
      ⟨some 36, .fieldAddr 24 (.tmp 4) 1, none⟩,
      ⟨some 37, .load 3 (.tmp 36), none⟩,
      ⟨some 38, .build 114 #[(0, (.tmp 35)), (1, (.tmp 37))], none⟩,
      ⟨some 39, .fieldAddr 24 (.tmp 5) 0, none⟩,
      ⟨some 40, .load 3 (.tmp 39), none⟩,
      ⟨some 41, .fieldAddr 24 (.tmp 5) 1, none⟩,
      ⟨some 42, .load 3 (.tmp 41), none⟩,
      ⟨some 43, .build 114 #[(0, (.tmp 40)), (1, (.tmp 42))], none⟩,
      ⟨some 10, .alloc 114, none⟩,
      ⟨some 11, .alloc 114, none⟩,
      ⟨some 12, .alloc 114, none⟩,
      ⟨none, .store 114 (.tmp 10) (.tmp 33), none⟩,
      ⟨none, .store 114 (.tmp 11) (.tmp 38), none⟩]
      [⟨none, .store 114 (.tmp 12) (.tmp 43), none⟩])
    (.draw [0, 0, 2, 6, 14, 0, 32, 96, 224, 480, 0, 1024, 3072, 7168, 16382, 32767, 65535] [⟨some 44, .move (.tmp 9), none⟩,
      ⟨some 45, .move (.tmp 9), none⟩,
      ⟨some 46, .binOp .and 3 (.tmp 45) (.const (.int .i64 1)) 3, none⟩,
      ⟨some 47, .indexAddr 114 (.tmp 10) (.tmp 46), none⟩,
      ⟨some 48, .load 3 (.tmp 47), none⟩,
      ⟨some 49, .move (.tmp 9), none⟩,
      ⟨some 50, .binOp .shr 3 (.tmp 49) (.const (.int .u64 1)) 116, none⟩,
      ⟨some 51, .binOp .and 3 (.tmp 50) (.const (.int .i64 1)) 3, none⟩,
      ⟨some 52, .indexAddr 114 (.tmp 11) (.tmp 51), none⟩,
      ⟨some 53, .load 3 (.tmp 52), none⟩,
      ⟨some 54, .move (.tmp 9), none⟩,
      ⟨some 55, .binOp .shr 3 (.tmp 54) (.const (.int .u64 2)) 116, none⟩,
      ⟨some 56, .indexAddr 114 (.tmp 12) (.tmp 55), none⟩,
      ⟨some 57, .load 3 (.tmp 56), none⟩,
      ⟨some 58, .call ⟨.value (.func 86), #[(.tmp 48), (.tmp 53), (.tmp 57)], #[3, 3, 3]⟩, none⟩]
      [⟨some 59, .indexAddr 113 (.tmp 8) (.tmp 44), none⟩,
      ⟨none, .store 24 (.tmp 59) (.tmp 58), none⟩]))))
  (.reg [⟨some 60, .binOp .add 3 (.tmp 26) (.const (.int .i64 1)) 3, none⟩,
    ⟨some 26, .move (.tmp 60), none⟩]))))
def p30 : PC :=
  (.seq (.reg [⟨some 3, .box 24 (.tmp 0), none⟩,
    ⟨some 4, .box 24 (.tmp 1), none⟩,
    ⟨some 5, .box 24 (.tmp 2), none⟩,
    ⟨some 6, .alloc 24, none⟩,
    ⟨some 7, .assign (.const (.int .i64 0)), none⟩])
  (.seq (.block 0
    (.seq (.reg [⟨some 14, .load 24 (.tmp 3), none⟩,
      ⟨some 15, .load 24 (.tmp 4), none⟩,
      ⟨some 16, .load 24 (.tmp 5), none⟩,
      ⟨some 17, .buildSlice 30 3 #[(0, (.tmp 14)), (1, (.tmp 15)), (2, (.tmp 16))], none⟩,
      ⟨some 18, .call ⟨.value (.func 85), #[(.tmp 17)], #[30]⟩, none⟩,
      ⟨some 19, .unOp .not 4 (.tmp 18), none⟩,
      ⟨some 13, .assign (.tmp 19), none⟩])
    (.cond (.tmp 13)
      (.seq (.reg [⟨some 20, .build 24 #[], none⟩,
        ⟨none, .store 24 (.tmp 6) (.tmp 20), none⟩,
        ⟨some 7, .assign (.const (.int .i64 10)), none⟩])
      .ret)
      (.seq (.reg [⟨some 22, .fieldAddr 24 (.tmp 5) 0, none⟩,
        ⟨some 23, .load 3 (.tmp 22), none⟩,
        ⟨some 24, .binOp .lss 3 (.tmp 23) (.const (.int .i64 1)) 3, none⟩,
        ⟨some 21, .assign (.tmp 24), none⟩])
      (.cond (.tmp 21)
        (.seq (.reg [⟨some 25, .build 24 #[], none⟩,
          ⟨none, .store 24 (.tmp 6) (.tmp 25), none⟩,
          ⟨some 7, .assign (.const (.int .i64 12)), none⟩])
        .ret)
        .skip)))))
  (.seq (.reg [⟨some 8, .alloc 113, none⟩])
  (.seq (.seq (.reg [⟨some 26, .move (.const (.int .i64 0)), none⟩])
  (.block 1
    (.loop p30l0)))
  (.seq (.reg [⟨some 61, .slice 113 (.tmp 8) none none none, none⟩,
    ⟨some 62, .call ⟨.value (.func 74), #[(.tmp 61)], #[30]⟩, none⟩,
    ⟨some 63, .call ⟨.value (.func 87), #[(.tmp 62)], #[24]⟩, none⟩,
    ⟨some 64, .extract (.tmp 63) 0, none⟩,
    ⟨some 65, .extract (.tmp 63) 1, none⟩,
    ⟨none, .store 24 (.tmp 6) (.tmp 64), none⟩,
    ⟨some 7, .assign (.tmp 65), none⟩])
  .ret)))))
theorem c30 : f30.body.bind (comp f30.ntmps) = some p30 := by kernel_rfl

def p31l0 : PC :=
  (.seq (.seq (.reg [⟨some 44, .move (.tmp 10), none⟩,
    ⟨some 45, .binOp .lss 3 (.tmp 44) (.const (.int .i64 8)) 3, none⟩])
  (.cond (.tmp 45)
    .skip
    (.exit 0)))
  (.seq (.block 1
    (.seq (.draw [0, 1, 0, 4, 0, 16, 3, 79, 255] [⟨some 48, .fieldAddr 24 (.tmp 3) 0, none⟩,
      ⟨some 49, .load 3 (.tmp 48), none⟩,
      ⟨some 50, .fieldAddr 24 (.tmp 4) 0, none⟩,
      ⟨some 51, .load 3 (.tmp 50), none⟩,
      ⟨some 52, .fieldAddr 24 (.tmp 5) 0, none⟩,
      ⟨some 53, .load 3 (.tmp 52), none⟩,
      ⟨some 11, .assign (.tmp 49), none⟩,
      ⟨some 12, .assign (.tmp 51), none⟩]
      [⟨some 13, .assign (.tmp 53), none⟩])
    (.seq (.seq (.reg [⟨some 54, .move (.tmp 10), none⟩,
      ⟨some 55, .binOp .rem 3 (.tmp 54) (.const (.int .i64 2)) 3, none⟩,
      ⟨some 56, .binOp .eql 3 (.tmp 55) (.const (.int .i64 1)) 3, none⟩])
    (.cond (.tmp 56)
      (.reg [⟨some 57, .fieldAddr 24 (.tmp 3) 1, none⟩,
        ⟨some 58, .load 3 (.tmp 57), none⟩,
        ⟨some 11, .assign (.tmp 58), none⟩])
      .skip))
    (.seq (.seq (.reg [⟨some 59, .move (.tmp 10), none⟩,
      ⟨some 60, .binOp .quo 3 (.tmp 59) (.const (.int .i64 2)) 3, none⟩,
      ⟨some 61, .binOp .rem 3 (.tmp 60) (.const (.int .i64 2)) 3, none⟩,
      ⟨some 62, .binOp .eql 3 (.tmp 61) (.const (.int .i64 1)) 3, none⟩])
    (.cond (.tmp 62)
      (.reg [⟨some 63, .fieldAddr 24 (.tmp 4) 1, none⟩,
        ⟨some 64, .load 3 (.tmp 63), none⟩,
        ⟨some 12, .assign (.tmp 64), none⟩])
      .skip))
    (.seq (.seq (.reg [⟨some 65, .move (.tmp 10), none⟩,
      ⟨some 66, .binOp .quo 3 (.tmp 65) (.const (.int .i64 4)) 3, none⟩,
      ⟨some 67, .binOp .eql 3 (.tmp 66) (.const (.int .i64 1)) 3, none⟩])
    (.cond (.tmp 67)
      (.reg [⟨some 68, .fieldAddr 24 (.tmp 5) 1, none⟩,
        ⟨some 69, .load 3 (.tmp 68), none⟩,
        ⟨some 13, .assign (.tmp 69), none⟩])
      .skip))
    (.seq (.reg [⟨some 71, .move (.tmp 11), none⟩,
      ⟨some 72, .move (.tmp 12), none⟩,
      ⟨some 73, .move (.tmp 13), none⟩,
      ⟨some 74, .call ⟨.value (.func 88), #[(.tmp 71), (.tmp 72), (.tmp 73)], #[3, 3, 3]⟩, none⟩,
      ⟨some 70, .move (.tmp 74), none⟩,
      ⟨some 75, .extract (.tmp 70) 0, none⟩,
      ⟨some 76, .extract (.tmp 70) 1, none⟩,
      ⟨some 14, .assign (.tmp 75), none⟩,
      ⟨some 15, .assign (.tmp 76), none⟩])
    (.seq (.reg [⟨some 77, .move (.tmp 8), none⟩,
      ⟨some 78, .move (.tmp 14), none⟩,
      ⟨some 79, .call ⟨.builtin .min, #[(.tmp 77), (.tmp 78)], #[3, 3]⟩, none⟩,
      ⟨some 8, .assign (.tmp 79), none⟩])
    (.reg [⟨some 80, .move (.tmp 9), none⟩,
      ⟨some 81, .move (.tmp 15), none⟩,
      ⟨some 82, .call ⟨.builtin .max, #[(.tmp 80), (.tmp 81)], #[3, 3]⟩, none⟩,
      ⟨some 9, .assign (.tmp 82), none⟩]))))))))
  (.reg [⟨some 46, .move (.tmp 10), none⟩,
    ⟨some 47, .binOp .add 3 (.tmp 46) (.const (.int .i64 1)) 3, none⟩,
    ⟨some 10, .assign (.tmp 47), none⟩])))
def p31 : PC :=
  (.seq (.reg [⟨some 3, .box 24 (.tmp 0), none⟩,
    ⟨some 4, .box 24 (.tmp 1), none⟩,
    ⟨some 5, .box 24 (.tmp 2), none⟩,
    ⟨some 6, .alloc 24, none⟩,
    ⟨some 7, .assign (.const (.int .i64 0)), none⟩])
  (.seq (.seq (.reg [⟨some 16, .load 24 (.tmp 3), none⟩,
    ⟨some 17, .call ⟨.value (.func 77), #[(.tmp 16)], #[24]⟩, none⟩,
    ⟨some 18, .unOp .not 4 (.tmp 17), none⟩,
    ⟨some 19, .move (.tmp 18), none⟩,
    ⟨some 20, .load 24 (.tmp 4), some ((some 19), false)⟩,
    ⟨some 21, .call ⟨.value (.func 77), #[(.tmp 20)], #[24]⟩, some ((some 19), false)⟩,
    ⟨some 22, .unOp .not 4 (.tmp 21), some ((some 19), false)⟩,
    ⟨some 23, .pick (.tmp 19) (.const (.bool true)) (.tmp 22), none⟩,
    ⟨some 24, .move (.tmp 23), none⟩,
    ⟨some 25, .load 24 (.tmp 5), some ((some 24), false)⟩,
    ⟨some 26, .call ⟨.value (.func 77), #[(.tmp 25)], #[24]⟩, some ((some 24), false)⟩,
    ⟨some 27, .unOp .not 4 (.tmp 26), some ((some 24), false)⟩,
    ⟨some 28, .pick (.tmp 24) (.const (.bool true)) (.tmp 27), none⟩])
  (.cond (.tmp 28)
    (.seq (.reg [⟨some 29, .build 24 #[], none⟩,
      ⟨none, .store 24 (.tmp 6) (.tmp 29), none⟩,
      ⟨some 7, .assign (.const (.int .i64 10)), none⟩])
    .ret)
    .skip))
  (.seq (.seq (.reg [⟨some 30, .fieldAddr 24 (.tmp 5) 0, none⟩,
    ⟨some 31, .load 3 (.tmp 30), none⟩,
    ⟨some 32, .binOp .leq 3 (.tmp 31) (.const (.int .i64 0)) 3, none⟩])
  (.cond (.tmp 32)
    (.seq (.reg [⟨some 33, .build 24 #[], none⟩,
      ⟨none, .store 24 (.tmp 6) (.tmp 33), none⟩,
      ⟨some 7, .assign (.const (.int .i64 12)), none⟩])
    .ret)
    .skip))
  (.seq (.reg [⟨some 35, .fieldAddr 24 (.tmp 3) 0, none⟩,
    ⟨some 36, .load 3 (.tmp 35), none⟩,
    ⟨some 37, .fieldAddr 24 (.tmp 4) 0, none⟩,
    ⟨some 38, .load 3 (.tmp 37), none⟩,
    ⟨some 39, .fieldAddr 24 (.tmp 5) 0, none⟩,
    ⟨some 40, .load 3 (.tmp 39), none⟩,
    ⟨some 41, .call ⟨.value (.func 88), #[(.tmp 36), (.tmp 38), (.tmp 40)], #[3, 3, 3]⟩, none⟩,
    ⟨some 34, .move (.tmp 41), none⟩,
    ⟨some 42, .extract (.tmp 34) 0, none⟩,
    ⟨some 43, .extract (.tmp 34) 1, none⟩,
    ⟨some 8, .assign (.tmp 42), none⟩,
    ⟨some 9, .assign (.tmp 43), none⟩])
  (.seq (.seq (.reg [⟨some 10, .assign (.const (.int .i64 0)), none⟩])
  (.block 0
    (.loop p31l0)))
  (.seq (.reg [⟨some 83, .move (.tmp 8), none⟩,
    ⟨some 84, .move (.tmp 9), none⟩,
    ⟨some 85, .call ⟨.value (.func 89), #[(.tmp 83), (.tmp 84)], #[3, 3]⟩, none⟩,
    ⟨some 86, .extract (.tmp 85) 0, none⟩,
    ⟨some 87, .extract (.tmp 85) 1, none⟩,
    ⟨none, .store 24 (.tmp 6) (.tmp 86), none⟩,
    ⟨some 7, .assign (.tmp 87), none⟩])
  .ret))))))
theorem c31 : f31.body.bind (comp f31.ntmps) = some p31 := by kernel_rfl

def p32 : PC :=
  (.seq (.reg [⟨some 1, .box 24 (.tmp 0), none⟩,
    ⟨some 2, .alloc 24, none⟩,
    ⟨some 3, .assign (.const (.int .i64 0)), none⟩])
  (.seq (.block 0
    (.seq (.reg [⟨some 6, .load 24 (.tmp 1), none⟩,
      ⟨some 7, .buildSlice 30 1 #[(0, (.tmp 6))], none⟩,
      ⟨some 8, .call ⟨.value (.func 85), #[(.tmp 7)], #[30]⟩, none⟩,
      ⟨some 9, .unOp .not 4 (.tmp 8), none⟩,
      ⟨some 5, .assign (.tmp 9), none⟩])
    (.cond (.tmp 5)
      (.seq (.reg [⟨some 10, .build 24 #[], none⟩,
        ⟨none, .store 24 (.tmp 2) (.tmp 10), none⟩,
        ⟨some 3, .assign (.const (.int .i64 10)), none⟩])
      .ret)
      (.seq (.reg [⟨some 12, .fieldAddr 24 (.tmp 1) 0, none⟩,
        ⟨some 13, .load 3 (.tmp 12), none⟩,
        ⟨some 14, .binOp .lss 3 (.tmp 13) (.const (.int .i64 0)) 3, none⟩,
        ⟨some 11, .assign (.tmp 14), none⟩])
      (.cond (.tmp 11)
        (.seq (.reg [⟨some 15, .build 24 #[], none⟩,
          ⟨none, .store 24 (.tmp 2) (.tmp 15), none⟩,
          ⟨some 3, .assign (.const (.int .i64 2)), none⟩])
        .ret)
        .skip)))))
  (.seq (.draw [0, 1, 3, 0, 8, 31, 63, 0, 255] [⟨some 16, .fieldAddr 24 (.tmp 1) 0, none⟩,
    ⟨some 17, .load 3 (.tmp 16), none⟩,
    ⟨some 18, .call ⟨.value (.func 90), #[(.tmp 17)], #[3]⟩, none⟩,
    ⟨some 19, .fieldAddr 24 (.tmp 1) 1, none⟩,
    ⟨some 20, .load 3 (.tmp 19), none⟩,
    ⟨some 21, .call ⟨.value (.func 90), #[(.tmp 20)], #[3]⟩, none⟩,
    ⟨some 22, .build 24 #[(0, (.tmp 18)), (1, (.tmp 21))], none⟩,
    ⟨some 4, .alloc 24, none⟩]
    [⟨none, .store 24 (.tmp 4) (.tmp 22), none⟩])
  (.seq (.seq (.reg [⟨some 23, .fieldAddr 24 (.tmp 4) 1, none⟩,
    ⟨some 24, .load 3 (.tmp 23), none⟩,
    ⟨some 25, .fieldAddr 24 (.tmp 4) 1, none⟩,
    ⟨some 26, .load 3 (.tmp 25), none⟩,
    ⟨some 27, .binOp .mul 3 (.tmp 24) (.tmp 26) 3, none⟩,
    ⟨some 28, .fieldAddr 24 (.tmp 1) 1, none⟩,
    ⟨some 29, .load 3 (.tmp 28), none⟩,
    ⟨some 30, .binOp .neq 3 (.tmp 27) (.tmp 29) 3, none⟩])
  (.cond (.tmp 30)
    (.reg [⟨some 31, .fieldAddr 24 (.tmp 4) 1, none⟩,
      ⟨some 32, .load 3 (.tmp 31), none⟩,
      ⟨some 33, .binOp .add 3 (.tmp 32) (.const (.int .i64 1)) 3, none⟩,
      ⟨some 34, .fieldAddr 24 (.tmp 4) 1, none⟩,
      ⟨none, .store 3 (.tmp 34) (.tmp 33), none⟩])
    .skip))
  (.seq (.reg [⟨some 35, .load 24 (.tmp 4), none⟩,
    ⟨none, .store 24 (.tmp 2) (.tmp 35), none⟩,
    ⟨some 3, .assign (.const (.int .i64 0)), none⟩])
  .ret)))))
theorem c32 : f32.body.bind (comp f32.ntmps) = some p32 := by kernel_rfl

def p33 : PC :=
  (.seq (.reg [⟨some 1, .box 24 (.tmp 0), none⟩,
    ⟨some 2, .alloc 24, none⟩,
    ⟨some 3, .assign (.const (.int .i64 0)), none⟩])
  (.seq (.seq (.reg [⟨some 5, .load 24 (.tmp 1), none⟩,
    ⟨some 6, .call ⟨.value (.func 77), #[(.tmp 5)], #[24]⟩, none⟩,
    ⟨some 7, .unOp .not 4 (.tmp 6), none⟩])
  (.cond (.tmp 7)
    (.seq (.reg [⟨some 8, .build 24 #[], none⟩,
      ⟨none, .store 24 (.tmp 2) (.tmp 8), none⟩,
      ⟨some 3, .assign (.const (.int .i64 10)), none⟩])
    .ret)
    .skip))
  (.seq (.seq (.reg [⟨some 9, .fieldAddr 24 (.tmp 1) 0, none⟩,
    ⟨some 10, .load 3 (.tmp 9), none⟩,
    ⟨some 11, .binOp .lss 3 (.tmp 10) (.const (.int .i64 0)) 3, none⟩])
  (.cond (.tmp 11)
    (.seq (.reg [⟨some 12, .build 24 #[], none⟩,
      ⟨none, .store 24 (.tmp 2) (.tmp 12), none⟩,
      ⟨some 3, .assign (.const (.int .i64 2)), none⟩])
    .ret)
    .skip))
  (.seq (.reg [⟨some 13, .fieldAddr 24 (.tmp 1) 1, none⟩,
    ⟨some 14, .load 3 (.tmp 13), none⟩,
    ⟨some 15, .call ⟨.value (.func 91), #[(.tmp 14)], #[3]⟩, none⟩,
    ⟨some 4, .assign (.tmp 15), none⟩])
  (.seq (.seq (.reg [⟨some 16, .move (.tmp 4), none⟩,
    ⟨some 17, .move (.tmp 4), none⟩,
    ⟨some 18, .binOp .mul 3 (.tmp 16) (.tmp 17) 3, none⟩,
    ⟨some 19, .fieldAddr 24 (.tmp 1) 1, none⟩,
    ⟨some 20, .load 3 (.tmp 19), none⟩,
    ⟨some 21, .binOp .lss 3 (.tmp 18) (.tmp 20) 3, none⟩])
  (.cond (.tmp 21)
    (.reg [⟨some 22, .move (.tmp 4), none⟩,
      ⟨some 23, .binOp .add 3 (.tmp 22) (.const (.int .i64 1)) 3, none⟩,
      ⟨some 4, .assign (.tmp 23), none⟩])
    .skip))
  (.seq (.reg [⟨some 24, .fieldAddr 24 (.tmp 1) 0, none⟩,
    ⟨some 25, .load 3 (.tmp 24), none⟩,
    ⟨some 26, .call ⟨.value (.func 91), #[(.tmp 25)], #[3]⟩, none⟩,
    ⟨some 27, .move (.tmp 4), none⟩,
    ⟨some 28, .build 24 #[(0, (.tmp 26)), (1, (.tmp 27))], none⟩,
    ⟨none, .store 24 (.tmp 2) (.tmp 28), none⟩,
    ⟨some 3, .assign (.const (.int .i64 0)), none⟩])
  .ret))))))
theorem c33 : f33.body.bind (comp f33.ntmps) = some p33 := by kernel_rfl

def p34 : PC :=
  (.seq (.reg [⟨some 2, .box 24 (.tmp 0), none⟩,
    ⟨some 3, .box 24 (.tmp 1), none⟩,
    ⟨some 4, .alloc 24, none⟩,
    ⟨some 5, .assign (.const (.int .i64 0)), none⟩])
  (.seq (.seq (.reg [⟨some 6, .load 24 (.tmp 2), none⟩,
    ⟨some 7, .load 24 (.tmp 3), none⟩,
    ⟨some 8, .buildSlice 30 2 #[(0, (.tmp 6)), (1, (.tmp 7))], none⟩,
    ⟨some 9, .call ⟨.value (.func 85), #[(.tmp 8)], #[30]⟩, none⟩,
    ⟨some 10, .unOp .not 4 (.tmp 9), none⟩])
  (.cond (.tmp 10)
    (.seq (.reg [⟨some 11, .build 24 #[], none⟩,
      ⟨none, .store 24 (.tmp 4) (.tmp 11), none⟩,
      ⟨some 5, .assign (.const (.int .i64 10)), none⟩])
    .ret)
    .skip))
  (.seq (.reg [⟨some 12, .fieldAddr 24 (.tmp 2) 0, none⟩,
    ⟨some 13, .load 3 (.tmp 12), none⟩,
    ⟨some 14, .fieldAddr 24 (.tmp 3) 0, none⟩,
    ⟨some 15, .load 3 (.tmp 14), none⟩,
    ⟨some 16, .binOp .add 3 (.tmp 13) (.tmp 15) 3, none⟩,
    ⟨some 17, .fieldAddr 24 (.tmp 2) 1, none⟩,
    ⟨some 18, .load 3 (.tmp 17), none⟩,
    ⟨some 19, .fieldAddr 24 (.tmp 3) 1, none⟩,
    ⟨some 20, .load 3 (.tmp 19), none⟩,
    ⟨some 21, .binOp .add 3 (.tmp 18) (.tmp 20) 3, none⟩,
    ⟨some 22, .build 24 #[(0, (.tmp 16)), (1, (.tmp 21))], none⟩,
    ⟨some 23, .call ⟨.value (.func 87), #[(.tmp 22)], #[24]⟩, none⟩,
    ⟨some 24, .extract (.tmp 23) 0, none⟩,
    ⟨some 25, .extract (.tmp 23) 1, none⟩,
    ⟨none, .store 24 (.tmp 4) (.tmp 24), none⟩,
    ⟨some 5, .assign (.tmp 25), none⟩])
  .ret)))
theorem c34 : f34.body.bind (comp f34.ntmps) = some p34 := by kernel_rfl

def p35 : PC :=
  (.seq (.reg [⟨some 2, .box 24 (.tmp 0), none⟩,
    ⟨some 3, .box 24 (.tmp 1), none⟩,
    ⟨some 4, .alloc 24, none⟩,
    ⟨some 5, .assign (.const (.int .i64 0)), none⟩])
  (.seq (.seq (.reg [⟨some 6, .load 24 (.tmp 2), none⟩,
    ⟨some 7, .call ⟨.value (.func 77), #[(.tmp 6)], #[24]⟩, none⟩,
    ⟨some 8, .unOp .not 4 (.tmp 7), none⟩,
    ⟨some 9, .move (.tmp 8), none⟩,
    ⟨some 10, .load 24 (.tmp 3), some ((some 9), false)⟩,
    ⟨some 11, .call ⟨.value (.func 77), #[(.tmp 10)], #[24]⟩, some ((some 9), false)⟩,
    ⟨some 12, .unOp .not 4 (.tmp 11), some ((some 9), false)⟩,
    ⟨some 13, .pick (.tmp 9) (.const (.bool true)) (.tmp 12), none⟩])
  (.cond (.tmp 13)
    (.seq (.reg [⟨some 14, .build 24 #[], none⟩,
      ⟨none, .store 24 (.tmp 4) (.tmp 14), none⟩,
      ⟨some 5, .assign (.const (.int .i64 10)), none⟩])
    .ret)
    .skip))
  (.seq (.reg [⟨some 15, .fieldAddr 24 (.tmp 2) 0, none⟩,
    ⟨some 16, .load 3 (.tmp 15), none⟩,
    ⟨some 17, .fieldAddr 24 (.tmp 3) 0, none⟩,
    ⟨some 18, .load 3 (.tmp 17), none⟩,
    ⟨some 19, .binOp .add 3 (.tmp 16) (.tmp 18) 3, none⟩,
    ⟨some 20, .fieldAddr 24 (.tmp 2) 1, none⟩,
    ⟨some 21, .load 3 (.tmp 20), none⟩,
    ⟨some 22, .fieldAddr 24 (.tmp 3) 1, none⟩,
    ⟨some 23, .load 3 (.tmp 22), none⟩,
    ⟨some 24, .binOp .add 3 (.tmp 21) (.tmp 23) 3, none⟩,
    ⟨some 25, .call ⟨.value (.func 89), #[(.tmp 19), (.tmp 24)], #[3, 3]⟩, none⟩,
    ⟨some 26, .extract (.tmp 25) 0, none⟩,
    ⟨some 27, .extract (.tmp 25) 1, none⟩,
    ⟨none, .store 24 (.tmp 4) (.tmp 26), none⟩,
    ⟨some 5, .assign (.tmp 27), none⟩])
  .ret)))
theorem c35 : f35.body.bind (comp f35.ntmps) = some p35 := by kernel_rfl

def p36 : PC :=
  (.seq (.reg [⟨some 2, .box 24 (.tmp 0), none⟩,
    ⟨some 3, .box 24 (.tmp 1), none⟩,
    ⟨some 4, .alloc 24, none⟩,
    ⟨some 5, .assign (.const (.int .i64 0)), none⟩])
  (.seq (.seq (.reg [⟨some 6, .load 24 (.tmp 2), none⟩,
    ⟨some 7, .load 24 (.tmp 3), none⟩,
    ⟨some 8, .buildSlice 30 2 #[(0, (.tmp 6)), (1, (.tmp 7))], none⟩,
    ⟨some 9, .call ⟨.value (.func 85), #[(.tmp 8)], #[30]⟩, none⟩,
    ⟨some 10, .unOp .not 4 (.tmp 9), none⟩])
  (.cond (.tmp 10)
    (.seq (.reg [⟨some 11, .build 24 #[], none⟩,
      ⟨none, .store 24 (.tmp 4) (.tmp 11), none⟩,
      ⟨some 5, .assign (.const (.int .i64 10)), none⟩])
    .ret)
    .skip))
  (.seq (.reg [⟨some 12, .load 24 (.tmp 2), none⟩,
    ⟨some 13, .fieldAddr 24 (.tmp 3) 1, none⟩,
    ⟨some 14, .load 3 (.tmp 13), none⟩,
    ⟨some 15, .unOp .neg 3 (.tmp 14), none⟩,
    ⟨some 16, .fieldAddr 24 (.tmp 3) 0, none⟩,
    ⟨some 17, .load 3 (.tmp 16), none⟩,
    ⟨some 18, .unOp .neg 3 (.tmp 17), none⟩,
    ⟨some 19, .build 24 #[(0, (.tmp 15)), (1, (.tmp 18))], none⟩,
    ⟨some 20, .call ⟨.value (.func 34), #[(.tmp 12), (.tmp 19)], #[24, 24]⟩, none⟩,
    ⟨some 21, .extract (.tmp 20) 0, none⟩,
    ⟨some 22, .extract (.tmp 20) 1, none⟩,
    ⟨none, .store 24 (.tmp 4) (.tmp 21), none⟩,
    ⟨some 5, .assign (.tmp 22), none⟩])
  .ret)))
theorem c36 : f36.body.bind (comp f36.ntmps) = some p36 := by kernel_rfl

def p37 : PC :=
  (.seq (.reg [⟨some 2, .box 24 (.tmp 0), none⟩,
    ⟨some 3, .box 24 (.tmp 1), none⟩,
    ⟨some 4, .alloc 24, none⟩,
    ⟨some 5, .assign (.const (.int .i64 0)), none⟩])
  (.seq (.seq (.reg [⟨some 6, .load 24 (.tmp 2), none⟩,
    ⟨some 7, .call ⟨.value (.func 77), #[(.tmp 6)], #[24]⟩, none⟩,
    ⟨some 8, .unOp .not 4 (.tmp 7), none⟩,
    ⟨some 9, .move (.tmp 8), none⟩,
    ⟨some 10, .load 24 (.tmp 3), some ((some 9), false)⟩,
    ⟨some 11, .call ⟨.value (.func 77), #[(.tmp 10)], #[24]⟩, some ((some 9), false)⟩,
    ⟨some 12, .unOp .not 4 (.tmp 11), some ((some 9), false)⟩,
    ⟨some 13, .pick (.tmp 9) (.const (.bool true)) (.tmp 12), none⟩])
  (.cond (.tmp 13)
    (.seq (.reg [⟨some 14, .build 24 #[], none⟩,
      ⟨none, .store 24 (.tmp 4) (.tmp 14), none⟩,
      ⟨some 5, .assign (.const (.int .i64 10)), none⟩])
    .ret)
    .skip))
  (.seq (.reg [⟨some 15, .fieldAddr 24 (.tmp 2) 0, none⟩,
    ⟨some 16, .load 3 (.tmp 15), none⟩,
    ⟨some 17, .fieldAddr 24 (.tmp 3) 1, none⟩,
    ⟨some 18, .load 3 (.tmp 17), none⟩,
    ⟨some 19, .binOp .sub 3 (.tmp 16) (.tmp 18) 3, none⟩,
    ⟨some 20, .fieldAddr 24 (.tmp 2) 1, none⟩,
    ⟨some 21, .load 3 (.tmp 20), none⟩,
    ⟨some 22, .fieldAddr 24 (.tmp 3) 0, none⟩,
    ⟨some 23, .load 3 (.tmp 22), none⟩,
    ⟨some 24, .binOp .sub 3 (.tmp 21) (.tmp 23) 3, none⟩,
    ⟨some 25, .call ⟨.value (.func 89), #[(.tmp 19), (.tmp 24)], #[3, 3]⟩, none⟩,
    ⟨some 26, .extract (.tmp 25) 0, none⟩,
    ⟨some 27, .extract (.tmp 25) 1, none⟩,
    ⟨none, .store 24 (.tmp 4) (.tmp 26), none⟩,
    ⟨some 5, .assign (.tmp 27), none⟩])
  .ret)))
theorem c37 : f37.body.bind (comp f37.ntmps) = some p37 := by kernel_rfl

def p38 : PC :=
  (.seq (.reg [⟨some 2, .box 24 (.tmp 0), none⟩,
    ⟨some 3, .box 24 (.tmp 1), none⟩,
    ⟨some 4, .alloc 24, none⟩,
    ⟨some 5, .assign (.const (.int .i64 0)), none⟩])
  (.seq (.reg [⟨some 6, .load 24 (.tmp 2), none⟩,
    ⟨some 7, .load 24 (.tmp 3), none⟩,
    ⟨some 8, .build 24 #[(0, (.const (.int .i64 1))), (1, (.const (.int .i64 1)))], none⟩,
    ⟨some 9, .call ⟨.value (.func 30), #[(.tmp 6), (.tmp 7), (.tmp 8)], #[24, 24, 24]⟩, none⟩,
    ⟨some 10, .extract (.tmp 9) 0, none⟩,
    ⟨some 11, .extract (.tmp 9) 1, none⟩,
    ⟨none, .store 24 (.tmp 4) (.tmp 10), none⟩,
    ⟨some 5, .assign (.tmp 11), none⟩])
  .ret))
theorem c38 : f38.body.bind (comp f38.ntmps) = some p38 := by kernel_rfl

def p39 : PC :=
  (.seq (.reg [⟨some 2, .box 24 (.tmp 0), none⟩,
    ⟨some 3, .box 24 (.tmp 1), none⟩,
    ⟨some 4, .alloc 24, none⟩,
    ⟨some 5, .assign (.const (.int .i64 0)), none⟩])
  (.seq (.seq (.reg [⟨some 6, .load 24 (.tmp 2), none⟩,
    ⟨some 7, .call ⟨.value (.func 77), #[(.tmp 6)], #[24]⟩, none⟩,
    ⟨some 8, .unOp .not 4 (.tmp 7), none⟩,
    ⟨some 9, .move (.tmp 8), none⟩,
    ⟨some 10, .load 24 (.tmp 3), some ((some 9), false)⟩,
    ⟨some 11, .call ⟨.value (.func 77), #[(.tmp 10)], #[24]⟩, some ((some 9), false)⟩,
    ⟨some 12, .unOp .not 4 (.tmp 11), some ((some 9), false)⟩,
    ⟨some 13, .pick (.tmp 9) (.const (.bool true)) (.tmp 12), none⟩])
  (.cond (.tmp 13)
    (.seq (.reg [⟨some 14, .build 24 #[], none⟩,
      ⟨none, .store 24 (.tmp 4) (.tmp 14), none⟩,
      ⟨some 5, .assign (.const (.int .i64 10)), none⟩])
    .ret)
    .skip))
  (.seq (.reg [⟨some 15, .load 24 (.tmp 2), none⟩,
    ⟨some 16, .load 24 (.tmp 3), none⟩,
    ⟨some 17, .build 24 #[(0, (.const (.int .i64 1))), (1, (.const (.int .i64 1)))], none⟩,
    ⟨some 18, .call ⟨.value (.func 31), #[(.tmp 15), (.tmp 16), (.tmp 17)], #[24, 24, 24]⟩, none⟩,
    ⟨some 19, .extract (.tmp 18) 0, none⟩,
    ⟨some 20, .extract (.tmp 18) 1, none⟩,
    ⟨none, .store 24 (.tmp 4) (.tmp 19), none⟩,
    ⟨some 5, .assign (.tmp 20), none⟩])
  .ret)))
theorem c39 : f39.body.bind (comp f39.ntmps) = some p39 := by kernel_rfl

def p40 : PC :=
  (.seq (.reg [⟨some 2, .box 24 (.tmp 0), none⟩,
    ⟨some 3, .box 24 (.tmp 1), none⟩,
    ⟨some 4, .alloc 24, none⟩,
    ⟨some 5, .assign (.const (.int .i64 0)), none⟩])
  (.seq (.seq (.reg [⟨some 7, .load 24 (.tmp 2), none⟩,
    ⟨some 8, .load 24 (.tmp 3), none⟩,
    ⟨some 9, .buildSlice 30 2 #[(0, (.tmp 7)), (1, (.tmp 8))], none⟩,
    ⟨some 10, .call ⟨.value (.func 85), #[(.tmp 9)], #[30]⟩, none⟩,
    ⟨some 11, .unOp .not 4 (.tmp 10), none⟩])
  (.cond (.tmp 11)
    (.seq (.reg [⟨some 12, .build 24 #[], none⟩,
      ⟨none, .store 24 (.tmp 4) (.tmp 12), none⟩,
      ⟨some 5, .assign (.const (.int .i64 10)), none⟩])
    .ret)
    .skip))
  (.seq (.seq (.reg [⟨some 13, .fieldAddr 24 (.tmp 2) 0, none⟩,
    ⟨some 14, .load 3 (.tmp 13), none⟩,
    ⟨some 15, .fieldAddr 24 (.tmp 3) 0, none⟩,
    ⟨some 16, .load 3 (.tmp 15), none⟩,
    ⟨some 17, .call ⟨.builtin .max, #[(.tmp 14), (.tmp 16)], #[3, 3]⟩, none⟩,
    ⟨some 18, .fieldAddr 24 (.tmp 2) 1, none⟩,
    ⟨some 19, .load 3 (.tmp 18), none⟩,
    ⟨some 20, .fieldAddr 24 (.tmp 3) 1, none⟩,
    ⟨some 21, .load 3 (.tmp 20), none⟩,
    ⟨some 22, .call ⟨.builtin .min, #[(.tmp 19), (.tmp 21)], #[3, 3]⟩, none⟩,
    ⟨some 23, .build 24 #[(0, (.tmp 17)), (1, (.tmp 22))], none⟩,
    ⟨some 6, .alloc 24, none⟩,
    ⟨none, .store 24 (.tmp 6) (.tmp 23), none⟩])
  (.seq (.reg [⟨some 24, .fieldAddr 24 (.tmp 6) 0, none⟩,
    ⟨some 25, .load 3 (.tmp 24), none⟩,
    ⟨some 26, .fieldAddr 24 (.tmp 6) 1, none⟩,
    ⟨some 27, .load 3 (.tmp 26), none⟩,
    ⟨some 28, .binOp .leq 3 (.tmp 25) (.tmp 27) 3, none⟩])
  (.cond (.tmp 28)
    (.seq (.reg [⟨some 29, .load 24 (.tmp 6), none⟩,
      ⟨none, .store 24 (.tmp 4) (.tmp 29), none⟩,
      ⟨some 5, .assign (.const (.int .i64 0)), none⟩])
    .ret)
    .skip)))
  (.seq (.reg [⟨some 30, .build 24 #[], none⟩,
    ⟨none, .store 24 (.tmp 4) (.tmp 30), none⟩,
    ⟨some 5, .assign (.const (.int .i64 6)), none⟩])
  .ret))))
theorem c40 : f40.body.bind (comp f40.ntmps) = some p40 := by kernel_rfl

def p41 : PC :=
  (.seq (.reg [⟨some 2, .box 24 (.tmp 0), none⟩,
    ⟨some 3, .box 24 (.tmp 1), none⟩,
    ⟨some 4, .alloc 24, none⟩,
    ⟨some 5, .assign (.const (.int .i64 0)), none⟩])
  (.seq (.seq (.reg [⟨some 7, .load 24 (.tmp 2), none⟩,
    ⟨some 8, .call ⟨.value (.func 77), #[(.tmp 7)], #[24]⟩, none⟩,
    ⟨some 9, .unOp .not 4 (.tmp 8), none⟩,
    ⟨some 10, .move (.tmp 9), none⟩,
    ⟨some 11, .load 24 (.tmp 3), some ((some 10), false)⟩,
    ⟨some 12, .call ⟨.value (.func 77), #[(.tmp 11)], #[24]⟩, some ((some 10), false)⟩,
    ⟨some 13, .unOp .not 4 (.tmp 12), some ((some 10), false)⟩,
    ⟨some 14, .pick (.tmp 10) (.const (.bool true)) (.tmp 13), none⟩])
  (.cond (.tmp 14)
    (.seq (.reg [⟨some 15, .build 24 #[], none⟩,
      ⟨none, .store 24 (.tmp 4) (.tmp 15), none⟩,
      ⟨some 5, .assign (.const (.int .i64 10)), none⟩])
    .ret)
    .skip))
  (.seq (.reg [⟨some 16, .fieldAddr 24 (.tmp 2) 0, none⟩,
    ⟨some 17, .load 3 (.tmp 16), none⟩,
    ⟨some 18, .fieldAddr 24 (.tmp 3) 0, none⟩,
    ⟨some 19, .load 3 (.tmp 18), none⟩,
    ⟨some 20, .call ⟨.builtin .max, #[(.tmp 17), (.tmp 19)], #[3, 3]⟩, none⟩,
    ⟨some 21, .fieldAddr 24 (.tmp 2) 1, none⟩,
    ⟨some 22, .load 3 (.tmp 21), none⟩,
    ⟨some 23, .fieldAddr 24 (.tmp 3) 1, none⟩,
    ⟨some 24, .load 3 (.tmp 23), none⟩,
    ⟨some 25, .call ⟨.builtin .min, #[(.tmp 22), (.tmp 24)], #[3, 3]⟩, none⟩,
    ⟨some 26, .build 24 #[(0, (.tmp 20)), (1, (.tmp 25))], none⟩,
    ⟨some 6, .alloc 24, none⟩,
    ⟨none, .store 24 (.tmp 6) (.tmp 26), none⟩])
  (.seq (.seq (.reg [⟨some 27, .fieldAddr 24 (.tmp 6) 0, none⟩,
    ⟨some 28, .load 3 (.tmp 27), none⟩,
    ⟨some 29, .fieldAddr 24 (.tmp 6) 1, none⟩,
    ⟨some 30, .load 3 (.tmp 29), none⟩,
    ⟨some 31, .binOp .gtr 3 (.tmp 28) (.tmp 30) 3, none⟩])
  (.cond (.tmp 31)
    (.seq (.reg [⟨some 32, .build 24 #[], none⟩,
      ⟨none, .store 24 (.tmp 4) (.tmp 32), none⟩,
      ⟨some 5, .assign (.const (.int .i64 6)), none⟩])
    .ret)
    .skip))
  (.seq (.reg [⟨some 33, .load 24 (.tmp 6), none⟩,
    ⟨none, .store 24 (.tmp 4) (.tmp 33), none⟩,
    ⟨some 5, .assign (.const (.int .i64 0)), none⟩])
  .ret)))))
theorem c41 : f41.body.bind (comp f41.ntmps) = some p41 := by kernel_rfl

def p42 : PC :=
  (.seq (.reg [⟨some 2, .box 24 (.tmp 0), none⟩,
    ⟨some 3, .box 24 (.tmp 1), none⟩,
    ⟨some 4, .alloc 24, none⟩,
    ⟨some 5, .assign (.const (.int .i64 0)), none⟩])
  (.seq (.seq (.reg [⟨some 6, .load 24 (.tmp 2), none⟩,
    ⟨some 7, .load 24 (.tmp 3), none⟩,
    ⟨some 8, .buildSlice 30 2 #[(0, (.tmp 6)), (1, (.tmp 7))], none⟩,
    ⟨some 9, .call ⟨.value (.func 85), #[(.tmp 8)], #[30]⟩, none⟩,
    ⟨some 10, .unOp .not 4 (.tmp 9), none⟩])
  (.cond (.tmp 10)
    (.seq (.reg [⟨some 11, .build 24 #[], none⟩,
      ⟨none, .store 24 (.tmp 4) (.tmp 11), none⟩,
      ⟨some 5, .assign (.const (.int .i64 10)), none⟩])
    .ret)
    .skip))
  (.seq (.reg [⟨some 12, .load 24 (.tmp 2), none⟩,
    ⟨some 13, .load 24 (.tmp 3), none⟩,
    ⟨some 14, .buildSlice 30 2 #[(0, (.tmp 12)), (1, (.tmp 13))], none⟩,
    ⟨some 15, .call ⟨.value (.func 74), #[(.tmp 14)], #[30]⟩, none⟩,
    ⟨none, .store 24 (.tmp 4) (.tmp 15), none⟩,
    ⟨some 5, .assign (.const (.int .i64 0)), none⟩])
  .ret)))
theorem c42 : f42.body.bind (comp f42.ntmps) = some p42 := by kernel_rfl

def p43 : PC :=
  (.seq (.reg [⟨some 2, .box 24 (.tmp 0), none⟩,
    ⟨some 3, .box 24 (.tmp 1), none⟩,
    ⟨some 4, .alloc 24, none⟩,
    ⟨some 5, .assign (.const (.int .i64 0)), none⟩])
  (.seq (.seq (.reg [⟨some 6, .load 24 (.tmp 2), none⟩,
    ⟨some 7, .call ⟨.value (.func 77), #[(.tmp 6)], #[24]⟩, none⟩,
    ⟨some 8, .unOp .not 4 (.tmp 7), none⟩,
    ⟨some 9, .move (.tmp 8), none⟩,
    ⟨some 10, .load 24 (.tmp 3), some ((some 9), false)⟩,
    ⟨some 11, .call ⟨.value (.func 77), #[(.tmp 10)], #[24]⟩, some ((some 9), false)⟩,
    ⟨some 12, .unOp .not 4 (.tmp 11), some ((some 9), false)⟩,
    ⟨some 13, .pick (.tmp 9) (.const (.bool true)) (.tmp 12), none⟩])
  (.cond (.tmp 13)
    (.seq (.reg [⟨some 14, .build 24 #[], none⟩,
      ⟨none, .store 24 (.tmp 4) (.tmp 14), none⟩,
      ⟨some 5, .assign (.const (.int .i64 10)), none⟩])
    .ret)
    .skip))
  (.seq (.reg [⟨some 15, .fieldAddr 24 (.tmp 2) 0, none⟩,
    ⟨some 16, .load 3 (.tmp 15), none⟩,
    ⟨some 17, .fieldAddr 24 (.tmp 3) 0, none⟩,
    ⟨some 18, .load 3 (.tmp 17), none⟩,
    ⟨some 19, .call ⟨.builtin .min, #[(.tmp 16), (.tmp 18)], #[3, 3]⟩, none⟩,
    ⟨some 20, .fieldAddr 24 (.tmp 2) 1, none⟩,
    ⟨some 21, .load 3 (.tmp 20), none⟩,
    ⟨some 22, .fieldAddr 24 (.tmp 3) 1, none⟩,
    ⟨some 23, .load 3 (.tmp 22), none⟩,
    ⟨some 24, .call ⟨.builtin .max, #[(.tmp 21), (.tmp 23)], #[3, 3]⟩, none⟩,
    ⟨some 25, .build 24 #[(0, (.tmp 19)), (1, (.tmp 24))], none⟩,
    ⟨none, .store 24 (.tmp 4) (.tmp 25), none⟩,
    ⟨some 5, .assign (.const (.int .i64 0)), none⟩])
  .ret)))
theorem c43 : f43.body.bind (comp f43.ntmps) = some p43 := by kernel_rfl

def p44 : PC :=
  (.seq (.reg [⟨some 2, .box 24 (.tmp 0), none⟩,
    ⟨some 3, .box 24 (.tmp 1), none⟩,
    ⟨some 4, .assign (.const (.bool false)), none⟩,
    ⟨some 5, .assign (.const (.int .i64 0)), none⟩])
  (.seq (.reg [⟨some 9, .load 24 (.tmp 2), none⟩,
    ⟨some 10, .load 24 (.tmp 3), none⟩,
    ⟨some 11, .call ⟨.value (.func 42), #[(.tmp 9), (.tmp 10)], #[24, 24]⟩, none⟩,
    ⟨some 8, .move (.tmp 11), none⟩,
    ⟨some 12, .extract (.tmp 8) 0, none⟩,
    ⟨some 13, .extract (.tmp 8) 1, none⟩,
    ⟨some 6, .alloc 24, none⟩,
    ⟨none, .store 24 (.tmp 6) (.tmp 12), none⟩,
    ⟨some 7, .assign (.tmp 13), none⟩])
  (.seq (.reg [⟨some 14, .move (.tmp 7), none⟩,
    ⟨some 15, .binOp .eql 25 (.tmp 14) (.const (.int .i64 0)) 25, none⟩,
    ⟨some 16, .move (.tmp 15), none⟩,
    ⟨some 17, .load 24 (.tmp 6), some ((some 16), true)⟩,
    ⟨some 18, .load 24 (.tmp 2), some ((some 16), true)⟩,
    ⟨some 19, .binOp .eql 24 (.tmp 17) (.tmp 18) 24, some ((some 16), true)⟩,
    ⟨some 20, .pick (.tmp 16) (.tmp 19) (.const (.bool false)), none⟩,
    ⟨some 21, .move (.tmp 7), none⟩,
    ⟨some 4, .assign (.tmp 20), none⟩,
    ⟨some 5, .assign (.tmp 21), none⟩])
  .ret)))
theorem c44 : f44.body.bind (comp f44.ntmps) = some p44 := by kernel_rfl

def p45 : PC :=
  (.seq (.reg [⟨some 2, .box 24 (.tmp 0), none⟩,
    ⟨some 3, .box 24 (.tmp 1), none⟩,
    ⟨some 4, .assign (.const (.bool false)), none⟩,
    ⟨some 5, .assign (.const (.int .i64 0)), none⟩])
  (.seq (.seq (.reg [⟨some 6, .load 24 (.tmp 2), none⟩,
    ⟨some 7, .call ⟨.value (.func 77), #[(.tmp 6)], #[24]⟩, none⟩,
    ⟨some 8, .unOp .not 4 (.tmp 7), none⟩,
    ⟨some 9, .move (.tmp 8), none⟩,
    ⟨some 10, .load 24 (.tmp 3), some ((some 9), false)⟩,
    ⟨some 11, .call ⟨.value (.func 77), #[(.tmp 10)], #[24]⟩, some ((some 9), false)⟩,
    ⟨some 12, .unOp .not 4 (.tmp 11), some ((some 9), false)⟩,
    ⟨some 13, .pick (.tmp 9) (.const (.bool true)) (.tmp 12), none⟩])
  (.cond (.tmp 13)
    (.seq (.reg [⟨some 4, .assign (.const (.bool false)), none⟩,
      ⟨some 5, .assign (.const (.int .i64 10)), none⟩])
    .ret)
    .skip))
  (.seq (.reg [⟨some 14, .fieldAddr 24 (.tmp 2) 0, none⟩,
    ⟨some 15, .load 3 (.tmp 14), none⟩,
    ⟨some 16, .fieldAddr 24 (.tmp 3) 0, none⟩,
    ⟨some 17, .load 3 (.tmp 16), none⟩,
    ⟨some 18, .binOp .leq 3 (.tmp 15) (.tmp 17) 3, none⟩,
    ⟨some 19, .move (.tmp 18), none⟩,
    ⟨some 20, .fieldAddr 24 (.tmp 3) 1, some ((some 19), true)⟩,
    ⟨some 21, .load 3 (.tmp 20), some ((some 19), true)⟩,
    ⟨some 22, .fieldAddr 24 (.tmp 2) 1, some ((some 19), true)⟩,
    ⟨some 23, .load 3 (.tmp 22), some ((some 19), true)⟩,
    ⟨some 24, .binOp .leq 3 (.tmp 21) (.tmp 23) 3, some ((some 19), true)⟩,
    ⟨some 25, .pick (.tmp 19) (.tmp 24) (.const (.bool false)), none⟩,
    ⟨some 4, .assign (.tmp 25), none⟩,
    ⟨some 5, .assign (.const (.int .i64 0)), none⟩])
  .ret)))
theorem c45 : f45.body.bind (comp f45.ntmps) = some p45 := by kernel_rfl

def p46 : PC :=
  (.seq (.reg [⟨some 1, .box 24 (.tmp 0), none⟩,
    ⟨some 2, .assign (.const (.int .i64 0)), none⟩])
  (.seq (.seq (.reg [⟨some 3, .load 24 (.tmp 1), none⟩,
    ⟨some 4, .buildSlice 30 1 #[(0, (.tmp 3))], none⟩,
    ⟨some 5, .call ⟨.value (.func 85), #[(.tmp 4)], #[30]⟩, none⟩,
    ⟨some 6, .unOp .not 4 (.tmp 5), none⟩])
  (.cond (.tmp 6)
    (.seq (.reg [⟨some 2, .assign (.const (.int .i64 10)), none⟩])
    .ret)
    .skip))
  (.seq (.reg [⟨some 2, .assign (.const (.int .i64 0)), none⟩])
  .ret)))
theorem c46 : f46.body.bind (comp f46.ntmps) = some p46 := by kernel_rfl

def p47 : PC :=
  (.seq (.reg [⟨some 1, .box 24 (.tmp 0), none⟩,
    ⟨some 2, .assign (.const (.int .i64 0)), none⟩])
  (.seq (.seq (.reg [⟨some 3, .load 24 (.tmp 1), none⟩,
    ⟨some 4, .call ⟨.value (.func 77), #[(.tmp 3)], #[24]⟩, none⟩,
    ⟨some 5, .unOp .not 4 (.tmp 4), none⟩])
  (.cond (.tmp 5)
    (.seq (.reg [⟨some 2, .assign (.const (.int .i64 10)), none⟩])
    .ret)
    .skip))
  (.seq (.reg [⟨some 2, .assign (.const (.int .i64 0)), none⟩])
  .ret)))
theorem c47 : f47.body.bind (comp f47.ntmps) = some p47 := by kernel_rfl

def p74l0 : PC :=
  (.seq (.reg [⟨some 13, .binOp .lss 3 (.tmp 12) (.tmp 11) 3, none⟩])
  (.seq (.cond (.tmp 13)
    .skip
    (.exit 0))
  (.seq (.block 1
    (.seq (.reg [⟨some 14, .indexAddr 30 (.tmp 10) (.tmp 12), none⟩,
      ⟨some 15, .load 24 (.tmp 14), none⟩,
      ⟨some 5, .alloc 24, none⟩,
      ⟨none, .store 24 (.tmp 5) (.tmp 15), none⟩])
    (.drawW [0, 1, 0, 4, 15, 0, 32, 0, 128, 480, 127, 1151, 4095, 8191] [⟨some 16, .fieldAddr 24 (.tmp 3) 0, none⟩,
      ⟨some 17, .load 3 (.tmp 16), none⟩,
      ⟨some 18, .fieldAddr 24 (.tmp 5) 0, none⟩,
      ⟨some 19, .load 3 (.tmp 18), none⟩,
      ⟨some 20, .call ⟨.builtin .min, #[(.tmp 17), (.tmp 19)], #[3, 3]⟩, none⟩,
      ⟨some 21, .fieldAddr 24 (.tmp 3) 1, none⟩,
      ⟨some 22, .load 3 (.tmp 21), none⟩,
      ⟨some 23, .fieldAddr 24 (.tmp 5) 1, none⟩,
      ⟨some 24, .load 3 (.tmp 23), none⟩,
      ⟨some 25, .call ⟨.builtin .max, #[(.tmp 22), (.tmp 24)], #[3, 3]⟩, none⟩,
      ⟨some 26, .fieldAddr 24 (.tmp 3) 0, none⟩,
      ⟨none, .store 3 (.tmp 26) (.tmp 20), none⟩]
      [⟨some 27, .fieldAddr 24 (.tmp 3) 1, none⟩,
      ⟨none, .store 3 (.tmp 27) (.tmp 25), none⟩])))
  (.reg [⟨some 28, .binOp .add 3 (.tmp 12) (.const (.int .i64 1)) 3, none⟩,
    ⟨some 12, .move (.tmp 28), none⟩]))))
def p74 : PC :=
  (.seq (.reg [⟨some 2, .alloc 24, none⟩])
  (.seq (.reg [⟨some 6, .move (.tmp 0), none⟩,
    ⟨some 7, .indexAddr 30 (.tmp 6) (.const (.int .i64 0)), none⟩,
    ⟨some 8, .load 24 (.tmp 7), none⟩,
    ⟨some 3, .alloc 24, none⟩,
    ⟨none, .store 24 (.tmp 3) (.tmp 8), none⟩])
  (.seq (.seq (.reg [⟨some 9, .move (.tmp 0), none⟩,
    ⟨some 10, .slice 30 (.tmp 9) (some (.const (.int .i64 1))) none none, none⟩,
    ⟨some 11, .call ⟨.builtin .len, #[(.tmp 10)], #[30]⟩, none⟩,
    ⟨some 12, .move (.const (.int .i64 0)), none⟩])
  (.block 0
    (.loop p74l0)))
  (.seq (.reg [⟨some 29, .load 24 (.tmp 3), none⟩,
    ⟨none, .store 24 (.tmp 2) (.tmp 29), none⟩])
  .ret))))
theorem c74 : f74.body.bind (comp f74.ntmps) = some p74 := by kernel_rfl

def p77 : PC :=
  (.seq (.reg [⟨some 1, .box 24 (.tmp 0), none⟩,
    ⟨some 2, .assign (.const (.bool false)), none⟩])
  (.seq (.reg [⟨some 3, .fieldAddr 24 (.tmp 1) 0, none⟩,
    ⟨some 4, .load 3 (.tmp 3), none⟩,
    ⟨some 5, .fieldAddr 24 (.tmp 1) 1, none⟩,
    ⟨some 6, .load 3 (.tmp 5), none⟩,
    ⟨some 7, .binOp .leq 3 (.tmp 4) (.tmp 6) 3, none⟩,
    ⟨some 8, .move (.tmp 7), none⟩,
    ⟨some 9, .fieldAddr 24 (.tmp 1) 0, some ((some 8), true)⟩,
    ⟨some 10, .load 3 (.tmp 9), some ((some 8), true)⟩,
    ⟨some 11, .call ⟨.value (.func 79), #[(.tmp 10), (.const (.int .i64 (-1099511627776))), (.const (.int .i64 1099511627776))], #[3, 3, 3]⟩, some ((some 8), true)⟩,
    ⟨some 12, .pick (.tmp 8) (.tmp 11) (.const (.bool false)), none⟩,
    ⟨some 13, .move (.tmp 12), none⟩,
    ⟨some 14, .fieldAddr 24 (.tmp 1) 1, some ((some 13), true)⟩,
    ⟨some 15, .load 3 (.tmp 14), some ((some 13), true)⟩,
    ⟨some 16, .call ⟨.value (.func 79), #[(.tmp 15), (.const (.int .i64 (-1099511627776))), (.const (.int .i64 1099511627776))], #[3, 3, 3]⟩, some ((some 13), true)⟩,
    ⟨some 17, .pick (.tmp 13) (.tmp 16) (.const (.bool false)), none⟩,
    ⟨some 2, .assign (.tmp 17), none⟩])
  .ret))
theorem c77 : f77.body.bind (comp f77.ntmps) = some p77 := by kernel_rfl

def p79 : PC :=
  (.seq (.reg [⟨some 6, .assign (.const (.bool false)), none⟩])
  (.seq (.reg [⟨some 7, .move (.tmp 0), none⟩,
    ⟨some 8, .move (.tmp 1), none⟩,
    ⟨some 9, .binOp .geq 3 (.tmp 7) (.tmp 8) 3, none⟩,
    ⟨some 10, .move (.tmp 9), none⟩,
    ⟨some 11, .move (.tmp 0), some ((some 10), true)⟩,
    ⟨some 12, .move (.tmp 2), some ((some 10), true)⟩,
    ⟨some 13, .binOp .leq 3 (.tmp 11) (.tmp 12) 3, some ((some 10), true)⟩,
    ⟨some 14, .pick (.tmp 10) (.tmp 13) (.const (.bool false)), none⟩,
    ⟨some 6, .assign (.tmp 14), none⟩])
  .ret))
theorem c79 : f79.body.bind (comp f79.ntmps) = some p79 := by kernel_rfl

def p85l0 : PC :=
  (.seq (.reg [⟨some 8, .binOp .lss 3 (.tmp 7) (.tmp 6) 3, none⟩])
  (.seq (.cond (.tmp 8)
    .skip
    (.exit 0))
  (.seq (.block 1
    (.seq (.reg [⟨some 9, .indexAddr 30 (.tmp 5) (.tmp 7), none⟩,
      ⟨some 10, .load 24 (.tmp 9), none⟩,
      ⟨some 4, .alloc 24, none⟩,
      ⟨none, .store 24 (.tmp 4) (.tmp 10), none⟩])
    (.seq (.reg [⟨some 11, .fieldAddr 24 (.tmp 4) 0, none⟩,
      ⟨some 12, .load 3 (.tmp 11), none⟩,
      ⟨some 13, .fieldAddr 24 (.tmp 4) 1, none⟩,
      ⟨some 14, .load 3 (.tmp 13), none⟩,
      ⟨some 15, .binOp .gtr 3 (.tmp 12) (.tmp 14) 3, none⟩,
      ⟨some 16, .move (.tmp 15), none⟩,
      ⟨some 17, .fieldAddr 24 (.tmp 4) 0, some ((some 16), false)⟩,
      ⟨some 18, .load 3 (.tmp 17), some ((some 16), false)⟩,
      ⟨some 19, .binOp .lss 3 (.tmp 18) (.const (.int .i64 (-1099511627776))) 3, some ((some 16), false)⟩,
      ⟨some 20, .pick (.tmp 16) (.const (.bool true)) (.tmp 19), none⟩,
      ⟨some 21, .move (.tmp 20), none⟩,
      ⟨some 22, .fieldAddr 24 (.tmp 4) 1, some ((some 21), false)⟩,
      ⟨some 23, .load 3 (.tmp 22), some ((some 21), false)⟩,
      ⟨some 24, .binOp .gtr 3 (.tmp 23) (.const (.int .i64 1099511627776)) 3, some ((some 21), false)⟩,
      ⟨some 25, .pick (.tmp 21) (.const (.bool true)) (.tmp 24), none⟩])
    (.cond (.tmp 25)
      (.seq (.reg [⟨some 2, .assign (.const (.bool false)), none⟩])
      .ret)
      .skip))))
  (.reg [⟨some 26, .binOp .add 3 (.tmp 7) (.const (.int .i64 1)) 3, none⟩,
    ⟨some 7, .move (.tmp 26), none⟩]))))
def p85 : PC :=
  (.seq (.reg [⟨some 2, .assign (.const (.bool false)), none⟩])
  (.seq (.seq (.reg [⟨some 5, .move (.tmp 0), none⟩,
    ⟨some 6, .call ⟨.builtin .len, #[(.tmp 5)], #[30]⟩, none⟩,
    ⟨some 7, .move (.const (.int .i64 0)), none⟩])
  (.block 0
    (.loop p85l0)))
  (.seq (.reg [⟨some 2, .assign (.const (.bool true)), none⟩])
  .ret)))
theorem c85 : f85.body.bind (comp f85.ntmps) = some p85 := by kernel_rfl

def p86 : PC :=
  (.seq (.reg [⟨some 6, .alloc 24, none⟩])
  (.seq (.reg [⟨some 7, .assign (.const (.int .u64 2199023255552)), none⟩,
    ⟨some 8, .assign (.const (.int .u64 0)), none⟩])
  (.seq (.reg [⟨some 16, .move (.tmp 0), none⟩,
    ⟨some 17, .call ⟨.value (.func 122), #[(.tmp 16)], #[3]⟩, none⟩,
    ⟨some 18, .move (.tmp 1), none⟩,
    ⟨some 19, .call ⟨.value (.func 122), #[(.tmp 18)], #[3]⟩, none⟩,
    ⟨some 20, .call ⟨.value (.func 121), #[(.tmp 17), (.tmp 19)], #[140, 140]⟩, none⟩,
    ⟨some 15, .move (.tmp 20), none⟩,
    ⟨some 21, .extract (.tmp 15) 0, none⟩,
    ⟨some 22, .extract (.tmp 15) 1, none⟩,
    ⟨some 9, .assign (.tmp 21), none⟩,
    ⟨some 10, .assign (.tmp 22), none⟩])
  (.seq (.seq (.reg [⟨some 23, .move (.tmp 2), none⟩,
    ⟨some 24, .convert 3 140 (.tmp 23), none⟩,
    ⟨some 11, .assign (.tmp 24), none⟩])
  (.seq (.reg [⟨some 25, .move (.tmp 9), none⟩,
    ⟨some 26, .move (.tmp 11), none⟩,
    ⟨some 27, .binOp .lss 140 (.tmp 25) (.tmp 26) 140, none⟩])
  (.cond (.tmp 27)
    (.seq (.reg [⟨some 29, .move (.tmp 9), none⟩,
      ⟨some 30, .move (.tmp 10), none⟩,
      ⟨some 31, .move (.tmp 11), none⟩,
      ⟨some 32, .call ⟨.value (.func 123), #[(.tmp 29), (.tmp 30), (.tmp 31)], #[140, 140, 140]⟩, none⟩,
      ⟨some 28, .move (.tmp 32), none⟩,
      ⟨some 33, .extract (.tmp 28) 0, none⟩,
      ⟨some 34, .extract (.tmp 28) 1, none⟩,
      ⟨some 12, .assign (.tmp 33), none⟩,
      ⟨some 13, .assign (.tmp 34), none⟩])
    (.seq (.reg [⟨some 35, .move (.tmp 12), none⟩,
      ⟨some 36, .binOp .lss 140 (.tmp 35) (.const (.int .u64 2199023255552)) 140, none⟩])
    (.cond (.tmp 36)
      (.reg [⟨some 37, .move (.tmp 12), none⟩,
        ⟨some 38, .move (.tmp 13), none⟩,
        ⟨some 7, .assign (.tmp 37), none⟩,
        ⟨some 8, .assign (.tmp 38), none⟩])
      .skip)))
    .skip)))
  (.seq (.reg [⟨some 39, .move (.tmp 7), none⟩,
    ⟨some 40, .convert 140 3 (.tmp 39), none⟩,
    ⟨some 41, .move (.tmp 7), none⟩,
    ⟨some 42, .convert 140 3 (.tmp 41), none⟩,
    ⟨some 43, .build 24 #[(0, (.tmp 40)), (1, (.tmp 42))], none⟩,
    ⟨some 14, .alloc 24, none⟩,
    ⟨none, .store 24 (.tmp 14) (.tmp 43), none⟩])
  (.seq (.seq (.reg [⟨some 44, .move (.tmp 8), none⟩,
    ⟨some 45, .binOp .gtr 140 (.tmp 44) (.const (.int .u64 0)) 140, none⟩])
  (.cond (.tmp 45)
    (.reg [⟨some 46, .fieldAddr 24 (.tmp 14) 1, none⟩,
      ⟨some 47, .load 3 (.tmp 46), none⟩,
      ⟨some 48, .binOp .add 3 (.tmp 47) (.const (.int .i64 1)) 3, none⟩,
      ⟨some 49, .fieldAddr 24 (.tmp 14) 1, none⟩,
      ⟨none, .store 3 (.tmp 49) (.tmp 48), none⟩])
    .skip))
  (.seq (.seq (.reg [⟨some 50, .move (.tmp 0), none⟩,
    ⟨some 51, .binOp .lss 3 (.tmp 50) (.const (.int .i64 0)) 3, none⟩,
    ⟨some 52, .move (.tmp 1), none⟩,
    ⟨some 53, .binOp .lss 3 (.tmp 52) (.const (.int .i64 0)) 3, none⟩,
    ⟨some 54, .binOp .neq 4 (.tmp 51) (.tmp 53) 4, none⟩])
  (.cond (.tmp 54)
    (.reg [⟨some 55, .fieldAddr 24 (.tmp 14) 1, none⟩,
      ⟨some 56, .load 3 (.tmp 55), none⟩,
      ⟨some 57, .unOp .neg 3 (.tmp 56), none⟩,
      ⟨some 58, .fieldAddr 24 (.tmp 14) 0, none⟩,
      ⟨some 59, .load 3 (.tmp 58), none⟩,
      ⟨some 60, .unOp .neg 3 (.tmp 59), none⟩,
      ⟨some 61, .fieldAddr 24 (.tmp 14) 0, none⟩,
      ⟨none, .store 3 (.tmp 61) (.tmp 57), none⟩,
      ⟨some 62, .fieldAddr 24 (.tmp 14) 1, none⟩,
      ⟨none, .store 3 (.tmp 62) (.tmp 60), none⟩])
    .skip))
  (.seq (.reg [⟨some 63, .load 24 (.tmp 14), none⟩,
    ⟨none, .store 24 (.tmp 6) (.tmp 63), none⟩])
  .ret))))))))
theorem c86 : f86.body.bind (comp f86.ntmps) = some p86 := by kernel_rfl

def p87 : PC :=
  (.seq (.reg [⟨some 1, .box 24 (.tmp 0), none⟩,
    ⟨some 2, .alloc 24, none⟩,
    ⟨some 3, .assign (.const (.int .i64 0)), none⟩])
  (.seq (.seq (.reg [⟨some 4, .fieldAddr 24 (.tmp 1) 0, none⟩,
    ⟨some 5, .load 3 (.tmp 4), none⟩,
    ⟨some 6, .binOp .lss 3 (.tmp 5) (.const (.int .i64 (-1099511627776))) 3, none⟩,
    ⟨some 7, .move (.tmp 6), none⟩,
    ⟨some 8, .fieldAddr 24 (.tmp 1) 1, some ((some 7), false)⟩,
    ⟨some 9, .load 3 (.tmp 8), some ((some 7), false)⟩,
    ⟨some 10, .binOp .gtr 3 (.tmp 9) (.const (.int .i64 1099511627776)) 3, some ((some 7), false)⟩,
    ⟨some 11, .pick (.tmp 7) (.const (.bool true)) (.tmp 10), none⟩])
  (.cond (.tmp 11)
    (.seq (.reg [⟨some 12, .build 24 #[], none⟩,
      ⟨none, .store 24 (.tmp 2) (.tmp 12), none⟩,
      ⟨some 3, .assign (.const (.int .i64 11)), none⟩])
    .ret)
    .skip))
  (.seq (.reg [⟨some 13, .load 24 (.tmp 1), none⟩,
    ⟨none, .store 24 (.tmp 2) (.tmp 13), none⟩,
    ⟨some 3, .assign (.const (.int .i64 0)), none⟩])
  .ret)))
theorem c87 : f87.body.bind (comp f87.ntmps) = some p87 := by kernel_rfl

def p88 : PC :=
  (.seq (.reg [⟨some 6, .assign (.const (.int .i64 0)), none⟩,
    ⟨some 7, .assign (.const (.int .i64 0)), none⟩])
  (.seq (.reg [⟨some 12, .move (.tmp 0), none⟩,
    ⟨some 13, .call ⟨.value (.func 125), #[(.tmp 12)], #[3]⟩, none⟩,
    ⟨some 14, .move (.tmp 1), none⟩,
    ⟨some 15, .call ⟨.value (.func 125), #[(.tmp 14)], #[3]⟩, none⟩,
    ⟨some 16, .move (.tmp 2), none⟩,
    ⟨some 17, .call ⟨.value (.func 124), #[(.tmp 13), (.tmp 15), (.tmp 16)], #[3, 3, 3]⟩, none⟩,
    ⟨some 11, .move (.tmp 17), none⟩,
    ⟨some 18, .extract (.tmp 11) 0, none⟩,
    ⟨some 19, .extract (.tmp 11) 1, none⟩,
    ⟨some 8, .assign (.tmp 18), none⟩,
    ⟨some 9, .assign (.tmp 19), none⟩])
  (.seq (.reg [⟨some 20, .move (.tmp 8), none⟩,
    ⟨some 10, .assign (.tmp 20), none⟩])
  (.seq (.seq (.reg [⟨some 21, .move (.tmp 9), none⟩,
    ⟨some 22, .unOp .not 4 (.tmp 21), none⟩])
  (.cond (.tmp 22)
    (.reg [⟨some 23, .move (.tmp 10), none⟩,
      ⟨some 24, .binOp .add 3 (.tmp 23) (.const (.int .i64 1)) 3, none⟩,
      ⟨some 10, .assign (.tmp 24), none⟩])
    .skip))
  (.seq (.seq (.reg [⟨some 25, .move (.tmp 0), none⟩,
    ⟨some 26, .binOp .lss 3 (.tmp 25) (.const (.int .i64 0)) 3, none⟩,
    ⟨some 27, .move (.tmp 26), none⟩,
    ⟨some 28, .move (.tmp 1), some ((some 27), true)⟩,
    ⟨some 29, .binOp .gtr 3 (.tmp 28) (.const (.int .i64 0)) 3, some ((some 27), true)⟩,
    ⟨some 30, .pick (.tmp 27) (.tmp 29) (.const (.bool false)), none⟩,
    ⟨some 31, .move (.tmp 30), none⟩,
    ⟨some 32, .move (.tmp 0), some ((some 31), false)⟩,
    ⟨some 33, .binOp .gtr 3 (.tmp 32) (.const (.int .i64 0)) 3, some ((some 31), false)⟩,
    ⟨some 34, .move (.tmp 33), some ((some 31), false)⟩,
    ⟨some 35, .move (.tmp 1), some ((some 34), true)⟩,
    ⟨some 36, .binOp .lss 3 (.tmp 35) (.const (.int .i64 0)) 3, some ((some 34), true)⟩,
    ⟨some 37, .pick (.tmp 34) (.tmp 36) (.const (.bool false)), some ((some 31), false)⟩,
    ⟨some 38, .pick (.tmp 31) (.const (.bool true)) (.tmp 37), none⟩])
  (.cond (.tmp 38)
    (.seq (.reg [⟨some 39, .move (.tmp 10), none⟩,
      ⟨some 40, .unOp .neg 3 (.tmp 39), none⟩,
      ⟨some 41, .move (.tmp 8), none⟩,
      ⟨some 42, .unOp .neg 3 (.tmp 41), none⟩,
      ⟨some 6, .assign (.tmp 40), none⟩,
      ⟨some 7, .assign (.tmp 42), none⟩])
    .ret)
    .skip))
  (.seq (.reg [⟨some 43, .move (.tmp 8), none⟩,
    ⟨some 44, .move (.tmp 10), none⟩,
    ⟨some 6, .assign (.tmp 43), none⟩,
    ⟨some 7, .assign (.tmp 44), none⟩])
  .ret))))))
theorem c88 : f88.body.bind (comp f88.ntmps) = some p88 := by kernel_rfl

def p89 : PC :=
  (.seq (.reg [⟨some 4, .alloc 24, none⟩,
    ⟨some 5, .assign (.const (.int .i64 0)), none⟩])
  (.seq (.seq (.reg [⟨some 6, .move (.tmp 0), none⟩,
    ⟨some 7, .binOp .lss 3 (.tmp 6) (.const (.int .i64 (-1099511627776))) 3, none⟩,
    ⟨some 8, .move (.tmp 7), none⟩,
    ⟨some 9, .move (.tmp 1), some ((some 8), false)⟩,
    ⟨some 10, .binOp .gtr 3 (.tmp 9) (.const (.int .i64 1099511627776)) 3, some ((some 8), false)⟩,
    ⟨some 11, .pick (.tmp 8) (.const (.bool true)) (.tmp 10), none⟩])
  (.cond (.tmp 11)
    (.seq (.reg [⟨some 12, .build 24 #[], none⟩,
      ⟨none, .store 24 (.tmp 4) (.tmp 12), none⟩,
      ⟨some 5, .assign (.const (.int .i64 11)), none⟩])
    .ret)
    .skip))
  (.seq (.reg [⟨some 13, .move (.tmp 0), none⟩,
    ⟨some 14, .move (.tmp 1), none⟩,
    ⟨some 15, .build 24 #[(0, (.tmp 13)), (1, (.tmp 14))], none⟩,
    ⟨none, .store 24 (.tmp 4) (.tmp 15), none⟩,
    ⟨some 5, .assign (.const (.int .i64 0)), none⟩])
  .ret)))
theorem c89 : f89.body.bind (comp f89.ntmps) = some p89 := by kernel_rfl

def p90l0 : PC :=
  (.seq (.seq (.reg [⟨some 6, .move (.tmp 4), none⟩,
    ⟨some 7, .move (.tmp 3), none⟩,
    ⟨some 8, .binOp .sub 3 (.tmp 6) (.tmp 7) 3, none⟩,
    ⟨some 9, .binOp .gtr 3 (.tmp 8) (.const (.int .i64 1)) 3, none⟩])
  (.cond (.tmp 9)
    .skip
    (.exit 0)))
  (.block 1
    (.seq (.reg [⟨some 10, .move (.tmp 3), none⟩,
      ⟨some 11, .move (.tmp 4), none⟩,
      ⟨some 12, .binOp .add 3 (.tmp 10) (.tmp 11) 3, none⟩,
      ⟨some 13, .binOp .quo 3 (.tmp 12) (.const (.int .i64 2)) 3, none⟩,
      ⟨some 5, .assign (.tmp 13), none⟩])
    (.seq (.reg [⟨some 14, .move (.tmp 5), none⟩,
      ⟨some 15, .move (.tmp 5), none⟩,
      ⟨some 16, .binOp .mul 3 (.tmp 14) (.tmp 15) 3, none⟩,
      ⟨some 17, .move (.tmp 0), none⟩,
      ⟨some 18, .binOp .leq 3 (.tmp 16) (.tmp 17) 3, none⟩])
    (.cond (.tmp 18)
      (.reg [⟨some 19, .move (.tmp 5), none⟩,
        ⟨some 3, .assign (.tmp 19), none⟩])
      (.reg [⟨some 20, .move (.tmp 5), none⟩,
        ⟨some 4, .assign (.tmp 20), none⟩]))))))
def p90 : PC :=
  (.seq (.reg [⟨some 2, .assign (.const (.int .i64 0)), none⟩])
  (.seq (.reg [⟨some 3, .assign (.const (.int .i64 0)), none⟩,
    ⟨some 4, .assign (.const (.int .i64 1048577)), none⟩])
  (.seq (.block 0
    (.loop p90l0))
  (.seq (.reg [⟨some 21, .move (.tmp 3), none⟩,
    ⟨some 2, .assign (.tmp 21), none⟩])
  .ret))))
theorem c90 : f90.body.bind (comp f90.ntmps) = some p90 := by kernel_rfl

def p91l0 : PC :=
  (.seq (.seq (.reg [⟨some 5, .move (.tmp 4), none⟩,
    ⟨some 6, .binOp .gtr 3 (.tmp 5) (.const (.int .i64 0)) 3, none⟩])
  (.cond (.tmp 6)
    .skip
    (.exit 0)))
  (.seq (.block 1
    (.seq (.reg [⟨some 9, .move (.tmp 3), none⟩,
      ⟨some 10, .move (.tmp 4), none⟩,
      ⟨some 11, .binOp .add 3 (.tmp 9) (.tmp 10) 3, none⟩,
      ⟨some 12, .move (.tmp 3), none⟩,
      ⟨some 13, .move (.tmp 4), none⟩,
      ⟨some 14, .binOp .add 3 (.tmp 12) (.tmp 13) 3, none⟩,
      ⟨some 15, .binOp .mul 3 (.tmp 11) (.tmp 14) 3, none⟩,
      ⟨some 16, .move (.tmp 0), none⟩,
      ⟨some 17, .binOp .leq 3 (.tmp 15) (.tmp 16) 3, none⟩])
    (.cond (.tmp 17)
      (.reg [⟨some 18, .move (.tmp 3), none⟩,
        ⟨some 19, .move (.tmp 4), none⟩,
        ⟨some 20, .binOp .add 3 (.tmp 18) (.tmp 19) 3, none⟩,
        ⟨some 3, .assign (.tmp 20), none⟩])
      .skip)))
  (.reg [⟨some 7, .move (.tmp 4), none⟩,
    ⟨some 8, .binOp .quo 3 (.tmp 7) (.const (.int .i64 2)) 3, none⟩,
    ⟨some 4, .assign (.tmp 8), none⟩])))
def p91 : PC :=
  (.seq (.reg [⟨some 2, .assign (.const (.int .i64 0)), none⟩])
  (.seq (.reg [⟨some 3, .assign (.const (.int .i64 0)), none⟩])
  (.seq (.seq (.reg [⟨some 4, .assign (.const (.int .i64 1048576)), none⟩])
  (.block 0
    (.loop p91l0)))
  (.seq (.reg [⟨some 21, .move (.tmp 3), none⟩,
    ⟨some 2, .assign (.tmp 21), none⟩])
  .ret))))
theorem c91 : f91.body.bind (comp f91.ntmps) = some p91 := by kernel_rfl

def p121 : PC :=
  (.seq (.reg [⟨some 4, .assign (.const (.int .u64 0)), none⟩,
    ⟨some 5, .assign (.const (.int .u64 0)), none⟩])
  (.seq (.reg [⟨some 14, .move (.tmp 0), none⟩,
    ⟨some 15, .binOp .and 140 (.tmp 14) (.const (.int .u64 4294967295)) 140, none⟩,
    ⟨some 6, .assign (.tmp 15), none⟩])
  (.seq (.reg [⟨some 16, .move (.tmp 0), none⟩,
    ⟨some 17, .binOp .shr 140 (.tmp 16) (.const (.int .u64 32)) 116, none⟩,
    ⟨some 7, .assign (.tmp 17), none⟩])
  (.seq (.reg [⟨some 18, .move (.tmp 1), none⟩,
    ⟨some 19, .binOp .and 140 (.tmp 18) (.const (.int .u64 4294967295)) 140, none⟩,
    ⟨some 8, .assign (.tmp 19), none⟩])
  (.seq (.reg [⟨some 20, .move (.tmp 1), none⟩,
    ⟨some 21, .binOp .shr 140 (.tmp 20) (.const (.int .u64 32)) 116, none⟩,
    ⟨some 9, .assign (.tmp 21), none⟩])
  (.seq (.reg [⟨some 22, .move (.tmp 6), none⟩,
    ⟨some 23, .move (.tmp 8), none⟩,
    ⟨some 24, .binOp .mul 140 (.tmp 22) (.tmp 23) 140, none⟩,
    ⟨some 10, .assign (.tmp 24), none⟩])
  (.seq (.reg [⟨some 25, .move (.tmp 7), none⟩,
    ⟨some 26, .move (.tmp 8), none⟩,
    ⟨some 27, .binOp .mul 140 (.tmp 25) (.tmp 26) 140, none⟩,
    ⟨some 28, .move (.tmp 10), none⟩,
    ⟨some 29, .binOp .shr 140 (.tmp 28) (.const (.int .u64 32)) 116, none⟩,
    ⟨some 30, .binOp .add 140 (.tmp 27) (.tmp 29) 140, none⟩,
    ⟨some 11, .assign (.tmp 30), none⟩])
  (.seq (.reg [⟨some 31, .move (.tmp 11), none⟩,
    ⟨some 32, .binOp .and 140 (.tmp 31) (.const (.int .u64 4294967295)) 140, none⟩,
    ⟨some 12, .assign (.tmp 32), none⟩])
  (.seq (.reg [⟨some 33, .move (.tmp 11), none⟩,
    ⟨some 34, .binOp .shr 140 (.tmp 33) (.const (.int .u64 32)) 116, none⟩,
    ⟨some 13, .assign (.tmp 34), none⟩])
  (.seq (.reg [⟨some 35, .move (.tmp 12), none⟩,
    ⟨some 36, .move (.tmp 6), none⟩,
    ⟨some 37, .move (.tmp 9), none⟩,
    ⟨some 38, .binOp .mul 140 (.tmp 36) (.tmp 37) 140, none⟩,
    ⟨some 39, .binOp .add 140 (.tmp 35) (.tmp 38) 140, none⟩,
    ⟨some 12, .assign (.tmp 39), none⟩])
  (.seq (.reg [⟨some 40, .move (.tmp 7), none⟩,
    ⟨some 41, .move (.tmp 9), none⟩,
    ⟨some 42, .binOp .mul 140 (.tmp 40) (.tmp 41) 140, none⟩,
    ⟨some 43, .move (.tmp 13), none⟩,
    ⟨some 44, .binOp .add 140 (.tmp 42) (.tmp 43) 140, none⟩,
    ⟨some 45, .move (.tmp 12), none⟩,
    ⟨some 46, .binOp .shr 140 (.tmp 45) (.const (.int .u64 32)) 116, none⟩,
    ⟨some 47, .binOp .add 140 (.tmp 44) (.tmp 46) 140, none⟩,
    ⟨some 4, .assign (.tmp 47), none⟩])
  (.seq (.reg [⟨some 48, .move (.tmp 0), none⟩,
    ⟨some 49, .move (.tmp 1), none⟩,
    ⟨some 50, .binOp .mul 140 (.tmp 48) (.tmp 49) 140, none⟩,
    ⟨some 5, .assign (.tmp 50), none⟩])
  .ret))))))))))))
theorem c121 : f121.body.bind (comp f121.ntmps) = some p121 := by kernel_rfl

def p122 : PC :=
  (.seq (.reg [⟨some 2, .assign (.const (.int .u64 0)), none⟩])
  (.seq (.reg [⟨some 3, .move (.tmp 0), none⟩,
    ⟨some 4, .move (.tmp 0), none⟩,
    ⟨some 5, .unOp .neg 3 (.tmp 4), none⟩,
    ⟨some 6, .call ⟨.builtin .max, #[(.tmp 3), (.tmp 5)], #[3, 3]⟩, none⟩,
    ⟨some 7, .convert 3 140 (.tmp 6), none⟩,
    ⟨some 2, .assign (.tmp 7), none⟩])
  .ret))
theorem c122 : f122.body.bind (comp f122.ntmps) = some p122 := by kernel_rfl

def p123l0 : PC :=
  (.seq (.seq (.reg [⟨some 67, .move (.tmp 15), none⟩,
    ⟨some 68, .binOp .geq 140 (.tmp 67) (.const (.int .u64 4294967296)) 140, none⟩,
    ⟨some 69, .move (.tmp 68), none⟩,
    ⟨some 70, .move (.tmp 15), some ((some 69), false)⟩,
    ⟨some 71, .move (.tmp 10), some ((some 69), false)⟩,
    ⟨some 72, .binOp .mul 140 (.tmp 70) (.tmp 71) 140, some ((some 69), false)⟩,
    ⟨some 73, .move (.tmp 16), some ((some 69), false)⟩,
    ⟨some 74, .binOp .mul 140 (.const (.int .u64 4294967296)) (.tmp 73) 140, some ((some 69), false)⟩,
    ⟨some 75, .move (.tmp 13), some ((some 69), false)⟩,
    ⟨some 76, .binOp .add 140 (.tmp 74) (.tmp 75) 140, some ((some 69), false)⟩,
    ⟨some 77, .binOp .gtr 140 (.tmp 72) (.tmp 76) 140, some ((some 69), false)⟩,
    ⟨some 78, .pick (.tmp 69) (.const (.bool true)) (.tmp 77), none⟩])
  (.cond (.tmp 78)
    .skip
    (.exit 0)))
  (.block 1
    (.seq (.reg [⟨some 79, .move (.tmp 15), none⟩,
      ⟨some 80, .binOp .sub 140 (.tmp 79) (.const (.int .u64 1)) 140, none⟩,
      ⟨some 15, .assign (.tmp 80), none⟩])
    (.seq (.reg [⟨some 81, .move (.tmp 16), none⟩,
      ⟨some 82, .move (.tmp 9), none⟩,
      ⟨some 83, .binOp .add 140 (.tmp 81) (.tmp 82) 140, none⟩,
      ⟨some 16, .assign (.tmp 83), none⟩])
    (.seq (.reg [⟨some 84, .move (.tmp 16), none⟩,
      ⟨some 85, .binOp .geq 140 (.tmp 84) (.const (.int .u64 4294967296)) 140, none⟩])
    (.cond (.tmp 85)
      (.exit 0)
      .skip))))))
def p123l1 : PC :=
  (.seq (.seq (.reg [⟨some 102, .move (.tmp 18), none⟩,
    ⟨some 103, .binOp .geq 140 (.tmp 102) (.const (.int .u64 4294967296)) 140, none⟩,
    ⟨some 104, .move (.tmp 103), none⟩,
    ⟨some 105, .move (.tmp 18), some ((some 104), false)⟩,
    ⟨some 106, .move (.tmp 10), some ((some 104), false)⟩,
    ⟨some 107, .binOp .mul 140 (.tmp 105) (.tmp 106) 140, some ((some 104), false)⟩,
    ⟨some 108, .move (.tmp 16), some ((some 104), false)⟩,
    ⟨some 109, .binOp .mul 140 (.const (.int .u64 4294967296)) (.tmp 108) 140, some ((some 104), false)⟩,
    ⟨some 110, .move (.tmp 14), some ((some 104), false)⟩,
    ⟨some 111, .binOp .add 140 (.tmp 109) (.tmp 110) 140, some ((some 104), false)⟩,
    ⟨some 112, .binOp .gtr 140 (.tmp 107) (.tmp 111) 140, some ((some 104), false)⟩,
    ⟨some 113, .pick (.tmp 104) (.const (.bool true)) (.tmp 112), none⟩])
  (.cond (.tmp 113)
    .skip
    (.exit 2)))
  (.block 3
    (.seq (.reg [⟨some 114, .move (.tmp 18), none⟩,
      ⟨some 115, .binOp .sub 140 (.tmp 114) (.const (.int .u64 1)) 140, none⟩,
      ⟨some 18, .assign (.tmp 115), none⟩])
    (.seq (.reg [⟨some 116, .move (.tmp 16), none⟩,
      ⟨some 117, .move (.tmp 9), none⟩,
      ⟨some 118, .binOp .add 140 (.tmp 116) (.tmp 117) 140, none⟩,
      ⟨some 16, .assign (.tmp 118), none⟩])
    (.seq (.reg [⟨some 119, .move (.tmp 16), none⟩,
      ⟨some 120, .binOp .geq 140 (.tmp 119) (.const (.int .u64 4294967296)) 140, none⟩])
    (.cond (.tmp 120)
      (.exit 2)
      .skip))))))
def p123 : PC :=
  (.seq (.reg [⟨some 6, .assign (.const (.int .u64 0)), none⟩,
    ⟨some 7, .assign (.const (.int .u64 0)), none⟩])
  (.seq (.seq (.reg [⟨some 19, .move (.tmp 2), none⟩,
    ⟨some 20, .binOp .eql 140 (.tmp 19) (.const (.int .u64 0)) 140, none⟩])
  (.cond (.tmp 20)
    (.reg [⟨some 21, .load 160 (.global 0), none⟩,
      ⟨none, .panic (.tmp 21), none⟩])
    .skip))
  (.seq (.seq (.reg [⟨some 22, .move (.tmp 2), none⟩,
    ⟨some 23, .move (.tmp 0), none⟩,
    ⟨some 24, .binOp .leq 140 (.tmp 22) (.tmp 23) 140, none⟩])
  (.cond (.tmp 24)
    (.reg [⟨some 25, .load 160 (.global 1), none⟩,
      ⟨none, .panic (.tmp 25), none⟩])
    .skip))
  (.seq (.seq (.reg [⟨some 26, .move (.tmp 0), none⟩,
    ⟨some 27, .binOp .eql 140 (.tmp 26) (.const (.int .u64 0)) 140, none⟩])
  (.cond (.tmp 27)
    (.seq (.draw [0, 0, 3, 0, 0, 24, 7, 127] [⟨some 28, .move (.tmp 1), none⟩,
      ⟨some 29, .move (.tmp 2), none⟩,
      ⟨some 30, .binOp .quo 140 (.tmp 28) (.tmp 29) 140, none⟩,
      ⟨some 31, .move (.tmp 1), none⟩,
      ⟨some 32, .move (.tmp 2), none⟩,
      ⟨some 33, .binOp .rem 140 (.tmp 31) (.tmp 32) 140, none⟩,
      ⟨some 6, .assign (.tmp 30), none⟩]
      [⟨some 7, .assign (.tmp 33), none⟩])
    .ret)
    .skip))
  (.seq (.reg [⟨some 34, .move (.tmp 2), none⟩,
    ⟨some 35, .call ⟨.value (.func 144), #[(.tmp 34)], #[140]⟩, none⟩,
    ⟨some 36, .convert 3 116 (.tmp 35), none⟩,
    ⟨some 8, .assign (.tmp 36), none⟩])
  (.seq (.reg [⟨some 37, .move (.tmp 2), none⟩,
    ⟨some 38, .move (.tmp 8), none⟩,
    ⟨some 39, .binOp .shl 140 (.tmp 37) (.tmp 38) 116, none⟩,
    ⟨some 2, .assign (.tmp 39), none⟩])
  (.seq (.reg [⟨some 40, .move (.tmp 2), none⟩,
    ⟨some 41, .binOp .shr 140 (.tmp 40) (.const (.int .u64 32)) 116, none⟩,
    ⟨some 9, .assign (.tmp 41), none⟩])
  (.seq (.reg [⟨some 42, .move (.tmp 2), none⟩,
    ⟨some 43, .binOp .and 140 (.tmp 42) (.const (.int .u64 4294967295)) 140, none⟩,
    ⟨some 10, .assign (.tmp 43), none⟩])
  (.seq (.reg [⟨some 44, .move (.tmp 0), none⟩,
    ⟨some 45, .move (.tmp 8), none⟩,
    ⟨some 46, .binOp .shl 140 (.tmp 44) (.tmp 45) 116, none⟩,
    ⟨some 47, .move (.tmp 1), none⟩,
    ⟨some 48, .move (.tmp 8), none⟩,
    ⟨some 49, .binOp .sub 116 (.const (.int .u64 64)) (.tmp 48) 116, none⟩,
    ⟨some 50, .binOp .shr 140 (.tmp 47) (.tmp 49) 116, none⟩,
    ⟨some 51, .binOp .or 140 (.tmp 46) (.tmp 50) 140, none⟩,
    ⟨some 11, .assign (.tmp 51), none⟩])
  (.seq (.reg [⟨some 52, .move (.tmp 1), none⟩,
    ⟨some 53, .move (.tmp 8), none⟩,
    ⟨some 54, .binOp .shl 140 (.tmp 52) (.tmp 53) 116, none⟩,
    ⟨some 12, .assign (.tmp 54), none⟩])
  (.seq (.reg [⟨some 55, .move (.tmp 12), none⟩,
    ⟨some 56, .binOp .shr 140 (.tmp 55) (.const (.int .u64 32)) 116, none⟩,
    ⟨some 13, .assign (.tmp 56), none⟩])
  (.seq (.reg [⟨some 57, .move (.tmp 12), none⟩,
    ⟨some 58, .binOp .and 140 (.tmp 57) (.const (.int .u64 4294967295)) 140, none⟩,
    ⟨some 14, .assign (.tmp 58), none⟩])
  (.seq (.reg [⟨some 59, .move (.tmp 11), none⟩,
    ⟨some 60, .move (.tmp 9), none⟩,
    ⟨some 61, .binOp .quo 140 (.tmp 59) (.tmp 60) 140, none⟩,
    ⟨some 15, .assign (.tmp 61), none⟩])
  (.seq (.reg [⟨some 62, .move (.tmp 11), none⟩,
    ⟨some 63, .move (.tmp 15), none⟩,
    ⟨some 64, .move (.tmp 9), none⟩,
    ⟨some 65, .binOp .mul 140 (.tmp 63) (.tmp 64) 140, none⟩,
    ⟨some 66, .binOp .sub 140 (.tmp 62) (.tmp 65) 140, none⟩,
    ⟨some 16, .assign (.tmp 66), none⟩])
  (.seq (.block 0
    (.loop p123l0))
  (.seq (.reg [⟨some 86, .move (.tmp 11), none⟩,
    ⟨some 87, .binOp .mul 140 (.tmp 86) (.const (.int .u64 4294967296)) 140, none⟩,
    ⟨some 88, .move (.tmp 13), none⟩,
    ⟨some 89, .binOp .add 140 (.tmp 87) (.tmp 88) 140, none⟩,
    ⟨some 90, .move (.tmp 15), none⟩,
    ⟨some 91, .move (.tmp 2), none⟩,
    ⟨some 92, .binOp .mul 140 (.tmp 90) (.tmp 91) 140, none⟩,
    ⟨some 93, .binOp .sub 140 (.tmp 89) (.tmp 92) 140, none⟩,
    ⟨some 17, .assign (.tmp 93), none⟩])
  (.seq (.reg [⟨some 94, .move (.tmp 17), none⟩,
    ⟨some 95, .move (.tmp 9), none⟩,
    ⟨some 96, .binOp .quo 140 (.tmp 94) (.tmp 95) 140, none⟩,
    ⟨some 18, .assign (.tmp 96), none⟩])
  (.seq (.reg [⟨some 97, .move (.tmp 17), none⟩,
    ⟨some 98, .move (.tmp 18), none⟩,
    ⟨some 99, .move (.tmp 9), none⟩,
    ⟨some 100, .binOp .mul 140 (.tmp 98) (.tmp 99) 140, none⟩,
    ⟨some 101, .binOp .sub 140 (.tmp 97) (.tmp 100) 140, none⟩,
    ⟨some 16, .assign (.tmp 101), none⟩])
  (.seq (.block 2
    (.loop p123l1))
  (.seq (.reg [⟨some 121, .move (.tmp 15), none⟩,
    ⟨some 122, .binOp .mul 140 (.tmp 121) (.const (.int .u64 4294967296)) 140, none⟩,
    ⟨some 123, .move (.tmp 18), none⟩,
    ⟨some 124, .binOp .add 140 (.tmp 122) (.tmp 123) 140, none⟩,
    ⟨some 125, .move (.tmp 17), none⟩,
    ⟨some 126, .binOp .mul 140 (.tmp 125) (.const (.int .u64 4294967296)) 140, none⟩,
    ⟨some 127, .move (.tmp 14), none⟩,
    ⟨some 128, .binOp .add 140 (.tmp 126) (.tmp 127) 140, none⟩,
    ⟨some 129, .move (.tmp 18), none⟩,
    ⟨some 130, .move (.tmp 2), none⟩,
    ⟨some 131, .binOp .mul 140 (.tmp 129) (.tmp 130) 140, none⟩,
    ⟨some 132, .binOp .sub 140 (.tmp 128) (.tmp 131) 140, none⟩,
    ⟨some 133, .move (.tmp 8), none⟩,
    ⟨some 134, .binOp .shr 140 (.tmp 132) (.tmp 133) 116, none⟩,
    ⟨some 6, .assign (.tmp 124), none⟩,
    ⟨some 7, .assign (.tmp 134), none⟩])
  .ret))))))))))))))))))))
theorem c123 : f123.body.bind (comp f123.ntmps) = some p123 := by kernel_rfl

def p124l0 : PC :=
  (.seq (.seq (.reg [⟨some 43, .move (.tmp 11), none⟩,
    ⟨some 44, .move (.tmp 2), none⟩,
    ⟨some 45, .binOp .geq 3 (.tmp 43) (.tmp 44) 3, none⟩])
  (.cond (.tmp 45)
    .skip
    (.exit 2)))
  (.block 3
    (.seq (.reg [⟨some 46, .move (.tmp 11), none⟩,
      ⟨some 47, .move (.tmp 2), none⟩,
      ⟨some 48, .binOp .sub 3 (.tmp 46) (.tmp 47) 3, none⟩,
      ⟨some 11, .assign (.tmp 48), none⟩])
    (.reg [⟨some 49, .move (.tmp 10), none⟩,
      ⟨some 50, .binOp .add 3 (.tmp 49) (.const (.int .i64 1)) 3, none⟩,
      ⟨some 10, .assign (.tmp 50), none⟩]))))
def p124l1 : PC :=
  (.seq (.seq (.reg [⟨some 27, .move (.tmp 12), none⟩,
    ⟨some 28, .binOp .gtr 3 (.tmp 27) (.const (.int .i64 0)) 3, none⟩])
  (.cond (.tmp 28)
    .skip
    (.exit 0)))
  (.seq (.block 1
    (.seq (.reg [⟨some 31, .move (.tmp 10), none⟩,
      ⟨some 32, .binOp .mul 3 (.const (.int .i64 2)) (.tmp 31) 3, none⟩,
      ⟨some 33, .move (.tmp 11), none⟩,
      ⟨some 34, .binOp .mul 3 (.const (.int .i64 2)) (.tmp 33) 3, none⟩,
      ⟨some 10, .assign (.tmp 32), none⟩,
      ⟨some 11, .assign (.tmp 34), none⟩])
    (.seq (.seq (.reg [⟨some 35, .move (.tmp 1), none⟩,
      ⟨some 36, .move (.tmp 12), none⟩,
      ⟨some 37, .binOp .quo 3 (.tmp 35) (.tmp 36) 3, none⟩,
      ⟨some 38, .binOp .rem 3 (.tmp 37) (.const (.int .i64 2)) 3, none⟩,
      ⟨some 39, .binOp .eql 3 (.tmp 38) (.const (.int .i64 1)) 3, none⟩])
    (.cond (.tmp 39)
      (.reg [⟨some 40, .move (.tmp 11), none⟩,
        ⟨some 41, .move (.tmp 9), none⟩,
        ⟨some 42, .binOp .add 3 (.tmp 40) (.tmp 41) 3, none⟩,
        ⟨some 11, .assign (.tmp 42), none⟩])
      .skip))
    (.block 2
      (.loop p124l0)))))
  (.reg [⟨some 29, .move (.tmp 12), none⟩,
    ⟨some 30, .binOp .quo 3 (.tmp 29) (.const (.int .i64 2)) 3, none⟩,
    ⟨some 12, .assign (.tmp 30), none⟩])))
def p124 : PC :=
  (.seq (.reg [⟨some 6, .assign (.const (.int .i64 0)), none⟩,
    ⟨some 7, .assign (.const (.bool false)), none⟩])
  (.seq (.draw [0, 0, 3, 0, 0, 24, 7, 127] [⟨some 13, .move (.tmp 0), none⟩,
    ⟨some 14, .move (.tmp 2), none⟩,
    ⟨some 15, .binOp .quo 3 (.tmp 13) (.tmp 14) 3, none⟩,
    ⟨some 16, .move (.tmp 0), none⟩,
    ⟨some 17, .move (.tmp 2), none⟩,
    ⟨some 18, .binOp .rem 3 (.tmp 16) (.tmp 17) 3, none⟩,
    ⟨some 8, .assign (.tmp 15), none⟩]
    [⟨some 9, .assign (.tmp 18), none⟩])
  (.seq (.seq (.reg [⟨some 19, .move (.tmp 8), none⟩,
    ⟨some 20, .binOp .gtr 3 (.tmp 19) (.const (.int .i64 0)) 3, none⟩,
    ⟨some 21, .move (.tmp 20), none⟩,
    ⟨some 22, .move (.tmp 1), some ((some 21), true)⟩,
    ⟨some 23, .move (.tmp 8), some ((some 21), true)⟩,
    ⟨some 24, .binOp .quo 3 (.const (.int .i64 4398046511104)) (.tmp 23) 3, some ((some 21), true)⟩,
    ⟨some 25, .binOp .gtr 3 (.tmp 22) (.tmp 24) 3, some ((some 21), true)⟩,
    ⟨some 26, .pick (.tmp 21) (.tmp 25) (.const (.bool false)), none⟩])
  (.cond (.tmp 26)
    (.seq (.reg [⟨some 6, .assign (.const (.int .i64 4398046511104)), none⟩,
      ⟨some 7, .assign (.const (.bool false)), none⟩])
    .ret)
    .skip))
  (.seq (.reg [⟨some 10, .assign (.const (.int .i64 0)), none⟩,
    ⟨some 11, .assign (.const (.int .i64 0)), none⟩])
  (.seq (.seq (.reg [⟨some 12, .assign (.const (.int .i64 1099511627776)), none⟩])
  (.block 0
    (.loop p124l1)))
  (.seq (.reg [⟨some 51, .move (.tmp 8), none⟩,
    ⟨some 52, .move (.tmp 1), none⟩,
    ⟨some 53, .binOp .mul 3 (.tmp 51) (.tmp 52) 3, none⟩,
    ⟨some 54, .move (.tmp 10), none⟩,
    ⟨some 55, .binOp .add 3 (.tmp 53) (.tmp 54) 3, none⟩,
    ⟨some 56, .call ⟨.builtin .min, #[(.tmp 55), (.const (.int .i64 4398046511104))], #[3, 3]⟩, none⟩,
    ⟨some 57, .move (.tmp 11), none⟩,
    ⟨some 58, .binOp .eql 3 (.tmp 57) (.const (.int .i64 0)) 3, none⟩,
    ⟨some 6, .assign (.tmp 56), none⟩,
    ⟨some 7, .assign (.tmp 58), none⟩])
  .ret))))))
theorem c124 : f124.body.bind (comp f124.ntmps) = some p124 := by kernel_rfl

def p125 : PC :=
  (.seq (.reg [⟨some 2, .assign (.const (.int .i64 0)), none⟩])
  (.seq (.reg [⟨some 3, .move (.tmp 0), none⟩,
    ⟨some 4, .move (.tmp 0), none⟩,
    ⟨some 5, .unOp .neg 3 (.tmp 4), none⟩,
    ⟨some 6, .call ⟨.builtin .max, #[(.tmp 3), (.tmp 5)], #[3, 3]⟩, none⟩,
    ⟨some 2, .assign (.tmp 6), none⟩])
  .ret))
theorem c125 : f125.body.bind (comp f125.ntmps) = some p125 := by kernel_rfl

def p144 : PC :=
  (.seq (.reg [⟨some 2, .assign (.const (.int .i64 0)), none⟩])
  (.seq (.reg [⟨some 3, .move (.tmp 0), none⟩,
    ⟨some 4, .call ⟨.value (.func 151), #[(.tmp 3)], #[140]⟩, none⟩,
    ⟨some 5, .binOp .sub 3 (.const (.int .i64 64)) (.tmp 4) 3, none⟩,
    ⟨some 2, .assign (.tmp 5), none⟩])
  .ret))
theorem c144 : f144.body.bind (comp f144.ntmps) = some p144 := by kernel_rfl

def p151 : PC :=
  (.seq (.reg [⟨some 2, .assign (.const (.int .i64 0)), none⟩])
  (.seq (.seq (.reg [⟨some 3, .move (.tmp 0), none⟩,
    ⟨some 4, .binOp .geq 140 (.tmp 3) (.const (.int .u64 4294967296)) 140, none⟩])
  (.cond (.tmp 4)
    (.seq (.reg [⟨some 5, .move (.tmp 0), none⟩,
      ⟨some 6, .binOp .shr 140 (.tmp 5) (.const (.int .u64 32)) 116, none⟩,
      ⟨some 0, .assign (.tmp 6), none⟩])
    (.reg [⟨some 2, .assign (.const (.int .i64 32)), none⟩]))
    .skip))
  (.seq (.seq (.reg [⟨some 7, .move (.tmp 0), none⟩,
    ⟨some 8, .binOp .geq 140 (.tmp 7) (.const (.int .u64 65536)) 140, none⟩])
  (.cond (.tmp 8)
    (.seq (.reg [⟨some 9, .move (.tmp 0), none⟩,
      ⟨some 10, .binOp .shr 140 (.tmp 9) (.const (.int .u64 16)) 116, none⟩,
      ⟨some 0, .assign (.tmp 10), none⟩])
    (.reg [⟨some 11, .move (.tmp 2), none⟩,
      ⟨some 12, .binOp .add 3 (.tmp 11) (.const (.int .i64 16)) 3, none⟩,
      ⟨some 2, .assign (.tmp 12), none⟩]))
    .skip))
  (.seq (.seq (.reg [⟨some 13, .move (.tmp 0), none⟩,
    ⟨some 14, .binOp .geq 140 (.tmp 13) (.const (.int .u64 256)) 140, none⟩])
  (.cond (.tmp 14)
    (.seq (.reg [⟨some 15, .move (.tmp 0), none⟩,
      ⟨some 16, .binOp .shr 140 (.tmp 15) (.const (.int .u64 8)) 116, none⟩,
      ⟨some 0, .assign (.tmp 16), none⟩])
    (.reg [⟨some 17, .move (.tmp 2), none⟩,
      ⟨some 18, .binOp .add 3 (.tmp 17) (.const (.int .i64 8)) 3, none⟩,
      ⟨some 2, .assign (.tmp 18), none⟩]))
    .skip))
  (.seq (.reg [⟨some 19, .move (.tmp 2), none⟩,
    ⟨some 20, .move (.tmp 0), none⟩,
    ⟨some 21, .convert 140 5 (.tmp 20), none⟩,
    ⟨some 22, .index 9 (.const (.string ⟨#[0, 1, 2, 2, 3, 3, 3, 3, 4, 4, 4, 4, 4, 4, 4, 4, 5, 5, 5, 5, 5, 5, 5, 5, 5, 5, 5, 5, 5, 5, 5, 5, 6, 6, 6, 6, 6, 6, 6, 6, 6, 6, 6, 6, 6, 6, 6, 6, 6, 6, 6, 6, 6, 6, 6, 6, 6, 6, 6, 6, 6, 6, 6, 6, 7, 7, 7, 7, 7, 7, 7, 7, 7, 7, 7, 7, 7, 7, 7, 7, 7, 7, 7, 7, 7, 7, 7, 7, 7, 7, 7, 7, 7, 7, 7, 7, 7, 7, 7, 7, 7, 7, 7, 7, 7, 7, 7, 7, 7, 7, 7, 7, 7, 7, 7, 7, 7, 7, 7, 7, 7, 7, 7, 7, 7, 7, 7, 7, 8, 8, 8, 8, 8, 8, 8, 8, 8, 8, 8, 8, 8, 8, 8, 8, 8, 8, 8, 8, 8, 8, 8, 8, 8, 8, 8, 8, 8, 8, 8, 8, 8, 8, 8, 8, 8, 8, 8, 8, 8, 8, 8, 8, 8, 8, 8, 8, 8, 8, 8, 8, 8, 8, 8, 8, 8, 8, 8, 8, 8, 8, 8, 8, 8, 8, 8, 8, 8, 8, 8, 8, 8, 8, 8, 8, 8, 8, 8, 8, 8, 8, 8, 8, 8, 8, 8, 8, 8, 8, 8, 8, 8, 8, 8, 8, 8, 8, 8, 8, 8, 8, 8, 8, 8, 8, 8, 8, 8, 8, 8, 8, 8, 8, 8, 8, 8, 8, 8, 8, 8, 8, 8, 8, 8, 8, 8, 8]⟩)) (.tmp 21), none⟩,
    ⟨some 23, .convert 5 3 (.tmp 22), none⟩,
    ⟨some 24, .binOp .add 3 (.tmp 19) (.tmp 23) 3, none⟩,
    ⟨some 2, .assign (.tmp 24), none⟩])
  .ret)))))
theorem c151 : f151.body.bind (comp f151.ntmps) = some p151 := by kernel_rfl

end Go.Proofs.Try
