/- Own lemmas and contracts of functions, used by the last text of this claim for the given statement. Conditions: those that each theorem states. -/
import Derived.Test.YtaedloehfgmcnaaSa
import Derived.Test.YtaedloehfgmcnaaProg
namespace Go.Proofs.Try
open Go.Psl
def p3 : PC :=
  (.seq (.reg [⟨some 4, .box 24 (.tmp 1), none⟩,
    ⟨some 5, .box 24 (.tmp 2), none⟩,
    ⟨some 6, .assign (.const (.bool false)), none⟩])
  (.seq (.seq (.reg [⟨some 20, .move (.tmp 0), none⟩,
    ⟨some 21, .call ⟨.builtin .len, #[(.tmp 20)], #[22]⟩, none⟩,
    ⟨some 22, .binOp .gtr 3 (.tmp 21) (.const (.int .i64 40)) 3, none⟩])
  (.cond (.tmp 22)
    (.seq (.reg [⟨some 6, .assign (.const (.bool true)), none⟩])
    .ret)
    .skip))
  (.seq (.reg [⟨some 23, .buildSlice 22 0 #[], none⟩,
    ⟨some 24, .move (.tmp 0), none⟩,
    ⟨some 25, .call ⟨.builtin .append, #[(.tmp 23), (.tmp 24)], #[22, 22]⟩, none⟩,
    ⟨some 7, .assign (.tmp 25), none⟩])
  (.seq (.reg [⟨some 27, .move (.tmp 7), none⟩,
    ⟨some 28, .load 24 (.tmp 4), none⟩,
    ⟨some 29, .call ⟨.value (.func 20), #[(.tmp 27), (.tmp 28)], #[22, 24]⟩, none⟩,
    ⟨some 26, .move (.tmp 29), none⟩,
    ⟨some 30, .extract (.tmp 26) 0, none⟩,
    ⟨some 31, .extract (.tmp 26) 1, none⟩,
    ⟨some 8, .alloc 24, none⟩,
    ⟨none, .store 24 (.tmp 8) (.tmp 30), none⟩,
    ⟨some 9, .assign (.tmp 31), none⟩])
  (.seq (.reg [⟨some 33, .move (.tmp 0), none⟩,
    ⟨some 34, .load 24 (.tmp 4), none⟩,
    ⟨some 35, .call ⟨.value (.func 21), #[(.tmp 33), (.tmp 34)], #[22, 24]⟩, none⟩,
    ⟨some 32, .move (.tmp 35), none⟩,
    ⟨some 36, .extract (.tmp 32) 0, none⟩,
    ⟨some 37, .extract (.tmp 32) 1, none⟩,
    ⟨some 10, .alloc 24, none⟩,
    ⟨none, .store 24 (.tmp 10) (.tmp 36), none⟩,
    ⟨some 11, .assign (.tmp 37), none⟩])
  (.seq (.reg [⟨some 39, .move (.tmp 7), none⟩,
    ⟨some 40, .load 24 (.tmp 5), none⟩,
    ⟨some 41, .call ⟨.value (.func 22), #[(.tmp 39), (.tmp 40)], #[22, 24]⟩, none⟩,
    ⟨some 38, .move (.tmp 41), none⟩,
    ⟨some 42, .extract (.tmp 38) 0, none⟩,
    ⟨some 43, .extract (.tmp 38) 1, none⟩,
    ⟨some 12, .assign (.tmp 42), none⟩,
    ⟨some 13, .assign (.tmp 43), none⟩])
  (.seq (.reg [⟨some 45, .move (.tmp 0), none⟩,
    ⟨some 46, .load 24 (.tmp 5), none⟩,
    ⟨some 47, .call ⟨.value (.func 23), #[(.tmp 45), (.tmp 46)], #[22, 24]⟩, none⟩,
    ⟨some 44, .move (.tmp 47), none⟩,
    ⟨some 48, .extract (.tmp 44) 0, none⟩,
    ⟨some 49, .extract (.tmp 44) 1, none⟩,
    ⟨some 14, .assign (.tmp 48), none⟩,
    ⟨some 15, .assign (.tmp 49), none⟩])
  (.seq (.reg [⟨some 51, .move (.tmp 7), none⟩,
    ⟨some 52, .load 24 (.tmp 5), none⟩,
    ⟨some 53, .call ⟨.value (.func 24), #[(.tmp 51), (.tmp 52)], #[22, 24]⟩, none⟩,
    ⟨some 50, .move (.tmp 53), none⟩,
    ⟨some 54, .extract (.tmp 50) 0, none⟩,
    ⟨some 55, .extract (.tmp 50) 1, none⟩,
    ⟨some 16, .assign (.tmp 54), none⟩,
    ⟨some 17, .assign (.tmp 55), none⟩])
  (.seq (.reg [⟨some 57, .move (.tmp 0), none⟩,
    ⟨some 58, .load 24 (.tmp 5), none⟩,
    ⟨some 59, .call ⟨.value (.func 25), #[(.tmp 57), (.tmp 58)], #[22, 24]⟩, none⟩,
    ⟨some 56, .move (.tmp 59), none⟩,
    ⟨some 60, .extract (.tmp 56) 0, none⟩,
    ⟨some 61, .extract (.tmp 56) 1, none⟩,
    ⟨some 18, .assign (.tmp 60), none⟩,
    ⟨some 19, .assign (.tmp 61), none⟩])
  (.seq (.reg [⟨some 62, .move (.tmp 7), none⟩,
    ⟨some 63, .call ⟨.value (.func 26), #[(.tmp 62)], #[22]⟩, none⟩,
    ⟨some 64, .move (.tmp 0), none⟩,
    ⟨some 65, .call ⟨.value (.func 27), #[(.tmp 64)], #[22]⟩, none⟩,
    ⟨some 66, .binOp .eql 3 (.tmp 63) (.tmp 65) 3, none⟩,
    ⟨some 67, .move (.tmp 66), none⟩,
    ⟨some 68, .load 24 (.tmp 8), some ((some 67), true)⟩,
    ⟨some 69, .load 24 (.tmp 10), some ((some 67), true)⟩,
    ⟨some 70, .binOp .eql 24 (.tmp 68) (.tmp 69) 24, some ((some 67), true)⟩,
    ⟨some 71, .pick (.tmp 67) (.tmp 70) (.const (.bool false)), none⟩,
    ⟨some 72, .move (.tmp 71), none⟩,
    ⟨some 73, .move (.tmp 9), some ((some 72), true)⟩,
    ⟨some 74, .move (.tmp 11), some ((some 72), true)⟩,
    ⟨some 75, .binOp .eql 3 (.tmp 73) (.tmp 74) 3, some ((some 72), true)⟩,
    ⟨some 76, .pick (.tmp 72) (.tmp 75) (.const (.bool false)), none⟩,
    ⟨some 77, .move (.tmp 76), none⟩,
    ⟨some 78, .move (.tmp 12), some ((some 77), true)⟩,
    ⟨some 79, .move (.tmp 14), some ((some 77), true)⟩,
    ⟨some 80, .call ⟨.value (.func 28), #[(.tmp 78), (.tmp 79)], #[30, 30]⟩, some ((some 77), true)⟩,
    ⟨some 81, .pick (.tmp 77) (.tmp 80) (.const (.bool false)), none⟩,
    ⟨some 82, .move (.tmp 81), none⟩,
    ⟨some 83, .move (.tmp 13), some ((some 82), true)⟩,
    ⟨some 84, .move (.tmp 15), some ((some 82), true)⟩,
    ⟨some 85, .binOp .eql 3 (.tmp 83) (.tmp 84) 3, some ((some 82), true)⟩,
    ⟨some 86, .pick (.tmp 82) (.tmp 85) (.const (.bool false)), none⟩,
    ⟨some 87, .move (.tmp 86), none⟩,
    ⟨some 88, .move (.tmp 16), some ((some 87), true)⟩,
    ⟨some 89, .move (.tmp 18), some ((some 87), true)⟩,
    ⟨some 90, .call ⟨.value (.func 28), #[(.tmp 88), (.tmp 89)], #[30, 30]⟩, some ((some 87), true)⟩,
    ⟨some 91, .pick (.tmp 87) (.tmp 90) (.const (.bool false)), none⟩,
    ⟨some 92, .move (.tmp 91), none⟩,
    ⟨some 93, .move (.tmp 17), some ((some 92), true)⟩,
    ⟨some 94, .move (.tmp 19), some ((some 92), true)⟩,
    ⟨some 95, .binOp .eql 3 (.tmp 93) (.tmp 94) 3, some ((some 92), true)⟩,
    ⟨some 96, .pick (.tmp 92) (.tmp 95) (.const (.bool false)), none⟩,
    ⟨some 97, .move (.tmp 96), none⟩,
    ⟨some 98, .move (.tmp 7), some ((some 97), true)⟩,
    ⟨some 99, .move (.tmp 0), some ((some 97), true)⟩,
    ⟨some 100, .call ⟨.value (.func 29), #[(.tmp 98), (.tmp 99)], #[22, 22]⟩, some ((some 97), true)⟩,
    ⟨some 101, .pick (.tmp 97) (.tmp 100) (.const (.bool false)), none⟩,
    ⟨some 6, .assign (.tmp 101), none⟩])
  .ret))))))))))
theorem c3 : f3.body.bind (comp f3.ntmps) = some p3 := by kernel_rfl
def p4 : PC :=
  (.seq (.reg [⟨some 3, .box 24 (.tmp 0), none⟩,
    ⟨some 4, .box 24 (.tmp 1), none⟩,
    ⟨some 5, .box 24 (.tmp 2), none⟩,
    ⟨some 6, .assign (.const (.bool false)), none⟩])
  (.seq (.reg [⟨some 16, .load 24 (.tmp 3), none⟩,
    ⟨some 17, .load 24 (.tmp 4), none⟩,
    ⟨some 18, .load 24 (.tmp 5), none⟩,
    ⟨some 19, .call ⟨.value (.func 30), #[(.tmp 16), (.tmp 17), (.tmp 18)], #[24, 24, 24]⟩, none⟩,
    ⟨some 15, .move (.tmp 19), none⟩,
    ⟨some 20, .extract (.tmp 15) 0, none⟩,
    ⟨some 21, .extract (.tmp 15) 1, none⟩,
    ⟨some 7, .alloc 24, none⟩,
    ⟨none, .store 24 (.tmp 7) (.tmp 20), none⟩,
    ⟨some 8, .assign (.tmp 21), none⟩])
  (.seq (.reg [⟨some 23, .load 24 (.tmp 3), none⟩,
    ⟨some 24, .load 24 (.tmp 4), none⟩,
    ⟨some 25, .load 24 (.tmp 5), none⟩,
    ⟨some 26, .call ⟨.value (.func 31), #[(.tmp 23), (.tmp 24), (.tmp 25)], #[24, 24, 24]⟩, none⟩,
    ⟨some 22, .move (.tmp 26), none⟩,
    ⟨some 27, .extract (.tmp 22) 0, none⟩,
    ⟨some 28, .extract (.tmp 22) 1, none⟩,
    ⟨some 9, .alloc 24, none⟩,
    ⟨none, .store 24 (.tmp 9) (.tmp 27), none⟩,
    ⟨some 10, .assign (.tmp 28), none⟩])
  (.seq (.reg [⟨some 30, .load 24 (.tmp 3), none⟩,
    ⟨some 31, .call ⟨.value (.func 32), #[(.tmp 30)], #[24]⟩, none⟩,
    ⟨some 29, .move (.tmp 31), none⟩,
    ⟨some 32, .extract (.tmp 29) 0, none⟩,
    ⟨some 33, .extract (.tmp 29) 1, none⟩,
    ⟨some 11, .alloc 24, none⟩,
    ⟨none, .store 24 (.tmp 11) (.tmp 32), none⟩,
    ⟨some 12, .assign (.tmp 33), none⟩])
  (.seq (.reg [⟨some 35, .load 24 (.tmp 3), none⟩,
    ⟨some 36, .call ⟨.value (.func 33), #[(.tmp 35)], #[24]⟩, none⟩,
    ⟨some 34, .move (.tmp 36), none⟩,
    ⟨some 37, .extract (.tmp 34) 0, none⟩,
    ⟨some 38, .extract (.tmp 34) 1, none⟩,
    ⟨some 13, .alloc 24, none⟩,
    ⟨none, .store 24 (.tmp 13) (.tmp 37), none⟩,
    ⟨some 14, .assign (.tmp 38), none⟩])
  (.seq (.reg [⟨some 39, .load 24 (.tmp 7), none⟩,
    ⟨some 40, .load 24 (.tmp 9), none⟩,
    ⟨some 41, .binOp .eql 24 (.tmp 39) (.tmp 40) 24, none⟩,
    ⟨some 42, .move (.tmp 41), none⟩,
    ⟨some 43, .move (.tmp 8), some ((some 42), true)⟩,
    ⟨some 44, .move (.tmp 10), some ((some 42), true)⟩,
    ⟨some 45, .binOp .eql 3 (.tmp 43) (.tmp 44) 3, some ((some 42), true)⟩,
    ⟨some 46, .pick (.tmp 42) (.tmp 45) (.const (.bool false)), none⟩,
    ⟨some 47, .move (.tmp 46), none⟩,
    ⟨some 48, .load 24 (.tmp 11), some ((some 47), true)⟩,
    ⟨some 49, .load 24 (.tmp 13), some ((some 47), true)⟩,
    ⟨some 50, .binOp .eql 24 (.tmp 48) (.tmp 49) 24, some ((some 47), true)⟩,
    ⟨some 51, .pick (.tmp 47) (.tmp 50) (.const (.bool false)), none⟩,
    ⟨some 52, .move (.tmp 51), none⟩,
    ⟨some 53, .move (.tmp 12), some ((some 52), true)⟩,
    ⟨some 54, .move (.tmp 14), some ((some 52), true)⟩,
    ⟨some 55, .binOp .eql 3 (.tmp 53) (.tmp 54) 3, some ((some 52), true)⟩,
    ⟨some 56, .pick (.tmp 52) (.tmp 55) (.const (.bool false)), none⟩,
    ⟨some 6, .assign (.tmp 56), none⟩])
  .ret))))))
theorem c4 : f4.body.bind (comp f4.ntmps) = some p4 := by kernel_rfl
def p5 : PC :=
  (.seq (.reg [⟨some 2, .box 24 (.tmp 0), none⟩,
    ⟨some 3, .box 24 (.tmp 1), none⟩,
    ⟨some 4, .assign (.const (.bool false)), none⟩])
  (.seq (.reg [⟨some 30, .load 24 (.tmp 2), none⟩,
    ⟨some 31, .load 24 (.tmp 3), none⟩,
    ⟨some 32, .call ⟨.value (.func 34), #[(.tmp 30), (.tmp 31)], #[24, 24]⟩, none⟩,
    ⟨some 29, .move (.tmp 32), none⟩,
    ⟨some 33, .extract (.tmp 29) 0, none⟩,
    ⟨some 34, .extract (.tmp 29) 1, none⟩,
    ⟨some 5, .alloc 24, none⟩,
    ⟨none, .store 24 (.tmp 5) (.tmp 33), none⟩,
    ⟨some 6, .assign (.tmp 34), none⟩])
  (.seq (.reg [⟨some 36, .load 24 (.tmp 2), none⟩,
    ⟨some 37, .load 24 (.tmp 3), none⟩,
    ⟨some 38, .call ⟨.value (.func 35), #[(.tmp 36), (.tmp 37)], #[24, 24]⟩, none⟩,
    ⟨some 35, .move (.tmp 38), none⟩,
    ⟨some 39, .extract (.tmp 35) 0, none⟩,
    ⟨some 40, .extract (.tmp 35) 1, none⟩,
    ⟨some 7, .alloc 24, none⟩,
    ⟨none, .store 24 (.tmp 7) (.tmp 39), none⟩,
    ⟨some 8, .assign (.tmp 40), none⟩])
  (.seq (.reg [⟨some 42, .load 24 (.tmp 2), none⟩,
    ⟨some 43, .load 24 (.tmp 3), none⟩,
    ⟨some 44, .call ⟨.value (.func 36), #[(.tmp 42), (.tmp 43)], #[24, 24]⟩, none⟩,
    ⟨some 41, .move (.tmp 44), none⟩,
    ⟨some 45, .extract (.tmp 41) 0, none⟩,
    ⟨some 46, .extract (.tmp 41) 1, none⟩,
    ⟨some 9, .alloc 24, none⟩,
    ⟨none, .store 24 (.tmp 9) (.tmp 45), none⟩,
    ⟨some 10, .assign (.tmp 46), none⟩])
  (.seq (.reg [⟨some 48, .load 24 (.tmp 2), none⟩,
    ⟨some 49, .load 24 (.tmp 3), none⟩,
    ⟨some 50, .call ⟨.value (.func 37), #[(.tmp 48), (.tmp 49)], #[24, 24]⟩, none⟩,
    ⟨some 47, .move (.tmp 50), none⟩,
    ⟨some 51, .extract (.tmp 47) 0, none⟩,
    ⟨some 52, .extract (.tmp 47) 1, none⟩,
    ⟨some 11, .alloc 24, none⟩,
    ⟨none, .store 24 (.tmp 11) (.tmp 51), none⟩,
    ⟨some 12, .assign (.tmp 52), none⟩])
  (.seq (.reg [⟨some 54, .load 24 (.tmp 2), none⟩,
    ⟨some 55, .load 24 (.tmp 3), none⟩,
    ⟨some 56, .call ⟨.value (.func 38), #[(.tmp 54), (.tmp 55)], #[24, 24]⟩, none⟩,
    ⟨some 53, .move (.tmp 56), none⟩,
    ⟨some 57, .extract (.tmp 53) 0, none⟩,
    ⟨some 58, .extract (.tmp 53) 1, none⟩,
    ⟨some 13, .alloc 24, none⟩,
    ⟨none, .store 24 (.tmp 13) (.tmp 57), none⟩,
    ⟨some 14, .assign (.tmp 58), none⟩])
  (.seq (.reg [⟨some 60, .load 24 (.tmp 2), none⟩,
    ⟨some 61, .load 24 (.tmp 3), none⟩,
    ⟨some 62, .call ⟨.value (.func 39), #[(.tmp 60), (.tmp 61)], #[24, 24]⟩, none⟩,
    ⟨some 59, .move (.tmp 62), none⟩,
    ⟨some 63, .extract (.tmp 59) 0, none⟩,
    ⟨some 64, .extract (.tmp 59) 1, none⟩,
    ⟨some 15, .alloc 24, none⟩,
    ⟨none, .store 24 (.tmp 15) (.tmp 63), none⟩,
    ⟨some 16, .assign (.tmp 64), none⟩])
  (.seq (.reg [⟨some 66, .load 24 (.tmp 2), none⟩,
    ⟨some 67, .load 24 (.tmp 3), none⟩,
    ⟨some 68, .call ⟨.value (.func 40), #[(.tmp 66), (.tmp 67)], #[24, 24]⟩, none⟩,
    ⟨some 65, .move (.tmp 68), none⟩,
    ⟨some 69, .extract (.tmp 65) 0, none⟩,
    ⟨some 70, .extract (.tmp 65) 1, none⟩,
    ⟨some 17, .alloc 24, none⟩,
    ⟨none, .store 24 (.tmp 17) (.tmp 69), none⟩,
    ⟨some 18, .assign (.tmp 70), none⟩])
  (.seq (.reg [⟨some 72, .load 24 (.tmp 2), none⟩,
    ⟨some 73, .load 24 (.tmp 3), none⟩,
    ⟨some 74, .call ⟨.value (.func 41), #[(.tmp 72), (.tmp 73)], #[24, 24]⟩, none⟩,
    ⟨some 71, .move (.tmp 74), none⟩,
    ⟨some 75, .extract (.tmp 71) 0, none⟩,
    ⟨some 76, .extract (.tmp 71) 1, none⟩,
    ⟨some 19, .alloc 24, none⟩,
    ⟨none, .store 24 (.tmp 19) (.tmp 75), none⟩,
    ⟨some 20, .assign (.tmp 76), none⟩])
  (.seq (.reg [⟨some 78, .load 24 (.tmp 2), none⟩,
    ⟨some 79, .load 24 (.tmp 3), none⟩,
    ⟨some 80, .call ⟨.value (.func 42), #[(.tmp 78), (.tmp 79)], #[24, 24]⟩, none⟩,
    ⟨some 77, .move (.tmp 80), none⟩,
    ⟨some 81, .extract (.tmp 77) 0, none⟩,
    ⟨some 82, .extract (.tmp 77) 1, none⟩,
    ⟨some 21, .alloc 24, none⟩,
    ⟨none, .store 24 (.tmp 21) (.tmp 81), none⟩,
    ⟨some 22, .assign (.tmp 82), none⟩])
  (.seq (.reg [⟨some 84, .load 24 (.tmp 2), none⟩,
    ⟨some 85, .load 24 (.tmp 3), none⟩,
    ⟨some 86, .call ⟨.value (.func 43), #[(.tmp 84), (.tmp 85)], #[24, 24]⟩, none⟩,
    ⟨some 83, .move (.tmp 86), none⟩,
    ⟨some 87, .extract (.tmp 83) 0, none⟩,
    ⟨some 88, .extract (.tmp 83) 1, none⟩,
    ⟨some 23, .alloc 24, none⟩,
    ⟨none, .store 24 (.tmp 23) (.tmp 87), none⟩,
    ⟨some 24, .assign (.tmp 88), none⟩])
  (.seq (.reg [⟨some 90, .load 24 (.tmp 2), none⟩,
    ⟨some 91, .load 24 (.tmp 3), none⟩,
    ⟨some 92, .call ⟨.value (.func 44), #[(.tmp 90), (.tmp 91)], #[24, 24]⟩, none⟩,
    ⟨some 89, .move (.tmp 92), none⟩,
    ⟨some 93, .extract (.tmp 89) 0, none⟩,
    ⟨some 94, .extract (.tmp 89) 1, none⟩,
    ⟨some 25, .assign (.tmp 93), none⟩,
    ⟨some 26, .assign (.tmp 94), none⟩])
  (.seq (.reg [⟨some 96, .load 24 (.tmp 2), none⟩,
    ⟨some 97, .load 24 (.tmp 3), none⟩,
    ⟨some 98, .call ⟨.value (.func 45), #[(.tmp 96), (.tmp 97)], #[24, 24]⟩, none⟩,
    ⟨some 95, .move (.tmp 98), none⟩,
    ⟨some 99, .extract (.tmp 95) 0, none⟩,
    ⟨some 100, .extract (.tmp 95) 1, none⟩,
    ⟨some 27, .assign (.tmp 99), none⟩,
    ⟨some 28, .assign (.tmp 100), none⟩])
  (.seq (.draw [0, 1, 0, 7, 15, 31, 63, 63, 255, 511, 1023, 2047, 2047, 8191, 16383, 32767, 65535, 65535, 262143, 524287, 1048575, 2097151, 2097151, 8388607, 16777215, 33554431, 67108863, 67108863, 268435455, 536870911, 1073741823, 2147483647, 2147483647, 8589934591, 17179869183, 34359738367, 68719476735, 68719476735, 274877906943, 549755813887, 1099511627775, 2199023255551, 2199023255551, 8796093022207, 17592186044415, 35184372088831, 70368744177663, 70368744177663, 281474976710655, 562949953421311, 1125899906842623, 2251799813685247, 2251799813685247, 9007199254740991, 18014398509481983, 36028797018963967, 72057594037927935, 72057594037927935, 288230376151711743, 576460752303423487, 1152921504606846975, 2305843009213693951, 2305843009213693951, 9223372036854775807, 18446744073709551615, 36893488147419103231] [⟨some 101, .load 24 (.tmp 2), none⟩,
    ⟨some 102, .call ⟨.value (.func 46), #[(.tmp 101)], #[24]⟩, none⟩,
    ⟨some 103, .load 24 (.tmp 2), none⟩,
    ⟨some 104, .call ⟨.value (.func 47), #[(.tmp 103)], #[24]⟩, none⟩,
    ⟨some 105, .binOp .eql 3 (.tmp 102) (.tmp 104) 3, none⟩,
    ⟨some 106, .move (.tmp 105), none⟩,
    ⟨some 107, .load 24 (.tmp 5), some ((some 106), true)⟩,
    ⟨some 108, .load 24 (.tmp 7), some ((some 106), true)⟩,
    ⟨some 109, .binOp .eql 24 (.tmp 107) (.tmp 108) 24, some ((some 106), true)⟩,
    ⟨some 110, .pick (.tmp 106) (.tmp 109) (.const (.bool false)), none⟩,
    ⟨some 111, .move (.tmp 110), none⟩,
    ⟨some 112, .move (.tmp 6), some ((some 111), true)⟩,
    ⟨some 113, .move (.tmp 8), some ((some 111), true)⟩,
    ⟨some 114, .binOp .eql 3 (.tmp 112) (.tmp 113) 3, some ((some 111), true)⟩,
    ⟨some 115, .pick (.tmp 111) (.tmp 114) (.const (.bool false)), none⟩,
    ⟨some 116, .move (.tmp 115), none⟩,
    ⟨some 117, .load 24 (.tmp 9), some ((some 116), true)⟩,
    ⟨some 118, .load 24 (.tmp 11), some ((some 116), true)⟩,
    ⟨some 119, .binOp .eql 24 (.tmp 117) (.tmp 118) 24, some ((some 116), true)⟩,
    ⟨some 120, .pick (.tmp 116) (.tmp 119) (.const (.bool false)), none⟩,
    ⟨some 121, .move (.tmp 120), none⟩,
    ⟨some 122, .move (.tmp 10), some ((some 121), true)⟩,
    ⟨some 123, .move (.tmp 12), some ((some 121), true)⟩,
    ⟨some 124, .binOp .eql 3 (.tmp 122) (.tmp 123) 3, some ((some 121), true)⟩,
    ⟨some 125, .pick (.tmp 121) (.tmp 124) (.const (.bool false)), none⟩,
    ⟨some 126, .move (.tmp 125), none⟩,
    ⟨some 127, .load 24 (.tmp 13), some ((some 126), true)⟩,
    ⟨some 128, .load 24 (.tmp 15), some ((some 126), true)⟩,
    ⟨some 129, .binOp .eql 24 (.tmp 127) (.tmp 128) 24, some ((some 126), true)⟩,
    ⟨some 130, .pick (.tmp 126) (.tmp 129) (.const (.bool false)), none⟩,
    ⟨some 131, .move (.tmp 130), none⟩,
    ⟨some 132, .move (.tmp 14), some ((some 131), true)⟩,
    ⟨some 133, .move (.tmp 16), some ((some 131), true)⟩,
    ⟨some 134, .binOp .eql 3 (.tmp 132) (.tmp 133) 3, some ((some 131), true)⟩,
    ⟨some 135, .pick (.tmp 131) (.tmp 134) (.const (.bool false)), none⟩,
    ⟨some 136, .move (.tmp 135), none⟩,
    ⟨some 137, .load 24 (.tmp 17), some ((some 136), true)⟩,
    ⟨some 138, .load 24 (.tmp 19), some ((some 136), true)⟩,
    ⟨some 139, .binOp .eql 24 (.tmp 137) (.tmp 138) 24, some ((some 136), true)⟩,
    ⟨some 140, .pick (.tmp 136) (.tmp 139) (.const (.bool false)), none⟩,
    ⟨some 141, .move (.tmp 140), none⟩,
    ⟨some 142, .move (.tmp 18), some ((some 141), true)⟩,
    ⟨some 143, .move (.tmp 20), some ((some 141), true)⟩,
    ⟨some 144, .binOp .eql 3 (.tmp 142) (.tmp 143) 3, some ((some 141), true)⟩,
    ⟨some 145, .pick (.tmp 141) (.tmp 144) (.const (.bool false)), none⟩,
    ⟨some 146, .move (.tmp 145), none⟩,
    ⟨some 147, .load 24 (.tmp 21), some ((some 146), true)⟩,
    ⟨some 148, .load 24 (.tmp 23), some ((some 146), true)⟩,
    ⟨some 149, .binOp .eql 24 (.tmp 147) (.tmp 148) 24, some ((some 146), true)⟩,
    ⟨some 150, .pick (.tmp 146) (.tmp 149) (.const (.bool false)), none⟩,
    ⟨some 151, .move (.tmp 150), none⟩,
    ⟨some 152, .move (.tmp 22), some ((some 151), true)⟩,
    ⟨some 153, .move (.tmp 24), some ((some 151), true)⟩,
    ⟨some 154, .binOp .eql 3 (.tmp 152) (.tmp 153) 3, some ((some 151), true)⟩,
    ⟨some 155, .pick (.tmp 151) (.tmp 154) (.const (.bool false)), none⟩,
    ⟨some 156, .move (.tmp 155), none⟩,
    ⟨some 157, .move (.tmp 25), some ((some 156), true)⟩,
    ⟨some 158, .move (.tmp 27), some ((some 156), true)⟩,
    ⟨some 159, .binOp .eql 4 (.tmp 157) (.tmp 158) 4, some ((some 156), true)⟩,
    ⟨some 160, .pick (.tmp 156) (.tmp 159) (.const (.bool false)), none⟩,
    ⟨some 161, .move (.tmp 160), none⟩,
    ⟨some 162, .move (.tmp 26), some ((some 161), true)⟩,
    ⟨some 163, .move (.tmp 28), some ((some 161), true)⟩]
    [⟨some 164, .binOp .eql 3 (.tmp 162) (.tmp 163) 3, some ((some 161), true)⟩,
    ⟨some 165, .pick (.tmp 161) (.tmp 164) (.const (.bool false)), none⟩,
    ⟨some 4, .assign (.tmp 165), none⟩])
  .ret))))))))))))))
theorem c5 : f5.body.bind (comp f5.ntmps) = some p5 := by kernel_rfl
def p6l0 : PC :=
  (.seq (.reg [⟨some 109, .binOp .lss 3 (.tmp 108) (.tmp 107) 3, none⟩])
  (.seq (.cond (.tmp 109)
    .skip
    (.exit 0))
  (.seq (.block 1
    (.seq (.reg [⟨some 110, .move (.tmp 108), none⟩,
      ⟨some 23, .assign (.tmp 110), none⟩])
    (.reg [⟨some 111, .move (.tmp 10), none⟩,
      ⟨some 112, .move (.tmp 23), none⟩,
      ⟨some 113, .build 56 #[(0, (.const (.int .i64 (-7)))), (1, (.const (.int .i64 7)))], none⟩,
      ⟨some 114, .indexAddr 54 (.tmp 111) (.tmp 112), none⟩,
      ⟨none, .store 56 (.tmp 114) (.tmp 113), none⟩])))
  (.reg [⟨some 115, .binOp .add 3 (.tmp 108) (.const (.int .i64 1)) 3, none⟩,
    ⟨some 108, .move (.tmp 115), none⟩]))))
def p6 : PC :=
  (.seq (.reg [⟨some 7, .box 56 (.tmp 3), none⟩,
    ⟨some 8, .assign (.const (.bool false)), none⟩])
  (.seq (.seq (.reg [⟨some 24, .move (.tmp 0), none⟩,
    ⟨some 25, .call ⟨.value (.func 48), #[(.tmp 24)], #[54]⟩, none⟩,
    ⟨some 26, .move (.tmp 25), none⟩,
    ⟨some 27, .move (.tmp 1), some ((some 26), false)⟩,
    ⟨some 28, .call ⟨.value (.func 48), #[(.tmp 27)], #[54]⟩, some ((some 26), false)⟩,
    ⟨some 29, .pick (.tmp 26) (.const (.bool true)) (.tmp 28), none⟩,
    ⟨some 30, .move (.tmp 29), none⟩,
    ⟨some 31, .move (.tmp 2), some ((some 30), false)⟩,
    ⟨some 32, .call ⟨.value (.func 48), #[(.tmp 31)], #[54]⟩, some ((some 30), false)⟩,
    ⟨some 33, .pick (.tmp 30) (.const (.bool true)) (.tmp 32), none⟩])
  (.cond (.tmp 33)
    (.seq (.reg [⟨some 8, .assign (.const (.bool true)), none⟩])
    .ret)
    .skip))
  (.seq (.reg [⟨some 34, .buildSlice 54 0 #[], none⟩,
    ⟨some 35, .move (.tmp 0), none⟩,
    ⟨some 36, .call ⟨.builtin .append, #[(.tmp 34), (.tmp 35)], #[54, 54]⟩, none⟩,
    ⟨some 9, .assign (.tmp 36), none⟩])
  (.seq (.reg [⟨some 38, .move (.tmp 9), none⟩,
    ⟨some 39, .call ⟨.value (.func 49), #[(.tmp 38)], #[54]⟩, none⟩,
    ⟨some 37, .move (.tmp 39), none⟩,
    ⟨some 40, .extract (.tmp 37) 0, none⟩,
    ⟨some 41, .extract (.tmp 37) 1, none⟩,
    ⟨some 10, .assign (.tmp 40), none⟩,
    ⟨some 11, .assign (.tmp 41), none⟩])
  (.seq (.reg [⟨some 43, .move (.tmp 0), none⟩,
    ⟨some 44, .call ⟨.value (.func 50), #[(.tmp 43)], #[54]⟩, none⟩,
    ⟨some 42, .move (.tmp 44), none⟩,
    ⟨some 45, .extract (.tmp 42) 0, none⟩,
    ⟨some 46, .extract (.tmp 42) 1, none⟩,
    ⟨some 12, .assign (.tmp 45), none⟩,
    ⟨some 13, .assign (.tmp 46), none⟩])
  (.seq (.reg [⟨some 48, .move (.tmp 1), none⟩,
    ⟨some 49, .load 56 (.tmp 7), none⟩,
    ⟨some 50, .call ⟨.value (.func 51), #[(.tmp 48), (.tmp 49)], #[54, 56]⟩, none⟩,
    ⟨some 47, .move (.tmp 50), none⟩,
    ⟨some 51, .extract (.tmp 47) 0, none⟩,
    ⟨some 52, .extract (.tmp 47) 1, none⟩,
    ⟨some 14, .assign (.tmp 51), none⟩,
    ⟨some 15, .assign (.tmp 52), none⟩])
  (.seq (.reg [⟨some 54, .move (.tmp 1), none⟩,
    ⟨some 55, .load 56 (.tmp 7), none⟩,
    ⟨some 56, .call ⟨.value (.func 52), #[(.tmp 54), (.tmp 55)], #[54, 56]⟩, none⟩,
    ⟨some 53, .move (.tmp 56), none⟩,
    ⟨some 57, .extract (.tmp 53) 0, none⟩,
    ⟨some 58, .extract (.tmp 53) 1, none⟩,
    ⟨some 16, .assign (.tmp 57), none⟩,
    ⟨some 17, .assign (.tmp 58), none⟩])
  (.seq (.reg [⟨some 60, .move (.tmp 1), none⟩,
    ⟨some 61, .move (.tmp 2), none⟩,
    ⟨some 62, .call ⟨.value (.func 53), #[(.tmp 60), (.tmp 61)], #[54, 54]⟩, none⟩,
    ⟨some 59, .move (.tmp 62), none⟩,
    ⟨some 63, .extract (.tmp 59) 0, none⟩,
    ⟨some 64, .extract (.tmp 59) 1, none⟩,
    ⟨some 18, .assign (.tmp 63), none⟩,
    ⟨some 19, .assign (.tmp 64), none⟩])
  (.seq (.reg [⟨some 66, .move (.tmp 1), none⟩,
    ⟨some 67, .move (.tmp 2), none⟩,
    ⟨some 68, .call ⟨.value (.func 54), #[(.tmp 66), (.tmp 67)], #[54, 54]⟩, none⟩,
    ⟨some 65, .move (.tmp 68), none⟩,
    ⟨some 69, .extract (.tmp 65) 0, none⟩,
    ⟨some 70, .extract (.tmp 65) 1, none⟩,
    ⟨some 20, .assign (.tmp 69), none⟩,
    ⟨some 21, .assign (.tmp 70), none⟩])
  (.seq (.reg [⟨some 71, .move (.tmp 1), none⟩,
    ⟨some 72, .call ⟨.value (.func 55), #[(.tmp 71)], #[54]⟩, none⟩,
    ⟨some 73, .move (.tmp 1), none⟩,
    ⟨some 74, .call ⟨.value (.func 56), #[(.tmp 73)], #[54]⟩, none⟩,
    ⟨some 75, .binOp .eql 3 (.tmp 72) (.tmp 74) 3, none⟩,
    ⟨some 76, .move (.tmp 75), none⟩,
    ⟨some 77, .move (.tmp 10), some ((some 76), true)⟩,
    ⟨some 78, .move (.tmp 12), some ((some 76), true)⟩,
    ⟨some 79, .call ⟨.value (.func 57), #[(.tmp 77), (.tmp 78)], #[54, 54]⟩, some ((some 76), true)⟩,
    ⟨some 80, .pick (.tmp 76) (.tmp 79) (.const (.bool false)), none⟩,
    ⟨some 81, .move (.tmp 80), none⟩,
    ⟨some 82, .move (.tmp 11), some ((some 81), true)⟩,
    ⟨some 83, .move (.tmp 13), some ((some 81), true)⟩,
    ⟨some 84, .binOp .eql 3 (.tmp 82) (.tmp 83) 3, some ((some 81), true)⟩,
    ⟨some 85, .pick (.tmp 81) (.tmp 84) (.const (.bool false)), none⟩,
    ⟨some 86, .move (.tmp 85), none⟩,
    ⟨some 87, .move (.tmp 14), some ((some 86), true)⟩,
    ⟨some 88, .move (.tmp 16), some ((some 86), true)⟩,
    ⟨some 89, .binOp .eql 4 (.tmp 87) (.tmp 88) 4, some ((some 86), true)⟩,
    ⟨some 90, .pick (.tmp 86) (.tmp 89) (.const (.bool false)), none⟩,
    ⟨some 91, .move (.tmp 90), none⟩,
    ⟨some 92, .move (.tmp 15), some ((some 91), true)⟩,
    ⟨some 93, .move (.tmp 17), some ((some 91), true)⟩,
    ⟨some 94, .binOp .eql 3 (.tmp 92) (.tmp 93) 3, some ((some 91), true)⟩,
    ⟨some 95, .pick (.tmp 91) (.tmp 94) (.const (.bool false)), none⟩,
    ⟨some 96, .move (.tmp 95), none⟩,
    ⟨some 97, .move (.tmp 18), some ((some 96), true)⟩,
    ⟨some 98, .move (.tmp 20), some ((some 96), true)⟩,
    ⟨some 99, .binOp .eql 4 (.tmp 97) (.tmp 98) 4, some ((some 96), true)⟩,
    ⟨some 100, .pick (.tmp 96) (.tmp 99) (.const (.bool false)), none⟩,
    ⟨some 101, .move (.tmp 100), none⟩,
    ⟨some 102, .move (.tmp 19), some ((some 101), true)⟩,
    ⟨some 103, .move (.tmp 21), some ((some 101), true)⟩,
    ⟨some 104, .binOp .eql 3 (.tmp 102) (.tmp 103) 3, some ((some 101), true)⟩,
    ⟨some 105, .pick (.tmp 101) (.tmp 104) (.const (.bool false)), none⟩,
    ⟨some 22, .assign (.tmp 105), none⟩])
  (.seq (.seq (.reg [⟨some 106, .move (.tmp 10), none⟩,
    ⟨some 107, .call ⟨.builtin .len, #[(.tmp 106)], #[54]⟩, none⟩,
    ⟨some 108, .move (.const (.int .i64 0)), none⟩])
  (.block 0
    (.loop p6l0)))
  (.seq (.reg [⟨some 116, .move (.tmp 22), none⟩,
    ⟨some 117, .move (.tmp 116), none⟩,
    ⟨some 118, .move (.tmp 9), some ((some 117), true)⟩,
    ⟨some 119, .move (.tmp 0), some ((some 117), true)⟩,
    ⟨some 120, .call ⟨.value (.func 57), #[(.tmp 118), (.tmp 119)], #[54, 54]⟩, some ((some 117), true)⟩,
    ⟨some 121, .pick (.tmp 117) (.tmp 120) (.const (.bool false)), none⟩,
    ⟨some 8, .assign (.tmp 121), none⟩])
  .ret))))))))))))
theorem c6 : f6.body.bind (comp f6.ntmps) = some p6 := by kernel_rfl
def p7l0 : PC :=
  (.seq (.reg [⟨some 35, .binOp .lss 3 (.tmp 34) (.tmp 33) 3, none⟩])
  (.seq (.cond (.tmp 35)
    .skip
    (.exit 0))
  (.seq (.block 1
    (.seq (.reg [⟨some 36, .indexAddr 30 (.tmp 32) (.tmp 34), none⟩,
      ⟨some 37, .load 24 (.tmp 36), none⟩,
      ⟨some 15, .alloc 24, none⟩,
      ⟨none, .store 24 (.tmp 15) (.tmp 37), none⟩])
    (.seq (.reg [⟨some 38, .load 24 (.tmp 15), none⟩,
      ⟨some 39, .call ⟨.value (.func 46), #[(.tmp 38)], #[24]⟩, none⟩,
      ⟨some 40, .binOp .neq 25 (.tmp 39) (.const (.int .i64 0)) 25, none⟩,
      ⟨some 41, .move (.tmp 40), none⟩,
      ⟨some 42, .fieldAddr 24 (.tmp 15) 1, some ((some 41), false)⟩,
      ⟨some 43, .load 3 (.tmp 42), some ((some 41), false)⟩,
      ⟨some 44, .fieldAddr 24 (.tmp 15) 0, some ((some 41), false)⟩,
      ⟨some 45, .load 3 (.tmp 44), some ((some 41), false)⟩,
      ⟨some 46, .unOp .neg 3 (.tmp 45), some ((some 41), false)⟩,
      ⟨some 47, .call ⟨.builtin .max, #[(.tmp 43), (.tmp 46)], #[3, 3]⟩, some ((some 41), false)⟩,
      ⟨some 48, .binOp .gtr 3 (.tmp 47) (.const (.int .i64 1073741824)) 3, some ((some 41), false)⟩,
      ⟨some 49, .pick (.tmp 41) (.const (.bool true)) (.tmp 48), none⟩])
    (.cond (.tmp 49)
      (.seq (.reg [⟨some 50, .move (.tmp 13), none⟩,
        ⟨some 12, .assign (.tmp 50), none⟩])
      .ret)
      .skip))))
  (.reg [⟨some 51, .binOp .add 3 (.tmp 34) (.const (.int .i64 1)) 3, none⟩,
    ⟨some 34, .move (.tmp 51), none⟩]))))
def p7l1 : PC :=
  (.seq (.reg [⟨some 72, .binOp .lss 3 (.tmp 71) (.const (.int .i64 8)) 3, none⟩])
  (.seq (.cond (.tmp 72)
    .skip
    (.exit 2))
  (.seq (.block 3
    (.seq (.reg [⟨some 73, .move (.tmp 71), none⟩,
      ⟨some 21, .assign (.tmp 73), none⟩])
    (.seq (.draw [0, 1, 0, 4, 0, 16, 3, 79, 255] [⟨some 74, .fieldAddr 24 (.tmp 6) 0, none⟩,
      ⟨some 75, .load 3 (.tmp 74), none⟩,
      ⟨some 76, .fieldAddr 24 (.tmp 7) 0, none⟩,
      ⟨some 77, .load 3 (.tmp 76), none⟩,
      ⟨some 78, .fieldAddr 24 (.tmp 8) 0, none⟩,
      ⟨some 79, .load 3 (.tmp 78), none⟩,
      ⟨some 22, .assign (.tmp 75), none⟩,
      ⟨some 23, .assign (.tmp 77), none⟩]
      [⟨some 24, .assign (.tmp 79), none⟩])
    (.seq (.seq (.reg [⟨some 80, .move (.tmp 21), none⟩,
      ⟨some 81, .binOp .and 3 (.tmp 80) (.const (.int .i64 1)) 3, none⟩,
      ⟨some 82, .binOp .neq 3 (.tmp 81) (.const (.int .i64 0)) 3, none⟩])
    (.cond (.tmp 82)
      (.reg [⟨some 83, .fieldAddr 24 (.tmp 6) 1, none⟩,
        ⟨some 84, .load 3 (.tmp 83), none⟩,
        ⟨some 22, .assign (.tmp 84), none⟩])
      .skip))
    (.seq (.seq (.reg [⟨some 85, .move (.tmp 21), none⟩,
      ⟨some 86, .binOp .and 3 (.tmp 85) (.const (.int .i64 2)) 3, none⟩,
      ⟨some 87, .binOp .neq 3 (.tmp 86) (.const (.int .i64 0)) 3, none⟩])
    (.cond (.tmp 87)
      (.reg [⟨some 88, .fieldAddr 24 (.tmp 7) 1, none⟩,
        ⟨some 89, .load 3 (.tmp 88), none⟩,
        ⟨some 23, .assign (.tmp 89), none⟩])
      .skip))
    (.seq (.seq (.reg [⟨some 90, .move (.tmp 21), none⟩,
      ⟨some 91, .binOp .and 3 (.tmp 90) (.const (.int .i64 4)) 3, none⟩,
      ⟨some 92, .binOp .neq 3 (.tmp 91) (.const (.int .i64 0)) 3, none⟩])
    (.cond (.tmp 92)
      (.reg [⟨some 93, .fieldAddr 24 (.tmp 8) 1, none⟩,
        ⟨some 94, .load 3 (.tmp 93), none⟩,
        ⟨some 24, .assign (.tmp 94), none⟩])
      .skip))
    (.seq (.reg [⟨some 95, .move (.tmp 20), none⟩,
      ⟨some 96, .move (.tmp 95), none⟩,
      ⟨some 97, .move (.tmp 22), some ((some 96), false)⟩,
      ⟨some 98, .move (.tmp 23), some ((some 96), false)⟩,
      ⟨some 99, .binOp .mul 3 (.tmp 97) (.tmp 98) 3, some ((some 96), false)⟩,
      ⟨some 100, .move (.tmp 24), some ((some 96), false)⟩,
      ⟨some 101, .binOp .mul 3 (.tmp 100) (.const (.int .i64 1099511627776)) 3, some ((some 96), false)⟩,
      ⟨some 102, .binOp .gtr 3 (.tmp 99) (.tmp 101) 3, some ((some 96), false)⟩,
      ⟨some 103, .pick (.tmp 96) (.const (.bool true)) (.tmp 102), none⟩,
      ⟨some 104, .move (.tmp 103), none⟩,
      ⟨some 105, .move (.tmp 22), some ((some 104), false)⟩,
      ⟨some 106, .move (.tmp 23), some ((some 104), false)⟩,
      ⟨some 107, .binOp .mul 3 (.tmp 105) (.tmp 106) 3, some ((some 104), false)⟩,
      ⟨some 108, .move (.tmp 24), some ((some 104), false)⟩,
      ⟨some 109, .unOp .neg 3 (.tmp 108), some ((some 104), false)⟩,
      ⟨some 110, .binOp .mul 3 (.tmp 109) (.const (.int .i64 1099511627776)) 3, some ((some 104), false)⟩,
      ⟨some 111, .binOp .lss 3 (.tmp 107) (.tmp 110) 3, some ((some 104), false)⟩,
      ⟨some 112, .pick (.tmp 104) (.const (.bool true)) (.tmp 111), none⟩,
      ⟨some 20, .assign (.tmp 112), none⟩])
    (.draw [0, 1, 3, 3, 15, 3, 35, 99, 3, 483, 1023, 2047, 0, 4099, 12291, 12291, 61443, 12291, 143363, 405507, 12291, 1978371, 4190211, 8384515, 16383, 33554431] [⟨some 113, .move (.tmp 18), none⟩,
      ⟨some 114, .move (.tmp 113), none⟩,
      ⟨some 115, .move (.tmp 22), some ((some 114), false)⟩,
      ⟨some 116, .move (.tmp 23), some ((some 114), false)⟩,
      ⟨some 117, .binOp .mul 3 (.tmp 115) (.tmp 116) 3, some ((some 114), false)⟩,
      ⟨some 118, .fieldAddr 24 (.tmp 16) 0, some ((some 114), false)⟩,
      ⟨some 119, .load 3 (.tmp 118), some ((some 114), false)⟩,
      ⟨some 120, .binOp .add 3 (.tmp 119) (.const (.int .i64 1)) 3, some ((some 114), false)⟩,
      ⟨some 121, .move (.tmp 24), some ((some 114), false)⟩,
      ⟨some 122, .binOp .mul 3 (.tmp 120) (.tmp 121) 3, some ((some 114), false)⟩,
      ⟨some 123, .binOp .lss 3 (.tmp 117) (.tmp 122) 3, some ((some 114), false)⟩,
      ⟨some 124, .pick (.tmp 114) (.const (.bool true)) (.tmp 123), none⟩,
      ⟨some 125, .move (.tmp 19), none⟩,
      ⟨some 126, .move (.tmp 125), none⟩,
      ⟨some 127, .move (.tmp 22), some ((some 126), false)⟩,
      ⟨some 128, .move (.tmp 23), some ((some 126), false)⟩,
      ⟨some 129, .binOp .mul 3 (.tmp 127) (.tmp 128) 3, some ((some 126), false)⟩,
      ⟨some 130, .fieldAddr 24 (.tmp 16) 1, some ((some 126), false)⟩,
      ⟨some 131, .load 3 (.tmp 130), some ((some 126), false)⟩,
      ⟨some 132, .binOp .sub 3 (.tmp 131) (.const (.int .i64 1)) 3, some ((some 126), false)⟩,
      ⟨some 133, .move (.tmp 24), some ((some 126), false)⟩,
      ⟨some 134, .binOp .mul 3 (.tmp 132) (.tmp 133) 3, some ((some 126), false)⟩,
      ⟨some 135, .binOp .gtr 3 (.tmp 129) (.tmp 134) 3, some ((some 126), false)⟩,
      ⟨some 136, .pick (.tmp 126) (.const (.bool true)) (.tmp 135), none⟩,
      ⟨some 18, .assign (.tmp 124), none⟩]
      [⟨some 19, .assign (.tmp 136), none⟩]))))))))
  (.reg [⟨some 137, .binOp .add 3 (.tmp 71) (.const (.int .i64 1)) 3, none⟩,
    ⟨some 71, .move (.tmp 137), none⟩]))))
def p7 : PC :=
  (.seq (.reg [⟨some 6, .box 24 (.tmp 0), none⟩,
    ⟨some 7, .box 24 (.tmp 1), none⟩,
    ⟨some 8, .box 24 (.tmp 2), none⟩,
    ⟨some 12, .assign (.const (.bool false)), none⟩])
  (.seq (.reg [⟨some 28, .call ⟨.value (.func 58), #[], #[]⟩, none⟩,
    ⟨some 13, .assign (.tmp 28), none⟩])
  (.seq (.seq (.reg [⟨some 29, .load 24 (.tmp 6), none⟩,
    ⟨some 30, .load 24 (.tmp 7), none⟩,
    ⟨some 31, .load 24 (.tmp 8), none⟩,
    ⟨some 32, .buildSlice 30 3 #[(0, (.tmp 29)), (1, (.tmp 30)), (2, (.tmp 31))], none⟩,
    ⟨some 33, .call ⟨.builtin .len, #[(.tmp 32)], #[30]⟩, none⟩,
    ⟨some 34, .move (.const (.int .i64 0)), none⟩])
  (.block 0
    (.loop p7l0)))
  (.seq (.reg [⟨some 53, .load 24 (.tmp 6), none⟩,
    ⟨some 54, .load 24 (.tmp 7), none⟩,
    ⟨some 55, .load 24 (.tmp 8), none⟩,
    ⟨some 56, .call ⟨.value (.func 30), #[(.tmp 53), (.tmp 54), (.tmp 55)], #[24, 24, 24]⟩, none⟩,
    ⟨some 52, .move (.tmp 56), none⟩,
    ⟨some 57, .extract (.tmp 52) 0, none⟩,
    ⟨some 58, .extract (.tmp 52) 1, none⟩,
    ⟨some 16, .alloc 24, none⟩,
    ⟨none, .store 24 (.tmp 16) (.tmp 57), none⟩,
    ⟨some 17, .assign (.tmp 58), none⟩])
  (.seq (.seq (.reg [⟨some 59, .fieldAddr 24 (.tmp 8) 0, none⟩,
    ⟨some 60, .load 3 (.tmp 59), none⟩,
    ⟨some 61, .binOp .lss 3 (.tmp 60) (.const (.int .i64 1)) 3, none⟩,
    ⟨some 62, .move (.tmp 61), none⟩,
    ⟨some 63, .move (.tmp 13), some ((some 62), false)⟩,
    ⟨some 64, .unOp .not 4 (.tmp 63), some ((some 62), false)⟩,
    ⟨some 65, .pick (.tmp 62) (.const (.bool true)) (.tmp 64), none⟩])
  (.cond (.tmp 65)
    (.seq (.reg [⟨some 66, .move (.tmp 13), none⟩,
      ⟨some 67, .move (.tmp 66), none⟩,
      ⟨some 68, .move (.tmp 17), some ((some 67), true)⟩,
      ⟨some 69, .binOp .eql 25 (.tmp 68) (.const (.int .i64 12)) 25, some ((some 67), true)⟩,
      ⟨some 70, .pick (.tmp 67) (.tmp 69) (.const (.bool false)), none⟩,
      ⟨some 12, .assign (.tmp 70), none⟩])
    .ret)
    .skip))
  (.seq (.reg [⟨some 18, .assign (.const (.bool false)), none⟩,
    ⟨some 19, .assign (.const (.bool false)), none⟩])
  (.seq (.reg [⟨some 20, .assign (.const (.bool false)), none⟩])
  (.seq (.seq (.reg [⟨some 71, .move (.const (.int .i64 0)), none⟩])
  (.block 2
    (.loop p7l1)))
  (.seq (.seq (.reg [⟨some 138, .fieldAddr 24 (.tmp 8) 1, none⟩,
    ⟨some 139, .load 3 (.tmp 138), none⟩,
    ⟨some 140, .call ⟨.builtin .max, #[(.tmp 139), (.const (.int .i64 1))], #[3, 3]⟩, none⟩,
    ⟨some 141, .binOp .gtr 3 (.tmp 140) (.const (.int .i64 1048576)) 3, none⟩])
  (.cond (.tmp 141)
    (.seq (.reg [⟨some 142, .move (.tmp 13), none⟩,
      ⟨some 143, .move (.tmp 142), none⟩,
      ⟨some 144, .move (.tmp 17), some ((some 143), true)⟩,
      ⟨some 145, .binOp .eql 25 (.tmp 144) (.const (.int .i64 0)) 25, some ((some 143), true)⟩,
      ⟨some 146, .move (.tmp 145), some ((some 143), true)⟩,
      ⟨some 147, .move (.tmp 17), some ((some 146), false)⟩,
      ⟨some 148, .binOp .eql 25 (.tmp 147) (.const (.int .i64 11)) 25, some ((some 146), false)⟩,
      ⟨some 149, .pick (.tmp 146) (.const (.bool true)) (.tmp 148), some ((some 143), true)⟩,
      ⟨some 150, .pick (.tmp 143) (.tmp 149) (.const (.bool false)), none⟩,
      ⟨some 12, .assign (.tmp 150), none⟩])
    .ret)
    .skip))
  (.seq (.seq (.reg [⟨some 151, .move (.tmp 17), none⟩,
    ⟨some 152, .binOp .neq 25 (.tmp 151) (.const (.int .i64 0)) 25, none⟩])
  (.cond (.tmp 152)
    (.seq (.reg [⟨some 153, .move (.tmp 13), none⟩,
      ⟨some 154, .move (.tmp 153), none⟩,
      ⟨some 155, .move (.tmp 17), some ((some 154), true)⟩,
      ⟨some 156, .binOp .eql 25 (.tmp 155) (.const (.int .i64 11)) 25, some ((some 154), true)⟩,
      ⟨some 157, .pick (.tmp 154) (.tmp 156) (.const (.bool false)), none⟩,
      ⟨some 158, .move (.tmp 157), none⟩,
      ⟨some 159, .move (.tmp 20), some ((some 158), true)⟩,
      ⟨some 160, .pick (.tmp 158) (.tmp 159) (.const (.bool false)), none⟩,
      ⟨some 12, .assign (.tmp 160), none⟩])
    .ret)
    .skip))
  (.seq (.draw [0, 0, 3, 0, 0, 31, 0, 0, 255, 511, 1023, 2047] [⟨some 161, .load 24 (.tmp 6), none⟩,
    ⟨some 162, .move (.tmp 3), none⟩,
    ⟨some 163, .call ⟨.value (.func 59), #[(.tmp 161), (.tmp 162)], #[24, 3]⟩, none⟩,
    ⟨some 164, .load 24 (.tmp 7), none⟩,
    ⟨some 165, .move (.tmp 4), none⟩,
    ⟨some 166, .call ⟨.value (.func 59), #[(.tmp 164), (.tmp 165)], #[24, 3]⟩, none⟩,
    ⟨some 167, .load 24 (.tmp 8), none⟩,
    ⟨some 168, .move (.tmp 5), none⟩]
    [⟨some 169, .call ⟨.value (.func 59), #[(.tmp 167), (.tmp 168)], #[24, 3]⟩, none⟩,
    ⟨some 25, .assign (.tmp 163), none⟩,
    ⟨some 26, .assign (.tmp 166), none⟩,
    ⟨some 27, .assign (.tmp 169), none⟩])
  (.seq (.reg [⟨some 170, .move (.tmp 13), none⟩,
    ⟨some 171, .move (.tmp 170), none⟩,
    ⟨some 172, .move (.tmp 20), some ((some 171), true)⟩,
    ⟨some 173, .unOp .not 4 (.tmp 172), some ((some 171), true)⟩,
    ⟨some 174, .pick (.tmp 171) (.tmp 173) (.const (.bool false)), none⟩,
    ⟨some 175, .move (.tmp 174), none⟩,
    ⟨some 176, .move (.tmp 18), some ((some 175), true)⟩,
    ⟨some 177, .pick (.tmp 175) (.tmp 176) (.const (.bool false)), none⟩,
    ⟨some 178, .move (.tmp 177), none⟩,
    ⟨some 179, .move (.tmp 19), some ((some 178), true)⟩,
    ⟨some 180, .pick (.tmp 178) (.tmp 179) (.const (.bool false)), none⟩,
    ⟨some 181, .move (.tmp 180), none⟩,
    ⟨some 182, .move (.tmp 25), some ((some 181), true)⟩,
    ⟨some 183, .move (.tmp 26), some ((some 181), true)⟩,
    ⟨some 184, .binOp .mul 3 (.tmp 182) (.tmp 183) 3, some ((some 181), true)⟩,
    ⟨some 185, .fieldAddr 24 (.tmp 16) 0, some ((some 181), true)⟩,
    ⟨some 186, .load 3 (.tmp 185), some ((some 181), true)⟩,
    ⟨some 187, .move (.tmp 27), some ((some 181), true)⟩,
    ⟨some 188, .binOp .mul 3 (.tmp 186) (.tmp 187) 3, some ((some 181), true)⟩,
    ⟨some 189, .binOp .geq 3 (.tmp 184) (.tmp 188) 3, some ((some 181), true)⟩,
    ⟨some 190, .pick (.tmp 181) (.tmp 189) (.const (.bool false)), none⟩,
    ⟨some 191, .move (.tmp 190), none⟩,
    ⟨some 192, .move (.tmp 25), some ((some 191), true)⟩,
    ⟨some 193, .move (.tmp 26), some ((some 191), true)⟩,
    ⟨some 194, .binOp .mul 3 (.tmp 192) (.tmp 193) 3, some ((some 191), true)⟩,
    ⟨some 195, .fieldAddr 24 (.tmp 16) 1, some ((some 191), true)⟩,
    ⟨some 196, .load 3 (.tmp 195), some ((some 191), true)⟩,
    ⟨some 197, .move (.tmp 27), some ((some 191), true)⟩,
    ⟨some 198, .binOp .mul 3 (.tmp 196) (.tmp 197) 3, some ((some 191), true)⟩,
    ⟨some 199, .binOp .leq 3 (.tmp 194) (.tmp 198) 3, some ((some 191), true)⟩,
    ⟨some 200, .pick (.tmp 191) (.tmp 199) (.const (.bool false)), none⟩,
    ⟨some 12, .assign (.tmp 200), none⟩])
  .ret))))))))))))
theorem c7 : f7.body.bind (comp f7.ntmps) = some p7 := by kernel_rfl
def p10l0 : PC :=
  (.seq (.reg [⟨some 102, .binOp .lss 3 (.tmp 101) (.tmp 100) 3, none⟩])
  (.seq (.cond (.tmp 102)
    .skip
    (.exit 4))
  (.seq (.block 5
    (.seq (.reg [⟨some 103, .move (.tmp 101), none⟩,
      ⟨some 104, .indexAddr 30 (.tmp 99) (.tmp 101), none⟩,
      ⟨some 105, .load 24 (.tmp 104), none⟩,
      ⟨some 22, .alloc 24, none⟩,
      ⟨some 21, .assign (.tmp 103), none⟩,
      ⟨none, .store 24 (.tmp 22) (.tmp 105), none⟩])
    (.seq (.seq (.draw [0, 1, 0, 4, 15, 31, 63, 127, 63, 319, 831, 1855, 4095, 8191, 16383, 32767, 65535, 32767, 32767, 294911, 819199, 1998847, 4095999, 8290303, 16777215, 33554431, 67108863, 134217727, 268435455, 536870911, 1073741823, 2147483647, 1073741823, 1073741823, 9663676415, 31138512895, 65498251263, 134217727999, 271656681471, 549755813887, 1099511627775, 2199023255551] [⟨some 106, .fieldAddr 24 (.tmp 22) 0, none⟩,
      ⟨some 107, .load 3 (.tmp 106), none⟩,
      ⟨some 108, .fieldAddr 24 (.tmp 22) 1, none⟩,
      ⟨some 109, .load 3 (.tmp 108), none⟩,
      ⟨some 110, .binOp .gtr 3 (.tmp 107) (.tmp 109) 3, none⟩,
      ⟨some 111, .move (.tmp 110), none⟩,
      ⟨some 112, .fieldAddr 24 (.tmp 22) 0, some ((some 111), false)⟩,
      ⟨some 113, .load 3 (.tmp 112), some ((some 111), false)⟩,
      ⟨some 114, .move (.tmp 0), some ((some 111), false)⟩,
      ⟨some 115, .indexAddr 22 (.tmp 114) (.const (.int .i64 0)), some ((some 111), false)⟩,
      ⟨some 116, .fieldAddr 87 (.tmp 115) 0, some ((some 111), false)⟩,
      ⟨some 117, .load 3 (.tmp 116), some ((some 111), false)⟩,
      ⟨some 118, .binOp .lss 3 (.tmp 113) (.tmp 117) 3, some ((some 111), false)⟩,
      ⟨some 119, .pick (.tmp 111) (.const (.bool true)) (.tmp 118), none⟩,
      ⟨some 120, .move (.tmp 119), none⟩,
      ⟨some 121, .fieldAddr 24 (.tmp 22) 1, some ((some 120), false)⟩,
      ⟨some 122, .load 3 (.tmp 121), some ((some 120), false)⟩,
      ⟨some 123, .move (.tmp 0), some ((some 120), false)⟩,
      ⟨some 124, .move (.tmp 0), some ((some 120), false)⟩,
      ⟨some 125, .call ⟨.builtin .len, #[(.tmp 124)], #[22]⟩, some ((some 120), false)⟩,
      ⟨some 126, .binOp .sub 3 (.tmp 125) (.const (.int .i64 1)) 3, some ((some 120), false)⟩,
      ⟨some 127, .indexAddr 22 (.tmp 123) (.tmp 126), some ((some 120), false)⟩,
      ⟨some 128, .fieldAddr 87 (.tmp 127) 0, some ((some 120), false)⟩,
      ⟨some 129, .load 3 (.tmp 128), some ((some 120), false)⟩,
      ⟨some 130, .binOp .gtr 3 (.tmp 122) (.tmp 129) 3, some ((some 120), false)⟩,
      ⟨some 131, .pick (.tmp 120) (.const (.bool true)) (.tmp 130), none⟩,
      ⟨some 132, .move (.tmp 131), none⟩,
      ⟨some 133, .move (.tmp 21), some ((some 132), false)⟩,
      ⟨some 134, .binOp .gtr 3 (.tmp 133) (.const (.int .i64 0)) 3, some ((some 132), false)⟩,
      ⟨some 135, .move (.tmp 134), some ((some 132), false)⟩,
      ⟨some 136, .fieldAddr 24 (.tmp 22) 0, some ((some 135), true)⟩,
      ⟨some 137, .load 3 (.tmp 136), some ((some 135), true)⟩,
      ⟨some 138, .move (.tmp 20), some ((some 135), true)⟩,
      ⟨some 139, .move (.tmp 21), some ((some 135), true)⟩,
      ⟨some 140, .binOp .sub 3 (.tmp 139) (.const (.int .i64 1)) 3, some ((some 135), true)⟩,
      ⟨some 141, .indexAddr 30 (.tmp 138) (.tmp 140), some ((some 135), true)⟩,
      ⟨some 142, .fieldAddr 24 (.tmp 141) 1, some ((some 135), true)⟩,
      ⟨some 143, .load 3 (.tmp 142), some ((some 135), true)⟩,
      ⟨some 144, .binOp .add 3 (.tmp 143) (.const (.int .i64 1)) 3, some ((some 135), true)⟩]
      [⟨some 145, .binOp .leq 3 (.tmp 137) (.tmp 144) 3, some ((some 135), true)⟩,
      ⟨some 146, .pick (.tmp 135) (.tmp 145) (.const (.bool false)), some ((some 132), false)⟩,
      ⟨some 147, .pick (.tmp 132) (.const (.bool true)) (.tmp 146), none⟩])
    (.cond (.tmp 147)
      (.seq (.reg [⟨some 8, .assign (.const (.bool false)), none⟩])
      .ret)
      .skip))
    (.reg [⟨some 148, .move (.tmp 13), none⟩,
      ⟨some 149, .binOp .mul 3 (.const (.int .i64 2)) (.tmp 148) 3, none⟩,
      ⟨some 150, .move (.tmp 19), none⟩,
      ⟨some 151, .binOp .add 3 (.tmp 149) (.tmp 150) 3, none⟩,
      ⟨some 152, .move (.tmp 13), none⟩,
      ⟨some 153, .binOp .mul 3 (.const (.int .i64 2)) (.tmp 152) 3, none⟩,
      ⟨some 154, .move (.tmp 19), none⟩,
      ⟨some 155, .binOp .add 3 (.tmp 153) (.tmp 154) 3, none⟩,
      ⟨some 156, .indexAddr 91 (.tmp 12) (.tmp 155), none⟩,
      ⟨some 157, .load 4 (.tmp 156), none⟩,
      ⟨some 158, .move (.tmp 157), none⟩,
      ⟨some 159, .load 24 (.tmp 22), some ((some 158), false)⟩,
      ⟨some 160, .move (.tmp 11), some ((some 158), false)⟩,
      ⟨some 161, .call ⟨.value (.func 71), #[(.tmp 159), (.tmp 160)], #[24, 3]⟩, some ((some 158), false)⟩,
      ⟨some 162, .pick (.tmp 158) (.const (.bool true)) (.tmp 161), none⟩,
      ⟨some 163, .indexAddr 91 (.tmp 12) (.tmp 151), none⟩,
      ⟨none, .store 4 (.tmp 163) (.tmp 162), none⟩]))))
  (.reg [⟨some 164, .binOp .add 3 (.tmp 101) (.const (.int .i64 1)) 3, none⟩,
    ⟨some 101, .move (.tmp 164), none⟩]))))
def p10l1 : PC :=
  (.seq (.reg [⟨some 95, .binOp .lss 3 (.tmp 94) (.tmp 93) 3, none⟩])
  (.seq (.cond (.tmp 95)
    .skip
    (.exit 2))
  (.seq (.block 3
    (.seq (.reg [⟨some 96, .move (.tmp 94), none⟩,
      ⟨some 97, .indexAddr 92 (.tmp 92) (.tmp 94), none⟩,
      ⟨some 98, .load 30 (.tmp 97), none⟩,
      ⟨some 19, .assign (.tmp 96), none⟩,
      ⟨some 20, .assign (.tmp 98), none⟩])
    (.seq (.reg [⟨some 99, .move (.tmp 20), none⟩,
      ⟨some 100, .call ⟨.builtin .len, #[(.tmp 99)], #[30]⟩, none⟩,
      ⟨some 101, .move (.const (.int .i64 0)), none⟩])
    (.block 4
      (.loop p10l0)))))
  (.reg [⟨some 165, .binOp .add 3 (.tmp 94) (.const (.int .i64 1)) 3, none⟩,
    ⟨some 94, .move (.tmp 165), none⟩]))))
def p10l2 : PC :=
  (.seq (.reg [⟨some 68, .binOp .lss 3 (.tmp 67) (.tmp 66) 3, none⟩])
  (.seq (.cond (.tmp 68)
    .skip
    (.exit 0))
  (.seq (.block 1
    (.seq (.reg [⟨some 69, .move (.tmp 67), none⟩,
      ⟨some 70, .indexAddr 30 (.tmp 65) (.tmp 67), none⟩,
      ⟨some 71, .load 24 (.tmp 70), none⟩,
      ⟨some 14, .alloc 24, none⟩,
      ⟨some 13, .assign (.tmp 69), none⟩,
      ⟨none, .store 24 (.tmp 14) (.tmp 71), none⟩])
    (.seq (.reg [⟨some 73, .move (.tmp 0), none⟩,
      ⟨some 74, .load 24 (.tmp 14), none⟩,
      ⟨some 75, .call ⟨.value (.func 22), #[(.tmp 73), (.tmp 74)], #[22, 24]⟩, none⟩,
      ⟨some 72, .move (.tmp 75), none⟩,
      ⟨some 76, .extract (.tmp 72) 0, none⟩,
      ⟨some 77, .extract (.tmp 72) 1, none⟩,
      ⟨some 15, .assign (.tmp 76), none⟩,
      ⟨some 16, .assign (.tmp 77), none⟩])
    (.seq (.reg [⟨some 79, .move (.tmp 0), none⟩,
      ⟨some 80, .load 24 (.tmp 14), none⟩,
      ⟨some 81, .call ⟨.value (.func 24), #[(.tmp 79), (.tmp 80)], #[22, 24]⟩, none⟩,
      ⟨some 78, .move (.tmp 81), none⟩,
      ⟨some 82, .extract (.tmp 78) 0, none⟩,
      ⟨some 83, .extract (.tmp 78) 1, none⟩,
      ⟨some 17, .assign (.tmp 82), none⟩,
      ⟨some 18, .assign (.tmp 83), none⟩])
    (.seq (.seq (.reg [⟨some 84, .move (.tmp 16), none⟩,
      ⟨some 85, .binOp .neq 25 (.tmp 84) (.const (.int .i64 0)) 25, none⟩,
      ⟨some 86, .move (.tmp 85), none⟩,
      ⟨some 87, .move (.tmp 18), some ((some 86), false)⟩,
      ⟨some 88, .binOp .neq 25 (.tmp 87) (.const (.int .i64 0)) 25, some ((some 86), false)⟩,
      ⟨some 89, .pick (.tmp 86) (.const (.bool true)) (.tmp 88), none⟩])
    (.cond (.tmp 89)
      (.seq (.reg [⟨some 8, .assign (.const (.bool false)), none⟩])
      .ret)
      .skip))
    (.seq (.reg [⟨some 90, .move (.tmp 15), none⟩,
      ⟨some 91, .move (.tmp 17), none⟩,
      ⟨some 92, .buildSlice 92 2 #[(0, (.tmp 90)), (1, (.tmp 91))], none⟩,
      ⟨some 93, .call ⟨.builtin .len, #[(.tmp 92)], #[92]⟩, none⟩,
      ⟨some 94, .move (.const (.int .i64 0)), none⟩])
    (.block 2
      (.loop p10l1))))))))
  (.reg [⟨some 166, .binOp .add 3 (.tmp 67) (.const (.int .i64 1)) 3, none⟩,
    ⟨some 67, .move (.tmp 166), none⟩]))))
def p10 : PC :=
  (.seq (.reg [⟨some 5, .box 24 (.tmp 1), none⟩,
    ⟨some 8, .assign (.const (.bool false)), none⟩])
  (.seq (.reg [⟨some 23, .call ⟨.value (.func 58), #[], #[]⟩, none⟩,
    ⟨some 9, .assign (.tmp 23), none⟩])
  (.seq (.seq (.reg [⟨some 24, .move (.tmp 0), none⟩,
    ⟨some 25, .call ⟨.builtin .len, #[(.tmp 24)], #[22]⟩, none⟩,
    ⟨some 26, .binOp .gtr 3 (.tmp 25) (.const (.int .i64 40)) 3, none⟩,
    ⟨some 27, .move (.tmp 26), none⟩,
    ⟨some 28, .move (.tmp 0), some ((some 27), false)⟩,
    ⟨some 29, .call ⟨.value (.func 27), #[(.tmp 28)], #[22]⟩, some ((some 27), false)⟩,
    ⟨some 30, .binOp .neq 3 (.tmp 29) (.const (.int .i64 0)) 3, some ((some 27), false)⟩,
    ⟨some 31, .pick (.tmp 27) (.const (.bool true)) (.tmp 30), none⟩,
    ⟨some 32, .move (.tmp 31), none⟩,
    ⟨some 33, .load 24 (.tmp 5), some ((some 32), false)⟩,
    ⟨some 34, .call ⟨.value (.func 46), #[(.tmp 33)], #[24]⟩, some ((some 32), false)⟩,
    ⟨some 35, .binOp .neq 25 (.tmp 34) (.const (.int .i64 0)) 25, some ((some 32), false)⟩,
    ⟨some 36, .pick (.tmp 32) (.const (.bool true)) (.tmp 35), none⟩,
    ⟨some 37, .move (.tmp 36), none⟩,
    ⟨some 38, .move (.tmp 9), some ((some 37), false)⟩,
    ⟨some 39, .unOp .not 4 (.tmp 38), some ((some 37), false)⟩,
    ⟨some 40, .pick (.tmp 37) (.const (.bool true)) (.tmp 39), none⟩])
  (.cond (.tmp 40)
    (.seq (.reg [⟨some 41, .move (.tmp 9), none⟩,
      ⟨some 8, .assign (.tmp 41), none⟩])
    .ret)
    .skip))
  (.seq (.draw [0, 0, 3, 0, 8, 31, 0, 127] [⟨some 42, .load 24 (.tmp 5), none⟩,
    ⟨some 43, .move (.tmp 2), none⟩,
    ⟨some 44, .call ⟨.value (.func 59), #[(.tmp 42), (.tmp 43)], #[24, 3]⟩, none⟩,
    ⟨some 45, .fieldAddr 24 (.tmp 5) 1, none⟩,
    ⟨some 46, .load 3 (.tmp 45), none⟩,
    ⟨some 47, .call ⟨.value (.func 69), #[(.tmp 44), (.tmp 46)], #[3, 3]⟩, none⟩,
    ⟨some 10, .alloc 24, none⟩]
    [⟨none, .store 24 (.tmp 10) (.tmp 47), none⟩])
  (.seq (.draw [0, 1, 3, 7, 0, 0, 32, 96, 240, 496, 1008, 2047, 0, 8191, 16383] [⟨some 48, .move (.tmp 0), none⟩,
    ⟨some 49, .indexAddr 22 (.tmp 48) (.const (.int .i64 0)), none⟩,
    ⟨some 50, .fieldAddr 87 (.tmp 49) 0, none⟩,
    ⟨some 51, .load 3 (.tmp 50), none⟩,
    ⟨some 52, .move (.tmp 0), none⟩,
    ⟨some 53, .move (.tmp 0), none⟩,
    ⟨some 54, .call ⟨.builtin .len, #[(.tmp 53)], #[22]⟩, none⟩,
    ⟨some 55, .binOp .sub 3 (.tmp 54) (.const (.int .i64 1)) 3, none⟩,
    ⟨some 56, .indexAddr 22 (.tmp 52) (.tmp 55), none⟩,
    ⟨some 57, .fieldAddr 87 (.tmp 56) 0, none⟩,
    ⟨some 58, .load 3 (.tmp 57), none⟩,
    ⟨some 59, .call ⟨.value (.func 69), #[(.tmp 51), (.tmp 58)], #[3, 3]⟩, none⟩,
    ⟨some 60, .move (.tmp 3), none⟩]
    [⟨some 61, .call ⟨.value (.func 59), #[(.tmp 59), (.tmp 60)], #[24, 3]⟩, none⟩,
    ⟨some 11, .assign (.tmp 61), none⟩])
  (.seq (.reg [⟨some 62, .build 91 #[], none⟩,
    ⟨some 12, .alloc 91, none⟩,
    ⟨none, .store 91 (.tmp 12) (.tmp 62), none⟩])
  (.seq (.seq (.reg [⟨some 63, .load 24 (.tmp 5), none⟩,
    ⟨some 64, .load 24 (.tmp 10), none⟩,
    ⟨some 65, .buildSlice 30 2 #[(0, (.tmp 63)), (1, (.tmp 64))], none⟩,
    ⟨some 66, .call ⟨.builtin .len, #[(.tmp 65)], #[30]⟩, none⟩,
    ⟨some 67, .move (.const (.int .i64 0)), none⟩])
  (.block 0
    (.loop p10l2)))
  (.seq (.reg [⟨some 167, .move (.tmp 9), none⟩,
    ⟨some 168, .move (.tmp 167), none⟩,
    ⟨some 169, .indexAddr 91 (.tmp 12) (.const (.int .i64 1)), some ((some 168), true)⟩,
    ⟨some 170, .load 4 (.tmp 169), some ((some 168), true)⟩,
    ⟨some 171, .unOp .not 4 (.tmp 170), some ((some 168), true)⟩,
    ⟨some 172, .move (.tmp 171), some ((some 168), true)⟩,
    ⟨some 173, .indexAddr 91 (.tmp 12) (.const (.int .i64 0)), some ((some 172), false)⟩,
    ⟨some 174, .load 4 (.tmp 173), some ((some 172), false)⟩,
    ⟨some 175, .pick (.tmp 172) (.const (.bool true)) (.tmp 174), some ((some 168), true)⟩,
    ⟨some 176, .pick (.tmp 168) (.tmp 175) (.const (.bool false)), none⟩,
    ⟨some 177, .move (.tmp 176), none⟩,
    ⟨some 178, .indexAddr 91 (.tmp 12) (.const (.int .i64 3)), some ((some 177), true)⟩,
    ⟨some 179, .load 4 (.tmp 178), some ((some 177), true)⟩,
    ⟨some 180, .unOp .not 4 (.tmp 179), some ((some 177), true)⟩,
    ⟨some 181, .move (.tmp 180), some ((some 177), true)⟩,
    ⟨some 182, .indexAddr 91 (.tmp 12) (.const (.int .i64 2)), some ((some 181), false)⟩,
    ⟨some 183, .load 4 (.tmp 182), some ((some 181), false)⟩,
    ⟨some 184, .pick (.tmp 181) (.const (.bool true)) (.tmp 183), some ((some 177), true)⟩,
    ⟨some 185, .pick (.tmp 177) (.tmp 184) (.const (.bool false)), none⟩,
    ⟨some 186, .move (.tmp 185), none⟩,
    ⟨some 187, .indexAddr 91 (.tmp 12) (.const (.int .i64 2)), some ((some 186), true)⟩,
    ⟨some 188, .load 4 (.tmp 187), some ((some 186), true)⟩,
    ⟨some 189, .unOp .not 4 (.tmp 188), some ((some 186), true)⟩,
    ⟨some 190, .move (.tmp 189), some ((some 186), true)⟩,
    ⟨some 191, .indexAddr 91 (.tmp 12) (.const (.int .i64 0)), some ((some 190), false)⟩,
    ⟨some 192, .load 4 (.tmp 191), some ((some 190), false)⟩,
    ⟨some 193, .pick (.tmp 190) (.const (.bool true)) (.tmp 192), some ((some 186), true)⟩,
    ⟨some 194, .pick (.tmp 186) (.tmp 193) (.const (.bool false)), none⟩,
    ⟨some 195, .move (.tmp 194), none⟩,
    ⟨some 196, .indexAddr 91 (.tmp 12) (.const (.int .i64 3)), some ((some 195), true)⟩,
    ⟨some 197, .load 4 (.tmp 196), some ((some 195), true)⟩,
    ⟨some 198, .unOp .not 4 (.tmp 197), some ((some 195), true)⟩,
    ⟨some 199, .move (.tmp 198), some ((some 195), true)⟩,
    ⟨some 200, .indexAddr 91 (.tmp 12) (.const (.int .i64 1)), some ((some 199), false)⟩,
    ⟨some 201, .load 4 (.tmp 200), some ((some 199), false)⟩,
    ⟨some 202, .pick (.tmp 199) (.const (.bool true)) (.tmp 201), some ((some 195), true)⟩,
    ⟨some 203, .pick (.tmp 195) (.tmp 202) (.const (.bool false)), none⟩,
    ⟨some 8, .assign (.tmp 203), none⟩])
  .ret))))))))
theorem c10 : f10.body.bind (comp f10.ntmps) = some p10 := by kernel_rfl
def p11 : PC :=
  (.seq (.reg [⟨some 6, .box 24 (.tmp 0), none⟩,
    ⟨some 7, .box 24 (.tmp 1), none⟩,
    ⟨some 8, .box 24 (.tmp 2), none⟩,
    ⟨some 12, .assign (.const (.bool false)), none⟩])
  (.seq (.reg [⟨some 23, .call ⟨.value (.func 58), #[], #[]⟩, none⟩,
    ⟨some 13, .assign (.tmp 23), none⟩])
  (.seq (.reg [⟨some 25, .load 24 (.tmp 6), none⟩,
    ⟨some 26, .load 24 (.tmp 7), none⟩,
    ⟨some 27, .load 24 (.tmp 8), none⟩,
    ⟨some 28, .call ⟨.value (.func 30), #[(.tmp 25), (.tmp 26), (.tmp 27)], #[24, 24, 24]⟩, none⟩,
    ⟨some 24, .move (.tmp 28), none⟩,
    ⟨some 29, .extract (.tmp 24) 0, none⟩,
    ⟨some 30, .extract (.tmp 24) 1, none⟩,
    ⟨some 14, .alloc 24, none⟩,
    ⟨none, .store 24 (.tmp 14) (.tmp 29), none⟩,
    ⟨some 15, .assign (.tmp 30), none⟩])
  (.seq (.seq (.reg [⟨some 31, .move (.tmp 15), none⟩,
    ⟨some 32, .binOp .neq 25 (.tmp 31) (.const (.int .i64 0)) 25, none⟩,
    ⟨some 33, .move (.tmp 32), none⟩,
    ⟨some 34, .move (.tmp 13), some ((some 33), false)⟩,
    ⟨some 35, .unOp .not 4 (.tmp 34), some ((some 33), false)⟩,
    ⟨some 36, .pick (.tmp 33) (.const (.bool true)) (.tmp 35), none⟩])
  (.cond (.tmp 36)
    (.seq (.reg [⟨some 37, .move (.tmp 13), none⟩,
      ⟨some 38, .move (.tmp 37), none⟩,
      ⟨some 39, .load 24 (.tmp 14), some ((some 38), true)⟩,
      ⟨some 40, .build 24 #[], some ((some 38), true)⟩,
      ⟨some 41, .binOp .eql 24 (.tmp 39) (.tmp 40) 24, some ((some 38), true)⟩,
      ⟨some 42, .pick (.tmp 38) (.tmp 41) (.const (.bool false)), none⟩,
      ⟨some 12, .assign (.tmp 42), none⟩])
    .ret)
    .skip))
  (.seq (.draw [0, 0, 3, 0, 8, 31, 0, 64, 0, 0, 831, 2047, 0, 0, 16383, 0, 32768, 131071, 0, 0, 0, 2097151, 4194303, 8388607] [⟨some 43, .load 24 (.tmp 6), none⟩,
    ⟨some 44, .move (.tmp 3), none⟩,
    ⟨some 45, .call ⟨.value (.func 59), #[(.tmp 43), (.tmp 44)], #[24, 3]⟩, none⟩,
    ⟨some 46, .fieldAddr 24 (.tmp 6) 1, none⟩,
    ⟨some 47, .load 3 (.tmp 46), none⟩,
    ⟨some 48, .call ⟨.value (.func 69), #[(.tmp 45), (.tmp 47)], #[3, 3]⟩, none⟩,
    ⟨some 49, .fieldAddr 24 (.tmp 7) 0, none⟩,
    ⟨some 50, .load 3 (.tmp 49), none⟩,
    ⟨some 51, .load 24 (.tmp 7), none⟩,
    ⟨some 52, .move (.tmp 4), none⟩,
    ⟨some 53, .call ⟨.value (.func 59), #[(.tmp 51), (.tmp 52)], #[24, 3]⟩, none⟩,
    ⟨some 54, .call ⟨.value (.func 69), #[(.tmp 50), (.tmp 53)], #[3, 3]⟩, none⟩,
    ⟨some 55, .load 24 (.tmp 8), none⟩,
    ⟨some 56, .move (.tmp 5), none⟩,
    ⟨some 57, .call ⟨.value (.func 59), #[(.tmp 55), (.tmp 56)], #[24, 3]⟩, none⟩,
    ⟨some 58, .fieldAddr 24 (.tmp 8) 1, none⟩,
    ⟨some 59, .load 3 (.tmp 58), none⟩,
    ⟨some 60, .call ⟨.value (.func 69), #[(.tmp 57), (.tmp 59)], #[3, 3]⟩, none⟩,
    ⟨some 16, .alloc 24, none⟩,
    ⟨some 17, .alloc 24, none⟩,
    ⟨some 18, .alloc 24, none⟩]
    [⟨none, .store 24 (.tmp 16) (.tmp 48), none⟩,
    ⟨none, .store 24 (.tmp 17) (.tmp 54), none⟩,
    ⟨none, .store 24 (.tmp 18) (.tmp 60), none⟩])
  (.seq (.reg [⟨some 62, .load 24 (.tmp 16), none⟩,
    ⟨some 63, .load 24 (.tmp 17), none⟩,
    ⟨some 64, .load 24 (.tmp 18), none⟩,
    ⟨some 65, .call ⟨.value (.func 30), #[(.tmp 62), (.tmp 63), (.tmp 64)], #[24, 24, 24]⟩, none⟩,
    ⟨some 61, .move (.tmp 65), none⟩,
    ⟨some 66, .extract (.tmp 61) 0, none⟩,
    ⟨some 67, .extract (.tmp 61) 1, none⟩,
    ⟨some 19, .alloc 24, none⟩,
    ⟨none, .store 24 (.tmp 19) (.tmp 66), none⟩,
    ⟨some 20, .assign (.tmp 67), none⟩])
  (.seq (.reg [⟨some 69, .load 24 (.tmp 14), none⟩,
    ⟨some 70, .load 24 (.tmp 19), none⟩,
    ⟨some 71, .call ⟨.value (.func 44), #[(.tmp 69), (.tmp 70)], #[24, 24]⟩, none⟩,
    ⟨some 68, .move (.tmp 71), none⟩,
    ⟨some 72, .extract (.tmp 68) 0, none⟩,
    ⟨some 73, .extract (.tmp 68) 1, none⟩,
    ⟨some 21, .assign (.tmp 72), none⟩,
    ⟨some 22, .assign (.tmp 73), none⟩])
  (.seq (.reg [⟨some 74, .move (.tmp 13), none⟩,
    ⟨some 75, .move (.tmp 74), none⟩,
    ⟨some 76, .move (.tmp 20), some ((some 75), true)⟩,
    ⟨some 77, .binOp .eql 25 (.tmp 76) (.const (.int .i64 0)) 25, some ((some 75), true)⟩,
    ⟨some 78, .pick (.tmp 75) (.tmp 77) (.const (.bool false)), none⟩,
    ⟨some 79, .move (.tmp 78), none⟩,
    ⟨some 80, .move (.tmp 22), some ((some 79), true)⟩,
    ⟨some 81, .binOp .eql 25 (.tmp 80) (.const (.int .i64 0)) 25, some ((some 79), true)⟩,
    ⟨some 82, .pick (.tmp 79) (.tmp 81) (.const (.bool false)), none⟩,
    ⟨some 83, .move (.tmp 82), none⟩,
    ⟨some 84, .move (.tmp 21), some ((some 83), true)⟩,
    ⟨some 85, .pick (.tmp 83) (.tmp 84) (.const (.bool false)), none⟩,
    ⟨some 12, .assign (.tmp 85), none⟩])
  .ret))))))))
theorem c11 : f11.body.bind (comp f11.ntmps) = some p11 := by kernel_rfl
def p19 : PC :=
  (.seq (.reg [⟨some 0, .assign (.const (.bool false)), none⟩])
  (.seq (.reg [⟨some 27, .call ⟨.value (.func 69), #[(.const (.int .i64 (-7))), (.const (.int .i64 (-7)))], #[3, 3]⟩, none⟩,
    ⟨some 28, .call ⟨.value (.func 69), #[(.const (.int .i64 1)), (.const (.int .i64 1))], #[3, 3]⟩, none⟩,
    ⟨some 29, .call ⟨.value (.func 69), #[(.const (.int .i64 2)), (.const (.int .i64 2))], #[3, 3]⟩, none⟩,
    ⟨some 30, .call ⟨.value (.func 30), #[(.tmp 27), (.tmp 28), (.tmp 29)], #[24, 24, 24]⟩, none⟩,
    ⟨some 26, .move (.tmp 30), none⟩,
    ⟨some 31, .extract (.tmp 26) 0, none⟩,
    ⟨some 32, .extract (.tmp 26) 1, none⟩,
    ⟨some 1, .alloc 24, none⟩,
    ⟨none, .store 24 (.tmp 1) (.tmp 31), none⟩,
    ⟨some 2, .assign (.tmp 32), none⟩])
  (.seq (.reg [⟨some 34, .call ⟨.value (.func 69), #[(.const (.int .i64 2)), (.const (.int .i64 9))], #[3, 3]⟩, none⟩,
    ⟨some 35, .call ⟨.value (.func 32), #[(.tmp 34)], #[24]⟩, none⟩,
    ⟨some 33, .move (.tmp 35), none⟩,
    ⟨some 36, .extract (.tmp 33) 0, none⟩,
    ⟨some 37, .extract (.tmp 33) 1, none⟩,
    ⟨some 3, .alloc 24, none⟩,
    ⟨none, .store 24 (.tmp 3) (.tmp 36), none⟩,
    ⟨some 4, .assign (.tmp 37), none⟩])
  (.seq (.reg [⟨some 39, .call ⟨.value (.func 69), #[(.const (.int .i64 0)), (.const (.int .i64 4))], #[3, 3]⟩, none⟩,
    ⟨some 40, .call ⟨.value (.func 69), #[(.const (.int .i64 3)), (.const (.int .i64 9))], #[3, 3]⟩, none⟩,
    ⟨some 41, .call ⟨.value (.func 40), #[(.tmp 39), (.tmp 40)], #[24, 24]⟩, none⟩,
    ⟨some 38, .move (.tmp 41), none⟩,
    ⟨some 42, .extract (.tmp 38) 0, none⟩,
    ⟨some 43, .extract (.tmp 38) 1, none⟩,
    ⟨some 5, .alloc 24, none⟩,
    ⟨none, .store 24 (.tmp 5) (.tmp 42), none⟩,
    ⟨some 6, .assign (.tmp 43), none⟩])
  (.seq (.reg [⟨some 45, .call ⟨.value (.func 69), #[(.const (.int .i64 0)), (.const (.int .i64 2))], #[3, 3]⟩, none⟩,
    ⟨some 46, .call ⟨.value (.func 69), #[(.const (.int .i64 3)), (.const (.int .i64 9))], #[3, 3]⟩, none⟩,
    ⟨some 47, .call ⟨.value (.func 40), #[(.tmp 45), (.tmp 46)], #[24, 24]⟩, none⟩,
    ⟨some 44, .move (.tmp 47), none⟩,
    ⟨some 48, .extract (.tmp 44) 0, none⟩,
    ⟨some 49, .extract (.tmp 44) 1, none⟩,
    ⟨some 7, .alloc 24, none⟩,
    ⟨none, .store 24 (.tmp 7) (.tmp 48), none⟩,
    ⟨some 8, .assign (.tmp 49), none⟩])
  (.seq (.reg [⟨some 51, .call ⟨.value (.func 69), #[(.const (.int .i64 0)), (.const (.int .i64 2))], #[3, 3]⟩, none⟩,
    ⟨some 52, .call ⟨.value (.func 69), #[(.const (.int .i64 3)), (.const (.int .i64 9))], #[3, 3]⟩, none⟩,
    ⟨some 53, .call ⟨.value (.func 42), #[(.tmp 51), (.tmp 52)], #[24, 24]⟩, none⟩,
    ⟨some 50, .move (.tmp 53), none⟩,
    ⟨some 54, .extract (.tmp 50) 0, none⟩,
    ⟨some 55, .extract (.tmp 50) 1, none⟩,
    ⟨some 9, .alloc 24, none⟩,
    ⟨none, .store 24 (.tmp 9) (.tmp 54), none⟩,
    ⟨some 10, .assign (.tmp 55), none⟩])
  (.seq (.draw [0, 1, 3, 7, 7, 31, 63, 127, 255, 511, 1023, 2047, 4095, 4095, 16383, 32767, 65535, 131071, 262143, 524287, 1048575, 2097151, 2097151, 8388607, 16777215, 33554431, 67108863, 134217727, 268435455, 536870911, 1073741823, 2147483647, 4294967295, 8589934591, 17179869183, 17179869183, 68719476735, 137438953471, 274877906943] [⟨some 56, .move (.tmp 2), none⟩,
    ⟨some 57, .binOp .eql 25 (.tmp 56) (.const (.int .i64 0)) 25, none⟩,
    ⟨some 58, .move (.tmp 57), none⟩,
    ⟨some 59, .load 24 (.tmp 1), some ((some 58), true)⟩,
    ⟨some 60, .call ⟨.value (.func 69), #[(.const (.int .i64 (-4))), (.const (.int .i64 (-3)))], #[3, 3]⟩, some ((some 58), true)⟩,
    ⟨some 61, .binOp .eql 24 (.tmp 59) (.tmp 60) 24, some ((some 58), true)⟩,
    ⟨some 62, .pick (.tmp 58) (.tmp 61) (.const (.bool false)), none⟩,
    ⟨some 63, .move (.tmp 62), none⟩,
    ⟨some 64, .move (.tmp 4), some ((some 63), true)⟩,
    ⟨some 65, .binOp .eql 25 (.tmp 64) (.const (.int .i64 0)) 25, some ((some 63), true)⟩,
    ⟨some 66, .pick (.tmp 63) (.tmp 65) (.const (.bool false)), none⟩,
    ⟨some 67, .move (.tmp 66), none⟩,
    ⟨some 68, .load 24 (.tmp 3), some ((some 67), true)⟩,
    ⟨some 69, .call ⟨.value (.func 69), #[(.const (.int .i64 1)), (.const (.int .i64 3))], #[3, 3]⟩, some ((some 67), true)⟩,
    ⟨some 70, .binOp .eql 24 (.tmp 68) (.tmp 69) 24, some ((some 67), true)⟩,
    ⟨some 71, .pick (.tmp 67) (.tmp 70) (.const (.bool false)), none⟩,
    ⟨some 72, .move (.tmp 71), none⟩,
    ⟨some 73, .move (.tmp 6), some ((some 72), true)⟩,
    ⟨some 74, .binOp .eql 25 (.tmp 73) (.const (.int .i64 0)) 25, some ((some 72), true)⟩,
    ⟨some 75, .pick (.tmp 72) (.tmp 74) (.const (.bool false)), none⟩,
    ⟨some 76, .move (.tmp 75), none⟩,
    ⟨some 77, .load 24 (.tmp 5), some ((some 76), true)⟩,
    ⟨some 78, .call ⟨.value (.func 69), #[(.const (.int .i64 3)), (.const (.int .i64 4))], #[3, 3]⟩, some ((some 76), true)⟩,
    ⟨some 79, .binOp .eql 24 (.tmp 77) (.tmp 78) 24, some ((some 76), true)⟩,
    ⟨some 80, .pick (.tmp 76) (.tmp 79) (.const (.bool false)), none⟩,
    ⟨some 81, .move (.tmp 80), none⟩,
    ⟨some 82, .move (.tmp 8), some ((some 81), true)⟩,
    ⟨some 83, .binOp .eql 25 (.tmp 82) (.const (.int .i64 6)) 25, some ((some 81), true)⟩,
    ⟨some 84, .pick (.tmp 81) (.tmp 83) (.const (.bool false)), none⟩,
    ⟨some 85, .move (.tmp 84), none⟩,
    ⟨some 86, .move (.tmp 10), some ((some 85), true)⟩,
    ⟨some 87, .binOp .eql 25 (.tmp 86) (.const (.int .i64 0)) 25, some ((some 85), true)⟩,
    ⟨some 88, .pick (.tmp 85) (.tmp 87) (.const (.bool false)), none⟩,
    ⟨some 89, .move (.tmp 88), none⟩,
    ⟨some 90, .load 24 (.tmp 9), some ((some 89), true)⟩,
    ⟨some 91, .call ⟨.value (.func 69), #[(.const (.int .i64 0)), (.const (.int .i64 9))], #[3, 3]⟩, some ((some 89), true)⟩]
    [⟨some 92, .binOp .eql 24 (.tmp 90) (.tmp 91) 24, some ((some 89), true)⟩,
    ⟨some 93, .pick (.tmp 89) (.tmp 92) (.const (.bool false)), none⟩,
    ⟨some 11, .assign (.tmp 93), none⟩])
  (.seq (.reg [⟨some 95, .call ⟨.value (.func 72), #[], #[]⟩, none⟩,
    ⟨some 96, .call ⟨.value (.func 69), #[(.const (.int .i64 3)), (.const (.int .i64 3))], #[3, 3]⟩, none⟩,
    ⟨some 97, .call ⟨.value (.func 20), #[(.tmp 95), (.tmp 96)], #[22, 24]⟩, none⟩,
    ⟨some 94, .move (.tmp 97), none⟩,
    ⟨some 98, .extract (.tmp 94) 0, none⟩,
    ⟨some 99, .extract (.tmp 94) 1, none⟩,
    ⟨some 12, .alloc 24, none⟩,
    ⟨none, .store 24 (.tmp 12) (.tmp 98), none⟩,
    ⟨some 2, .assign (.tmp 99), none⟩])
  (.seq (.reg [⟨some 101, .call ⟨.value (.func 72), #[], #[]⟩, none⟩,
    ⟨some 102, .call ⟨.value (.func 69), #[(.const (.int .i64 20)), (.const (.int .i64 30))], #[3, 3]⟩, none⟩,
    ⟨some 103, .call ⟨.value (.func 24), #[(.tmp 101), (.tmp 102)], #[22, 24]⟩, none⟩,
    ⟨some 100, .move (.tmp 103), none⟩,
    ⟨some 104, .extract (.tmp 100) 0, none⟩,
    ⟨some 105, .extract (.tmp 100) 1, none⟩,
    ⟨some 13, .assign (.tmp 104), none⟩,
    ⟨some 4, .assign (.tmp 105), none⟩])
  (.seq (.reg [⟨some 107, .call ⟨.value (.func 72), #[], #[]⟩, none⟩,
    ⟨some 108, .call ⟨.value (.func 69), #[(.const (.int .i64 5)), (.const (.int .i64 5))], #[3, 3]⟩, none⟩,
    ⟨some 109, .call ⟨.value (.func 22), #[(.tmp 107), (.tmp 108)], #[22, 24]⟩, none⟩,
    ⟨some 106, .move (.tmp 109), none⟩,
    ⟨some 110, .extract (.tmp 106) 0, none⟩,
    ⟨some 111, .extract (.tmp 106) 1, none⟩,
    ⟨some 14, .assign (.tmp 110), none⟩,
    ⟨some 6, .assign (.tmp 111), none⟩])
  (.seq (.reg [⟨some 113, .call ⟨.value (.func 72), #[], #[]⟩, none⟩,
    ⟨some 114, .call ⟨.value (.func 69), #[(.const (.int .i64 5)), (.const (.int .i64 5))], #[3, 3]⟩, none⟩,
    ⟨some 115, .call ⟨.value (.func 24), #[(.tmp 113), (.tmp 114)], #[22, 24]⟩, none⟩,
    ⟨some 112, .move (.tmp 115), none⟩,
    ⟨some 116, .extract (.tmp 112) 0, none⟩,
    ⟨some 117, .extract (.tmp 112) 1, none⟩,
    ⟨some 15, .assign (.tmp 116), none⟩,
    ⟨some 8, .assign (.tmp 117), none⟩])
  (.seq (.reg [⟨some 119, .call ⟨.value (.func 72), #[], #[]⟩, none⟩,
    ⟨some 120, .call ⟨.value (.func 69), #[(.const (.int .i64 0)), (.const (.int .i64 21))], #[3, 3]⟩, none⟩,
    ⟨some 121, .call ⟨.value (.func 20), #[(.tmp 119), (.tmp 120)], #[22, 24]⟩, none⟩,
    ⟨some 118, .move (.tmp 121), none⟩,
    ⟨some 122, .extract (.tmp 118) 0, none⟩,
    ⟨some 123, .extract (.tmp 118) 1, none⟩,
    ⟨some 10, .assign (.tmp 123), none⟩])
  (.seq (.draw [0, 1, 3, 7, 7, 31, 63, 127, 255, 511, 1023, 2047, 4095, 4095, 12287, 32767, 65535, 131071, 262143, 524287, 1048575, 2097151, 4194303, 4194303, 12582911, 29360127, 67108863, 134217727, 268435455, 536870911, 1073741823, 2147483647, 4294967295, 8589934591, 8589934591, 25769803775, 68719476735, 137438953471, 274877906943, 549755813887, 1099511627775, 2199023255551, 4398046511103] [⟨some 124, .move (.tmp 2), none⟩,
    ⟨some 125, .binOp .eql 25 (.tmp 124) (.const (.int .i64 0)) 25, none⟩,
    ⟨some 126, .move (.tmp 125), none⟩,
    ⟨some 127, .load 24 (.tmp 12), some ((some 126), true)⟩,
    ⟨some 128, .call ⟨.value (.func 69), #[(.const (.int .i64 6)), (.const (.int .i64 9))], #[3, 3]⟩, some ((some 126), true)⟩,
    ⟨some 129, .binOp .eql 24 (.tmp 127) (.tmp 128) 24, some ((some 126), true)⟩,
    ⟨some 130, .pick (.tmp 126) (.tmp 129) (.const (.bool false)), none⟩,
    ⟨some 131, .move (.tmp 130), none⟩,
    ⟨some 132, .move (.tmp 4), some ((some 131), true)⟩,
    ⟨some 133, .binOp .eql 25 (.tmp 132) (.const (.int .i64 0)) 25, some ((some 131), true)⟩,
    ⟨some 134, .pick (.tmp 131) (.tmp 133) (.const (.bool false)), none⟩,
    ⟨some 135, .move (.tmp 134), none⟩,
    ⟨some 136, .move (.tmp 13), some ((some 135), true)⟩,
    ⟨some 137, .call ⟨.value (.func 69), #[(.const (.int .i64 10)), (.const (.int .i64 10))], #[3, 3]⟩, some ((some 135), true)⟩,
    ⟨some 138, .buildSlice 30 1 #[(0, (.tmp 137))], some ((some 135), true)⟩,
    ⟨some 139, .call ⟨.value (.func 28), #[(.tmp 136), (.tmp 138)], #[30, 30]⟩, some ((some 135), true)⟩,
    ⟨some 140, .pick (.tmp 135) (.tmp 139) (.const (.bool false)), none⟩,
    ⟨some 141, .move (.tmp 140), none⟩,
    ⟨some 142, .move (.tmp 6), some ((some 141), true)⟩,
    ⟨some 143, .binOp .eql 25 (.tmp 142) (.const (.int .i64 0)) 25, some ((some 141), true)⟩,
    ⟨some 144, .pick (.tmp 141) (.tmp 143) (.const (.bool false)), none⟩,
    ⟨some 145, .move (.tmp 144), none⟩,
    ⟨some 146, .move (.tmp 14), some ((some 145), true)⟩,
    ⟨some 147, .call ⟨.value (.func 69), #[(.const (.int .i64 2)), (.const (.int .i64 2))], #[3, 3]⟩, some ((some 145), true)⟩,
    ⟨some 148, .call ⟨.value (.func 69), #[(.const (.int .i64 20)), (.const (.int .i64 20))], #[3, 3]⟩, some ((some 145), true)⟩,
    ⟨some 149, .buildSlice 30 2 #[(0, (.tmp 147)), (1, (.tmp 148))], some ((some 145), true)⟩,
    ⟨some 150, .call ⟨.value (.func 28), #[(.tmp 146), (.tmp 149)], #[30, 30]⟩, some ((some 145), true)⟩,
    ⟨some 151, .pick (.tmp 145) (.tmp 150) (.const (.bool false)), none⟩,
    ⟨some 152, .move (.tmp 151), none⟩,
    ⟨some 153, .move (.tmp 8), some ((some 152), true)⟩,
    ⟨some 154, .binOp .eql 25 (.tmp 153) (.const (.int .i64 0)) 25, some ((some 152), true)⟩,
    ⟨some 155, .pick (.tmp 152) (.tmp 154) (.const (.bool false)), none⟩,
    ⟨some 156, .move (.tmp 155), none⟩,
    ⟨some 157, .move (.tmp 15), some ((some 156), true)⟩,
    ⟨some 158, .call ⟨.value (.func 69), #[(.const (.int .i64 20)), (.const (.int .i64 20))], #[3, 3]⟩, some ((some 156), true)⟩,
    ⟨some 159, .buildSlice 30 1 #[(0, (.tmp 158))], some ((some 156), true)⟩]
    [⟨some 160, .call ⟨.value (.func 28), #[(.tmp 157), (.tmp 159)], #[30, 30]⟩, some ((some 156), true)⟩,
    ⟨some 161, .pick (.tmp 156) (.tmp 160) (.const (.bool false)), none⟩,
    ⟨some 162, .move (.tmp 161), none⟩,
    ⟨some 163, .move (.tmp 10), some ((some 162), true)⟩,
    ⟨some 164, .binOp .eql 25 (.tmp 163) (.const (.int .i64 2)) 25, some ((some 162), true)⟩,
    ⟨some 165, .pick (.tmp 162) (.tmp 164) (.const (.bool false)), none⟩,
    ⟨some 16, .assign (.tmp 165), none⟩])
  (.seq (.reg [⟨some 167, .call ⟨.value (.func 73), #[], #[]⟩, none⟩,
    ⟨some 168, .build 56 #[(0, (.const (.int .i64 2))), (1, (.const (.int .i64 4)))], none⟩,
    ⟨some 169, .call ⟨.value (.func 51), #[(.tmp 167), (.tmp 168)], #[54, 56]⟩, none⟩,
    ⟨some 166, .move (.tmp 169), none⟩,
    ⟨some 170, .extract (.tmp 166) 0, none⟩,
    ⟨some 171, .extract (.tmp 166) 1, none⟩,
    ⟨some 17, .assign (.tmp 170), none⟩,
    ⟨some 2, .assign (.tmp 171), none⟩])
  (.seq (.reg [⟨some 173, .call ⟨.value (.func 73), #[], #[]⟩, none⟩,
    ⟨some 174, .build 56 #[(0, (.const (.int .i64 5))), (1, (.const (.int .i64 2)))], none⟩,
    ⟨some 175, .call ⟨.value (.func 51), #[(.tmp 173), (.tmp 174)], #[54, 56]⟩, none⟩,
    ⟨some 172, .move (.tmp 175), none⟩,
    ⟨some 176, .extract (.tmp 172) 0, none⟩,
    ⟨some 177, .extract (.tmp 172) 1, none⟩,
    ⟨some 18, .assign (.tmp 176), none⟩,
    ⟨some 4, .assign (.tmp 177), none⟩])
  (.seq (.reg [⟨some 179, .build 56 #[], none⟩,
    ⟨some 180, .build 56 #[(0, (.const (.int .i64 2))), (1, (.const (.int .i64 1)))], none⟩,
    ⟨some 181, .buildSlice 54 2 #[(0, (.tmp 179)), (1, (.tmp 180))], none⟩,
    ⟨some 182, .build 56 #[], none⟩,
    ⟨some 183, .build 56 #[(1, (.const (.int .i64 3)))], none⟩,
    ⟨some 184, .buildSlice 54 2 #[(0, (.tmp 182)), (1, (.tmp 183))], none⟩,
    ⟨some 185, .call ⟨.value (.func 62), #[(.tmp 181), (.tmp 184)], #[54, 54]⟩, none⟩,
    ⟨some 178, .move (.tmp 185), none⟩,
    ⟨some 186, .extract (.tmp 178) 0, none⟩,
    ⟨some 187, .extract (.tmp 178) 1, none⟩,
    ⟨some 19, .assign (.tmp 186), none⟩,
    ⟨some 6, .assign (.tmp 187), none⟩])
  (.seq (.reg [⟨some 189, .call ⟨.value (.func 73), #[], #[]⟩, none⟩,
    ⟨some 190, .build 56 #[(0, (.const (.int .i64 5))), (1, (.const (.int .i64 2)))], none⟩,
    ⟨some 191, .buildSlice 54 1 #[(0, (.tmp 190))], none⟩,
    ⟨some 192, .call ⟨.value (.func 64), #[(.tmp 189), (.tmp 191), (.const (.int .i64 1)), (.const (.int .i64 0))], #[54, 54, 3, 3]⟩, none⟩,
    ⟨some 188, .move (.tmp 192), none⟩,
    ⟨some 193, .extract (.tmp 188) 0, none⟩,
    ⟨some 194, .extract (.tmp 188) 1, none⟩,
    ⟨some 20, .assign (.tmp 193), none⟩,
    ⟨some 8, .assign (.tmp 194), none⟩])
  (.seq (.reg [⟨some 196, .call ⟨.value (.func 73), #[], #[]⟩, none⟩,
    ⟨some 197, .build 56 #[(0, (.const (.int .i64 5))), (1, (.const (.int .i64 2)))], none⟩,
    ⟨some 198, .buildSlice 54 1 #[(0, (.tmp 197))], none⟩,
    ⟨some 199, .call ⟨.value (.func 64), #[(.tmp 196), (.tmp 198), (.const (.int .i64 0)), (.const (.int .i64 1))], #[54, 54, 3, 3]⟩, none⟩,
    ⟨some 195, .move (.tmp 199), none⟩,
    ⟨some 200, .extract (.tmp 195) 0, none⟩,
    ⟨some 201, .extract (.tmp 195) 1, none⟩,
    ⟨some 21, .assign (.tmp 200), none⟩,
    ⟨some 10, .assign (.tmp 201), none⟩])
  (.seq (.reg [⟨some 203, .call ⟨.value (.func 73), #[], #[]⟩, none⟩,
    ⟨some 204, .build 56 #[(0, (.const (.int .i64 4))), (1, (.const (.int .i64 2)))], none⟩,
    ⟨some 205, .buildSlice 54 1 #[(0, (.tmp 204))], none⟩,
    ⟨some 206, .call ⟨.value (.func 66), #[(.tmp 203), (.tmp 205)], #[54, 54]⟩, none⟩,
    ⟨some 202, .move (.tmp 206), none⟩,
    ⟨some 207, .extract (.tmp 202) 0, none⟩,
    ⟨some 208, .extract (.tmp 202) 1, none⟩,
    ⟨some 209, .extract (.tmp 202) 2, none⟩,
    ⟨some 22, .assign (.tmp 207), none⟩,
    ⟨some 23, .assign (.tmp 208), none⟩,
    ⟨some 24, .assign (.tmp 209), none⟩])
  (.seq (.reg [⟨some 210, .move (.tmp 2), none⟩,
    ⟨some 211, .binOp .eql 25 (.tmp 210) (.const (.int .i64 0)) 25, none⟩,
    ⟨some 212, .move (.tmp 211), none⟩,
    ⟨some 213, .move (.tmp 17), some ((some 212), true)⟩,
    ⟨some 214, .pick (.tmp 212) (.tmp 213) (.const (.bool false)), none⟩,
    ⟨some 215, .move (.tmp 214), none⟩,
    ⟨some 216, .move (.tmp 4), some ((some 215), true)⟩,
    ⟨some 217, .binOp .eql 25 (.tmp 216) (.const (.int .i64 0)) 25, some ((some 215), true)⟩,
    ⟨some 218, .pick (.tmp 215) (.tmp 217) (.const (.bool false)), none⟩,
    ⟨some 219, .move (.tmp 218), none⟩,
    ⟨some 220, .move (.tmp 18), some ((some 219), true)⟩,
    ⟨some 221, .unOp .not 4 (.tmp 220), some ((some 219), true)⟩,
    ⟨some 222, .pick (.tmp 219) (.tmp 221) (.const (.bool false)), none⟩,
    ⟨some 223, .move (.tmp 222), none⟩,
    ⟨some 224, .move (.tmp 6), some ((some 223), true)⟩,
    ⟨some 225, .binOp .eql 25 (.tmp 224) (.const (.int .i64 0)) 25, some ((some 223), true)⟩,
    ⟨some 226, .pick (.tmp 223) (.tmp 225) (.const (.bool false)), none⟩,
    ⟨some 227, .move (.tmp 226), none⟩,
    ⟨some 228, .move (.tmp 19), some ((some 227), true)⟩,
    ⟨some 229, .build 56 #[], some ((some 227), true)⟩,
    ⟨some 230, .build 56 #[(0, (.const (.int .i64 2))), (1, (.const (.int .i64 1)))], some ((some 227), true)⟩,
    ⟨some 231, .build 56 #[(0, (.const (.int .i64 2))), (1, (.const (.int .i64 4)))], some ((some 227), true)⟩,
    ⟨some 232, .build 56 #[(1, (.const (.int .i64 3)))], some ((some 227), true)⟩,
    ⟨some 233, .buildSlice 54 4 #[(0, (.tmp 229)), (1, (.tmp 230)), (2, (.tmp 231)), (3, (.tmp 232))], some ((some 227), true)⟩,
    ⟨some 234, .call ⟨.value (.func 57), #[(.tmp 228), (.tmp 233)], #[54, 54]⟩, some ((some 227), true)⟩,
    ⟨some 235, .pick (.tmp 227) (.tmp 234) (.const (.bool false)), none⟩,
    ⟨some 236, .move (.tmp 235), none⟩,
    ⟨some 237, .move (.tmp 8), some ((some 236), true)⟩,
    ⟨some 238, .binOp .eql 25 (.tmp 237) (.const (.int .i64 0)) 25, some ((some 236), true)⟩,
    ⟨some 239, .pick (.tmp 236) (.tmp 238) (.const (.bool false)), none⟩,
    ⟨some 240, .move (.tmp 239), none⟩,
    ⟨some 241, .move (.tmp 20), some ((some 240), true)⟩,
    ⟨some 242, .pick (.tmp 240) (.tmp 241) (.const (.bool false)), none⟩,
    ⟨some 243, .move (.tmp 242), none⟩,
    ⟨some 244, .move (.tmp 10), some ((some 243), true)⟩,
    ⟨some 245, .binOp .eql 25 (.tmp 244) (.const (.int .i64 0)) 25, some ((some 243), true)⟩,
    ⟨some 246, .pick (.tmp 243) (.tmp 245) (.const (.bool false)), none⟩,
    ⟨some 247, .move (.tmp 246), none⟩,
    ⟨some 248, .move (.tmp 21), some ((some 247), true)⟩,
    ⟨some 249, .unOp .not 4 (.tmp 248), some ((some 247), true)⟩,
    ⟨some 250, .pick (.tmp 247) (.tmp 249) (.const (.bool false)), none⟩,
    ⟨some 251, .move (.tmp 250), none⟩,
    ⟨some 252, .move (.tmp 24), some ((some 251), true)⟩,
    ⟨some 253, .binOp .eql 25 (.tmp 252) (.const (.int .i64 6)) 25, some ((some 251), true)⟩,
    ⟨some 254, .pick (.tmp 251) (.tmp 253) (.const (.bool false)), none⟩,
    ⟨some 25, .assign (.tmp 254), none⟩])
  (.seq (.reg [⟨some 256, .call ⟨.value (.func 69), #[(.const (.int .i64 1)), (.const (.int .i64 2))], #[3, 3]⟩, none⟩,
    ⟨some 257, .call ⟨.value (.func 69), #[(.const (.int .i64 1)), (.const (.int .i64 2))], #[3, 3]⟩, none⟩,
    ⟨some 258, .call ⟨.value (.func 69), #[(.const (.int .i64 0)), (.const (.int .i64 2))], #[3, 3]⟩, none⟩,
    ⟨some 259, .call ⟨.value (.func 30), #[(.tmp 256), (.tmp 257), (.tmp 258)], #[24, 24, 24]⟩, none⟩,
    ⟨some 255, .move (.tmp 259), none⟩,
    ⟨some 260, .extract (.tmp 255) 0, none⟩,
    ⟨some 261, .extract (.tmp 255) 1, none⟩,
    ⟨some 2, .assign (.tmp 261), none⟩])
  (.seq (.reg [⟨some 263, .call ⟨.value (.func 69), #[(.const (.int .i64 0)), (.const (.int .i64 549755813888))], #[3, 3]⟩, none⟩,
    ⟨some 264, .call ⟨.value (.func 69), #[(.const (.int .i64 0)), (.const (.int .i64 3))], #[3, 3]⟩, none⟩,
    ⟨some 265, .call ⟨.value (.func 38), #[(.tmp 263), (.tmp 264)], #[24, 24]⟩, none⟩,
    ⟨some 262, .move (.tmp 265), none⟩,
    ⟨some 266, .extract (.tmp 262) 0, none⟩,
    ⟨some 267, .extract (.tmp 262) 1, none⟩,
    ⟨some 4, .assign (.tmp 267), none⟩])
  (.seq (.reg [⟨some 269, .call ⟨.value (.func 69), #[(.const (.int .i64 (-1))), (.const (.int .i64 4))], #[3, 3]⟩, none⟩,
    ⟨some 270, .call ⟨.value (.func 32), #[(.tmp 269)], #[24]⟩, none⟩,
    ⟨some 268, .move (.tmp 270), none⟩,
    ⟨some 271, .extract (.tmp 268) 0, none⟩,
    ⟨some 272, .extract (.tmp 268) 1, none⟩,
    ⟨some 6, .assign (.tmp 272), none⟩])
  (.seq (.reg [⟨some 274, .call ⟨.value (.func 49), #[(.const (.slice none 0 0))], #[54]⟩, none⟩,
    ⟨some 273, .move (.tmp 274), none⟩,
    ⟨some 275, .extract (.tmp 273) 0, none⟩,
    ⟨some 276, .extract (.tmp 273) 1, none⟩,
    ⟨some 8, .assign (.tmp 276), none⟩])
  (.seq (.reg [⟨some 278, .call ⟨.value (.func 73), #[], #[]⟩, none⟩,
    ⟨some 279, .call ⟨.value (.func 60), #[(.tmp 278), (.const (.int .i64 1073741825)), (.const (.int .i64 0))], #[54, 3, 3]⟩, none⟩,
    ⟨some 277, .move (.tmp 279), none⟩,
    ⟨some 280, .extract (.tmp 277) 0, none⟩,
    ⟨some 281, .extract (.tmp 277) 1, none⟩,
    ⟨some 10, .assign (.tmp 281), none⟩])
  (.seq (.reg [⟨some 282, .move (.const (.bool true)), none⟩,
    ⟨some 283, .call ⟨.value (.func 58), #[], #[]⟩, some ((some 282), true)⟩,
    ⟨some 284, .pick (.tmp 282) (.tmp 283) (.const (.bool false)), none⟩,
    ⟨some 285, .move (.tmp 284), none⟩,
    ⟨some 286, .move (.tmp 11), some ((some 285), true)⟩,
    ⟨some 287, .pick (.tmp 285) (.tmp 286) (.const (.bool false)), none⟩,
    ⟨some 288, .move (.tmp 287), none⟩,
    ⟨some 289, .move (.tmp 16), some ((some 288), true)⟩,
    ⟨some 290, .pick (.tmp 288) (.tmp 289) (.const (.bool false)), none⟩,
    ⟨some 291, .move (.tmp 290), none⟩,
    ⟨some 292, .move (.tmp 25), some ((some 291), true)⟩,
    ⟨some 293, .pick (.tmp 291) (.tmp 292) (.const (.bool false)), none⟩,
    ⟨some 294, .move (.tmp 293), none⟩,
    ⟨some 295, .move (.tmp 2), some ((some 294), true)⟩,
    ⟨some 296, .binOp .eql 25 (.tmp 295) (.const (.int .i64 12)) 25, some ((some 294), true)⟩,
    ⟨some 297, .pick (.tmp 294) (.tmp 296) (.const (.bool false)), none⟩,
    ⟨some 298, .move (.tmp 297), none⟩,
    ⟨some 299, .move (.tmp 4), some ((some 298), true)⟩,
    ⟨some 300, .binOp .eql 25 (.tmp 299) (.const (.int .i64 11)) 25, some ((some 298), true)⟩,
    ⟨some 301, .pick (.tmp 298) (.tmp 300) (.const (.bool false)), none⟩,
    ⟨some 302, .move (.tmp 301), none⟩,
    ⟨some 303, .move (.tmp 6), some ((some 302), true)⟩,
    ⟨some 304, .binOp .eql 25 (.tmp 303) (.const (.int .i64 2)) 25, some ((some 302), true)⟩,
    ⟨some 305, .pick (.tmp 302) (.tmp 304) (.const (.bool false)), none⟩,
    ⟨some 306, .move (.tmp 305), none⟩,
    ⟨some 307, .move (.tmp 8), some ((some 306), true)⟩,
    ⟨some 308, .binOp .eql 25 (.tmp 307) (.const (.int .i64 2)) 25, some ((some 306), true)⟩,
    ⟨some 309, .pick (.tmp 306) (.tmp 308) (.const (.bool false)), none⟩,
    ⟨some 310, .move (.tmp 309), none⟩,
    ⟨some 311, .move (.tmp 10), some ((some 310), true)⟩,
    ⟨some 312, .binOp .eql 25 (.tmp 311) (.const (.int .i64 2)) 25, some ((some 310), true)⟩,
    ⟨some 313, .pick (.tmp 310) (.tmp 312) (.const (.bool false)), none⟩,
    ⟨some 314, .move (.tmp 313), none⟩,
    ⟨some 315, .call ⟨.value (.func 69), #[(.const (.int .i64 1)), (.const (.int .i64 0))], #[3, 3]⟩, some ((some 314), true)⟩,
    ⟨some 316, .call ⟨.value (.func 46), #[(.tmp 315)], #[24]⟩, some ((some 314), true)⟩,
    ⟨some 317, .binOp .eql 25 (.tmp 316) (.const (.int .i64 10)) 25, some ((some 314), true)⟩,
    ⟨some 318, .pick (.tmp 314) (.tmp 317) (.const (.bool false)), none⟩,
    ⟨some 319, .move (.tmp 318), none⟩,
    ⟨some 320, .call ⟨.value (.func 72), #[], #[]⟩, some ((some 319), true)⟩,
    ⟨some 321, .slice 22 (.tmp 320) none (some (.const (.int .i64 1))) none, some ((some 319), true)⟩,
    ⟨some 322, .call ⟨.value (.func 26), #[(.tmp 321)], #[22]⟩, some ((some 319), true)⟩,
    ⟨some 323, .binOp .eql 25 (.tmp 322) (.const (.int .i64 13)) 25, some ((some 319), true)⟩,
    ⟨some 324, .pick (.tmp 319) (.tmp 323) (.const (.bool false)), none⟩,
    ⟨some 325, .move (.tmp 324), none⟩,
    ⟨some 326, .call ⟨.value (.func 55), #[(.const (.slice none 0 0))], #[54]⟩, some ((some 325), true)⟩,
    ⟨some 327, .binOp .eql 25 (.tmp 326) (.const (.int .i64 14)) 25, some ((some 325), true)⟩,
    ⟨some 328, .pick (.tmp 325) (.tmp 327) (.const (.bool false)), none⟩,
    ⟨some 329, .move (.tmp 328), none⟩,
    ⟨some 330, .build 56 #[(0, (.const (.int .i64 4)))], some ((some 329), true)⟩,
    ⟨some 331, .build 56 #[(0, (.const (.int .i64 4))), (1, (.const (.int .i64 4)))], some ((some 329), true)⟩,
    ⟨some 332, .build 56 #[(1, (.const (.int .i64 4)))], some ((some 329), true)⟩,
    ⟨some 333, .build 56 #[], some ((some 329), true)⟩,
    ⟨some 334, .buildSlice 54 4 #[(0, (.tmp 330)), (1, (.tmp 331)), (2, (.tmp 332)), (3, (.tmp 333))], some ((some 329), true)⟩,
    ⟨some 335, .call ⟨.value (.func 55), #[(.tmp 334)], #[54]⟩, some ((some 329), true)⟩,
    ⟨some 336, .binOp .eql 25 (.tmp 335) (.const (.int .i64 14)) 25, some ((some 329), true)⟩,
    ⟨some 337, .pick (.tmp 329) (.tmp 336) (.const (.bool false)), none⟩,
    ⟨some 0, .assign (.tmp 337), none⟩])
  .ret))))))))))))))))))))))))))
theorem c19 : f19.body.bind (comp f19.ntmps) = some p19 := by kernel_rfl
def p20l0 : PC :=
  (.seq (.reg [⟨some 56, .binOp .lss 3 (.tmp 55) (.tmp 54) 3, none⟩])
  (.seq (.cond (.tmp 56)
    .skip
    (.exit 0))
  (.seq (.block 1
    (.seq (.reg [⟨some 57, .indexAddr 22 (.tmp 53) (.tmp 55), none⟩,
      ⟨some 58, .load 87 (.tmp 57), none⟩,
      ⟨some 10, .alloc 87, none⟩,
      ⟨none, .store 87 (.tmp 10) (.tmp 58), none⟩])
    (.seq (.reg [⟨some 59, .fieldAddr 87 (.tmp 10) 0, none⟩,
      ⟨some 60, .load 3 (.tmp 59), none⟩,
      ⟨some 61, .fieldAddr 24 (.tmp 3) 0, none⟩,
      ⟨some 62, .load 3 (.tmp 61), none⟩,
      ⟨some 63, .binOp .gtr 3 (.tmp 60) (.tmp 62) 3, none⟩,
      ⟨some 64, .move (.tmp 63), none⟩,
      ⟨some 65, .fieldAddr 87 (.tmp 10) 0, some ((some 64), true)⟩,
      ⟨some 66, .load 3 (.tmp 65), some ((some 64), true)⟩,
      ⟨some 67, .fieldAddr 24 (.tmp 3) 1, some ((some 64), true)⟩,
      ⟨some 68, .load 3 (.tmp 67), some ((some 64), true)⟩,
      ⟨some 69, .binOp .lss 3 (.tmp 66) (.tmp 68) 3, some ((some 64), true)⟩,
      ⟨some 70, .pick (.tmp 64) (.tmp 69) (.const (.bool false)), none⟩])
    (.cond (.tmp 70)
      (.reg [⟨some 71, .load 24 (.tmp 8), none⟩,
        ⟨some 72, .fieldAddr 87 (.tmp 10) 1, none⟩,
        ⟨some 73, .load 24 (.tmp 72), none⟩,
        ⟨some 74, .buildSlice 30 2 #[(0, (.tmp 71)), (1, (.tmp 73))], none⟩,
        ⟨some 75, .call ⟨.value (.func 74), #[(.tmp 74)], #[30]⟩, none⟩,
        ⟨none, .store 24 (.tmp 8) (.tmp 75), none⟩])
      .skip))))
  (.reg [⟨some 76, .binOp .add 3 (.tmp 55) (.const (.int .i64 1)) 3, none⟩,
    ⟨some 55, .move (.tmp 76), none⟩]))))
def p20 : PC :=
  (.seq (.reg [⟨some 3, .box 24 (.tmp 1), none⟩,
    ⟨some 4, .alloc 24, none⟩,
    ⟨some 5, .assign (.const (.int .i64 0)), none⟩])
  (.seq (.seq (.reg [⟨some 11, .move (.tmp 0), none⟩,
    ⟨some 12, .call ⟨.value (.func 26), #[(.tmp 11)], #[22]⟩, none⟩,
    ⟨some 6, .assign (.tmp 12), none⟩])
  (.seq (.reg [⟨some 13, .move (.tmp 6), none⟩,
    ⟨some 14, .binOp .neq 25 (.tmp 13) (.const (.int .i64 0)) 25, none⟩])
  (.cond (.tmp 14)
    (.seq (.reg [⟨some 15, .build 24 #[], none⟩,
      ⟨some 16, .move (.tmp 6), none⟩,
      ⟨none, .store 24 (.tmp 4) (.tmp 15), none⟩,
      ⟨some 5, .assign (.tmp 16), none⟩])
    .ret)
    .skip)))
  (.seq (.seq (.reg [⟨some 17, .load 24 (.tmp 3), none⟩,
    ⟨some 18, .call ⟨.value (.func 46), #[(.tmp 17)], #[24]⟩, none⟩,
    ⟨some 7, .assign (.tmp 18), none⟩])
  (.seq (.reg [⟨some 19, .move (.tmp 7), none⟩,
    ⟨some 20, .binOp .neq 25 (.tmp 19) (.const (.int .i64 0)) 25, none⟩])
  (.cond (.tmp 20)
    (.seq (.reg [⟨some 21, .build 24 #[], none⟩,
      ⟨some 22, .move (.tmp 7), none⟩,
      ⟨none, .store 24 (.tmp 4) (.tmp 21), none⟩,
      ⟨some 5, .assign (.tmp 22), none⟩])
    .ret)
    .skip)))
  (.seq (.seq (.draw [0, 1, 0, 4, 12, 28, 63, 127, 255, 511, 255, 255, 2303, 6399, 15615, 31999, 64767, 131071, 262143] [⟨some 23, .fieldAddr 24 (.tmp 3) 0, none⟩,
    ⟨some 24, .load 3 (.tmp 23), none⟩,
    ⟨some 25, .move (.tmp 0), none⟩,
    ⟨some 26, .indexAddr 22 (.tmp 25) (.const (.int .i64 0)), none⟩,
    ⟨some 27, .fieldAddr 87 (.tmp 26) 0, none⟩,
    ⟨some 28, .load 3 (.tmp 27), none⟩,
    ⟨some 29, .binOp .lss 3 (.tmp 24) (.tmp 28) 3, none⟩,
    ⟨some 30, .move (.tmp 29), none⟩,
    ⟨some 31, .fieldAddr 24 (.tmp 3) 1, some ((some 30), false)⟩,
    ⟨some 32, .load 3 (.tmp 31), some ((some 30), false)⟩,
    ⟨some 33, .move (.tmp 0), some ((some 30), false)⟩,
    ⟨some 34, .move (.tmp 0), some ((some 30), false)⟩,
    ⟨some 35, .call ⟨.builtin .len, #[(.tmp 34)], #[22]⟩, some ((some 30), false)⟩,
    ⟨some 36, .binOp .sub 3 (.tmp 35) (.const (.int .i64 1)) 3, some ((some 30), false)⟩,
    ⟨some 37, .indexAddr 22 (.tmp 33) (.tmp 36), some ((some 30), false)⟩,
    ⟨some 38, .fieldAddr 87 (.tmp 37) 0, some ((some 30), false)⟩,
    ⟨some 39, .load 3 (.tmp 38), some ((some 30), false)⟩]
    [⟨some 40, .binOp .gtr 3 (.tmp 32) (.tmp 39) 3, some ((some 30), false)⟩,
    ⟨some 41, .pick (.tmp 30) (.const (.bool true)) (.tmp 40), none⟩])
  (.cond (.tmp 41)
    (.seq (.reg [⟨some 42, .build 24 #[], none⟩,
      ⟨none, .store 24 (.tmp 4) (.tmp 42), none⟩,
      ⟨some 5, .assign (.const (.int .i64 2)), none⟩])
    .ret)
    .skip))
  (.seq (.draw [0, 0, 2, 7, 0, 0, 32, 127, 255, 511, 0, 2047] [⟨some 43, .move (.tmp 0), none⟩,
    ⟨some 44, .fieldAddr 24 (.tmp 3) 0, none⟩,
    ⟨some 45, .load 3 (.tmp 44), none⟩,
    ⟨some 46, .call ⟨.value (.func 75), #[(.tmp 43), (.tmp 45)], #[22, 3]⟩, none⟩,
    ⟨some 47, .move (.tmp 0), none⟩,
    ⟨some 48, .fieldAddr 24 (.tmp 3) 1, none⟩,
    ⟨some 49, .load 3 (.tmp 48), none⟩,
    ⟨some 50, .call ⟨.value (.func 75), #[(.tmp 47), (.tmp 49)], #[22, 3]⟩, none⟩,
    ⟨some 51, .buildSlice 30 2 #[(0, (.tmp 46)), (1, (.tmp 50))], none⟩,
    ⟨some 52, .call ⟨.value (.func 74), #[(.tmp 51)], #[30]⟩, none⟩,
    ⟨some 8, .alloc 24, none⟩]
    [⟨none, .store 24 (.tmp 8) (.tmp 52), none⟩])
  (.seq (.seq (.reg [⟨some 53, .move (.tmp 0), none⟩,
    ⟨some 54, .call ⟨.builtin .len, #[(.tmp 53)], #[22]⟩, none⟩,
    ⟨some 55, .move (.const (.int .i64 0)), none⟩])
  (.block 0
    (.loop p20l0)))
  (.seq (.reg [⟨some 77, .load 24 (.tmp 8), none⟩,
    ⟨none, .store 24 (.tmp 4) (.tmp 77), none⟩,
    ⟨some 5, .assign (.const (.int .i64 0)), none⟩])
  .ret)))))))
theorem c20 : f20.body.bind (comp f20.ntmps) = some p20 := by kernel_rfl
def p22 : PC :=
  (.seq (.reg [⟨some 3, .box 24 (.tmp 1), none⟩,
    ⟨some 4, .assign (.const (.slice none 0 0)), none⟩,
    ⟨some 5, .assign (.const (.int .i64 0)), none⟩])
  (.seq (.reg [⟨some 6, .move (.tmp 0), none⟩,
    ⟨some 7, .load 24 (.tmp 3), none⟩,
    ⟨some 8, .call ⟨.value (.func 80), #[(.tmp 6), (.tmp 7), (.func 81)], #[22, 24, 109]⟩, none⟩,
    ⟨some 9, .extract (.tmp 8) 0, none⟩,
    ⟨some 10, .extract (.tmp 8) 1, none⟩,
    ⟨some 4, .assign (.tmp 9), none⟩,
    ⟨some 5, .assign (.tmp 10), none⟩])
  .ret))
theorem c22 : f22.body.bind (comp f22.ntmps) = some p22 := by kernel_rfl
def p24 : PC :=
  (.seq (.reg [⟨some 3, .box 24 (.tmp 1), none⟩,
    ⟨some 4, .assign (.const (.slice none 0 0)), none⟩,
    ⟨some 5, .assign (.const (.int .i64 0)), none⟩])
  (.seq (.reg [⟨some 6, .move (.tmp 0), none⟩,
    ⟨some 7, .load 24 (.tmp 3), none⟩,
    ⟨some 8, .call ⟨.value (.func 80), #[(.tmp 6), (.tmp 7), (.func 84)], #[22, 24, 109]⟩, none⟩,
    ⟨some 9, .extract (.tmp 8) 0, none⟩,
    ⟨some 10, .extract (.tmp 8) 1, none⟩,
    ⟨some 4, .assign (.tmp 9), none⟩,
    ⟨some 5, .assign (.tmp 10), none⟩])
  .ret))
theorem c24 : f24.body.bind (comp f24.ntmps) = some p24 := by kernel_rfl
def p26l0 : PC :=
  (.seq (.reg [⟨some 16, .binOp .lss 3 (.tmp 15) (.tmp 14) 3, none⟩])
  (.seq (.cond (.tmp 16)
    .skip
    (.exit 0))
  (.seq (.block 1
    (.seq (.reg [⟨some 17, .move (.tmp 15), none⟩,
      ⟨some 18, .indexAddr 22 (.tmp 13) (.tmp 15), none⟩,
      ⟨some 19, .load 87 (.tmp 18), none⟩,
      ⟨some 4, .alloc 87, none⟩,
      ⟨some 3, .assign (.tmp 17), none⟩,
      ⟨none, .store 87 (.tmp 4) (.tmp 19), none⟩])
    (.seq (.draw [0, 1, 0, 4, 12, 31, 63, 127, 255, 511, 255, 1279, 3327, 8191, 16383, 32767, 65535, 131071, 262143, 524287, 131071, 1179647, 3276799, 8388607, 16777215, 33554431, 67108863, 134217727, 268435455, 536870911, 1073741823, 536870911, 536870911, 4831838207, 15569256447, 32749125631, 67108863999, 137438953471, 274877906943, 549755813887] [⟨some 20, .fieldAddr 87 (.tmp 4) 0, none⟩,
      ⟨some 21, .load 3 (.tmp 20), none⟩,
      ⟨some 22, .fieldAddr 87 (.tmp 4) 1, none⟩,
      ⟨some 23, .fieldAddr 24 (.tmp 22) 0, none⟩,
      ⟨some 24, .load 3 (.tmp 23), none⟩,
      ⟨some 25, .call ⟨.builtin .min, #[(.tmp 21), (.tmp 24)], #[3, 3]⟩, none⟩,
      ⟨some 26, .binOp .lss 3 (.tmp 25) (.const (.int .i64 (-1073741824))) 3, none⟩,
      ⟨some 27, .move (.tmp 26), none⟩,
      ⟨some 28, .fieldAddr 87 (.tmp 4) 0, some ((some 27), false)⟩,
      ⟨some 29, .load 3 (.tmp 28), some ((some 27), false)⟩,
      ⟨some 30, .fieldAddr 87 (.tmp 4) 1, some ((some 27), false)⟩,
      ⟨some 31, .fieldAddr 24 (.tmp 30) 1, some ((some 27), false)⟩,
      ⟨some 32, .load 3 (.tmp 31), some ((some 27), false)⟩,
      ⟨some 33, .call ⟨.builtin .max, #[(.tmp 29), (.tmp 32)], #[3, 3]⟩, some ((some 27), false)⟩,
      ⟨some 34, .binOp .gtr 3 (.tmp 33) (.const (.int .i64 1073741824)) 3, some ((some 27), false)⟩,
      ⟨some 35, .pick (.tmp 27) (.const (.bool true)) (.tmp 34), none⟩,
      ⟨some 36, .move (.tmp 35), none⟩,
      ⟨some 37, .fieldAddr 87 (.tmp 4) 1, some ((some 36), false)⟩,
      ⟨some 38, .fieldAddr 24 (.tmp 37) 0, some ((some 36), false)⟩,
      ⟨some 39, .load 3 (.tmp 38), some ((some 36), false)⟩,
      ⟨some 40, .fieldAddr 87 (.tmp 4) 1, some ((some 36), false)⟩,
      ⟨some 41, .fieldAddr 24 (.tmp 40) 1, some ((some 36), false)⟩,
      ⟨some 42, .load 3 (.tmp 41), some ((some 36), false)⟩,
      ⟨some 43, .binOp .gtr 3 (.tmp 39) (.tmp 42) 3, some ((some 36), false)⟩,
      ⟨some 44, .pick (.tmp 36) (.const (.bool true)) (.tmp 43), none⟩,
      ⟨some 45, .move (.tmp 44), none⟩,
      ⟨some 46, .move (.tmp 3), some ((some 45), false)⟩,
      ⟨some 47, .binOp .gtr 3 (.tmp 46) (.const (.int .i64 0)) 3, some ((some 45), false)⟩,
      ⟨some 48, .move (.tmp 47), some ((some 45), false)⟩,
      ⟨some 49, .fieldAddr 87 (.tmp 4) 0, some ((some 48), true)⟩,
      ⟨some 50, .load 3 (.tmp 49), some ((some 48), true)⟩,
      ⟨some 51, .move (.tmp 0), some ((some 48), true)⟩,
      ⟨some 52, .move (.tmp 3), some ((some 48), true)⟩,
      ⟨some 53, .binOp .sub 3 (.tmp 52) (.const (.int .i64 1)) 3, some ((some 48), true)⟩,
      ⟨some 54, .indexAddr 22 (.tmp 51) (.tmp 53), some ((some 48), true)⟩,
      ⟨some 55, .fieldAddr 87 (.tmp 54) 0, some ((some 48), true)⟩,
      ⟨some 56, .load 3 (.tmp 55), some ((some 48), true)⟩]
      [⟨some 57, .binOp .leq 3 (.tmp 50) (.tmp 56) 3, some ((some 48), true)⟩,
      ⟨some 58, .pick (.tmp 48) (.tmp 57) (.const (.bool false)), some ((some 45), false)⟩,
      ⟨some 59, .pick (.tmp 45) (.const (.bool true)) (.tmp 58), none⟩])
    (.cond (.tmp 59)
      (.seq (.reg [⟨some 2, .assign (.const (.int .i64 13)), none⟩])
      .ret)
      .skip))))
  (.reg [⟨some 60, .binOp .add 3 (.tmp 15) (.const (.int .i64 1)) 3, none⟩,
    ⟨some 15, .move (.tmp 60), none⟩]))))
def p26 : PC :=
  (.seq (.reg [⟨some 2, .assign (.const (.int .i64 0)), none⟩])
  (.seq (.seq (.reg [⟨some 5, .move (.tmp 0), none⟩,
    ⟨some 6, .call ⟨.builtin .len, #[(.tmp 5)], #[22]⟩, none⟩,
    ⟨some 7, .binOp .lss 3 (.tmp 6) (.const (.int .i64 2)) 3, none⟩,
    ⟨some 8, .move (.tmp 7), none⟩,
    ⟨some 9, .move (.tmp 0), some ((some 8), false)⟩,
    ⟨some 10, .call ⟨.builtin .len, #[(.tmp 9)], #[22]⟩, some ((some 8), false)⟩,
    ⟨some 11, .binOp .gtr 3 (.tmp 10) (.const (.int .i64 32)) 3, some ((some 8), false)⟩,
    ⟨some 12, .pick (.tmp 8) (.const (.bool true)) (.tmp 11), none⟩])
  (.cond (.tmp 12)
    (.seq (.reg [⟨some 2, .assign (.const (.int .i64 13)), none⟩])
    .ret)
    .skip))
  (.seq (.seq (.reg [⟨some 13, .move (.tmp 0), none⟩,
    ⟨some 14, .call ⟨.builtin .len, #[(.tmp 13)], #[22]⟩, none⟩,
    ⟨some 15, .move (.const (.int .i64 0)), none⟩])
  (.block 0
    (.loop p26l0)))
  (.seq (.reg [⟨some 2, .assign (.const (.int .i64 0)), none⟩])
  .ret))))
theorem c26 : f26.body.bind (comp f26.ntmps) = some p26 := by kernel_rfl
def p28l0 : PC :=
  (.seq (.seq (.reg [⟨some 11, .move (.tmp 5), none⟩,
    ⟨some 12, .move (.tmp 0), none⟩,
    ⟨some 13, .call ⟨.builtin .len, #[(.tmp 12)], #[30]⟩, none⟩,
    ⟨some 14, .binOp .lss 3 (.tmp 11) (.tmp 13) 3, none⟩])
  (.cond (.tmp 14)
    .skip
    (.exit 0)))
  (.seq (.block 1
    (.seq (.draw [0, 0, 3, 7, 0, 0, 48, 112, 255] [⟨some 17, .move (.tmp 0), none⟩,
      ⟨some 18, .move (.tmp 5), none⟩,
      ⟨some 19, .indexAddr 30 (.tmp 17) (.tmp 18), none⟩,
      ⟨some 20, .load 24 (.tmp 19), none⟩,
      ⟨some 21, .move (.tmp 1), none⟩,
      ⟨some 22, .move (.tmp 5), none⟩,
      ⟨some 23, .indexAddr 30 (.tmp 21) (.tmp 22), none⟩,
      ⟨some 24, .load 24 (.tmp 23), none⟩]
      [⟨some 25, .binOp .neq 24 (.tmp 20) (.tmp 24) 24, none⟩])
    (.cond (.tmp 25)
      (.seq (.reg [⟨some 4, .assign (.const (.bool false)), none⟩])
      .ret)
      .skip)))
  (.reg [⟨some 15, .move (.tmp 5), none⟩,
    ⟨some 16, .binOp .add 3 (.tmp 15) (.const (.int .i64 1)) 3, none⟩,
    ⟨some 5, .assign (.tmp 16), none⟩])))
def p28 : PC :=
  (.seq (.reg [⟨some 4, .assign (.const (.bool false)), none⟩])
  (.seq (.seq (.reg [⟨some 6, .move (.tmp 0), none⟩,
    ⟨some 7, .call ⟨.builtin .len, #[(.tmp 6)], #[30]⟩, none⟩,
    ⟨some 8, .move (.tmp 1), none⟩,
    ⟨some 9, .call ⟨.builtin .len, #[(.tmp 8)], #[30]⟩, none⟩,
    ⟨some 10, .binOp .neq 3 (.tmp 7) (.tmp 9) 3, none⟩])
  (.cond (.tmp 10)
    (.seq (.reg [⟨some 4, .assign (.const (.bool false)), none⟩])
    .ret)
    .skip))
  (.seq (.seq (.reg [⟨some 5, .assign (.const (.int .i64 0)), none⟩])
  (.block 0
    (.loop p28l0)))
  (.seq (.reg [⟨some 4, .assign (.const (.bool true)), none⟩])
  .ret))))
theorem c28 : f28.body.bind (comp f28.ntmps) = some p28 := by kernel_rfl
def p30l0 : PC :=
  (.seq (.reg [⟨some 27, .binOp .lss 3 (.tmp 26) (.const (.int .i64 8)) 3, none⟩])
  (.seq (.cond (.tmp 27)
    .skip
    (.exit 1))
  (.seq (.block 2
    (.seq (.reg [⟨some 28, .move (.tmp 26), none⟩,
      ⟨some 9, .assign (.tmp 28), none⟩])
    (.seq (.drawW [0, 1, 0, 4, 15, 0, 32, 0, 128, 480, 0, 1024, 0, 4096, 15360, 0, 0, 0, 229407, 492543, 1048575] [⟨some 29, .fieldAddr 24 (.tmp 3) 0, none⟩,
      ⟨some 30, .load 3 (.tmp 29), none⟩,
      ⟨some 31, .fieldAddr 24 (.tmp 3) 1, none⟩,
      ⟨some 32, .load 3 (.tmp 31), none⟩,
      ⟨some 33, .build 114 #[(0, (.tmp 30)), (1, (.tmp 32))], none⟩,
      ⟨some 34, .fieldAddr 24 (.tmp 4) 0, none⟩,
      ⟨some 35, .load 3 (.tmp 34), none⟩,
      ⟨some 36, .fieldAddr 24 (.tmp 4) 1, none⟩,
      ⟨some 37, .load 3 (.tmp 36), none⟩,
      ⟨some 38, .build 114 #[(0, (.tmp 35)), (1, (.tmp 37))], none⟩,
      ⟨some 39, .fieldAddr 24 (.tmp 5) 0, none⟩,
      ⟨some 40, .load 3 (.tmp 39), none⟩,
      ⟨some 41, .fieldAddr 24 (.tmp 5) 1, none⟩,
      ⟨some 42, .load 3 (.tmp 41), none⟩,
      ⟨some 43, .build 114 #[(0, (.tmp 40)), (1, (.tmp 42))], none⟩,
      ⟨some 10, .alloc 114, none⟩,
      ⟨some 11, .alloc 114, none⟩,
      ⟨some 12, .alloc 114, none⟩,
      ⟨none, .store 114 (.tmp 10) (.tmp 33), none⟩,
      ⟨none, .store 114 (.tmp 11) (.tmp 38), none⟩]
      [⟨none, .store 114 (.tmp 12) (.tmp 43), none⟩])
    (.draw [0, 0, 2, 6, 14, 0, 32, 96, 224, 480, 0, 1024, 3072, 7168, 16382, 32767, 65535] [⟨some 44, .move (.tmp 9), none⟩,
      ⟨some 45, .move (.tmp 9), none⟩,
      ⟨some 46, .binOp .and 3 (.tmp 45) (.const (.int .i64 1)) 3, none⟩,
      ⟨some 47, .indexAddr 114 (.tmp 10) (.tmp 46), none⟩,
      ⟨some 48, .load 3 (.tmp 47), none⟩,
      ⟨some 49, .move (.tmp 9), none⟩,
      ⟨some 50, .binOp .shr 3 (.tmp 49) (.const (.int .u64 1)) 116, none⟩,
      ⟨some 51, .binOp .and 3 (.tmp 50) (.const (.int .i64 1)) 3, none⟩,
      ⟨some 52, .indexAddr 114 (.tmp 11) (.tmp 51), none⟩,
      ⟨some 53, .load 3 (.tmp 52), none⟩,
      ⟨some 54, .move (.tmp 9), none⟩,
      ⟨some 55, .binOp .shr 3 (.tmp 54) (.const (.int .u64 2)) 116, none⟩,
      ⟨some 56, .indexAddr 114 (.tmp 12) (.tmp 55), none⟩,
      ⟨some 57, .load 3 (.tmp 56), none⟩,
      ⟨some 58, .call ⟨.value (.func 86), #[(.tmp 48), (.tmp 53), (.tmp 57)], #[3, 3, 3]⟩, none⟩]
      [⟨some 59, .indexAddr 113 (.tmp 8) (.tmp 44), none⟩,
      ⟨none, .store 24 (.tmp 59) (.tmp 58), none⟩]))))
  (.reg [⟨some 60, .binOp .add 3 (.tmp 26) (.const (.int .i64 1)) 3, none⟩,
    ⟨some 26, .move (.tmp 60), none⟩]))))
def p30 : PC :=
  (.seq (.reg [⟨some 3, .box 24 (.tmp 0), none⟩,
    ⟨some 4, .box 24 (.tmp 1), none⟩,
    ⟨some 5, .box 24 (.tmp 2), none⟩,
    ⟨some 6, .alloc 24, none⟩,
    ⟨some 7, .assign (.const (.int .i64 0)), none⟩])
  (.seq (.block 0
    (.seq (.reg [⟨some 14, .load 24 (.tmp 3), none⟩,
      ⟨some 15, .load 24 (.tmp 4), none⟩,
      ⟨some 16, .load 24 (.tmp 5), none⟩,
      ⟨some 17, .buildSlice 30 3 #[(0, (.tmp 14)), (1, (.tmp 15)), (2, (.tmp 16))], none⟩,
      ⟨some 18, .call ⟨.value (.func 85), #[(.tmp 17)], #[30]⟩, none⟩,
      ⟨some 19, .unOp .not 4 (.tmp 18), none⟩,
      ⟨some 13, .assign (.tmp 19), none⟩])
    (.cond (.tmp 13)
      (.seq (.reg [⟨some 20, .build 24 #[], none⟩,
        ⟨none, .store 24 (.tmp 6) (.tmp 20), none⟩,
        ⟨some 7, .assign (.const (.int .i64 10)), none⟩])
      .ret)
      (.seq (.reg [⟨some 22, .fieldAddr 24 (.tmp 5) 0, none⟩,
        ⟨some 23, .load 3 (.tmp 22), none⟩,
        ⟨some 24, .binOp .lss 3 (.tmp 23) (.const (.int .i64 1)) 3, none⟩,
        ⟨some 21, .assign (.tmp 24), none⟩])
      (.cond (.tmp 21)
        (.seq (.reg [⟨some 25, .build 24 #[], none⟩,
          ⟨none, .store 24 (.tmp 6) (.tmp 25), none⟩,
          ⟨some 7, .assign (.const (.int .i64 12)), none⟩])
        .ret)
        .skip)))))
  (.seq (.reg [⟨some 8, .alloc 113, none⟩])
  (.seq (.seq (.reg [⟨some 26, .move (.const (.int .i64 0)), none⟩])
  (.block 1
    (.loop p30l0)))
  (.seq (.reg [⟨some 61, .slice 113 (.tmp 8) none none none, none⟩,
    ⟨some 62, .call ⟨.value (.func 74), #[(.tmp 61)], #[30]⟩, none⟩,
    ⟨some 63, .call ⟨.value (.func 87), #[(.tmp 62)], #[24]⟩, none⟩,
    ⟨some 64, .extract (.tmp 63) 0, none⟩,
    ⟨some 65, .extract (.tmp 63) 1, none⟩,
    ⟨none, .store 24 (.tmp 6) (.tmp 64), none⟩,
    ⟨some 7, .assign (.tmp 65), none⟩])
  .ret)))))
theorem c30 : f30.body.bind (comp f30.ntmps) = some p30 := by kernel_rfl
def p32 : PC :=
  (.seq (.reg [⟨some 1, .box 24 (.tmp 0), none⟩,
    ⟨some 2, .alloc 24, none⟩,
    ⟨some 3, .assign (.const (.int .i64 0)), none⟩])
  (.seq (.block 0
    (.seq (.reg [⟨some 6, .load 24 (.tmp 1), none⟩,
      ⟨some 7, .buildSlice 30 1 #[(0, (.tmp 6))], none⟩,
      ⟨some 8, .call ⟨.value (.func 85), #[(.tmp 7)], #[30]⟩, none⟩,
      ⟨some 9, .unOp .not 4 (.tmp 8), none⟩,
      ⟨some 5, .assign (.tmp 9), none⟩])
    (.cond (.tmp 5)
      (.seq (.reg [⟨some 10, .build 24 #[], none⟩,
        ⟨none, .store 24 (.tmp 2) (.tmp 10), none⟩,
        ⟨some 3, .assign (.const (.int .i64 10)), none⟩])
      .ret)
      (.seq (.reg [⟨some 12, .fieldAddr 24 (.tmp 1) 0, none⟩,
        ⟨some 13, .load 3 (.tmp 12), none⟩,
        ⟨some 14, .binOp .lss 3 (.tmp 13) (.const (.int .i64 0)) 3, none⟩,
        ⟨some 11, .assign (.tmp 14), none⟩])
      (.cond (.tmp 11)
        (.seq (.reg [⟨some 15, .build 24 #[], none⟩,
          ⟨none, .store 24 (.tmp 2) (.tmp 15), none⟩,
          ⟨some 3, .assign (.const (.int .i64 2)), none⟩])
        .ret)
        .skip)))))
  (.seq (.draw [0, 1, 3, 0, 8, 31, 63, 0, 255] [⟨some 16, .fieldAddr 24 (.tmp 1) 0, none⟩,
    ⟨some 17, .load 3 (.tmp 16), none⟩,
    ⟨some 18, .call ⟨.value (.func 90), #[(.tmp 17)], #[3]⟩, none⟩,
    ⟨some 19, .fieldAddr 24 (.tmp 1) 1, none⟩,
    ⟨some 20, .load 3 (.tmp 19), none⟩,
    ⟨some 21, .call ⟨.value (.func 90), #[(.tmp 20)], #[3]⟩, none⟩,
    ⟨some 22, .build 24 #[(0, (.tmp 18)), (1, (.tmp 21))], none⟩,
    ⟨some 4, .alloc 24, none⟩]
    [⟨none, .store 24 (.tmp 4) (.tmp 22), none⟩])
  (.seq (.seq (.reg [⟨some 23, .fieldAddr 24 (.tmp 4) 1, none⟩,
    ⟨some 24, .load 3 (.tmp 23), none⟩,
    ⟨some 25, .fieldAddr 24 (.tmp 4) 1, none⟩,
    ⟨some 26, .load 3 (.tmp 25), none⟩,
    ⟨some 27, .binOp .mul 3 (.tmp 24) (.tmp 26) 3, none⟩,
    ⟨some 28, .fieldAddr 24 (.tmp 1) 1, none⟩,
    ⟨some 29, .load 3 (.tmp 28), none⟩,
    ⟨some 30, .binOp .neq 3 (.tmp 27) (.tmp 29) 3, none⟩])
  (.cond (.tmp 30)
    (.reg [⟨some 31, .fieldAddr 24 (.tmp 4) 1, none⟩,
      ⟨some 32, .load 3 (.tmp 31), none⟩,
      ⟨some 33, .binOp .add 3 (.tmp 32) (.const (.int .i64 1)) 3, none⟩,
      ⟨some 34, .fieldAddr 24 (.tmp 4) 1, none⟩,
      ⟨none, .store 3 (.tmp 34) (.tmp 33), none⟩])
    .skip))
  (.seq (.reg [⟨some 35, .load 24 (.tmp 4), none⟩,
    ⟨none, .store 24 (.tmp 2) (.tmp 35), none⟩,
    ⟨some 3, .assign (.const (.int .i64 0)), none⟩])
  .ret)))))
theorem c32 : f32.body.bind (comp f32.ntmps) = some p32 := by kernel_rfl
def p38 : PC :=
  (.seq (.reg [⟨some 2, .box 24 (.tmp 0), none⟩,
    ⟨some 3, .box 24 (.tmp 1), none⟩,
    ⟨some 4, .alloc 24, none⟩,
    ⟨some 5, .assign (.const (.int .i64 0)), none⟩])
  (.seq (.reg [⟨some 6, .load 24 (.tmp 2), none⟩,
    ⟨some 7, .load 24 (.tmp 3), none⟩,
    ⟨some 8, .build 24 #[(0, (.const (.int .i64 1))), (1, (.const (.int .i64 1)))], none⟩,
    ⟨some 9, .call ⟨.value (.func 30), #[(.tmp 6), (.tmp 7), (.tmp 8)], #[24, 24, 24]⟩, none⟩,
    ⟨some 10, .extract (.tmp 9) 0, none⟩,
    ⟨some 11, .extract (.tmp 9) 1, none⟩,
    ⟨none, .store 24 (.tmp 4) (.tmp 10), none⟩,
    ⟨some 5, .assign (.tmp 11), none⟩])
  .ret))
theorem c38 : f38.body.bind (comp f38.ntmps) = some p38 := by kernel_rfl
def p40 : PC :=
  (.seq (.reg [⟨some 2, .box 24 (.tmp 0), none⟩,
    ⟨some 3, .box 24 (.tmp 1), none⟩,
    ⟨some 4, .alloc 24, none⟩,
    ⟨some 5, .assign (.const (.int .i64 0)), none⟩])
  (.seq (.seq (.reg [⟨some 7, .load 24 (.tmp 2), none⟩,
    ⟨some 8, .load 24 (.tmp 3), none⟩,
    ⟨some 9, .buildSlice 30 2 #[(0, (.tmp 7)), (1, (.tmp 8))], none⟩,
    ⟨some 10, .call ⟨.value (.func 85), #[(.tmp 9)], #[30]⟩, none⟩,
    ⟨some 11, .unOp .not 4 (.tmp 10), none⟩])
  (.cond (.tmp 11)
    (.seq (.reg [⟨some 12, .build 24 #[], none⟩,
      ⟨none, .store 24 (.tmp 4) (.tmp 12), none⟩,
      ⟨some 5, .assign (.const (.int .i64 10)), none⟩])
    .ret)
    .skip))
  (.seq (.seq (.reg [⟨some 13, .fieldAddr 24 (.tmp 2) 0, none⟩,
    ⟨some 14, .load 3 (.tmp 13), none⟩,
    ⟨some 15, .fieldAddr 24 (.tmp 3) 0, none⟩,
    ⟨some 16, .load 3 (.tmp 15), none⟩,
    ⟨some 17, .call ⟨.builtin .max, #[(.tmp 14), (.tmp 16)], #[3, 3]⟩, none⟩,
    ⟨some 18, .fieldAddr 24 (.tmp 2) 1, none⟩,
    ⟨some 19, .load 3 (.tmp 18), none⟩,
    ⟨some 20, .fieldAddr 24 (.tmp 3) 1, none⟩,
    ⟨some 21, .load 3 (.tmp 20), none⟩,
    ⟨some 22, .call ⟨.builtin .min, #[(.tmp 19), (.tmp 21)], #[3, 3]⟩, none⟩,
    ⟨some 23, .build 24 #[(0, (.tmp 17)), (1, (.tmp 22))], none⟩,
    ⟨some 6, .alloc 24, none⟩,
    ⟨none, .store 24 (.tmp 6) (.tmp 23), none⟩])
  (.seq (.reg [⟨some 24, .fieldAddr 24 (.tmp 6) 0, none⟩,
    ⟨some 25, .load 3 (.tmp 24), none⟩,
    ⟨some 26, .fieldAddr 24 (.tmp 6) 1, none⟩,
    ⟨some 27, .load 3 (.tmp 26), none⟩,
    ⟨some 28, .binOp .leq 3 (.tmp 25) (.tmp 27) 3, none⟩])
  (.cond (.tmp 28)
    (.seq (.reg [⟨some 29, .load 24 (.tmp 6), none⟩,
      ⟨none, .store 24 (.tmp 4) (.tmp 29), none⟩,
      ⟨some 5, .assign (.const (.int .i64 0)), none⟩])
    .ret)
    .skip)))
  (.seq (.reg [⟨some 30, .build 24 #[], none⟩,
    ⟨none, .store 24 (.tmp 4) (.tmp 30), none⟩,
    ⟨some 5, .assign (.const (.int .i64 6)), none⟩])
  .ret))))
theorem c40 : f40.body.bind (comp f40.ntmps) = some p40 := by kernel_rfl
def p42 : PC :=
  (.seq (.reg [⟨some 2, .box 24 (.tmp 0), none⟩,
    ⟨some 3, .box 24 (.tmp 1), none⟩,
    ⟨some 4, .alloc 24, none⟩,
    ⟨some 5, .assign (.const (.int .i64 0)), none⟩])
  (.seq (.seq (.reg [⟨some 6, .load 24 (.tmp 2), none⟩,
    ⟨some 7, .load 24 (.tmp 3), none⟩,
    ⟨some 8, .buildSlice 30 2 #[(0, (.tmp 6)), (1, (.tmp 7))], none⟩,
    ⟨some 9, .call ⟨.value (.func 85), #[(.tmp 8)], #[30]⟩, none⟩,
    ⟨some 10, .unOp .not 4 (.tmp 9), none⟩])
  (.cond (.tmp 10)
    (.seq (.reg [⟨some 11, .build 24 #[], none⟩,
      ⟨none, .store 24 (.tmp 4) (.tmp 11), none⟩,
      ⟨some 5, .assign (.const (.int .i64 10)), none⟩])
    .ret)
    .skip))
  (.seq (.reg [⟨some 12, .load 24 (.tmp 2), none⟩,
    ⟨some 13, .load 24 (.tmp 3), none⟩,
    ⟨some 14, .buildSlice 30 2 #[(0, (.tmp 12)), (1, (.tmp 13))], none⟩,
    ⟨some 15, .call ⟨.value (.func 74), #[(.tmp 14)], #[30]⟩, none⟩,
    ⟨none, .store 24 (.tmp 4) (.tmp 15), none⟩,
    ⟨some 5, .assign (.const (.int .i64 0)), none⟩])
  .ret)))
theorem c42 : f42.body.bind (comp f42.ntmps) = some p42 := by kernel_rfl
def p46 : PC :=
  (.seq (.reg [⟨some 1, .box 24 (.tmp 0), none⟩,
    ⟨some 2, .assign (.const (.int .i64 0)), none⟩])
  (.seq (.seq (.reg [⟨some 3, .load 24 (.tmp 1), none⟩,
    ⟨some 4, .buildSlice 30 1 #[(0, (.tmp 3))], none⟩,
    ⟨some 5, .call ⟨.value (.func 85), #[(.tmp 4)], #[30]⟩, none⟩,
    ⟨some 6, .unOp .not 4 (.tmp 5), none⟩])
  (.cond (.tmp 6)
    (.seq (.reg [⟨some 2, .assign (.const (.int .i64 10)), none⟩])
    .ret)
    .skip))
  (.seq (.reg [⟨some 2, .assign (.const (.int .i64 0)), none⟩])
  .ret)))
theorem c46 : f46.body.bind (comp f46.ntmps) = some p46 := by kernel_rfl
def p49 : PC :=
  (.seq (.reg [⟨some 2, .assign (.const (.slice none 0 0)), none⟩,
    ⟨some 3, .assign (.const (.int .i64 0)), none⟩])
  (.seq (.block 0
    (.seq (.reg [⟨some 5, .move (.tmp 0), none⟩,
      ⟨some 6, .call ⟨.builtin .len, #[(.tmp 5)], #[54]⟩, none⟩,
      ⟨some 7, .binOp .gtr 3 (.tmp 6) (.const (.int .i64 64)) 3, none⟩,
      ⟨some 4, .assign (.tmp 7), none⟩])
    (.cond (.tmp 4)
      (.seq (.reg [⟨some 2, .assign (.const (.slice none 0 0)), none⟩,
        ⟨some 3, .assign (.const (.int .i64 4)), none⟩])
      .ret)
      (.seq (.reg [⟨some 9, .move (.tmp 0), none⟩,
        ⟨some 10, .call ⟨.builtin .len, #[(.tmp 9)], #[54]⟩, none⟩,
        ⟨some 11, .binOp .lss 3 (.tmp 10) (.const (.int .i64 1)) 3, none⟩,
        ⟨some 12, .move (.tmp 11), none⟩,
        ⟨some 13, .move (.tmp 0), some ((some 12), false)⟩,
        ⟨some 14, .call ⟨.value (.func 92), #[(.tmp 13)], #[54]⟩, some ((some 12), false)⟩,
        ⟨some 15, .unOp .not 4 (.tmp 14), some ((some 12), false)⟩,
        ⟨some 16, .pick (.tmp 12) (.const (.bool true)) (.tmp 15), none⟩,
        ⟨some 8, .assign (.tmp 16), none⟩])
      (.cond (.tmp 8)
        (.seq (.reg [⟨some 2, .assign (.const (.slice none 0 0)), none⟩,
          ⟨some 3, .assign (.const (.int .i64 2)), none⟩])
        .ret)
        .skip)))))
  (.seq (.reg [⟨some 17, .move (.tmp 0), none⟩,
    ⟨some 18, .call ⟨.value (.func 93), #[(.tmp 17)], #[54]⟩, none⟩,
    ⟨some 2, .assign (.tmp 18), none⟩,
    ⟨some 3, .assign (.const (.int .i64 0)), none⟩])
  .ret)))
theorem c49 : f49.body.bind (comp f49.ntmps) = some p49 := by kernel_rfl
def p51 : PC :=
  (.seq (.reg [⟨some 3, .box 56 (.tmp 1), none⟩,
    ⟨some 4, .assign (.const (.bool false)), none⟩,
    ⟨some 5, .assign (.const (.int .i64 0)), none⟩])
  (.seq (.seq (.reg [⟨some 7, .move (.tmp 0), none⟩,
    ⟨some 8, .call ⟨.value (.func 55), #[(.tmp 7)], #[54]⟩, none⟩,
    ⟨some 6, .assign (.tmp 8), none⟩])
  (.seq (.reg [⟨some 9, .move (.tmp 6), none⟩,
    ⟨some 10, .binOp .neq 25 (.tmp 9) (.const (.int .i64 0)) 25, none⟩])
  (.cond (.tmp 10)
    (.seq (.reg [⟨some 11, .move (.tmp 6), none⟩,
      ⟨some 4, .assign (.const (.bool false)), none⟩,
      ⟨some 5, .assign (.tmp 11), none⟩])
    .ret)
    .skip)))
  (.seq (.reg [⟨some 12, .load 56 (.tmp 3), none⟩,
    ⟨some 13, .buildSlice 54 1 #[(0, (.tmp 12))], none⟩,
    ⟨some 14, .call ⟨.value (.func 92), #[(.tmp 13)], #[54]⟩, none⟩,
    ⟨some 15, .move (.tmp 14), none⟩,
    ⟨some 16, .move (.tmp 0), some ((some 15), true)⟩,
    ⟨some 17, .load 56 (.tmp 3), some ((some 15), true)⟩,
    ⟨some 18, .call ⟨.value (.func 96), #[(.tmp 16), (.tmp 17)], #[54, 56]⟩, some ((some 15), true)⟩,
    ⟨some 19, .pick (.tmp 15) (.tmp 18) (.const (.bool false)), none⟩,
    ⟨some 4, .assign (.tmp 19), none⟩,
    ⟨some 5, .assign (.const (.int .i64 0)), none⟩])
  .ret)))
theorem c51 : f51.body.bind (comp f51.ntmps) = some p51 := by kernel_rfl
def p55 : PC :=
  (.seq (.reg [⟨some 2, .assign (.const (.int .i64 0)), none⟩])
  (.seq (.seq (.reg [⟨some 3, .move (.tmp 0), none⟩,
    ⟨some 4, .call ⟨.builtin .len, #[(.tmp 3)], #[54]⟩, none⟩,
    ⟨some 5, .binOp .lss 3 (.tmp 4) (.const (.int .i64 1)) 3, none⟩,
    ⟨some 6, .move (.tmp 5), none⟩,
    ⟨some 7, .move (.tmp 0), some ((some 6), false)⟩,
    ⟨some 8, .call ⟨.builtin .len, #[(.tmp 7)], #[54]⟩, some ((some 6), false)⟩,
    ⟨some 9, .binOp .gtr 3 (.tmp 8) (.const (.int .i64 64)) 3, some ((some 6), false)⟩,
    ⟨some 10, .pick (.tmp 6) (.const (.bool true)) (.tmp 9), none⟩,
    ⟨some 11, .move (.tmp 10), none⟩,
    ⟨some 12, .move (.tmp 0), some ((some 11), false)⟩,
    ⟨some 13, .call ⟨.value (.func 92), #[(.tmp 12)], #[54]⟩, some ((some 11), false)⟩,
    ⟨some 14, .unOp .not 4 (.tmp 13), some ((some 11), false)⟩,
    ⟨some 15, .pick (.tmp 11) (.const (.bool true)) (.tmp 14), none⟩,
    ⟨some 16, .move (.tmp 15), none⟩,
    ⟨some 17, .move (.tmp 0), some ((some 16), false)⟩,
    ⟨some 18, .call ⟨.value (.func 93), #[(.tmp 17)], #[54]⟩, some ((some 16), false)⟩,
    ⟨some 19, .move (.tmp 0), some ((some 16), false)⟩,
    ⟨some 20, .call ⟨.value (.func 101), #[(.tmp 18), (.tmp 19)], #[54, 54]⟩, some ((some 16), false)⟩,
    ⟨some 21, .unOp .not 4 (.tmp 20), some ((some 16), false)⟩,
    ⟨some 22, .pick (.tmp 16) (.const (.bool true)) (.tmp 21), none⟩])
  (.cond (.tmp 22)
    (.seq (.reg [⟨some 2, .assign (.const (.int .i64 14)), none⟩])
    .ret)
    .skip))
  (.seq (.reg [⟨some 2, .assign (.const (.int .i64 0)), none⟩])
  .ret)))
theorem c55 : f55.body.bind (comp f55.ntmps) = some p55 := by kernel_rfl
def p57l0 : PC :=
  (.seq (.seq (.reg [⟨some 11, .move (.tmp 5), none⟩,
    ⟨some 12, .move (.tmp 0), none⟩,
    ⟨some 13, .call ⟨.builtin .len, #[(.tmp 12)], #[54]⟩, none⟩,
    ⟨some 14, .binOp .lss 3 (.tmp 11) (.tmp 13) 3, none⟩])
  (.cond (.tmp 14)
    .skip
    (.exit 0)))
  (.seq (.block 1
    (.seq (.draw [0, 0, 3, 7, 0, 0, 48, 112, 255] [⟨some 17, .move (.tmp 0), none⟩,
      ⟨some 18, .move (.tmp 5), none⟩,
      ⟨some 19, .indexAddr 54 (.tmp 17) (.tmp 18), none⟩,
      ⟨some 20, .load 56 (.tmp 19), none⟩,
      ⟨some 21, .move (.tmp 1), none⟩,
      ⟨some 22, .move (.tmp 5), none⟩,
      ⟨some 23, .indexAddr 54 (.tmp 21) (.tmp 22), none⟩,
      ⟨some 24, .load 56 (.tmp 23), none⟩]
      [⟨some 25, .binOp .neq 56 (.tmp 20) (.tmp 24) 56, none⟩])
    (.cond (.tmp 25)
      (.seq (.reg [⟨some 4, .assign (.const (.bool false)), none⟩])
      .ret)
      .skip)))
  (.reg [⟨some 15, .move (.tmp 5), none⟩,
    ⟨some 16, .binOp .add 3 (.tmp 15) (.const (.int .i64 1)) 3, none⟩,
    ⟨some 5, .assign (.tmp 16), none⟩])))
def p57 : PC :=
  (.seq (.reg [⟨some 4, .assign (.const (.bool false)), none⟩])
  (.seq (.seq (.reg [⟨some 6, .move (.tmp 0), none⟩,
    ⟨some 7, .call ⟨.builtin .len, #[(.tmp 6)], #[54]⟩, none⟩,
    ⟨some 8, .move (.tmp 1), none⟩,
    ⟨some 9, .call ⟨.builtin .len, #[(.tmp 8)], #[54]⟩, none⟩,
    ⟨some 10, .binOp .neq 3 (.tmp 7) (.tmp 9) 3, none⟩])
  (.cond (.tmp 10)
    (.seq (.reg [⟨some 4, .assign (.const (.bool false)), none⟩])
    .ret)
    .skip))
  (.seq (.seq (.reg [⟨some 5, .assign (.const (.int .i64 0)), none⟩])
  (.block 0
    (.loop p57l0)))
  (.seq (.reg [⟨some 4, .assign (.const (.bool true)), none⟩])
  .ret))))
theorem c57 : f57.body.bind (comp f57.ntmps) = some p57 := by kernel_rfl
def p58 : PC :=
  (.seq (.reg [⟨some 0, .assign (.const (.bool false)), none⟩])
  (.seq (.reg [⟨some 14, .call ⟨.value (.func 69), #[(.const (.int .i64 1)), (.const (.int .i64 2))], #[3, 3]⟩, none⟩,
    ⟨some 15, .call ⟨.value (.func 69), #[(.const (.int .i64 3)), (.const (.int .i64 3))], #[3, 3]⟩, none⟩,
    ⟨some 16, .call ⟨.value (.func 69), #[(.const (.int .i64 2)), (.const (.int .i64 7))], #[3, 3]⟩, none⟩,
    ⟨some 17, .call ⟨.value (.func 30), #[(.tmp 14), (.tmp 15), (.tmp 16)], #[24, 24, 24]⟩, none⟩,
    ⟨some 13, .move (.tmp 17), none⟩,
    ⟨some 18, .extract (.tmp 13) 0, none⟩,
    ⟨some 19, .extract (.tmp 13) 1, none⟩,
    ⟨some 1, .alloc 24, none⟩,
    ⟨none, .store 24 (.tmp 1) (.tmp 18), none⟩,
    ⟨some 2, .assign (.tmp 19), none⟩])
  (.seq (.reg [⟨some 21, .call ⟨.value (.func 69), #[(.const (.int .i64 (-2))), (.const (.int .i64 3))], #[3, 3]⟩, none⟩,
    ⟨some 22, .call ⟨.value (.func 69), #[(.const (.int .i64 (-5))), (.const (.int .i64 4))], #[3, 3]⟩, none⟩,
    ⟨some 23, .call ⟨.value (.func 38), #[(.tmp 21), (.tmp 22)], #[24, 24]⟩, none⟩,
    ⟨some 20, .move (.tmp 23), none⟩,
    ⟨some 24, .extract (.tmp 20) 0, none⟩,
    ⟨some 25, .extract (.tmp 20) 1, none⟩,
    ⟨some 3, .alloc 24, none⟩,
    ⟨none, .store 24 (.tmp 3) (.tmp 24), none⟩,
    ⟨some 4, .assign (.tmp 25), none⟩])
  (.seq (.reg [⟨some 27, .call ⟨.value (.func 72), #[], #[]⟩, none⟩,
    ⟨some 28, .call ⟨.value (.func 69), #[(.const (.int .i64 5)), (.const (.int .i64 14))], #[3, 3]⟩, none⟩,
    ⟨some 29, .call ⟨.value (.func 20), #[(.tmp 27), (.tmp 28)], #[22, 24]⟩, none⟩,
    ⟨some 26, .move (.tmp 29), none⟩,
    ⟨some 30, .extract (.tmp 26) 0, none⟩,
    ⟨some 31, .extract (.tmp 26) 1, none⟩,
    ⟨some 5, .alloc 24, none⟩,
    ⟨none, .store 24 (.tmp 5) (.tmp 30), none⟩,
    ⟨some 6, .assign (.tmp 31), none⟩])
  (.seq (.reg [⟨some 33, .call ⟨.value (.func 72), #[], #[]⟩, none⟩,
    ⟨some 34, .call ⟨.value (.func 69), #[(.const (.int .i64 20)), (.const (.int .i64 30))], #[3, 3]⟩, none⟩,
    ⟨some 35, .call ⟨.value (.func 22), #[(.tmp 33), (.tmp 34)], #[22, 24]⟩, none⟩,
    ⟨some 32, .move (.tmp 35), none⟩,
    ⟨some 36, .extract (.tmp 32) 0, none⟩,
    ⟨some 37, .extract (.tmp 32) 1, none⟩,
    ⟨some 7, .assign (.tmp 36), none⟩,
    ⟨some 8, .assign (.tmp 37), none⟩])
  (.seq (.reg [⟨some 39, .build 56 #[(0, (.const (.int .i64 2))), (1, (.const (.int .i64 2)))], none⟩,
    ⟨some 40, .build 56 #[], none⟩,
    ⟨some 41, .build 56 #[(0, (.const (.int .i64 4)))], none⟩,
    ⟨some 42, .build 56 #[(0, (.const (.int .i64 2))), (1, (.const (.int .i64 1)))], none⟩,
    ⟨some 43, .build 56 #[(1, (.const (.int .i64 4)))], none⟩,
    ⟨some 44, .build 56 #[(0, (.const (.int .i64 4))), (1, (.const (.int .i64 4)))], none⟩,
    ⟨some 45, .build 56 #[(0, (.const (.int .i64 2)))], none⟩,
    ⟨some 46, .buildSlice 54 7 #[(0, (.tmp 39)), (1, (.tmp 40)), (2, (.tmp 41)), (3, (.tmp 42)), (4, (.tmp 43)), (5, (.tmp 44)), (6, (.tmp 45))], none⟩,
    ⟨some 47, .call ⟨.value (.func 49), #[(.tmp 46)], #[54]⟩, none⟩,
    ⟨some 38, .move (.tmp 47), none⟩,
    ⟨some 48, .extract (.tmp 38) 0, none⟩,
    ⟨some 49, .extract (.tmp 38) 1, none⟩,
    ⟨some 9, .assign (.tmp 48), none⟩,
    ⟨some 10, .assign (.tmp 49), none⟩])
  (.seq (.reg [⟨some 51, .call ⟨.value (.func 73), #[], #[]⟩, none⟩,
    ⟨some 52, .call ⟨.value (.func 60), #[(.tmp 51), (.const (.int .i64 1)), (.const (.int .i64 (-2)))], #[54, 3, 3]⟩, none⟩,
    ⟨some 50, .move (.tmp 52), none⟩,
    ⟨some 53, .extract (.tmp 50) 0, none⟩,
    ⟨some 54, .extract (.tmp 50) 1, none⟩,
    ⟨some 11, .assign (.tmp 53), none⟩,
    ⟨some 12, .assign (.tmp 54), none⟩])
  (.seq (.draw [0, 1, 3, 7, 7, 31, 63, 127, 255, 511, 1023, 2047, 4095, 4095, 16383, 32767, 65535, 131071, 262143, 524287, 1048575, 2097151, 2097151, 8388607, 16777215, 33554431, 67108863, 134217727, 268435455, 536870911, 1073741823, 1073741823, 3221225471, 8589934591, 17179869183, 34359738367, 68719476735, 137438953471, 274877906943, 549755813887, 1099511627775, 1099511627775, 4398046511103, 8796093022207, 17592186044415, 35184372088831, 70368744177663, 140737488355327, 281474976710655, 562949953421311, 1125899906842623, 2251799813685247, 4503599627370495] [⟨some 55, .move (.tmp 2), none⟩,
    ⟨some 56, .binOp .eql 25 (.tmp 55) (.const (.int .i64 0)) 25, none⟩,
    ⟨some 57, .move (.tmp 56), none⟩,
    ⟨some 58, .load 24 (.tmp 1), some ((some 57), true)⟩,
    ⟨some 59, .call ⟨.value (.func 69), #[(.const (.int .i64 0)), (.const (.int .i64 3))], #[3, 3]⟩, some ((some 57), true)⟩,
    ⟨some 60, .binOp .eql 24 (.tmp 58) (.tmp 59) 24, some ((some 57), true)⟩,
    ⟨some 61, .pick (.tmp 57) (.tmp 60) (.const (.bool false)), none⟩,
    ⟨some 62, .move (.tmp 61), none⟩,
    ⟨some 63, .move (.tmp 4), some ((some 62), true)⟩,
    ⟨some 64, .binOp .eql 25 (.tmp 63) (.const (.int .i64 0)) 25, some ((some 62), true)⟩,
    ⟨some 65, .pick (.tmp 62) (.tmp 64) (.const (.bool false)), none⟩,
    ⟨some 66, .move (.tmp 65), none⟩,
    ⟨some 67, .load 24 (.tmp 3), some ((some 66), true)⟩,
    ⟨some 68, .call ⟨.value (.func 69), #[(.const (.int .i64 (-15))), (.const (.int .i64 12))], #[3, 3]⟩, some ((some 66), true)⟩,
    ⟨some 69, .binOp .eql 24 (.tmp 67) (.tmp 68) 24, some ((some 66), true)⟩,
    ⟨some 70, .pick (.tmp 66) (.tmp 69) (.const (.bool false)), none⟩,
    ⟨some 71, .move (.tmp 70), none⟩,
    ⟨some 72, .move (.tmp 6), some ((some 71), true)⟩,
    ⟨some 73, .binOp .eql 25 (.tmp 72) (.const (.int .i64 0)) 25, some ((some 71), true)⟩,
    ⟨some 74, .pick (.tmp 71) (.tmp 73) (.const (.bool false)), none⟩,
    ⟨some 75, .move (.tmp 74), none⟩,
    ⟨some 76, .load 24 (.tmp 5), some ((some 75), true)⟩,
    ⟨some 77, .call ⟨.value (.func 69), #[(.const (.int .i64 10)), (.const (.int .i64 25))], #[3, 3]⟩, some ((some 75), true)⟩,
    ⟨some 78, .binOp .eql 24 (.tmp 76) (.tmp 77) 24, some ((some 75), true)⟩,
    ⟨some 79, .pick (.tmp 75) (.tmp 78) (.const (.bool false)), none⟩,
    ⟨some 80, .move (.tmp 79), none⟩,
    ⟨some 81, .move (.tmp 8), some ((some 80), true)⟩,
    ⟨some 82, .binOp .eql 25 (.tmp 81) (.const (.int .i64 0)) 25, some ((some 80), true)⟩,
    ⟨some 83, .pick (.tmp 80) (.tmp 82) (.const (.bool false)), none⟩,
    ⟨some 84, .move (.tmp 83), none⟩,
    ⟨some 85, .move (.tmp 7), some ((some 84), true)⟩,
    ⟨some 86, .call ⟨.value (.func 69), #[(.const (.int .i64 8)), (.const (.int .i64 12))], #[3, 3]⟩, some ((some 84), true)⟩,
    ⟨some 87, .buildSlice 30 1 #[(0, (.tmp 86))], some ((some 84), true)⟩,
    ⟨some 88, .call ⟨.value (.func 28), #[(.tmp 85), (.tmp 87)], #[30, 30]⟩, some ((some 84), true)⟩,
    ⟨some 89, .pick (.tmp 84) (.tmp 88) (.const (.bool false)), none⟩,
    ⟨some 90, .move (.tmp 89), none⟩,
    ⟨some 91, .move (.tmp 10), some ((some 90), true)⟩,
    ⟨some 92, .binOp .eql 25 (.tmp 91) (.const (.int .i64 0)) 25, some ((some 90), true)⟩,
    ⟨some 93, .pick (.tmp 90) (.tmp 92) (.const (.bool false)), none⟩,
    ⟨some 94, .move (.tmp 93), none⟩,
    ⟨some 95, .move (.tmp 9), some ((some 94), true)⟩,
    ⟨some 96, .call ⟨.value (.func 73), #[], #[]⟩, some ((some 94), true)⟩]
    [⟨some 97, .call ⟨.value (.func 57), #[(.tmp 95), (.tmp 96)], #[54, 54]⟩, some ((some 94), true)⟩,
    ⟨some 98, .pick (.tmp 94) (.tmp 97) (.const (.bool false)), none⟩,
    ⟨some 99, .move (.tmp 98), none⟩,
    ⟨some 100, .move (.tmp 12), some ((some 99), true)⟩,
    ⟨some 101, .binOp .eql 25 (.tmp 100) (.const (.int .i64 0)) 25, some ((some 99), true)⟩,
    ⟨some 102, .pick (.tmp 99) (.tmp 101) (.const (.bool false)), none⟩,
    ⟨some 103, .move (.tmp 102), none⟩,
    ⟨some 104, .move (.tmp 11), some ((some 103), true)⟩,
    ⟨some 105, .binOp .eql 3 (.tmp 104) (.const (.int .i64 4)) 3, some ((some 103), true)⟩,
    ⟨some 106, .pick (.tmp 103) (.tmp 105) (.const (.bool false)), none⟩,
    ⟨some 0, .assign (.tmp 106), none⟩])
  .ret))))))))
theorem c58 : f58.body.bind (comp f58.ntmps) = some p58 := by kernel_rfl
def p60 : PC :=
  (.seq (.reg [⟨some 6, .assign (.const (.int .i64 0)), none⟩,
    ⟨some 7, .assign (.const (.int .i64 0)), none⟩])
  (.seq (.seq (.reg [⟨some 11, .move (.tmp 0), none⟩,
    ⟨some 12, .call ⟨.value (.func 55), #[(.tmp 11)], #[54]⟩, none⟩,
    ⟨some 8, .assign (.tmp 12), none⟩])
  (.seq (.reg [⟨some 13, .move (.tmp 8), none⟩,
    ⟨some 14, .binOp .neq 25 (.tmp 13) (.const (.int .i64 0)) 25, none⟩])
  (.cond (.tmp 14)
    (.seq (.reg [⟨some 15, .move (.tmp 8), none⟩,
      ⟨some 6, .assign (.const (.int .i64 0)), none⟩,
      ⟨some 7, .assign (.tmp 15), none⟩])
    .ret)
    .skip)))
  (.seq (.seq (.reg [⟨some 16, .move (.tmp 1), none⟩,
    ⟨some 17, .move (.tmp 2), none⟩,
    ⟨some 18, .call ⟨.value (.func 102), #[(.tmp 16), (.tmp 17)], #[3, 3]⟩, none⟩,
    ⟨some 19, .unOp .not 4 (.tmp 18), none⟩])
  (.cond (.tmp 19)
    (.seq (.reg [⟨some 6, .assign (.const (.int .i64 0)), none⟩,
      ⟨some 7, .assign (.const (.int .i64 2)), none⟩])
    .ret)
    .skip))
  (.seq (.reg [⟨some 21, .move (.tmp 0), none⟩,
    ⟨some 22, .move (.tmp 1), none⟩,
    ⟨some 23, .move (.tmp 2), none⟩,
    ⟨some 24, .call ⟨.value (.func 103), #[(.tmp 21), (.tmp 22), (.tmp 23)], #[54, 3, 3]⟩, none⟩,
    ⟨some 20, .move (.tmp 24), none⟩,
    ⟨some 25, .extract (.tmp 20) 0, none⟩,
    ⟨some 26, .extract (.tmp 20) 1, none⟩,
    ⟨some 9, .assign (.tmp 25), none⟩,
    ⟨some 10, .assign (.tmp 26), none⟩])
  (.seq (.reg [⟨some 27, .move (.tmp 10), none⟩,
    ⟨some 6, .assign (.tmp 27), none⟩,
    ⟨some 7, .assign (.const (.int .i64 0)), none⟩])
  .ret)))))
theorem c60 : f60.body.bind (comp f60.ntmps) = some p60 := by kernel_rfl
def p62 : PC :=
  (.seq (.reg [⟨some 4, .assign (.const (.slice none 0 0)), none⟩,
    ⟨some 5, .assign (.const (.int .i64 0)), none⟩])
  (.seq (.seq (.reg [⟨some 8, .move (.tmp 0), none⟩,
    ⟨some 9, .move (.tmp 1), none⟩,
    ⟨some 10, .buildSlice 154 2 #[(0, (.tmp 8)), (1, (.tmp 9))], none⟩,
    ⟨some 11, .call ⟨.value (.func 98), #[(.tmp 10)], #[154]⟩, none⟩,
    ⟨some 6, .assign (.tmp 11), none⟩])
  (.seq (.reg [⟨some 12, .move (.tmp 6), none⟩,
    ⟨some 13, .binOp .neq 25 (.tmp 12) (.const (.int .i64 0)) 25, none⟩])
  (.cond (.tmp 13)
    (.seq (.reg [⟨some 14, .move (.tmp 6), none⟩,
      ⟨some 4, .assign (.const (.slice none 0 0)), none⟩,
      ⟨some 5, .assign (.tmp 14), none⟩])
    .ret)
    .skip)))
  (.seq (.reg [⟨some 15, .move (.tmp 0), none⟩,
    ⟨some 16, .move (.tmp 1), none⟩,
    ⟨some 17, .call ⟨.value (.func 105), #[(.tmp 15), (.tmp 16)], #[54, 54]⟩, none⟩,
    ⟨some 7, .assign (.tmp 17), none⟩])
  (.seq (.block 0
    (.seq (.reg [⟨some 19, .move (.tmp 7), none⟩,
      ⟨some 20, .call ⟨.value (.func 92), #[(.tmp 19)], #[54]⟩, none⟩,
      ⟨some 21, .unOp .not 4 (.tmp 20), none⟩,
      ⟨some 18, .assign (.tmp 21), none⟩])
    (.cond (.tmp 18)
      (.seq (.reg [⟨some 4, .assign (.const (.slice none 0 0)), none⟩,
        ⟨some 5, .assign (.const (.int .i64 11)), none⟩])
      .ret)
      (.seq (.reg [⟨some 23, .move (.tmp 7), none⟩,
        ⟨some 24, .call ⟨.builtin .len, #[(.tmp 23)], #[54]⟩, none⟩,
        ⟨some 25, .binOp .gtr 3 (.tmp 24) (.const (.int .i64 64)) 3, none⟩,
        ⟨some 22, .assign (.tmp 25), none⟩])
      (.cond (.tmp 22)
        (.seq (.reg [⟨some 4, .assign (.const (.slice none 0 0)), none⟩,
          ⟨some 5, .assign (.const (.int .i64 4)), none⟩])
        .ret)
        .skip)))))
  (.seq (.reg [⟨some 26, .move (.tmp 7), none⟩,
    ⟨some 4, .assign (.tmp 26), none⟩,
    ⟨some 5, .assign (.const (.int .i64 0)), none⟩])
  .ret)))))
theorem c62 : f62.body.bind (comp f62.ntmps) = some p62 := by kernel_rfl
def p64 : PC :=
  (.seq (.reg [⟨some 8, .assign (.const (.bool false)), none⟩,
    ⟨some 9, .assign (.const (.int .i64 0)), none⟩])
  (.seq (.seq (.reg [⟨some 11, .move (.tmp 0), none⟩,
    ⟨some 12, .move (.tmp 1), none⟩,
    ⟨some 13, .buildSlice 154 2 #[(0, (.tmp 11)), (1, (.tmp 12))], none⟩,
    ⟨some 14, .call ⟨.value (.func 98), #[(.tmp 13)], #[154]⟩, none⟩,
    ⟨some 10, .assign (.tmp 14), none⟩])
  (.seq (.reg [⟨some 15, .move (.tmp 10), none⟩,
    ⟨some 16, .binOp .neq 25 (.tmp 15) (.const (.int .i64 0)) 25, none⟩])
  (.cond (.tmp 16)
    (.seq (.reg [⟨some 17, .move (.tmp 10), none⟩,
      ⟨some 8, .assign (.const (.bool false)), none⟩,
      ⟨some 9, .assign (.tmp 17), none⟩])
    .ret)
    .skip)))
  (.seq (.seq (.reg [⟨some 18, .move (.tmp 2), none⟩,
    ⟨some 19, .move (.tmp 3), none⟩,
    ⟨some 20, .call ⟨.value (.func 102), #[(.tmp 18), (.tmp 19)], #[3, 3]⟩, none⟩,
    ⟨some 21, .unOp .not 4 (.tmp 20), none⟩])
  (.cond (.tmp 21)
    (.seq (.reg [⟨some 8, .assign (.const (.bool false)), none⟩,
      ⟨some 9, .assign (.const (.int .i64 2)), none⟩])
    .ret)
    .skip))
  (.seq (.reg [⟨some 22, .move (.tmp 0), none⟩,
    ⟨some 23, .move (.tmp 1), none⟩,
    ⟨some 24, .move (.tmp 2), none⟩,
    ⟨some 25, .move (.tmp 3), none⟩,
    ⟨some 26, .call ⟨.value (.func 107), #[(.tmp 22), (.tmp 23), (.tmp 24), (.tmp 25)], #[54, 54, 3, 3]⟩, none⟩,
    ⟨some 8, .assign (.tmp 26), none⟩,
    ⟨some 9, .assign (.const (.int .i64 0)), none⟩])
  .ret))))
theorem c64 : f64.body.bind (comp f64.ntmps) = some p64 := by kernel_rfl
def p66l0 : PC :=
  (.seq (.reg [⟨some 28, .binOp .lss 3 (.tmp 27) (.tmp 26) 3, none⟩])
  (.seq (.cond (.tmp 28)
    .skip
    (.exit 0))
  (.seq (.block 1
    (.seq (.reg [⟨some 29, .indexAddr 54 (.tmp 25) (.tmp 27), none⟩,
      ⟨some 30, .load 56 (.tmp 29), none⟩,
      ⟨some 10, .alloc 56, none⟩,
      ⟨none, .store 56 (.tmp 10) (.tmp 30), none⟩])
    (.reg [⟨some 31, .move (.tmp 8), none⟩,
      ⟨some 32, .fieldAddr 56 (.tmp 10) 1, none⟩,
      ⟨some 33, .load 3 (.tmp 32), none⟩,
      ⟨some 34, .fieldAddr 56 (.tmp 10) 0, none⟩,
      ⟨some 35, .load 3 (.tmp 34), none⟩,
      ⟨some 36, .unOp .neg 3 (.tmp 35), none⟩,
      ⟨some 37, .build 56 #[(0, (.tmp 33)), (1, (.tmp 36))], none⟩,
      ⟨some 38, .fieldAddr 56 (.tmp 10) 1, none⟩,
      ⟨some 39, .load 3 (.tmp 38), none⟩,
      ⟨some 40, .unOp .neg 3 (.tmp 39), none⟩,
      ⟨some 41, .fieldAddr 56 (.tmp 10) 0, none⟩,
      ⟨some 42, .load 3 (.tmp 41), none⟩,
      ⟨some 43, .build 56 #[(0, (.tmp 40)), (1, (.tmp 42))], none⟩,
      ⟨some 44, .load 56 (.tmp 10), none⟩,
      ⟨some 45, .fieldAddr 56 (.tmp 10) 0, none⟩,
      ⟨some 46, .load 3 (.tmp 45), none⟩,
      ⟨some 47, .unOp .neg 3 (.tmp 46), none⟩,
      ⟨some 48, .fieldAddr 56 (.tmp 10) 1, none⟩,
      ⟨some 49, .load 3 (.tmp 48), none⟩,
      ⟨some 50, .unOp .neg 3 (.tmp 49), none⟩,
      ⟨some 51, .build 56 #[(0, (.tmp 47)), (1, (.tmp 50))], none⟩,
      ⟨some 52, .buildSlice 54 4 #[(0, (.tmp 37)), (1, (.tmp 43)), (2, (.tmp 44)), (3, (.tmp 51))], none⟩,
      ⟨some 53, .call ⟨.builtin .append, #[(.tmp 31), (.tmp 52)], #[54, 54]⟩, none⟩,
      ⟨some 8, .assign (.tmp 53), none⟩])))
  (.reg [⟨some 54, .binOp .add 3 (.tmp 27) (.const (.int .i64 1)) 3, none⟩,
    ⟨some 27, .move (.tmp 54), none⟩]))))
def p66l1 : PC :=
  (.seq (.reg [⟨some 68, .binOp .lss 3 (.tmp 67) (.tmp 66) 3, none⟩])
  (.seq (.cond (.tmp 68)
    .skip
    (.exit 2))
  (.seq (.block 3
    (.seq (.reg [⟨some 69, .indexAddr 54 (.tmp 65) (.tmp 67), none⟩,
      ⟨some 70, .load 56 (.tmp 69), none⟩,
      ⟨some 12, .alloc 56, none⟩,
      ⟨none, .store 56 (.tmp 12) (.tmp 70), none⟩])
    (.seq (.reg [⟨some 71, .move (.tmp 0), none⟩,
      ⟨some 72, .move (.tmp 1), none⟩,
      ⟨some 73, .fieldAddr 56 (.tmp 12) 0, none⟩,
      ⟨some 74, .load 3 (.tmp 73), none⟩,
      ⟨some 75, .fieldAddr 56 (.tmp 12) 1, none⟩,
      ⟨some 76, .load 3 (.tmp 75), none⟩,
      ⟨some 77, .call ⟨.value (.func 107), #[(.tmp 71), (.tmp 72), (.tmp 74), (.tmp 76)], #[54, 54, 3, 3]⟩, none⟩])
    (.cond (.tmp 77)
      (.seq (.draw [0, 1, 0, 4, 3, 31, 63] [⟨some 78, .fieldAddr 56 (.tmp 12) 0, none⟩,
        ⟨some 79, .load 3 (.tmp 78), none⟩,
        ⟨some 80, .fieldAddr 56 (.tmp 12) 1, none⟩,
        ⟨some 81, .load 3 (.tmp 80), none⟩,
        ⟨some 4, .assign (.tmp 79), none⟩]
        [⟨some 5, .assign (.tmp 81), none⟩,
        ⟨some 6, .assign (.const (.int .i64 0)), none⟩])
      .ret)
      .skip))))
  (.reg [⟨some 82, .binOp .add 3 (.tmp 67) (.const (.int .i64 1)) 3, none⟩,
    ⟨some 67, .move (.tmp 82), none⟩]))))
def p66 : PC :=
  (.seq (.reg [⟨some 4, .assign (.const (.int .i64 0)), none⟩,
    ⟨some 5, .assign (.const (.int .i64 0)), none⟩,
    ⟨some 6, .assign (.const (.int .i64 0)), none⟩])
  (.seq (.seq (.reg [⟨some 13, .move (.tmp 0), none⟩,
    ⟨some 14, .move (.tmp 1), none⟩,
    ⟨some 15, .buildSlice 154 2 #[(0, (.tmp 13)), (1, (.tmp 14))], none⟩,
    ⟨some 16, .call ⟨.value (.func 98), #[(.tmp 15)], #[154]⟩, none⟩,
    ⟨some 7, .assign (.tmp 16), none⟩])
  (.seq (.reg [⟨some 17, .move (.tmp 7), none⟩,
    ⟨some 18, .binOp .neq 25 (.tmp 17) (.const (.int .i64 0)) 25, none⟩])
  (.cond (.tmp 18)
    (.seq (.reg [⟨some 19, .move (.tmp 7), none⟩,
      ⟨some 4, .assign (.const (.int .i64 0)), none⟩,
      ⟨some 5, .assign (.const (.int .i64 0)), none⟩,
      ⟨some 6, .assign (.tmp 19), none⟩])
    .ret)
    .skip)))
  (.seq (.reg [⟨some 8, .assign (.const (.slice none 0 0)), none⟩])
  (.seq (.seq (.reg [⟨some 20, .move (.tmp 0), none⟩,
    ⟨some 21, .call ⟨.value (.func 109), #[(.tmp 20)], #[54]⟩, none⟩,
    ⟨some 22, .move (.tmp 1), none⟩,
    ⟨some 23, .call ⟨.value (.func 109), #[(.tmp 22)], #[54]⟩, none⟩,
    ⟨some 24, .buildSlice 154 2 #[(0, (.tmp 21)), (1, (.tmp 23))], none⟩,
    ⟨some 25, .call ⟨.value (.func 108), #[(.tmp 24)], #[154]⟩, none⟩,
    ⟨some 26, .call ⟨.builtin .len, #[(.tmp 25)], #[54]⟩, none⟩,
    ⟨some 27, .move (.const (.int .i64 0)), none⟩])
  (.block 0
    (.loop p66l0)))
  (.seq (.draw [0, 0, 2, 6, 0, 16, 48, 126, 254, 511, 1023] [⟨some 55, .move (.tmp 8), none⟩,
    ⟨some 56, .move (.tmp 0), none⟩,
    ⟨some 57, .indexAddr 54 (.tmp 56) (.const (.int .i64 0)), none⟩,
    ⟨some 58, .load 56 (.tmp 57), none⟩,
    ⟨some 59, .move (.tmp 1), none⟩,
    ⟨some 60, .indexAddr 54 (.tmp 59) (.const (.int .i64 0)), none⟩,
    ⟨some 61, .load 56 (.tmp 60), none⟩,
    ⟨some 62, .call ⟨.value (.func 110), #[(.tmp 58), (.tmp 61)], #[56, 56]⟩, none⟩,
    ⟨some 63, .buildSlice 54 1 #[(0, (.tmp 62))], none⟩]
    [⟨some 64, .call ⟨.builtin .append, #[(.tmp 55), (.tmp 63)], #[54, 54]⟩, none⟩,
    ⟨some 8, .assign (.tmp 64), none⟩])
  (.seq (.seq (.reg [⟨some 65, .move (.tmp 8), none⟩,
    ⟨some 66, .call ⟨.builtin .len, #[(.tmp 65)], #[54]⟩, none⟩,
    ⟨some 67, .move (.const (.int .i64 0)), none⟩])
  (.block 2
    (.loop p66l1)))
  (.seq (.reg [⟨some 4, .assign (.const (.int .i64 0)), none⟩,
    ⟨some 5, .assign (.const (.int .i64 0)), none⟩,
    ⟨some 6, .assign (.const (.int .i64 6)), none⟩])
  .ret)))))))
theorem c66 : f66.body.bind (comp f66.ntmps) = some p66 := by kernel_rfl
def p69 : PC :=
  (.seq (.reg [⟨some 4, .alloc 24, none⟩])
  (.seq (.reg [⟨some 5, .move (.tmp 0), none⟩,
    ⟨some 6, .move (.tmp 1), none⟩,
    ⟨some 7, .build 24 #[(0, (.tmp 5)), (1, (.tmp 6))], none⟩,
    ⟨none, .store 24 (.tmp 4) (.tmp 7), none⟩])
  .ret))
theorem c69 : f69.body.bind (comp f69.ntmps) = some p69 := by kernel_rfl
def p72 : PC :=
  (.seq (.reg [⟨some 0, .assign (.const (.slice none 0 0)), none⟩])
  (.seq (.reg [⟨some 1, .call ⟨.value (.func 69), #[(.const (.int .i64 0)), (.const (.int .i64 2))], #[3, 3]⟩, none⟩,
    ⟨some 2, .build 87 #[(0, (.const (.int .i64 0))), (1, (.tmp 1))], none⟩,
    ⟨some 3, .call ⟨.value (.func 69), #[(.const (.int .i64 20)), (.const (.int .i64 25))], #[3, 3]⟩, none⟩,
    ⟨some 4, .build 87 #[(0, (.const (.int .i64 10))), (1, (.tmp 3))], none⟩,
    ⟨some 5, .call ⟨.value (.func 69), #[(.const (.int .i64 5)), (.const (.int .i64 5))], #[3, 3]⟩, none⟩,
    ⟨some 6, .build 87 #[(0, (.const (.int .i64 20))), (1, (.tmp 5))], none⟩,
    ⟨some 7, .buildSlice 22 3 #[(0, (.tmp 2)), (1, (.tmp 4)), (2, (.tmp 6))], none⟩,
    ⟨some 0, .assign (.tmp 7), none⟩])
  .ret))
theorem c72 : f72.body.bind (comp f72.ntmps) = some p72 := by kernel_rfl
def p73 : PC :=
  (.seq (.reg [⟨some 0, .assign (.const (.slice none 0 0)), none⟩])
  (.seq (.reg [⟨some 1, .build 56 #[], none⟩,
    ⟨some 2, .build 56 #[(0, (.const (.int .i64 4)))], none⟩,
    ⟨some 3, .build 56 #[(0, (.const (.int .i64 4))), (1, (.const (.int .i64 4)))], none⟩,
    ⟨some 4, .build 56 #[(1, (.const (.int .i64 4)))], none⟩,
    ⟨some 5, .buildSlice 54 4 #[(0, (.tmp 1)), (1, (.tmp 2)), (2, (.tmp 3)), (3, (.tmp 4))], none⟩,
    ⟨some 0, .assign (.tmp 5), none⟩])
  .ret))
theorem c73 : f73.body.bind (comp f73.ntmps) = some p73 := by kernel_rfl
def p74l0 : PC :=
  (.seq (.reg [⟨some 13, .binOp .lss 3 (.tmp 12) (.tmp 11) 3, none⟩])
  (.seq (.cond (.tmp 13)
    .skip
    (.exit 0))
  (.seq (.block 1
    (.seq (.reg [⟨some 14, .indexAddr 30 (.tmp 10) (.tmp 12), none⟩,
      ⟨some 15, .load 24 (.tmp 14), none⟩,
      ⟨some 5, .alloc 24, none⟩,
      ⟨none, .store 24 (.tmp 5) (.tmp 15), none⟩])
    (.drawW [0, 1, 0, 4, 15, 0, 32, 0, 128, 480, 127, 1151, 4095, 8191] [⟨some 16, .fieldAddr 24 (.tmp 3) 0, none⟩,
      ⟨some 17, .load 3 (.tmp 16), none⟩,
      ⟨some 18, .fieldAddr 24 (.tmp 5) 0, none⟩,
      ⟨some 19, .load 3 (.tmp 18), none⟩,
      ⟨some 20, .call ⟨.builtin .min, #[(.tmp 17), (.tmp 19)], #[3, 3]⟩, none⟩,
      ⟨some 21, .fieldAddr 24 (.tmp 3) 1, none⟩,
      ⟨some 22, .load 3 (.tmp 21), none⟩,
      ⟨some 23, .fieldAddr 24 (.tmp 5) 1, none⟩,
      ⟨some 24, .load 3 (.tmp 23), none⟩,
      ⟨some 25, .call ⟨.builtin .max, #[(.tmp 22), (.tmp 24)], #[3, 3]⟩, none⟩,
      ⟨some 26, .fieldAddr 24 (.tmp 3) 0, none⟩,
      ⟨none, .store 3 (.tmp 26) (.tmp 20), none⟩]
      [⟨some 27, .fieldAddr 24 (.tmp 3) 1, none⟩,
      ⟨none, .store 3 (.tmp 27) (.tmp 25), none⟩])))
  (.reg [⟨some 28, .binOp .add 3 (.tmp 12) (.const (.int .i64 1)) 3, none⟩,
    ⟨some 12, .move (.tmp 28), none⟩]))))
def p74 : PC :=
  (.seq (.reg [⟨some 2, .alloc 24, none⟩])
  (.seq (.reg [⟨some 6, .move (.tmp 0), none⟩,
    ⟨some 7, .indexAddr 30 (.tmp 6) (.const (.int .i64 0)), none⟩,
    ⟨some 8, .load 24 (.tmp 7), none⟩,
    ⟨some 3, .alloc 24, none⟩,
    ⟨none, .store 24 (.tmp 3) (.tmp 8), none⟩])
  (.seq (.seq (.reg [⟨some 9, .move (.tmp 0), none⟩,
    ⟨some 10, .slice 30 (.tmp 9) (some (.const (.int .i64 1))) none none, none⟩,
    ⟨some 11, .call ⟨.builtin .len, #[(.tmp 10)], #[30]⟩, none⟩,
    ⟨some 12, .move (.const (.int .i64 0)), none⟩])
  (.block 0
    (.loop p74l0)))
  (.seq (.reg [⟨some 29, .load 24 (.tmp 3), none⟩,
    ⟨none, .store 24 (.tmp 2) (.tmp 29), none⟩])
  .ret))))
theorem c74 : f74.body.bind (comp f74.ntmps) = some p74 := by kernel_rfl
def p75 : PC :=
  (.seq (.reg [⟨some 2, .box 22 (.tmp 0), none⟩,
    ⟨some 3, .box 3 (.tmp 1), none⟩,
    ⟨some 4, .alloc 24, none⟩])
  (.seq (.reg [⟨some 10, .load 22 (.tmp 2), none⟩,
    ⟨some 11, .call ⟨.builtin .len, #[(.tmp 10)], #[22]⟩, none⟩,
    ⟨some 12, .makeFunc (.func 112) #[] #[(.tmp 2), (.tmp 3)], none⟩,
    ⟨some 13, .call ⟨.value (.func 111), #[(.tmp 11), (.tmp 12)], #[3, 132]⟩, none⟩,
    ⟨some 5, .assign (.tmp 13), none⟩])
  (.seq (.reg [⟨some 14, .move (.tmp 5), none⟩,
    ⟨some 15, .call ⟨.builtin .max, #[(.tmp 14), (.const (.int .i64 1))], #[3, 3]⟩, none⟩,
    ⟨some 16, .load 22 (.tmp 2), none⟩,
    ⟨some 17, .call ⟨.builtin .len, #[(.tmp 16)], #[22]⟩, none⟩,
    ⟨some 18, .binOp .sub 3 (.tmp 17) (.const (.int .i64 1)) 3, none⟩,
    ⟨some 19, .call ⟨.builtin .min, #[(.tmp 15), (.tmp 18)], #[3, 3]⟩, none⟩,
    ⟨some 5, .assign (.tmp 19), none⟩])
  (.seq (.drawW [0, 0, 2, 7, 15, 0, 0, 96, 224, 0, 0, 1567, 4095] [⟨some 20, .load 22 (.tmp 2), none⟩,
    ⟨some 21, .move (.tmp 5), none⟩,
    ⟨some 22, .binOp .sub 3 (.tmp 21) (.const (.int .i64 1)) 3, none⟩,
    ⟨some 23, .indexAddr 22 (.tmp 20) (.tmp 22), none⟩,
    ⟨some 24, .load 87 (.tmp 23), none⟩,
    ⟨some 25, .load 22 (.tmp 2), none⟩,
    ⟨some 26, .move (.tmp 5), none⟩,
    ⟨some 27, .indexAddr 22 (.tmp 25) (.tmp 26), none⟩,
    ⟨some 28, .load 87 (.tmp 27), none⟩,
    ⟨some 6, .alloc 87, none⟩,
    ⟨some 7, .alloc 87, none⟩,
    ⟨none, .store 87 (.tmp 6) (.tmp 24), none⟩]
    [⟨none, .store 87 (.tmp 7) (.tmp 28), none⟩])
  (.seq (.draw [0, 0, 2, 7, 0, 16, 0, 64, 240, 15, 1023] [⟨some 29, .load 3 (.tmp 3), none⟩,
    ⟨some 30, .fieldAddr 87 (.tmp 6) 0, none⟩,
    ⟨some 31, .load 3 (.tmp 30), none⟩,
    ⟨some 32, .binOp .sub 3 (.tmp 29) (.tmp 31) 3, none⟩,
    ⟨some 33, .fieldAddr 87 (.tmp 7) 0, none⟩,
    ⟨some 34, .load 3 (.tmp 33), none⟩,
    ⟨some 35, .fieldAddr 87 (.tmp 6) 0, none⟩,
    ⟨some 36, .load 3 (.tmp 35), none⟩,
    ⟨some 37, .binOp .sub 3 (.tmp 34) (.tmp 36) 3, none⟩,
    ⟨some 8, .assign (.tmp 32), none⟩]
    [⟨some 9, .assign (.tmp 37), none⟩])
  (.seq (.draw [0, 1, 3, 0, 0, 16, 48, 0, 128, 384, 1008, 2040, 0, 8184, 16383, 0, 32768, 98304, 0, 0, 524288, 1572864, 0, 4194304, 12582912, 33030144, 66846720, 0, 268189688, 536854520, 1073741823, 2147483647] [⟨some 38, .fieldAddr 87 (.tmp 6) 1, none⟩,
    ⟨some 39, .fieldAddr 24 (.tmp 38) 0, none⟩,
    ⟨some 40, .load 3 (.tmp 39), none⟩,
    ⟨some 41, .move (.tmp 8), none⟩,
    ⟨some 42, .fieldAddr 87 (.tmp 7) 1, none⟩,
    ⟨some 43, .fieldAddr 24 (.tmp 42) 0, none⟩,
    ⟨some 44, .load 3 (.tmp 43), none⟩,
    ⟨some 45, .fieldAddr 87 (.tmp 6) 1, none⟩,
    ⟨some 46, .fieldAddr 24 (.tmp 45) 0, none⟩,
    ⟨some 47, .load 3 (.tmp 46), none⟩,
    ⟨some 48, .binOp .sub 3 (.tmp 44) (.tmp 47) 3, none⟩,
    ⟨some 49, .binOp .mul 3 (.tmp 41) (.tmp 48) 3, none⟩,
    ⟨some 50, .move (.tmp 9), none⟩,
    ⟨some 51, .call ⟨.value (.func 113), #[(.tmp 49), (.tmp 50)], #[3, 3]⟩, none⟩,
    ⟨some 52, .binOp .add 3 (.tmp 40) (.tmp 51) 3, none⟩,
    ⟨some 53, .fieldAddr 87 (.tmp 6) 1, none⟩,
    ⟨some 54, .fieldAddr 24 (.tmp 53) 1, none⟩,
    ⟨some 55, .load 3 (.tmp 54), none⟩,
    ⟨some 56, .move (.tmp 8), none⟩,
    ⟨some 57, .fieldAddr 87 (.tmp 6) 1, none⟩,
    ⟨some 58, .fieldAddr 24 (.tmp 57) 1, none⟩,
    ⟨some 59, .load 3 (.tmp 58), none⟩,
    ⟨some 60, .fieldAddr 87 (.tmp 7) 1, none⟩,
    ⟨some 61, .fieldAddr 24 (.tmp 60) 1, none⟩,
    ⟨some 62, .load 3 (.tmp 61), none⟩,
    ⟨some 63, .binOp .sub 3 (.tmp 59) (.tmp 62) 3, none⟩,
    ⟨some 64, .binOp .mul 3 (.tmp 56) (.tmp 63) 3, none⟩,
    ⟨some 65, .move (.tmp 9), none⟩,
    ⟨some 66, .call ⟨.value (.func 113), #[(.tmp 64), (.tmp 65)], #[3, 3]⟩, none⟩,
    ⟨some 67, .binOp .sub 3 (.tmp 55) (.tmp 66) 3, none⟩]
    [⟨some 68, .build 24 #[(0, (.tmp 52)), (1, (.tmp 67))], none⟩,
    ⟨none, .store 24 (.tmp 4) (.tmp 68), none⟩])
  .ret))))))
theorem c75 : f75.body.bind (comp f75.ntmps) = some p75 := by kernel_rfl
def p80l0 : PC :=
  (.seq (.reg [⟨some 56, .binOp .lss 3 (.tmp 55) (.tmp 54) 3, none⟩])
  (.seq (.cond (.tmp 56)
    .skip
    (.exit 0))
  (.seq (.block 1
    (.seq (.reg [⟨some 57, .move (.tmp 55), none⟩,
      ⟨some 58, .indexAddr 22 (.tmp 53) (.tmp 55), none⟩,
      ⟨some 59, .load 87 (.tmp 58), none⟩,
      ⟨some 13, .alloc 87, none⟩,
      ⟨some 12, .assign (.tmp 57), none⟩,
      ⟨none, .store 87 (.tmp 13) (.tmp 59), none⟩])
    (.seq (.reg [⟨some 61, .move (.tmp 2), none⟩,
      ⟨some 62, .move (.tmp 0), none⟩,
      ⟨some 63, .move (.tmp 12), none⟩,
      ⟨some 64, .indexAddr 22 (.tmp 62) (.tmp 63), none⟩,
      ⟨some 65, .fieldAddr 87 (.tmp 64) 1, none⟩,
      ⟨some 66, .load 24 (.tmp 65), none⟩,
      ⟨some 67, .call ⟨.value (.tmp 61), #[(.tmp 66)], #[24]⟩, none⟩,
      ⟨some 60, .move (.tmp 67), none⟩,
      ⟨some 68, .extract (.tmp 60) 0, none⟩,
      ⟨some 69, .extract (.tmp 60) 1, none⟩,
      ⟨some 14, .assign (.tmp 68), none⟩,
      ⟨some 15, .assign (.tmp 69), none⟩])
    (.seq (.reg [⟨some 71, .move (.tmp 2), none⟩,
      ⟨some 72, .fieldAddr 87 (.tmp 13) 1, none⟩,
      ⟨some 73, .load 24 (.tmp 72), none⟩,
      ⟨some 74, .call ⟨.value (.tmp 71), #[(.tmp 73)], #[24]⟩, none⟩,
      ⟨some 70, .move (.tmp 74), none⟩,
      ⟨some 75, .extract (.tmp 70) 0, none⟩,
      ⟨some 76, .extract (.tmp 70) 1, none⟩,
      ⟨some 16, .assign (.tmp 75), none⟩,
      ⟨some 17, .assign (.tmp 76), none⟩])
    (.seq (.draw [0, 1, 0, 0, 12, 28, 60, 127, 255] [⟨some 77, .fieldAddr 87 (.tmp 13) 0, none⟩,
      ⟨some 78, .load 3 (.tmp 77), none⟩,
      ⟨some 79, .move (.tmp 0), none⟩,
      ⟨some 80, .move (.tmp 12), none⟩,
      ⟨some 81, .indexAddr 22 (.tmp 79) (.tmp 80), none⟩,
      ⟨some 82, .fieldAddr 87 (.tmp 81) 0, none⟩,
      ⟨some 83, .load 3 (.tmp 82), none⟩]
      [⟨some 84, .binOp .sub 3 (.tmp 78) (.tmp 83) 3, none⟩,
      ⟨some 18, .assign (.tmp 84), none⟩])
    (.seq (.reg [⟨some 86, .move (.tmp 14), none⟩,
      ⟨some 87, .move (.tmp 16), none⟩,
      ⟨some 88, .move (.tmp 18), none⟩,
      ⟨some 89, .build 136 #[(0, (.tmp 86)), (1, (.tmp 87)), (2, (.tmp 88))], none⟩,
      ⟨some 90, .fieldAddr 24 (.tmp 4) 0, none⟩,
      ⟨some 91, .load 3 (.tmp 90), none⟩,
      ⟨some 92, .call ⟨.value (.func 117), #[(.tmp 89), (.tmp 91)], #[136, 3]⟩, none⟩,
      ⟨some 85, .move (.tmp 92), none⟩,
      ⟨some 93, .extract (.tmp 85) 0, none⟩,
      ⟨some 94, .extract (.tmp 85) 1, none⟩,
      ⟨some 19, .assign (.tmp 93), none⟩,
      ⟨some 20, .assign (.tmp 94), none⟩])
    (.seq (.reg [⟨some 96, .move (.tmp 15), none⟩,
      ⟨some 97, .move (.tmp 17), none⟩,
      ⟨some 98, .move (.tmp 18), none⟩,
      ⟨some 99, .build 136 #[(0, (.tmp 96)), (1, (.tmp 97)), (2, (.tmp 98))], none⟩,
      ⟨some 100, .fieldAddr 24 (.tmp 4) 1, none⟩,
      ⟨some 101, .load 3 (.tmp 100), none⟩,
      ⟨some 102, .call ⟨.value (.func 118), #[(.tmp 99), (.tmp 101)], #[136, 3]⟩, none⟩,
      ⟨some 95, .move (.tmp 102), none⟩,
      ⟨some 103, .extract (.tmp 95) 0, none⟩,
      ⟨some 104, .extract (.tmp 95) 1, none⟩,
      ⟨some 21, .assign (.tmp 103), none⟩,
      ⟨some 22, .assign (.tmp 104), none⟩])
    (.seq (.reg [⟨some 105, .move (.tmp 19), none⟩,
      ⟨some 106, .move (.tmp 21), none⟩,
      ⟨some 107, .call ⟨.builtin .max, #[(.tmp 105), (.tmp 106)], #[3, 3]⟩, none⟩,
      ⟨some 108, .move (.tmp 20), none⟩,
      ⟨some 109, .move (.tmp 22), none⟩,
      ⟨some 110, .call ⟨.builtin .min, #[(.tmp 108), (.tmp 109)], #[3, 3]⟩, none⟩,
      ⟨some 23, .assign (.tmp 107), none⟩,
      ⟨some 24, .assign (.tmp 110), none⟩])
    (.seq (.reg [⟨some 111, .move (.tmp 23), none⟩,
      ⟨some 112, .move (.tmp 24), none⟩,
      ⟨some 113, .binOp .leq 3 (.tmp 111) (.tmp 112) 3, none⟩])
    (.cond (.tmp 113)
      (.draw [0, 0, 0, 6, 14, 30, 0, 126, 0, 0, 768, 1792, 3840, 0, 16128, 32766, 65535] [⟨some 114, .move (.tmp 11), none⟩,
        ⟨some 115, .move (.tmp 0), none⟩,
        ⟨some 116, .move (.tmp 12), none⟩,
        ⟨some 117, .indexAddr 22 (.tmp 115) (.tmp 116), none⟩,
        ⟨some 118, .fieldAddr 87 (.tmp 117) 0, none⟩,
        ⟨some 119, .load 3 (.tmp 118), none⟩,
        ⟨some 120, .move (.tmp 23), none⟩,
        ⟨some 121, .binOp .add 3 (.tmp 119) (.tmp 120) 3, none⟩,
        ⟨some 122, .move (.tmp 0), none⟩,
        ⟨some 123, .move (.tmp 12), none⟩,
        ⟨some 124, .indexAddr 22 (.tmp 122) (.tmp 123), none⟩,
        ⟨some 125, .fieldAddr 87 (.tmp 124) 0, none⟩,
        ⟨some 126, .load 3 (.tmp 125), none⟩,
        ⟨some 127, .move (.tmp 24), none⟩,
        ⟨some 128, .binOp .add 3 (.tmp 126) (.tmp 127) 3, none⟩,
        ⟨some 129, .build 24 #[(0, (.tmp 121)), (1, (.tmp 128))], none⟩]
        [⟨some 130, .call ⟨.value (.tmp 114), #[(.tmp 129)], #[24]⟩, none⟩])
      .skip))))))))))
  (.reg [⟨some 131, .binOp .add 3 (.tmp 55) (.const (.int .i64 1)) 3, none⟩,
    ⟨some 55, .move (.tmp 131), none⟩]))))
def p80 : PC :=
  (.seq (.reg [⟨some 4, .box 24 (.tmp 1), none⟩,
    ⟨some 6, .assign (.const (.slice none 0 0)), none⟩,
    ⟨some 7, .assign (.const (.int .i64 0)), none⟩])
  (.seq (.seq (.reg [⟨some 25, .move (.tmp 0), none⟩,
    ⟨some 26, .call ⟨.value (.func 26), #[(.tmp 25)], #[22]⟩, none⟩,
    ⟨some 8, .assign (.tmp 26), none⟩])
  (.seq (.reg [⟨some 27, .move (.tmp 8), none⟩,
    ⟨some 28, .binOp .neq 25 (.tmp 27) (.const (.int .i64 0)) 25, none⟩])
  (.cond (.tmp 28)
    (.seq (.reg [⟨some 29, .move (.tmp 8), none⟩,
      ⟨some 6, .assign (.const (.slice none 0 0)), none⟩,
      ⟨some 7, .assign (.tmp 29), none⟩])
    .ret)
    .skip)))
  (.seq (.seq (.reg [⟨some 30, .load 24 (.tmp 4), none⟩,
    ⟨some 31, .call ⟨.value (.func 46), #[(.tmp 30)], #[24]⟩, none⟩,
    ⟨some 9, .assign (.tmp 31), none⟩])
  (.seq (.reg [⟨some 32, .move (.tmp 9), none⟩,
    ⟨some 33, .binOp .neq 25 (.tmp 32) (.const (.int .i64 0)) 25, none⟩])
  (.cond (.tmp 33)
    (.seq (.reg [⟨some 34, .move (.tmp 9), none⟩,
      ⟨some 6, .assign (.const (.slice none 0 0)), none⟩,
      ⟨some 7, .assign (.tmp 34), none⟩])
    .ret)
    .skip)))
  (.seq (.reg [⟨some 35, .fieldAddr 24 (.tmp 4) 0, none⟩,
    ⟨some 36, .load 3 (.tmp 35), none⟩,
    ⟨some 37, .call ⟨.builtin .max, #[(.tmp 36), (.const (.int .i64 (-1073741825)))], #[3, 3]⟩, none⟩,
    ⟨some 38, .fieldAddr 24 (.tmp 4) 1, none⟩,
    ⟨some 39, .load 3 (.tmp 38), none⟩,
    ⟨some 40, .call ⟨.builtin .min, #[(.tmp 39), (.const (.int .i64 1073741825))], #[3, 3]⟩, none⟩,
    ⟨some 41, .fieldAddr 24 (.tmp 4) 0, none⟩,
    ⟨none, .store 3 (.tmp 41) (.tmp 37), none⟩,
    ⟨some 42, .fieldAddr 24 (.tmp 4) 1, none⟩,
    ⟨none, .store 3 (.tmp 42) (.tmp 40), none⟩])
  (.seq (.reg [⟨some 43, .fieldAddr 24 (.tmp 4) 0, none⟩,
    ⟨some 44, .load 3 (.tmp 43), none⟩,
    ⟨some 45, .call ⟨.builtin .min, #[(.tmp 44), (.const (.int .i64 1073741825))], #[3, 3]⟩, none⟩,
    ⟨some 46, .fieldAddr 24 (.tmp 4) 1, none⟩,
    ⟨some 47, .load 3 (.tmp 46), none⟩,
    ⟨some 48, .call ⟨.builtin .max, #[(.tmp 47), (.const (.int .i64 (-1073741825)))], #[3, 3]⟩, none⟩,
    ⟨some 49, .fieldAddr 24 (.tmp 4) 0, none⟩,
    ⟨none, .store 3 (.tmp 49) (.tmp 45), none⟩,
    ⟨some 50, .fieldAddr 24 (.tmp 4) 1, none⟩,
    ⟨none, .store 3 (.tmp 50) (.tmp 48), none⟩])
  (.seq (.reg [⟨some 10, .alloc 30, none⟩])
  (.seq (.reg [⟨some 51, .makeFunc (.func 116) #[] #[(.tmp 10)], none⟩,
    ⟨some 11, .assign (.tmp 51), none⟩])
  (.seq (.seq (.reg [⟨some 52, .move (.tmp 0), none⟩,
    ⟨some 53, .slice 22 (.tmp 52) (some (.const (.int .i64 1))) none none, none⟩,
    ⟨some 54, .call ⟨.builtin .len, #[(.tmp 53)], #[22]⟩, none⟩,
    ⟨some 55, .move (.const (.int .i64 0)), none⟩])
  (.block 0
    (.loop p80l0)))
  (.seq (.reg [⟨some 132, .load 30 (.tmp 10), none⟩,
    ⟨some 6, .assign (.tmp 132), none⟩,
    ⟨some 7, .assign (.const (.int .i64 0)), none⟩])
  .ret)))))))))
theorem c80 : f80.body.bind (comp f80.ntmps) = some p80 := by kernel_rfl
def p81 : PC :=
  (.seq (.reg [⟨some 1, .box 24 (.tmp 0), none⟩,
    ⟨some 2, .assign (.const (.int .i64 0)), none⟩,
    ⟨some 3, .assign (.const (.int .i64 0)), none⟩])
  (.seq (.draw [0, 1, 0, 4, 3, 31] [⟨some 4, .fieldAddr 24 (.tmp 1) 1, none⟩,
    ⟨some 5, .load 3 (.tmp 4), none⟩,
    ⟨some 6, .fieldAddr 24 (.tmp 1) 0, none⟩,
    ⟨some 7, .load 3 (.tmp 6), none⟩,
    ⟨some 2, .assign (.tmp 5), none⟩]
    [⟨some 3, .assign (.tmp 7), none⟩])
  .ret))
theorem c81 : f81.body.bind (comp f81.ntmps) = some p81 := by kernel_rfl
def p84 : PC :=
  (.seq (.reg [⟨some 1, .box 24 (.tmp 0), none⟩,
    ⟨some 2, .assign (.const (.int .i64 0)), none⟩,
    ⟨some 3, .assign (.const (.int .i64 0)), none⟩])
  (.seq (.draw [0, 1, 0, 4, 3, 31] [⟨some 4, .fieldAddr 24 (.tmp 1) 0, none⟩,
    ⟨some 5, .load 3 (.tmp 4), none⟩,
    ⟨some 6, .fieldAddr 24 (.tmp 1) 1, none⟩,
    ⟨some 7, .load 3 (.tmp 6), none⟩,
    ⟨some 2, .assign (.tmp 5), none⟩]
    [⟨some 3, .assign (.tmp 7), none⟩])
  .ret))
theorem c84 : f84.body.bind (comp f84.ntmps) = some p84 := by kernel_rfl
def p85l0 : PC :=
  (.seq (.reg [⟨some 8, .binOp .lss 3 (.tmp 7) (.tmp 6) 3, none⟩])
  (.seq (.cond (.tmp 8)
    .skip
    (.exit 0))
  (.seq (.block 1
    (.seq (.reg [⟨some 9, .indexAddr 30 (.tmp 5) (.tmp 7), none⟩,
      ⟨some 10, .load 24 (.tmp 9), none⟩,
      ⟨some 4, .alloc 24, none⟩,
      ⟨none, .store 24 (.tmp 4) (.tmp 10), none⟩])
    (.seq (.reg [⟨some 11, .fieldAddr 24 (.tmp 4) 0, none⟩,
      ⟨some 12, .load 3 (.tmp 11), none⟩,
      ⟨some 13, .fieldAddr 24 (.tmp 4) 1, none⟩,
      ⟨some 14, .load 3 (.tmp 13), none⟩,
      ⟨some 15, .binOp .gtr 3 (.tmp 12) (.tmp 14) 3, none⟩,
      ⟨some 16, .move (.tmp 15), none⟩,
      ⟨some 17, .fieldAddr 24 (.tmp 4) 0, some ((some 16), false)⟩,
      ⟨some 18, .load 3 (.tmp 17), some ((some 16), false)⟩,
      ⟨some 19, .binOp .lss 3 (.tmp 18) (.const (.int .i64 (-1099511627776))) 3, some ((some 16), false)⟩,
      ⟨some 20, .pick (.tmp 16) (.const (.bool true)) (.tmp 19), none⟩,
      ⟨some 21, .move (.tmp 20), none⟩,
      ⟨some 22, .fieldAddr 24 (.tmp 4) 1, some ((some 21), false)⟩,
      ⟨some 23, .load 3 (.tmp 22), some ((some 21), false)⟩,
      ⟨some 24, .binOp .gtr 3 (.tmp 23) (.const (.int .i64 1099511627776)) 3, some ((some 21), false)⟩,
      ⟨some 25, .pick (.tmp 21) (.const (.bool true)) (.tmp 24), none⟩])
    (.cond (.tmp 25)
      (.seq (.reg [⟨some 2, .assign (.const (.bool false)), none⟩])
      .ret)
      .skip))))
  (.reg [⟨some 26, .binOp .add 3 (.tmp 7) (.const (.int .i64 1)) 3, none⟩,
    ⟨some 7, .move (.tmp 26), none⟩]))))
def p85 : PC :=
  (.seq (.reg [⟨some 2, .assign (.const (.bool false)), none⟩])
  (.seq (.seq (.reg [⟨some 5, .move (.tmp 0), none⟩,
    ⟨some 6, .call ⟨.builtin .len, #[(.tmp 5)], #[30]⟩, none⟩,
    ⟨some 7, .move (.const (.int .i64 0)), none⟩])
  (.block 0
    (.loop p85l0)))
  (.seq (.reg [⟨some 2, .assign (.const (.bool true)), none⟩])
  .ret)))
theorem c85 : f85.body.bind (comp f85.ntmps) = some p85 := by kernel_rfl
def p86 : PC :=
  (.seq (.reg [⟨some 6, .alloc 24, none⟩])
  (.seq (.reg [⟨some 7, .assign (.const (.int .u64 2199023255552)), none⟩,
    ⟨some 8, .assign (.const (.int .u64 0)), none⟩])
  (.seq (.reg [⟨some 16, .move (.tmp 0), none⟩,
    ⟨some 17, .call ⟨.value (.func 122), #[(.tmp 16)], #[3]⟩, none⟩,
    ⟨some 18, .move (.tmp 1), none⟩,
    ⟨some 19, .call ⟨.value (.func 122), #[(.tmp 18)], #[3]⟩, none⟩,
    ⟨some 20, .call ⟨.value (.func 121), #[(.tmp 17), (.tmp 19)], #[140, 140]⟩, none⟩,
    ⟨some 15, .move (.tmp 20), none⟩,
    ⟨some 21, .extract (.tmp 15) 0, none⟩,
    ⟨some 22, .extract (.tmp 15) 1, none⟩,
    ⟨some 9, .assign (.tmp 21), none⟩,
    ⟨some 10, .assign (.tmp 22), none⟩])
  (.seq (.seq (.reg [⟨some 23, .move (.tmp 2), none⟩,
    ⟨some 24, .convert 3 140 (.tmp 23), none⟩,
    ⟨some 11, .assign (.tmp 24), none⟩])
  (.seq (.reg [⟨some 25, .move (.tmp 9), none⟩,
    ⟨some 26, .move (.tmp 11), none⟩,
    ⟨some 27, .binOp .lss 140 (.tmp 25) (.tmp 26) 140, none⟩])
  (.cond (.tmp 27)
    (.seq (.reg [⟨some 29, .move (.tmp 9), none⟩,
      ⟨some 30, .move (.tmp 10), none⟩,
      ⟨some 31, .move (.tmp 11), none⟩,
      ⟨some 32, .call ⟨.value (.func 123), #[(.tmp 29), (.tmp 30), (.tmp 31)], #[140, 140, 140]⟩, none⟩,
      ⟨some 28, .move (.tmp 32), none⟩,
      ⟨some 33, .extract (.tmp 28) 0, none⟩,
      ⟨some 34, .extract (.tmp 28) 1, none⟩,
      ⟨some 12, .assign (.tmp 33), none⟩,
      ⟨some 13, .assign (.tmp 34), none⟩])
    (.seq (.reg [⟨some 35, .move (.tmp 12), none⟩,
      ⟨some 36, .binOp .lss 140 (.tmp 35) (.const (.int .u64 2199023255552)) 140, none⟩])
    (.cond (.tmp 36)
      (.reg [⟨some 37, .move (.tmp 12), none⟩,
        ⟨some 38, .move (.tmp 13), none⟩,
        ⟨some 7, .assign (.tmp 37), none⟩,
        ⟨some 8, .assign (.tmp 38), none⟩])
      .skip)))
    .skip)))
  (.seq (.reg [⟨some 39, .move (.tmp 7), none⟩,
    ⟨some 40, .convert 140 3 (.tmp 39), none⟩,
    ⟨some 41, .move (.tmp 7), none⟩,
    ⟨some 42, .convert 140 3 (.tmp 41), none⟩,
    ⟨some 43, .build 24 #[(0, (.tmp 40)), (1, (.tmp 42))], none⟩,
    ⟨some 14, .alloc 24, none⟩,
    ⟨none, .store 24 (.tmp 14) (.tmp 43), none⟩])
  (.seq (.seq (.reg [⟨some 44, .move (.tmp 8), none⟩,
    ⟨some 45, .binOp .gtr 140 (.tmp 44) (.const (.int .u64 0)) 140, none⟩])
  (.cond (.tmp 45)
    (.reg [⟨some 46, .fieldAddr 24 (.tmp 14) 1, none⟩,
      ⟨some 47, .load 3 (.tmp 46), none⟩,
      ⟨some 48, .binOp .add 3 (.tmp 47) (.const (.int .i64 1)) 3, none⟩,
      ⟨some 49, .fieldAddr 24 (.tmp 14) 1, none⟩,
      ⟨none, .store 3 (.tmp 49) (.tmp 48), none⟩])
    .skip))
  (.seq (.seq (.reg [⟨some 50, .move (.tmp 0), none⟩,
    ⟨some 51, .binOp .lss 3 (.tmp 50) (.const (.int .i64 0)) 3, none⟩,
    ⟨some 52, .move (.tmp 1), none⟩,
    ⟨some 53, .binOp .lss 3 (.tmp 52) (.const (.int .i64 0)) 3, none⟩,
    ⟨some 54, .binOp .neq 4 (.tmp 51) (.tmp 53) 4, none⟩])
  (.cond (.tmp 54)
    (.reg [⟨some 55, .fieldAddr 24 (.tmp 14) 1, none⟩,
      ⟨some 56, .load 3 (.tmp 55), none⟩,
      ⟨some 57, .unOp .neg 3 (.tmp 56), none⟩,
      ⟨some 58, .fieldAddr 24 (.tmp 14) 0, none⟩,
      ⟨some 59, .load 3 (.tmp 58), none⟩,
      ⟨some 60, .unOp .neg 3 (.tmp 59), none⟩,
      ⟨some 61, .fieldAddr 24 (.tmp 14) 0, none⟩,
      ⟨none, .store 3 (.tmp 61) (.tmp 57), none⟩,
      ⟨some 62, .fieldAddr 24 (.tmp 14) 1, none⟩,
      ⟨none, .store 3 (.tmp 62) (.tmp 60), none⟩])
    .skip))
  (.seq (.reg [⟨some 63, .load 24 (.tmp 14), none⟩,
    ⟨none, .store 24 (.tmp 6) (.tmp 63), none⟩])
  .ret))))))))
theorem c86 : f86.body.bind (comp f86.ntmps) = some p86 := by kernel_rfl
def p87 : PC :=
  (.seq (.reg [⟨some 1, .box 24 (.tmp 0), none⟩,
    ⟨some 2, .alloc 24, none⟩,
    ⟨some 3, .assign (.const (.int .i64 0)), none⟩])
  (.seq (.seq (.reg [⟨some 4, .fieldAddr 24 (.tmp 1) 0, none⟩,
    ⟨some 5, .load 3 (.tmp 4), none⟩,
    ⟨some 6, .binOp .lss 3 (.tmp 5) (.const (.int .i64 (-1099511627776))) 3, none⟩,
    ⟨some 7, .move (.tmp 6), none⟩,
    ⟨some 8, .fieldAddr 24 (.tmp 1) 1, some ((some 7), false)⟩,
    ⟨some 9, .load 3 (.tmp 8), some ((some 7), false)⟩,
    ⟨some 10, .binOp .gtr 3 (.tmp 9) (.const (.int .i64 1099511627776)) 3, some ((some 7), false)⟩,
    ⟨some 11, .pick (.tmp 7) (.const (.bool true)) (.tmp 10), none⟩])
  (.cond (.tmp 11)
    (.seq (.reg [⟨some 12, .build 24 #[], none⟩,
      ⟨none, .store 24 (.tmp 2) (.tmp 12), none⟩,
      ⟨some 3, .assign (.const (.int .i64 11)), none⟩])
    .ret)
    .skip))
  (.seq (.reg [⟨some 13, .load 24 (.tmp 1), none⟩,
    ⟨none, .store 24 (.tmp 2) (.tmp 13), none⟩,
    ⟨some 3, .assign (.const (.int .i64 0)), none⟩])
  .ret)))
theorem c87 : f87.body.bind (comp f87.ntmps) = some p87 := by kernel_rfl
def p90l0 : PC :=
  (.seq (.seq (.reg [⟨some 6, .move (.tmp 4), none⟩,
    ⟨some 7, .move (.tmp 3), none⟩,
    ⟨some 8, .binOp .sub 3 (.tmp 6) (.tmp 7) 3, none⟩,
    ⟨some 9, .binOp .gtr 3 (.tmp 8) (.const (.int .i64 1)) 3, none⟩])
  (.cond (.tmp 9)
    .skip
    (.exit 0)))
  (.block 1
    (.seq (.reg [⟨some 10, .move (.tmp 3), none⟩,
      ⟨some 11, .move (.tmp 4), none⟩,
      ⟨some 12, .binOp .add 3 (.tmp 10) (.tmp 11) 3, none⟩,
      ⟨some 13, .binOp .quo 3 (.tmp 12) (.const (.int .i64 2)) 3, none⟩,
      ⟨some 5, .assign (.tmp 13), none⟩])
    (.seq (.reg [⟨some 14, .move (.tmp 5), none⟩,
      ⟨some 15, .move (.tmp 5), none⟩,
      ⟨some 16, .binOp .mul 3 (.tmp 14) (.tmp 15) 3, none⟩,
      ⟨some 17, .move (.tmp 0), none⟩,
      ⟨some 18, .binOp .leq 3 (.tmp 16) (.tmp 17) 3, none⟩])
    (.cond (.tmp 18)
      (.reg [⟨some 19, .move (.tmp 5), none⟩,
        ⟨some 3, .assign (.tmp 19), none⟩])
      (.reg [⟨some 20, .move (.tmp 5), none⟩,
        ⟨some 4, .assign (.tmp 20), none⟩]))))))
def p90 : PC :=
  (.seq (.reg [⟨some 2, .assign (.const (.int .i64 0)), none⟩])
  (.seq (.reg [⟨some 3, .assign (.const (.int .i64 0)), none⟩,
    ⟨some 4, .assign (.const (.int .i64 1048577)), none⟩])
  (.seq (.block 0
    (.loop p90l0))
  (.seq (.reg [⟨some 21, .move (.tmp 3), none⟩,
    ⟨some 2, .assign (.tmp 21), none⟩])
  .ret))))
theorem c90 : f90.body.bind (comp f90.ntmps) = some p90 := by kernel_rfl
def p92l0 : PC :=
  (.seq (.reg [⟨some 8, .binOp .lss 3 (.tmp 7) (.tmp 6) 3, none⟩])
  (.seq (.cond (.tmp 8)
    .skip
    (.exit 0))
  (.seq (.block 1
    (.seq (.reg [⟨some 9, .indexAddr 54 (.tmp 5) (.tmp 7), none⟩,
      ⟨some 10, .load 56 (.tmp 9), none⟩,
      ⟨some 4, .alloc 56, none⟩,
      ⟨none, .store 56 (.tmp 4) (.tmp 10), none⟩])
    (.seq (.reg [⟨some 11, .fieldAddr 56 (.tmp 4) 0, none⟩,
      ⟨some 12, .load 3 (.tmp 11), none⟩,
      ⟨some 13, .fieldAddr 56 (.tmp 4) 1, none⟩,
      ⟨some 14, .load 3 (.tmp 13), none⟩,
      ⟨some 15, .call ⟨.builtin .max, #[(.tmp 12), (.tmp 14)], #[3, 3]⟩, none⟩,
      ⟨some 16, .binOp .gtr 3 (.tmp 15) (.const (.int .i64 268435456)) 3, none⟩,
      ⟨some 17, .move (.tmp 16), none⟩,
      ⟨some 18, .fieldAddr 56 (.tmp 4) 0, some ((some 17), false)⟩,
      ⟨some 19, .load 3 (.tmp 18), some ((some 17), false)⟩,
      ⟨some 20, .fieldAddr 56 (.tmp 4) 1, some ((some 17), false)⟩,
      ⟨some 21, .load 3 (.tmp 20), some ((some 17), false)⟩,
      ⟨some 22, .call ⟨.builtin .min, #[(.tmp 19), (.tmp 21)], #[3, 3]⟩, some ((some 17), false)⟩,
      ⟨some 23, .binOp .lss 3 (.tmp 22) (.const (.int .i64 (-268435456))) 3, some ((some 17), false)⟩,
      ⟨some 24, .pick (.tmp 17) (.const (.bool true)) (.tmp 23), none⟩])
    (.cond (.tmp 24)
      (.seq (.reg [⟨some 2, .assign (.const (.bool false)), none⟩])
      .ret)
      .skip))))
  (.reg [⟨some 25, .binOp .add 3 (.tmp 7) (.const (.int .i64 1)) 3, none⟩,
    ⟨some 7, .move (.tmp 25), none⟩]))))
def p92 : PC :=
  (.seq (.reg [⟨some 2, .assign (.const (.bool false)), none⟩])
  (.seq (.seq (.reg [⟨some 5, .move (.tmp 0), none⟩,
    ⟨some 6, .call ⟨.builtin .len, #[(.tmp 5)], #[54]⟩, none⟩,
    ⟨some 7, .move (.const (.int .i64 0)), none⟩])
  (.block 0
    (.loop p92l0)))
  (.seq (.reg [⟨some 2, .assign (.const (.bool true)), none⟩])
  .ret)))
theorem c92 : f92.body.bind (comp f92.ntmps) = some p92 := by kernel_rfl
def p93 : PC :=
  (.seq (.reg [⟨some 2, .assign (.const (.slice none 0 0)), none⟩])
  (.seq (.reg [⟨some 6, .move (.tmp 0), none⟩,
    ⟨some 7, .call ⟨.value (.func 126), #[(.tmp 6)], #[54]⟩, none⟩,
    ⟨some 3, .alloc 54, none⟩,
    ⟨none, .store 54 (.tmp 3) (.tmp 7), none⟩])
  (.seq (.reg [⟨some 8, .load 54 (.tmp 3), none⟩,
    ⟨some 9, .call ⟨.value (.func 127), #[(.tmp 8), (.func 128)], #[54, 148]⟩, none⟩])
  (.seq (.reg [⟨some 10, .load 54 (.tmp 3), none⟩,
    ⟨some 11, .call ⟨.value (.func 129), #[(.tmp 10)], #[54]⟩, none⟩,
    ⟨none, .store 54 (.tmp 3) (.tmp 11), none⟩])
  (.seq (.seq (.reg [⟨some 12, .load 54 (.tmp 3), none⟩,
    ⟨some 13, .call ⟨.builtin .len, #[(.tmp 12)], #[54]⟩, none⟩,
    ⟨some 14, .binOp .lss 3 (.tmp 13) (.const (.int .i64 3)) 3, none⟩])
  (.cond (.tmp 14)
    (.seq (.reg [⟨some 15, .load 54 (.tmp 3), none⟩,
      ⟨some 2, .assign (.tmp 15), none⟩])
    .ret)
    .skip))
  (.seq (.reg [⟨some 4, .alloc 54, none⟩])
  (.seq (.reg [⟨some 16, .makeFunc (.func 130) #[] #[(.tmp 4), (.tmp 3)], none⟩,
    ⟨some 5, .assign (.tmp 16), none⟩])
  (.seq (.reg [⟨some 17, .move (.tmp 5), none⟩,
    ⟨some 18, .call ⟨.value (.tmp 17), #[], #[]⟩, none⟩])
  (.seq (.reg [⟨some 19, .load 54 (.tmp 3), none⟩,
    ⟨some 20, .call ⟨.value (.func 132), #[(.tmp 19)], #[54]⟩, none⟩])
  (.seq (.reg [⟨some 21, .move (.tmp 5), none⟩,
    ⟨some 22, .call ⟨.value (.tmp 21), #[], #[]⟩, none⟩])
  (.seq (.reg [⟨some 23, .load 54 (.tmp 4), none⟩,
    ⟨some 2, .assign (.tmp 23), none⟩])
  .ret)))))))))))
theorem c93 : f93.body.bind (comp f93.ntmps) = some p93 := by kernel_rfl
def p96l0 : PC :=
  (.seq (.reg [⟨some 5, .alloc 56, none⟩,
    ⟨none, .store 56 (.tmp 5) (.tmp 12), none⟩])
  (.reg [⟨some 6, .alloc 56, none⟩,
    ⟨none, .store 56 (.tmp 6) (.tmp 13), none⟩]))
def p96l1 : PC :=
  (.block 1
    (.seq (.seq (.reg [⟨some 14, .load 56 (.tmp 5), none⟩,
      ⟨some 15, .load 56 (.tmp 3), none⟩,
      ⟨some 16, .binOp .eql 56 (.tmp 14) (.tmp 15) 56, none⟩])
    (.cond (.tmp 16)
      (.seq (.reg [⟨none, .store 4 (.tmp 4) (.const (.bool true)), none⟩])
      .ret)
      .skip))
    (.seq (.draw [0, 0, 3, 0, 0, 31, 0, 0, 255, 511] [⟨some 17, .load 56 (.tmp 5), none⟩,
      ⟨some 18, .load 56 (.tmp 6), none⟩,
      ⟨some 19, .call ⟨.value (.func 110), #[(.tmp 17), (.tmp 18)], #[56, 56]⟩, none⟩,
      ⟨some 20, .load 56 (.tmp 5), none⟩,
      ⟨some 21, .load 56 (.tmp 3), none⟩,
      ⟨some 22, .call ⟨.value (.func 110), #[(.tmp 20), (.tmp 21)], #[56, 56]⟩, none⟩,
      ⟨some 7, .alloc 56, none⟩,
      ⟨some 8, .alloc 56, none⟩]
      [⟨none, .store 56 (.tmp 7) (.tmp 19), none⟩,
      ⟨none, .store 56 (.tmp 8) (.tmp 22), none⟩])
    (.seq (.reg [⟨some 23, .load 56 (.tmp 7), none⟩,
      ⟨some 24, .load 56 (.tmp 8), none⟩,
      ⟨some 25, .call ⟨.value (.func 131), #[(.tmp 23), (.tmp 24)], #[56, 56]⟩, none⟩,
      ⟨some 9, .assign (.tmp 25), none⟩])
    (.seq (.reg [⟨some 26, .move (.tmp 9), none⟩,
      ⟨some 27, .binOp .lss 3 (.tmp 26) (.const (.int .i64 0)) 3, none⟩,
      ⟨some 28, .move (.tmp 27), none⟩,
      ⟨some 29, .move (.tmp 9), some ((some 28), false)⟩,
      ⟨some 30, .binOp .eql 3 (.tmp 29) (.const (.int .i64 0)) 3, some ((some 28), false)⟩,
      ⟨some 31, .move (.tmp 30), some ((some 28), false)⟩,
      ⟨some 32, .load 54 (.tmp 2), some ((some 31), true)⟩,
      ⟨some 33, .call ⟨.builtin .len, #[(.tmp 32)], #[54]⟩, some ((some 31), true)⟩,
      ⟨some 34, .binOp .lss 3 (.tmp 33) (.const (.int .i64 3)) 3, some ((some 31), true)⟩,
      ⟨some 35, .pick (.tmp 31) (.tmp 34) (.const (.bool false)), some ((some 28), false)⟩,
      ⟨some 36, .move (.tmp 35), some ((some 28), false)⟩,
      ⟨some 37, .fieldAddr 56 (.tmp 8) 0, some ((some 36), true)⟩,
      ⟨some 38, .load 3 (.tmp 37), some ((some 36), true)⟩,
      ⟨some 39, .fieldAddr 56 (.tmp 7) 0, some ((some 36), true)⟩,
      ⟨some 40, .load 3 (.tmp 39), some ((some 36), true)⟩,
      ⟨some 41, .binOp .mul 3 (.tmp 38) (.tmp 40) 3, some ((some 36), true)⟩,
      ⟨some 42, .binOp .geq 3 (.tmp 41) (.const (.int .i64 0)) 3, some ((some 36), true)⟩,
      ⟨some 43, .move (.tmp 42), some ((some 36), true)⟩,
      ⟨some 44, .fieldAddr 56 (.tmp 8) 1, some ((some 43), true)⟩,
      ⟨some 45, .load 3 (.tmp 44), some ((some 43), true)⟩,
      ⟨some 46, .fieldAddr 56 (.tmp 7) 1, some ((some 43), true)⟩,
      ⟨some 47, .load 3 (.tmp 46), some ((some 43), true)⟩,
      ⟨some 48, .binOp .mul 3 (.tmp 45) (.tmp 47) 3, some ((some 43), true)⟩,
      ⟨some 49, .binOp .geq 3 (.tmp 48) (.const (.int .i64 0)) 3, some ((some 43), true)⟩,
      ⟨some 50, .pick (.tmp 43) (.tmp 49) (.const (.bool false)), some ((some 36), true)⟩,
      ⟨some 51, .move (.tmp 50), some ((some 36), true)⟩,
      ⟨some 52, .fieldAddr 56 (.tmp 8) 0, some ((some 51), true)⟩,
      ⟨some 53, .load 3 (.tmp 52), some ((some 51), true)⟩,
      ⟨some 54, .fieldAddr 56 (.tmp 8) 0, some ((some 51), true)⟩,
      ⟨some 55, .load 3 (.tmp 54), some ((some 51), true)⟩,
      ⟨some 56, .binOp .mul 3 (.tmp 53) (.tmp 55) 3, some ((some 51), true)⟩,
      ⟨some 57, .fieldAddr 56 (.tmp 7) 0, some ((some 51), true)⟩,
      ⟨some 58, .load 3 (.tmp 57), some ((some 51), true)⟩,
      ⟨some 59, .fieldAddr 56 (.tmp 7) 0, some ((some 51), true)⟩,
      ⟨some 60, .load 3 (.tmp 59), some ((some 51), true)⟩,
      ⟨some 61, .binOp .mul 3 (.tmp 58) (.tmp 60) 3, some ((some 51), true)⟩,
      ⟨some 62, .binOp .leq 3 (.tmp 56) (.tmp 61) 3, some ((some 51), true)⟩,
      ⟨some 63, .pick (.tmp 51) (.tmp 62) (.const (.bool false)), some ((some 36), true)⟩,
      ⟨some 64, .move (.tmp 63), some ((some 36), true)⟩,
      ⟨some 65, .fieldAddr 56 (.tmp 8) 1, some ((some 64), true)⟩,
      ⟨some 66, .load 3 (.tmp 65), some ((some 64), true)⟩,
      ⟨some 67, .fieldAddr 56 (.tmp 8) 1, some ((some 64), true)⟩,
      ⟨some 68, .load 3 (.tmp 67), some ((some 64), true)⟩,
      ⟨some 69, .binOp .mul 3 (.tmp 66) (.tmp 68) 3, some ((some 64), true)⟩,
      ⟨some 70, .fieldAddr 56 (.tmp 7) 1, some ((some 64), true)⟩,
      ⟨some 71, .load 3 (.tmp 70), some ((some 64), true)⟩,
      ⟨some 72, .fieldAddr 56 (.tmp 7) 1, some ((some 64), true)⟩,
      ⟨some 73, .load 3 (.tmp 72), some ((some 64), true)⟩,
      ⟨some 74, .binOp .mul 3 (.tmp 71) (.tmp 73) 3, some ((some 64), true)⟩,
      ⟨some 75, .binOp .leq 3 (.tmp 69) (.tmp 74) 3, some ((some 64), true)⟩,
      ⟨some 76, .pick (.tmp 64) (.tmp 75) (.const (.bool false)), some ((some 36), true)⟩,
      ⟨some 77, .unOp .not 4 (.tmp 76), some ((some 36), true)⟩,
      ⟨some 78, .pick (.tmp 36) (.tmp 77) (.const (.bool false)), some ((some 28), false)⟩,
      ⟨some 79, .pick (.tmp 28) (.const (.bool true)) (.tmp 78), none⟩])
    (.cond (.tmp 79)
      (.seq (.reg [⟨none, .store 4 (.tmp 4) (.const (.bool false)), none⟩])
      .ret)
      .skip))))))
def p96 : PC :=
  (.seq (.reg [⟨some 2, .box 54 (.tmp 0), none⟩,
    ⟨some 3, .box 56 (.tmp 1), none⟩,
    ⟨some 4, .alloc 4, none⟩])
  (.seq (.seq (.reg [⟨some 10, .load 54 (.tmp 2), none⟩,
    ⟨some 11, .call ⟨.value (.func 135), #[(.tmp 10)], #[54]⟩, none⟩])
  (.block 0
    (.rangeF (.tmp 11) [12, 13] p96l0 p96l1)))
  (.seq (.reg [⟨some 80, .load 54 (.tmp 2), none⟩,
    ⟨some 81, .call ⟨.builtin .len, #[(.tmp 80)], #[54]⟩, none⟩,
    ⟨some 82, .binOp .gtr 3 (.tmp 81) (.const (.int .i64 1)) 3, none⟩,
    ⟨none, .store 4 (.tmp 4) (.tmp 82), none⟩])
  .ret)))
theorem c96 : f96.body.bind (comp f96.ntmps) = some p96 := by kernel_rfl
def p98l0 : PC :=
  (.seq (.reg [⟨some 9, .binOp .lss 3 (.tmp 8) (.tmp 7) 3, none⟩])
  (.seq (.cond (.tmp 9)
    .skip
    (.exit 0))
  (.seq (.block 1
    (.seq (.reg [⟨some 10, .indexAddr 154 (.tmp 6) (.tmp 8), none⟩,
      ⟨some 11, .load 54 (.tmp 10), none⟩,
      ⟨some 4, .assign (.tmp 11), none⟩])
    (.seq (.reg [⟨some 12, .move (.tmp 4), none⟩,
      ⟨some 13, .call ⟨.value (.func 55), #[(.tmp 12)], #[54]⟩, none⟩,
      ⟨some 5, .assign (.tmp 13), none⟩])
    (.seq (.reg [⟨some 14, .move (.tmp 5), none⟩,
      ⟨some 15, .binOp .neq 25 (.tmp 14) (.const (.int .i64 0)) 25, none⟩])
    (.cond (.tmp 15)
      (.seq (.reg [⟨some 16, .move (.tmp 5), none⟩,
        ⟨some 2, .assign (.tmp 16), none⟩])
      .ret)
      .skip)))))
  (.reg [⟨some 17, .binOp .add 3 (.tmp 8) (.const (.int .i64 1)) 3, none⟩,
    ⟨some 8, .move (.tmp 17), none⟩]))))
def p98 : PC :=
  (.seq (.reg [⟨some 2, .assign (.const (.int .i64 0)), none⟩])
  (.seq (.seq (.reg [⟨some 6, .move (.tmp 0), none⟩,
    ⟨some 7, .call ⟨.builtin .len, #[(.tmp 6)], #[154]⟩, none⟩,
    ⟨some 8, .move (.const (.int .i64 0)), none⟩])
  (.block 0
    (.loop p98l0)))
  (.seq (.reg [⟨some 2, .assign (.const (.int .i64 0)), none⟩])
  .ret)))
theorem c98 : f98.body.bind (comp f98.ntmps) = some p98 := by kernel_rfl
def p101l0 : PC :=
  (.seq (.reg [⟨some 14, .binOp .lss 3 (.tmp 13) (.tmp 12) 3, none⟩])
  (.seq (.cond (.tmp 14)
    .skip
    (.exit 0))
  (.seq (.block 1
    (.seq (.reg [⟨some 15, .move (.tmp 13), none⟩,
      ⟨some 5, .assign (.tmp 15), none⟩])
    (.seq (.draw [0, 0, 3, 7, 0, 0, 48, 112, 255] [⟨some 16, .move (.tmp 0), none⟩,
      ⟨some 17, .move (.tmp 5), none⟩,
      ⟨some 18, .indexAddr 54 (.tmp 16) (.tmp 17), none⟩,
      ⟨some 19, .load 56 (.tmp 18), none⟩,
      ⟨some 20, .move (.tmp 1), none⟩,
      ⟨some 21, .move (.tmp 5), none⟩,
      ⟨some 22, .indexAddr 54 (.tmp 20) (.tmp 21), none⟩,
      ⟨some 23, .load 56 (.tmp 22), none⟩]
      [⟨some 24, .binOp .neq 56 (.tmp 19) (.tmp 23) 56, none⟩])
    (.cond (.tmp 24)
      (.seq (.reg [⟨some 4, .assign (.const (.bool false)), none⟩])
      .ret)
      .skip))))
  (.reg [⟨some 25, .binOp .add 3 (.tmp 13) (.const (.int .i64 1)) 3, none⟩,
    ⟨some 13, .move (.tmp 25), none⟩]))))
def p101 : PC :=
  (.seq (.reg [⟨some 4, .assign (.const (.bool false)), none⟩])
  (.seq (.seq (.reg [⟨some 6, .move (.tmp 0), none⟩,
    ⟨some 7, .call ⟨.builtin .len, #[(.tmp 6)], #[54]⟩, none⟩,
    ⟨some 8, .move (.tmp 1), none⟩,
    ⟨some 9, .call ⟨.builtin .len, #[(.tmp 8)], #[54]⟩, none⟩,
    ⟨some 10, .binOp .neq 3 (.tmp 7) (.tmp 9) 3, none⟩])
  (.cond (.tmp 10)
    (.seq (.reg [⟨some 4, .assign (.const (.bool false)), none⟩])
    .ret)
    .skip))
  (.seq (.seq (.reg [⟨some 11, .move (.tmp 0), none⟩,
    ⟨some 12, .call ⟨.builtin .len, #[(.tmp 11)], #[54]⟩, none⟩,
    ⟨some 13, .move (.const (.int .i64 0)), none⟩])
  (.block 0
    (.loop p101l0)))
  (.seq (.reg [⟨some 4, .assign (.const (.bool true)), none⟩])
  .ret))))
theorem c101 : f101.body.bind (comp f101.ntmps) = some p101 := by kernel_rfl
def p102 : PC :=
  (.seq (.reg [⟨some 4, .assign (.const (.bool false)), none⟩])
  (.seq (.reg [⟨some 5, .move (.tmp 0), none⟩,
    ⟨some 6, .move (.tmp 1), none⟩,
    ⟨some 7, .call ⟨.builtin .min, #[(.tmp 5), (.tmp 6)], #[3, 3]⟩, none⟩,
    ⟨some 8, .binOp .geq 3 (.tmp 7) (.const (.int .i64 (-1073741824))) 3, none⟩,
    ⟨some 9, .move (.tmp 8), none⟩,
    ⟨some 10, .move (.tmp 0), some ((some 9), true)⟩,
    ⟨some 11, .move (.tmp 1), some ((some 9), true)⟩,
    ⟨some 12, .call ⟨.builtin .max, #[(.tmp 10), (.tmp 11)], #[3, 3]⟩, some ((some 9), true)⟩,
    ⟨some 13, .binOp .leq 3 (.tmp 12) (.const (.int .i64 1073741824)) 3, some ((some 9), true)⟩,
    ⟨some 14, .pick (.tmp 9) (.tmp 13) (.const (.bool false)), none⟩,
    ⟨some 4, .assign (.tmp 14), none⟩])
  .ret))
theorem c102 : f102.body.bind (comp f102.ntmps) = some p102 := by kernel_rfl
def p103l0 : PC :=
  (.seq (.reg [⟨some 14, .binOp .lss 3 (.tmp 13) (.tmp 12) 3, none⟩])
  (.seq (.cond (.tmp 14)
    .skip
    (.exit 0))
  (.seq (.block 1
    (.seq (.reg [⟨some 15, .move (.tmp 13), none⟩,
      ⟨some 16, .indexAddr 54 (.tmp 11) (.tmp 13), none⟩,
      ⟨some 17, .load 56 (.tmp 16), none⟩,
      ⟨some 9, .alloc 56, none⟩,
      ⟨some 8, .assign (.tmp 15), none⟩,
      ⟨none, .store 56 (.tmp 9) (.tmp 17), none⟩])
    (.seq (.reg [⟨some 18, .move (.tmp 1), none⟩,
      ⟨some 19, .fieldAddr 56 (.tmp 9) 0, none⟩,
      ⟨some 20, .load 3 (.tmp 19), none⟩,
      ⟨some 21, .binOp .mul 3 (.tmp 18) (.tmp 20) 3, none⟩,
      ⟨some 22, .move (.tmp 2), none⟩,
      ⟨some 23, .fieldAddr 56 (.tmp 9) 1, none⟩,
      ⟨some 24, .load 3 (.tmp 23), none⟩,
      ⟨some 25, .binOp .mul 3 (.tmp 22) (.tmp 24) 3, none⟩,
      ⟨some 26, .binOp .add 3 (.tmp 21) (.tmp 25) 3, none⟩,
      ⟨some 10, .assign (.tmp 26), none⟩])
    (.seq (.seq (.reg [⟨some 27, .move (.tmp 8), none⟩,
      ⟨some 28, .binOp .eql 3 (.tmp 27) (.const (.int .i64 0)) 3, none⟩])
    (.cond (.tmp 28)
      (.reg [⟨some 29, .move (.tmp 10), none⟩,
        ⟨some 30, .move (.tmp 10), none⟩,
        ⟨some 6, .assign (.tmp 29), none⟩,
        ⟨some 7, .assign (.tmp 30), none⟩])
      .skip))
    (.reg [⟨some 31, .move (.tmp 6), none⟩,
      ⟨some 32, .move (.tmp 10), none⟩,
      ⟨some 33, .call ⟨.builtin .min, #[(.tmp 31), (.tmp 32)], #[3, 3]⟩, none⟩,
      ⟨some 34, .move (.tmp 7), none⟩,
      ⟨some 35, .move (.tmp 10), none⟩,
      ⟨some 36, .call ⟨.builtin .max, #[(.tmp 34), (.tmp 35)], #[3, 3]⟩, none⟩,
      ⟨some 6, .assign (.tmp 33), none⟩,
      ⟨some 7, .assign (.tmp 36), none⟩])))))
  (.reg [⟨some 37, .binOp .add 3 (.tmp 13) (.const (.int .i64 1)) 3, none⟩,
    ⟨some 13, .move (.tmp 37), none⟩]))))
def p103 : PC :=
  (.seq (.reg [⟨some 6, .assign (.const (.int .i64 0)), none⟩,
    ⟨some 7, .assign (.const (.int .i64 0)), none⟩])
  (.seq (.seq (.reg [⟨some 11, .move (.tmp 0), none⟩,
    ⟨some 12, .call ⟨.builtin .len, #[(.tmp 11)], #[54]⟩, none⟩,
    ⟨some 13, .move (.const (.int .i64 0)), none⟩])
  (.block 0
    (.loop p103l0)))
  (.seq (.reg [⟨some 38, .move (.tmp 6), none⟩,
    ⟨some 39, .move (.tmp 7), none⟩,
    ⟨some 6, .assign (.tmp 38), none⟩,
    ⟨some 7, .assign (.tmp 39), none⟩])
  .ret)))
theorem c103 : f103.body.bind (comp f103.ntmps) = some p103 := by kernel_rfl
def p105l0 : PC :=
  (.seq (.reg [⟨some 42, .binOp .lss 3 (.tmp 41) (.tmp 40) 3, none⟩])
  (.seq (.cond (.tmp 42)
    .skip
    (.exit 0))
  (.seq (.block 1
    (.seq (.reg [⟨some 43, .indexAddr 54 (.tmp 39) (.tmp 41), none⟩,
      ⟨some 44, .load 56 (.tmp 43), none⟩,
      ⟨some 9, .alloc 56, none⟩,
      ⟨none, .store 56 (.tmp 9) (.tmp 44), none⟩])
    (.seq (.reg [⟨some 45, .fieldAddr 56 (.tmp 6) 0, none⟩,
      ⟨some 46, .load 3 (.tmp 45), none⟩,
      ⟨some 47, .fieldAddr 56 (.tmp 9) 0, none⟩,
      ⟨some 48, .load 3 (.tmp 47), none⟩,
      ⟨some 49, .binOp .add 3 (.tmp 46) (.tmp 48) 3, none⟩,
      ⟨some 50, .fieldAddr 56 (.tmp 6) 1, none⟩,
      ⟨some 51, .load 3 (.tmp 50), none⟩,
      ⟨some 52, .fieldAddr 56 (.tmp 9) 1, none⟩,
      ⟨some 53, .load 3 (.tmp 52), none⟩,
      ⟨some 54, .binOp .add 3 (.tmp 51) (.tmp 53) 3, none⟩,
      ⟨some 55, .build 56 #[(0, (.tmp 49)), (1, (.tmp 54))], none⟩,
      ⟨none, .store 56 (.tmp 6) (.tmp 55), none⟩])
    (.reg [⟨some 56, .move (.tmp 7), none⟩,
      ⟨some 57, .load 56 (.tmp 6), none⟩,
      ⟨some 58, .buildSlice 54 1 #[(0, (.tmp 57))], none⟩,
      ⟨some 59, .call ⟨.builtin .append, #[(.tmp 56), (.tmp 58)], #[54, 54]⟩, none⟩,
      ⟨some 7, .assign (.tmp 59), none⟩]))))
  (.reg [⟨some 60, .binOp .add 3 (.tmp 41) (.const (.int .i64 1)) 3, none⟩,
    ⟨some 41, .move (.tmp 60), none⟩]))))
def p105 : PC :=
  (.seq (.reg [⟨some 4, .assign (.const (.slice none 0 0)), none⟩])
  (.seq (.reg [⟨some 10, .move (.tmp 0), none⟩,
    ⟨some 11, .call ⟨.value (.func 109), #[(.tmp 10)], #[54]⟩, none⟩,
    ⟨some 12, .move (.tmp 1), none⟩,
    ⟨some 13, .call ⟨.value (.func 109), #[(.tmp 12)], #[54]⟩, none⟩,
    ⟨some 14, .buildSlice 154 2 #[(0, (.tmp 11)), (1, (.tmp 13))], none⟩,
    ⟨some 15, .call ⟨.value (.func 108), #[(.tmp 14)], #[154]⟩, none⟩,
    ⟨some 5, .assign (.tmp 15), none⟩])
  (.seq (.reg [⟨some 16, .move (.tmp 5), none⟩,
    ⟨some 17, .call ⟨.value (.func 138), #[(.tmp 16), (.func 139)], #[54, 148]⟩, none⟩])
  (.seq (.draw [0, 1, 3, 7, 0, 16, 48, 112, 255, 0, 512, 1536, 3584, 0, 8192, 24576, 57344, 130560, 262143, 0, 1048575] [⟨some 18, .move (.tmp 0), none⟩,
    ⟨some 19, .indexAddr 54 (.tmp 18) (.const (.int .i64 0)), none⟩,
    ⟨some 20, .fieldAddr 56 (.tmp 19) 0, none⟩,
    ⟨some 21, .load 3 (.tmp 20), none⟩,
    ⟨some 22, .move (.tmp 1), none⟩,
    ⟨some 23, .indexAddr 54 (.tmp 22) (.const (.int .i64 0)), none⟩,
    ⟨some 24, .fieldAddr 56 (.tmp 23) 0, none⟩,
    ⟨some 25, .load 3 (.tmp 24), none⟩,
    ⟨some 26, .binOp .add 3 (.tmp 21) (.tmp 25) 3, none⟩,
    ⟨some 27, .move (.tmp 0), none⟩,
    ⟨some 28, .indexAddr 54 (.tmp 27) (.const (.int .i64 0)), none⟩,
    ⟨some 29, .fieldAddr 56 (.tmp 28) 1, none⟩,
    ⟨some 30, .load 3 (.tmp 29), none⟩,
    ⟨some 31, .move (.tmp 1), none⟩,
    ⟨some 32, .indexAddr 54 (.tmp 31) (.const (.int .i64 0)), none⟩,
    ⟨some 33, .fieldAddr 56 (.tmp 32) 1, none⟩,
    ⟨some 34, .load 3 (.tmp 33), none⟩,
    ⟨some 35, .binOp .add 3 (.tmp 30) (.tmp 34) 3, none⟩,
    ⟨some 36, .build 56 #[(0, (.tmp 26)), (1, (.tmp 35))], none⟩,
    ⟨some 6, .alloc 56, none⟩]
    [⟨none, .store 56 (.tmp 6) (.tmp 36), none⟩])
  (.seq (.reg [⟨some 37, .load 56 (.tmp 6), none⟩,
    ⟨some 38, .buildSlice 54 1 #[(0, (.tmp 37))], none⟩,
    ⟨some 7, .assign (.tmp 38), none⟩])
  (.seq (.seq (.reg [⟨some 39, .move (.tmp 5), none⟩,
    ⟨some 40, .call ⟨.builtin .len, #[(.tmp 39)], #[54]⟩, none⟩,
    ⟨some 41, .move (.const (.int .i64 0)), none⟩])
  (.block 0
    (.loop p105l0)))
  (.seq (.reg [⟨some 61, .move (.tmp 7), none⟩,
    ⟨some 62, .call ⟨.value (.func 93), #[(.tmp 61)], #[54]⟩, none⟩,
    ⟨some 4, .assign (.tmp 62), none⟩])
  .ret)))))))
theorem c105 : f105.body.bind (comp f105.ntmps) = some p105 := by kernel_rfl
def p107 : PC :=
  (.seq (.reg [⟨some 8, .assign (.const (.bool false)), none⟩])
  (.seq (.reg [⟨some 14, .move (.tmp 0), none⟩,
    ⟨some 15, .move (.tmp 2), none⟩,
    ⟨some 16, .move (.tmp 3), none⟩,
    ⟨some 17, .call ⟨.value (.func 103), #[(.tmp 14), (.tmp 15), (.tmp 16)], #[54, 3, 3]⟩, none⟩,
    ⟨some 13, .move (.tmp 17), none⟩,
    ⟨some 18, .extract (.tmp 13) 0, none⟩,
    ⟨some 19, .extract (.tmp 13) 1, none⟩,
    ⟨some 9, .assign (.tmp 18), none⟩,
    ⟨some 10, .assign (.tmp 19), none⟩])
  (.seq (.reg [⟨some 21, .move (.tmp 1), none⟩,
    ⟨some 22, .move (.tmp 2), none⟩,
    ⟨some 23, .move (.tmp 3), none⟩,
    ⟨some 24, .call ⟨.value (.func 103), #[(.tmp 21), (.tmp 22), (.tmp 23)], #[54, 3, 3]⟩, none⟩,
    ⟨some 20, .move (.tmp 24), none⟩,
    ⟨some 25, .extract (.tmp 20) 0, none⟩,
    ⟨some 26, .extract (.tmp 20) 1, none⟩,
    ⟨some 11, .assign (.tmp 25), none⟩,
    ⟨some 12, .assign (.tmp 26), none⟩])
  (.seq (.reg [⟨some 27, .move (.tmp 10), none⟩,
    ⟨some 28, .move (.tmp 11), none⟩,
    ⟨some 29, .binOp .lss 3 (.tmp 27) (.tmp 28) 3, none⟩,
    ⟨some 8, .assign (.tmp 29), none⟩])
  .ret))))
theorem c107 : f107.body.bind (comp f107.ntmps) = some p107 := by kernel_rfl
def p108l0 : PC :=
  (.seq (.reg [⟨some 12, .binOp .lss 3 (.tmp 11) (.tmp 10) 3, none⟩])
  (.seq (.cond (.tmp 12)
    .skip
    (.exit 0))
  (.seq (.block 1
    (.seq (.reg [⟨some 13, .indexAddr 154 (.tmp 9) (.tmp 11), none⟩,
      ⟨some 14, .load 54 (.tmp 13), none⟩,
      ⟨some 5, .assign (.tmp 14), none⟩])
    (.seq (.reg [⟨some 15, .move (.tmp 3), none⟩,
      ⟨some 16, .move (.tmp 5), none⟩,
      ⟨some 17, .call ⟨.builtin .len, #[(.tmp 16)], #[54]⟩, none⟩,
      ⟨some 18, .binOp .add 3 (.tmp 15) (.tmp 17) 3, none⟩,
      ⟨some 3, .assign (.tmp 18), none⟩])
    (.seq (.reg [⟨some 19, .move (.tmp 3), none⟩,
      ⟨some 20, .binOp .lss 3 (.tmp 19) (.const (.int .i64 0)) 3, none⟩])
    (.cond (.tmp 20)
      (.reg [⟨some 21, .makeInterface 9 (.const (.string ⟨#[108, 101, 110, 32, 111, 117, 116, 32, 111, 102, 32, 114, 97, 110, 103, 101]⟩)), none⟩,
        ⟨none, .panic (.tmp 21), none⟩])
      .skip)))))
  (.reg [⟨some 22, .binOp .add 3 (.tmp 11) (.const (.int .i64 1)) 3, none⟩,
    ⟨some 11, .move (.tmp 22), none⟩]))))
def p108l1 : PC :=
  (.seq (.reg [⟨some 28, .binOp .lss 3 (.tmp 27) (.tmp 26) 3, none⟩])
  (.seq (.cond (.tmp 28)
    .skip
    (.exit 2))
  (.seq (.block 3
    (.seq (.reg [⟨some 29, .indexAddr 154 (.tmp 25) (.tmp 27), none⟩,
      ⟨some 30, .load 54 (.tmp 29), none⟩,
      ⟨some 8, .assign (.tmp 30), none⟩])
    (.reg [⟨some 31, .move (.tmp 6), none⟩,
      ⟨some 32, .move (.tmp 8), none⟩,
      ⟨some 33, .call ⟨.builtin .append, #[(.tmp 31), (.tmp 32)], #[54, 54]⟩, none⟩,
      ⟨some 6, .assign (.tmp 33), none⟩])))
  (.reg [⟨some 34, .binOp .add 3 (.tmp 27) (.const (.int .i64 1)) 3, none⟩,
    ⟨some 27, .move (.tmp 34), none⟩]))))
def p108 : PC :=
  (.seq (.reg [⟨some 2, .assign (.const (.slice none 0 0)), none⟩])
  (.seq (.reg [⟨some 3, .assign (.const (.int .i64 0)), none⟩])
  (.seq (.seq (.reg [⟨some 9, .move (.tmp 0), none⟩,
    ⟨some 10, .call ⟨.builtin .len, #[(.tmp 9)], #[154]⟩, none⟩,
    ⟨some 11, .move (.const (.int .i64 0)), none⟩])
  (.block 0
    (.loop p108l0)))
  (.seq (.reg [⟨some 23, .move (.tmp 3), none⟩,
    ⟨some 24, .call ⟨.value (.func 143), #[(.const (.slice none 0 0)), (.tmp 23)], #[54, 3]⟩, none⟩,
    ⟨some 6, .assign (.tmp 24), none⟩])
  (.seq (.seq (.reg [⟨some 25, .move (.tmp 0), none⟩,
    ⟨some 26, .call ⟨.builtin .len, #[(.tmp 25)], #[154]⟩, none⟩,
    ⟨some 27, .move (.const (.int .i64 0)), none⟩])
  (.block 2
    (.loop p108l1)))
  (.seq (.reg [⟨some 35, .move (.tmp 6), none⟩,
    ⟨some 2, .assign (.tmp 35), none⟩])
  .ret))))))
theorem c108 : f108.body.bind (comp f108.ntmps) = some p108 := by kernel_rfl
def p109l0 : PC :=
  (.seq (.reg [⟨some 4, .alloc 56, none⟩,
    ⟨none, .store 56 (.tmp 4) (.tmp 11), none⟩])
  (.reg [⟨some 5, .alloc 56, none⟩,
    ⟨none, .store 56 (.tmp 5) (.tmp 12), none⟩]))
def p109l1 : PC :=
  (.block 1
    (.draw [0, 0, 0, 6, 14, 31, 63] [⟨some 13, .load 54 (.tmp 3), none⟩,
      ⟨some 14, .load 56 (.tmp 4), none⟩,
      ⟨some 15, .load 56 (.tmp 5), none⟩,
      ⟨some 16, .call ⟨.value (.func 110), #[(.tmp 14), (.tmp 15)], #[56, 56]⟩, none⟩,
      ⟨some 17, .buildSlice 54 1 #[(0, (.tmp 16))], none⟩]
      [⟨some 18, .call ⟨.builtin .append, #[(.tmp 13), (.tmp 17)], #[54, 54]⟩, none⟩,
      ⟨none, .store 54 (.tmp 3) (.tmp 18), none⟩]))
def p109 : PC :=
  (.seq (.reg [⟨some 2, .assign (.const (.slice none 0 0)), none⟩])
  (.seq (.reg [⟨some 3, .alloc 54, none⟩])
  (.seq (.seq (.reg [⟨some 6, .move (.tmp 0), none⟩,
    ⟨some 7, .call ⟨.builtin .len, #[(.tmp 6)], #[54]⟩, none⟩,
    ⟨some 8, .binOp .gtr 3 (.tmp 7) (.const (.int .i64 1)) 3, none⟩])
  (.cond (.tmp 8)
    (.seq (.reg [⟨some 9, .move (.tmp 0), none⟩,
      ⟨some 10, .call ⟨.value (.func 135), #[(.tmp 9)], #[54]⟩, none⟩])
    (.block 0
      (.rangeF (.tmp 10) [11, 12] p109l0 p109l1)))
    .skip))
  (.seq (.reg [⟨some 19, .load 54 (.tmp 3), none⟩,
    ⟨some 2, .assign (.tmp 19), none⟩])
  .ret))))
theorem c109 : f109.body.bind (comp f109.ntmps) = some p109 := by kernel_rfl
def p110 : PC :=
  (.seq (.reg [⟨some 2, .box 56 (.tmp 0), none⟩,
    ⟨some 3, .box 56 (.tmp 1), none⟩,
    ⟨some 4, .alloc 56, none⟩])
  (.seq (.reg [⟨some 5, .fieldAddr 56 (.tmp 3) 0, none⟩,
    ⟨some 6, .load 3 (.tmp 5), none⟩,
    ⟨some 7, .fieldAddr 56 (.tmp 2) 0, none⟩,
    ⟨some 8, .load 3 (.tmp 7), none⟩,
    ⟨some 9, .binOp .sub 3 (.tmp 6) (.tmp 8) 3, none⟩,
    ⟨some 10, .fieldAddr 56 (.tmp 3) 1, none⟩,
    ⟨some 11, .load 3 (.tmp 10), none⟩,
    ⟨some 12, .fieldAddr 56 (.tmp 2) 1, none⟩,
    ⟨some 13, .load 3 (.tmp 12), none⟩,
    ⟨some 14, .binOp .sub 3 (.tmp 11) (.tmp 13) 3, none⟩,
    ⟨some 15, .build 56 #[(0, (.tmp 9)), (1, (.tmp 14))], none⟩,
    ⟨none, .store 56 (.tmp 4) (.tmp 15), none⟩])
  .ret))
theorem c110 : f110.body.bind (comp f110.ntmps) = some p110 := by kernel_rfl
def p111l0 : PC :=
  (.seq (.seq (.reg [⟨some 9, .move (.tmp 5), none⟩,
    ⟨some 10, .move (.tmp 6), none⟩,
    ⟨some 11, .binOp .lss 3 (.tmp 9) (.tmp 10) 3, none⟩])
  (.cond (.tmp 11)
    .skip
    (.exit 0)))
  (.block 1
    (.seq (.reg [⟨some 12, .move (.tmp 5), none⟩,
      ⟨some 13, .move (.tmp 6), none⟩,
      ⟨some 14, .binOp .add 3 (.tmp 12) (.tmp 13) 3, none⟩,
      ⟨some 15, .convert 3 116 (.tmp 14), none⟩,
      ⟨some 16, .binOp .shr 116 (.tmp 15) (.const (.int .u64 1)) 116, none⟩,
      ⟨some 17, .convert 116 3 (.tmp 16), none⟩,
      ⟨some 7, .assign (.tmp 17), none⟩])
    (.seq (.reg [⟨some 18, .move (.tmp 1), none⟩,
      ⟨some 19, .move (.tmp 7), none⟩,
      ⟨some 20, .call ⟨.value (.tmp 18), #[(.tmp 19)], #[3]⟩, none⟩,
      ⟨some 21, .unOp .not 4 (.tmp 20), none⟩])
    (.cond (.tmp 21)
      (.reg [⟨some 22, .move (.tmp 7), none⟩,
        ⟨some 23, .binOp .add 3 (.tmp 22) (.const (.int .i64 1)) 3, none⟩,
        ⟨some 5, .assign (.tmp 23), none⟩])
      (.reg [⟨some 24, .move (.tmp 7), none⟩,
        ⟨some 6, .assign (.tmp 24), none⟩]))))))
def p111 : PC :=
  (.seq (.reg [⟨some 4, .assign (.const (.int .i64 0)), none⟩])
  (.seq (.reg [⟨some 8, .move (.tmp 0), none⟩,
    ⟨some 5, .assign (.const (.int .i64 0)), none⟩,
    ⟨some 6, .assign (.tmp 8), none⟩])
  (.seq (.block 0
    (.loop p111l0))
  (.seq (.reg [⟨some 25, .move (.tmp 5), none⟩,
    ⟨some 4, .assign (.tmp 25), none⟩])
  .ret))))
theorem c111 : f111.body.bind (comp f111.ntmps) = some p111 := by kernel_rfl
def p112 : PC :=
  (.seq (.reg [⟨some 4, .assign (.const (.bool false)), none⟩])
  (.seq (.draw [0, 0, 3, 7, 15, 0, 63, 127] [⟨some 5, .load 22 (.tmp 1), none⟩,
    ⟨some 6, .move (.tmp 0), none⟩,
    ⟨some 7, .indexAddr 22 (.tmp 5) (.tmp 6), none⟩,
    ⟨some 8, .fieldAddr 87 (.tmp 7) 0, none⟩,
    ⟨some 9, .load 3 (.tmp 8), none⟩,
    ⟨some 10, .load 3 (.tmp 2), none⟩]
    [⟨some 11, .binOp .gtr 3 (.tmp 9) (.tmp 10) 3, none⟩,
    ⟨some 4, .assign (.tmp 11), none⟩])
  .ret))
theorem c112 : f112.body.bind (comp f112.ntmps) = some p112 := by kernel_rfl
def p113 : PC :=
  (.seq (.reg [⟨some 4, .assign (.const (.int .i64 0)), none⟩])
  (.seq (.reg [⟨some 6, .move (.tmp 0), none⟩,
    ⟨some 7, .move (.tmp 1), none⟩,
    ⟨some 8, .binOp .quo 3 (.tmp 6) (.tmp 7) 3, none⟩,
    ⟨some 5, .assign (.tmp 8), none⟩])
  (.seq (.seq (.reg [⟨some 9, .move (.tmp 5), none⟩,
    ⟨some 10, .move (.tmp 1), none⟩,
    ⟨some 11, .binOp .mul 3 (.tmp 9) (.tmp 10) 3, none⟩,
    ⟨some 12, .move (.tmp 0), none⟩,
    ⟨some 13, .binOp .gtr 3 (.tmp 11) (.tmp 12) 3, none⟩])
  (.cond (.tmp 13)
    (.reg [⟨some 14, .move (.tmp 5), none⟩,
      ⟨some 15, .binOp .sub 3 (.tmp 14) (.const (.int .i64 1)) 3, none⟩,
      ⟨some 5, .assign (.tmp 15), none⟩])
    .skip))
  (.seq (.reg [⟨some 16, .move (.tmp 5), none⟩,
    ⟨some 4, .assign (.tmp 16), none⟩])
  .ret))))
theorem c113 : f113.body.bind (comp f113.ntmps) = some p113 := by kernel_rfl
def p116 : PC :=
  (.seq (.reg [⟨some 2, .box 24 (.tmp 0), none⟩])
  (.seq (.reg [⟨some 4, .load 30 (.tmp 1), none⟩,
    ⟨some 5, .call ⟨.builtin .len, #[(.tmp 4)], #[30]⟩, none⟩,
    ⟨some 6, .binOp .sub 3 (.tmp 5) (.const (.int .i64 1)) 3, none⟩,
    ⟨some 3, .assign (.tmp 6), none⟩])
  (.seq (.draw [0, 1, 3, 7, 15, 7, 7, 103, 231, 487, 999, 2047, 4095] [⟨some 7, .move (.tmp 3), none⟩,
    ⟨some 8, .binOp .geq 3 (.tmp 7) (.const (.int .i64 0)) 3, none⟩,
    ⟨some 9, .move (.tmp 8), none⟩,
    ⟨some 10, .fieldAddr 24 (.tmp 2) 0, some ((some 9), true)⟩,
    ⟨some 11, .load 3 (.tmp 10), some ((some 9), true)⟩,
    ⟨some 12, .load 30 (.tmp 1), some ((some 9), true)⟩,
    ⟨some 13, .move (.tmp 3), some ((some 9), true)⟩,
    ⟨some 14, .indexAddr 30 (.tmp 12) (.tmp 13), some ((some 9), true)⟩,
    ⟨some 15, .fieldAddr 24 (.tmp 14) 1, some ((some 9), true)⟩,
    ⟨some 16, .load 3 (.tmp 15), some ((some 9), true)⟩,
    ⟨some 17, .binOp .add 3 (.tmp 16) (.const (.int .i64 1)) 3, some ((some 9), true)⟩]
    [⟨some 18, .binOp .leq 3 (.tmp 11) (.tmp 17) 3, some ((some 9), true)⟩,
    ⟨some 19, .pick (.tmp 9) (.tmp 18) (.const (.bool false)), none⟩])
  (.cond (.tmp 19)
    (.reg [⟨some 20, .load 30 (.tmp 1), none⟩,
      ⟨some 21, .move (.tmp 3), none⟩,
      ⟨some 22, .fieldAddr 24 (.tmp 2) 1, none⟩,
      ⟨some 23, .load 3 (.tmp 22), none⟩,
      ⟨some 24, .indexAddr 30 (.tmp 20) (.tmp 21), none⟩,
      ⟨some 25, .fieldAddr 24 (.tmp 24) 1, none⟩,
      ⟨none, .store 3 (.tmp 25) (.tmp 23), none⟩])
    (.reg [⟨some 26, .load 30 (.tmp 1), none⟩,
      ⟨some 27, .load 24 (.tmp 2), none⟩,
      ⟨some 28, .buildSlice 30 1 #[(0, (.tmp 27))], none⟩,
      ⟨some 29, .call ⟨.builtin .append, #[(.tmp 26), (.tmp 28)], #[30, 30]⟩, none⟩,
      ⟨none, .store 30 (.tmp 1) (.tmp 29), none⟩])))))
theorem c116 : f116.body.bind (comp f116.ntmps) = some p116 := by kernel_rfl
def p117 : PC :=
  (.seq (.reg [⟨some 2, .box 136 (.tmp 0), none⟩,
    ⟨some 4, .assign (.const (.int .i64 0)), none⟩,
    ⟨some 5, .assign (.const (.int .i64 0)), none⟩])
  (.seq (.draw [0, 1, 0, 4, 15, 0, 0, 64, 224, 0, 512, 2016, 31, 8191] [⟨some 8, .fieldAddr 136 (.tmp 2) 1, none⟩,
    ⟨some 9, .load 3 (.tmp 8), none⟩,
    ⟨some 10, .fieldAddr 136 (.tmp 2) 0, none⟩,
    ⟨some 11, .load 3 (.tmp 10), none⟩,
    ⟨some 12, .binOp .sub 3 (.tmp 9) (.tmp 11) 3, none⟩,
    ⟨some 13, .move (.tmp 1), none⟩,
    ⟨some 14, .fieldAddr 136 (.tmp 2) 0, none⟩,
    ⟨some 15, .load 3 (.tmp 14), none⟩,
    ⟨some 16, .binOp .sub 3 (.tmp 13) (.tmp 15) 3, none⟩,
    ⟨some 17, .fieldAddr 136 (.tmp 2) 2, none⟩,
    ⟨some 18, .load 3 (.tmp 17), none⟩,
    ⟨some 19, .binOp .mul 3 (.tmp 16) (.tmp 18) 3, none⟩,
    ⟨some 6, .assign (.tmp 12), none⟩]
    [⟨some 7, .assign (.tmp 19), none⟩])
  (.seq (.block 0
    (.seq (.reg [⟨some 21, .move (.tmp 6), none⟩,
      ⟨some 22, .binOp .gtr 3 (.tmp 21) (.const (.int .i64 0)) 3, none⟩,
      ⟨some 20, .assign (.tmp 22), none⟩])
    (.cond (.tmp 20)
      (.seq (.draw [0, 1, 0, 7, 15, 31, 0, 64, 63, 511] [⟨some 23, .move (.tmp 7), none⟩,
        ⟨some 24, .unOp .neg 3 (.tmp 23), none⟩,
        ⟨some 25, .move (.tmp 6), none⟩,
        ⟨some 26, .call ⟨.value (.func 113), #[(.tmp 24), (.tmp 25)], #[3, 3]⟩, none⟩,
        ⟨some 27, .unOp .neg 3 (.tmp 26), none⟩,
        ⟨some 28, .call ⟨.builtin .max, #[(.const (.int .i64 0)), (.tmp 27)], #[3, 3]⟩, none⟩,
        ⟨some 29, .fieldAddr 136 (.tmp 2) 2, none⟩,
        ⟨some 30, .load 3 (.tmp 29), none⟩,
        ⟨some 4, .assign (.tmp 28), none⟩]
        [⟨some 5, .assign (.tmp 30), none⟩])
      .ret)
      (.seq (.reg [⟨some 32, .move (.tmp 6), none⟩,
        ⟨some 33, .binOp .lss 3 (.tmp 32) (.const (.int .i64 0)) 3, none⟩,
        ⟨some 31, .assign (.tmp 33), none⟩])
      (.cond (.tmp 31)
        (.seq (.draw [0, 1, 0, 4, 0, 16, 60, 127, 124, 511] [⟨some 34, .fieldAddr 136 (.tmp 2) 2, none⟩,
          ⟨some 35, .load 3 (.tmp 34), none⟩,
          ⟨some 36, .move (.tmp 7), none⟩,
          ⟨some 37, .unOp .neg 3 (.tmp 36), none⟩,
          ⟨some 38, .move (.tmp 6), none⟩,
          ⟨some 39, .unOp .neg 3 (.tmp 38), none⟩,
          ⟨some 40, .call ⟨.value (.func 113), #[(.tmp 37), (.tmp 39)], #[3, 3]⟩, none⟩,
          ⟨some 41, .call ⟨.builtin .min, #[(.tmp 35), (.tmp 40)], #[3, 3]⟩, none⟩,
          ⟨some 4, .assign (.const (.int .i64 0)), none⟩]
          [⟨some 5, .assign (.tmp 41), none⟩])
        .ret)
        (.seq (.reg [⟨some 43, .move (.tmp 7), none⟩,
          ⟨some 44, .binOp .gtr 3 (.tmp 43) (.const (.int .i64 0)) 3, none⟩,
          ⟨some 42, .assign (.tmp 44), none⟩])
        (.cond (.tmp 42)
          (.seq (.reg [⟨some 4, .assign (.const (.int .i64 1)), none⟩,
            ⟨some 5, .assign (.const (.int .i64 0)), none⟩])
          .ret)
          .skip)))))))
  (.seq (.draw [0, 1, 0, 7] [⟨some 45, .fieldAddr 136 (.tmp 2) 2, none⟩,
    ⟨some 46, .load 3 (.tmp 45), none⟩,
    ⟨some 4, .assign (.const (.int .i64 0)), none⟩]
    [⟨some 5, .assign (.tmp 46), none⟩])
  .ret))))
theorem c117 : f117.body.bind (comp f117.ntmps) = some p117 := by kernel_rfl
def p118 : PC :=
  (.seq (.reg [⟨some 2, .box 136 (.tmp 0), none⟩,
    ⟨some 4, .assign (.const (.int .i64 0)), none⟩,
    ⟨some 5, .assign (.const (.int .i64 0)), none⟩])
  (.seq (.reg [⟨some 6, .fieldAddr 136 (.tmp 2) 0, none⟩,
    ⟨some 7, .load 3 (.tmp 6), none⟩,
    ⟨some 8, .unOp .neg 3 (.tmp 7), none⟩,
    ⟨some 9, .fieldAddr 136 (.tmp 2) 1, none⟩,
    ⟨some 10, .load 3 (.tmp 9), none⟩,
    ⟨some 11, .unOp .neg 3 (.tmp 10), none⟩,
    ⟨some 12, .fieldAddr 136 (.tmp 2) 2, none⟩,
    ⟨some 13, .load 3 (.tmp 12), none⟩,
    ⟨some 14, .build 136 #[(0, (.tmp 8)), (1, (.tmp 11)), (2, (.tmp 13))], none⟩,
    ⟨some 15, .move (.tmp 1), none⟩,
    ⟨some 16, .unOp .neg 3 (.tmp 15), none⟩,
    ⟨some 17, .call ⟨.value (.func 117), #[(.tmp 14), (.tmp 16)], #[136, 3]⟩, none⟩,
    ⟨some 18, .extract (.tmp 17) 0, none⟩,
    ⟨some 19, .extract (.tmp 17) 1, none⟩,
    ⟨some 4, .assign (.tmp 18), none⟩,
    ⟨some 5, .assign (.tmp 19), none⟩])
  .ret))
theorem c118 : f118.body.bind (comp f118.ntmps) = some p118 := by kernel_rfl
def p121 : PC :=
  (.seq (.reg [⟨some 4, .assign (.const (.int .u64 0)), none⟩,
    ⟨some 5, .assign (.const (.int .u64 0)), none⟩])
  (.seq (.reg [⟨some 14, .move (.tmp 0), none⟩,
    ⟨some 15, .binOp .and 140 (.tmp 14) (.const (.int .u64 4294967295)) 140, none⟩,
    ⟨some 6, .assign (.tmp 15), none⟩])
  (.seq (.reg [⟨some 16, .move (.tmp 0), none⟩,
    ⟨some 17, .binOp .shr 140 (.tmp 16) (.const (.int .u64 32)) 116, none⟩,
    ⟨some 7, .assign (.tmp 17), none⟩])
  (.seq (.reg [⟨some 18, .move (.tmp 1), none⟩,
    ⟨some 19, .binOp .and 140 (.tmp 18) (.const (.int .u64 4294967295)) 140, none⟩,
    ⟨some 8, .assign (.tmp 19), none⟩])
  (.seq (.reg [⟨some 20, .move (.tmp 1), none⟩,
    ⟨some 21, .binOp .shr 140 (.tmp 20) (.const (.int .u64 32)) 116, none⟩,
    ⟨some 9, .assign (.tmp 21), none⟩])
  (.seq (.reg [⟨some 22, .move (.tmp 6), none⟩,
    ⟨some 23, .move (.tmp 8), none⟩,
    ⟨some 24, .binOp .mul 140 (.tmp 22) (.tmp 23) 140, none⟩,
    ⟨some 10, .assign (.tmp 24), none⟩])
  (.seq (.reg [⟨some 25, .move (.tmp 7), none⟩,
    ⟨some 26, .move (.tmp 8), none⟩,
    ⟨some 27, .binOp .mul 140 (.tmp 25) (.tmp 26) 140, none⟩,
    ⟨some 28, .move (.tmp 10), none⟩,
    ⟨some 29, .binOp .shr 140 (.tmp 28) (.const (.int .u64 32)) 116, none⟩,
    ⟨some 30, .binOp .add 140 (.tmp 27) (.tmp 29) 140, none⟩,
    ⟨some 11, .assign (.tmp 30), none⟩])
  (.seq (.reg [⟨some 31, .move (.tmp 11), none⟩,
    ⟨some 32, .binOp .and 140 (.tmp 31) (.const (.int .u64 4294967295)) 140, none⟩,
    ⟨some 12, .assign (.tmp 32), none⟩])
  (.seq (.reg [⟨some 33, .move (.tmp 11), none⟩,
    ⟨some 34, .binOp .shr 140 (.tmp 33) (.const (.int .u64 32)) 116, none⟩,
    ⟨some 13, .assign (.tmp 34), none⟩])
  (.seq (.reg [⟨some 35, .move (.tmp 12), none⟩,
    ⟨some 36, .move (.tmp 6), none⟩,
    ⟨some 37, .move (.tmp 9), none⟩,
    ⟨some 38, .binOp .mul 140 (.tmp 36) (.tmp 37) 140, none⟩,
    ⟨some 39, .binOp .add 140 (.tmp 35) (.tmp 38) 140, none⟩,
    ⟨some 12, .assign (.tmp 39), none⟩])
  (.seq (.reg [⟨some 40, .move (.tmp 7), none⟩,
    ⟨some 41, .move (.tmp 9), none⟩,
    ⟨some 42, .binOp .mul 140 (.tmp 40) (.tmp 41) 140, none⟩,
    ⟨some 43, .move (.tmp 13), none⟩,
    ⟨some 44, .binOp .add 140 (.tmp 42) (.tmp 43) 140, none⟩,
    ⟨some 45, .move (.tmp 12), none⟩,
    ⟨some 46, .binOp .shr 140 (.tmp 45) (.const (.int .u64 32)) 116, none⟩,
    ⟨some 47, .binOp .add 140 (.tmp 44) (.tmp 46) 140, none⟩,
    ⟨some 4, .assign (.tmp 47), none⟩])
  (.seq (.reg [⟨some 48, .move (.tmp 0), none⟩,
    ⟨some 49, .move (.tmp 1), none⟩,
    ⟨some 50, .binOp .mul 140 (.tmp 48) (.tmp 49) 140, none⟩,
    ⟨some 5, .assign (.tmp 50), none⟩])
  .ret))))))))))))
theorem c121 : f121.body.bind (comp f121.ntmps) = some p121 := by kernel_rfl
def p122 : PC :=
  (.seq (.reg [⟨some 2, .assign (.const (.int .u64 0)), none⟩])
  (.seq (.reg [⟨some 3, .move (.tmp 0), none⟩,
    ⟨some 4, .move (.tmp 0), none⟩,
    ⟨some 5, .unOp .neg 3 (.tmp 4), none⟩,
    ⟨some 6, .call ⟨.builtin .max, #[(.tmp 3), (.tmp 5)], #[3, 3]⟩, none⟩,
    ⟨some 7, .convert 3 140 (.tmp 6), none⟩,
    ⟨some 2, .assign (.tmp 7), none⟩])
  .ret))
theorem c122 : f122.body.bind (comp f122.ntmps) = some p122 := by kernel_rfl
def p123l0 : PC :=
  (.seq (.seq (.reg [⟨some 67, .move (.tmp 15), none⟩,
    ⟨some 68, .binOp .geq 140 (.tmp 67) (.const (.int .u64 4294967296)) 140, none⟩,
    ⟨some 69, .move (.tmp 68), none⟩,
    ⟨some 70, .move (.tmp 15), some ((some 69), false)⟩,
    ⟨some 71, .move (.tmp 10), some ((some 69), false)⟩,
    ⟨some 72, .binOp .mul 140 (.tmp 70) (.tmp 71) 140, some ((some 69), false)⟩,
    ⟨some 73, .move (.tmp 16), some ((some 69), false)⟩,
    ⟨some 74, .binOp .mul 140 (.const (.int .u64 4294967296)) (.tmp 73) 140, some ((some 69), false)⟩,
    ⟨some 75, .move (.tmp 13), some ((some 69), false)⟩,
    ⟨some 76, .binOp .add 140 (.tmp 74) (.tmp 75) 140, some ((some 69), false)⟩,
    ⟨some 77, .binOp .gtr 140 (.tmp 72) (.tmp 76) 140, some ((some 69), false)⟩,
    ⟨some 78, .pick (.tmp 69) (.const (.bool true)) (.tmp 77), none⟩])
  (.cond (.tmp 78)
    .skip
    (.exit 0)))
  (.block 1
    (.seq (.reg [⟨some 79, .move (.tmp 15), none⟩,
      ⟨some 80, .binOp .sub 140 (.tmp 79) (.const (.int .u64 1)) 140, none⟩,
      ⟨some 15, .assign (.tmp 80), none⟩])
    (.seq (.reg [⟨some 81, .move (.tmp 16), none⟩,
      ⟨some 82, .move (.tmp 9), none⟩,
      ⟨some 83, .binOp .add 140 (.tmp 81) (.tmp 82) 140, none⟩,
      ⟨some 16, .assign (.tmp 83), none⟩])
    (.seq (.reg [⟨some 84, .move (.tmp 16), none⟩,
      ⟨some 85, .binOp .geq 140 (.tmp 84) (.const (.int .u64 4294967296)) 140, none⟩])
    (.cond (.tmp 85)
      (.exit 0)
      .skip))))))
def p123l1 : PC :=
  (.seq (.seq (.reg [⟨some 102, .move (.tmp 18), none⟩,
    ⟨some 103, .binOp .geq 140 (.tmp 102) (.const (.int .u64 4294967296)) 140, none⟩,
    ⟨some 104, .move (.tmp 103), none⟩,
    ⟨some 105, .move (.tmp 18), some ((some 104), false)⟩,
    ⟨some 106, .move (.tmp 10), some ((some 104), false)⟩,
    ⟨some 107, .binOp .mul 140 (.tmp 105) (.tmp 106) 140, some ((some 104), false)⟩,
    ⟨some 108, .move (.tmp 16), some ((some 104), false)⟩,
    ⟨some 109, .binOp .mul 140 (.const (.int .u64 4294967296)) (.tmp 108) 140, some ((some 104), false)⟩,
    ⟨some 110, .move (.tmp 14), some ((some 104), false)⟩,
    ⟨some 111, .binOp .add 140 (.tmp 109) (.tmp 110) 140, some ((some 104), false)⟩,
    ⟨some 112, .binOp .gtr 140 (.tmp 107) (.tmp 111) 140, some ((some 104), false)⟩,
    ⟨some 113, .pick (.tmp 104) (.const (.bool true)) (.tmp 112), none⟩])
  (.cond (.tmp 113)
    .skip
    (.exit 2)))
  (.block 3
    (.seq (.reg [⟨some 114, .move (.tmp 18), none⟩,
      ⟨some 115, .binOp .sub 140 (.tmp 114) (.const (.int .u64 1)) 140, none⟩,
      ⟨some 18, .assign (.tmp 115), none⟩])
    (.seq (.reg [⟨some 116, .move (.tmp 16), none⟩,
      ⟨some 117, .move (.tmp 9), none⟩,
      ⟨some 118, .binOp .add 140 (.tmp 116) (.tmp 117) 140, none⟩,
      ⟨some 16, .assign (.tmp 118), none⟩])
    (.seq (.reg [⟨some 119, .move (.tmp 16), none⟩,
      ⟨some 120, .binOp .geq 140 (.tmp 119) (.const (.int .u64 4294967296)) 140, none⟩])
    (.cond (.tmp 120)
      (.exit 2)
      .skip))))))
def p123 : PC :=
  (.seq (.reg [⟨some 6, .assign (.const (.int .u64 0)), none⟩,
    ⟨some 7, .assign (.const (.int .u64 0)), none⟩])
  (.seq (.seq (.reg [⟨some 19, .move (.tmp 2), none⟩,
    ⟨some 20, .binOp .eql 140 (.tmp 19) (.const (.int .u64 0)) 140, none⟩])
  (.cond (.tmp 20)
    (.reg [⟨some 21, .load 160 (.global 0), none⟩,
      ⟨none, .panic (.tmp 21), none⟩])
    .skip))
  (.seq (.seq (.reg [⟨some 22, .move (.tmp 2), none⟩,
    ⟨some 23, .move (.tmp 0), none⟩,
    ⟨some 24, .binOp .leq 140 (.tmp 22) (.tmp 23) 140, none⟩])
  (.cond (.tmp 24)
    (.reg [⟨some 25, .load 160 (.global 1), none⟩,
      ⟨none, .panic (.tmp 25), none⟩])
    .skip))
  (.seq (.seq (.reg [⟨some 26, .move (.tmp 0), none⟩,
    ⟨some 27, .binOp .eql 140 (.tmp 26) (.const (.int .u64 0)) 140, none⟩])
  (.cond (.tmp 27)
    (.seq (.draw [0, 0, 3, 0, 0, 24, 7, 127] [⟨some 28, .move (.tmp 1), none⟩,
      ⟨some 29, .move (.tmp 2), none⟩,
      ⟨some 30, .binOp .quo 140 (.tmp 28) (.tmp 29) 140, none⟩,
      ⟨some 31, .move (.tmp 1), none⟩,
      ⟨some 32, .move (.tmp 2), none⟩,
      ⟨some 33, .binOp .rem 140 (.tmp 31) (.tmp 32) 140, none⟩,
      ⟨some 6, .assign (.tmp 30), none⟩]
      [⟨some 7, .assign (.tmp 33), none⟩])
    .ret)
    .skip))
  (.seq (.reg [⟨some 34, .move (.tmp 2), none⟩,
    ⟨some 35, .call ⟨.value (.func 144), #[(.tmp 34)], #[140]⟩, none⟩,
    ⟨some 36, .convert 3 116 (.tmp 35), none⟩,
    ⟨some 8, .assign (.tmp 36), none⟩])
  (.seq (.reg [⟨some 37, .move (.tmp 2), none⟩,
    ⟨some 38, .move (.tmp 8), none⟩,
    ⟨some 39, .binOp .shl 140 (.tmp 37) (.tmp 38) 116, none⟩,
    ⟨some 2, .assign (.tmp 39), none⟩])
  (.seq (.reg [⟨some 40, .move (.tmp 2), none⟩,
    ⟨some 41, .binOp .shr 140 (.tmp 40) (.const (.int .u64 32)) 116, none⟩,
    ⟨some 9, .assign (.tmp 41), none⟩])
  (.seq (.reg [⟨some 42, .move (.tmp 2), none⟩,
    ⟨some 43, .binOp .and 140 (.tmp 42) (.const (.int .u64 4294967295)) 140, none⟩,
    ⟨some 10, .assign (.tmp 43), none⟩])
  (.seq (.reg [⟨some 44, .move (.tmp 0), none⟩,
    ⟨some 45, .move (.tmp 8), none⟩,
    ⟨some 46, .binOp .shl 140 (.tmp 44) (.tmp 45) 116, none⟩,
    ⟨some 47, .move (.tmp 1), none⟩,
    ⟨some 48, .move (.tmp 8), none⟩,
    ⟨some 49, .binOp .sub 116 (.const (.int .u64 64)) (.tmp 48) 116, none⟩,
    ⟨some 50, .binOp .shr 140 (.tmp 47) (.tmp 49) 116, none⟩,
    ⟨some 51, .binOp .or 140 (.tmp 46) (.tmp 50) 140, none⟩,
    ⟨some 11, .assign (.tmp 51), none⟩])
  (.seq (.reg [⟨some 52, .move (.tmp 1), none⟩,
    ⟨some 53, .move (.tmp 8), none⟩,
    ⟨some 54, .binOp .shl 140 (.tmp 52) (.tmp 53) 116, none⟩,
    ⟨some 12, .assign (.tmp 54), none⟩])
  (.seq (.reg [⟨some 55, .move (.tmp 12), none⟩,
    ⟨some 56, .binOp .shr 140 (.tmp 55) (.const (.int .u64 32)) 116, none⟩,
    ⟨some 13, .assign (.tmp 56), none⟩])
  (.seq (.reg [⟨some 57, .move (.tmp 12), none⟩,
    ⟨some 58, .binOp .and 140 (.tmp 57) (.const (.int .u64 4294967295)) 140, none⟩,
    ⟨some 14, .assign (.tmp 58), none⟩])
  (.seq (.reg [⟨some 59, .move (.tmp 11), none⟩,
    ⟨some 60, .move (.tmp 9), none⟩,
    ⟨some 61, .binOp .quo 140 (.tmp 59) (.tmp 60) 140, none⟩,
    ⟨some 15, .assign (.tmp 61), none⟩])
  (.seq (.reg [⟨some 62, .move (.tmp 11), none⟩,
    ⟨some 63, .move (.tmp 15), none⟩,
    ⟨some 64, .move (.tmp 9), none⟩,
    ⟨some 65, .binOp .mul 140 (.tmp 63) (.tmp 64) 140, none⟩,
    ⟨some 66, .binOp .sub 140 (.tmp 62) (.tmp 65) 140, none⟩,
    ⟨some 16, .assign (.tmp 66), none⟩])
  (.seq (.block 0
    (.loop p123l0))
  (.seq (.reg [⟨some 86, .move (.tmp 11), none⟩,
    ⟨some 87, .binOp .mul 140 (.tmp 86) (.const (.int .u64 4294967296)) 140, none⟩,
    ⟨some 88, .move (.tmp 13), none⟩,
    ⟨some 89, .binOp .add 140 (.tmp 87) (.tmp 88) 140, none⟩,
    ⟨some 90, .move (.tmp 15), none⟩,
    ⟨some 91, .move (.tmp 2), none⟩,
    ⟨some 92, .binOp .mul 140 (.tmp 90) (.tmp 91) 140, none⟩,
    ⟨some 93, .binOp .sub 140 (.tmp 89) (.tmp 92) 140, none⟩,
    ⟨some 17, .assign (.tmp 93), none⟩])
  (.seq (.reg [⟨some 94, .move (.tmp 17), none⟩,
    ⟨some 95, .move (.tmp 9), none⟩,
    ⟨some 96, .binOp .quo 140 (.tmp 94) (.tmp 95) 140, none⟩,
    ⟨some 18, .assign (.tmp 96), none⟩])
  (.seq (.reg [⟨some 97, .move (.tmp 17), none⟩,
    ⟨some 98, .move (.tmp 18), none⟩,
    ⟨some 99, .move (.tmp 9), none⟩,
    ⟨some 100, .binOp .mul 140 (.tmp 98) (.tmp 99) 140, none⟩,
    ⟨some 101, .binOp .sub 140 (.tmp 97) (.tmp 100) 140, none⟩,
    ⟨some 16, .assign (.tmp 101), none⟩])
  (.seq (.block 2
    (.loop p123l1))
  (.seq (.reg [⟨some 121, .move (.tmp 15), none⟩,
    ⟨some 122, .binOp .mul 140 (.tmp 121) (.const (.int .u64 4294967296)) 140, none⟩,
    ⟨some 123, .move (.tmp 18), none⟩,
    ⟨some 124, .binOp .add 140 (.tmp 122) (.tmp 123) 140, none⟩,
    ⟨some 125, .move (.tmp 17), none⟩,
    ⟨some 126, .binOp .mul 140 (.tmp 125) (.const (.int .u64 4294967296)) 140, none⟩,
    ⟨some 127, .move (.tmp 14), none⟩,
    ⟨some 128, .binOp .add 140 (.tmp 126) (.tmp 127) 140, none⟩,
    ⟨some 129, .move (.tmp 18), none⟩,
    ⟨some 130, .move (.tmp 2), none⟩,
    ⟨some 131, .binOp .mul 140 (.tmp 129) (.tmp 130) 140, none⟩,
    ⟨some 132, .binOp .sub 140 (.tmp 128) (.tmp 131) 140, none⟩,
    ⟨some 133, .move (.tmp 8), none⟩,
    ⟨some 134, .binOp .shr 140 (.tmp 132) (.tmp 133) 116, none⟩,
    ⟨some 6, .assign (.tmp 124), none⟩,
    ⟨some 7, .assign (.tmp 134), none⟩])
  .ret))))))))))))))))))))
theorem c123 : f123.body.bind (comp f123.ntmps) = some p123 := by kernel_rfl
def p126 : PC :=
  (.seq (.reg [⟨some 2, .assign (.const (.slice none 0 0)), none⟩])
  (.seq (.seq (.reg [⟨some 3, .move (.tmp 0), none⟩,
    ⟨some 4, .binOp .eql 54 (.tmp 3) (.const (.slice none 0 0)) 54, none⟩])
  (.cond (.tmp 4)
    (.seq (.reg [⟨some 2, .assign (.const (.slice none 0 0)), none⟩])
    .ret)
    .skip))
  (.seq (.reg [⟨some 5, .buildSlice 54 0 #[], none⟩,
    ⟨some 6, .move (.tmp 0), none⟩,
    ⟨some 7, .call ⟨.builtin .append, #[(.tmp 5), (.tmp 6)], #[54, 54]⟩, none⟩,
    ⟨some 2, .assign (.tmp 7), none⟩])
  .ret)))
theorem c126 : f126.body.bind (comp f126.ntmps) = some p126 := by kernel_rfl
def p128 : PC :=
  (.seq (.reg [⟨some 2, .box 56 (.tmp 0), none⟩,
    ⟨some 3, .box 56 (.tmp 1), none⟩,
    ⟨some 4, .assign (.const (.int .i64 0)), none⟩])
  (.seq (.draw [0, 1, 0, 4, 15, 0, 32, 0, 128, 511, 1023, 2047, 4095] [⟨some 5, .fieldAddr 56 (.tmp 2) 0, none⟩,
    ⟨some 6, .load 3 (.tmp 5), none⟩,
    ⟨some 7, .fieldAddr 56 (.tmp 3) 0, none⟩,
    ⟨some 8, .load 3 (.tmp 7), none⟩,
    ⟨some 9, .call ⟨.value (.func 141), #[(.tmp 6), (.tmp 8)], #[3, 3]⟩, none⟩,
    ⟨some 10, .fieldAddr 56 (.tmp 2) 1, none⟩,
    ⟨some 11, .load 3 (.tmp 10), none⟩,
    ⟨some 12, .fieldAddr 56 (.tmp 3) 1, none⟩,
    ⟨some 13, .load 3 (.tmp 12), none⟩]
    [⟨some 14, .call ⟨.value (.func 141), #[(.tmp 11), (.tmp 13)], #[3, 3]⟩, none⟩,
    ⟨some 15, .buildSlice 94 2 #[(0, (.tmp 9)), (1, (.tmp 14))], none⟩,
    ⟨some 16, .call ⟨.value (.func 140), #[(.tmp 15)], #[94]⟩, none⟩,
    ⟨some 4, .assign (.tmp 16), none⟩])
  .ret))
theorem c128 : f128.body.bind (comp f128.ntmps) = some p128 := by kernel_rfl
def p129l0 : PC :=
  (.seq (.seq (.reg [⟨some 29, .move (.tmp 5), none⟩,
    ⟨some 30, .move (.tmp 4), none⟩,
    ⟨some 31, .call ⟨.builtin .len, #[(.tmp 30)], #[54]⟩, none⟩,
    ⟨some 32, .binOp .lss 3 (.tmp 29) (.tmp 31) 3, none⟩])
  (.cond (.tmp 32)
    .skip
    (.exit 2)))
  (.seq (.block 3
    (.seq (.draw [0, 0, 3, 7, 0, 0, 32, 112, 240, 511] [⟨some 35, .move (.tmp 4), none⟩,
      ⟨some 36, .move (.tmp 5), none⟩,
      ⟨some 37, .indexAddr 54 (.tmp 35) (.tmp 36), none⟩,
      ⟨some 38, .load 56 (.tmp 37), none⟩,
      ⟨some 39, .move (.tmp 4), none⟩,
      ⟨some 40, .move (.tmp 5), none⟩,
      ⟨some 41, .binOp .sub 3 (.tmp 40) (.const (.int .i64 1)) 3, none⟩,
      ⟨some 42, .indexAddr 54 (.tmp 39) (.tmp 41), none⟩,
      ⟨some 43, .load 56 (.tmp 42), none⟩]
      [⟨some 44, .binOp .neq 56 (.tmp 38) (.tmp 43) 56, none⟩])
    (.cond (.tmp 44)
      (.seq (.reg [⟨some 45, .move (.tmp 0), none⟩,
        ⟨some 46, .move (.tmp 3), none⟩,
        ⟨some 47, .move (.tmp 4), none⟩,
        ⟨some 48, .move (.tmp 5), none⟩,
        ⟨some 49, .indexAddr 54 (.tmp 47) (.tmp 48), none⟩,
        ⟨some 50, .load 56 (.tmp 49), none⟩,
        ⟨some 51, .indexAddr 54 (.tmp 45) (.tmp 46), none⟩,
        ⟨none, .store 56 (.tmp 51) (.tmp 50), none⟩])
      (.reg [⟨some 52, .move (.tmp 3), none⟩,
        ⟨some 53, .binOp .add 3 (.tmp 52) (.const (.int .i64 1)) 3, none⟩,
        ⟨some 3, .assign (.tmp 53), none⟩]))
      .skip)))
  (.reg [⟨some 33, .move (.tmp 5), none⟩,
    ⟨some 34, .binOp .add 3 (.tmp 33) (.const (.int .i64 1)) 3, none⟩,
    ⟨some 5, .assign (.tmp 34), none⟩])))
def p129l1 : PC :=
  (.seq (.seq (.reg [⟨some 10, .move (.tmp 3), none⟩,
    ⟨some 11, .move (.tmp 0), none⟩,
    ⟨some 12, .call ⟨.builtin .len, #[(.tmp 11)], #[54]⟩, none⟩,
    ⟨some 13, .binOp .lss 3 (.tmp 10) (.tmp 12) 3, none⟩])
  (.cond (.tmp 13)
    .skip
    (.exit 0)))
  (.seq (.block 1
    (.seq (.draw [0, 0, 3, 7, 0, 0, 32, 112, 240, 511] [⟨some 16, .move (.tmp 0), none⟩,
      ⟨some 17, .move (.tmp 3), none⟩,
      ⟨some 18, .indexAddr 54 (.tmp 16) (.tmp 17), none⟩,
      ⟨some 19, .load 56 (.tmp 18), none⟩,
      ⟨some 20, .move (.tmp 0), none⟩,
      ⟨some 21, .move (.tmp 3), none⟩,
      ⟨some 22, .binOp .sub 3 (.tmp 21) (.const (.int .i64 1)) 3, none⟩,
      ⟨some 23, .indexAddr 54 (.tmp 20) (.tmp 22), none⟩,
      ⟨some 24, .load 56 (.tmp 23), none⟩]
      [⟨some 25, .binOp .eql 56 (.tmp 19) (.tmp 24) 56, none⟩])
    (.cond (.tmp 25)
      (.seq (.reg [⟨some 26, .move (.tmp 0), none⟩,
        ⟨some 27, .move (.tmp 3), none⟩,
        ⟨some 28, .slice 54 (.tmp 26) (some (.tmp 27)) none none, none⟩,
        ⟨some 4, .assign (.tmp 28), none⟩])
      (.seq (.seq (.reg [⟨some 5, .assign (.const (.int .i64 1)), none⟩])
      (.block 2
        (.loop p129l0)))
      (.seq (.reg [⟨some 54, .move (.tmp 0), none⟩,
        ⟨some 55, .move (.tmp 3), none⟩,
        ⟨some 56, .slice 54 (.tmp 54) (some (.tmp 55)) none none, none⟩,
        ⟨none, .call ⟨.builtin .clear, #[(.tmp 56)], #[54]⟩, none⟩])
      (.seq (.reg [⟨some 57, .move (.tmp 0), none⟩,
        ⟨some 58, .move (.tmp 3), none⟩,
        ⟨some 59, .slice 54 (.tmp 57) none (some (.tmp 58)) none, none⟩,
        ⟨some 2, .assign (.tmp 59), none⟩])
      .ret))))
      .skip)))
  (.reg [⟨some 14, .move (.tmp 3), none⟩,
    ⟨some 15, .binOp .add 3 (.tmp 14) (.const (.int .i64 1)) 3, none⟩,
    ⟨some 3, .assign (.tmp 15), none⟩])))
def p129 : PC :=
  (.seq (.reg [⟨some 2, .assign (.const (.slice none 0 0)), none⟩])
  (.seq (.seq (.reg [⟨some 6, .move (.tmp 0), none⟩,
    ⟨some 7, .call ⟨.builtin .len, #[(.tmp 6)], #[54]⟩, none⟩,
    ⟨some 8, .binOp .lss 3 (.tmp 7) (.const (.int .i64 2)) 3, none⟩])
  (.cond (.tmp 8)
    (.seq (.reg [⟨some 9, .move (.tmp 0), none⟩,
      ⟨some 2, .assign (.tmp 9), none⟩])
    .ret)
    .skip))
  (.seq (.seq (.reg [⟨some 3, .assign (.const (.int .i64 1)), none⟩])
  (.block 0
    (.loop p129l1)))
  (.seq (.reg [⟨some 60, .move (.tmp 0), none⟩,
    ⟨some 2, .assign (.tmp 60), none⟩])
  .ret))))
theorem c129 : f129.body.bind (comp f129.ntmps) = some p129 := by kernel_rfl
def p130l0 : PC :=
  (.seq (.seq (.draw [0, 1, 0, 4, 15, 31, 63, 63, 191, 447, 1023, 2047, 63, 63, 8255, 24639, 61503, 127039, 262143, 63, 63, 1048639, 3145791, 7864383, 16252991, 63, 67108863, 134217727, 268435455, 536870911] [⟨some 13, .load 54 (.tmp 0), none⟩,
    ⟨some 14, .call ⟨.builtin .len, #[(.tmp 13)], #[54]⟩, none⟩,
    ⟨some 15, .move (.tmp 2), none⟩,
    ⟨some 16, .binOp .add 3 (.tmp 15) (.const (.int .i64 1)) 3, none⟩,
    ⟨some 17, .binOp .gtr 3 (.tmp 14) (.tmp 16) 3, none⟩,
    ⟨some 18, .move (.tmp 17), none⟩,
    ⟨some 19, .load 54 (.tmp 0), some ((some 18), true)⟩,
    ⟨some 20, .load 54 (.tmp 0), some ((some 18), true)⟩,
    ⟨some 21, .call ⟨.builtin .len, #[(.tmp 20)], #[54]⟩, some ((some 18), true)⟩,
    ⟨some 22, .binOp .sub 3 (.tmp 21) (.const (.int .i64 2)) 3, some ((some 18), true)⟩,
    ⟨some 23, .indexAddr 54 (.tmp 19) (.tmp 22), some ((some 18), true)⟩,
    ⟨some 24, .load 56 (.tmp 23), some ((some 18), true)⟩,
    ⟨some 25, .load 54 (.tmp 0), some ((some 18), true)⟩,
    ⟨some 26, .load 54 (.tmp 0), some ((some 18), true)⟩,
    ⟨some 27, .call ⟨.builtin .len, #[(.tmp 26)], #[54]⟩, some ((some 18), true)⟩,
    ⟨some 28, .binOp .sub 3 (.tmp 27) (.const (.int .i64 1)) 3, some ((some 18), true)⟩,
    ⟨some 29, .indexAddr 54 (.tmp 25) (.tmp 28), some ((some 18), true)⟩,
    ⟨some 30, .load 56 (.tmp 29), some ((some 18), true)⟩,
    ⟨some 31, .call ⟨.value (.func 110), #[(.tmp 24), (.tmp 30)], #[56, 56]⟩, some ((some 18), true)⟩,
    ⟨some 32, .load 54 (.tmp 0), some ((some 18), true)⟩,
    ⟨some 33, .load 54 (.tmp 0), some ((some 18), true)⟩,
    ⟨some 34, .call ⟨.builtin .len, #[(.tmp 33)], #[54]⟩, some ((some 18), true)⟩,
    ⟨some 35, .binOp .sub 3 (.tmp 34) (.const (.int .i64 1)) 3, some ((some 18), true)⟩,
    ⟨some 36, .indexAddr 54 (.tmp 32) (.tmp 35), some ((some 18), true)⟩,
    ⟨some 37, .load 56 (.tmp 36), some ((some 18), true)⟩,
    ⟨some 38, .load 56 (.tmp 4), some ((some 18), true)⟩]
    [⟨some 39, .call ⟨.value (.func 110), #[(.tmp 37), (.tmp 38)], #[56, 56]⟩, some ((some 18), true)⟩,
    ⟨some 40, .call ⟨.value (.func 131), #[(.tmp 31), (.tmp 39)], #[56, 56]⟩, some ((some 18), true)⟩,
    ⟨some 41, .binOp .leq 3 (.tmp 40) (.const (.int .i64 0)) 3, some ((some 18), true)⟩,
    ⟨some 42, .pick (.tmp 18) (.tmp 41) (.const (.bool false)), none⟩])
  (.cond (.tmp 42)
    .skip
    (.exit 2)))
  (.block 3
    (.reg [⟨some 43, .load 54 (.tmp 0), none⟩,
      ⟨some 44, .load 54 (.tmp 0), none⟩,
      ⟨some 45, .call ⟨.builtin .len, #[(.tmp 44)], #[54]⟩, none⟩,
      ⟨some 46, .binOp .sub 3 (.tmp 45) (.const (.int .i64 1)) 3, none⟩,
      ⟨some 47, .slice 54 (.tmp 43) none (some (.tmp 46)) none, none⟩,
      ⟨none, .store 54 (.tmp 0) (.tmp 47), none⟩])))
def p130l1 : PC :=
  (.seq (.reg [⟨some 10, .binOp .lss 3 (.tmp 9) (.tmp 8) 3, none⟩])
  (.seq (.cond (.tmp 10)
    .skip
    (.exit 0))
  (.seq (.block 1
    (.seq (.reg [⟨some 11, .indexAddr 54 (.tmp 7) (.tmp 9), none⟩,
      ⟨some 12, .load 56 (.tmp 11), none⟩,
      ⟨some 4, .alloc 56, none⟩,
      ⟨none, .store 56 (.tmp 4) (.tmp 12), none⟩])
    (.seq (.block 2
      (.loop p130l0))
    (.reg [⟨some 48, .load 54 (.tmp 0), none⟩,
      ⟨some 49, .load 56 (.tmp 4), none⟩,
      ⟨some 50, .buildSlice 54 1 #[(0, (.tmp 49))], none⟩,
      ⟨some 51, .call ⟨.builtin .append, #[(.tmp 48), (.tmp 50)], #[54, 54]⟩, none⟩,
      ⟨none, .store 54 (.tmp 0) (.tmp 51), none⟩]))))
  (.reg [⟨some 52, .binOp .add 3 (.tmp 9) (.const (.int .i64 1)) 3, none⟩,
    ⟨some 9, .move (.tmp 52), none⟩]))))
def p130 : PC :=
  (.seq (.reg [⟨some 5, .load 54 (.tmp 0), none⟩,
    ⟨some 6, .call ⟨.builtin .len, #[(.tmp 5)], #[54]⟩, none⟩,
    ⟨some 2, .assign (.tmp 6), none⟩])
  (.seq (.seq (.reg [⟨some 7, .load 54 (.tmp 1), none⟩,
    ⟨some 8, .call ⟨.builtin .len, #[(.tmp 7)], #[54]⟩, none⟩,
    ⟨some 9, .move (.const (.int .i64 0)), none⟩])
  (.block 0
    (.loop p130l1)))
  (.reg [⟨some 53, .load 54 (.tmp 0), none⟩,
    ⟨some 54, .load 54 (.tmp 0), none⟩,
    ⟨some 55, .call ⟨.builtin .len, #[(.tmp 54)], #[54]⟩, none⟩,
    ⟨some 56, .binOp .sub 3 (.tmp 55) (.const (.int .i64 1)) 3, none⟩,
    ⟨some 57, .slice 54 (.tmp 53) none (some (.tmp 56)) none, none⟩,
    ⟨none, .store 54 (.tmp 0) (.tmp 57), none⟩])))
theorem c130 : f130.body.bind (comp f130.ntmps) = some p130 := by kernel_rfl
def p131 : PC :=
  (.seq (.reg [⟨some 2, .box 56 (.tmp 0), none⟩,
    ⟨some 3, .box 56 (.tmp 1), none⟩,
    ⟨some 4, .assign (.const (.int .i64 0)), none⟩])
  (.seq (.reg [⟨some 5, .fieldAddr 56 (.tmp 2) 0, none⟩,
    ⟨some 6, .load 3 (.tmp 5), none⟩,
    ⟨some 7, .fieldAddr 56 (.tmp 3) 1, none⟩,
    ⟨some 8, .load 3 (.tmp 7), none⟩,
    ⟨some 9, .binOp .mul 3 (.tmp 6) (.tmp 8) 3, none⟩,
    ⟨some 10, .fieldAddr 56 (.tmp 2) 1, none⟩,
    ⟨some 11, .load 3 (.tmp 10), none⟩,
    ⟨some 12, .fieldAddr 56 (.tmp 3) 0, none⟩,
    ⟨some 13, .load 3 (.tmp 12), none⟩,
    ⟨some 14, .binOp .mul 3 (.tmp 11) (.tmp 13) 3, none⟩,
    ⟨some 15, .binOp .sub 3 (.tmp 9) (.tmp 14) 3, none⟩,
    ⟨some 4, .assign (.tmp 15), none⟩])
  .ret))
theorem c131 : f131.body.bind (comp f131.ntmps) = some p131 := by kernel_rfl
def p132l0 : PC :=
  (.seq (.seq (.reg [⟨some 7, .move (.tmp 2), none⟩,
    ⟨some 8, .move (.tmp 3), none⟩,
    ⟨some 9, .binOp .lss 3 (.tmp 7) (.tmp 8) 3, none⟩])
  (.cond (.tmp 9)
    .skip
    (.exit 0)))
  (.seq (.block 1
    (.drawW [0, 0, 0, 0, 0, 0, 48, 112, 0, 0, 768, 1792, 4083, 8179, 16383, 32767] [⟨some 14, .move (.tmp 0), none⟩,
      ⟨some 15, .move (.tmp 2), none⟩,
      ⟨some 16, .move (.tmp 0), none⟩,
      ⟨some 17, .move (.tmp 3), none⟩,
      ⟨some 18, .move (.tmp 0), none⟩,
      ⟨some 19, .move (.tmp 3), none⟩,
      ⟨some 20, .indexAddr 54 (.tmp 18) (.tmp 19), none⟩,
      ⟨some 21, .load 56 (.tmp 20), none⟩,
      ⟨some 22, .move (.tmp 0), none⟩,
      ⟨some 23, .move (.tmp 2), none⟩,
      ⟨some 24, .indexAddr 54 (.tmp 22) (.tmp 23), none⟩,
      ⟨some 25, .load 56 (.tmp 24), none⟩,
      ⟨some 26, .indexAddr 54 (.tmp 14) (.tmp 15), none⟩,
      ⟨none, .store 56 (.tmp 26) (.tmp 21), none⟩]
      [⟨some 27, .indexAddr 54 (.tmp 16) (.tmp 17), none⟩,
      ⟨none, .store 56 (.tmp 27) (.tmp 25), none⟩]))
  (.reg [⟨some 10, .move (.tmp 2), none⟩,
    ⟨some 11, .binOp .add 3 (.tmp 10) (.const (.int .i64 1)) 3, none⟩,
    ⟨some 12, .move (.tmp 3), none⟩,
    ⟨some 13, .binOp .sub 3 (.tmp 12) (.const (.int .i64 1)) 3, none⟩,
    ⟨some 2, .assign (.tmp 11), none⟩,
    ⟨some 3, .assign (.tmp 13), none⟩])))
def p132 : PC :=
  (.seq (.reg [⟨some 4, .move (.tmp 0), none⟩,
    ⟨some 5, .call ⟨.builtin .len, #[(.tmp 4)], #[54]⟩, none⟩,
    ⟨some 6, .binOp .sub 3 (.tmp 5) (.const (.int .i64 1)) 3, none⟩,
    ⟨some 2, .assign (.const (.int .i64 0)), none⟩,
    ⟨some 3, .assign (.tmp 6), none⟩])
  (.block 0
    (.loop p132l0)))
theorem c132 : f132.body.bind (comp f132.ntmps) = some p132 := by kernel_rfl
def p135 : PC :=
  (.seq (.reg [⟨some 1, .box 54 (.tmp 0), none⟩,
    ⟨some 2, .assign (.const .nilFunc), none⟩])
  (.seq (.reg [⟨some 3, .makeFunc (.func 148) #[] #[(.tmp 1)], none⟩,
    ⟨some 2, .assign (.tmp 3), none⟩])
  .ret))
theorem c135 : f135.body.bind (comp f135.ntmps) = some p135 := by kernel_rfl
def p138 : PC :=
  (.reg [⟨some 4, .move (.tmp 0), none⟩,
    ⟨some 5, .move (.tmp 0), none⟩,
    ⟨some 6, .call ⟨.builtin .len, #[(.tmp 5)], #[54]⟩, none⟩,
    ⟨some 7, .move (.tmp 1), none⟩,
    ⟨some 8, .call ⟨.value (.func 149), #[(.tmp 4), (.tmp 6), (.tmp 7)], #[54, 3, 148]⟩, none⟩])
theorem c138 : f138.body.bind (comp f138.ntmps) = some p138 := by kernel_rfl
def p139 : PC :=
  (.seq (.reg [⟨some 2, .box 56 (.tmp 0), none⟩,
    ⟨some 3, .box 56 (.tmp 1), none⟩,
    ⟨some 4, .assign (.const (.int .i64 0)), none⟩])
  (.seq (.draw [0, 1, 0, 7, 15, 0, 0, 127, 255, 511, 1023, 2047] [⟨some 5, .load 56 (.tmp 2), none⟩,
    ⟨some 6, .call ⟨.value (.func 142), #[(.tmp 5)], #[56]⟩, none⟩,
    ⟨some 7, .load 56 (.tmp 3), none⟩,
    ⟨some 8, .call ⟨.value (.func 142), #[(.tmp 7)], #[56]⟩, none⟩,
    ⟨some 9, .call ⟨.value (.func 141), #[(.tmp 6), (.tmp 8)], #[3, 3]⟩, none⟩,
    ⟨some 10, .load 56 (.tmp 2), none⟩,
    ⟨some 11, .load 56 (.tmp 3), none⟩]
    [⟨some 12, .call ⟨.value (.func 131), #[(.tmp 10), (.tmp 11)], #[56, 56]⟩, none⟩,
    ⟨some 13, .call ⟨.value (.func 141), #[(.const (.int .i64 0)), (.tmp 12)], #[3, 3]⟩, none⟩,
    ⟨some 14, .buildSlice 94 2 #[(0, (.tmp 9)), (1, (.tmp 13))], none⟩,
    ⟨some 15, .call ⟨.value (.func 140), #[(.tmp 14)], #[94]⟩, none⟩,
    ⟨some 4, .assign (.tmp 15), none⟩])
  .ret))
theorem c139 : f139.body.bind (comp f139.ntmps) = some p139 := by kernel_rfl
def p140l0 : PC :=
  (.seq (.reg [⟨some 9, .binOp .lss 3 (.tmp 8) (.tmp 7) 3, none⟩])
  (.seq (.cond (.tmp 9)
    .skip
    (.exit 0))
  (.seq (.block 1
    (.seq (.reg [⟨some 10, .indexAddr 94 (.tmp 6) (.tmp 8), none⟩,
      ⟨some 11, .load 3 (.tmp 10), none⟩,
      ⟨some 5, .assign (.tmp 11), none⟩])
    (.seq (.reg [⟨some 12, .move (.tmp 5), none⟩,
      ⟨some 13, .move (.tmp 3), none⟩,
      ⟨some 14, .binOp .neq 3 (.tmp 12) (.tmp 13) 3, none⟩])
    (.cond (.tmp 14)
      (.seq (.reg [⟨some 15, .move (.tmp 5), none⟩,
        ⟨some 2, .assign (.tmp 15), none⟩])
      .ret)
      .skip))))
  (.reg [⟨some 16, .binOp .add 3 (.tmp 8) (.const (.int .i64 1)) 3, none⟩,
    ⟨some 8, .move (.tmp 16), none⟩]))))
def p140 : PC :=
  (.seq (.reg [⟨some 2, .assign (.const (.int .i64 0)), none⟩])
  (.seq (.reg [⟨some 3, .assign (.const (.int .i64 0)), none⟩])
  (.seq (.seq (.reg [⟨some 6, .move (.tmp 0), none⟩,
    ⟨some 7, .call ⟨.builtin .len, #[(.tmp 6)], #[94]⟩, none⟩,
    ⟨some 8, .move (.const (.int .i64 0)), none⟩])
  (.block 0
    (.loop p140l0)))
  (.seq (.reg [⟨some 17, .move (.tmp 3), none⟩,
    ⟨some 2, .assign (.tmp 17), none⟩])
  .ret))))
theorem c140 : f140.body.bind (comp f140.ntmps) = some p140 := by kernel_rfl
def p141 : PC :=
  (.seq (.reg [⟨some 4, .assign (.const (.int .i64 0)), none⟩])
  (.seq (.reg [⟨some 7, .move (.tmp 0), none⟩,
    ⟨some 8, .call ⟨.value (.func 150), #[(.tmp 7)], #[3]⟩, none⟩,
    ⟨some 5, .assign (.tmp 8), none⟩])
  (.seq (.reg [⟨some 9, .move (.tmp 1), none⟩,
    ⟨some 10, .call ⟨.value (.func 150), #[(.tmp 9)], #[3]⟩, none⟩,
    ⟨some 6, .assign (.tmp 10), none⟩])
  (.seq (.seq (.reg [⟨some 11, .move (.tmp 5), none⟩])
  (.cond (.tmp 11)
    (.seq (.seq (.reg [⟨some 12, .move (.tmp 6), none⟩])
    (.cond (.tmp 12)
      (.seq (.reg [⟨some 4, .assign (.const (.int .i64 0)), none⟩])
      .ret)
      .skip))
    (.seq (.reg [⟨some 4, .assign (.const (.int .i64 (-1))), none⟩])
    .ret))
    .skip))
  (.seq (.seq (.reg [⟨some 13, .move (.tmp 6), none⟩])
  (.cond (.tmp 13)
    (.seq (.reg [⟨some 4, .assign (.const (.int .i64 1)), none⟩])
    .ret)
    .skip))
  (.seq (.seq (.reg [⟨some 14, .move (.tmp 0), none⟩,
    ⟨some 15, .move (.tmp 1), none⟩,
    ⟨some 16, .binOp .lss 3 (.tmp 14) (.tmp 15) 3, none⟩])
  (.cond (.tmp 16)
    (.seq (.reg [⟨some 4, .assign (.const (.int .i64 (-1))), none⟩])
    .ret)
    .skip))
  (.seq (.seq (.reg [⟨some 17, .move (.tmp 0), none⟩,
    ⟨some 18, .move (.tmp 1), none⟩,
    ⟨some 19, .binOp .gtr 3 (.tmp 17) (.tmp 18) 3, none⟩])
  (.cond (.tmp 19)
    (.seq (.reg [⟨some 4, .assign (.const (.int .i64 1)), none⟩])
    .ret)
    .skip))
  (.seq (.reg [⟨some 4, .assign (.const (.int .i64 0)), none⟩])
  .ret))))))))
theorem c141 : f141.body.bind (comp f141.ntmps) = some p141 := by kernel_rfl
def p142 : PC :=
  (.seq (.reg [⟨some 1, .box 56 (.tmp 0), none⟩,
    ⟨some 2, .assign (.const (.int .i64 0)), none⟩])
  (.seq (.seq (.reg [⟨some 3, .fieldAddr 56 (.tmp 1) 0, none⟩,
    ⟨some 4, .load 3 (.tmp 3), none⟩,
    ⟨some 5, .binOp .gtr 3 (.tmp 4) (.const (.int .i64 0)) 3, none⟩,
    ⟨some 6, .move (.tmp 5), none⟩,
    ⟨some 7, .fieldAddr 56 (.tmp 1) 0, some ((some 6), false)⟩,
    ⟨some 8, .load 3 (.tmp 7), some ((some 6), false)⟩,
    ⟨some 9, .binOp .eql 3 (.tmp 8) (.const (.int .i64 0)) 3, some ((some 6), false)⟩,
    ⟨some 10, .move (.tmp 9), some ((some 6), false)⟩,
    ⟨some 11, .fieldAddr 56 (.tmp 1) 1, some ((some 10), true)⟩,
    ⟨some 12, .load 3 (.tmp 11), some ((some 10), true)⟩,
    ⟨some 13, .binOp .gtr 3 (.tmp 12) (.const (.int .i64 0)) 3, some ((some 10), true)⟩,
    ⟨some 14, .pick (.tmp 10) (.tmp 13) (.const (.bool false)), some ((some 6), false)⟩,
    ⟨some 15, .pick (.tmp 6) (.const (.bool true)) (.tmp 14), none⟩])
  (.cond (.tmp 15)
    (.seq (.reg [⟨some 2, .assign (.const (.int .i64 0)), none⟩])
    .ret)
    .skip))
  (.seq (.reg [⟨some 2, .assign (.const (.int .i64 1)), none⟩])
  .ret)))
theorem c142 : f142.body.bind (comp f142.ntmps) = some p142 := by kernel_rfl
def p143 : PC :=
  (.seq (.reg [⟨some 4, .assign (.const (.slice none 0 0)), none⟩])
  (.seq (.seq (.reg [⟨some 5, .move (.tmp 1), none⟩,
    ⟨some 6, .binOp .lss 3 (.tmp 5) (.const (.int .i64 0)) 3, none⟩])
  (.cond (.tmp 6)
    (.reg [⟨some 7, .makeInterface 9 (.const (.string ⟨#[99, 97, 110, 110, 111, 116, 32, 98, 101, 32, 110, 101, 103, 97, 116, 105, 118, 101]⟩)), none⟩,
      ⟨none, .panic (.tmp 7), none⟩])
    .skip))
  (.seq (.seq (.reg [⟨some 8, .move (.tmp 1), none⟩,
    ⟨some 9, .move (.tmp 0), none⟩,
    ⟨some 10, .call ⟨.builtin .cap, #[(.tmp 9)], #[54]⟩, none⟩,
    ⟨some 11, .move (.tmp 0), none⟩,
    ⟨some 12, .call ⟨.builtin .len, #[(.tmp 11)], #[54]⟩, none⟩,
    ⟨some 13, .binOp .sub 3 (.tmp 10) (.tmp 12) 3, none⟩,
    ⟨some 14, .binOp .sub 3 (.tmp 8) (.tmp 13) 3, none⟩,
    ⟨some 1, .assign (.tmp 14), none⟩])
  (.seq (.reg [⟨some 15, .move (.tmp 1), none⟩,
    ⟨some 16, .binOp .gtr 3 (.tmp 15) (.const (.int .i64 0)) 3, none⟩])
  (.cond (.tmp 16)
    (.reg [⟨some 17, .move (.tmp 0), none⟩,
      ⟨some 18, .move (.tmp 0), none⟩,
      ⟨some 19, .call ⟨.builtin .cap, #[(.tmp 18)], #[54]⟩, none⟩,
      ⟨some 20, .slice 54 (.tmp 17) none (some (.tmp 19)) none, none⟩,
      ⟨some 21, .move (.tmp 1), none⟩,
      ⟨some 22, .call ⟨.builtin .append, #[(.tmp 20), (.tmp 21)], #[54, 3]⟩, none⟩,
      ⟨some 23, .move (.tmp 0), none⟩,
      ⟨some 24, .call ⟨.builtin .len, #[(.tmp 23)], #[54]⟩, none⟩,
      ⟨some 25, .slice 54 (.tmp 22) none (some (.tmp 24)) none, none⟩,
      ⟨some 0, .assign (.tmp 25), none⟩])
    .skip)))
  (.seq (.reg [⟨some 26, .move (.tmp 0), none⟩,
    ⟨some 4, .assign (.tmp 26), none⟩])
  .ret))))
theorem c143 : f143.body.bind (comp f143.ntmps) = some p143 := by kernel_rfl
def p144 : PC :=
  (.seq (.reg [⟨some 2, .assign (.const (.int .i64 0)), none⟩])
  (.seq (.reg [⟨some 3, .move (.tmp 0), none⟩,
    ⟨some 4, .call ⟨.value (.func 151), #[(.tmp 3)], #[140]⟩, none⟩,
    ⟨some 5, .binOp .sub 3 (.const (.int .i64 64)) (.tmp 4) 3, none⟩,
    ⟨some 2, .assign (.tmp 5), none⟩])
  .ret))
theorem c144 : f144.body.bind (comp f144.ntmps) = some p144 := by kernel_rfl
def p148l0 : PC :=
  (.seq (.reg [⟨some 8, .binOp .lss 3 (.tmp 7) (.tmp 6) 3, none⟩])
  (.seq (.cond (.tmp 8)
    .skip
    (.exit 0))
  (.seq (.block 1
    (.seq (.reg [⟨some 9, .move (.tmp 7), none⟩,
      ⟨some 10, .indexAddr 54 (.tmp 5) (.tmp 7), none⟩,
      ⟨some 11, .load 56 (.tmp 10), none⟩,
      ⟨some 4, .alloc 56, none⟩,
      ⟨some 3, .assign (.tmp 9), none⟩,
      ⟨none, .store 56 (.tmp 4) (.tmp 11), none⟩])
    (.seq (.draw [0, 0, 0, 0, 8, 0, 32, 120, 252, 508, 1023, 2047] [⟨some 12, .move (.tmp 0), none⟩,
      ⟨some 13, .load 56 (.tmp 4), none⟩,
      ⟨some 14, .load 54 (.tmp 1), none⟩,
      ⟨some 15, .move (.tmp 3), none⟩,
      ⟨some 16, .binOp .add 3 (.tmp 15) (.const (.int .i64 1)) 3, none⟩,
      ⟨some 17, .load 54 (.tmp 1), none⟩,
      ⟨some 18, .call ⟨.builtin .len, #[(.tmp 17)], #[54]⟩, none⟩,
      ⟨some 19, .binOp .rem 3 (.tmp 16) (.tmp 18) 3, none⟩,
      ⟨some 20, .indexAddr 54 (.tmp 14) (.tmp 19), none⟩,
      ⟨some 21, .load 56 (.tmp 20), none⟩]
      [⟨some 22, .call ⟨.value (.tmp 12), #[(.tmp 13), (.tmp 21)], #[56, 56]⟩, none⟩,
      ⟨some 23, .unOp .not 4 (.tmp 22), none⟩])
    (.cond (.tmp 23)
      .ret
      .skip))))
  (.reg [⟨some 24, .binOp .add 3 (.tmp 7) (.const (.int .i64 1)) 3, none⟩,
    ⟨some 7, .move (.tmp 24), none⟩]))))
def p148 : PC :=
  (.seq (.reg [⟨some 5, .load 54 (.tmp 1), none⟩,
    ⟨some 6, .call ⟨.builtin .len, #[(.tmp 5)], #[54]⟩, none⟩,
    ⟨some 7, .move (.const (.int .i64 0)), none⟩])
  (.block 0
    (.loop p148l0)))
theorem c148 : f148.body.bind (comp f148.ntmps) = some p148 := by kernel_rfl
def p149l0 : PC :=
  (.seq (.seq (.reg [⟨some 11, .move (.tmp 8), none⟩,
    ⟨some 12, .move (.tmp 1), none⟩,
    ⟨some 13, .binOp .leq 3 (.tmp 11) (.tmp 12) 3, none⟩])
  (.cond (.tmp 13)
    .skip
    (.exit 0)))
  (.block 1
    (.seq (.reg [⟨some 14, .move (.tmp 0), none⟩,
      ⟨some 15, .move (.tmp 7), none⟩,
      ⟨some 16, .move (.tmp 8), none⟩,
      ⟨some 17, .move (.tmp 2), none⟩,
      ⟨some 18, .call ⟨.value (.func 152), #[(.tmp 14), (.tmp 15), (.tmp 16), (.tmp 17)], #[54, 3, 3, 148]⟩, none⟩])
    (.seq (.reg [⟨some 19, .move (.tmp 8), none⟩,
      ⟨some 7, .assign (.tmp 19), none⟩])
    (.reg [⟨some 20, .move (.tmp 8), none⟩,
      ⟨some 21, .move (.tmp 6), none⟩,
      ⟨some 22, .binOp .add 3 (.tmp 20) (.tmp 21) 3, none⟩,
      ⟨some 8, .assign (.tmp 22), none⟩])))))
def p149l1 : PC :=
  (.seq (.seq (.reg [⟨some 33, .move (.tmp 8), none⟩,
    ⟨some 34, .move (.tmp 1), none⟩,
    ⟨some 35, .binOp .leq 3 (.tmp 33) (.tmp 34) 3, none⟩])
  (.cond (.tmp 35)
    .skip
    (.exit 4)))
  (.block 5
    (.seq (.reg [⟨some 36, .move (.tmp 0), none⟩,
      ⟨some 37, .move (.tmp 7), none⟩,
      ⟨some 38, .move (.tmp 7), none⟩,
      ⟨some 39, .move (.tmp 6), none⟩,
      ⟨some 40, .binOp .add 3 (.tmp 38) (.tmp 39) 3, none⟩,
      ⟨some 41, .move (.tmp 8), none⟩,
      ⟨some 42, .move (.tmp 2), none⟩,
      ⟨some 43, .call ⟨.value (.func 161), #[(.tmp 36), (.tmp 37), (.tmp 40), (.tmp 41), (.tmp 42)], #[54, 3, 3, 3, 148]⟩, none⟩])
    (.seq (.reg [⟨some 44, .move (.tmp 8), none⟩,
      ⟨some 7, .assign (.tmp 44), none⟩])
    (.reg [⟨some 45, .move (.tmp 8), none⟩,
      ⟨some 46, .move (.tmp 6), none⟩,
      ⟨some 47, .binOp .mul 3 (.const (.int .i64 2)) (.tmp 46) 3, none⟩,
      ⟨some 48, .binOp .add 3 (.tmp 45) (.tmp 47) 3, none⟩,
      ⟨some 8, .assign (.tmp 48), none⟩])))))
def p149l2 : PC :=
  (.seq (.seq (.reg [⟨some 28, .move (.tmp 6), none⟩,
    ⟨some 29, .move (.tmp 1), none⟩,
    ⟨some 30, .binOp .lss 3 (.tmp 28) (.tmp 29) 3, none⟩])
  (.cond (.tmp 30)
    .skip
    (.exit 2)))
  (.block 3
    (.seq (.reg [⟨some 31, .move (.tmp 6), none⟩,
      ⟨some 32, .binOp .mul 3 (.const (.int .i64 2)) (.tmp 31) 3, none⟩,
      ⟨some 7, .assign (.const (.int .i64 0)), none⟩,
      ⟨some 8, .assign (.tmp 32), none⟩])
    (.seq (.block 4
      (.loop p149l1))
    (.seq (.seq (.reg [⟨some 49, .move (.tmp 7), none⟩,
      ⟨some 50, .move (.tmp 6), none⟩,
      ⟨some 51, .binOp .add 3 (.tmp 49) (.tmp 50) 3, none⟩,
      ⟨some 9, .assign (.tmp 51), none⟩])
    (.seq (.reg [⟨some 52, .move (.tmp 9), none⟩,
      ⟨some 53, .move (.tmp 1), none⟩,
      ⟨some 54, .binOp .lss 3 (.tmp 52) (.tmp 53) 3, none⟩])
    (.cond (.tmp 54)
      (.reg [⟨some 55, .move (.tmp 0), none⟩,
        ⟨some 56, .move (.tmp 7), none⟩,
        ⟨some 57, .move (.tmp 9), none⟩,
        ⟨some 58, .move (.tmp 1), none⟩,
        ⟨some 59, .move (.tmp 2), none⟩,
        ⟨some 60, .call ⟨.value (.func 161), #[(.tmp 55), (.tmp 56), (.tmp 57), (.tmp 58), (.tmp 59)], #[54, 3, 3, 3, 148]⟩, none⟩])
      .skip)))
    (.reg [⟨some 61, .move (.tmp 6), none⟩,
      ⟨some 62, .binOp .mul 3 (.tmp 61) (.const (.int .i64 2)) 3, none⟩,
      ⟨some 6, .assign (.tmp 62), none⟩]))))))
def p149 : PC :=
  (.seq (.reg [⟨some 6, .assign (.const (.int .i64 20)), none⟩])
  (.seq (.reg [⟨some 10, .move (.tmp 6), none⟩,
    ⟨some 7, .assign (.const (.int .i64 0)), none⟩,
    ⟨some 8, .assign (.tmp 10), none⟩])
  (.seq (.block 0
    (.loop p149l0))
  (.seq (.reg [⟨some 23, .move (.tmp 0), none⟩,
    ⟨some 24, .move (.tmp 7), none⟩,
    ⟨some 25, .move (.tmp 1), none⟩,
    ⟨some 26, .move (.tmp 2), none⟩,
    ⟨some 27, .call ⟨.value (.func 152), #[(.tmp 23), (.tmp 24), (.tmp 25), (.tmp 26)], #[54, 3, 3, 148]⟩, none⟩])
  (.block 2
    (.loop p149l2))))))
theorem c149 : f149.body.bind (comp f149.ntmps) = some p149 := by kernel_rfl
def p150 : PC :=
  (.seq (.reg [⟨some 2, .assign (.const (.bool false)), none⟩])
  (.seq (.reg [⟨some 3, .move (.tmp 0), none⟩,
    ⟨some 4, .move (.tmp 0), none⟩,
    ⟨some 5, .binOp .neq 3 (.tmp 3) (.tmp 4) 3, none⟩,
    ⟨some 2, .assign (.tmp 5), none⟩])
  .ret))
theorem c150 : f150.body.bind (comp f150.ntmps) = some p150 := by kernel_rfl
def p151 : PC :=
  (.seq (.reg [⟨some 2, .assign (.const (.int .i64 0)), none⟩])
  (.seq (.seq (.reg [⟨some 3, .move (.tmp 0), none⟩,
    ⟨some 4, .binOp .geq 140 (.tmp 3) (.const (.int .u64 4294967296)) 140, none⟩])
  (.cond (.tmp 4)
    (.seq (.reg [⟨some 5, .move (.tmp 0), none⟩,
      ⟨some 6, .binOp .shr 140 (.tmp 5) (.const (.int .u64 32)) 116, none⟩,
      ⟨some 0, .assign (.tmp 6), none⟩])
    (.reg [⟨some 2, .assign (.const (.int .i64 32)), none⟩]))
    .skip))
  (.seq (.seq (.reg [⟨some 7, .move (.tmp 0), none⟩,
    ⟨some 8, .binOp .geq 140 (.tmp 7) (.const (.int .u64 65536)) 140, none⟩])
  (.cond (.tmp 8)
    (.seq (.reg [⟨some 9, .move (.tmp 0), none⟩,
      ⟨some 10, .binOp .shr 140 (.tmp 9) (.const (.int .u64 16)) 116, none⟩,
      ⟨some 0, .assign (.tmp 10), none⟩])
    (.reg [⟨some 11, .move (.tmp 2), none⟩,
      ⟨some 12, .binOp .add 3 (.tmp 11) (.const (.int .i64 16)) 3, none⟩,
      ⟨some 2, .assign (.tmp 12), none⟩]))
    .skip))
  (.seq (.seq (.reg [⟨some 13, .move (.tmp 0), none⟩,
    ⟨some 14, .binOp .geq 140 (.tmp 13) (.const (.int .u64 256)) 140, none⟩])
  (.cond (.tmp 14)
    (.seq (.reg [⟨some 15, .move (.tmp 0), none⟩,
      ⟨some 16, .binOp .shr 140 (.tmp 15) (.const (.int .u64 8)) 116, none⟩,
      ⟨some 0, .assign (.tmp 16), none⟩])
    (.reg [⟨some 17, .move (.tmp 2), none⟩,
      ⟨some 18, .binOp .add 3 (.tmp 17) (.const (.int .i64 8)) 3, none⟩,
      ⟨some 2, .assign (.tmp 18), none⟩]))
    .skip))
  (.seq (.reg [⟨some 19, .move (.tmp 2), none⟩,
    ⟨some 20, .move (.tmp 0), none⟩,
    ⟨some 21, .convert 140 5 (.tmp 20), none⟩,
    ⟨some 22, .index 9 (.const (.string ⟨#[0, 1, 2, 2, 3, 3, 3, 3, 4, 4, 4, 4, 4, 4, 4, 4, 5, 5, 5, 5, 5, 5, 5, 5, 5, 5, 5, 5, 5, 5, 5, 5, 6, 6, 6, 6, 6, 6, 6, 6, 6, 6, 6, 6, 6, 6, 6, 6, 6, 6, 6, 6, 6, 6, 6, 6, 6, 6, 6, 6, 6, 6, 6, 6, 7, 7, 7, 7, 7, 7, 7, 7, 7, 7, 7, 7, 7, 7, 7, 7, 7, 7, 7, 7, 7, 7, 7, 7, 7, 7, 7, 7, 7, 7, 7, 7, 7, 7, 7, 7, 7, 7, 7, 7, 7, 7, 7, 7, 7, 7, 7, 7, 7, 7, 7, 7, 7, 7, 7, 7, 7, 7, 7, 7, 7, 7, 7, 7, 8, 8, 8, 8, 8, 8, 8, 8, 8, 8, 8, 8, 8, 8, 8, 8, 8, 8, 8, 8, 8, 8, 8, 8, 8, 8, 8, 8, 8, 8, 8, 8, 8, 8, 8, 8, 8, 8, 8, 8, 8, 8, 8, 8, 8, 8, 8, 8, 8, 8, 8, 8, 8, 8, 8, 8, 8, 8, 8, 8, 8, 8, 8, 8, 8, 8, 8, 8, 8, 8, 8, 8, 8, 8, 8, 8, 8, 8, 8, 8, 8, 8, 8, 8, 8, 8, 8, 8, 8, 8, 8, 8, 8, 8, 8, 8, 8, 8, 8, 8, 8, 8, 8, 8, 8, 8, 8, 8, 8, 8, 8, 8, 8, 8, 8, 8, 8, 8, 8, 8, 8, 8, 8, 8, 8, 8, 8, 8]⟩)) (.tmp 21), none⟩,
    ⟨some 23, .convert 5 3 (.tmp 22), none⟩,
    ⟨some 24, .binOp .add 3 (.tmp 19) (.tmp 23) 3, none⟩,
    ⟨some 2, .assign (.tmp 24), none⟩])
  .ret)))))
theorem c151 : f151.body.bind (comp f151.ntmps) = some p151 := by kernel_rfl
def p152l0 : PC :=
  (.seq (.seq (.draw [0, 0, 3, 7, 15, 15, 15, 111, 239, 15, 15, 1039, 3599, 7695, 16383, 32767, 65535] [⟨some 18, .move (.tmp 9), none⟩,
    ⟨some 19, .move (.tmp 1), none⟩,
    ⟨some 20, .binOp .gtr 3 (.tmp 18) (.tmp 19) 3, none⟩,
    ⟨some 21, .move (.tmp 20), none⟩,
    ⟨some 22, .move (.tmp 3), some ((some 21), true)⟩,
    ⟨some 23, .move (.tmp 0), some ((some 21), true)⟩,
    ⟨some 24, .move (.tmp 9), some ((some 21), true)⟩,
    ⟨some 25, .indexAddr 54 (.tmp 23) (.tmp 24), some ((some 21), true)⟩,
    ⟨some 26, .load 56 (.tmp 25), some ((some 21), true)⟩,
    ⟨some 27, .move (.tmp 0), some ((some 21), true)⟩,
    ⟨some 28, .move (.tmp 9), some ((some 21), true)⟩,
    ⟨some 29, .binOp .sub 3 (.tmp 28) (.const (.int .i64 1)) 3, some ((some 21), true)⟩,
    ⟨some 30, .indexAddr 54 (.tmp 27) (.tmp 29), some ((some 21), true)⟩,
    ⟨some 31, .load 56 (.tmp 30), some ((some 21), true)⟩]
    [⟨some 32, .call ⟨.value (.tmp 22), #[(.tmp 26), (.tmp 31)], #[56, 56]⟩, some ((some 21), true)⟩,
    ⟨some 33, .binOp .lss 3 (.tmp 32) (.const (.int .i64 0)) 3, some ((some 21), true)⟩,
    ⟨some 34, .pick (.tmp 21) (.tmp 33) (.const (.bool false)), none⟩])
  (.cond (.tmp 34)
    .skip
    (.exit 2)))
  (.seq (.block 3
    (.drawW [0, 0, 0, 0, 8, 0, 0, 64, 224, 480, 0, 0, 3072, 7168, 16355, 32739, 65535, 131071] [⟨some 37, .move (.tmp 0), none⟩,
      ⟨some 38, .move (.tmp 9), none⟩,
      ⟨some 39, .move (.tmp 0), none⟩,
      ⟨some 40, .move (.tmp 9), none⟩,
      ⟨some 41, .binOp .sub 3 (.tmp 40) (.const (.int .i64 1)) 3, none⟩,
      ⟨some 42, .move (.tmp 0), none⟩,
      ⟨some 43, .move (.tmp 9), none⟩,
      ⟨some 44, .binOp .sub 3 (.tmp 43) (.const (.int .i64 1)) 3, none⟩,
      ⟨some 45, .indexAddr 54 (.tmp 42) (.tmp 44), none⟩,
      ⟨some 46, .load 56 (.tmp 45), none⟩,
      ⟨some 47, .move (.tmp 0), none⟩,
      ⟨some 48, .move (.tmp 9), none⟩,
      ⟨some 49, .indexAddr 54 (.tmp 47) (.tmp 48), none⟩,
      ⟨some 50, .load 56 (.tmp 49), none⟩,
      ⟨some 51, .indexAddr 54 (.tmp 37) (.tmp 38), none⟩,
      ⟨none, .store 56 (.tmp 51) (.tmp 46), none⟩]
      [⟨some 52, .indexAddr 54 (.tmp 39) (.tmp 41), none⟩,
      ⟨none, .store 56 (.tmp 52) (.tmp 50), none⟩]))
  (.reg [⟨some 35, .move (.tmp 9), none⟩,
    ⟨some 36, .binOp .sub 3 (.tmp 35) (.const (.int .i64 1)) 3, none⟩,
    ⟨some 9, .assign (.tmp 36), none⟩])))
def p152l1 : PC :=
  (.seq (.seq (.reg [⟨some 12, .move (.tmp 8), none⟩,
    ⟨some 13, .move (.tmp 2), none⟩,
    ⟨some 14, .binOp .lss 3 (.tmp 12) (.tmp 13) 3, none⟩])
  (.cond (.tmp 14)
    .skip
    (.exit 0)))
  (.seq (.block 1
    (.seq (.reg [⟨some 17, .move (.tmp 8), none⟩,
      ⟨some 9, .assign (.tmp 17), none⟩])
    (.block 2
      (.loop p152l0))))
  (.reg [⟨some 15, .move (.tmp 8), none⟩,
    ⟨some 16, .binOp .add 3 (.tmp 15) (.const (.int .i64 1)) 3, none⟩,
    ⟨some 8, .assign (.tmp 16), none⟩])))
def p152 : PC :=
  (.seq (.reg [⟨some 10, .move (.tmp 1), none⟩,
    ⟨some 11, .binOp .add 3 (.tmp 10) (.const (.int .i64 1)) 3, none⟩,
    ⟨some 8, .assign (.tmp 11), none⟩])
  (.block 0
    (.loop p152l1)))
theorem c152 : f152.body.bind (comp f152.ntmps) = some p152 := by kernel_rfl
def p161l0 : PC :=
  (.seq (.seq (.reg [⟨some 31, .move (.tmp 10), none⟩,
    ⟨some 32, .move (.tmp 11), none⟩,
    ⟨some 33, .binOp .lss 3 (.tmp 31) (.tmp 32) 3, none⟩])
  (.cond (.tmp 33)
    .skip
    (.exit 0)))
  (.block 1
    (.seq (.reg [⟨some 34, .move (.tmp 10), none⟩,
      ⟨some 35, .move (.tmp 11), none⟩,
      ⟨some 36, .binOp .add 3 (.tmp 34) (.tmp 35) 3, none⟩,
      ⟨some 37, .convert 3 116 (.tmp 36), none⟩,
      ⟨some 38, .binOp .shr 116 (.tmp 37) (.const (.int .u64 1)) 116, none⟩,
      ⟨some 39, .convert 116 3 (.tmp 38), none⟩,
      ⟨some 12, .assign (.tmp 39), none⟩])
    (.seq (.draw [0, 0, 0, 6, 14, 0, 0, 96, 224, 511, 1023] [⟨some 40, .move (.tmp 4), none⟩,
      ⟨some 41, .move (.tmp 0), none⟩,
      ⟨some 42, .move (.tmp 12), none⟩,
      ⟨some 43, .indexAddr 54 (.tmp 41) (.tmp 42), none⟩,
      ⟨some 44, .load 56 (.tmp 43), none⟩,
      ⟨some 45, .move (.tmp 0), none⟩,
      ⟨some 46, .move (.tmp 1), none⟩,
      ⟨some 47, .indexAddr 54 (.tmp 45) (.tmp 46), none⟩,
      ⟨some 48, .load 56 (.tmp 47), none⟩]
      [⟨some 49, .call ⟨.value (.tmp 40), #[(.tmp 44), (.tmp 48)], #[56, 56]⟩, none⟩,
      ⟨some 50, .binOp .lss 3 (.tmp 49) (.const (.int .i64 0)) 3, none⟩])
    (.cond (.tmp 50)
      (.reg [⟨some 51, .move (.tmp 12), none⟩,
        ⟨some 52, .binOp .add 3 (.tmp 51) (.const (.int .i64 1)) 3, none⟩,
        ⟨some 10, .assign (.tmp 52), none⟩])
      (.reg [⟨some 53, .move (.tmp 12), none⟩,
        ⟨some 11, .assign (.tmp 53), none⟩]))))))
def p161l1 : PC :=
  (.seq (.seq (.reg [⟨some 55, .move (.tmp 13), none⟩,
    ⟨some 56, .move (.tmp 10), none⟩,
    ⟨some 57, .binOp .sub 3 (.tmp 56) (.const (.int .i64 1)) 3, none⟩,
    ⟨some 58, .binOp .lss 3 (.tmp 55) (.tmp 57) 3, none⟩])
  (.cond (.tmp 58)
    .skip
    (.exit 2)))
  (.seq (.block 3
    (.drawW [0, 0, 0, 0, 8, 0, 0, 64, 224, 480, 0, 0, 3072, 7168, 16355, 32739, 65535, 131071] [⟨some 61, .move (.tmp 0), none⟩,
      ⟨some 62, .move (.tmp 13), none⟩,
      ⟨some 63, .move (.tmp 0), none⟩,
      ⟨some 64, .move (.tmp 13), none⟩,
      ⟨some 65, .binOp .add 3 (.tmp 64) (.const (.int .i64 1)) 3, none⟩,
      ⟨some 66, .move (.tmp 0), none⟩,
      ⟨some 67, .move (.tmp 13), none⟩,
      ⟨some 68, .binOp .add 3 (.tmp 67) (.const (.int .i64 1)) 3, none⟩,
      ⟨some 69, .indexAddr 54 (.tmp 66) (.tmp 68), none⟩,
      ⟨some 70, .load 56 (.tmp 69), none⟩,
      ⟨some 71, .move (.tmp 0), none⟩,
      ⟨some 72, .move (.tmp 13), none⟩,
      ⟨some 73, .indexAddr 54 (.tmp 71) (.tmp 72), none⟩,
      ⟨some 74, .load 56 (.tmp 73), none⟩,
      ⟨some 75, .indexAddr 54 (.tmp 61) (.tmp 62), none⟩,
      ⟨none, .store 56 (.tmp 75) (.tmp 70), none⟩]
      [⟨some 76, .indexAddr 54 (.tmp 63) (.tmp 65), none⟩,
      ⟨none, .store 56 (.tmp 76) (.tmp 74), none⟩]))
  (.reg [⟨some 59, .move (.tmp 13), none⟩,
    ⟨some 60, .binOp .add 3 (.tmp 59) (.const (.int .i64 1)) 3, none⟩,
    ⟨some 13, .assign (.tmp 60), none⟩])))
def p161l2 : PC :=
  (.seq (.seq (.reg [⟨some 83, .move (.tmp 14), none⟩,
    ⟨some 84, .move (.tmp 15), none⟩,
    ⟨some 85, .binOp .lss 3 (.tmp 83) (.tmp 84) 3, none⟩])
  (.cond (.tmp 85)
    .skip
    (.exit 4)))
  (.block 5
    (.seq (.reg [⟨some 86, .move (.tmp 14), none⟩,
      ⟨some 87, .move (.tmp 15), none⟩,
      ⟨some 88, .binOp .add 3 (.tmp 86) (.tmp 87) 3, none⟩,
      ⟨some 89, .convert 3 116 (.tmp 88), none⟩,
      ⟨some 90, .binOp .shr 116 (.tmp 89) (.const (.int .u64 1)) 116, none⟩,
      ⟨some 91, .convert 116 3 (.tmp 90), none⟩,
      ⟨some 16, .assign (.tmp 91), none⟩])
    (.seq (.draw [0, 0, 0, 6, 14, 0, 0, 96, 224, 511, 1023, 2047] [⟨some 92, .move (.tmp 4), none⟩,
      ⟨some 93, .move (.tmp 0), none⟩,
      ⟨some 94, .move (.tmp 2), none⟩,
      ⟨some 95, .indexAddr 54 (.tmp 93) (.tmp 94), none⟩,
      ⟨some 96, .load 56 (.tmp 95), none⟩,
      ⟨some 97, .move (.tmp 0), none⟩,
      ⟨some 98, .move (.tmp 16), none⟩,
      ⟨some 99, .indexAddr 54 (.tmp 97) (.tmp 98), none⟩,
      ⟨some 100, .load 56 (.tmp 99), none⟩]
      [⟨some 101, .call ⟨.value (.tmp 92), #[(.tmp 96), (.tmp 100)], #[56, 56]⟩, none⟩,
      ⟨some 102, .binOp .lss 3 (.tmp 101) (.const (.int .i64 0)) 3, none⟩,
      ⟨some 103, .unOp .not 4 (.tmp 102), none⟩])
    (.cond (.tmp 103)
      (.reg [⟨some 104, .move (.tmp 16), none⟩,
        ⟨some 105, .binOp .add 3 (.tmp 104) (.const (.int .i64 1)) 3, none⟩,
        ⟨some 14, .assign (.tmp 105), none⟩])
      (.reg [⟨some 106, .move (.tmp 16), none⟩,
        ⟨some 15, .assign (.tmp 106), none⟩]))))))
def p161l3 : PC :=
  (.seq (.seq (.reg [⟨some 108, .move (.tmp 17), none⟩,
    ⟨some 109, .move (.tmp 14), none⟩,
    ⟨some 110, .binOp .gtr 3 (.tmp 108) (.tmp 109) 3, none⟩])
  (.cond (.tmp 110)
    .skip
    (.exit 6)))
  (.seq (.block 7
    (.drawW [0, 0, 0, 0, 8, 0, 0, 64, 224, 480, 0, 0, 3072, 7168, 16355, 32739, 65535, 131071] [⟨some 113, .move (.tmp 0), none⟩,
      ⟨some 114, .move (.tmp 17), none⟩,
      ⟨some 115, .move (.tmp 0), none⟩,
      ⟨some 116, .move (.tmp 17), none⟩,
      ⟨some 117, .binOp .sub 3 (.tmp 116) (.const (.int .i64 1)) 3, none⟩,
      ⟨some 118, .move (.tmp 0), none⟩,
      ⟨some 119, .move (.tmp 17), none⟩,
      ⟨some 120, .binOp .sub 3 (.tmp 119) (.const (.int .i64 1)) 3, none⟩,
      ⟨some 121, .indexAddr 54 (.tmp 118) (.tmp 120), none⟩,
      ⟨some 122, .load 56 (.tmp 121), none⟩,
      ⟨some 123, .move (.tmp 0), none⟩,
      ⟨some 124, .move (.tmp 17), none⟩,
      ⟨some 125, .indexAddr 54 (.tmp 123) (.tmp 124), none⟩,
      ⟨some 126, .load 56 (.tmp 125), none⟩,
      ⟨some 127, .indexAddr 54 (.tmp 113) (.tmp 114), none⟩,
      ⟨none, .store 56 (.tmp 127) (.tmp 122), none⟩]
      [⟨some 128, .indexAddr 54 (.tmp 115) (.tmp 117), none⟩,
      ⟨none, .store 56 (.tmp 128) (.tmp 126), none⟩]))
  (.reg [⟨some 111, .move (.tmp 17), none⟩,
    ⟨some 112, .binOp .sub 3 (.tmp 111) (.const (.int .i64 1)) 3, none⟩,
    ⟨some 17, .assign (.tmp 112), none⟩])))
def p161l4 : PC :=
  (.seq (.seq (.reg [⟨some 149, .move (.tmp 20), none⟩,
    ⟨some 150, .move (.tmp 21), none⟩,
    ⟨some 151, .binOp .lss 3 (.tmp 149) (.tmp 150) 3, none⟩])
  (.cond (.tmp 151)
    .skip
    (.exit 8)))
  (.block 9
    (.seq (.reg [⟨some 152, .move (.tmp 20), none⟩,
      ⟨some 153, .move (.tmp 21), none⟩,
      ⟨some 154, .binOp .add 3 (.tmp 152) (.tmp 153) 3, none⟩,
      ⟨some 155, .convert 3 116 (.tmp 154), none⟩,
      ⟨some 156, .binOp .shr 116 (.tmp 155) (.const (.int .u64 1)) 116, none⟩,
      ⟨some 157, .convert 116 3 (.tmp 156), none⟩,
      ⟨some 23, .assign (.tmp 157), none⟩])
    (.seq (.draw [0, 0, 0, 0, 12, 30, 62, 0, 0, 384, 896, 2047, 4095, 8191] [⟨some 158, .move (.tmp 4), none⟩,
      ⟨some 159, .move (.tmp 0), none⟩,
      ⟨some 160, .move (.tmp 22), none⟩,
      ⟨some 161, .move (.tmp 23), none⟩,
      ⟨some 162, .binOp .sub 3 (.tmp 160) (.tmp 161) 3, none⟩,
      ⟨some 163, .indexAddr 54 (.tmp 159) (.tmp 162), none⟩,
      ⟨some 164, .load 56 (.tmp 163), none⟩,
      ⟨some 165, .move (.tmp 0), none⟩,
      ⟨some 166, .move (.tmp 23), none⟩,
      ⟨some 167, .indexAddr 54 (.tmp 165) (.tmp 166), none⟩,
      ⟨some 168, .load 56 (.tmp 167), none⟩]
      [⟨some 169, .call ⟨.value (.tmp 158), #[(.tmp 164), (.tmp 168)], #[56, 56]⟩, none⟩,
      ⟨some 170, .binOp .lss 3 (.tmp 169) (.const (.int .i64 0)) 3, none⟩,
      ⟨some 171, .unOp .not 4 (.tmp 170), none⟩])
    (.cond (.tmp 171)
      (.reg [⟨some 172, .move (.tmp 23), none⟩,
        ⟨some 173, .binOp .add 3 (.tmp 172) (.const (.int .i64 1)) 3, none⟩,
        ⟨some 20, .assign (.tmp 173), none⟩])
      (.reg [⟨some 174, .move (.tmp 23), none⟩,
        ⟨some 21, .assign (.tmp 174), none⟩]))))))
def p161 : PC :=
  (.seq (.seq (.reg [⟨some 25, .move (.tmp 2), none⟩,
    ⟨some 26, .move (.tmp 1), none⟩,
    ⟨some 27, .binOp .sub 3 (.tmp 25) (.tmp 26) 3, none⟩,
    ⟨some 28, .binOp .eql 3 (.tmp 27) (.const (.int .i64 1)) 3, none⟩])
  (.cond (.tmp 28)
    (.seq (.reg [⟨some 29, .move (.tmp 2), none⟩,
      ⟨some 10, .assign (.tmp 29), none⟩])
    (.seq (.reg [⟨some 30, .move (.tmp 3), none⟩,
      ⟨some 11, .assign (.tmp 30), none⟩])
    (.seq (.block 0
      (.loop p161l0))
    (.seq (.seq (.reg [⟨some 54, .move (.tmp 1), none⟩,
      ⟨some 13, .assign (.tmp 54), none⟩])
    (.block 2
      (.loop p161l1)))
    .ret))))
    .skip))
  (.seq (.seq (.reg [⟨some 77, .move (.tmp 3), none⟩,
    ⟨some 78, .move (.tmp 2), none⟩,
    ⟨some 79, .binOp .sub 3 (.tmp 77) (.tmp 78) 3, none⟩,
    ⟨some 80, .binOp .eql 3 (.tmp 79) (.const (.int .i64 1)) 3, none⟩])
  (.cond (.tmp 80)
    (.seq (.reg [⟨some 81, .move (.tmp 1), none⟩,
      ⟨some 14, .assign (.tmp 81), none⟩])
    (.seq (.reg [⟨some 82, .move (.tmp 2), none⟩,
      ⟨some 15, .assign (.tmp 82), none⟩])
    (.seq (.block 4
      (.loop p161l2))
    (.seq (.seq (.reg [⟨some 107, .move (.tmp 2), none⟩,
      ⟨some 17, .assign (.tmp 107), none⟩])
    (.block 6
      (.loop p161l3)))
    .ret))))
    .skip))
  (.seq (.reg [⟨some 129, .move (.tmp 1), none⟩,
    ⟨some 130, .move (.tmp 3), none⟩,
    ⟨some 131, .binOp .add 3 (.tmp 129) (.tmp 130) 3, none⟩,
    ⟨some 132, .convert 3 116 (.tmp 131), none⟩,
    ⟨some 133, .binOp .shr 116 (.tmp 132) (.const (.int .u64 1)) 116, none⟩,
    ⟨some 134, .convert 116 3 (.tmp 133), none⟩,
    ⟨some 18, .assign (.tmp 134), none⟩])
  (.seq (.reg [⟨some 135, .move (.tmp 18), none⟩,
    ⟨some 136, .move (.tmp 2), none⟩,
    ⟨some 137, .binOp .add 3 (.tmp 135) (.tmp 136) 3, none⟩,
    ⟨some 19, .assign (.tmp 137), none⟩])
  (.seq (.reg [⟨some 20, .assign (.const (.int .i64 0)), none⟩,
    ⟨some 21, .assign (.const (.int .i64 0)), none⟩])
  (.seq (.seq (.reg [⟨some 138, .move (.tmp 2), none⟩,
    ⟨some 139, .move (.tmp 18), none⟩,
    ⟨some 140, .binOp .gtr 3 (.tmp 138) (.tmp 139) 3, none⟩])
  (.cond (.tmp 140)
    (.seq (.reg [⟨some 141, .move (.tmp 19), none⟩,
      ⟨some 142, .move (.tmp 3), none⟩,
      ⟨some 143, .binOp .sub 3 (.tmp 141) (.tmp 142) 3, none⟩,
      ⟨some 20, .assign (.tmp 143), none⟩])
    (.reg [⟨some 144, .move (.tmp 18), none⟩,
      ⟨some 21, .assign (.tmp 144), none⟩]))
    (.seq (.reg [⟨some 145, .move (.tmp 1), none⟩,
      ⟨some 20, .assign (.tmp 145), none⟩])
    (.reg [⟨some 146, .move (.tmp 2), none⟩,
      ⟨some 21, .assign (.tmp 146), none⟩]))))
  (.seq (.reg [⟨some 147, .move (.tmp 19), none⟩,
    ⟨some 148, .binOp .sub 3 (.tmp 147) (.const (.int .i64 1)) 3, none⟩,
    ⟨some 22, .assign (.tmp 148), none⟩])
  (.seq (.block 8
    (.loop p161l4))
  (.seq (.reg [⟨some 175, .move (.tmp 19), none⟩,
    ⟨some 176, .move (.tmp 20), none⟩,
    ⟨some 177, .binOp .sub 3 (.tmp 175) (.tmp 176) 3, none⟩,
    ⟨some 24, .assign (.tmp 177), none⟩])
  (.seq (.seq (.reg [⟨some 178, .move (.tmp 20), none⟩,
    ⟨some 179, .move (.tmp 2), none⟩,
    ⟨some 180, .binOp .lss 3 (.tmp 178) (.tmp 179) 3, none⟩,
    ⟨some 181, .move (.tmp 180), none⟩,
    ⟨some 182, .move (.tmp 2), some ((some 181), true)⟩,
    ⟨some 183, .move (.tmp 24), some ((some 181), true)⟩,
    ⟨some 184, .binOp .lss 3 (.tmp 182) (.tmp 183) 3, some ((some 181), true)⟩,
    ⟨some 185, .pick (.tmp 181) (.tmp 184) (.const (.bool false)), none⟩])
  (.cond (.tmp 185)
    (.reg [⟨some 186, .move (.tmp 0), none⟩,
      ⟨some 187, .move (.tmp 20), none⟩,
      ⟨some 188, .move (.tmp 2), none⟩,
      ⟨some 189, .move (.tmp 24), none⟩,
      ⟨some 190, .move (.tmp 4), none⟩,
      ⟨some 191, .call ⟨.value (.func 167), #[(.tmp 186), (.tmp 187), (.tmp 188), (.tmp 189), (.tmp 190)], #[54, 3, 3, 3, 148]⟩, none⟩])
    .skip))
  (.seq (.seq (.reg [⟨some 192, .move (.tmp 1), none⟩,
    ⟨some 193, .move (.tmp 20), none⟩,
    ⟨some 194, .binOp .lss 3 (.tmp 192) (.tmp 193) 3, none⟩,
    ⟨some 195, .move (.tmp 194), none⟩,
    ⟨some 196, .move (.tmp 20), some ((some 195), true)⟩,
    ⟨some 197, .move (.tmp 18), some ((some 195), true)⟩,
    ⟨some 198, .binOp .lss 3 (.tmp 196) (.tmp 197) 3, some ((some 195), true)⟩,
    ⟨some 199, .pick (.tmp 195) (.tmp 198) (.const (.bool false)), none⟩])
  (.cond (.tmp 199)
    (.reg [⟨some 200, .move (.tmp 0), none⟩,
      ⟨some 201, .move (.tmp 1), none⟩,
      ⟨some 202, .move (.tmp 20), none⟩,
      ⟨some 203, .move (.tmp 18), none⟩,
      ⟨some 204, .move (.tmp 4), none⟩,
      ⟨some 205, .call ⟨.value (.func 161), #[(.tmp 200), (.tmp 201), (.tmp 202), (.tmp 203), (.tmp 204)], #[54, 3, 3, 3, 148]⟩, none⟩])
    .skip))
  (.seq (.reg [⟨some 206, .move (.tmp 18), none⟩,
    ⟨some 207, .move (.tmp 24), none⟩,
    ⟨some 208, .binOp .lss 3 (.tmp 206) (.tmp 207) 3, none⟩,
    ⟨some 209, .move (.tmp 208), none⟩,
    ⟨some 210, .move (.tmp 24), some ((some 209), true)⟩,
    ⟨some 211, .move (.tmp 3), some ((some 209), true)⟩,
    ⟨some 212, .binOp .lss 3 (.tmp 210) (.tmp 211) 3, some ((some 209), true)⟩,
    ⟨some 213, .pick (.tmp 209) (.tmp 212) (.const (.bool false)), none⟩])
  (.cond (.tmp 213)
    (.reg [⟨some 214, .move (.tmp 0), none⟩,
      ⟨some 215, .move (.tmp 18), none⟩,
      ⟨some 216, .move (.tmp 24), none⟩,
      ⟨some 217, .move (.tmp 3), none⟩,
      ⟨some 218, .move (.tmp 4), none⟩,
      ⟨some 219, .call ⟨.value (.func 161), #[(.tmp 214), (.tmp 215), (.tmp 216), (.tmp 217), (.tmp 218)], #[54, 3, 3, 3, 148]⟩, none⟩])
    .skip)))))))))))))
theorem c161 : f161.body.bind (comp f161.ntmps) = some p161 := by kernel_rfl
def p167l0 : PC :=
  (.seq (.seq (.reg [⟨some 18, .move (.tmp 10), none⟩,
    ⟨some 19, .move (.tmp 11), none⟩,
    ⟨some 20, .binOp .neq 3 (.tmp 18) (.tmp 19) 3, none⟩])
  (.cond (.tmp 20)
    .skip
    (.exit 0)))
  (.block 1
    (.seq (.reg [⟨some 21, .move (.tmp 10), none⟩,
      ⟨some 22, .move (.tmp 11), none⟩,
      ⟨some 23, .binOp .gtr 3 (.tmp 21) (.tmp 22) 3, none⟩])
    (.cond (.tmp 23)
      (.seq (.reg [⟨some 24, .move (.tmp 0), none⟩,
        ⟨some 25, .move (.tmp 2), none⟩,
        ⟨some 26, .move (.tmp 10), none⟩,
        ⟨some 27, .binOp .sub 3 (.tmp 25) (.tmp 26) 3, none⟩,
        ⟨some 28, .move (.tmp 2), none⟩,
        ⟨some 29, .move (.tmp 11), none⟩,
        ⟨some 30, .move (.tmp 4), none⟩,
        ⟨some 31, .call ⟨.value (.func 169), #[(.tmp 24), (.tmp 27), (.tmp 28), (.tmp 29), (.tmp 30)], #[54, 3, 3, 3, 148]⟩, none⟩])
      (.reg [⟨some 32, .move (.tmp 10), none⟩,
        ⟨some 33, .move (.tmp 11), none⟩,
        ⟨some 34, .binOp .sub 3 (.tmp 32) (.tmp 33) 3, none⟩,
        ⟨some 10, .assign (.tmp 34), none⟩]))
      (.seq (.reg [⟨some 35, .move (.tmp 0), none⟩,
        ⟨some 36, .move (.tmp 2), none⟩,
        ⟨some 37, .move (.tmp 10), none⟩,
        ⟨some 38, .binOp .sub 3 (.tmp 36) (.tmp 37) 3, none⟩,
        ⟨some 39, .move (.tmp 2), none⟩,
        ⟨some 40, .move (.tmp 11), none⟩,
        ⟨some 41, .binOp .add 3 (.tmp 39) (.tmp 40) 3, none⟩,
        ⟨some 42, .move (.tmp 10), none⟩,
        ⟨some 43, .binOp .sub 3 (.tmp 41) (.tmp 42) 3, none⟩,
        ⟨some 44, .move (.tmp 10), none⟩,
        ⟨some 45, .move (.tmp 4), none⟩,
        ⟨some 46, .call ⟨.value (.func 169), #[(.tmp 35), (.tmp 38), (.tmp 43), (.tmp 44), (.tmp 45)], #[54, 3, 3, 3, 148]⟩, none⟩])
      (.reg [⟨some 47, .move (.tmp 11), none⟩,
        ⟨some 48, .move (.tmp 10), none⟩,
        ⟨some 49, .binOp .sub 3 (.tmp 47) (.tmp 48) 3, none⟩,
        ⟨some 11, .assign (.tmp 49), none⟩]))))))
def p167 : PC :=
  (.seq (.reg [⟨some 12, .move (.tmp 2), none⟩,
    ⟨some 13, .move (.tmp 1), none⟩,
    ⟨some 14, .binOp .sub 3 (.tmp 12) (.tmp 13) 3, none⟩,
    ⟨some 10, .assign (.tmp 14), none⟩])
  (.seq (.reg [⟨some 15, .move (.tmp 3), none⟩,
    ⟨some 16, .move (.tmp 2), none⟩,
    ⟨some 17, .binOp .sub 3 (.tmp 15) (.tmp 16) 3, none⟩,
    ⟨some 11, .assign (.tmp 17), none⟩])
  (.seq (.block 0
    (.loop p167l0))
  (.reg [⟨some 50, .move (.tmp 0), none⟩,
    ⟨some 51, .move (.tmp 2), none⟩,
    ⟨some 52, .move (.tmp 10), none⟩,
    ⟨some 53, .binOp .sub 3 (.tmp 51) (.tmp 52) 3, none⟩,
    ⟨some 54, .move (.tmp 2), none⟩,
    ⟨some 55, .move (.tmp 10), none⟩,
    ⟨some 56, .move (.tmp 4), none⟩,
    ⟨some 57, .call ⟨.value (.func 169), #[(.tmp 50), (.tmp 53), (.tmp 54), (.tmp 55), (.tmp 56)], #[54, 3, 3, 3, 148]⟩, none⟩]))))
theorem c167 : f167.body.bind (comp f167.ntmps) = some p167 := by kernel_rfl
def p169l0 : PC :=
  (.seq (.seq (.reg [⟨some 11, .move (.tmp 10), none⟩,
    ⟨some 12, .move (.tmp 3), none⟩,
    ⟨some 13, .binOp .lss 3 (.tmp 11) (.tmp 12) 3, none⟩])
  (.cond (.tmp 13)
    .skip
    (.exit 0)))
  (.seq (.block 1
    (.drawW [0, 0, 0, 6, 0, 0, 0, 96, 0, 0, 0, 1536, 3840, 7936, 0, 0, 0, 98304, 245760, 507904, 1048335, 2096911, 4194303, 8388607] [⟨some 16, .move (.tmp 0), none⟩,
      ⟨some 17, .move (.tmp 1), none⟩,
      ⟨some 18, .move (.tmp 10), none⟩,
      ⟨some 19, .binOp .add 3 (.tmp 17) (.tmp 18) 3, none⟩,
      ⟨some 20, .move (.tmp 0), none⟩,
      ⟨some 21, .move (.tmp 2), none⟩,
      ⟨some 22, .move (.tmp 10), none⟩,
      ⟨some 23, .binOp .add 3 (.tmp 21) (.tmp 22) 3, none⟩,
      ⟨some 24, .move (.tmp 0), none⟩,
      ⟨some 25, .move (.tmp 2), none⟩,
      ⟨some 26, .move (.tmp 10), none⟩,
      ⟨some 27, .binOp .add 3 (.tmp 25) (.tmp 26) 3, none⟩,
      ⟨some 28, .indexAddr 54 (.tmp 24) (.tmp 27), none⟩,
      ⟨some 29, .load 56 (.tmp 28), none⟩,
      ⟨some 30, .move (.tmp 0), none⟩,
      ⟨some 31, .move (.tmp 1), none⟩,
      ⟨some 32, .move (.tmp 10), none⟩,
      ⟨some 33, .binOp .add 3 (.tmp 31) (.tmp 32) 3, none⟩,
      ⟨some 34, .indexAddr 54 (.tmp 30) (.tmp 33), none⟩,
      ⟨some 35, .load 56 (.tmp 34), none⟩,
      ⟨some 36, .indexAddr 54 (.tmp 16) (.tmp 19), none⟩,
      ⟨none, .store 56 (.tmp 36) (.tmp 29), none⟩]
      [⟨some 37, .indexAddr 54 (.tmp 20) (.tmp 23), none⟩,
      ⟨none, .store 56 (.tmp 37) (.tmp 35), none⟩]))
  (.reg [⟨some 14, .move (.tmp 10), none⟩,
    ⟨some 15, .binOp .add 3 (.tmp 14) (.const (.int .i64 1)) 3, none⟩,
    ⟨some 10, .assign (.tmp 15), none⟩])))
def p169 : PC :=
  (.seq (.reg [⟨some 10, .assign (.const (.int .i64 0)), none⟩])
  (.block 0
    (.loop p169l0)))
theorem c169 : f169.body.bind (comp f169.ntmps) = some p169 := by kernel_rfl
end Go.Proofs.Try
