/- Own lemmas and contracts of functions, used by the last text of this claim for the given statement. Conditions: those that each theorem states. -/
import Derived.Test.YtaedloehfgmcnaaSa
import Derived.Test.YtaedloehfgmcnaaProg
namespace Go.Proofs.Try
open Go.Psl
def p3 : PC :=
  (.seq (.reg [⟨some 4, .box 24 (.tmp 1), none⟩,
    ⟨some 5, .box 24 (.tmp 2), none⟩,
    ⟨some 6, .assign (.const (.bool false)), none⟩])
  (.seq (.seq (.reg [⟨some 20, .move (.tmp 0), none⟩,
    ⟨some 21, .call ⟨.builtin .len, #[(.tmp 20)], #[22]⟩, none⟩,
    ⟨some 22, .binOp .gtr 3 (.tmp 21) (.const (.int .i64 40)) 3, none⟩])
  (.cond (.tmp 22)
    (.seq (.reg [⟨some 6, .assign (.const (.bool true)), none⟩])
    .ret)
    .skip))
  (.seq (.reg [⟨some 23, .buildSlice 22 0 #[], none⟩,
    ⟨some 24, .move (.tmp 0), none⟩,
    ⟨some 25, .call ⟨.builtin .append, #[(.tmp 23), (.tmp 24)], #[22, 22]⟩, none⟩,
    ⟨some 7, .assign (.tmp 25), none⟩])
  (.seq (.reg [⟨some 27, .move (.tmp 7), none⟩,
    ⟨some 28, .load 24 (.tmp 4), none⟩,
    ⟨some 29, .call ⟨.value (.func 20), #[(.tmp 27), (.tmp 28)], #[22, 24]⟩, none⟩,
    ⟨some 26, .move (.tmp 29), none⟩,
    ⟨some 30, .extract (.tmp 26) 0, none⟩,
    ⟨some 31, .extract (.tmp 26) 1, none⟩,
    ⟨some 8, .alloc 24, none⟩,
    ⟨none, .store 24 (.tmp 8) (.tmp 30), none⟩,
    ⟨some 9, .assign (.tmp 31), none⟩])
  (.seq (.reg [⟨some 33, .move (.tmp 0), none⟩,
    ⟨some 34, .load 24 (.tmp 4), none⟩,
    ⟨some 35, .call ⟨.value (.func 21), #[(.tmp 33), (.tmp 34)], #[22, 24]⟩, none⟩,
    ⟨some 32, .move (.tmp 35), none⟩,
    ⟨some 36, .extract (.tmp 32) 0, none⟩,
    ⟨some 37, .extract (.tmp 32) 1, none⟩,
    ⟨some 10, .alloc 24, none⟩,
    ⟨none, .store 24 (.tmp 10) (.tmp 36), none⟩,
    ⟨some 11, .assign (.tmp 37), none⟩])
  (.seq (.reg [⟨some 39, .move (.tmp 7), none⟩,
    ⟨some 40, .load 24 (.tmp 5), none⟩,
    ⟨some 41, .call ⟨.value (.func 22), #[(.tmp 39), (.tmp 40)], #[22, 24]⟩, none⟩,
    ⟨some 38, .move (.tmp 41), none⟩,
    ⟨some 42, .extract (.tmp 38) 0, none⟩,
    ⟨some 43, .extract (.tmp 38) 1, none⟩,
    ⟨some 12, .assign (.tmp 42), none⟩,
    ⟨some 13, .assign (.tmp 43), none⟩])
  (.seq (.reg [⟨some 45, .move (.tmp 0), none⟩,
    ⟨some 46, .load 24 (.tmp 5), none⟩,
    ⟨some 47, .call ⟨.value (.func 23), #[(.tmp 45), (.tmp 46)], #[22, 24]⟩, none⟩,
    ⟨some 44, .move (.tmp 47), none⟩,
    ⟨some 48, .extract (.tmp 44) 0, none⟩,
    ⟨some 49, .extract (.tmp 44) 1, none⟩,
    ⟨some 14, .assign (.tmp 48), none⟩,
    ⟨some 15, .assign (.tmp 49), none⟩])
  (.seq (.reg [⟨some 51, .move (.tmp 7), none⟩,
    ⟨some 52, .load 24 (.tmp 5), none⟩,
    ⟨some 53, .call ⟨.value (.func 24), #[(.tmp 51), (.tmp 52)], #[22, 24]⟩, none⟩,
    ⟨some 50, .move (.tmp 53), none⟩,
    ⟨some 54, .extract (.tmp 50) 0, none⟩,
    ⟨some 55, .extract (.tmp 50) 1, none⟩,
    ⟨some 16, .assign (.tmp 54), none⟩,
    ⟨some 17, .assign (.tmp 55), none⟩])
  (.seq (.reg [⟨some 57, .move (.tmp 0), none⟩,
    ⟨some 58, .load 24 (.tmp 5), none⟩,
    ⟨some 59, .call ⟨.value (.func 25), #[(.tmp 57), (.tmp 58)], #[22, 24]⟩, none⟩,
    ⟨some 56, .move (.tmp 59), none⟩,
    ⟨some 60, .extract (.tmp 56) 0, none⟩,
    ⟨some 61, .extract (.tmp 56) 1, none⟩,
    ⟨some 18, .assign (.tmp 60), none⟩,
    ⟨some 19, .assign (.tmp 61), none⟩])
  (.seq (.reg [⟨some 62, .move (.tmp 7), none⟩,
    ⟨some 63, .call ⟨.value (.func 26), #[(.tmp 62)], #[22]⟩, none⟩,
    ⟨some 64, .move (.tmp 0), none⟩,
    ⟨some 65, .call ⟨.value (.func 27), #[(.tmp 64)], #[22]⟩, none⟩,
    ⟨some 66, .binOp .eql 3 (.tmp 63) (.tmp 65) 3, none⟩,
    ⟨some 67, .move (.tmp 66), none⟩,
    ⟨some 68, .load 24 (.tmp 8), some ((some 67), true)⟩,
    ⟨some 69, .load 24 (.tmp 10), some ((some 67), true)⟩,
    ⟨some 70, .binOp .eql 24 (.tmp 68) (.tmp 69) 24, some ((some 67), true)⟩,
    ⟨some 71, .pick (.tmp 67) (.tmp 70) (.const (.bool false)), none⟩,
    ⟨some 72, .move (.tmp 71), none⟩,
    ⟨some 73, .move (.tmp 9), some ((some 72), true)⟩,
    ⟨some 74, .move (.tmp 11), some ((some 72), true)⟩,
    ⟨some 75, .binOp .eql 3 (.tmp 73) (.tmp 74) 3, some ((some 72), true)⟩,
    ⟨some 76, .pick (.tmp 72) (.tmp 75) (.const (.bool false)), none⟩,
    ⟨some 77, .move (.tmp 76), none⟩,
    ⟨some 78, .move (.tmp 12), some ((some 77), true)⟩,
    ⟨some 79, .move (.tmp 14), some ((some 77), true)⟩,
    ⟨some 80, .call ⟨.value (.func 28), #[(.tmp 78), (.tmp 79)], #[30, 30]⟩, some ((some 77), true)⟩,
    ⟨some 81, .pick (.tmp 77) (.tmp 80) (.const (.bool false)), none⟩,
    ⟨some 82, .move (.tmp 81), none⟩,
    ⟨some 83, .move (.tmp 13), some ((some 82), true)⟩,
    ⟨some 84, .move (.tmp 15), some ((some 82), true)⟩,
    ⟨some 85, .binOp .eql 3 (.tmp 83) (.tmp 84) 3, some ((some 82), true)⟩,
    ⟨some 86, .pick (.tmp 82) (.tmp 85) (.const (.bool false)), none⟩,
    ⟨some 87, .move (.tmp 86), none⟩,
    ⟨some 88, .move (.tmp 16), some ((some 87), true)⟩,
    ⟨some 89, .move (.tmp 18), some ((some 87), true)⟩,
    ⟨some 90, .call ⟨.value (.func 28), #[(.tmp 88), (.tmp 89)], #[30, 30]⟩, some ((some 87), true)⟩,
    ⟨some 91, .pick (.tmp 87) (.tmp 90) (.const (.bool false)), none⟩,
    ⟨some 92, .move (.tmp 91), none⟩,
    ⟨some 93, .move (.tmp 17), some ((some 92), true)⟩,
    ⟨some 94, .move (.tmp 19), some ((some 92), true)⟩,
    ⟨some 95, .binOp .eql 3 (.tmp 93) (.tmp 94) 3, some ((some 92), true)⟩,
    ⟨some 96, .pick (.tmp 92) (.tmp 95) (.const (.bool false)), none⟩,
    ⟨some 97, .move (.tmp 96), none⟩,
    ⟨some 98, .move (.tmp 7), some ((some 97), true)⟩,
    ⟨some 99, .move (.tmp 0), some ((some 97), true)⟩,
    ⟨some 100, .call ⟨.value (.func 29), #[(.tmp 98), (.tmp 99)], #[22, 22]⟩, some ((some 97), true)⟩,
    ⟨some 101, .pick (.tmp 97) (.tmp 100) (.const (.bool false)), none⟩,
    ⟨some 6, .assign (.tmp 101), none⟩])
  .ret))))))))))
theorem c3 : f3.body.bind (comp f3.ntmps) = some p3 := by kernel_rfl
def p4 : PC :=
  (.seq (.reg [⟨some 3, .box 24 (.tmp 0), none⟩,
    ⟨some 4, .box 24 (.tmp 1), none⟩,
    ⟨some 5, .box 24 (.tmp 2), none⟩,
    ⟨some 6, .assign (.const (.bool false)), none⟩])
  (.seq (.reg [⟨some 16, .load 24 (.tmp 3), none⟩,
    ⟨some 17, .load 24 (.tmp 4), none⟩,
    ⟨some 18, .load 24 (.tmp 5), none⟩,
    ⟨some 19, .call ⟨.value (.func 30), #[(.tmp 16), (.tmp 17), (.tmp 18)], #[24, 24, 24]⟩, none⟩,
    ⟨some 15, .move (.tmp 19), none⟩,
    ⟨some 20, .extract (.tmp 15) 0, none⟩,
    ⟨some 21, .extract (.tmp 15) 1, none⟩,
    ⟨some 7, .alloc 24, none⟩,
    ⟨none, .store 24 (.tmp 7) (.tmp 20), none⟩,
    ⟨some 8, .assign (.tmp 21), none⟩])
  (.seq (.reg [⟨some 23, .load 24 (.tmp 3), none⟩,
    ⟨some 24, .load 24 (.tmp 4), none⟩,
    ⟨some 25, .load 24 (.tmp 5), none⟩,
    ⟨some 26, .call ⟨.value (.func 31), #[(.tmp 23), (.tmp 24), (.tmp 25)], #[24, 24, 24]⟩, none⟩,
    ⟨some 22, .move (.tmp 26), none⟩,
    ⟨some 27, .extract (.tmp 22) 0, none⟩,
    ⟨some 28, .extract (.tmp 22) 1, none⟩,
    ⟨some 9, .alloc 24, none⟩,
    ⟨none, .store 24 (.tmp 9) (.tmp 27), none⟩,
    ⟨some 10, .assign (.tmp 28), none⟩])
  (.seq (.reg [⟨some 30, .load 24 (.tmp 3), none⟩,
    ⟨some 31, .call ⟨.value (.func 32), #[(.tmp 30)], #[24]⟩, none⟩,
    ⟨some 29, .move (.tmp 31), none⟩,
    ⟨some 32, .extract (.tmp 29) 0, none⟩,
    ⟨some 33, .extract (.tmp 29) 1, none⟩,
    ⟨some 11, .alloc 24, none⟩,
    ⟨none, .store 24 (.tmp 11) (.tmp 32), none⟩,
    ⟨some 12, .assign (.tmp 33), none⟩])
  (.seq (.reg [⟨some 35, .load 24 (.tmp 3), none⟩,
    ⟨some 36, .call ⟨.value (.func 33), #[(.tmp 35)], #[24]⟩, none⟩,
    ⟨some 34, .move (.tmp 36), none⟩,
    ⟨some 37, .extract (.tmp 34) 0, none⟩,
    ⟨some 38, .extract (.tmp 34) 1, none⟩,
    ⟨some 13, .alloc 24, none⟩,
    ⟨none, .store 24 (.tmp 13) (.tmp 37), none⟩,
    ⟨some 14, .assign (.tmp 38), none⟩])
  (.seq (.reg [⟨some 39, .load 24 (.tmp 7), none⟩,
    ⟨some 40, .load 24 (.tmp 9), none⟩,
    ⟨some 41, .binOp .eql 24 (.tmp 39) (.tmp 40) 24, none⟩,
    ⟨some 42, .move (.tmp 41), none⟩,
    ⟨some 43, .move (.tmp 8), some ((some 42), true)⟩,
    ⟨some 44, .move (.tmp 10), some ((some 42), true)⟩,
    ⟨some 45, .binOp .eql 3 (.tmp 43) (.tmp 44) 3, some ((some 42), true)⟩,
    ⟨some 46, .pick (.tmp 42) (.tmp 45) (.const (.bool false)), none⟩,
    ⟨some 47, .move (.tmp 46), none⟩,
    ⟨some 48, .load 24 (.tmp 11), some ((some 47), true)⟩,
    ⟨some 49, .load 24 (.tmp 13), some ((some 47), true)⟩,
    ⟨some 50, .binOp .eql 24 (.tmp 48) (.tmp 49) 24, some ((some 47), true)⟩,
    ⟨some 51, .pick (.tmp 47) (.tmp 50) (.const (.bool false)), none⟩,
    ⟨some 52, .move (.tmp 51), none⟩,
    ⟨some 53, .move (.tmp 12), some ((some 52), true)⟩,
    ⟨some 54, .move (.tmp 14), some ((some 52), true)⟩,
    ⟨some 55, .binOp .eql 3 (.tmp 53) (.tmp 54) 3, some ((some 52), true)⟩,
    ⟨some 56, .pick (.tmp 52) (.tmp 55) (.const (.bool false)), none⟩,
    ⟨some 6, .assign (.tmp 56), none⟩])
  .ret))))))
theorem c4 : f4.body.bind (comp f4.ntmps) = some p4 := by kernel_rfl
def p5 : PC :=
  (.seq (.reg [⟨some 2, .box 24 (.tmp 0), none⟩,
    ⟨some 3, .box 24 (.tmp 1), none⟩,
    ⟨some 4, .assign (.const (.bool false)), none⟩])
  (.seq (.reg [⟨some 30, .load 24 (.tmp 2), none⟩,
    ⟨some 31, .load 24 (.tmp 3), none⟩,
    ⟨some 32, .call ⟨.value (.func 34), #[(.tmp 30), (.tmp 31)], #[24, 24]⟩, none⟩,
    ⟨some 29, .move (.tmp 32), none⟩,
    ⟨some 33, .extract (.tmp 29) 0, none⟩,
    ⟨some 34, .extract (.tmp 29) 1, none⟩,
    ⟨some 5, .alloc 24, none⟩,
    ⟨none, .store 24 (.tmp 5) (.tmp 33), none⟩,
    ⟨some 6, .assign (.tmp 34), none⟩])
  (.seq (.reg [⟨some 36, .load 24 (.tmp 2), none⟩,
    ⟨some 37, .load 24 (.tmp 3), none⟩,
    ⟨some 38, .call ⟨.value (.func 35), #[(.tmp 36), (.tmp 37)], #[24, 24]⟩, none⟩,
    ⟨some 35, .move (.tmp 38), none⟩,
    ⟨some 39, .extract (.tmp 35) 0, none⟩,
    ⟨some 40, .extract (.tmp 35) 1, none⟩,
    ⟨some 7, .alloc 24, none⟩,
    ⟨none, .store 24 (.tmp 7) (.tmp 39), none⟩,
    ⟨some 8, .assign (.tmp 40), none⟩])
  (.seq (.reg [⟨some 42, .load 24 (.tmp 2), none⟩,
    ⟨some 43, .load 24 (.tmp 3), none⟩,
    ⟨some 44, .call ⟨.value (.func 36), #[(.tmp 42), (.tmp 43)], #[24, 24]⟩, none⟩,
    ⟨some 41, .move (.tmp 44), none⟩,
    ⟨some 45, .extract (.tmp 41) 0, none⟩,
    ⟨some 46, .extract (.tmp 41) 1, none⟩,
    ⟨some 9, .alloc 24, none⟩,
    ⟨none, .store 24 (.tmp 9) (.tmp 45), none⟩,
    ⟨some 10, .assign (.tmp 46), none⟩])
  (.seq (.reg [⟨some 48, .load 24 (.tmp 2), none⟩,
    ⟨some 49, .load 24 (.tmp 3), none⟩,
    ⟨some 50, .call ⟨.value (.func 37), #[(.tmp 48), (.tmp 49)], #[24, 24]⟩, none⟩,
    ⟨some 47, .move (.tmp 50), none⟩,
    ⟨some 51, .extract (.tmp 47) 0, none⟩,
    ⟨some 52, .extract (.tmp 47) 1, none⟩,
    ⟨some 11, .alloc 24, none⟩,
    ⟨none, .store 24 (.tmp 11) (.tmp 51), none⟩,
    ⟨some 12, .assign (.tmp 52), none⟩])
  (.seq (.reg [⟨some 54, .load 24 (.tmp 2), none⟩,
    ⟨some 55, .load 24 (.tmp 3), none⟩,
    ⟨some 56, .call ⟨.value (.func 38), #[(.tmp 54), (.tmp 55)], #[24, 24]⟩, none⟩,
    ⟨some 53, .move (.tmp 56), none⟩,
    ⟨some 57, .extract (.tmp 53) 0, none⟩,
    ⟨some 58, .extract (.tmp 53) 1, none⟩,
    ⟨some 13, .alloc 24, none⟩,
    ⟨none, .store 24 (.tmp 13) (.tmp 57), none⟩,
    ⟨some 14, .assign (.tmp 58), none⟩])
  (.seq (.reg [⟨some 60, .load 24 (.tmp 2), none⟩,
    ⟨some 61, .load 24 (.tmp 3), none⟩,
    ⟨some 62, .call ⟨.value (.func 39), #[(.tmp 60), (.tmp 61)], #[24, 24]⟩, none⟩,
    ⟨some 59, .move (.tmp 62), none⟩,
    ⟨some 63, .extract (.tmp 59) 0, none⟩,
    ⟨some 64, .extract (.tmp 59) 1, none⟩,
    ⟨some 15, .alloc 24, none⟩,
    ⟨none, .store 24 (.tmp 15) (.tmp 63), none⟩,
    ⟨some 16, .assign (.tmp 64), none⟩])
  (.seq (.reg [⟨some 66, .load 24 (.tmp 2), none⟩,
    ⟨some 67, .load 24 (.tmp 3), none⟩,
    ⟨some 68, .call ⟨.value (.func 40), #[(.tmp 66), (.tmp 67)], #[24, 24]⟩, none⟩,
    ⟨some 65, .move (.tmp 68), none⟩,
    ⟨some 69, .extract (.tmp 65) 0, none⟩,
    ⟨some 70, .extract (.tmp 65) 1, none⟩,
    ⟨some 17, .alloc 24, none⟩,
    ⟨none, .store 24 (.tmp 17) (.tmp 69), none⟩,
    ⟨some 18, .assign (.tmp 70), none⟩])
  (.seq (.reg [⟨some 72, .load 24 (.tmp 2), none⟩,
    ⟨some 73, .load 24 (.tmp 3), none⟩,
    ⟨some 74, .call ⟨.value (.func 41), #[(.tmp 72), (.tmp 73)], #[24, 24]⟩, none⟩,
    ⟨some 71, .move (.tmp 74), none⟩,
    ⟨some 75, .extract (.tmp 71) 0, none⟩,
    ⟨some 76, .extract (.tmp 71) 1, none⟩,
    ⟨some 19, .alloc 24, none⟩,
    ⟨none, .store 24 (.tmp 19) (.tmp 75), none⟩,
    ⟨some 20, .assign (.tmp 76), none⟩])
  (.seq (.reg [⟨some 78, .load 24 (.tmp 2), none⟩,
    ⟨some 79, .load 24 (.tmp 3), none⟩,
    ⟨some 80, .call ⟨.value (.func 42), #[(.tmp 78), (.tmp 79)], #[24, 24]⟩, none⟩,
    ⟨some 77, .move (.tmp 80), none⟩,
    ⟨some 81, .extract (.tmp 77) 0, none⟩,
    ⟨some 82, .extract (.tmp 77) 1, none⟩,
    ⟨some 21, .alloc 24, none⟩,
    ⟨none, .store 24 (.tmp 21) (.tmp 81), none⟩,
    ⟨some 22, .assign (.tmp 82), none⟩])
  (.seq (.reg [⟨some 84, .load 24 (.tmp 2), none⟩,
    ⟨some 85, .load 24 (.tmp 3), none⟩,
    ⟨some 86, .call ⟨.value (.func 43), #[(.tmp 84), (.tmp 85)], #[24, 24]⟩, none⟩,
    ⟨some 83, .move (.tmp 86), none⟩,
    ⟨some 87, .extract (.tmp 83) 0, none⟩,
    ⟨some 88, .extract (.tmp 83) 1, none⟩,
    ⟨some 23, .alloc 24, none⟩,
    ⟨none, .store 24 (.tmp 23) (.tmp 87), none⟩,
    ⟨some 24, .assign (.tmp 88), none⟩])
  (.seq (.reg [⟨some 90, .load 24 (.tmp 2), none⟩,
    ⟨some 91, .load 24 (.tmp 3), none⟩,
    ⟨some 92, .call ⟨.value (.func 44), #[(.tmp 90), (.tmp 91)], #[24, 24]⟩, none⟩,
    ⟨some 89, .move (.tmp 92), none⟩,
    ⟨some 93, .extract (.tmp 89) 0, none⟩,
    ⟨some 94, .extract (.tmp 89) 1, none⟩,
    ⟨some 25, .assign (.tmp 93), none⟩,
    ⟨some 26, .assign (.tmp 94), none⟩])
  (.seq (.reg [⟨some 96, .load 24 (.tmp 2), none⟩,
    ⟨some 97, .load 24 (.tmp 3), none⟩,
    ⟨some 98, .call ⟨.value (.func 45), #[(.tmp 96), (.tmp 97)], #[24, 24]⟩, none⟩,
    ⟨some 95, .move (.tmp 98), none⟩,
    ⟨some 99, .extract (.tmp 95) 0, none⟩,
    ⟨some 100, .extract (.tmp 95) 1, none⟩,
    ⟨some 27, .assign (.tmp 99), none⟩,
    ⟨some 28, .assign (.tmp 100), none⟩])
  (.seq (.draw [0, 1, 0, 7, 15, 31, 63, 63, 255, 511, 1023, 2047, 2047, 8191, 16383, 32767, 65535, 65535, 262143, 524287, 1048575, 2097151, 2097151, 8388607, 16777215, 33554431, 67108863, 67108863, 268435455, 536870911, 1073741823, 2147483647, 2147483647, 8589934591, 17179869183, 34359738367, 68719476735, 68719476735, 274877906943, 549755813887, 1099511627775, 2199023255551, 2199023255551, 8796093022207, 17592186044415, 35184372088831, 70368744177663, 70368744177663, 281474976710655, 562949953421311, 1125899906842623, 2251799813685247, 2251799813685247, 9007199254740991, 18014398509481983, 36028797018963967, 72057594037927935, 72057594037927935, 288230376151711743, 576460752303423487, 1152921504606846975, 2305843009213693951, 2305843009213693951, 9223372036854775807, 18446744073709551615, 36893488147419103231] [⟨some 101, .load 24 (.tmp 2), none⟩,
    ⟨some 102, .call ⟨.value (.func 46), #[(.tmp 101)], #[24]⟩, none⟩,
    ⟨some 103, .load 24 (.tmp 2), none⟩,
    ⟨some 104, .call ⟨.value (.func 47), #[(.tmp 103)], #[24]⟩, none⟩,
    ⟨some 105, .binOp .eql 3 (.tmp 102) (.tmp 104) 3, none⟩,
    ⟨some 106, .move (.tmp 105), none⟩,
    ⟨some 107, .load 24 (.tmp 5), some ((some 106), true)⟩,
    ⟨some 108, .load 24 (.tmp 7), some ((some 106), true)⟩,
    ⟨some 109, .binOp .eql 24 (.tmp 107) (.tmp 108) 24, some ((some 106), true)⟩,
    ⟨some 110, .pick (.tmp 106) (.tmp 109) (.const (.bool false)), none⟩,
    ⟨some 111, .move (.tmp 110), none⟩,
    ⟨some 112, .move (.tmp 6), some ((some 111), true)⟩,
    ⟨some 113, .move (.tmp 8), some ((some 111), true)⟩,
    ⟨some 114, .binOp .eql 3 (.tmp 112) (.tmp 113) 3, some ((some 111), true)⟩,
    ⟨some 115, .pick (.tmp 111) (.tmp 114) (.const (.bool false)), none⟩,
    ⟨some 116, .move (.tmp 115), none⟩,
    ⟨some 117, .load 24 (.tmp 9), some ((some 116), true)⟩,
    ⟨some 118, .load 24 (.tmp 11), some ((some 116), true)⟩,
    ⟨some 119, .binOp .eql 24 (.tmp 117) (.tmp 118) 24, some ((some 116), true)⟩,
    ⟨some 120, .pick (.tmp 116) (.tmp 119) (.const (.bool false)), none⟩,
    ⟨some 121, .move (.tmp 120), none⟩,
    ⟨some 122, .move (.tmp 10), some ((some 121), true)⟩,
    ⟨some 123, .move (.tmp 12), some ((some 121), true)⟩,
    ⟨some 124, .binOp .eql 3 (.tmp 122) (.tmp 123) 3, some ((some 121), true)⟩,
    ⟨some 125, .pick (.tmp 121) (.tmp 124) (.const (.bool false)), none⟩,
    ⟨some 126, .move (.tmp 125), none⟩,
    ⟨some 127, .load 24 (.tmp 13), some ((some 126), true)⟩,
    ⟨some 128, .load 24 (.tmp 15), some ((some 126), true)⟩,
    ⟨some 129, .binOp .eql 24 (.tmp 127) (.tmp 128) 24, some ((some 126), true)⟩,
    ⟨some 130, .pick (.tmp 126) (.tmp 129) (.const (.bool false)), none⟩,
    ⟨some 131, .move (.tmp 130), none⟩,
    ⟨some 132, .move (.tmp 14), some ((some 131), true)⟩,
    ⟨some 133, .move (.tmp 16), some ((some 131), true)⟩,
    ⟨some 134, .binOp .eql 3 (.tmp 132) (.tmp 133) 3, some ((some 131), true)⟩,
    ⟨some 135, .pick (.tmp 131) (.tmp 134) (.const (.bool false)), none⟩,
    ⟨some 136, .move (.tmp 135), none⟩,
    ⟨some 137, .load 24 (.tmp 17), some ((some 136), true)⟩,
    ⟨some 138, .load 24 (.tmp 19), some ((some 136), true)⟩,
    ⟨some 139, .binOp .eql 24 (.tmp 137) (.tmp 138) 24, some ((some 136), true)⟩,
    ⟨some 140, .pick (.tmp 136) (.tmp 139) (.const (.bool false)), none⟩,
    ⟨some 141, .move (.tmp 140), none⟩,
    ⟨some 142, .move (.tmp 18), some ((some 141), true)⟩,
    ⟨some 143, .move (.tmp 20), some ((some 141), true)⟩,
    ⟨some 144, .binOp .eql 3 (.tmp 142) (.tmp 143) 3, some ((some 141), true)⟩,
    ⟨some 145, .pick (.tmp 141) (.tmp 144) (.const (.bool false)), none⟩,
    ⟨some 146, .move (.tmp 145), none⟩,
    ⟨some 147, .load 24 (.tmp 21), some ((some 146), true)⟩,
    ⟨some 148, .load 24 (.tmp 23), some ((some 146), true)⟩,
    ⟨some 149, .binOp .eql 24 (.tmp 147) (.tmp 148) 24, some ((some 146), true)⟩,
    ⟨some 150, .pick (.tmp 146) (.tmp 149) (.const (.bool false)), none⟩,
    ⟨some 151, .move (.tmp 150), none⟩,
    ⟨some 152, .move (.tmp 22), some ((some 151), true)⟩,
    ⟨some 153, .move (.tmp 24), some ((some 151), true)⟩,
    ⟨some 154, .binOp .eql 3 (.tmp 152) (.tmp 153) 3, some ((some 151), true)⟩,
    ⟨some 155, .pick (.tmp 151) (.tmp 154) (.const (.bool false)), none⟩,
    ⟨some 156, .move (.tmp 155), none⟩,
    ⟨some 157, .move (.tmp 25), some ((some 156), true)⟩,
    ⟨some 158, .move (.tmp 27), some ((some 156), true)⟩,
    ⟨some 159, .binOp .eql 4 (.tmp 157) (.tmp 158) 4, some ((some 156), true)⟩,
    ⟨some 160, .pick (.tmp 156) (.tmp 159) (.const (.bool false)), none⟩,
    ⟨some 161, .move (.tmp 160), none⟩,
    ⟨some 162, .move (.tmp 26), some ((some 161), true)⟩,
    ⟨some 163, .move (.tmp 28), some ((some 161), true)⟩]
    [⟨some 164, .binOp .eql 3 (.tmp 162) (.tmp 163) 3, some ((some 161), true)⟩,
    ⟨some 165, .pick (.tmp 161) (.tmp 164) (.const (.bool false)), none⟩,
    ⟨some 4, .assign (.tmp 165), none⟩])
  .ret))))))))))))))
theorem c5 : f5.body.bind (comp f5.ntmps) = some p5 := by kernel_rfl
def p6l0 : PC :=
  (.seq (.reg [⟨some 109, .binOp .lss 3 (.tmp 108) (.tmp 107) 3, none⟩])
  (.seq (.cond (.tmp 109)
    .skip
    (.exit 0))
  (.seq (.block 1
    (.seq (.reg [⟨some 110, .move (.tmp 108), none⟩,
      ⟨some 23, .assign (.tmp 110), none⟩])
    (.reg [⟨some 111, .move (.tmp 10), none⟩,
      ⟨some 112, .move (.tmp 23), none⟩,
      ⟨some 113, .build 56 #[(0, (.const (.int .i64 (-7)))), (1, (.const (.int .i64 7)))], none⟩,
      ⟨some 114, .indexAddr 54 (.tmp 111) (.tmp 112), none⟩,
      ⟨none, .store 56 (.tmp 114) (.tmp 113), none⟩])))
  (.reg [⟨some 115, .binOp .add 3 (.tmp 108) (.const (.int .i64 1)) 3, none⟩,
    ⟨some 108, .move (.tmp 115), none⟩]))))
def p6 : PC :=
  (.seq (.reg [⟨some 7, .box 56 (.tmp 3), none⟩,
    ⟨some 8, .assign (.const (.bool false)), none⟩])
  (.seq (.seq (.reg [⟨some 24, .move (.tmp 0), none⟩,
    ⟨some 25, .call ⟨.value (.func 48), #[(.tmp 24)], #[54]⟩, none⟩,
    ⟨some 26, .move (.tmp 25), none⟩,
    ⟨some 27, .move (.tmp 1), some ((some 26), false)⟩,
    ⟨some 28, .call ⟨.value (.func 48), #[(.tmp 27)], #[54]⟩, some ((some 26), false)⟩,
    ⟨some 29, .pick (.tmp 26) (.const (.bool true)) (.tmp 28), none⟩,
    ⟨some 30, .move (.tmp 29), none⟩,
    ⟨some 31, .move (.tmp 2), some ((some 30), false)⟩,
    ⟨some 32, .call ⟨.value (.func 48), #[(.tmp 31)], #[54]⟩, some ((some 30), false)⟩,
    ⟨some 33, .pick (.tmp 30) (.const (.bool true)) (.tmp 32), none⟩])
  (.cond (.tmp 33)
    (.seq (.reg [⟨some 8, .assign (.const (.bool true)), none⟩])
    .ret)
    .skip))
  (.seq (.reg [⟨some 34, .buildSlice 54 0 #[], none⟩,
    ⟨some 35, .move (.tmp 0), none⟩,
    ⟨some 36, .call ⟨.builtin .append, #[(.tmp 34), (.tmp 35)], #[54, 54]⟩, none⟩,
    ⟨some 9, .assign (.tmp 36), none⟩])
  (.seq (.reg [⟨some 38, .move (.tmp 9), none⟩,
    ⟨some 39, .call ⟨.value (.func 49), #[(.tmp 38)], #[54]⟩, none⟩,
    ⟨some 37, .move (.tmp 39), none⟩,
    ⟨some 40, .extract (.tmp 37) 0, none⟩,
    ⟨some 41, .extract (.tmp 37) 1, none⟩,
    ⟨some 10, .assign (.tmp 40), none⟩,
    ⟨some 11, .assign (.tmp 41), none⟩])
  (.seq (.reg [⟨some 43, .move (.tmp 0), none⟩,
    ⟨some 44, .call ⟨.value (.func 50), #[(.tmp 43)], #[54]⟩, none⟩,
    ⟨some 42, .move (.tmp 44), none⟩,
    ⟨some 45, .extract (.tmp 42) 0, none⟩,
    ⟨some 46, .extract (.tmp 42) 1, none⟩,
    ⟨some 12, .assign (.tmp 45), none⟩,
    ⟨some 13, .assign (.tmp 46), none⟩])
  (.seq (.reg [⟨some 48, .move (.tmp 1), none⟩,
    ⟨some 49, .load 56 (.tmp 7), none⟩,
    ⟨some 50, .call ⟨.value (.func 51), #[(.tmp 48), (.tmp 49)], #[54, 56]⟩, none⟩,
    ⟨some 47, .move (.tmp 50), none⟩,
    ⟨some 51, .extract (.tmp 47) 0, none⟩,
    ⟨some 52, .extract (.tmp 47) 1, none⟩,
    ⟨some 14, .assign (.tmp 51), none⟩,
    ⟨some 15, .assign (.tmp 52), none⟩])
  (.seq (.reg [⟨some 54, .move (.tmp 1), none⟩,
    ⟨some 55, .load 56 (.tmp 7), none⟩,
    ⟨some 56, .call ⟨.value (.func 52), #[(.tmp 54), (.tmp 55)], #[54, 56]⟩, none⟩,
    ⟨some 53, .move (.tmp 56), none⟩,
    ⟨some 57, .extract (.tmp 53) 0, none⟩,
    ⟨some 58, .extract (.tmp 53) 1, none⟩,
    ⟨some 16, .assign (.tmp 57), none⟩,
    ⟨some 17, .assign (.tmp 58), none⟩])
  (.seq (.reg [⟨some 60, .move (.tmp 1), none⟩,
    ⟨some 61, .move (.tmp 2), none⟩,
    ⟨some 62, .call ⟨.value (.func 53), #[(.tmp 60), (.tmp 61)], #[54, 54]⟩, none⟩,
    ⟨some 59, .move (.tmp 62), none⟩,
    ⟨some 63, .extract (.tmp 59) 0, none⟩,
    ⟨some 64, .extract (.tmp 59) 1, none⟩,
    ⟨some 18, .assign (.tmp 63), none⟩,
    ⟨some 19, .assign (.tmp 64), none⟩])
  (.seq (.reg [⟨some 66, .move (.tmp 1), none⟩,
    ⟨some 67, .move (.tmp 2), none⟩,
    ⟨some 68, .call ⟨.value (.func 54), #[(.tmp 66), (.tmp 67)], #[54, 54]⟩, none⟩,
    ⟨some 65, .move (.tmp 68), none⟩,
    ⟨some 69, .extract (.tmp 65) 0, none⟩,
    ⟨some 70, .extract (.tmp 65) 1, none⟩,
    ⟨some 20, .assign (.tmp 69), none⟩,
    ⟨some 21, .assign (.tmp 70), none⟩])
  (.seq (.reg [⟨some 71, .move (.tmp 1), none⟩,
    ⟨some 72, .call ⟨.value (.func 55), #[(.tmp 71)], #[54]⟩, none⟩,
    ⟨some 73, .move (.tmp 1), none⟩,
    ⟨some 74, .call ⟨.value (.func 56), #[(.tmp 73)], #[54]⟩, none⟩,
    ⟨some 75, .binOp .eql 3 (.tmp 72) (.tmp 74) 3, none⟩,
    ⟨some 76, .move (.tmp 75), none⟩,
    ⟨some 77, .move (.tmp 10), some ((some 76), true)⟩,
    ⟨some 78, .move (.tmp 12), some ((some 76), true)⟩,
    ⟨some 79, .call ⟨.value (.func 57), #[(.tmp 77), (.tmp 78)], #[54, 54]⟩, some ((some 76), true)⟩,
    ⟨some 80, .pick (.tmp 76) (.tmp 79) (.const (.bool false)), none⟩,
    ⟨some 81, .move (.tmp 80), none⟩,
    ⟨some 82, .move (.tmp 11), some ((some 81), true)⟩,
    ⟨some 83, .move (.tmp 13), some ((some 81), true)⟩,
    ⟨some 84, .binOp .eql 3 (.tmp 82) (.tmp 83) 3, some ((some 81), true)⟩,
    ⟨some 85, .pick (.tmp 81) (.tmp 84) (.const (.bool false)), none⟩,
    ⟨some 86, .move (.tmp 85), none⟩,
    ⟨some 87, .move (.tmp 14), some ((some 86), true)⟩,
    ⟨some 88, .move (.tmp 16), some ((some 86), true)⟩,
    ⟨some 89, .binOp .eql 4 (.tmp 87) (.tmp 88) 4, some ((some 86), true)⟩,
    ⟨some 90, .pick (.tmp 86) (.tmp 89) (.const (.bool false)), none⟩,
    ⟨some 91, .move (.tmp 90), none⟩,
    ⟨some 92, .move (.tmp 15), some ((some 91), true)⟩,
    ⟨some 93, .move (.tmp 17), some ((some 91), true)⟩,
    ⟨some 94, .binOp .eql 3 (.tmp 92) (.tmp 93) 3, some ((some 91), true)⟩,
    ⟨some 95, .pick (.tmp 91) (.tmp 94) (.const (.bool false)), none⟩,
    ⟨some 96, .move (.tmp 95), none⟩,
    ⟨some 97, .move (.tmp 18), some ((some 96), true)⟩,
    ⟨some 98, .move (.tmp 20), some ((some 96), true)⟩,
    ⟨some 99, .binOp .eql 4 (.tmp 97) (.tmp 98) 4, some ((some 96), true)⟩,
    ⟨some 100, .pick (.tmp 96) (.tmp 99) (.const (.bool false)), none⟩,
    ⟨some 101, .move (.tmp 100), none⟩,
    ⟨some 102, .move (.tmp 19), some ((some 101), true)⟩,
    ⟨some 103, .move (.tmp 21), some ((some 101), true)⟩,
    ⟨some 104, .binOp .eql 3 (.tmp 102) (.tmp 103) 3, some ((some 101), true)⟩,
    ⟨some 105, .pick (.tmp 101) (.tmp 104) (.const (.bool false)), none⟩,
    ⟨some 22, .assign (.tmp 105), none⟩])
  (.seq (.seq (.reg [⟨some 106, .move (.tmp 10), none⟩,
    ⟨some 107, .call ⟨.builtin .len, #[(.tmp 106)], #[54]⟩, none⟩,
    ⟨some 108, .move (.const (.int .i64 0)), none⟩])
  (.block 0
    (.loop p6l0)))
  (.seq (.reg [⟨some 116, .move (.tmp 22), none⟩,
    ⟨some 117, .move (.tmp 116), none⟩,
    ⟨some 118, .move (.tmp 9), some ((some 117), true)⟩,
    ⟨some 119, .move (.tmp 0), some ((some 117), true)⟩,
    ⟨some 120, .call ⟨.value (.func 57), #[(.tmp 118), (.tmp 119)], #[54, 54]⟩, some ((some 117), true)⟩,
    ⟨some 121, .pick (.tmp 117) (.tmp 120) (.const (.bool false)), none⟩,
    ⟨some 8, .assign (.tmp 121), none⟩])
  .ret))))))))))))
theorem c6 : f6.body.bind (comp f6.ntmps) = some p6 := by kernel_rfl
def p8 : PC :=
  (.seq (.reg [⟨some 8, .assign (.const (.bool false)), none⟩])
  (.seq (.seq (.reg [⟨some 26, .move (.tmp 0), none⟩,
    ⟨some 27, .call ⟨.value (.func 48), #[(.tmp 26)], #[54]⟩, none⟩,
    ⟨some 28, .move (.tmp 27), none⟩,
    ⟨some 29, .move (.tmp 1), some ((some 28), false)⟩,
    ⟨some 30, .call ⟨.value (.func 48), #[(.tmp 29)], #[54]⟩, some ((some 28), false)⟩,
    ⟨some 31, .pick (.tmp 28) (.const (.bool true)) (.tmp 30), none⟩])
  (.cond (.tmp 31)
    (.seq (.reg [⟨some 8, .assign (.const (.bool true)), none⟩])
    .ret)
    .skip))
  (.seq (.reg [⟨some 33, .move (.tmp 0), none⟩,
    ⟨some 34, .move (.tmp 2), none⟩,
    ⟨some 35, .move (.tmp 3), none⟩,
    ⟨some 36, .call ⟨.value (.func 60), #[(.tmp 33), (.tmp 34), (.tmp 35)], #[54, 3, 3]⟩, none⟩,
    ⟨some 32, .move (.tmp 36), none⟩,
    ⟨some 37, .extract (.tmp 32) 0, none⟩,
    ⟨some 38, .extract (.tmp 32) 1, none⟩,
    ⟨some 9, .assign (.tmp 37), none⟩,
    ⟨some 10, .assign (.tmp 38), none⟩])
  (.seq (.reg [⟨some 40, .move (.tmp 0), none⟩,
    ⟨some 41, .move (.tmp 2), none⟩,
    ⟨some 42, .move (.tmp 3), none⟩,
    ⟨some 43, .call ⟨.value (.func 61), #[(.tmp 40), (.tmp 41), (.tmp 42)], #[54, 3, 3]⟩, none⟩,
    ⟨some 39, .move (.tmp 43), none⟩,
    ⟨some 44, .extract (.tmp 39) 0, none⟩,
    ⟨some 45, .extract (.tmp 39) 1, none⟩,
    ⟨some 11, .assign (.tmp 44), none⟩,
    ⟨some 12, .assign (.tmp 45), none⟩])
  (.seq (.reg [⟨some 47, .move (.tmp 0), none⟩,
    ⟨some 48, .move (.tmp 1), none⟩,
    ⟨some 49, .call ⟨.value (.func 62), #[(.tmp 47), (.tmp 48)], #[54, 54]⟩, none⟩,
    ⟨some 46, .move (.tmp 49), none⟩,
    ⟨some 50, .extract (.tmp 46) 0, none⟩,
    ⟨some 51, .extract (.tmp 46) 1, none⟩,
    ⟨some 13, .assign (.tmp 50), none⟩,
    ⟨some 14, .assign (.tmp 51), none⟩])
  (.seq (.reg [⟨some 53, .move (.tmp 0), none⟩,
    ⟨some 54, .move (.tmp 1), none⟩,
    ⟨some 55, .call ⟨.value (.func 63), #[(.tmp 53), (.tmp 54)], #[54, 54]⟩, none⟩,
    ⟨some 52, .move (.tmp 55), none⟩,
    ⟨some 56, .extract (.tmp 52) 0, none⟩,
    ⟨some 57, .extract (.tmp 52) 1, none⟩,
    ⟨some 15, .assign (.tmp 56), none⟩,
    ⟨some 16, .assign (.tmp 57), none⟩])
  (.seq (.reg [⟨some 59, .move (.tmp 0), none⟩,
    ⟨some 60, .move (.tmp 1), none⟩,
    ⟨some 61, .move (.tmp 2), none⟩,
    ⟨some 62, .move (.tmp 3), none⟩,
    ⟨some 63, .call ⟨.value (.func 64), #[(.tmp 59), (.tmp 60), (.tmp 61), (.tmp 62)], #[54, 54, 3, 3]⟩, none⟩,
    ⟨some 58, .move (.tmp 63), none⟩,
    ⟨some 64, .extract (.tmp 58) 0, none⟩,
    ⟨some 65, .extract (.tmp 58) 1, none⟩,
    ⟨some 17, .assign (.tmp 64), none⟩,
    ⟨some 18, .assign (.tmp 65), none⟩])
  (.seq (.reg [⟨some 67, .move (.tmp 0), none⟩,
    ⟨some 68, .move (.tmp 1), none⟩,
    ⟨some 69, .move (.tmp 2), none⟩,
    ⟨some 70, .move (.tmp 3), none⟩,
    ⟨some 71, .call ⟨.value (.func 65), #[(.tmp 67), (.tmp 68), (.tmp 69), (.tmp 70)], #[54, 54, 3, 3]⟩, none⟩,
    ⟨some 66, .move (.tmp 71), none⟩,
    ⟨some 72, .extract (.tmp 66) 0, none⟩,
    ⟨some 73, .extract (.tmp 66) 1, none⟩,
    ⟨some 19, .assign (.tmp 72), none⟩,
    ⟨some 20, .assign (.tmp 73), none⟩])
  (.seq (.seq (.reg [⟨some 74, .move (.tmp 9), none⟩,
    ⟨some 75, .move (.tmp 11), none⟩,
    ⟨some 76, .binOp .neq 3 (.tmp 74) (.tmp 75) 3, none⟩,
    ⟨some 77, .move (.tmp 76), none⟩,
    ⟨some 78, .move (.tmp 10), some ((some 77), false)⟩,
    ⟨some 79, .move (.tmp 12), some ((some 77), false)⟩,
    ⟨some 80, .binOp .neq 3 (.tmp 78) (.tmp 79) 3, some ((some 77), false)⟩,
    ⟨some 81, .pick (.tmp 77) (.const (.bool true)) (.tmp 80), none⟩,
    ⟨some 82, .move (.tmp 81), none⟩,
    ⟨some 83, .move (.tmp 13), some ((some 82), false)⟩,
    ⟨some 84, .move (.tmp 15), some ((some 82), false)⟩,
    ⟨some 85, .call ⟨.value (.func 57), #[(.tmp 83), (.tmp 84)], #[54, 54]⟩, some ((some 82), false)⟩,
    ⟨some 86, .unOp .not 4 (.tmp 85), some ((some 82), false)⟩,
    ⟨some 87, .pick (.tmp 82) (.const (.bool true)) (.tmp 86), none⟩,
    ⟨some 88, .move (.tmp 87), none⟩,
    ⟨some 89, .move (.tmp 14), some ((some 88), false)⟩,
    ⟨some 90, .move (.tmp 16), some ((some 88), false)⟩,
    ⟨some 91, .binOp .neq 3 (.tmp 89) (.tmp 90) 3, some ((some 88), false)⟩,
    ⟨some 92, .pick (.tmp 88) (.const (.bool true)) (.tmp 91), none⟩,
    ⟨some 93, .move (.tmp 92), none⟩,
    ⟨some 94, .move (.tmp 17), some ((some 93), false)⟩,
    ⟨some 95, .move (.tmp 19), some ((some 93), false)⟩,
    ⟨some 96, .binOp .neq 4 (.tmp 94) (.tmp 95) 4, some ((some 93), false)⟩,
    ⟨some 97, .pick (.tmp 93) (.const (.bool true)) (.tmp 96), none⟩,
    ⟨some 98, .move (.tmp 97), none⟩,
    ⟨some 99, .move (.tmp 18), some ((some 98), false)⟩,
    ⟨some 100, .move (.tmp 20), some ((some 98), false)⟩,
    ⟨some 101, .binOp .neq 3 (.tmp 99) (.tmp 100) 3, some ((some 98), false)⟩,
    ⟨some 102, .pick (.tmp 98) (.const (.bool true)) (.tmp 101), none⟩])
  (.cond (.tmp 102)
    (.seq (.reg [⟨some 8, .assign (.const (.bool false)), none⟩])
    .ret)
    .skip))
  (.seq (.reg [⟨some 104, .move (.tmp 0), none⟩,
    ⟨some 105, .move (.tmp 1), none⟩,
    ⟨some 106, .call ⟨.value (.func 66), #[(.tmp 104), (.tmp 105)], #[54, 54]⟩, none⟩,
    ⟨some 103, .move (.tmp 106), none⟩,
    ⟨some 107, .extract (.tmp 103) 0, none⟩,
    ⟨some 108, .extract (.tmp 103) 1, none⟩,
    ⟨some 109, .extract (.tmp 103) 2, none⟩,
    ⟨some 21, .assign (.tmp 107), none⟩,
    ⟨some 22, .assign (.tmp 108), none⟩,
    ⟨some 23, .assign (.tmp 109), none⟩])
  (.seq (.seq (.reg [⟨some 110, .move (.tmp 0), none⟩,
    ⟨some 111, .call ⟨.value (.func 67), #[(.tmp 110)], #[54]⟩, none⟩,
    ⟨some 112, .unOp .not 4 (.tmp 111), none⟩,
    ⟨some 113, .move (.tmp 112), none⟩,
    ⟨some 114, .move (.tmp 1), some ((some 113), false)⟩,
    ⟨some 115, .call ⟨.value (.func 67), #[(.tmp 114)], #[54]⟩, some ((some 113), false)⟩,
    ⟨some 116, .unOp .not 4 (.tmp 115), some ((some 113), false)⟩,
    ⟨some 117, .pick (.tmp 113) (.const (.bool true)) (.tmp 116), none⟩])
  (.cond (.tmp 117)
    (.seq (.reg [⟨some 118, .move (.tmp 23), none⟩,
      ⟨some 119, .binOp .eql 25 (.tmp 118) (.const (.int .i64 14)) 25, none⟩,
      ⟨some 120, .move (.tmp 119), none⟩,
      ⟨some 121, .move (.tmp 21), some ((some 120), true)⟩,
      ⟨some 122, .binOp .eql 3 (.tmp 121) (.const (.int .i64 0)) 3, some ((some 120), true)⟩,
      ⟨some 123, .pick (.tmp 120) (.tmp 122) (.const (.bool false)), none⟩,
      ⟨some 124, .move (.tmp 123), none⟩,
      ⟨some 125, .move (.tmp 22), some ((some 124), true)⟩,
      ⟨some 126, .binOp .eql 3 (.tmp 125) (.const (.int .i64 0)) 3, some ((some 124), true)⟩,
      ⟨some 127, .pick (.tmp 124) (.tmp 126) (.const (.bool false)), none⟩,
      ⟨some 8, .assign (.tmp 127), none⟩])
    .ret)
    .skip))
  (.seq (.seq (.reg [⟨some 128, .move (.tmp 0), none⟩,
    ⟨some 129, .move (.tmp 1), none⟩,
    ⟨some 130, .call ⟨.value (.func 68), #[(.tmp 128), (.tmp 129)], #[54, 54]⟩, none⟩])
  (.cond (.tmp 130)
    (.seq (.reg [⟨some 131, .move (.tmp 23), none⟩,
      ⟨some 132, .binOp .eql 25 (.tmp 131) (.const (.int .i64 6)) 25, none⟩,
      ⟨some 133, .move (.tmp 132), none⟩,
      ⟨some 134, .move (.tmp 21), some ((some 133), true)⟩,
      ⟨some 135, .binOp .eql 3 (.tmp 134) (.const (.int .i64 0)) 3, some ((some 133), true)⟩,
      ⟨some 136, .pick (.tmp 133) (.tmp 135) (.const (.bool false)), none⟩,
      ⟨some 137, .move (.tmp 136), none⟩,
      ⟨some 138, .move (.tmp 22), some ((some 137), true)⟩,
      ⟨some 139, .binOp .eql 3 (.tmp 138) (.const (.int .i64 0)) 3, some ((some 137), true)⟩,
      ⟨some 140, .pick (.tmp 137) (.tmp 139) (.const (.bool false)), none⟩,
      ⟨some 8, .assign (.tmp 140), none⟩])
    .ret)
    .skip))
  (.seq (.reg [⟨some 142, .move (.tmp 0), none⟩,
    ⟨some 143, .move (.tmp 1), none⟩,
    ⟨some 144, .move (.tmp 21), none⟩,
    ⟨some 145, .move (.tmp 22), none⟩,
    ⟨some 146, .call ⟨.value (.func 65), #[(.tmp 142), (.tmp 143), (.tmp 144), (.tmp 145)], #[54, 54, 3, 3]⟩, none⟩,
    ⟨some 141, .move (.tmp 146), none⟩,
    ⟨some 147, .extract (.tmp 141) 0, none⟩,
    ⟨some 148, .extract (.tmp 141) 1, none⟩,
    ⟨some 24, .assign (.tmp 147), none⟩,
    ⟨some 25, .assign (.tmp 148), none⟩])
  (.seq (.reg [⟨some 149, .move (.tmp 23), none⟩,
    ⟨some 150, .binOp .eql 25 (.tmp 149) (.const (.int .i64 0)) 25, none⟩,
    ⟨some 151, .move (.tmp 150), none⟩,
    ⟨some 152, .move (.tmp 24), some ((some 151), true)⟩,
    ⟨some 153, .pick (.tmp 151) (.tmp 152) (.const (.bool false)), none⟩,
    ⟨some 154, .move (.tmp 153), none⟩,
    ⟨some 155, .move (.tmp 25), some ((some 154), true)⟩,
    ⟨some 156, .binOp .eql 3 (.tmp 155) (.const (.int .i64 0)) 3, some ((some 154), true)⟩,
    ⟨some 157, .pick (.tmp 154) (.tmp 156) (.const (.bool false)), none⟩,
    ⟨some 8, .assign (.tmp 157), none⟩])
  .ret))))))))))))))
theorem c8 : f8.body.bind (comp f8.ntmps) = some p8 := by kernel_rfl
def p48 : PC :=
  (.seq (.reg [⟨some 2, .assign (.const (.bool false)), none⟩])
  (.seq (.reg [⟨some 3, .move (.tmp 0), none⟩,
    ⟨some 4, .call ⟨.builtin .len, #[(.tmp 3)], #[54]⟩, none⟩,
    ⟨some 5, .binOp .gtr 3 (.tmp 4) (.const (.int .i64 80)) 3, none⟩,
    ⟨some 2, .assign (.tmp 5), none⟩])
  .ret))
theorem c48 : f48.body.bind (comp f48.ntmps) = some p48 := by kernel_rfl
def p55 : PC :=
  (.seq (.reg [⟨some 2, .assign (.const (.int .i64 0)), none⟩])
  (.seq (.seq (.reg [⟨some 3, .move (.tmp 0), none⟩,
    ⟨some 4, .call ⟨.builtin .len, #[(.tmp 3)], #[54]⟩, none⟩,
    ⟨some 5, .binOp .lss 3 (.tmp 4) (.const (.int .i64 1)) 3, none⟩,
    ⟨some 6, .move (.tmp 5), none⟩,
    ⟨some 7, .move (.tmp 0), some ((some 6), false)⟩,
    ⟨some 8, .call ⟨.builtin .len, #[(.tmp 7)], #[54]⟩, some ((some 6), false)⟩,
    ⟨some 9, .binOp .gtr 3 (.tmp 8) (.const (.int .i64 64)) 3, some ((some 6), false)⟩,
    ⟨some 10, .pick (.tmp 6) (.const (.bool true)) (.tmp 9), none⟩,
    ⟨some 11, .move (.tmp 10), none⟩,
    ⟨some 12, .move (.tmp 0), some ((some 11), false)⟩,
    ⟨some 13, .call ⟨.value (.func 92), #[(.tmp 12)], #[54]⟩, some ((some 11), false)⟩,
    ⟨some 14, .unOp .not 4 (.tmp 13), some ((some 11), false)⟩,
    ⟨some 15, .pick (.tmp 11) (.const (.bool true)) (.tmp 14), none⟩,
    ⟨some 16, .move (.tmp 15), none⟩,
    ⟨some 17, .move (.tmp 0), some ((some 16), false)⟩,
    ⟨some 18, .call ⟨.value (.func 93), #[(.tmp 17)], #[54]⟩, some ((some 16), false)⟩,
    ⟨some 19, .move (.tmp 0), some ((some 16), false)⟩,
    ⟨some 20, .call ⟨.value (.func 101), #[(.tmp 18), (.tmp 19)], #[54, 54]⟩, some ((some 16), false)⟩,
    ⟨some 21, .unOp .not 4 (.tmp 20), some ((some 16), false)⟩,
    ⟨some 22, .pick (.tmp 16) (.const (.bool true)) (.tmp 21), none⟩])
  (.cond (.tmp 22)
    (.seq (.reg [⟨some 2, .assign (.const (.int .i64 14)), none⟩])
    .ret)
    .skip))
  (.seq (.reg [⟨some 2, .assign (.const (.int .i64 0)), none⟩])
  .ret)))
theorem c55 : f55.body.bind (comp f55.ntmps) = some p55 := by kernel_rfl
def p57l0 : PC :=
  (.seq (.seq (.reg [⟨some 11, .move (.tmp 5), none⟩,
    ⟨some 12, .move (.tmp 0), none⟩,
    ⟨some 13, .call ⟨.builtin .len, #[(.tmp 12)], #[54]⟩, none⟩,
    ⟨some 14, .binOp .lss 3 (.tmp 11) (.tmp 13) 3, none⟩])
  (.cond (.tmp 14)
    .skip
    (.exit 0)))
  (.seq (.block 1
    (.seq (.draw [0, 0, 3, 7, 0, 0, 48, 112, 255] [⟨some 17, .move (.tmp 0), none⟩,
      ⟨some 18, .move (.tmp 5), none⟩,
      ⟨some 19, .indexAddr 54 (.tmp 17) (.tmp 18), none⟩,
      ⟨some 20, .load 56 (.tmp 19), none⟩,
      ⟨some 21, .move (.tmp 1), none⟩,
      ⟨some 22, .move (.tmp 5), none⟩,
      ⟨some 23, .indexAddr 54 (.tmp 21) (.tmp 22), none⟩,
      ⟨some 24, .load 56 (.tmp 23), none⟩]
      [⟨some 25, .binOp .neq 56 (.tmp 20) (.tmp 24) 56, none⟩])
    (.cond (.tmp 25)
      (.seq (.reg [⟨some 4, .assign (.const (.bool false)), none⟩])
      .ret)
      .skip)))
  (.reg [⟨some 15, .move (.tmp 5), none⟩,
    ⟨some 16, .binOp .add 3 (.tmp 15) (.const (.int .i64 1)) 3, none⟩,
    ⟨some 5, .assign (.tmp 16), none⟩])))
def p57 : PC :=
  (.seq (.reg [⟨some 4, .assign (.const (.bool false)), none⟩])
  (.seq (.seq (.reg [⟨some 6, .move (.tmp 0), none⟩,
    ⟨some 7, .call ⟨.builtin .len, #[(.tmp 6)], #[54]⟩, none⟩,
    ⟨some 8, .move (.tmp 1), none⟩,
    ⟨some 9, .call ⟨.builtin .len, #[(.tmp 8)], #[54]⟩, none⟩,
    ⟨some 10, .binOp .neq 3 (.tmp 7) (.tmp 9) 3, none⟩])
  (.cond (.tmp 10)
    (.seq (.reg [⟨some 4, .assign (.const (.bool false)), none⟩])
    .ret)
    .skip))
  (.seq (.seq (.reg [⟨some 5, .assign (.const (.int .i64 0)), none⟩])
  (.block 0
    (.loop p57l0)))
  (.seq (.reg [⟨some 4, .assign (.const (.bool true)), none⟩])
  .ret))))
theorem c57 : f57.body.bind (comp f57.ntmps) = some p57 := by kernel_rfl
def p60 : PC :=
  (.seq (.reg [⟨some 6, .assign (.const (.int .i64 0)), none⟩,
    ⟨some 7, .assign (.const (.int .i64 0)), none⟩])
  (.seq (.seq (.reg [⟨some 11, .move (.tmp 0), none⟩,
    ⟨some 12, .call ⟨.value (.func 55), #[(.tmp 11)], #[54]⟩, none⟩,
    ⟨some 8, .assign (.tmp 12), none⟩])
  (.seq (.reg [⟨some 13, .move (.tmp 8), none⟩,
    ⟨some 14, .binOp .neq 25 (.tmp 13) (.const (.int .i64 0)) 25, none⟩])
  (.cond (.tmp 14)
    (.seq (.reg [⟨some 15, .move (.tmp 8), none⟩,
      ⟨some 6, .assign (.const (.int .i64 0)), none⟩,
      ⟨some 7, .assign (.tmp 15), none⟩])
    .ret)
    .skip)))
  (.seq (.seq (.reg [⟨some 16, .move (.tmp 1), none⟩,
    ⟨some 17, .move (.tmp 2), none⟩,
    ⟨some 18, .call ⟨.value (.func 102), #[(.tmp 16), (.tmp 17)], #[3, 3]⟩, none⟩,
    ⟨some 19, .unOp .not 4 (.tmp 18), none⟩])
  (.cond (.tmp 19)
    (.seq (.reg [⟨some 6, .assign (.const (.int .i64 0)), none⟩,
      ⟨some 7, .assign (.const (.int .i64 2)), none⟩])
    .ret)
    .skip))
  (.seq (.reg [⟨some 21, .move (.tmp 0), none⟩,
    ⟨some 22, .move (.tmp 1), none⟩,
    ⟨some 23, .move (.tmp 2), none⟩,
    ⟨some 24, .call ⟨.value (.func 103), #[(.tmp 21), (.tmp 22), (.tmp 23)], #[54, 3, 3]⟩, none⟩,
    ⟨some 20, .move (.tmp 24), none⟩,
    ⟨some 25, .extract (.tmp 20) 0, none⟩,
    ⟨some 26, .extract (.tmp 20) 1, none⟩,
    ⟨some 9, .assign (.tmp 25), none⟩,
    ⟨some 10, .assign (.tmp 26), none⟩])
  (.seq (.reg [⟨some 27, .move (.tmp 10), none⟩,
    ⟨some 6, .assign (.tmp 27), none⟩,
    ⟨some 7, .assign (.const (.int .i64 0)), none⟩])
  .ret)))))
theorem c60 : f60.body.bind (comp f60.ntmps) = some p60 := by kernel_rfl
def p61 : PC :=
  (.seq (.reg [⟨some 6, .assign (.const (.int .i64 0)), none⟩,
    ⟨some 7, .assign (.const (.int .i64 0)), none⟩])
  (.seq (.seq (.reg [⟨some 8, .move (.tmp 0), none⟩,
    ⟨some 9, .call ⟨.value (.func 67), #[(.tmp 8)], #[54]⟩, none⟩,
    ⟨some 10, .unOp .not 4 (.tmp 9), none⟩])
  (.cond (.tmp 10)
    (.seq (.reg [⟨some 6, .assign (.const (.int .i64 0)), none⟩,
      ⟨some 7, .assign (.const (.int .i64 14)), none⟩])
    .ret)
    .skip))
  (.seq (.seq (.reg [⟨some 11, .move (.tmp 1), none⟩,
    ⟨some 12, .call ⟨.value (.func 79), #[(.tmp 11), (.const (.int .i64 (-1073741824))), (.const (.int .i64 1073741824))], #[3, 3, 3]⟩, none⟩,
    ⟨some 13, .unOp .not 4 (.tmp 12), none⟩,
    ⟨some 14, .move (.tmp 13), none⟩,
    ⟨some 15, .move (.tmp 2), some ((some 14), false)⟩,
    ⟨some 16, .call ⟨.value (.func 79), #[(.tmp 15), (.const (.int .i64 (-1073741824))), (.const (.int .i64 1073741824))], #[3, 3, 3]⟩, some ((some 14), false)⟩,
    ⟨some 17, .unOp .not 4 (.tmp 16), some ((some 14), false)⟩,
    ⟨some 18, .pick (.tmp 14) (.const (.bool true)) (.tmp 17), none⟩])
  (.cond (.tmp 18)
    (.seq (.reg [⟨some 6, .assign (.const (.int .i64 0)), none⟩,
      ⟨some 7, .assign (.const (.int .i64 2)), none⟩])
    .ret)
    .skip))
  (.seq (.reg [⟨some 19, .move (.tmp 0), none⟩,
    ⟨some 20, .move (.tmp 1), none⟩,
    ⟨some 21, .move (.tmp 2), none⟩,
    ⟨some 22, .call ⟨.value (.func 104), #[(.tmp 19), (.tmp 20), (.tmp 21)], #[54, 3, 3]⟩, none⟩,
    ⟨some 6, .assign (.tmp 22), none⟩,
    ⟨some 7, .assign (.const (.int .i64 0)), none⟩])
  .ret))))
theorem c61 : f61.body.bind (comp f61.ntmps) = some p61 := by kernel_rfl
def p62 : PC :=
  (.seq (.reg [⟨some 4, .assign (.const (.slice none 0 0)), none⟩,
    ⟨some 5, .assign (.const (.int .i64 0)), none⟩])
  (.seq (.seq (.reg [⟨some 8, .move (.tmp 0), none⟩,
    ⟨some 9, .move (.tmp 1), none⟩,
    ⟨some 10, .buildSlice 154 2 #[(0, (.tmp 8)), (1, (.tmp 9))], none⟩,
    ⟨some 11, .call ⟨.value (.func 98), #[(.tmp 10)], #[154]⟩, none⟩,
    ⟨some 6, .assign (.tmp 11), none⟩])
  (.seq (.reg [⟨some 12, .move (.tmp 6), none⟩,
    ⟨some 13, .binOp .neq 25 (.tmp 12) (.const (.int .i64 0)) 25, none⟩])
  (.cond (.tmp 13)
    (.seq (.reg [⟨some 14, .move (.tmp 6), none⟩,
      ⟨some 4, .assign (.const (.slice none 0 0)), none⟩,
      ⟨some 5, .assign (.tmp 14), none⟩])
    .ret)
    .skip)))
  (.seq (.reg [⟨some 15, .move (.tmp 0), none⟩,
    ⟨some 16, .move (.tmp 1), none⟩,
    ⟨some 17, .call ⟨.value (.func 105), #[(.tmp 15), (.tmp 16)], #[54, 54]⟩, none⟩,
    ⟨some 7, .assign (.tmp 17), none⟩])
  (.seq (.block 0
    (.seq (.reg [⟨some 19, .move (.tmp 7), none⟩,
      ⟨some 20, .call ⟨.value (.func 92), #[(.tmp 19)], #[54]⟩, none⟩,
      ⟨some 21, .unOp .not 4 (.tmp 20), none⟩,
      ⟨some 18, .assign (.tmp 21), none⟩])
    (.cond (.tmp 18)
      (.seq (.reg [⟨some 4, .assign (.const (.slice none 0 0)), none⟩,
        ⟨some 5, .assign (.const (.int .i64 11)), none⟩])
      .ret)
      (.seq (.reg [⟨some 23, .move (.tmp 7), none⟩,
        ⟨some 24, .call ⟨.builtin .len, #[(.tmp 23)], #[54]⟩, none⟩,
        ⟨some 25, .binOp .gtr 3 (.tmp 24) (.const (.int .i64 64)) 3, none⟩,
        ⟨some 22, .assign (.tmp 25), none⟩])
      (.cond (.tmp 22)
        (.seq (.reg [⟨some 4, .assign (.const (.slice none 0 0)), none⟩,
          ⟨some 5, .assign (.const (.int .i64 4)), none⟩])
        .ret)
        .skip)))))
  (.seq (.reg [⟨some 26, .move (.tmp 7), none⟩,
    ⟨some 4, .assign (.tmp 26), none⟩,
    ⟨some 5, .assign (.const (.int .i64 0)), none⟩])
  .ret)))))
theorem c62 : f62.body.bind (comp f62.ntmps) = some p62 := by kernel_rfl
def p63 : PC :=
  (.seq (.reg [⟨some 4, .assign (.const (.slice none 0 0)), none⟩,
    ⟨some 5, .assign (.const (.int .i64 0)), none⟩])
  (.seq (.seq (.reg [⟨some 7, .move (.tmp 0), none⟩,
    ⟨some 8, .call ⟨.value (.func 67), #[(.tmp 7)], #[54]⟩, none⟩,
    ⟨some 9, .unOp .not 4 (.tmp 8), none⟩,
    ⟨some 10, .move (.tmp 9), none⟩,
    ⟨some 11, .move (.tmp 1), some ((some 10), false)⟩,
    ⟨some 12, .call ⟨.value (.func 67), #[(.tmp 11)], #[54]⟩, some ((some 10), false)⟩,
    ⟨some 13, .unOp .not 4 (.tmp 12), some ((some 10), false)⟩,
    ⟨some 14, .pick (.tmp 10) (.const (.bool true)) (.tmp 13), none⟩])
  (.cond (.tmp 14)
    (.seq (.reg [⟨some 4, .assign (.const (.slice none 0 0)), none⟩,
      ⟨some 5, .assign (.const (.int .i64 14)), none⟩])
    .ret)
    .skip))
  (.seq (.reg [⟨some 15, .move (.tmp 0), none⟩,
    ⟨some 16, .move (.tmp 1), none⟩,
    ⟨some 17, .call ⟨.value (.func 106), #[(.tmp 15), (.tmp 16), (.const (.int .i64 1))], #[54, 54, 3]⟩, none⟩,
    ⟨some 6, .assign (.tmp 17), none⟩])
  (.seq (.seq (.reg [⟨some 18, .move (.tmp 6), none⟩,
    ⟨some 19, .call ⟨.value (.func 94), #[(.tmp 18)], #[54]⟩, none⟩,
    ⟨some 20, .unOp .not 4 (.tmp 19), none⟩])
  (.cond (.tmp 20)
    (.seq (.reg [⟨some 4, .assign (.const (.slice none 0 0)), none⟩,
      ⟨some 5, .assign (.const (.int .i64 11)), none⟩])
    .ret)
    .skip))
  (.seq (.seq (.reg [⟨some 21, .move (.tmp 6), none⟩,
    ⟨some 22, .call ⟨.builtin .len, #[(.tmp 21)], #[54]⟩, none⟩,
    ⟨some 23, .binOp .gtr 3 (.tmp 22) (.const (.int .i64 64)) 3, none⟩])
  (.cond (.tmp 23)
    (.seq (.reg [⟨some 4, .assign (.const (.slice none 0 0)), none⟩,
      ⟨some 5, .assign (.const (.int .i64 4)), none⟩])
    .ret)
    .skip))
  (.seq (.reg [⟨some 24, .move (.tmp 6), none⟩,
    ⟨some 4, .assign (.tmp 24), none⟩,
    ⟨some 5, .assign (.const (.int .i64 0)), none⟩])
  .ret))))))
theorem c63 : f63.body.bind (comp f63.ntmps) = some p63 := by kernel_rfl
def p64 : PC :=
  (.seq (.reg [⟨some 8, .assign (.const (.bool false)), none⟩,
    ⟨some 9, .assign (.const (.int .i64 0)), none⟩])
  (.seq (.seq (.reg [⟨some 11, .move (.tmp 0), none⟩,
    ⟨some 12, .move (.tmp 1), none⟩,
    ⟨some 13, .buildSlice 154 2 #[(0, (.tmp 11)), (1, (.tmp 12))], none⟩,
    ⟨some 14, .call ⟨.value (.func 98), #[(.tmp 13)], #[154]⟩, none⟩,
    ⟨some 10, .assign (.tmp 14), none⟩])
  (.seq (.reg [⟨some 15, .move (.tmp 10), none⟩,
    ⟨some 16, .binOp .neq 25 (.tmp 15) (.const (.int .i64 0)) 25, none⟩])
  (.cond (.tmp 16)
    (.seq (.reg [⟨some 17, .move (.tmp 10), none⟩,
      ⟨some 8, .assign (.const (.bool false)), none⟩,
      ⟨some 9, .assign (.tmp 17), none⟩])
    .ret)
    .skip)))
  (.seq (.seq (.reg [⟨some 18, .move (.tmp 2), none⟩,
    ⟨some 19, .move (.tmp 3), none⟩,
    ⟨some 20, .call ⟨.value (.func 102), #[(.tmp 18), (.tmp 19)], #[3, 3]⟩, none⟩,
    ⟨some 21, .unOp .not 4 (.tmp 20), none⟩])
  (.cond (.tmp 21)
    (.seq (.reg [⟨some 8, .assign (.const (.bool false)), none⟩,
      ⟨some 9, .assign (.const (.int .i64 2)), none⟩])
    .ret)
    .skip))
  (.seq (.reg [⟨some 22, .move (.tmp 0), none⟩,
    ⟨some 23, .move (.tmp 1), none⟩,
    ⟨some 24, .move (.tmp 2), none⟩,
    ⟨some 25, .move (.tmp 3), none⟩,
    ⟨some 26, .call ⟨.value (.func 107), #[(.tmp 22), (.tmp 23), (.tmp 24), (.tmp 25)], #[54, 54, 3, 3]⟩, none⟩,
    ⟨some 8, .assign (.tmp 26), none⟩,
    ⟨some 9, .assign (.const (.int .i64 0)), none⟩])
  .ret))))
theorem c64 : f64.body.bind (comp f64.ntmps) = some p64 := by kernel_rfl
def p65 : PC :=
  (.seq (.reg [⟨some 8, .assign (.const (.bool false)), none⟩,
    ⟨some 9, .assign (.const (.int .i64 0)), none⟩])
  (.seq (.seq (.reg [⟨some 10, .move (.tmp 0), none⟩,
    ⟨some 11, .call ⟨.value (.func 67), #[(.tmp 10)], #[54]⟩, none⟩,
    ⟨some 12, .unOp .not 4 (.tmp 11), none⟩,
    ⟨some 13, .move (.tmp 12), none⟩,
    ⟨some 14, .move (.tmp 1), some ((some 13), false)⟩,
    ⟨some 15, .call ⟨.value (.func 67), #[(.tmp 14)], #[54]⟩, some ((some 13), false)⟩,
    ⟨some 16, .unOp .not 4 (.tmp 15), some ((some 13), false)⟩,
    ⟨some 17, .pick (.tmp 13) (.const (.bool true)) (.tmp 16), none⟩])
  (.cond (.tmp 17)
    (.seq (.reg [⟨some 8, .assign (.const (.bool false)), none⟩,
      ⟨some 9, .assign (.const (.int .i64 14)), none⟩])
    .ret)
    .skip))
  (.seq (.seq (.reg [⟨some 18, .move (.tmp 2), none⟩,
    ⟨some 19, .call ⟨.value (.func 79), #[(.tmp 18), (.const (.int .i64 (-1073741824))), (.const (.int .i64 1073741824))], #[3, 3, 3]⟩, none⟩,
    ⟨some 20, .unOp .not 4 (.tmp 19), none⟩,
    ⟨some 21, .move (.tmp 20), none⟩,
    ⟨some 22, .move (.tmp 3), some ((some 21), false)⟩,
    ⟨some 23, .call ⟨.value (.func 79), #[(.tmp 22), (.const (.int .i64 (-1073741824))), (.const (.int .i64 1073741824))], #[3, 3, 3]⟩, some ((some 21), false)⟩,
    ⟨some 24, .unOp .not 4 (.tmp 23), some ((some 21), false)⟩,
    ⟨some 25, .pick (.tmp 21) (.const (.bool true)) (.tmp 24), none⟩])
  (.cond (.tmp 25)
    (.seq (.reg [⟨some 8, .assign (.const (.bool false)), none⟩,
      ⟨some 9, .assign (.const (.int .i64 2)), none⟩])
    .ret)
    .skip))
  (.seq (.reg [⟨some 26, .move (.tmp 0), none⟩,
    ⟨some 27, .move (.tmp 2), none⟩,
    ⟨some 28, .move (.tmp 3), none⟩,
    ⟨some 29, .call ⟨.value (.func 104), #[(.tmp 26), (.tmp 27), (.tmp 28)], #[54, 3, 3]⟩, none⟩,
    ⟨some 30, .move (.tmp 1), none⟩,
    ⟨some 31, .move (.tmp 2), none⟩,
    ⟨some 32, .unOp .neg 3 (.tmp 31), none⟩,
    ⟨some 33, .move (.tmp 3), none⟩,
    ⟨some 34, .unOp .neg 3 (.tmp 33), none⟩,
    ⟨some 35, .call ⟨.value (.func 104), #[(.tmp 30), (.tmp 32), (.tmp 34)], #[54, 3, 3]⟩, none⟩,
    ⟨some 36, .unOp .neg 3 (.tmp 35), none⟩,
    ⟨some 37, .binOp .lss 3 (.tmp 29) (.tmp 36) 3, none⟩,
    ⟨some 8, .assign (.tmp 37), none⟩,
    ⟨some 9, .assign (.const (.int .i64 0)), none⟩])
  .ret))))
theorem c65 : f65.body.bind (comp f65.ntmps) = some p65 := by kernel_rfl
def p66l0 : PC :=
  (.seq (.reg [⟨some 28, .binOp .lss 3 (.tmp 27) (.tmp 26) 3, none⟩])
  (.seq (.cond (.tmp 28)
    .skip
    (.exit 0))
  (.seq (.block 1
    (.seq (.reg [⟨some 29, .indexAddr 54 (.tmp 25) (.tmp 27), none⟩,
      ⟨some 30, .load 56 (.tmp 29), none⟩,
      ⟨some 10, .alloc 56, none⟩,
      ⟨none, .store 56 (.tmp 10) (.tmp 30), none⟩])
    (.reg [⟨some 31, .move (.tmp 8), none⟩,
      ⟨some 32, .fieldAddr 56 (.tmp 10) 1, none⟩,
      ⟨some 33, .load 3 (.tmp 32), none⟩,
      ⟨some 34, .fieldAddr 56 (.tmp 10) 0, none⟩,
      ⟨some 35, .load 3 (.tmp 34), none⟩,
      ⟨some 36, .unOp .neg 3 (.tmp 35), none⟩,
      ⟨some 37, .build 56 #[(0, (.tmp 33)), (1, (.tmp 36))], none⟩,
      ⟨some 38, .fieldAddr 56 (.tmp 10) 1, none⟩,
      ⟨some 39, .load 3 (.tmp 38), none⟩,
      ⟨some 40, .unOp .neg 3 (.tmp 39), none⟩,
      ⟨some 41, .fieldAddr 56 (.tmp 10) 0, none⟩,
      ⟨some 42, .load 3 (.tmp 41), none⟩,
      ⟨some 43, .build 56 #[(0, (.tmp 40)), (1, (.tmp 42))], none⟩,
      ⟨some 44, .load 56 (.tmp 10), none⟩,
      ⟨some 45, .fieldAddr 56 (.tmp 10) 0, none⟩,
      ⟨some 46, .load 3 (.tmp 45), none⟩,
      ⟨some 47, .unOp .neg 3 (.tmp 46), none⟩,
      ⟨some 48, .fieldAddr 56 (.tmp 10) 1, none⟩,
      ⟨some 49, .load 3 (.tmp 48), none⟩,
      ⟨some 50, .unOp .neg 3 (.tmp 49), none⟩,
      ⟨some 51, .build 56 #[(0, (.tmp 47)), (1, (.tmp 50))], none⟩,
      ⟨some 52, .buildSlice 54 4 #[(0, (.tmp 37)), (1, (.tmp 43)), (2, (.tmp 44)), (3, (.tmp 51))], none⟩,
      ⟨some 53, .call ⟨.builtin .append, #[(.tmp 31), (.tmp 52)], #[54, 54]⟩, none⟩,
      ⟨some 8, .assign (.tmp 53), none⟩])))
  (.reg [⟨some 54, .binOp .add 3 (.tmp 27) (.const (.int .i64 1)) 3, none⟩,
    ⟨some 27, .move (.tmp 54), none⟩]))))
def p66l1 : PC :=
  (.seq (.reg [⟨some 68, .binOp .lss 3 (.tmp 67) (.tmp 66) 3, none⟩])
  (.seq (.cond (.tmp 68)
    .skip
    (.exit 2))
  (.seq (.block 3
    (.seq (.reg [⟨some 69, .indexAddr 54 (.tmp 65) (.tmp 67), none⟩,
      ⟨some 70, .load 56 (.tmp 69), none⟩,
      ⟨some 12, .alloc 56, none⟩,
      ⟨none, .store 56 (.tmp 12) (.tmp 70), none⟩])
    (.seq (.reg [⟨some 71, .move (.tmp 0), none⟩,
      ⟨some 72, .move (.tmp 1), none⟩,
      ⟨some 73, .fieldAddr 56 (.tmp 12) 0, none⟩,
      ⟨some 74, .load 3 (.tmp 73), none⟩,
      ⟨some 75, .fieldAddr 56 (.tmp 12) 1, none⟩,
      ⟨some 76, .load 3 (.tmp 75), none⟩,
      ⟨some 77, .call ⟨.value (.func 107), #[(.tmp 71), (.tmp 72), (.tmp 74), (.tmp 76)], #[54, 54, 3, 3]⟩, none⟩])
    (.cond (.tmp 77)
      (.seq (.draw [0, 1, 0, 4, 3, 31, 63] [⟨some 78, .fieldAddr 56 (.tmp 12) 0, none⟩,
        ⟨some 79, .load 3 (.tmp 78), none⟩,
        ⟨some 80, .fieldAddr 56 (.tmp 12) 1, none⟩,
        ⟨some 81, .load 3 (.tmp 80), none⟩,
        ⟨some 4, .assign (.tmp 79), none⟩]
        [⟨some 5, .assign (.tmp 81), none⟩,
        ⟨some 6, .assign (.const (.int .i64 0)), none⟩])
      .ret)
      .skip))))
  (.reg [⟨some 82, .binOp .add 3 (.tmp 67) (.const (.int .i64 1)) 3, none⟩,
    ⟨some 67, .move (.tmp 82), none⟩]))))
def p66 : PC :=
  (.seq (.reg [⟨some 4, .assign (.const (.int .i64 0)), none⟩,
    ⟨some 5, .assign (.const (.int .i64 0)), none⟩,
    ⟨some 6, .assign (.const (.int .i64 0)), none⟩])
  (.seq (.seq (.reg [⟨some 13, .move (.tmp 0), none⟩,
    ⟨some 14, .move (.tmp 1), none⟩,
    ⟨some 15, .buildSlice 154 2 #[(0, (.tmp 13)), (1, (.tmp 14))], none⟩,
    ⟨some 16, .call ⟨.value (.func 98), #[(.tmp 15)], #[154]⟩, none⟩,
    ⟨some 7, .assign (.tmp 16), none⟩])
  (.seq (.reg [⟨some 17, .move (.tmp 7), none⟩,
    ⟨some 18, .binOp .neq 25 (.tmp 17) (.const (.int .i64 0)) 25, none⟩])
  (.cond (.tmp 18)
    (.seq (.reg [⟨some 19, .move (.tmp 7), none⟩,
      ⟨some 4, .assign (.const (.int .i64 0)), none⟩,
      ⟨some 5, .assign (.const (.int .i64 0)), none⟩,
      ⟨some 6, .assign (.tmp 19), none⟩])
    .ret)
    .skip)))
  (.seq (.reg [⟨some 8, .assign (.const (.slice none 0 0)), none⟩])
  (.seq (.seq (.reg [⟨some 20, .move (.tmp 0), none⟩,
    ⟨some 21, .call ⟨.value (.func 109), #[(.tmp 20)], #[54]⟩, none⟩,
    ⟨some 22, .move (.tmp 1), none⟩,
    ⟨some 23, .call ⟨.value (.func 109), #[(.tmp 22)], #[54]⟩, none⟩,
    ⟨some 24, .buildSlice 154 2 #[(0, (.tmp 21)), (1, (.tmp 23))], none⟩,
    ⟨some 25, .call ⟨.value (.func 108), #[(.tmp 24)], #[154]⟩, none⟩,
    ⟨some 26, .call ⟨.builtin .len, #[(.tmp 25)], #[54]⟩, none⟩,
    ⟨some 27, .move (.const (.int .i64 0)), none⟩])
  (.block 0
    (.loop p66l0)))
  (.seq (.draw [0, 0, 2, 6, 0, 16, 48, 126, 254, 511, 1023] [⟨some 55, .move (.tmp 8), none⟩,
    ⟨some 56, .move (.tmp 0), none⟩,
    ⟨some 57, .indexAddr 54 (.tmp 56) (.const (.int .i64 0)), none⟩,
    ⟨some 58, .load 56 (.tmp 57), none⟩,
    ⟨some 59, .move (.tmp 1), none⟩,
    ⟨some 60, .indexAddr 54 (.tmp 59) (.const (.int .i64 0)), none⟩,
    ⟨some 61, .load 56 (.tmp 60), none⟩,
    ⟨some 62, .call ⟨.value (.func 110), #[(.tmp 58), (.tmp 61)], #[56, 56]⟩, none⟩,
    ⟨some 63, .buildSlice 54 1 #[(0, (.tmp 62))], none⟩]
    [⟨some 64, .call ⟨.builtin .append, #[(.tmp 55), (.tmp 63)], #[54, 54]⟩, none⟩,
    ⟨some 8, .assign (.tmp 64), none⟩])
  (.seq (.seq (.reg [⟨some 65, .move (.tmp 8), none⟩,
    ⟨some 66, .call ⟨.builtin .len, #[(.tmp 65)], #[54]⟩, none⟩,
    ⟨some 67, .move (.const (.int .i64 0)), none⟩])
  (.block 2
    (.loop p66l1)))
  (.seq (.reg [⟨some 4, .assign (.const (.int .i64 0)), none⟩,
    ⟨some 5, .assign (.const (.int .i64 0)), none⟩,
    ⟨some 6, .assign (.const (.int .i64 6)), none⟩])
  .ret)))))))
theorem c66 : f66.body.bind (comp f66.ntmps) = some p66 := by kernel_rfl
def p67 : PC :=
  (.seq (.reg [⟨some 2, .assign (.const (.bool false)), none⟩])
  (.seq (.reg [⟨some 3, .move (.tmp 0), none⟩,
    ⟨some 4, .call ⟨.builtin .len, #[(.tmp 3)], #[54]⟩, none⟩,
    ⟨some 5, .call ⟨.value (.func 79), #[(.tmp 4), (.const (.int .i64 1)), (.const (.int .i64 64))], #[3, 3, 3]⟩, none⟩,
    ⟨some 6, .move (.tmp 5), none⟩,
    ⟨some 7, .move (.tmp 0), some ((some 6), true)⟩,
    ⟨some 8, .call ⟨.value (.func 94), #[(.tmp 7)], #[54]⟩, some ((some 6), true)⟩,
    ⟨some 9, .pick (.tmp 6) (.tmp 8) (.const (.bool false)), none⟩,
    ⟨some 10, .move (.tmp 9), none⟩,
    ⟨some 11, .move (.tmp 0), some ((some 10), true)⟩,
    ⟨some 12, .call ⟨.value (.func 95), #[(.tmp 11)], #[54]⟩, some ((some 10), true)⟩,
    ⟨some 13, .move (.tmp 0), some ((some 10), true)⟩,
    ⟨some 14, .call ⟨.value (.func 57), #[(.tmp 12), (.tmp 13)], #[54, 54]⟩, some ((some 10), true)⟩,
    ⟨some 15, .pick (.tmp 10) (.tmp 14) (.const (.bool false)), none⟩,
    ⟨some 2, .assign (.tmp 15), none⟩])
  .ret))
theorem c67 : f67.body.bind (comp f67.ntmps) = some p67 := by kernel_rfl
def p68 : PC :=
  (.seq (.reg [⟨some 4, .assign (.const (.bool false)), none⟩])
  (.seq (.reg [⟨some 5, .move (.tmp 0), none⟩,
    ⟨some 6, .move (.tmp 1), none⟩,
    ⟨some 7, .call ⟨.value (.func 106), #[(.tmp 5), (.tmp 6), (.const (.int .i64 (-1)))], #[54, 54, 3]⟩, none⟩,
    ⟨some 8, .build 56 #[], none⟩,
    ⟨some 9, .call ⟨.value (.func 97), #[(.tmp 7), (.tmp 8)], #[54, 56]⟩, none⟩,
    ⟨some 4, .assign (.tmp 9), none⟩])
  .ret))
theorem c68 : f68.body.bind (comp f68.ntmps) = some p68 := by kernel_rfl
def p79 : PC :=
  (.seq (.reg [⟨some 6, .assign (.const (.bool false)), none⟩])
  (.seq (.reg [⟨some 7, .move (.tmp 0), none⟩,
    ⟨some 8, .move (.tmp 1), none⟩,
    ⟨some 9, .binOp .geq 3 (.tmp 7) (.tmp 8) 3, none⟩,
    ⟨some 10, .move (.tmp 9), none⟩,
    ⟨some 11, .move (.tmp 0), some ((some 10), true)⟩,
    ⟨some 12, .move (.tmp 2), some ((some 10), true)⟩,
    ⟨some 13, .binOp .leq 3 (.tmp 11) (.tmp 12) 3, some ((some 10), true)⟩,
    ⟨some 14, .pick (.tmp 10) (.tmp 13) (.const (.bool false)), none⟩,
    ⟨some 6, .assign (.tmp 14), none⟩])
  .ret))
theorem c79 : f79.body.bind (comp f79.ntmps) = some p79 := by kernel_rfl
def p92l0 : PC :=
  (.seq (.reg [⟨some 8, .binOp .lss 3 (.tmp 7) (.tmp 6) 3, none⟩])
  (.seq (.cond (.tmp 8)
    .skip
    (.exit 0))
  (.seq (.block 1
    (.seq (.reg [⟨some 9, .indexAddr 54 (.tmp 5) (.tmp 7), none⟩,
      ⟨some 10, .load 56 (.tmp 9), none⟩,
      ⟨some 4, .alloc 56, none⟩,
      ⟨none, .store 56 (.tmp 4) (.tmp 10), none⟩])
    (.seq (.reg [⟨some 11, .fieldAddr 56 (.tmp 4) 0, none⟩,
      ⟨some 12, .load 3 (.tmp 11), none⟩,
      ⟨some 13, .fieldAddr 56 (.tmp 4) 1, none⟩,
      ⟨some 14, .load 3 (.tmp 13), none⟩,
      ⟨some 15, .call ⟨.builtin .max, #[(.tmp 12), (.tmp 14)], #[3, 3]⟩, none⟩,
      ⟨some 16, .binOp .gtr 3 (.tmp 15) (.const (.int .i64 268435456)) 3, none⟩,
      ⟨some 17, .move (.tmp 16), none⟩,
      ⟨some 18, .fieldAddr 56 (.tmp 4) 0, some ((some 17), false)⟩,
      ⟨some 19, .load 3 (.tmp 18), some ((some 17), false)⟩,
      ⟨some 20, .fieldAddr 56 (.tmp 4) 1, some ((some 17), false)⟩,
      ⟨some 21, .load 3 (.tmp 20), some ((some 17), false)⟩,
      ⟨some 22, .call ⟨.builtin .min, #[(.tmp 19), (.tmp 21)], #[3, 3]⟩, some ((some 17), false)⟩,
      ⟨some 23, .binOp .lss 3 (.tmp 22) (.const (.int .i64 (-268435456))) 3, some ((some 17), false)⟩,
      ⟨some 24, .pick (.tmp 17) (.const (.bool true)) (.tmp 23), none⟩])
    (.cond (.tmp 24)
      (.seq (.reg [⟨some 2, .assign (.const (.bool false)), none⟩])
      .ret)
      .skip))))
  (.reg [⟨some 25, .binOp .add 3 (.tmp 7) (.const (.int .i64 1)) 3, none⟩,
    ⟨some 7, .move (.tmp 25), none⟩]))))
def p92 : PC :=
  (.seq (.reg [⟨some 2, .assign (.const (.bool false)), none⟩])
  (.seq (.seq (.reg [⟨some 5, .move (.tmp 0), none⟩,
    ⟨some 6, .call ⟨.builtin .len, #[(.tmp 5)], #[54]⟩, none⟩,
    ⟨some 7, .move (.const (.int .i64 0)), none⟩])
  (.block 0
    (.loop p92l0)))
  (.seq (.reg [⟨some 2, .assign (.const (.bool true)), none⟩])
  .ret)))
theorem c92 : f92.body.bind (comp f92.ntmps) = some p92 := by kernel_rfl
def p93 : PC :=
  (.seq (.reg [⟨some 2, .assign (.const (.slice none 0 0)), none⟩])
  (.seq (.reg [⟨some 6, .move (.tmp 0), none⟩,
    ⟨some 7, .call ⟨.value (.func 126), #[(.tmp 6)], #[54]⟩, none⟩,
    ⟨some 3, .alloc 54, none⟩,
    ⟨none, .store 54 (.tmp 3) (.tmp 7), none⟩])
  (.seq (.reg [⟨some 8, .load 54 (.tmp 3), none⟩,
    ⟨some 9, .call ⟨.value (.func 127), #[(.tmp 8), (.func 128)], #[54, 148]⟩, none⟩])
  (.seq (.reg [⟨some 10, .load 54 (.tmp 3), none⟩,
    ⟨some 11, .call ⟨.value (.func 129), #[(.tmp 10)], #[54]⟩, none⟩,
    ⟨none, .store 54 (.tmp 3) (.tmp 11), none⟩])
  (.seq (.seq (.reg [⟨some 12, .load 54 (.tmp 3), none⟩,
    ⟨some 13, .call ⟨.builtin .len, #[(.tmp 12)], #[54]⟩, none⟩,
    ⟨some 14, .binOp .lss 3 (.tmp 13) (.const (.int .i64 3)) 3, none⟩])
  (.cond (.tmp 14)
    (.seq (.reg [⟨some 15, .load 54 (.tmp 3), none⟩,
      ⟨some 2, .assign (.tmp 15), none⟩])
    .ret)
    .skip))
  (.seq (.reg [⟨some 4, .alloc 54, none⟩])
  (.seq (.reg [⟨some 16, .makeFunc (.func 130) #[] #[(.tmp 4), (.tmp 3)], none⟩,
    ⟨some 5, .assign (.tmp 16), none⟩])
  (.seq (.reg [⟨some 17, .move (.tmp 5), none⟩,
    ⟨some 18, .call ⟨.value (.tmp 17), #[], #[]⟩, none⟩])
  (.seq (.reg [⟨some 19, .load 54 (.tmp 3), none⟩,
    ⟨some 20, .call ⟨.value (.func 132), #[(.tmp 19)], #[54]⟩, none⟩])
  (.seq (.reg [⟨some 21, .move (.tmp 5), none⟩,
    ⟨some 22, .call ⟨.value (.tmp 21), #[], #[]⟩, none⟩])
  (.seq (.reg [⟨some 23, .load 54 (.tmp 4), none⟩,
    ⟨some 2, .assign (.tmp 23), none⟩])
  .ret)))))))))))
theorem c93 : f93.body.bind (comp f93.ntmps) = some p93 := by kernel_rfl
def p94l0 : PC :=
  (.seq (.seq (.reg [⟨some 4, .move (.tmp 3), none⟩,
    ⟨some 5, .move (.tmp 0), none⟩,
    ⟨some 6, .call ⟨.builtin .len, #[(.tmp 5)], #[54]⟩, none⟩,
    ⟨some 7, .binOp .lss 3 (.tmp 4) (.tmp 6) 3, none⟩])
  (.cond (.tmp 7)
    .skip
    (.exit 0)))
  (.seq (.block 1
    (.seq (.reg [⟨some 10, .move (.tmp 0), none⟩,
      ⟨some 11, .move (.tmp 3), none⟩,
      ⟨some 12, .indexAddr 54 (.tmp 10) (.tmp 11), none⟩,
      ⟨some 13, .fieldAddr 56 (.tmp 12) 0, none⟩,
      ⟨some 14, .load 3 (.tmp 13), none⟩,
      ⟨some 15, .call ⟨.value (.func 79), #[(.tmp 14), (.const (.int .i64 (-268435456))), (.const (.int .i64 268435456))], #[3, 3, 3]⟩, none⟩,
      ⟨some 16, .unOp .not 4 (.tmp 15), none⟩,
      ⟨some 17, .move (.tmp 16), none⟩,
      ⟨some 18, .move (.tmp 0), some ((some 17), false)⟩,
      ⟨some 19, .move (.tmp 3), some ((some 17), false)⟩,
      ⟨some 20, .indexAddr 54 (.tmp 18) (.tmp 19), some ((some 17), false)⟩,
      ⟨some 21, .fieldAddr 56 (.tmp 20) 1, some ((some 17), false)⟩,
      ⟨some 22, .load 3 (.tmp 21), some ((some 17), false)⟩,
      ⟨some 23, .call ⟨.value (.func 79), #[(.tmp 22), (.const (.int .i64 (-268435456))), (.const (.int .i64 268435456))], #[3, 3, 3]⟩, some ((some 17), false)⟩,
      ⟨some 24, .unOp .not 4 (.tmp 23), some ((some 17), false)⟩,
      ⟨some 25, .pick (.tmp 17) (.const (.bool true)) (.tmp 24), none⟩])
    (.cond (.tmp 25)
      (.seq (.reg [⟨some 2, .assign (.const (.bool false)), none⟩])
      .ret)
      .skip)))
  (.reg [⟨some 8, .move (.tmp 3), none⟩,
    ⟨some 9, .binOp .add 3 (.tmp 8) (.const (.int .i64 1)) 3, none⟩,
    ⟨some 3, .assign (.tmp 9), none⟩])))
def p94 : PC :=
  (.seq (.reg [⟨some 2, .assign (.const (.bool false)), none⟩])
  (.seq (.seq (.reg [⟨some 3, .assign (.const (.int .i64 0)), none⟩])
  (.block 0
    (.loop p94l0)))
  (.seq (.reg [⟨some 2, .assign (.const (.bool true)), none⟩])
  .ret)))
theorem c94 : f94.body.bind (comp f94.ntmps) = some p94 := by kernel_rfl
def p95l0 : PC :=
  (.seq (.seq (.reg [⟨some 17, .move (.tmp 5), none⟩,
    ⟨some 18, .binOp .geq 3 (.tmp 17) (.const (.int .i64 0)) 3, none⟩])
  (.cond (.tmp 18)
    .skip
    (.exit 0)))
  (.seq (.block 1
    (.reg [⟨some 21, .move (.tmp 4), none⟩,
      ⟨some 22, .move (.tmp 3), none⟩,
      ⟨some 23, .move (.tmp 5), none⟩,
      ⟨some 24, .indexAddr 54 (.tmp 22) (.tmp 23), none⟩,
      ⟨some 25, .load 56 (.tmp 24), none⟩,
      ⟨some 26, .buildSlice 54 1 #[(0, (.tmp 25))], none⟩,
      ⟨some 27, .call ⟨.builtin .append, #[(.tmp 21), (.tmp 26)], #[54, 54]⟩, none⟩,
      ⟨some 4, .assign (.tmp 27), none⟩]))
  (.reg [⟨some 19, .move (.tmp 5), none⟩,
    ⟨some 20, .binOp .sub 3 (.tmp 19) (.const (.int .i64 1)) 3, none⟩,
    ⟨some 5, .assign (.tmp 20), none⟩])))
def p95 : PC :=
  (.seq (.reg [⟨some 2, .assign (.const (.slice none 0 0)), none⟩])
  (.seq (.reg [⟨some 8, .move (.tmp 0), none⟩,
    ⟨some 9, .call ⟨.value (.func 133), #[(.tmp 8)], #[54]⟩, none⟩,
    ⟨some 3, .assign (.tmp 9), none⟩])
  (.seq (.seq (.reg [⟨some 10, .move (.tmp 3), none⟩,
    ⟨some 11, .call ⟨.builtin .len, #[(.tmp 10)], #[54]⟩, none⟩,
    ⟨some 12, .binOp .lss 3 (.tmp 11) (.const (.int .i64 3)) 3, none⟩])
  (.cond (.tmp 12)
    (.seq (.reg [⟨some 13, .move (.tmp 3), none⟩,
      ⟨some 2, .assign (.tmp 13), none⟩])
    .ret)
    .skip))
  (.seq (.reg [⟨some 4, .assign (.const (.slice none 0 0)), none⟩])
  (.seq (.seq (.reg [⟨some 14, .move (.tmp 3), none⟩,
    ⟨some 15, .call ⟨.builtin .len, #[(.tmp 14)], #[54]⟩, none⟩,
    ⟨some 16, .binOp .sub 3 (.tmp 15) (.const (.int .i64 1)) 3, none⟩,
    ⟨some 5, .assign (.tmp 16), none⟩])
  (.block 0
    (.loop p95l0)))
  (.seq (.reg [⟨some 28, .move (.tmp 3), none⟩,
    ⟨some 29, .call ⟨.value (.func 134), #[(.tmp 28)], #[54]⟩, none⟩,
    ⟨some 30, .move (.tmp 4), none⟩,
    ⟨some 31, .call ⟨.value (.func 134), #[(.tmp 30)], #[54]⟩, none⟩,
    ⟨some 6, .assign (.tmp 29), none⟩,
    ⟨some 7, .assign (.tmp 31), none⟩])
  (.seq (.drawW [0, 0, 3, 0, 0, 16, 48, 120, 255, 511] [⟨some 32, .buildSlice 54 0 #[], none⟩,
    ⟨some 33, .move (.tmp 6), none⟩,
    ⟨some 34, .call ⟨.builtin .append, #[(.tmp 32), (.tmp 33)], #[54, 54]⟩, none⟩,
    ⟨some 35, .move (.tmp 7), none⟩,
    ⟨some 36, .move (.tmp 7), none⟩,
    ⟨some 37, .call ⟨.builtin .len, #[(.tmp 36)], #[54]⟩, none⟩,
    ⟨some 38, .binOp .sub 3 (.tmp 37) (.const (.int .i64 1)) 3, none⟩,
    ⟨some 39, .slice 54 (.tmp 35) (some (.const (.int .i64 1))) (some (.tmp 38)) none, none⟩]
    [⟨some 40, .call ⟨.builtin .append, #[(.tmp 34), (.tmp 39)], #[54, 54]⟩, none⟩,
    ⟨some 2, .assign (.tmp 40), none⟩])
  .ret)))))))
theorem c95 : f95.body.bind (comp f95.ntmps) = some p95 := by kernel_rfl
def p96l0 : PC :=
  (.seq (.reg [⟨some 5, .alloc 56, none⟩,
    ⟨none, .store 56 (.tmp 5) (.tmp 12), none⟩])
  (.reg [⟨some 6, .alloc 56, none⟩,
    ⟨none, .store 56 (.tmp 6) (.tmp 13), none⟩]))
def p96l1 : PC :=
  (.block 1
    (.seq (.seq (.reg [⟨some 14, .load 56 (.tmp 5), none⟩,
      ⟨some 15, .load 56 (.tmp 3), none⟩,
      ⟨some 16, .binOp .eql 56 (.tmp 14) (.tmp 15) 56, none⟩])
    (.cond (.tmp 16)
      (.seq (.reg [⟨none, .store 4 (.tmp 4) (.const (.bool true)), none⟩])
      .ret)
      .skip))
    (.seq (.draw [0, 0, 3, 0, 0, 31, 0, 0, 255, 511] [⟨some 17, .load 56 (.tmp 5), none⟩,
      ⟨some 18, .load 56 (.tmp 6), none⟩,
      ⟨some 19, .call ⟨.value (.func 110), #[(.tmp 17), (.tmp 18)], #[56, 56]⟩, none⟩,
      ⟨some 20, .load 56 (.tmp 5), none⟩,
      ⟨some 21, .load 56 (.tmp 3), none⟩,
      ⟨some 22, .call ⟨.value (.func 110), #[(.tmp 20), (.tmp 21)], #[56, 56]⟩, none⟩,
      ⟨some 7, .alloc 56, none⟩,
      ⟨some 8, .alloc 56, none⟩]
      [⟨none, .store 56 (.tmp 7) (.tmp 19), none⟩,
      ⟨none, .store 56 (.tmp 8) (.tmp 22), none⟩])
    (.seq (.reg [⟨some 23, .load 56 (.tmp 7), none⟩,
      ⟨some 24, .load 56 (.tmp 8), none⟩,
      ⟨some 25, .call ⟨.value (.func 131), #[(.tmp 23), (.tmp 24)], #[56, 56]⟩, none⟩,
      ⟨some 9, .assign (.tmp 25), none⟩])
    (.seq (.reg [⟨some 26, .move (.tmp 9), none⟩,
      ⟨some 27, .binOp .lss 3 (.tmp 26) (.const (.int .i64 0)) 3, none⟩,
      ⟨some 28, .move (.tmp 27), none⟩,
      ⟨some 29, .move (.tmp 9), some ((some 28), false)⟩,
      ⟨some 30, .binOp .eql 3 (.tmp 29) (.const (.int .i64 0)) 3, some ((some 28), false)⟩,
      ⟨some 31, .move (.tmp 30), some ((some 28), false)⟩,
      ⟨some 32, .load 54 (.tmp 2), some ((some 31), true)⟩,
      ⟨some 33, .call ⟨.builtin .len, #[(.tmp 32)], #[54]⟩, some ((some 31), true)⟩,
      ⟨some 34, .binOp .lss 3 (.tmp 33) (.const (.int .i64 3)) 3, some ((some 31), true)⟩,
      ⟨some 35, .pick (.tmp 31) (.tmp 34) (.const (.bool false)), some ((some 28), false)⟩,
      ⟨some 36, .move (.tmp 35), some ((some 28), false)⟩,
      ⟨some 37, .fieldAddr 56 (.tmp 8) 0, some ((some 36), true)⟩,
      ⟨some 38, .load 3 (.tmp 37), some ((some 36), true)⟩,
      ⟨some 39, .fieldAddr 56 (.tmp 7) 0, some ((some 36), true)⟩,
      ⟨some 40, .load 3 (.tmp 39), some ((some 36), true)⟩,
      ⟨some 41, .binOp .mul 3 (.tmp 38) (.tmp 40) 3, some ((some 36), true)⟩,
      ⟨some 42, .binOp .geq 3 (.tmp 41) (.const (.int .i64 0)) 3, some ((some 36), true)⟩,
      ⟨some 43, .move (.tmp 42), some ((some 36), true)⟩,
      ⟨some 44, .fieldAddr 56 (.tmp 8) 1, some ((some 43), true)⟩,
      ⟨some 45, .load 3 (.tmp 44), some ((some 43), true)⟩,
      ⟨some 46, .fieldAddr 56 (.tmp 7) 1, some ((some 43), true)⟩,
      ⟨some 47, .load 3 (.tmp 46), some ((some 43), true)⟩,
      ⟨some 48, .binOp .mul 3 (.tmp 45) (.tmp 47) 3, some ((some 43), true)⟩,
      ⟨some 49, .binOp .geq 3 (.tmp 48) (.const (.int .i64 0)) 3, some ((some 43), true)⟩,
      ⟨some 50, .pick (.tmp 43) (.tmp 49) (.const (.bool false)), some ((some 36), true)⟩,
      ⟨some 51, .move (.tmp 50), some ((some 36), true)⟩,
      ⟨some 52, .fieldAddr 56 (.tmp 8) 0, some ((some 51), true)⟩,
      ⟨some 53, .load 3 (.tmp 52), some ((some 51), true)⟩,
      ⟨some 54, .fieldAddr 56 (.tmp 8) 0, some ((some 51), true)⟩,
      ⟨some 55, .load 3 (.tmp 54), some ((some 51), true)⟩,
      ⟨some 56, .binOp .mul 3 (.tmp 53) (.tmp 55) 3, some ((some 51), true)⟩,
      ⟨some 57, .fieldAddr 56 (.tmp 7) 0, some ((some 51), true)⟩,
      ⟨some 58, .load 3 (.tmp 57), some ((some 51), true)⟩,
      ⟨some 59, .fieldAddr 56 (.tmp 7) 0, some ((some 51), true)⟩,
      ⟨some 60, .load 3 (.tmp 59), some ((some 51), true)⟩,
      ⟨some 61, .binOp .mul 3 (.tmp 58) (.tmp 60) 3, some ((some 51), true)⟩,
      ⟨some 62, .binOp .leq 3 (.tmp 56) (.tmp 61) 3, some ((some 51), true)⟩,
      ⟨some 63, .pick (.tmp 51) (.tmp 62) (.const (.bool false)), some ((some 36), true)⟩,
      ⟨some 64, .move (.tmp 63), some ((some 36), true)⟩,
      ⟨some 65, .fieldAddr 56 (.tmp 8) 1, some ((some 64), true)⟩,
      ⟨some 66, .load 3 (.tmp 65), some ((some 64), true)⟩,
      ⟨some 67, .fieldAddr 56 (.tmp 8) 1, some ((some 64), true)⟩,
      ⟨some 68, .load 3 (.tmp 67), some ((some 64), true)⟩,
      ⟨some 69, .binOp .mul 3 (.tmp 66) (.tmp 68) 3, some ((some 64), true)⟩,
      ⟨some 70, .fieldAddr 56 (.tmp 7) 1, some ((some 64), true)⟩,
      ⟨some 71, .load 3 (.tmp 70), some ((some 64), true)⟩,
      ⟨some 72, .fieldAddr 56 (.tmp 7) 1, some ((some 64), true)⟩,
      ⟨some 73, .load 3 (.tmp 72), some ((some 64), true)⟩,
      ⟨some 74, .binOp .mul 3 (.tmp 71) (.tmp 73) 3, some ((some 64), true)⟩,
      ⟨some 75, .binOp .leq 3 (.tmp 69) (.tmp 74) 3, some ((some 64), true)⟩,
      ⟨some 76, .pick (.tmp 64) (.tmp 75) (.const (.bool false)), some ((some 36), true)⟩,
      ⟨some 77, .unOp .not 4 (.tmp 76), some ((some 36), true)⟩,
      ⟨some 78, .pick (.tmp 36) (.tmp 77) (.const (.bool false)), some ((some 28), false)⟩,
      ⟨some 79, .pick (.tmp 28) (.const (.bool true)) (.tmp 78), none⟩])
    (.cond (.tmp 79)
      (.seq (.reg [⟨none, .store 4 (.tmp 4) (.const (.bool false)), none⟩])
      .ret)
      .skip))))))
def p97l0 : PC :=
  (.seq (.seq (.reg [⟨some 14, .move (.tmp 5), none⟩,
    ⟨some 15, .move (.tmp 0), none⟩,
    ⟨some 16, .call ⟨.builtin .len, #[(.tmp 15)], #[54]⟩, none⟩,
    ⟨some 17, .binOp .lss 3 (.tmp 14) (.tmp 16) 3, none⟩])
  (.cond (.tmp 17)
    .skip
    (.exit 0)))
  (.seq (.block 1
    (.seq (.draw [0, 0, 3, 7, 0, 0, 32, 0, 128, 480, 1008, 2032, 0, 8191, 16383] [⟨some 20, .move (.tmp 0), none⟩,
      ⟨some 21, .move (.tmp 5), none⟩,
      ⟨some 22, .indexAddr 54 (.tmp 20) (.tmp 21), none⟩,
      ⟨some 23, .load 56 (.tmp 22), none⟩,
      ⟨some 24, .move (.tmp 0), none⟩,
      ⟨some 25, .move (.tmp 5), none⟩,
      ⟨some 26, .binOp .add 3 (.tmp 25) (.const (.int .i64 1)) 3, none⟩,
      ⟨some 27, .move (.tmp 0), none⟩,
      ⟨some 28, .call ⟨.builtin .len, #[(.tmp 27)], #[54]⟩, none⟩,
      ⟨some 29, .binOp .rem 3 (.tmp 26) (.tmp 28) 3, none⟩,
      ⟨some 30, .indexAddr 54 (.tmp 24) (.tmp 29), none⟩,
      ⟨some 31, .load 56 (.tmp 30), none⟩,
      ⟨some 32, .load 56 (.tmp 3), none⟩]
      [⟨some 33, .call ⟨.value (.func 136), #[(.tmp 23), (.tmp 31), (.tmp 32)], #[56, 56, 56]⟩, none⟩,
      ⟨some 34, .binOp .lss 3 (.tmp 33) (.const (.int .i64 0)) 3, none⟩])
    (.cond (.tmp 34)
      (.seq (.reg [⟨some 4, .assign (.const (.bool false)), none⟩])
      .ret)
      .skip)))
  (.reg [⟨some 18, .move (.tmp 5), none⟩,
    ⟨some 19, .binOp .add 3 (.tmp 18) (.const (.int .i64 1)) 3, none⟩,
    ⟨some 5, .assign (.tmp 19), none⟩])))
def p97 : PC :=
  (.seq (.reg [⟨some 3, .box 56 (.tmp 1), none⟩,
    ⟨some 4, .assign (.const (.bool false)), none⟩])
  (.seq (.seq (.reg [⟨some 6, .move (.tmp 0), none⟩,
    ⟨some 7, .call ⟨.builtin .len, #[(.tmp 6)], #[54]⟩, none⟩,
    ⟨some 8, .binOp .eql 3 (.tmp 7) (.const (.int .i64 1)) 3, none⟩])
  (.cond (.tmp 8)
    (.seq (.draw [0, 1, 3, 0, 15, 31] [⟨some 9, .move (.tmp 0), none⟩,
      ⟨some 10, .indexAddr 54 (.tmp 9) (.const (.int .i64 0)), none⟩,
      ⟨some 11, .load 56 (.tmp 10), none⟩,
      ⟨some 12, .load 56 (.tmp 3), none⟩]
      [⟨some 13, .binOp .eql 56 (.tmp 11) (.tmp 12) 56, none⟩,
      ⟨some 4, .assign (.tmp 13), none⟩])
    .ret)
    .skip))
  (.seq (.seq (.reg [⟨some 5, .assign (.const (.int .i64 0)), none⟩])
  (.block 0
    (.loop p97l0)))
  (.seq (.draw [0, 1, 3, 7, 15, 31, 15, 79, 207, 463, 15, 1039, 3087, 7183, 16383, 32767, 65535, 131071, 65535, 327679, 851967, 1900543, 65535, 4259839, 12648447, 29425663, 66912255, 65535, 134283263, 402718719, 939589631, 65535, 2147549183, 6442516479, 15032451071, 34225586175, 68719476735, 137438953471, 274877906943, 549755813887] [⟨some 35, .move (.tmp 0), none⟩,
    ⟨some 36, .call ⟨.builtin .len, #[(.tmp 35)], #[54]⟩, none⟩,
    ⟨some 37, .binOp .gtr 3 (.tmp 36) (.const (.int .i64 2)) 3, none⟩,
    ⟨some 38, .move (.tmp 37), none⟩,
    ⟨some 39, .fieldAddr 56 (.tmp 3) 0, some ((some 38), false)⟩,
    ⟨some 40, .load 3 (.tmp 39), some ((some 38), false)⟩,
    ⟨some 41, .move (.tmp 0), some ((some 38), false)⟩,
    ⟨some 42, .indexAddr 54 (.tmp 41) (.const (.int .i64 0)), some ((some 38), false)⟩,
    ⟨some 43, .fieldAddr 56 (.tmp 42) 0, some ((some 38), false)⟩,
    ⟨some 44, .load 3 (.tmp 43), some ((some 38), false)⟩,
    ⟨some 45, .move (.tmp 0), some ((some 38), false)⟩,
    ⟨some 46, .indexAddr 54 (.tmp 45) (.const (.int .i64 1)), some ((some 38), false)⟩,
    ⟨some 47, .fieldAddr 56 (.tmp 46) 0, some ((some 38), false)⟩,
    ⟨some 48, .load 3 (.tmp 47), some ((some 38), false)⟩,
    ⟨some 49, .call ⟨.value (.func 79), #[(.tmp 40), (.tmp 44), (.tmp 48)], #[3, 3, 3]⟩, some ((some 38), false)⟩,
    ⟨some 50, .move (.tmp 49), some ((some 38), false)⟩,
    ⟨some 51, .fieldAddr 56 (.tmp 3) 1, some ((some 50), true)⟩,
    ⟨some 52, .load 3 (.tmp 51), some ((some 50), true)⟩,
    ⟨some 53, .move (.tmp 0), some ((some 50), true)⟩,
    ⟨some 54, .indexAddr 54 (.tmp 53) (.const (.int .i64 0)), some ((some 50), true)⟩,
    ⟨some 55, .fieldAddr 56 (.tmp 54) 1, some ((some 50), true)⟩,
    ⟨some 56, .load 3 (.tmp 55), some ((some 50), true)⟩,
    ⟨some 57, .move (.tmp 0), some ((some 50), true)⟩,
    ⟨some 58, .indexAddr 54 (.tmp 57) (.const (.int .i64 1)), some ((some 50), true)⟩,
    ⟨some 59, .fieldAddr 56 (.tmp 58) 1, some ((some 50), true)⟩,
    ⟨some 60, .load 3 (.tmp 59), some ((some 50), true)⟩,
    ⟨some 61, .call ⟨.builtin .min, #[(.tmp 56), (.tmp 60)], #[3, 3]⟩, some ((some 50), true)⟩,
    ⟨some 62, .move (.tmp 0), some ((some 50), true)⟩,
    ⟨some 63, .indexAddr 54 (.tmp 62) (.const (.int .i64 0)), some ((some 50), true)⟩,
    ⟨some 64, .fieldAddr 56 (.tmp 63) 1, some ((some 50), true)⟩,
    ⟨some 65, .load 3 (.tmp 64), some ((some 50), true)⟩,
    ⟨some 66, .move (.tmp 0), some ((some 50), true)⟩,
    ⟨some 67, .indexAddr 54 (.tmp 66) (.const (.int .i64 1)), some ((some 50), true)⟩,
    ⟨some 68, .fieldAddr 56 (.tmp 67) 1, some ((some 50), true)⟩,
    ⟨some 69, .load 3 (.tmp 68), some ((some 50), true)⟩,
    ⟨some 70, .call ⟨.builtin .max, #[(.tmp 65), (.tmp 69)], #[3, 3]⟩, some ((some 50), true)⟩]
    [⟨some 71, .call ⟨.value (.func 79), #[(.tmp 52), (.tmp 61), (.tmp 70)], #[3, 3, 3]⟩, some ((some 50), true)⟩,
    ⟨some 72, .pick (.tmp 50) (.tmp 71) (.const (.bool false)), some ((some 38), false)⟩,
    ⟨some 73, .pick (.tmp 38) (.const (.bool true)) (.tmp 72), none⟩,
    ⟨some 4, .assign (.tmp 73), none⟩])
  .ret))))
theorem c97 : f97.body.bind (comp f97.ntmps) = some p97 := by kernel_rfl
def p98l0 : PC :=
  (.seq (.reg [⟨some 9, .binOp .lss 3 (.tmp 8) (.tmp 7) 3, none⟩])
  (.seq (.cond (.tmp 9)
    .skip
    (.exit 0))
  (.seq (.block 1
    (.seq (.reg [⟨some 10, .indexAddr 154 (.tmp 6) (.tmp 8), none⟩,
      ⟨some 11, .load 54 (.tmp 10), none⟩,
      ⟨some 4, .assign (.tmp 11), none⟩])
    (.seq (.reg [⟨some 12, .move (.tmp 4), none⟩,
      ⟨some 13, .call ⟨.value (.func 55), #[(.tmp 12)], #[54]⟩, none⟩,
      ⟨some 5, .assign (.tmp 13), none⟩])
    (.seq (.reg [⟨some 14, .move (.tmp 5), none⟩,
      ⟨some 15, .binOp .neq 25 (.tmp 14) (.const (.int .i64 0)) 25, none⟩])
    (.cond (.tmp 15)
      (.seq (.reg [⟨some 16, .move (.tmp 5), none⟩,
        ⟨some 2, .assign (.tmp 16), none⟩])
      .ret)
      .skip)))))
  (.reg [⟨some 17, .binOp .add 3 (.tmp 8) (.const (.int .i64 1)) 3, none⟩,
    ⟨some 8, .move (.tmp 17), none⟩]))))
def p98 : PC :=
  (.seq (.reg [⟨some 2, .assign (.const (.int .i64 0)), none⟩])
  (.seq (.seq (.reg [⟨some 6, .move (.tmp 0), none⟩,
    ⟨some 7, .call ⟨.builtin .len, #[(.tmp 6)], #[154]⟩, none⟩,
    ⟨some 8, .move (.const (.int .i64 0)), none⟩])
  (.block 0
    (.loop p98l0)))
  (.seq (.reg [⟨some 2, .assign (.const (.int .i64 0)), none⟩])
  .ret)))
theorem c98 : f98.body.bind (comp f98.ntmps) = some p98 := by kernel_rfl
def p101l0 : PC :=
  (.seq (.reg [⟨some 14, .binOp .lss 3 (.tmp 13) (.tmp 12) 3, none⟩])
  (.seq (.cond (.tmp 14)
    .skip
    (.exit 0))
  (.seq (.block 1
    (.seq (.reg [⟨some 15, .move (.tmp 13), none⟩,
      ⟨some 5, .assign (.tmp 15), none⟩])
    (.seq (.draw [0, 0, 3, 7, 0, 0, 48, 112, 255] [⟨some 16, .move (.tmp 0), none⟩,
      ⟨some 17, .move (.tmp 5), none⟩,
      ⟨some 18, .indexAddr 54 (.tmp 16) (.tmp 17), none⟩,
      ⟨some 19, .load 56 (.tmp 18), none⟩,
      ⟨some 20, .move (.tmp 1), none⟩,
      ⟨some 21, .move (.tmp 5), none⟩,
      ⟨some 22, .indexAddr 54 (.tmp 20) (.tmp 21), none⟩,
      ⟨some 23, .load 56 (.tmp 22), none⟩]
      [⟨some 24, .binOp .neq 56 (.tmp 19) (.tmp 23) 56, none⟩])
    (.cond (.tmp 24)
      (.seq (.reg [⟨some 4, .assign (.const (.bool false)), none⟩])
      .ret)
      .skip))))
  (.reg [⟨some 25, .binOp .add 3 (.tmp 13) (.const (.int .i64 1)) 3, none⟩,
    ⟨some 13, .move (.tmp 25), none⟩]))))
def p101 : PC :=
  (.seq (.reg [⟨some 4, .assign (.const (.bool false)), none⟩])
  (.seq (.seq (.reg [⟨some 6, .move (.tmp 0), none⟩,
    ⟨some 7, .call ⟨.builtin .len, #[(.tmp 6)], #[54]⟩, none⟩,
    ⟨some 8, .move (.tmp 1), none⟩,
    ⟨some 9, .call ⟨.builtin .len, #[(.tmp 8)], #[54]⟩, none⟩,
    ⟨some 10, .binOp .neq 3 (.tmp 7) (.tmp 9) 3, none⟩])
  (.cond (.tmp 10)
    (.seq (.reg [⟨some 4, .assign (.const (.bool false)), none⟩])
    .ret)
    .skip))
  (.seq (.seq (.reg [⟨some 11, .move (.tmp 0), none⟩,
    ⟨some 12, .call ⟨.builtin .len, #[(.tmp 11)], #[54]⟩, none⟩,
    ⟨some 13, .move (.const (.int .i64 0)), none⟩])
  (.block 0
    (.loop p101l0)))
  (.seq (.reg [⟨some 4, .assign (.const (.bool true)), none⟩])
  .ret))))
theorem c101 : f101.body.bind (comp f101.ntmps) = some p101 := by kernel_rfl
def p102 : PC :=
  (.seq (.reg [⟨some 4, .assign (.const (.bool false)), none⟩])
  (.seq (.reg [⟨some 5, .move (.tmp 0), none⟩,
    ⟨some 6, .move (.tmp 1), none⟩,
    ⟨some 7, .call ⟨.builtin .min, #[(.tmp 5), (.tmp 6)], #[3, 3]⟩, none⟩,
    ⟨some 8, .binOp .geq 3 (.tmp 7) (.const (.int .i64 (-1073741824))) 3, none⟩,
    ⟨some 9, .move (.tmp 8), none⟩,
    ⟨some 10, .move (.tmp 0), some ((some 9), true)⟩,
    ⟨some 11, .move (.tmp 1), some ((some 9), true)⟩,
    ⟨some 12, .call ⟨.builtin .max, #[(.tmp 10), (.tmp 11)], #[3, 3]⟩, some ((some 9), true)⟩,
    ⟨some 13, .binOp .leq 3 (.tmp 12) (.const (.int .i64 1073741824)) 3, some ((some 9), true)⟩,
    ⟨some 14, .pick (.tmp 9) (.tmp 13) (.const (.bool false)), none⟩,
    ⟨some 4, .assign (.tmp 14), none⟩])
  .ret))
theorem c102 : f102.body.bind (comp f102.ntmps) = some p102 := by kernel_rfl
def p103l0 : PC :=
  (.seq (.reg [⟨some 14, .binOp .lss 3 (.tmp 13) (.tmp 12) 3, none⟩])
  (.seq (.cond (.tmp 14)
    .skip
    (.exit 0))
  (.seq (.block 1
    (.seq (.reg [⟨some 15, .move (.tmp 13), none⟩,
      ⟨some 16, .indexAddr 54 (.tmp 11) (.tmp 13), none⟩,
      ⟨some 17, .load 56 (.tmp 16), none⟩,
      ⟨some 9, .alloc 56, none⟩,
      ⟨some 8, .assign (.tmp 15), none⟩,
      ⟨none, .store 56 (.tmp 9) (.tmp 17), none⟩])
    (.seq (.reg [⟨some 18, .move (.tmp 1), none⟩,
      ⟨some 19, .fieldAddr 56 (.tmp 9) 0, none⟩,
      ⟨some 20, .load 3 (.tmp 19), none⟩,
      ⟨some 21, .binOp .mul 3 (.tmp 18) (.tmp 20) 3, none⟩,
      ⟨some 22, .move (.tmp 2), none⟩,
      ⟨some 23, .fieldAddr 56 (.tmp 9) 1, none⟩,
      ⟨some 24, .load 3 (.tmp 23), none⟩,
      ⟨some 25, .binOp .mul 3 (.tmp 22) (.tmp 24) 3, none⟩,
      ⟨some 26, .binOp .add 3 (.tmp 21) (.tmp 25) 3, none⟩,
      ⟨some 10, .assign (.tmp 26), none⟩])
    (.seq (.seq (.reg [⟨some 27, .move (.tmp 8), none⟩,
      ⟨some 28, .binOp .eql 3 (.tmp 27) (.const (.int .i64 0)) 3, none⟩])
    (.cond (.tmp 28)
      (.reg [⟨some 29, .move (.tmp 10), none⟩,
        ⟨some 30, .move (.tmp 10), none⟩,
        ⟨some 6, .assign (.tmp 29), none⟩,
        ⟨some 7, .assign (.tmp 30), none⟩])
      .skip))
    (.reg [⟨some 31, .move (.tmp 6), none⟩,
      ⟨some 32, .move (.tmp 10), none⟩,
      ⟨some 33, .call ⟨.builtin .min, #[(.tmp 31), (.tmp 32)], #[3, 3]⟩, none⟩,
      ⟨some 34, .move (.tmp 7), none⟩,
      ⟨some 35, .move (.tmp 10), none⟩,
      ⟨some 36, .call ⟨.builtin .max, #[(.tmp 34), (.tmp 35)], #[3, 3]⟩, none⟩,
      ⟨some 6, .assign (.tmp 33), none⟩,
      ⟨some 7, .assign (.tmp 36), none⟩])))))
  (.reg [⟨some 37, .binOp .add 3 (.tmp 13) (.const (.int .i64 1)) 3, none⟩,
    ⟨some 13, .move (.tmp 37), none⟩]))))
def p103 : PC :=
  (.seq (.reg [⟨some 6, .assign (.const (.int .i64 0)), none⟩,
    ⟨some 7, .assign (.const (.int .i64 0)), none⟩])
  (.seq (.seq (.reg [⟨some 11, .move (.tmp 0), none⟩,
    ⟨some 12, .call ⟨.builtin .len, #[(.tmp 11)], #[54]⟩, none⟩,
    ⟨some 13, .move (.const (.int .i64 0)), none⟩])
  (.block 0
    (.loop p103l0)))
  (.seq (.reg [⟨some 38, .move (.tmp 6), none⟩,
    ⟨some 39, .move (.tmp 7), none⟩,
    ⟨some 6, .assign (.tmp 38), none⟩,
    ⟨some 7, .assign (.tmp 39), none⟩])
  .ret)))
theorem c103 : f103.body.bind (comp f103.ntmps) = some p103 := by kernel_rfl
def p104l0 : PC :=
  (.seq (.seq (.reg [⟨some 22, .move (.tmp 8), none⟩,
    ⟨some 23, .move (.tmp 0), none⟩,
    ⟨some 24, .call ⟨.builtin .len, #[(.tmp 23)], #[54]⟩, none⟩,
    ⟨some 25, .binOp .lss 3 (.tmp 22) (.tmp 24) 3, none⟩])
  (.cond (.tmp 25)
    .skip
    (.exit 0)))
  (.seq (.block 1
    (.draw [0, 0, 0, 0, 12, 28, 60, 126, 0, 0, 0, 1536, 3584, 7680, 16128, 32766, 65535, 131071] [⟨some 28, .move (.tmp 7), none⟩,
      ⟨some 29, .move (.tmp 1), none⟩,
      ⟨some 30, .move (.tmp 0), none⟩,
      ⟨some 31, .move (.tmp 8), none⟩,
      ⟨some 32, .indexAddr 54 (.tmp 30) (.tmp 31), none⟩,
      ⟨some 33, .fieldAddr 56 (.tmp 32) 0, none⟩,
      ⟨some 34, .load 3 (.tmp 33), none⟩,
      ⟨some 35, .binOp .mul 3 (.tmp 29) (.tmp 34) 3, none⟩,
      ⟨some 36, .move (.tmp 2), none⟩,
      ⟨some 37, .move (.tmp 0), none⟩,
      ⟨some 38, .move (.tmp 8), none⟩,
      ⟨some 39, .indexAddr 54 (.tmp 37) (.tmp 38), none⟩,
      ⟨some 40, .fieldAddr 56 (.tmp 39) 1, none⟩,
      ⟨some 41, .load 3 (.tmp 40), none⟩,
      ⟨some 42, .binOp .mul 3 (.tmp 36) (.tmp 41) 3, none⟩,
      ⟨some 43, .binOp .add 3 (.tmp 35) (.tmp 42) 3, none⟩]
      [⟨some 44, .call ⟨.builtin .max, #[(.tmp 28), (.tmp 43)], #[3, 3]⟩, none⟩,
      ⟨some 7, .assign (.tmp 44), none⟩]))
  (.reg [⟨some 26, .move (.tmp 8), none⟩,
    ⟨some 27, .binOp .add 3 (.tmp 26) (.const (.int .i64 1)) 3, none⟩,
    ⟨some 8, .assign (.tmp 27), none⟩])))
def p104 : PC :=
  (.seq (.reg [⟨some 6, .assign (.const (.int .i64 0)), none⟩])
  (.seq (.draw [0, 0, 2, 6, 14, 31, 0, 0, 128, 384, 896, 1984, 4095, 8191] [⟨some 9, .move (.tmp 1), none⟩,
    ⟨some 10, .move (.tmp 0), none⟩,
    ⟨some 11, .indexAddr 54 (.tmp 10) (.const (.int .i64 0)), none⟩,
    ⟨some 12, .fieldAddr 56 (.tmp 11) 0, none⟩,
    ⟨some 13, .load 3 (.tmp 12), none⟩,
    ⟨some 14, .binOp .mul 3 (.tmp 9) (.tmp 13) 3, none⟩,
    ⟨some 15, .move (.tmp 2), none⟩,
    ⟨some 16, .move (.tmp 0), none⟩,
    ⟨some 17, .indexAddr 54 (.tmp 16) (.const (.int .i64 0)), none⟩,
    ⟨some 18, .fieldAddr 56 (.tmp 17) 1, none⟩,
    ⟨some 19, .load 3 (.tmp 18), none⟩,
    ⟨some 20, .binOp .mul 3 (.tmp 15) (.tmp 19) 3, none⟩]
    [⟨some 21, .binOp .add 3 (.tmp 14) (.tmp 20) 3, none⟩,
    ⟨some 7, .assign (.tmp 21), none⟩])
  (.seq (.seq (.reg [⟨some 8, .assign (.const (.int .i64 0)), none⟩])
  (.block 0
    (.loop p104l0)))
  (.seq (.reg [⟨some 45, .move (.tmp 7), none⟩,
    ⟨some 6, .assign (.tmp 45), none⟩])
  .ret))))
theorem c104 : f104.body.bind (comp f104.ntmps) = some p104 := by kernel_rfl
def p105l0 : PC :=
  (.seq (.reg [⟨some 42, .binOp .lss 3 (.tmp 41) (.tmp 40) 3, none⟩])
  (.seq (.cond (.tmp 42)
    .skip
    (.exit 0))
  (.seq (.block 1
    (.seq (.reg [⟨some 43, .indexAddr 54 (.tmp 39) (.tmp 41), none⟩,
      ⟨some 44, .load 56 (.tmp 43), none⟩,
      ⟨some 9, .alloc 56, none⟩,
      ⟨none, .store 56 (.tmp 9) (.tmp 44), none⟩])
    (.seq (.reg [⟨some 45, .fieldAddr 56 (.tmp 6) 0, none⟩,
      ⟨some 46, .load 3 (.tmp 45), none⟩,
      ⟨some 47, .fieldAddr 56 (.tmp 9) 0, none⟩,
      ⟨some 48, .load 3 (.tmp 47), none⟩,
      ⟨some 49, .binOp .add 3 (.tmp 46) (.tmp 48) 3, none⟩,
      ⟨some 50, .fieldAddr 56 (.tmp 6) 1, none⟩,
      ⟨some 51, .load 3 (.tmp 50), none⟩,
      ⟨some 52, .fieldAddr 56 (.tmp 9) 1, none⟩,
      ⟨some 53, .load 3 (.tmp 52), none⟩,
      ⟨some 54, .binOp .add 3 (.tmp 51) (.tmp 53) 3, none⟩,
      ⟨some 55, .build 56 #[(0, (.tmp 49)), (1, (.tmp 54))], none⟩,
      ⟨none, .store 56 (.tmp 6) (.tmp 55), none⟩])
    (.reg [⟨some 56, .move (.tmp 7), none⟩,
      ⟨some 57, .load 56 (.tmp 6), none⟩,
      ⟨some 58, .buildSlice 54 1 #[(0, (.tmp 57))], none⟩,
      ⟨some 59, .call ⟨.builtin .append, #[(.tmp 56), (.tmp 58)], #[54, 54]⟩, none⟩,
      ⟨some 7, .assign (.tmp 59), none⟩]))))
  (.reg [⟨some 60, .binOp .add 3 (.tmp 41) (.const (.int .i64 1)) 3, none⟩,
    ⟨some 41, .move (.tmp 60), none⟩]))))
def p105 : PC :=
  (.seq (.reg [⟨some 4, .assign (.const (.slice none 0 0)), none⟩])
  (.seq (.reg [⟨some 10, .move (.tmp 0), none⟩,
    ⟨some 11, .call ⟨.value (.func 109), #[(.tmp 10)], #[54]⟩, none⟩,
    ⟨some 12, .move (.tmp 1), none⟩,
    ⟨some 13, .call ⟨.value (.func 109), #[(.tmp 12)], #[54]⟩, none⟩,
    ⟨some 14, .buildSlice 154 2 #[(0, (.tmp 11)), (1, (.tmp 13))], none⟩,
    ⟨some 15, .call ⟨.value (.func 108), #[(.tmp 14)], #[154]⟩, none⟩,
    ⟨some 5, .assign (.tmp 15), none⟩])
  (.seq (.reg [⟨some 16, .move (.tmp 5), none⟩,
    ⟨some 17, .call ⟨.value (.func 138), #[(.tmp 16), (.func 139)], #[54, 148]⟩, none⟩])
  (.seq (.draw [0, 1, 3, 7, 0, 16, 48, 112, 255, 0, 512, 1536, 3584, 0, 8192, 24576, 57344, 130560, 262143, 0, 1048575] [⟨some 18, .move (.tmp 0), none⟩,
    ⟨some 19, .indexAddr 54 (.tmp 18) (.const (.int .i64 0)), none⟩,
    ⟨some 20, .fieldAddr 56 (.tmp 19) 0, none⟩,
    ⟨some 21, .load 3 (.tmp 20), none⟩,
    ⟨some 22, .move (.tmp 1), none⟩,
    ⟨some 23, .indexAddr 54 (.tmp 22) (.const (.int .i64 0)), none⟩,
    ⟨some 24, .fieldAddr 56 (.tmp 23) 0, none⟩,
    ⟨some 25, .load 3 (.tmp 24), none⟩,
    ⟨some 26, .binOp .add 3 (.tmp 21) (.tmp 25) 3, none⟩,
    ⟨some 27, .move (.tmp 0), none⟩,
    ⟨some 28, .indexAddr 54 (.tmp 27) (.const (.int .i64 0)), none⟩,
    ⟨some 29, .fieldAddr 56 (.tmp 28) 1, none⟩,
    ⟨some 30, .load 3 (.tmp 29), none⟩,
    ⟨some 31, .move (.tmp 1), none⟩,
    ⟨some 32, .indexAddr 54 (.tmp 31) (.const (.int .i64 0)), none⟩,
    ⟨some 33, .fieldAddr 56 (.tmp 32) 1, none⟩,
    ⟨some 34, .load 3 (.tmp 33), none⟩,
    ⟨some 35, .binOp .add 3 (.tmp 30) (.tmp 34) 3, none⟩,
    ⟨some 36, .build 56 #[(0, (.tmp 26)), (1, (.tmp 35))], none⟩,
    ⟨some 6, .alloc 56, none⟩]
    [⟨none, .store 56 (.tmp 6) (.tmp 36), none⟩])
  (.seq (.reg [⟨some 37, .load 56 (.tmp 6), none⟩,
    ⟨some 38, .buildSlice 54 1 #[(0, (.tmp 37))], none⟩,
    ⟨some 7, .assign (.tmp 38), none⟩])
  (.seq (.seq (.reg [⟨some 39, .move (.tmp 5), none⟩,
    ⟨some 40, .call ⟨.builtin .len, #[(.tmp 39)], #[54]⟩, none⟩,
    ⟨some 41, .move (.const (.int .i64 0)), none⟩])
  (.block 0
    (.loop p105l0)))
  (.seq (.reg [⟨some 61, .move (.tmp 7), none⟩,
    ⟨some 62, .call ⟨.value (.func 93), #[(.tmp 61)], #[54]⟩, none⟩,
    ⟨some 4, .assign (.tmp 62), none⟩])
  .ret)))))))
theorem c105 : f105.body.bind (comp f105.ntmps) = some p105 := by kernel_rfl
def p106l0 : PC :=
  (.seq (.seq (.reg [⟨some 17, .move (.tmp 10), none⟩,
    ⟨some 18, .move (.tmp 1), none⟩,
    ⟨some 19, .call ⟨.builtin .len, #[(.tmp 18)], #[54]⟩, none⟩,
    ⟨some 20, .binOp .lss 3 (.tmp 17) (.tmp 19) 3, none⟩])
  (.cond (.tmp 20)
    .skip
    (.exit 2)))
  (.seq (.block 3
    (.draw [0, 0, 0, 6, 14, 30, 0, 0, 0, 384, 896, 1920, 4032, 8190, 0, 0, 49152, 114688, 245760, 0, 0, 0, 3145728, 7340032, 15728640, 33030144, 67092480, 134217726, 268435454, 536870911, 1073741823] [⟨some 23, .move (.tmp 9), none⟩,
      ⟨some 24, .move (.tmp 0), none⟩,
      ⟨some 25, .move (.tmp 8), none⟩,
      ⟨some 26, .indexAddr 54 (.tmp 24) (.tmp 25), none⟩,
      ⟨some 27, .fieldAddr 56 (.tmp 26) 0, none⟩,
      ⟨some 28, .load 3 (.tmp 27), none⟩,
      ⟨some 29, .move (.tmp 2), none⟩,
      ⟨some 30, .move (.tmp 1), none⟩,
      ⟨some 31, .move (.tmp 10), none⟩,
      ⟨some 32, .indexAddr 54 (.tmp 30) (.tmp 31), none⟩,
      ⟨some 33, .fieldAddr 56 (.tmp 32) 0, none⟩,
      ⟨some 34, .load 3 (.tmp 33), none⟩,
      ⟨some 35, .binOp .mul 3 (.tmp 29) (.tmp 34) 3, none⟩,
      ⟨some 36, .binOp .add 3 (.tmp 28) (.tmp 35) 3, none⟩,
      ⟨some 37, .move (.tmp 0), none⟩,
      ⟨some 38, .move (.tmp 8), none⟩,
      ⟨some 39, .indexAddr 54 (.tmp 37) (.tmp 38), none⟩,
      ⟨some 40, .fieldAddr 56 (.tmp 39) 1, none⟩,
      ⟨some 41, .load 3 (.tmp 40), none⟩,
      ⟨some 42, .move (.tmp 2), none⟩,
      ⟨some 43, .move (.tmp 1), none⟩,
      ⟨some 44, .move (.tmp 10), none⟩,
      ⟨some 45, .indexAddr 54 (.tmp 43) (.tmp 44), none⟩,
      ⟨some 46, .fieldAddr 56 (.tmp 45) 1, none⟩,
      ⟨some 47, .load 3 (.tmp 46), none⟩,
      ⟨some 48, .binOp .mul 3 (.tmp 42) (.tmp 47) 3, none⟩,
      ⟨some 49, .binOp .add 3 (.tmp 41) (.tmp 48) 3, none⟩,
      ⟨some 50, .build 56 #[(0, (.tmp 36)), (1, (.tmp 49))], none⟩,
      ⟨some 51, .buildSlice 54 1 #[(0, (.tmp 50))], none⟩]
      [⟨some 52, .call ⟨.builtin .append, #[(.tmp 23), (.tmp 51)], #[54, 54]⟩, none⟩,
      ⟨some 9, .assign (.tmp 52), none⟩]))
  (.reg [⟨some 21, .move (.tmp 10), none⟩,
    ⟨some 22, .binOp .add 3 (.tmp 21) (.const (.int .i64 1)) 3, none⟩,
    ⟨some 10, .assign (.tmp 22), none⟩])))
def p106l1 : PC :=
  (.seq (.seq (.reg [⟨some 11, .move (.tmp 8), none⟩,
    ⟨some 12, .move (.tmp 0), none⟩,
    ⟨some 13, .call ⟨.builtin .len, #[(.tmp 12)], #[54]⟩, none⟩,
    ⟨some 14, .binOp .lss 3 (.tmp 11) (.tmp 13) 3, none⟩])
  (.cond (.tmp 14)
    .skip
    (.exit 0)))
  (.seq (.block 1
    (.seq (.reg [⟨some 9, .assign (.const (.slice none 0 0)), none⟩])
    (.seq (.seq (.reg [⟨some 10, .assign (.const (.int .i64 0)), none⟩])
    (.block 2
      (.loop p106l0)))
    (.reg [⟨some 53, .move (.tmp 7), none⟩,
      ⟨some 54, .move (.tmp 9), none⟩,
      ⟨some 55, .call ⟨.builtin .append, #[(.tmp 53), (.tmp 54)], #[54, 54]⟩, none⟩,
      ⟨some 56, .call ⟨.value (.func 95), #[(.tmp 55)], #[54]⟩, none⟩,
      ⟨some 7, .assign (.tmp 56), none⟩]))))
  (.reg [⟨some 15, .move (.tmp 8), none⟩,
    ⟨some 16, .binOp .add 3 (.tmp 15) (.const (.int .i64 1)) 3, none⟩,
    ⟨some 8, .assign (.tmp 16), none⟩])))
def p106 : PC :=
  (.seq (.reg [⟨some 6, .assign (.const (.slice none 0 0)), none⟩])
  (.seq (.reg [⟨some 7, .assign (.const (.slice none 0 0)), none⟩])
  (.seq (.seq (.reg [⟨some 8, .assign (.const (.int .i64 0)), none⟩])
  (.block 0
    (.loop p106l1)))
  (.seq (.reg [⟨some 57, .move (.tmp 7), none⟩,
    ⟨some 6, .assign (.tmp 57), none⟩])
  .ret))))
theorem c106 : f106.body.bind (comp f106.ntmps) = some p106 := by kernel_rfl
def p107 : PC :=
  (.seq (.reg [⟨some 8, .assign (.const (.bool false)), none⟩])
  (.seq (.reg [⟨some 14, .move (.tmp 0), none⟩,
    ⟨some 15, .move (.tmp 2), none⟩,
    ⟨some 16, .move (.tmp 3), none⟩,
    ⟨some 17, .call ⟨.value (.func 103), #[(.tmp 14), (.tmp 15), (.tmp 16)], #[54, 3, 3]⟩, none⟩,
    ⟨some 13, .move (.tmp 17), none⟩,
    ⟨some 18, .extract (.tmp 13) 0, none⟩,
    ⟨some 19, .extract (.tmp 13) 1, none⟩,
    ⟨some 9, .assign (.tmp 18), none⟩,
    ⟨some 10, .assign (.tmp 19), none⟩])
  (.seq (.reg [⟨some 21, .move (.tmp 1), none⟩,
    ⟨some 22, .move (.tmp 2), none⟩,
    ⟨some 23, .move (.tmp 3), none⟩,
    ⟨some 24, .call ⟨.value (.func 103), #[(.tmp 21), (.tmp 22), (.tmp 23)], #[54, 3, 3]⟩, none⟩,
    ⟨some 20, .move (.tmp 24), none⟩,
    ⟨some 25, .extract (.tmp 20) 0, none⟩,
    ⟨some 26, .extract (.tmp 20) 1, none⟩,
    ⟨some 11, .assign (.tmp 25), none⟩,
    ⟨some 12, .assign (.tmp 26), none⟩])
  (.seq (.reg [⟨some 27, .move (.tmp 10), none⟩,
    ⟨some 28, .move (.tmp 11), none⟩,
    ⟨some 29, .binOp .lss 3 (.tmp 27) (.tmp 28) 3, none⟩,
    ⟨some 8, .assign (.tmp 29), none⟩])
  .ret))))
theorem c107 : f107.body.bind (comp f107.ntmps) = some p107 := by kernel_rfl
def p108l0 : PC :=
  (.seq (.reg [⟨some 12, .binOp .lss 3 (.tmp 11) (.tmp 10) 3, none⟩])
  (.seq (.cond (.tmp 12)
    .skip
    (.exit 0))
  (.seq (.block 1
    (.seq (.reg [⟨some 13, .indexAddr 154 (.tmp 9) (.tmp 11), none⟩,
      ⟨some 14, .load 54 (.tmp 13), none⟩,
      ⟨some 5, .assign (.tmp 14), none⟩])
    (.seq (.reg [⟨some 15, .move (.tmp 3), none⟩,
      ⟨some 16, .move (.tmp 5), none⟩,
      ⟨some 17, .call ⟨.builtin .len, #[(.tmp 16)], #[54]⟩, none⟩,
      ⟨some 18, .binOp .add 3 (.tmp 15) (.tmp 17) 3, none⟩,
      ⟨some 3, .assign (.tmp 18), none⟩])
    (.seq (.reg [⟨some 19, .move (.tmp 3), none⟩,
      ⟨some 20, .binOp .lss 3 (.tmp 19) (.const (.int .i64 0)) 3, none⟩])
    (.cond (.tmp 20)
      (.reg [⟨some 21, .makeInterface 9 (.const (.string ⟨#[108, 101, 110, 32, 111, 117, 116, 32, 111, 102, 32, 114, 97, 110, 103, 101]⟩)), none⟩,
        ⟨none, .panic (.tmp 21), none⟩])
      .skip)))))
  (.reg [⟨some 22, .binOp .add 3 (.tmp 11) (.const (.int .i64 1)) 3, none⟩,
    ⟨some 11, .move (.tmp 22), none⟩]))))
def p108l1 : PC :=
  (.seq (.reg [⟨some 28, .binOp .lss 3 (.tmp 27) (.tmp 26) 3, none⟩])
  (.seq (.cond (.tmp 28)
    .skip
    (.exit 2))
  (.seq (.block 3
    (.seq (.reg [⟨some 29, .indexAddr 154 (.tmp 25) (.tmp 27), none⟩,
      ⟨some 30, .load 54 (.tmp 29), none⟩,
      ⟨some 8, .assign (.tmp 30), none⟩])
    (.reg [⟨some 31, .move (.tmp 6), none⟩,
      ⟨some 32, .move (.tmp 8), none⟩,
      ⟨some 33, .call ⟨.builtin .append, #[(.tmp 31), (.tmp 32)], #[54, 54]⟩, none⟩,
      ⟨some 6, .assign (.tmp 33), none⟩])))
  (.reg [⟨some 34, .binOp .add 3 (.tmp 27) (.const (.int .i64 1)) 3, none⟩,
    ⟨some 27, .move (.tmp 34), none⟩]))))
def p108 : PC :=
  (.seq (.reg [⟨some 2, .assign (.const (.slice none 0 0)), none⟩])
  (.seq (.reg [⟨some 3, .assign (.const (.int .i64 0)), none⟩])
  (.seq (.seq (.reg [⟨some 9, .move (.tmp 0), none⟩,
    ⟨some 10, .call ⟨.builtin .len, #[(.tmp 9)], #[154]⟩, none⟩,
    ⟨some 11, .move (.const (.int .i64 0)), none⟩])
  (.block 0
    (.loop p108l0)))
  (.seq (.reg [⟨some 23, .move (.tmp 3), none⟩,
    ⟨some 24, .call ⟨.value (.func 143), #[(.const (.slice none 0 0)), (.tmp 23)], #[54, 3]⟩, none⟩,
    ⟨some 6, .assign (.tmp 24), none⟩])
  (.seq (.seq (.reg [⟨some 25, .move (.tmp 0), none⟩,
    ⟨some 26, .call ⟨.builtin .len, #[(.tmp 25)], #[154]⟩, none⟩,
    ⟨some 27, .move (.const (.int .i64 0)), none⟩])
  (.block 2
    (.loop p108l1)))
  (.seq (.reg [⟨some 35, .move (.tmp 6), none⟩,
    ⟨some 2, .assign (.tmp 35), none⟩])
  .ret))))))
theorem c108 : f108.body.bind (comp f108.ntmps) = some p108 := by kernel_rfl
def p109l0 : PC :=
  (.seq (.reg [⟨some 4, .alloc 56, none⟩,
    ⟨none, .store 56 (.tmp 4) (.tmp 11), none⟩])
  (.reg [⟨some 5, .alloc 56, none⟩,
    ⟨none, .store 56 (.tmp 5) (.tmp 12), none⟩]))
def p109l1 : PC :=
  (.block 1
    (.draw [0, 0, 0, 6, 14, 31, 63] [⟨some 13, .load 54 (.tmp 3), none⟩,
      ⟨some 14, .load 56 (.tmp 4), none⟩,
      ⟨some 15, .load 56 (.tmp 5), none⟩,
      ⟨some 16, .call ⟨.value (.func 110), #[(.tmp 14), (.tmp 15)], #[56, 56]⟩, none⟩,
      ⟨some 17, .buildSlice 54 1 #[(0, (.tmp 16))], none⟩]
      [⟨some 18, .call ⟨.builtin .append, #[(.tmp 13), (.tmp 17)], #[54, 54]⟩, none⟩,
      ⟨none, .store 54 (.tmp 3) (.tmp 18), none⟩]))
def p109 : PC :=
  (.seq (.reg [⟨some 2, .assign (.const (.slice none 0 0)), none⟩])
  (.seq (.reg [⟨some 3, .alloc 54, none⟩])
  (.seq (.seq (.reg [⟨some 6, .move (.tmp 0), none⟩,
    ⟨some 7, .call ⟨.builtin .len, #[(.tmp 6)], #[54]⟩, none⟩,
    ⟨some 8, .binOp .gtr 3 (.tmp 7) (.const (.int .i64 1)) 3, none⟩])
  (.cond (.tmp 8)
    (.seq (.reg [⟨some 9, .move (.tmp 0), none⟩,
      ⟨some 10, .call ⟨.value (.func 135), #[(.tmp 9)], #[54]⟩, none⟩])
    (.block 0
      (.rangeF (.tmp 10) [11, 12] p109l0 p109l1)))
    .skip))
  (.seq (.reg [⟨some 19, .load 54 (.tmp 3), none⟩,
    ⟨some 2, .assign (.tmp 19), none⟩])
  .ret))))
theorem c109 : f109.body.bind (comp f109.ntmps) = some p109 := by kernel_rfl
def p110 : PC :=
  (.seq (.reg [⟨some 2, .box 56 (.tmp 0), none⟩,
    ⟨some 3, .box 56 (.tmp 1), none⟩,
    ⟨some 4, .alloc 56, none⟩])
  (.seq (.reg [⟨some 5, .fieldAddr 56 (.tmp 3) 0, none⟩,
    ⟨some 6, .load 3 (.tmp 5), none⟩,
    ⟨some 7, .fieldAddr 56 (.tmp 2) 0, none⟩,
    ⟨some 8, .load 3 (.tmp 7), none⟩,
    ⟨some 9, .binOp .sub 3 (.tmp 6) (.tmp 8) 3, none⟩,
    ⟨some 10, .fieldAddr 56 (.tmp 3) 1, none⟩,
    ⟨some 11, .load 3 (.tmp 10), none⟩,
    ⟨some 12, .fieldAddr 56 (.tmp 2) 1, none⟩,
    ⟨some 13, .load 3 (.tmp 12), none⟩,
    ⟨some 14, .binOp .sub 3 (.tmp 11) (.tmp 13) 3, none⟩,
    ⟨some 15, .build 56 #[(0, (.tmp 9)), (1, (.tmp 14))], none⟩,
    ⟨none, .store 56 (.tmp 4) (.tmp 15), none⟩])
  .ret))
theorem c110 : f110.body.bind (comp f110.ntmps) = some p110 := by kernel_rfl
def p126 : PC :=
  (.seq (.reg [⟨some 2, .assign (.const (.slice none 0 0)), none⟩])
  (.seq (.seq (.reg [⟨some 3, .move (.tmp 0), none⟩,
    ⟨some 4, .binOp .eql 54 (.tmp 3) (.const (.slice none 0 0)) 54, none⟩])
  (.cond (.tmp 4)
    (.seq (.reg [⟨some 2, .assign (.const (.slice none 0 0)), none⟩])
    .ret)
    .skip))
  (.seq (.reg [⟨some 5, .buildSlice 54 0 #[], none⟩,
    ⟨some 6, .move (.tmp 0), none⟩,
    ⟨some 7, .call ⟨.builtin .append, #[(.tmp 5), (.tmp 6)], #[54, 54]⟩, none⟩,
    ⟨some 2, .assign (.tmp 7), none⟩])
  .ret)))
theorem c126 : f126.body.bind (comp f126.ntmps) = some p126 := by kernel_rfl
def p128 : PC :=
  (.seq (.reg [⟨some 2, .box 56 (.tmp 0), none⟩,
    ⟨some 3, .box 56 (.tmp 1), none⟩,
    ⟨some 4, .assign (.const (.int .i64 0)), none⟩])
  (.seq (.draw [0, 1, 0, 4, 15, 0, 32, 0, 128, 511, 1023, 2047, 4095] [⟨some 5, .fieldAddr 56 (.tmp 2) 0, none⟩,
    ⟨some 6, .load 3 (.tmp 5), none⟩,
    ⟨some 7, .fieldAddr 56 (.tmp 3) 0, none⟩,
    ⟨some 8, .load 3 (.tmp 7), none⟩,
    ⟨some 9, .call ⟨.value (.func 141), #[(.tmp 6), (.tmp 8)], #[3, 3]⟩, none⟩,
    ⟨some 10, .fieldAddr 56 (.tmp 2) 1, none⟩,
    ⟨some 11, .load 3 (.tmp 10), none⟩,
    ⟨some 12, .fieldAddr 56 (.tmp 3) 1, none⟩,
    ⟨some 13, .load 3 (.tmp 12), none⟩]
    [⟨some 14, .call ⟨.value (.func 141), #[(.tmp 11), (.tmp 13)], #[3, 3]⟩, none⟩,
    ⟨some 15, .buildSlice 94 2 #[(0, (.tmp 9)), (1, (.tmp 14))], none⟩,
    ⟨some 16, .call ⟨.value (.func 140), #[(.tmp 15)], #[94]⟩, none⟩,
    ⟨some 4, .assign (.tmp 16), none⟩])
  .ret))
theorem c128 : f128.body.bind (comp f128.ntmps) = some p128 := by kernel_rfl
def p129l0 : PC :=
  (.seq (.seq (.reg [⟨some 29, .move (.tmp 5), none⟩,
    ⟨some 30, .move (.tmp 4), none⟩,
    ⟨some 31, .call ⟨.builtin .len, #[(.tmp 30)], #[54]⟩, none⟩,
    ⟨some 32, .binOp .lss 3 (.tmp 29) (.tmp 31) 3, none⟩])
  (.cond (.tmp 32)
    .skip
    (.exit 2)))
  (.seq (.block 3
    (.seq (.draw [0, 0, 3, 7, 0, 0, 32, 112, 240, 511] [⟨some 35, .move (.tmp 4), none⟩,
      ⟨some 36, .move (.tmp 5), none⟩,
      ⟨some 37, .indexAddr 54 (.tmp 35) (.tmp 36), none⟩,
      ⟨some 38, .load 56 (.tmp 37), none⟩,
      ⟨some 39, .move (.tmp 4), none⟩,
      ⟨some 40, .move (.tmp 5), none⟩,
      ⟨some 41, .binOp .sub 3 (.tmp 40) (.const (.int .i64 1)) 3, none⟩,
      ⟨some 42, .indexAddr 54 (.tmp 39) (.tmp 41), none⟩,
      ⟨some 43, .load 56 (.tmp 42), none⟩]
      [⟨some 44, .binOp .neq 56 (.tmp 38) (.tmp 43) 56, none⟩])
    (.cond (.tmp 44)
      (.seq (.reg [⟨some 45, .move (.tmp 0), none⟩,
        ⟨some 46, .move (.tmp 3), none⟩,
        ⟨some 47, .move (.tmp 4), none⟩,
        ⟨some 48, .move (.tmp 5), none⟩,
        ⟨some 49, .indexAddr 54 (.tmp 47) (.tmp 48), none⟩,
        ⟨some 50, .load 56 (.tmp 49), none⟩,
        ⟨some 51, .indexAddr 54 (.tmp 45) (.tmp 46), none⟩,
        ⟨none, .store 56 (.tmp 51) (.tmp 50), none⟩])
      (.reg [⟨some 52, .move (.tmp 3), none⟩,
        ⟨some 53, .binOp .add 3 (.tmp 52) (.const (.int .i64 1)) 3, none⟩,
        ⟨some 3, .assign (.tmp 53), none⟩]))
      .skip)))
  (.reg [⟨some 33, .move (.tmp 5), none⟩,
    ⟨some 34, .binOp .add 3 (.tmp 33) (.const (.int .i64 1)) 3, none⟩,
    ⟨some 5, .assign (.tmp 34), none⟩])))
def p129l1 : PC :=
  (.seq (.seq (.reg [⟨some 10, .move (.tmp 3), none⟩,
    ⟨some 11, .move (.tmp 0), none⟩,
    ⟨some 12, .call ⟨.builtin .len, #[(.tmp 11)], #[54]⟩, none⟩,
    ⟨some 13, .binOp .lss 3 (.tmp 10) (.tmp 12) 3, none⟩])
  (.cond (.tmp 13)
    .skip
    (.exit 0)))
  (.seq (.block 1
    (.seq (.draw [0, 0, 3, 7, 0, 0, 32, 112, 240, 511] [⟨some 16, .move (.tmp 0), none⟩,
      ⟨some 17, .move (.tmp 3), none⟩,
      ⟨some 18, .indexAddr 54 (.tmp 16) (.tmp 17), none⟩,
      ⟨some 19, .load 56 (.tmp 18), none⟩,
      ⟨some 20, .move (.tmp 0), none⟩,
      ⟨some 21, .move (.tmp 3), none⟩,
      ⟨some 22, .binOp .sub 3 (.tmp 21) (.const (.int .i64 1)) 3, none⟩,
      ⟨some 23, .indexAddr 54 (.tmp 20) (.tmp 22), none⟩,
      ⟨some 24, .load 56 (.tmp 23), none⟩]
      [⟨some 25, .binOp .eql 56 (.tmp 19) (.tmp 24) 56, none⟩])
    (.cond (.tmp 25)
      (.seq (.reg [⟨some 26, .move (.tmp 0), none⟩,
        ⟨some 27, .move (.tmp 3), none⟩,
        ⟨some 28, .slice 54 (.tmp 26) (some (.tmp 27)) none none, none⟩,
        ⟨some 4, .assign (.tmp 28), none⟩])
      (.seq (.seq (.reg [⟨some 5, .assign (.const (.int .i64 1)), none⟩])
      (.block 2
        (.loop p129l0)))
      (.seq (.reg [⟨some 54, .move (.tmp 0), none⟩,
        ⟨some 55, .move (.tmp 3), none⟩,
        ⟨some 56, .slice 54 (.tmp 54) (some (.tmp 55)) none none, none⟩,
        ⟨none, .call ⟨.builtin .clear, #[(.tmp 56)], #[54]⟩, none⟩])
      (.seq (.reg [⟨some 57, .move (.tmp 0), none⟩,
        ⟨some 58, .move (.tmp 3), none⟩,
        ⟨some 59, .slice 54 (.tmp 57) none (some (.tmp 58)) none, none⟩,
        ⟨some 2, .assign (.tmp 59), none⟩])
      .ret))))
      .skip)))
  (.reg [⟨some 14, .move (.tmp 3), none⟩,
    ⟨some 15, .binOp .add 3 (.tmp 14) (.const (.int .i64 1)) 3, none⟩,
    ⟨some 3, .assign (.tmp 15), none⟩])))
def p129 : PC :=
  (.seq (.reg [⟨some 2, .assign (.const (.slice none 0 0)), none⟩])
  (.seq (.seq (.reg [⟨some 6, .move (.tmp 0), none⟩,
    ⟨some 7, .call ⟨.builtin .len, #[(.tmp 6)], #[54]⟩, none⟩,
    ⟨some 8, .binOp .lss 3 (.tmp 7) (.const (.int .i64 2)) 3, none⟩])
  (.cond (.tmp 8)
    (.seq (.reg [⟨some 9, .move (.tmp 0), none⟩,
      ⟨some 2, .assign (.tmp 9), none⟩])
    .ret)
    .skip))
  (.seq (.seq (.reg [⟨some 3, .assign (.const (.int .i64 1)), none⟩])
  (.block 0
    (.loop p129l1)))
  (.seq (.reg [⟨some 60, .move (.tmp 0), none⟩,
    ⟨some 2, .assign (.tmp 60), none⟩])
  .ret))))
theorem c129 : f129.body.bind (comp f129.ntmps) = some p129 := by kernel_rfl
def p130l0 : PC :=
  (.seq (.seq (.draw [0, 1, 0, 4, 15, 31, 63, 63, 191, 447, 1023, 2047, 63, 63, 8255, 24639, 61503, 127039, 262143, 63, 63, 1048639, 3145791, 7864383, 16252991, 63, 67108863, 134217727, 268435455, 536870911] [⟨some 13, .load 54 (.tmp 0), none⟩,
    ⟨some 14, .call ⟨.builtin .len, #[(.tmp 13)], #[54]⟩, none⟩,
    ⟨some 15, .move (.tmp 2), none⟩,
    ⟨some 16, .binOp .add 3 (.tmp 15) (.const (.int .i64 1)) 3, none⟩,
    ⟨some 17, .binOp .gtr 3 (.tmp 14) (.tmp 16) 3, none⟩,
    ⟨some 18, .move (.tmp 17), none⟩,
    ⟨some 19, .load 54 (.tmp 0), some ((some 18), true)⟩,
    ⟨some 20, .load 54 (.tmp 0), some ((some 18), true)⟩,
    ⟨some 21, .call ⟨.builtin .len, #[(.tmp 20)], #[54]⟩, some ((some 18), true)⟩,
    ⟨some 22, .binOp .sub 3 (.tmp 21) (.const (.int .i64 2)) 3, some ((some 18), true)⟩,
    ⟨some 23, .indexAddr 54 (.tmp 19) (.tmp 22), some ((some 18), true)⟩,
    ⟨some 24, .load 56 (.tmp 23), some ((some 18), true)⟩,
    ⟨some 25, .load 54 (.tmp 0), some ((some 18), true)⟩,
    ⟨some 26, .load 54 (.tmp 0), some ((some 18), true)⟩,
    ⟨some 27, .call ⟨.builtin .len, #[(.tmp 26)], #[54]⟩, some ((some 18), true)⟩,
    ⟨some 28, .binOp .sub 3 (.tmp 27) (.const (.int .i64 1)) 3, some ((some 18), true)⟩,
    ⟨some 29, .indexAddr 54 (.tmp 25) (.tmp 28), some ((some 18), true)⟩,
    ⟨some 30, .load 56 (.tmp 29), some ((some 18), true)⟩,
    ⟨some 31, .call ⟨.value (.func 110), #[(.tmp 24), (.tmp 30)], #[56, 56]⟩, some ((some 18), true)⟩,
    ⟨some 32, .load 54 (.tmp 0), some ((some 18), true)⟩,
    ⟨some 33, .load 54 (.tmp 0), some ((some 18), true)⟩,
    ⟨some 34, .call ⟨.builtin .len, #[(.tmp 33)], #[54]⟩, some ((some 18), true)⟩,
    ⟨some 35, .binOp .sub 3 (.tmp 34) (.const (.int .i64 1)) 3, some ((some 18), true)⟩,
    ⟨some 36, .indexAddr 54 (.tmp 32) (.tmp 35), some ((some 18), true)⟩,
    ⟨some 37, .load 56 (.tmp 36), some ((some 18), true)⟩,
    ⟨some 38, .load 56 (.tmp 4), some ((some 18), true)⟩]
    [⟨some 39, .call ⟨.value (.func 110), #[(.tmp 37), (.tmp 38)], #[56, 56]⟩, some ((some 18), true)⟩,
    ⟨some 40, .call ⟨.value (.func 131), #[(.tmp 31), (.tmp 39)], #[56, 56]⟩, some ((some 18), true)⟩,
    ⟨some 41, .binOp .leq 3 (.tmp 40) (.const (.int .i64 0)) 3, some ((some 18), true)⟩,
    ⟨some 42, .pick (.tmp 18) (.tmp 41) (.const (.bool false)), none⟩])
  (.cond (.tmp 42)
    .skip
    (.exit 2)))
  (.block 3
    (.reg [⟨some 43, .load 54 (.tmp 0), none⟩,
      ⟨some 44, .load 54 (.tmp 0), none⟩,
      ⟨some 45, .call ⟨.builtin .len, #[(.tmp 44)], #[54]⟩, none⟩,
      ⟨some 46, .binOp .sub 3 (.tmp 45) (.const (.int .i64 1)) 3, none⟩,
      ⟨some 47, .slice 54 (.tmp 43) none (some (.tmp 46)) none, none⟩,
      ⟨none, .store 54 (.tmp 0) (.tmp 47), none⟩])))
def p130l1 : PC :=
  (.seq (.reg [⟨some 10, .binOp .lss 3 (.tmp 9) (.tmp 8) 3, none⟩])
  (.seq (.cond (.tmp 10)
    .skip
    (.exit 0))
  (.seq (.block 1
    (.seq (.reg [⟨some 11, .indexAddr 54 (.tmp 7) (.tmp 9), none⟩,
      ⟨some 12, .load 56 (.tmp 11), none⟩,
      ⟨some 4, .alloc 56, none⟩,
      ⟨none, .store 56 (.tmp 4) (.tmp 12), none⟩])
    (.seq (.block 2
      (.loop p130l0))
    (.reg [⟨some 48, .load 54 (.tmp 0), none⟩,
      ⟨some 49, .load 56 (.tmp 4), none⟩,
      ⟨some 50, .buildSlice 54 1 #[(0, (.tmp 49))], none⟩,
      ⟨some 51, .call ⟨.builtin .append, #[(.tmp 48), (.tmp 50)], #[54, 54]⟩, none⟩,
      ⟨none, .store 54 (.tmp 0) (.tmp 51), none⟩]))))
  (.reg [⟨some 52, .binOp .add 3 (.tmp 9) (.const (.int .i64 1)) 3, none⟩,
    ⟨some 9, .move (.tmp 52), none⟩]))))
def p130 : PC :=
  (.seq (.reg [⟨some 5, .load 54 (.tmp 0), none⟩,
    ⟨some 6, .call ⟨.builtin .len, #[(.tmp 5)], #[54]⟩, none⟩,
    ⟨some 2, .assign (.tmp 6), none⟩])
  (.seq (.seq (.reg [⟨some 7, .load 54 (.tmp 1), none⟩,
    ⟨some 8, .call ⟨.builtin .len, #[(.tmp 7)], #[54]⟩, none⟩,
    ⟨some 9, .move (.const (.int .i64 0)), none⟩])
  (.block 0
    (.loop p130l1)))
  (.reg [⟨some 53, .load 54 (.tmp 0), none⟩,
    ⟨some 54, .load 54 (.tmp 0), none⟩,
    ⟨some 55, .call ⟨.builtin .len, #[(.tmp 54)], #[54]⟩, none⟩,
    ⟨some 56, .binOp .sub 3 (.tmp 55) (.const (.int .i64 1)) 3, none⟩,
    ⟨some 57, .slice 54 (.tmp 53) none (some (.tmp 56)) none, none⟩,
    ⟨none, .store 54 (.tmp 0) (.tmp 57), none⟩])))
theorem c130 : f130.body.bind (comp f130.ntmps) = some p130 := by kernel_rfl
def p131 : PC :=
  (.seq (.reg [⟨some 2, .box 56 (.tmp 0), none⟩,
    ⟨some 3, .box 56 (.tmp 1), none⟩,
    ⟨some 4, .assign (.const (.int .i64 0)), none⟩])
  (.seq (.reg [⟨some 5, .fieldAddr 56 (.tmp 2) 0, none⟩,
    ⟨some 6, .load 3 (.tmp 5), none⟩,
    ⟨some 7, .fieldAddr 56 (.tmp 3) 1, none⟩,
    ⟨some 8, .load 3 (.tmp 7), none⟩,
    ⟨some 9, .binOp .mul 3 (.tmp 6) (.tmp 8) 3, none⟩,
    ⟨some 10, .fieldAddr 56 (.tmp 2) 1, none⟩,
    ⟨some 11, .load 3 (.tmp 10), none⟩,
    ⟨some 12, .fieldAddr 56 (.tmp 3) 0, none⟩,
    ⟨some 13, .load 3 (.tmp 12), none⟩,
    ⟨some 14, .binOp .mul 3 (.tmp 11) (.tmp 13) 3, none⟩,
    ⟨some 15, .binOp .sub 3 (.tmp 9) (.tmp 14) 3, none⟩,
    ⟨some 4, .assign (.tmp 15), none⟩])
  .ret))
theorem c131 : f131.body.bind (comp f131.ntmps) = some p131 := by kernel_rfl
def p132l0 : PC :=
  (.seq (.seq (.reg [⟨some 7, .move (.tmp 2), none⟩,
    ⟨some 8, .move (.tmp 3), none⟩,
    ⟨some 9, .binOp .lss 3 (.tmp 7) (.tmp 8) 3, none⟩])
  (.cond (.tmp 9)
    .skip
    (.exit 0)))
  (.seq (.block 1
    (.drawW [0, 0, 0, 0, 0, 0, 48, 112, 0, 0, 768, 1792, 4083, 8179, 16383, 32767] [⟨some 14, .move (.tmp 0), none⟩,
      ⟨some 15, .move (.tmp 2), none⟩,
      ⟨some 16, .move (.tmp 0), none⟩,
      ⟨some 17, .move (.tmp 3), none⟩,
      ⟨some 18, .move (.tmp 0), none⟩,
      ⟨some 19, .move (.tmp 3), none⟩,
      ⟨some 20, .indexAddr 54 (.tmp 18) (.tmp 19), none⟩,
      ⟨some 21, .load 56 (.tmp 20), none⟩,
      ⟨some 22, .move (.tmp 0), none⟩,
      ⟨some 23, .move (.tmp 2), none⟩,
      ⟨some 24, .indexAddr 54 (.tmp 22) (.tmp 23), none⟩,
      ⟨some 25, .load 56 (.tmp 24), none⟩,
      ⟨some 26, .indexAddr 54 (.tmp 14) (.tmp 15), none⟩,
      ⟨none, .store 56 (.tmp 26) (.tmp 21), none⟩]
      [⟨some 27, .indexAddr 54 (.tmp 16) (.tmp 17), none⟩,
      ⟨none, .store 56 (.tmp 27) (.tmp 25), none⟩]))
  (.reg [⟨some 10, .move (.tmp 2), none⟩,
    ⟨some 11, .binOp .add 3 (.tmp 10) (.const (.int .i64 1)) 3, none⟩,
    ⟨some 12, .move (.tmp 3), none⟩,
    ⟨some 13, .binOp .sub 3 (.tmp 12) (.const (.int .i64 1)) 3, none⟩,
    ⟨some 2, .assign (.tmp 11), none⟩,
    ⟨some 3, .assign (.tmp 13), none⟩])))
def p132 : PC :=
  (.seq (.reg [⟨some 4, .move (.tmp 0), none⟩,
    ⟨some 5, .call ⟨.builtin .len, #[(.tmp 4)], #[54]⟩, none⟩,
    ⟨some 6, .binOp .sub 3 (.tmp 5) (.const (.int .i64 1)) 3, none⟩,
    ⟨some 2, .assign (.const (.int .i64 0)), none⟩,
    ⟨some 3, .assign (.tmp 6), none⟩])
  (.block 0
    (.loop p132l0)))
theorem c132 : f132.body.bind (comp f132.ntmps) = some p132 := by kernel_rfl
def p133l0 : PC :=
  (.seq (.seq (.draw [0, 1, 3, 7, 7, 31, 63, 7, 7, 263, 903, 1927, 4095, 8191] [⟨some 15, .move (.tmp 5), none⟩,
    ⟨some 16, .binOp .gtr 3 (.tmp 15) (.const (.int .i64 0)) 3, none⟩,
    ⟨some 17, .move (.tmp 16), none⟩,
    ⟨some 18, .move (.tmp 0), some ((some 17), true)⟩,
    ⟨some 19, .move (.tmp 4), some ((some 17), true)⟩,
    ⟨some 20, .indexAddr 54 (.tmp 18) (.tmp 19), some ((some 17), true)⟩,
    ⟨some 21, .load 56 (.tmp 20), some ((some 17), true)⟩,
    ⟨some 22, .move (.tmp 3), some ((some 17), true)⟩,
    ⟨some 23, .move (.tmp 5), some ((some 17), true)⟩,
    ⟨some 24, .binOp .sub 3 (.tmp 23) (.const (.int .i64 1)) 3, some ((some 17), true)⟩,
    ⟨some 25, .indexAddr 54 (.tmp 22) (.tmp 24), some ((some 17), true)⟩,
    ⟨some 26, .load 56 (.tmp 25), some ((some 17), true)⟩]
    [⟨some 27, .call ⟨.value (.func 147), #[(.tmp 21), (.tmp 26)], #[56, 56]⟩, some ((some 17), true)⟩,
    ⟨some 28, .pick (.tmp 17) (.tmp 27) (.const (.bool false)), none⟩])
  (.cond (.tmp 28)
    .skip
    (.exit 2)))
  (.block 3
    (.reg [⟨some 29, .move (.tmp 5), none⟩,
      ⟨some 30, .binOp .sub 3 (.tmp 29) (.const (.int .i64 1)) 3, none⟩,
      ⟨some 5, .assign (.tmp 30), none⟩])))
def p133l1 : PC :=
  (.seq (.seq (.reg [⟨some 52, .move (.tmp 6), none⟩,
    ⟨some 53, .move (.tmp 5), none⟩,
    ⟨some 54, .binOp .gtr 3 (.tmp 52) (.tmp 53) 3, none⟩])
  (.cond (.tmp 54)
    .skip
    (.exit 4)))
  (.seq (.block 5
    (.reg [⟨some 57, .move (.tmp 3), none⟩,
      ⟨some 58, .move (.tmp 6), none⟩,
      ⟨some 59, .move (.tmp 3), none⟩,
      ⟨some 60, .move (.tmp 6), none⟩,
      ⟨some 61, .binOp .sub 3 (.tmp 60) (.const (.int .i64 1)) 3, none⟩,
      ⟨some 62, .indexAddr 54 (.tmp 59) (.tmp 61), none⟩,
      ⟨some 63, .load 56 (.tmp 62), none⟩,
      ⟨some 64, .indexAddr 54 (.tmp 57) (.tmp 58), none⟩,
      ⟨none, .store 56 (.tmp 64) (.tmp 63), none⟩]))
  (.reg [⟨some 55, .move (.tmp 6), none⟩,
    ⟨some 56, .binOp .sub 3 (.tmp 55) (.const (.int .i64 1)) 3, none⟩,
    ⟨some 6, .assign (.tmp 56), none⟩])))
def p133l2 : PC :=
  (.seq (.seq (.reg [⟨some 7, .move (.tmp 4), none⟩,
    ⟨some 8, .move (.tmp 0), none⟩,
    ⟨some 9, .call ⟨.builtin .len, #[(.tmp 8)], #[54]⟩, none⟩,
    ⟨some 10, .binOp .lss 3 (.tmp 7) (.tmp 9) 3, none⟩])
  (.cond (.tmp 10)
    .skip
    (.exit 0)))
  (.seq (.block 1
    (.seq (.reg [⟨some 13, .move (.tmp 3), none⟩,
      ⟨some 14, .call ⟨.builtin .len, #[(.tmp 13)], #[54]⟩, none⟩,
      ⟨some 5, .assign (.tmp 14), none⟩])
    (.seq (.block 2
      (.loop p133l0))
    (.seq (.seq (.draw [0, 1, 3, 7, 7, 23, 63, 127, 7, 7, 775, 1799, 4095, 8191] [⟨some 31, .move (.tmp 5), none⟩,
      ⟨some 32, .binOp .gtr 3 (.tmp 31) (.const (.int .i64 0)) 3, none⟩,
      ⟨some 33, .move (.tmp 32), none⟩,
      ⟨some 34, .move (.tmp 3), some ((some 33), true)⟩,
      ⟨some 35, .move (.tmp 5), some ((some 33), true)⟩,
      ⟨some 36, .binOp .sub 3 (.tmp 35) (.const (.int .i64 1)) 3, some ((some 33), true)⟩,
      ⟨some 37, .indexAddr 54 (.tmp 34) (.tmp 36), some ((some 33), true)⟩,
      ⟨some 38, .load 56 (.tmp 37), some ((some 33), true)⟩,
      ⟨some 39, .move (.tmp 0), some ((some 33), true)⟩,
      ⟨some 40, .move (.tmp 4), some ((some 33), true)⟩,
      ⟨some 41, .indexAddr 54 (.tmp 39) (.tmp 40), some ((some 33), true)⟩,
      ⟨some 42, .load 56 (.tmp 41), some ((some 33), true)⟩]
      [⟨some 43, .binOp .eql 56 (.tmp 38) (.tmp 42) 56, some ((some 33), true)⟩,
      ⟨some 44, .pick (.tmp 33) (.tmp 43) (.const (.bool false)), none⟩])
    (.cond (.tmp 44)
      (.exit 1)
      .skip))
    (.seq (.reg [⟨some 45, .move (.tmp 3), none⟩,
      ⟨some 46, .build 56 #[], none⟩,
      ⟨some 47, .buildSlice 54 1 #[(0, (.tmp 46))], none⟩,
      ⟨some 48, .call ⟨.builtin .append, #[(.tmp 45), (.tmp 47)], #[54, 54]⟩, none⟩,
      ⟨some 3, .assign (.tmp 48), none⟩])
    (.seq (.seq (.reg [⟨some 49, .move (.tmp 3), none⟩,
      ⟨some 50, .call ⟨.builtin .len, #[(.tmp 49)], #[54]⟩, none⟩,
      ⟨some 51, .binOp .sub 3 (.tmp 50) (.const (.int .i64 1)) 3, none⟩,
      ⟨some 6, .assign (.tmp 51), none⟩])
    (.block 4
      (.loop p133l1)))
    (.reg [⟨some 65, .move (.tmp 3), none⟩,
      ⟨some 66, .move (.tmp 5), none⟩,
      ⟨some 67, .move (.tmp 0), none⟩,
      ⟨some 68, .move (.tmp 4), none⟩,
      ⟨some 69, .indexAddr 54 (.tmp 67) (.tmp 68), none⟩,
      ⟨some 70, .load 56 (.tmp 69), none⟩,
      ⟨some 71, .indexAddr 54 (.tmp 65) (.tmp 66), none⟩,
      ⟨none, .store 56 (.tmp 71) (.tmp 70), none⟩])))))))
  (.reg [⟨some 11, .move (.tmp 4), none⟩,
    ⟨some 12, .binOp .add 3 (.tmp 11) (.const (.int .i64 1)) 3, none⟩,
    ⟨some 4, .assign (.tmp 12), none⟩])))
def p133 : PC :=
  (.seq (.reg [⟨some 2, .assign (.const (.slice none 0 0)), none⟩])
  (.seq (.reg [⟨some 3, .assign (.const (.slice none 0 0)), none⟩])
  (.seq (.seq (.reg [⟨some 4, .assign (.const (.int .i64 0)), none⟩])
  (.block 0
    (.loop p133l2)))
  (.seq (.reg [⟨some 72, .move (.tmp 3), none⟩,
    ⟨some 2, .assign (.tmp 72), none⟩])
  .ret))))
theorem c133 : f133.body.bind (comp f133.ntmps) = some p133 := by kernel_rfl
def p134l0 : PC :=
  (.seq (.seq (.draw [0, 1, 3, 7, 15, 15, 47, 111, 255, 511, 15, 15, 2063, 6159, 15375, 31759, 15, 15, 196623, 458767, 1048575, 2097151, 4194303] [⟨some 11, .move (.tmp 3), none⟩,
    ⟨some 12, .call ⟨.builtin .len, #[(.tmp 11)], #[54]⟩, none⟩,
    ⟨some 13, .binOp .gtr 3 (.tmp 12) (.const (.int .i64 1)) 3, none⟩,
    ⟨some 14, .move (.tmp 13), none⟩,
    ⟨some 15, .move (.tmp 3), some ((some 14), true)⟩,
    ⟨some 16, .move (.tmp 3), some ((some 14), true)⟩,
    ⟨some 17, .call ⟨.builtin .len, #[(.tmp 16)], #[54]⟩, some ((some 14), true)⟩,
    ⟨some 18, .binOp .sub 3 (.tmp 17) (.const (.int .i64 2)) 3, some ((some 14), true)⟩,
    ⟨some 19, .indexAddr 54 (.tmp 15) (.tmp 18), some ((some 14), true)⟩,
    ⟨some 20, .load 56 (.tmp 19), some ((some 14), true)⟩,
    ⟨some 21, .move (.tmp 3), some ((some 14), true)⟩,
    ⟨some 22, .move (.tmp 3), some ((some 14), true)⟩,
    ⟨some 23, .call ⟨.builtin .len, #[(.tmp 22)], #[54]⟩, some ((some 14), true)⟩,
    ⟨some 24, .binOp .sub 3 (.tmp 23) (.const (.int .i64 1)) 3, some ((some 14), true)⟩,
    ⟨some 25, .indexAddr 54 (.tmp 21) (.tmp 24), some ((some 14), true)⟩,
    ⟨some 26, .load 56 (.tmp 25), some ((some 14), true)⟩,
    ⟨some 27, .move (.tmp 0), some ((some 14), true)⟩,
    ⟨some 28, .move (.tmp 4), some ((some 14), true)⟩,
    ⟨some 29, .indexAddr 54 (.tmp 27) (.tmp 28), some ((some 14), true)⟩,
    ⟨some 30, .load 56 (.tmp 29), some ((some 14), true)⟩]
    [⟨some 31, .call ⟨.value (.func 136), #[(.tmp 20), (.tmp 26), (.tmp 30)], #[56, 56, 56]⟩, some ((some 14), true)⟩,
    ⟨some 32, .binOp .leq 3 (.tmp 31) (.const (.int .i64 0)) 3, some ((some 14), true)⟩,
    ⟨some 33, .pick (.tmp 14) (.tmp 32) (.const (.bool false)), none⟩])
  (.cond (.tmp 33)
    .skip
    (.exit 2)))
  (.block 3
    (.reg [⟨some 34, .move (.tmp 3), none⟩,
      ⟨some 35, .move (.tmp 3), none⟩,
      ⟨some 36, .call ⟨.builtin .len, #[(.tmp 35)], #[54]⟩, none⟩,
      ⟨some 37, .binOp .sub 3 (.tmp 36) (.const (.int .i64 1)) 3, none⟩,
      ⟨some 38, .slice 54 (.tmp 34) none (some (.tmp 37)) none, none⟩,
      ⟨some 3, .assign (.tmp 38), none⟩])))
def p134l1 : PC :=
  (.seq (.seq (.reg [⟨some 5, .move (.tmp 4), none⟩,
    ⟨some 6, .move (.tmp 0), none⟩,
    ⟨some 7, .call ⟨.builtin .len, #[(.tmp 6)], #[54]⟩, none⟩,
    ⟨some 8, .binOp .lss 3 (.tmp 5) (.tmp 7) 3, none⟩])
  (.cond (.tmp 8)
    .skip
    (.exit 0)))
  (.seq (.block 1
    (.seq (.block 2
      (.loop p134l0))
    (.reg [⟨some 39, .move (.tmp 3), none⟩,
      ⟨some 40, .move (.tmp 0), none⟩,
      ⟨some 41, .move (.tmp 4), none⟩,
      ⟨some 42, .indexAddr 54 (.tmp 40) (.tmp 41), none⟩,
      ⟨some 43, .load 56 (.tmp 42), none⟩,
      ⟨some 44, .buildSlice 54 1 #[(0, (.tmp 43))], none⟩,
      ⟨some 45, .call ⟨.builtin .append, #[(.tmp 39), (.tmp 44)], #[54, 54]⟩, none⟩,
      ⟨some 3, .assign (.tmp 45), none⟩])))
  (.reg [⟨some 9, .move (.tmp 4), none⟩,
    ⟨some 10, .binOp .add 3 (.tmp 9) (.const (.int .i64 1)) 3, none⟩,
    ⟨some 4, .assign (.tmp 10), none⟩])))
def p134 : PC :=
  (.seq (.reg [⟨some 2, .assign (.const (.slice none 0 0)), none⟩])
  (.seq (.reg [⟨some 3, .assign (.const (.slice none 0 0)), none⟩])
  (.seq (.seq (.reg [⟨some 4, .assign (.const (.int .i64 0)), none⟩])
  (.block 0
    (.loop p134l1)))
  (.seq (.reg [⟨some 46, .move (.tmp 3), none⟩,
    ⟨some 2, .assign (.tmp 46), none⟩])
  .ret))))
theorem c134 : f134.body.bind (comp f134.ntmps) = some p134 := by kernel_rfl
def p135 : PC :=
  (.seq (.reg [⟨some 1, .box 54 (.tmp 0), none⟩,
    ⟨some 2, .assign (.const .nilFunc), none⟩])
  (.seq (.reg [⟨some 3, .makeFunc (.func 148) #[] #[(.tmp 1)], none⟩,
    ⟨some 2, .assign (.tmp 3), none⟩])
  .ret))
theorem c135 : f135.body.bind (comp f135.ntmps) = some p135 := by kernel_rfl
def p136 : PC :=
  (.seq (.reg [⟨some 3, .box 56 (.tmp 0), none⟩,
    ⟨some 4, .box 56 (.tmp 1), none⟩,
    ⟨some 5, .box 56 (.tmp 2), none⟩,
    ⟨some 6, .assign (.const (.int .i64 0)), none⟩])
  (.seq (.reg [⟨some 7, .fieldAddr 56 (.tmp 4) 0, none⟩,
    ⟨some 8, .load 3 (.tmp 7), none⟩,
    ⟨some 9, .fieldAddr 56 (.tmp 3) 0, none⟩,
    ⟨some 10, .load 3 (.tmp 9), none⟩,
    ⟨some 11, .binOp .sub 3 (.tmp 8) (.tmp 10) 3, none⟩,
    ⟨some 12, .fieldAddr 56 (.tmp 5) 1, none⟩,
    ⟨some 13, .load 3 (.tmp 12), none⟩,
    ⟨some 14, .fieldAddr 56 (.tmp 3) 1, none⟩,
    ⟨some 15, .load 3 (.tmp 14), none⟩,
    ⟨some 16, .binOp .sub 3 (.tmp 13) (.tmp 15) 3, none⟩,
    ⟨some 17, .binOp .mul 3 (.tmp 11) (.tmp 16) 3, none⟩,
    ⟨some 18, .fieldAddr 56 (.tmp 4) 1, none⟩,
    ⟨some 19, .load 3 (.tmp 18), none⟩,
    ⟨some 20, .fieldAddr 56 (.tmp 3) 1, none⟩,
    ⟨some 21, .load 3 (.tmp 20), none⟩,
    ⟨some 22, .binOp .sub 3 (.tmp 19) (.tmp 21) 3, none⟩,
    ⟨some 23, .fieldAddr 56 (.tmp 5) 0, none⟩,
    ⟨some 24, .load 3 (.tmp 23), none⟩,
    ⟨some 25, .fieldAddr 56 (.tmp 3) 0, none⟩,
    ⟨some 26, .load 3 (.tmp 25), none⟩,
    ⟨some 27, .binOp .sub 3 (.tmp 24) (.tmp 26) 3, none⟩,
    ⟨some 28, .binOp .mul 3 (.tmp 22) (.tmp 27) 3, none⟩,
    ⟨some 29, .binOp .sub 3 (.tmp 17) (.tmp 28) 3, none⟩,
    ⟨some 6, .assign (.tmp 29), none⟩])
  .ret))
theorem c136 : f136.body.bind (comp f136.ntmps) = some p136 := by kernel_rfl
def p138 : PC :=
  (.reg [⟨some 4, .move (.tmp 0), none⟩,
    ⟨some 5, .move (.tmp 0), none⟩,
    ⟨some 6, .call ⟨.builtin .len, #[(.tmp 5)], #[54]⟩, none⟩,
    ⟨some 7, .move (.tmp 1), none⟩,
    ⟨some 8, .call ⟨.value (.func 149), #[(.tmp 4), (.tmp 6), (.tmp 7)], #[54, 3, 148]⟩, none⟩])
theorem c138 : f138.body.bind (comp f138.ntmps) = some p138 := by kernel_rfl
def p139 : PC :=
  (.seq (.reg [⟨some 2, .box 56 (.tmp 0), none⟩,
    ⟨some 3, .box 56 (.tmp 1), none⟩,
    ⟨some 4, .assign (.const (.int .i64 0)), none⟩])
  (.seq (.draw [0, 1, 0, 7, 15, 0, 0, 127, 255, 511, 1023, 2047] [⟨some 5, .load 56 (.tmp 2), none⟩,
    ⟨some 6, .call ⟨.value (.func 142), #[(.tmp 5)], #[56]⟩, none⟩,
    ⟨some 7, .load 56 (.tmp 3), none⟩,
    ⟨some 8, .call ⟨.value (.func 142), #[(.tmp 7)], #[56]⟩, none⟩,
    ⟨some 9, .call ⟨.value (.func 141), #[(.tmp 6), (.tmp 8)], #[3, 3]⟩, none⟩,
    ⟨some 10, .load 56 (.tmp 2), none⟩,
    ⟨some 11, .load 56 (.tmp 3), none⟩]
    [⟨some 12, .call ⟨.value (.func 131), #[(.tmp 10), (.tmp 11)], #[56, 56]⟩, none⟩,
    ⟨some 13, .call ⟨.value (.func 141), #[(.const (.int .i64 0)), (.tmp 12)], #[3, 3]⟩, none⟩,
    ⟨some 14, .buildSlice 94 2 #[(0, (.tmp 9)), (1, (.tmp 13))], none⟩,
    ⟨some 15, .call ⟨.value (.func 140), #[(.tmp 14)], #[94]⟩, none⟩,
    ⟨some 4, .assign (.tmp 15), none⟩])
  .ret))
theorem c139 : f139.body.bind (comp f139.ntmps) = some p139 := by kernel_rfl
def p140l0 : PC :=
  (.seq (.reg [⟨some 9, .binOp .lss 3 (.tmp 8) (.tmp 7) 3, none⟩])
  (.seq (.cond (.tmp 9)
    .skip
    (.exit 0))
  (.seq (.block 1
    (.seq (.reg [⟨some 10, .indexAddr 94 (.tmp 6) (.tmp 8), none⟩,
      ⟨some 11, .load 3 (.tmp 10), none⟩,
      ⟨some 5, .assign (.tmp 11), none⟩])
    (.seq (.reg [⟨some 12, .move (.tmp 5), none⟩,
      ⟨some 13, .move (.tmp 3), none⟩,
      ⟨some 14, .binOp .neq 3 (.tmp 12) (.tmp 13) 3, none⟩])
    (.cond (.tmp 14)
      (.seq (.reg [⟨some 15, .move (.tmp 5), none⟩,
        ⟨some 2, .assign (.tmp 15), none⟩])
      .ret)
      .skip))))
  (.reg [⟨some 16, .binOp .add 3 (.tmp 8) (.const (.int .i64 1)) 3, none⟩,
    ⟨some 8, .move (.tmp 16), none⟩]))))
def p140 : PC :=
  (.seq (.reg [⟨some 2, .assign (.const (.int .i64 0)), none⟩])
  (.seq (.reg [⟨some 3, .assign (.const (.int .i64 0)), none⟩])
  (.seq (.seq (.reg [⟨some 6, .move (.tmp 0), none⟩,
    ⟨some 7, .call ⟨.builtin .len, #[(.tmp 6)], #[94]⟩, none⟩,
    ⟨some 8, .move (.const (.int .i64 0)), none⟩])
  (.block 0
    (.loop p140l0)))
  (.seq (.reg [⟨some 17, .move (.tmp 3), none⟩,
    ⟨some 2, .assign (.tmp 17), none⟩])
  .ret))))
theorem c140 : f140.body.bind (comp f140.ntmps) = some p140 := by kernel_rfl
def p141 : PC :=
  (.seq (.reg [⟨some 4, .assign (.const (.int .i64 0)), none⟩])
  (.seq (.reg [⟨some 7, .move (.tmp 0), none⟩,
    ⟨some 8, .call ⟨.value (.func 150), #[(.tmp 7)], #[3]⟩, none⟩,
    ⟨some 5, .assign (.tmp 8), none⟩])
  (.seq (.reg [⟨some 9, .move (.tmp 1), none⟩,
    ⟨some 10, .call ⟨.value (.func 150), #[(.tmp 9)], #[3]⟩, none⟩,
    ⟨some 6, .assign (.tmp 10), none⟩])
  (.seq (.seq (.reg [⟨some 11, .move (.tmp 5), none⟩])
  (.cond (.tmp 11)
    (.seq (.seq (.reg [⟨some 12, .move (.tmp 6), none⟩])
    (.cond (.tmp 12)
      (.seq (.reg [⟨some 4, .assign (.const (.int .i64 0)), none⟩])
      .ret)
      .skip))
    (.seq (.reg [⟨some 4, .assign (.const (.int .i64 (-1))), none⟩])
    .ret))
    .skip))
  (.seq (.seq (.reg [⟨some 13, .move (.tmp 6), none⟩])
  (.cond (.tmp 13)
    (.seq (.reg [⟨some 4, .assign (.const (.int .i64 1)), none⟩])
    .ret)
    .skip))
  (.seq (.seq (.reg [⟨some 14, .move (.tmp 0), none⟩,
    ⟨some 15, .move (.tmp 1), none⟩,
    ⟨some 16, .binOp .lss 3 (.tmp 14) (.tmp 15) 3, none⟩])
  (.cond (.tmp 16)
    (.seq (.reg [⟨some 4, .assign (.const (.int .i64 (-1))), none⟩])
    .ret)
    .skip))
  (.seq (.seq (.reg [⟨some 17, .move (.tmp 0), none⟩,
    ⟨some 18, .move (.tmp 1), none⟩,
    ⟨some 19, .binOp .gtr 3 (.tmp 17) (.tmp 18) 3, none⟩])
  (.cond (.tmp 19)
    (.seq (.reg [⟨some 4, .assign (.const (.int .i64 1)), none⟩])
    .ret)
    .skip))
  (.seq (.reg [⟨some 4, .assign (.const (.int .i64 0)), none⟩])
  .ret))))))))
theorem c141 : f141.body.bind (comp f141.ntmps) = some p141 := by kernel_rfl
def p142 : PC :=
  (.seq (.reg [⟨some 1, .box 56 (.tmp 0), none⟩,
    ⟨some 2, .assign (.const (.int .i64 0)), none⟩])
  (.seq (.seq (.reg [⟨some 3, .fieldAddr 56 (.tmp 1) 0, none⟩,
    ⟨some 4, .load 3 (.tmp 3), none⟩,
    ⟨some 5, .binOp .gtr 3 (.tmp 4) (.const (.int .i64 0)) 3, none⟩,
    ⟨some 6, .move (.tmp 5), none⟩,
    ⟨some 7, .fieldAddr 56 (.tmp 1) 0, some ((some 6), false)⟩,
    ⟨some 8, .load 3 (.tmp 7), some ((some 6), false)⟩,
    ⟨some 9, .binOp .eql 3 (.tmp 8) (.const (.int .i64 0)) 3, some ((some 6), false)⟩,
    ⟨some 10, .move (.tmp 9), some ((some 6), false)⟩,
    ⟨some 11, .fieldAddr 56 (.tmp 1) 1, some ((some 10), true)⟩,
    ⟨some 12, .load 3 (.tmp 11), some ((some 10), true)⟩,
    ⟨some 13, .binOp .gtr 3 (.tmp 12) (.const (.int .i64 0)) 3, some ((some 10), true)⟩,
    ⟨some 14, .pick (.tmp 10) (.tmp 13) (.const (.bool false)), some ((some 6), false)⟩,
    ⟨some 15, .pick (.tmp 6) (.const (.bool true)) (.tmp 14), none⟩])
  (.cond (.tmp 15)
    (.seq (.reg [⟨some 2, .assign (.const (.int .i64 0)), none⟩])
    .ret)
    .skip))
  (.seq (.reg [⟨some 2, .assign (.const (.int .i64 1)), none⟩])
  .ret)))
theorem c142 : f142.body.bind (comp f142.ntmps) = some p142 := by kernel_rfl
def p143 : PC :=
  (.seq (.reg [⟨some 4, .assign (.const (.slice none 0 0)), none⟩])
  (.seq (.seq (.reg [⟨some 5, .move (.tmp 1), none⟩,
    ⟨some 6, .binOp .lss 3 (.tmp 5) (.const (.int .i64 0)) 3, none⟩])
  (.cond (.tmp 6)
    (.reg [⟨some 7, .makeInterface 9 (.const (.string ⟨#[99, 97, 110, 110, 111, 116, 32, 98, 101, 32, 110, 101, 103, 97, 116, 105, 118, 101]⟩)), none⟩,
      ⟨none, .panic (.tmp 7), none⟩])
    .skip))
  (.seq (.seq (.reg [⟨some 8, .move (.tmp 1), none⟩,
    ⟨some 9, .move (.tmp 0), none⟩,
    ⟨some 10, .call ⟨.builtin .cap, #[(.tmp 9)], #[54]⟩, none⟩,
    ⟨some 11, .move (.tmp 0), none⟩,
    ⟨some 12, .call ⟨.builtin .len, #[(.tmp 11)], #[54]⟩, none⟩,
    ⟨some 13, .binOp .sub 3 (.tmp 10) (.tmp 12) 3, none⟩,
    ⟨some 14, .binOp .sub 3 (.tmp 8) (.tmp 13) 3, none⟩,
    ⟨some 1, .assign (.tmp 14), none⟩])
  (.seq (.reg [⟨some 15, .move (.tmp 1), none⟩,
    ⟨some 16, .binOp .gtr 3 (.tmp 15) (.const (.int .i64 0)) 3, none⟩])
  (.cond (.tmp 16)
    (.reg [⟨some 17, .move (.tmp 0), none⟩,
      ⟨some 18, .move (.tmp 0), none⟩,
      ⟨some 19, .call ⟨.builtin .cap, #[(.tmp 18)], #[54]⟩, none⟩,
      ⟨some 20, .slice 54 (.tmp 17) none (some (.tmp 19)) none, none⟩,
      ⟨some 21, .move (.tmp 1), none⟩,
      ⟨some 22, .call ⟨.builtin .append, #[(.tmp 20), (.tmp 21)], #[54, 3]⟩, none⟩,
      ⟨some 23, .move (.tmp 0), none⟩,
      ⟨some 24, .call ⟨.builtin .len, #[(.tmp 23)], #[54]⟩, none⟩,
      ⟨some 25, .slice 54 (.tmp 22) none (some (.tmp 24)) none, none⟩,
      ⟨some 0, .assign (.tmp 25), none⟩])
    .skip)))
  (.seq (.reg [⟨some 26, .move (.tmp 0), none⟩,
    ⟨some 4, .assign (.tmp 26), none⟩])
  .ret))))
theorem c143 : f143.body.bind (comp f143.ntmps) = some p143 := by kernel_rfl
def p147 : PC :=
  (.seq (.reg [⟨some 2, .box 56 (.tmp 0), none⟩,
    ⟨some 3, .box 56 (.tmp 1), none⟩,
    ⟨some 4, .assign (.const (.bool false)), none⟩])
  (.seq (.reg [⟨some 5, .fieldAddr 56 (.tmp 2) 0, none⟩,
    ⟨some 6, .load 3 (.tmp 5), none⟩,
    ⟨some 7, .fieldAddr 56 (.tmp 3) 0, none⟩,
    ⟨some 8, .load 3 (.tmp 7), none⟩,
    ⟨some 9, .binOp .lss 3 (.tmp 6) (.tmp 8) 3, none⟩,
    ⟨some 10, .move (.tmp 9), none⟩,
    ⟨some 11, .fieldAddr 56 (.tmp 2) 0, some ((some 10), false)⟩,
    ⟨some 12, .load 3 (.tmp 11), some ((some 10), false)⟩,
    ⟨some 13, .fieldAddr 56 (.tmp 3) 0, some ((some 10), false)⟩,
    ⟨some 14, .load 3 (.tmp 13), some ((some 10), false)⟩,
    ⟨some 15, .binOp .eql 3 (.tmp 12) (.tmp 14) 3, some ((some 10), false)⟩,
    ⟨some 16, .move (.tmp 15), some ((some 10), false)⟩,
    ⟨some 17, .fieldAddr 56 (.tmp 2) 1, some ((some 16), true)⟩,
    ⟨some 18, .load 3 (.tmp 17), some ((some 16), true)⟩,
    ⟨some 19, .fieldAddr 56 (.tmp 3) 1, some ((some 16), true)⟩,
    ⟨some 20, .load 3 (.tmp 19), some ((some 16), true)⟩,
    ⟨some 21, .binOp .lss 3 (.tmp 18) (.tmp 20) 3, some ((some 16), true)⟩,
    ⟨some 22, .pick (.tmp 16) (.tmp 21) (.const (.bool false)), some ((some 10), false)⟩,
    ⟨some 23, .pick (.tmp 10) (.const (.bool true)) (.tmp 22), none⟩,
    ⟨some 4, .assign (.tmp 23), none⟩])
  .ret))
theorem c147 : f147.body.bind (comp f147.ntmps) = some p147 := by kernel_rfl
def p148l0 : PC :=
  (.seq (.reg [⟨some 8, .binOp .lss 3 (.tmp 7) (.tmp 6) 3, none⟩])
  (.seq (.cond (.tmp 8)
    .skip
    (.exit 0))
  (.seq (.block 1
    (.seq (.reg [⟨some 9, .move (.tmp 7), none⟩,
      ⟨some 10, .indexAddr 54 (.tmp 5) (.tmp 7), none⟩,
      ⟨some 11, .load 56 (.tmp 10), none⟩,
      ⟨some 4, .alloc 56, none⟩,
      ⟨some 3, .assign (.tmp 9), none⟩,
      ⟨none, .store 56 (.tmp 4) (.tmp 11), none⟩])
    (.seq (.draw [0, 0, 0, 0, 8, 0, 32, 120, 252, 508, 1023, 2047] [⟨some 12, .move (.tmp 0), none⟩,
      ⟨some 13, .load 56 (.tmp 4), none⟩,
      ⟨some 14, .load 54 (.tmp 1), none⟩,
      ⟨some 15, .move (.tmp 3), none⟩,
      ⟨some 16, .binOp .add 3 (.tmp 15) (.const (.int .i64 1)) 3, none⟩,
      ⟨some 17, .load 54 (.tmp 1), none⟩,
      ⟨some 18, .call ⟨.builtin .len, #[(.tmp 17)], #[54]⟩, none⟩,
      ⟨some 19, .binOp .rem 3 (.tmp 16) (.tmp 18) 3, none⟩,
      ⟨some 20, .indexAddr 54 (.tmp 14) (.tmp 19), none⟩,
      ⟨some 21, .load 56 (.tmp 20), none⟩]
      [⟨some 22, .call ⟨.value (.tmp 12), #[(.tmp 13), (.tmp 21)], #[56, 56]⟩, none⟩,
      ⟨some 23, .unOp .not 4 (.tmp 22), none⟩])
    (.cond (.tmp 23)
      .ret
      .skip))))
  (.reg [⟨some 24, .binOp .add 3 (.tmp 7) (.const (.int .i64 1)) 3, none⟩,
    ⟨some 7, .move (.tmp 24), none⟩]))))
def p148 : PC :=
  (.seq (.reg [⟨some 5, .load 54 (.tmp 1), none⟩,
    ⟨some 6, .call ⟨.builtin .len, #[(.tmp 5)], #[54]⟩, none⟩,
    ⟨some 7, .move (.const (.int .i64 0)), none⟩])
  (.block 0
    (.loop p148l0)))
theorem c148 : f148.body.bind (comp f148.ntmps) = some p148 := by kernel_rfl
def p149l0 : PC :=
  (.seq (.seq (.reg [⟨some 11, .move (.tmp 8), none⟩,
    ⟨some 12, .move (.tmp 1), none⟩,
    ⟨some 13, .binOp .leq 3 (.tmp 11) (.tmp 12) 3, none⟩])
  (.cond (.tmp 13)
    .skip
    (.exit 0)))
  (.block 1
    (.seq (.reg [⟨some 14, .move (.tmp 0), none⟩,
      ⟨some 15, .move (.tmp 7), none⟩,
      ⟨some 16, .move (.tmp 8), none⟩,
      ⟨some 17, .move (.tmp 2), none⟩,
      ⟨some 18, .call ⟨.value (.func 152), #[(.tmp 14), (.tmp 15), (.tmp 16), (.tmp 17)], #[54, 3, 3, 148]⟩, none⟩])
    (.seq (.reg [⟨some 19, .move (.tmp 8), none⟩,
      ⟨some 7, .assign (.tmp 19), none⟩])
    (.reg [⟨some 20, .move (.tmp 8), none⟩,
      ⟨some 21, .move (.tmp 6), none⟩,
      ⟨some 22, .binOp .add 3 (.tmp 20) (.tmp 21) 3, none⟩,
      ⟨some 8, .assign (.tmp 22), none⟩])))))
def p149l1 : PC :=
  (.seq (.seq (.reg [⟨some 33, .move (.tmp 8), none⟩,
    ⟨some 34, .move (.tmp 1), none⟩,
    ⟨some 35, .binOp .leq 3 (.tmp 33) (.tmp 34) 3, none⟩])
  (.cond (.tmp 35)
    .skip
    (.exit 4)))
  (.block 5
    (.seq (.reg [⟨some 36, .move (.tmp 0), none⟩,
      ⟨some 37, .move (.tmp 7), none⟩,
      ⟨some 38, .move (.tmp 7), none⟩,
      ⟨some 39, .move (.tmp 6), none⟩,
      ⟨some 40, .binOp .add 3 (.tmp 38) (.tmp 39) 3, none⟩,
      ⟨some 41, .move (.tmp 8), none⟩,
      ⟨some 42, .move (.tmp 2), none⟩,
      ⟨some 43, .call ⟨.value (.func 161), #[(.tmp 36), (.tmp 37), (.tmp 40), (.tmp 41), (.tmp 42)], #[54, 3, 3, 3, 148]⟩, none⟩])
    (.seq (.reg [⟨some 44, .move (.tmp 8), none⟩,
      ⟨some 7, .assign (.tmp 44), none⟩])
    (.reg [⟨some 45, .move (.tmp 8), none⟩,
      ⟨some 46, .move (.tmp 6), none⟩,
      ⟨some 47, .binOp .mul 3 (.const (.int .i64 2)) (.tmp 46) 3, none⟩,
      ⟨some 48, .binOp .add 3 (.tmp 45) (.tmp 47) 3, none⟩,
      ⟨some 8, .assign (.tmp 48), none⟩])))))
def p149l2 : PC :=
  (.seq (.seq (.reg [⟨some 28, .move (.tmp 6), none⟩,
    ⟨some 29, .move (.tmp 1), none⟩,
    ⟨some 30, .binOp .lss 3 (.tmp 28) (.tmp 29) 3, none⟩])
  (.cond (.tmp 30)
    .skip
    (.exit 2)))
  (.block 3
    (.seq (.reg [⟨some 31, .move (.tmp 6), none⟩,
      ⟨some 32, .binOp .mul 3 (.const (.int .i64 2)) (.tmp 31) 3, none⟩,
      ⟨some 7, .assign (.const (.int .i64 0)), none⟩,
      ⟨some 8, .assign (.tmp 32), none⟩])
    (.seq (.block 4
      (.loop p149l1))
    (.seq (.seq (.reg [⟨some 49, .move (.tmp 7), none⟩,
      ⟨some 50, .move (.tmp 6), none⟩,
      ⟨some 51, .binOp .add 3 (.tmp 49) (.tmp 50) 3, none⟩,
      ⟨some 9, .assign (.tmp 51), none⟩])
    (.seq (.reg [⟨some 52, .move (.tmp 9), none⟩,
      ⟨some 53, .move (.tmp 1), none⟩,
      ⟨some 54, .binOp .lss 3 (.tmp 52) (.tmp 53) 3, none⟩])
    (.cond (.tmp 54)
      (.reg [⟨some 55, .move (.tmp 0), none⟩,
        ⟨some 56, .move (.tmp 7), none⟩,
        ⟨some 57, .move (.tmp 9), none⟩,
        ⟨some 58, .move (.tmp 1), none⟩,
        ⟨some 59, .move (.tmp 2), none⟩,
        ⟨some 60, .call ⟨.value (.func 161), #[(.tmp 55), (.tmp 56), (.tmp 57), (.tmp 58), (.tmp 59)], #[54, 3, 3, 3, 148]⟩, none⟩])
      .skip)))
    (.reg [⟨some 61, .move (.tmp 6), none⟩,
      ⟨some 62, .binOp .mul 3 (.tmp 61) (.const (.int .i64 2)) 3, none⟩,
      ⟨some 6, .assign (.tmp 62), none⟩]))))))
def p149 : PC :=
  (.seq (.reg [⟨some 6, .assign (.const (.int .i64 20)), none⟩])
  (.seq (.reg [⟨some 10, .move (.tmp 6), none⟩,
    ⟨some 7, .assign (.const (.int .i64 0)), none⟩,
    ⟨some 8, .assign (.tmp 10), none⟩])
  (.seq (.block 0
    (.loop p149l0))
  (.seq (.reg [⟨some 23, .move (.tmp 0), none⟩,
    ⟨some 24, .move (.tmp 7), none⟩,
    ⟨some 25, .move (.tmp 1), none⟩,
    ⟨some 26, .move (.tmp 2), none⟩,
    ⟨some 27, .call ⟨.value (.func 152), #[(.tmp 23), (.tmp 24), (.tmp 25), (.tmp 26)], #[54, 3, 3, 148]⟩, none⟩])
  (.block 2
    (.loop p149l2))))))
theorem c149 : f149.body.bind (comp f149.ntmps) = some p149 := by kernel_rfl
def p150 : PC :=
  (.seq (.reg [⟨some 2, .assign (.const (.bool false)), none⟩])
  (.seq (.reg [⟨some 3, .move (.tmp 0), none⟩,
    ⟨some 4, .move (.tmp 0), none⟩,
    ⟨some 5, .binOp .neq 3 (.tmp 3) (.tmp 4) 3, none⟩,
    ⟨some 2, .assign (.tmp 5), none⟩])
  .ret))
theorem c150 : f150.body.bind (comp f150.ntmps) = some p150 := by kernel_rfl
def p152l0 : PC :=
  (.seq (.seq (.draw [0, 0, 3, 7, 15, 15, 15, 111, 239, 15, 15, 1039, 3599, 7695, 16383, 32767, 65535] [⟨some 18, .move (.tmp 9), none⟩,
    ⟨some 19, .move (.tmp 1), none⟩,
    ⟨some 20, .binOp .gtr 3 (.tmp 18) (.tmp 19) 3, none⟩,
    ⟨some 21, .move (.tmp 20), none⟩,
    ⟨some 22, .move (.tmp 3), some ((some 21), true)⟩,
    ⟨some 23, .move (.tmp 0), some ((some 21), true)⟩,
    ⟨some 24, .move (.tmp 9), some ((some 21), true)⟩,
    ⟨some 25, .indexAddr 54 (.tmp 23) (.tmp 24), some ((some 21), true)⟩,
    ⟨some 26, .load 56 (.tmp 25), some ((some 21), true)⟩,
    ⟨some 27, .move (.tmp 0), some ((some 21), true)⟩,
    ⟨some 28, .move (.tmp 9), some ((some 21), true)⟩,
    ⟨some 29, .binOp .sub 3 (.tmp 28) (.const (.int .i64 1)) 3, some ((some 21), true)⟩,
    ⟨some 30, .indexAddr 54 (.tmp 27) (.tmp 29), some ((some 21), true)⟩,
    ⟨some 31, .load 56 (.tmp 30), some ((some 21), true)⟩]
    [⟨some 32, .call ⟨.value (.tmp 22), #[(.tmp 26), (.tmp 31)], #[56, 56]⟩, some ((some 21), true)⟩,
    ⟨some 33, .binOp .lss 3 (.tmp 32) (.const (.int .i64 0)) 3, some ((some 21), true)⟩,
    ⟨some 34, .pick (.tmp 21) (.tmp 33) (.const (.bool false)), none⟩])
  (.cond (.tmp 34)
    .skip
    (.exit 2)))
  (.seq (.block 3
    (.drawW [0, 0, 0, 0, 8, 0, 0, 64, 224, 480, 0, 0, 3072, 7168, 16355, 32739, 65535, 131071] [⟨some 37, .move (.tmp 0), none⟩,
      ⟨some 38, .move (.tmp 9), none⟩,
      ⟨some 39, .move (.tmp 0), none⟩,
      ⟨some 40, .move (.tmp 9), none⟩,
      ⟨some 41, .binOp .sub 3 (.tmp 40) (.const (.int .i64 1)) 3, none⟩,
      ⟨some 42, .move (.tmp 0), none⟩,
      ⟨some 43, .move (.tmp 9), none⟩,
      ⟨some 44, .binOp .sub 3 (.tmp 43) (.const (.int .i64 1)) 3, none⟩,
      ⟨some 45, .indexAddr 54 (.tmp 42) (.tmp 44), none⟩,
      ⟨some 46, .load 56 (.tmp 45), none⟩,
      ⟨some 47, .move (.tmp 0), none⟩,
      ⟨some 48, .move (.tmp 9), none⟩,
      ⟨some 49, .indexAddr 54 (.tmp 47) (.tmp 48), none⟩,
      ⟨some 50, .load 56 (.tmp 49), none⟩,
      ⟨some 51, .indexAddr 54 (.tmp 37) (.tmp 38), none⟩,
      ⟨none, .store 56 (.tmp 51) (.tmp 46), none⟩]
      [⟨some 52, .indexAddr 54 (.tmp 39) (.tmp 41), none⟩,
      ⟨none, .store 56 (.tmp 52) (.tmp 50), none⟩]))
  (.reg [⟨some 35, .move (.tmp 9), none⟩,
    ⟨some 36, .binOp .sub 3 (.tmp 35) (.const (.int .i64 1)) 3, none⟩,
    ⟨some 9, .assign (.tmp 36), none⟩])))
def p152l1 : PC :=
  (.seq (.seq (.reg [⟨some 12, .move (.tmp 8), none⟩,
    ⟨some 13, .move (.tmp 2), none⟩,
    ⟨some 14, .binOp .lss 3 (.tmp 12) (.tmp 13) 3, none⟩])
  (.cond (.tmp 14)
    .skip
    (.exit 0)))
  (.seq (.block 1
    (.seq (.reg [⟨some 17, .move (.tmp 8), none⟩,
      ⟨some 9, .assign (.tmp 17), none⟩])
    (.block 2
      (.loop p152l0))))
  (.reg [⟨some 15, .move (.tmp 8), none⟩,
    ⟨some 16, .binOp .add 3 (.tmp 15) (.const (.int .i64 1)) 3, none⟩,
    ⟨some 8, .assign (.tmp 16), none⟩])))
def p152 : PC :=
  (.seq (.reg [⟨some 10, .move (.tmp 1), none⟩,
    ⟨some 11, .binOp .add 3 (.tmp 10) (.const (.int .i64 1)) 3, none⟩,
    ⟨some 8, .assign (.tmp 11), none⟩])
  (.block 0
    (.loop p152l1)))
theorem c152 : f152.body.bind (comp f152.ntmps) = some p152 := by kernel_rfl
def p161l0 : PC :=
  (.seq (.seq (.reg [⟨some 31, .move (.tmp 10), none⟩,
    ⟨some 32, .move (.tmp 11), none⟩,
    ⟨some 33, .binOp .lss 3 (.tmp 31) (.tmp 32) 3, none⟩])
  (.cond (.tmp 33)
    .skip
    (.exit 0)))
  (.block 1
    (.seq (.reg [⟨some 34, .move (.tmp 10), none⟩,
      ⟨some 35, .move (.tmp 11), none⟩,
      ⟨some 36, .binOp .add 3 (.tmp 34) (.tmp 35) 3, none⟩,
      ⟨some 37, .convert 3 116 (.tmp 36), none⟩,
      ⟨some 38, .binOp .shr 116 (.tmp 37) (.const (.int .u64 1)) 116, none⟩,
      ⟨some 39, .convert 116 3 (.tmp 38), none⟩,
      ⟨some 12, .assign (.tmp 39), none⟩])
    (.seq (.draw [0, 0, 0, 6, 14, 0, 0, 96, 224, 511, 1023] [⟨some 40, .move (.tmp 4), none⟩,
      ⟨some 41, .move (.tmp 0), none⟩,
      ⟨some 42, .move (.tmp 12), none⟩,
      ⟨some 43, .indexAddr 54 (.tmp 41) (.tmp 42), none⟩,
      ⟨some 44, .load 56 (.tmp 43), none⟩,
      ⟨some 45, .move (.tmp 0), none⟩,
      ⟨some 46, .move (.tmp 1), none⟩,
      ⟨some 47, .indexAddr 54 (.tmp 45) (.tmp 46), none⟩,
      ⟨some 48, .load 56 (.tmp 47), none⟩]
      [⟨some 49, .call ⟨.value (.tmp 40), #[(.tmp 44), (.tmp 48)], #[56, 56]⟩, none⟩,
      ⟨some 50, .binOp .lss 3 (.tmp 49) (.const (.int .i64 0)) 3, none⟩])
    (.cond (.tmp 50)
      (.reg [⟨some 51, .move (.tmp 12), none⟩,
        ⟨some 52, .binOp .add 3 (.tmp 51) (.const (.int .i64 1)) 3, none⟩,
        ⟨some 10, .assign (.tmp 52), none⟩])
      (.reg [⟨some 53, .move (.tmp 12), none⟩,
        ⟨some 11, .assign (.tmp 53), none⟩]))))))
def p161l1 : PC :=
  (.seq (.seq (.reg [⟨some 55, .move (.tmp 13), none⟩,
    ⟨some 56, .move (.tmp 10), none⟩,
    ⟨some 57, .binOp .sub 3 (.tmp 56) (.const (.int .i64 1)) 3, none⟩,
    ⟨some 58, .binOp .lss 3 (.tmp 55) (.tmp 57) 3, none⟩])
  (.cond (.tmp 58)
    .skip
    (.exit 2)))
  (.seq (.block 3
    (.drawW [0, 0, 0, 0, 8, 0, 0, 64, 224, 480, 0, 0, 3072, 7168, 16355, 32739, 65535, 131071] [⟨some 61, .move (.tmp 0), none⟩,
      ⟨some 62, .move (.tmp 13), none⟩,
      ⟨some 63, .move (.tmp 0), none⟩,
      ⟨some 64, .move (.tmp 13), none⟩,
      ⟨some 65, .binOp .add 3 (.tmp 64) (.const (.int .i64 1)) 3, none⟩,
      ⟨some 66, .move (.tmp 0), none⟩,
      ⟨some 67, .move (.tmp 13), none⟩,
      ⟨some 68, .binOp .add 3 (.tmp 67) (.const (.int .i64 1)) 3, none⟩,
      ⟨some 69, .indexAddr 54 (.tmp 66) (.tmp 68), none⟩,
      ⟨some 70, .load 56 (.tmp 69), none⟩,
      ⟨some 71, .move (.tmp 0), none⟩,
      ⟨some 72, .move (.tmp 13), none⟩,
      ⟨some 73, .indexAddr 54 (.tmp 71) (.tmp 72), none⟩,
      ⟨some 74, .load 56 (.tmp 73), none⟩,
      ⟨some 75, .indexAddr 54 (.tmp 61) (.tmp 62), none⟩,
      ⟨none, .store 56 (.tmp 75) (.tmp 70), none⟩]
      [⟨some 76, .indexAddr 54 (.tmp 63) (.tmp 65), none⟩,
      ⟨none, .store 56 (.tmp 76) (.tmp 74), none⟩]))
  (.reg [⟨some 59, .move (.tmp 13), none⟩,
    ⟨some 60, .binOp .add 3 (.tmp 59) (.const (.int .i64 1)) 3, none⟩,
    ⟨some 13, .assign (.tmp 60), none⟩])))
def p161l2 : PC :=
  (.seq (.seq (.reg [⟨some 83, .move (.tmp 14), none⟩,
    ⟨some 84, .move (.tmp 15), none⟩,
    ⟨some 85, .binOp .lss 3 (.tmp 83) (.tmp 84) 3, none⟩])
  (.cond (.tmp 85)
    .skip
    (.exit 4)))
  (.block 5
    (.seq (.reg [⟨some 86, .move (.tmp 14), none⟩,
      ⟨some 87, .move (.tmp 15), none⟩,
      ⟨some 88, .binOp .add 3 (.tmp 86) (.tmp 87) 3, none⟩,
      ⟨some 89, .convert 3 116 (.tmp 88), none⟩,
      ⟨some 90, .binOp .shr 116 (.tmp 89) (.const (.int .u64 1)) 116, none⟩,
      ⟨some 91, .convert 116 3 (.tmp 90), none⟩,
      ⟨some 16, .assign (.tmp 91), none⟩])
    (.seq (.draw [0, 0, 0, 6, 14, 0, 0, 96, 224, 511, 1023, 2047] [⟨some 92, .move (.tmp 4), none⟩,
      ⟨some 93, .move (.tmp 0), none⟩,
      ⟨some 94, .move (.tmp 2), none⟩,
      ⟨some 95, .indexAddr 54 (.tmp 93) (.tmp 94), none⟩,
      ⟨some 96, .load 56 (.tmp 95), none⟩,
      ⟨some 97, .move (.tmp 0), none⟩,
      ⟨some 98, .move (.tmp 16), none⟩,
      ⟨some 99, .indexAddr 54 (.tmp 97) (.tmp 98), none⟩,
      ⟨some 100, .load 56 (.tmp 99), none⟩]
      [⟨some 101, .call ⟨.value (.tmp 92), #[(.tmp 96), (.tmp 100)], #[56, 56]⟩, none⟩,
      ⟨some 102, .binOp .lss 3 (.tmp 101) (.const (.int .i64 0)) 3, none⟩,
      ⟨some 103, .unOp .not 4 (.tmp 102), none⟩])
    (.cond (.tmp 103)
      (.reg [⟨some 104, .move (.tmp 16), none⟩,
        ⟨some 105, .binOp .add 3 (.tmp 104) (.const (.int .i64 1)) 3, none⟩,
        ⟨some 14, .assign (.tmp 105), none⟩])
      (.reg [⟨some 106, .move (.tmp 16), none⟩,
        ⟨some 15, .assign (.tmp 106), none⟩]))))))
def p161l3 : PC :=
  (.seq (.seq (.reg [⟨some 108, .move (.tmp 17), none⟩,
    ⟨some 109, .move (.tmp 14), none⟩,
    ⟨some 110, .binOp .gtr 3 (.tmp 108) (.tmp 109) 3, none⟩])
  (.cond (.tmp 110)
    .skip
    (.exit 6)))
  (.seq (.block 7
    (.drawW [0, 0, 0, 0, 8, 0, 0, 64, 224, 480, 0, 0, 3072, 7168, 16355, 32739, 65535, 131071] [⟨some 113, .move (.tmp 0), none⟩,
      ⟨some 114, .move (.tmp 17), none⟩,
      ⟨some 115, .move (.tmp 0), none⟩,
      ⟨some 116, .move (.tmp 17), none⟩,
      ⟨some 117, .binOp .sub 3 (.tmp 116) (.const (.int .i64 1)) 3, none⟩,
      ⟨some 118, .move (.tmp 0), none⟩,
      ⟨some 119, .move (.tmp 17), none⟩,
      ⟨some 120, .binOp .sub 3 (.tmp 119) (.const (.int .i64 1)) 3, none⟩,
      ⟨some 121, .indexAddr 54 (.tmp 118) (.tmp 120), none⟩,
      ⟨some 122, .load 56 (.tmp 121), none⟩,
      ⟨some 123, .move (.tmp 0), none⟩,
      ⟨some 124, .move (.tmp 17), none⟩,
      ⟨some 125, .indexAddr 54 (.tmp 123) (.tmp 124), none⟩,
      ⟨some 126, .load 56 (.tmp 125), none⟩,
      ⟨some 127, .indexAddr 54 (.tmp 113) (.tmp 114), none⟩,
      ⟨none, .store 56 (.tmp 127) (.tmp 122), none⟩]
      [⟨some 128, .indexAddr 54 (.tmp 115) (.tmp 117), none⟩,
      ⟨none, .store 56 (.tmp 128) (.tmp 126), none⟩]))
  (.reg [⟨some 111, .move (.tmp 17), none⟩,
    ⟨some 112, .binOp .sub 3 (.tmp 111) (.const (.int .i64 1)) 3, none⟩,
    ⟨some 17, .assign (.tmp 112), none⟩])))
def p161l4 : PC :=
  (.seq (.seq (.reg [⟨some 149, .move (.tmp 20), none⟩,
    ⟨some 150, .move (.tmp 21), none⟩,
    ⟨some 151, .binOp .lss 3 (.tmp 149) (.tmp 150) 3, none⟩])
  (.cond (.tmp 151)
    .skip
    (.exit 8)))
  (.block 9
    (.seq (.reg [⟨some 152, .move (.tmp 20), none⟩,
      ⟨some 153, .move (.tmp 21), none⟩,
      ⟨some 154, .binOp .add 3 (.tmp 152) (.tmp 153) 3, none⟩,
      ⟨some 155, .convert 3 116 (.tmp 154), none⟩,
      ⟨some 156, .binOp .shr 116 (.tmp 155) (.const (.int .u64 1)) 116, none⟩,
      ⟨some 157, .convert 116 3 (.tmp 156), none⟩,
      ⟨some 23, .assign (.tmp 157), none⟩])
    (.seq (.draw [0, 0, 0, 0, 12, 30, 62, 0, 0, 384, 896, 2047, 4095, 8191] [⟨some 158, .move (.tmp 4), none⟩,
      ⟨some 159, .move (.tmp 0), none⟩,
      ⟨some 160, .move (.tmp 22), none⟩,
      ⟨some 161, .move (.tmp 23), none⟩,
      ⟨some 162, .binOp .sub 3 (.tmp 160) (.tmp 161) 3, none⟩,
      ⟨some 163, .indexAddr 54 (.tmp 159) (.tmp 162), none⟩,
      ⟨some 164, .load 56 (.tmp 163), none⟩,
      ⟨some 165, .move (.tmp 0), none⟩,
      ⟨some 166, .move (.tmp 23), none⟩,
      ⟨some 167, .indexAddr 54 (.tmp 165) (.tmp 166), none⟩,
      ⟨some 168, .load 56 (.tmp 167), none⟩]
      [⟨some 169, .call ⟨.value (.tmp 158), #[(.tmp 164), (.tmp 168)], #[56, 56]⟩, none⟩,
      ⟨some 170, .binOp .lss 3 (.tmp 169) (.const (.int .i64 0)) 3, none⟩,
      ⟨some 171, .unOp .not 4 (.tmp 170), none⟩])
    (.cond (.tmp 171)
      (.reg [⟨some 172, .move (.tmp 23), none⟩,
        ⟨some 173, .binOp .add 3 (.tmp 172) (.const (.int .i64 1)) 3, none⟩,
        ⟨some 20, .assign (.tmp 173), none⟩])
      (.reg [⟨some 174, .move (.tmp 23), none⟩,
        ⟨some 21, .assign (.tmp 174), none⟩]))))))
def p161 : PC :=
  (.seq (.seq (.reg [⟨some 25, .move (.tmp 2), none⟩,
    ⟨some 26, .move (.tmp 1), none⟩,
    ⟨some 27, .binOp .sub 3 (.tmp 25) (.tmp 26) 3, none⟩,
    ⟨some 28, .binOp .eql 3 (.tmp 27) (.const (.int .i64 1)) 3, none⟩])
  (.cond (.tmp 28)
    (.seq (.reg [⟨some 29, .move (.tmp 2), none⟩,
      ⟨some 10, .assign (.tmp 29), none⟩])
    (.seq (.reg [⟨some 30, .move (.tmp 3), none⟩,
      ⟨some 11, .assign (.tmp 30), none⟩])
    (.seq (.block 0
      (.loop p161l0))
    (.seq (.seq (.reg [⟨some 54, .move (.tmp 1), none⟩,
      ⟨some 13, .assign (.tmp 54), none⟩])
    (.block 2
      (.loop p161l1)))
    .ret))))
    .skip))
  (.seq (.seq (.reg [⟨some 77, .move (.tmp 3), none⟩,
    ⟨some 78, .move (.tmp 2), none⟩,
    ⟨some 79, .binOp .sub 3 (.tmp 77) (.tmp 78) 3, none⟩,
    ⟨some 80, .binOp .eql 3 (.tmp 79) (.const (.int .i64 1)) 3, none⟩])
  (.cond (.tmp 80)
    (.seq (.reg [⟨some 81, .move (.tmp 1), none⟩,
      ⟨some 14, .assign (.tmp 81), none⟩])
    (.seq (.reg [⟨some 82, .move (.tmp 2), none⟩,
      ⟨some 15, .assign (.tmp 82), none⟩])
    (.seq (.block 4
      (.loop p161l2))
    (.seq (.seq (.reg [⟨some 107, .move (.tmp 2), none⟩,
      ⟨some 17, .assign (.tmp 107), none⟩])
    (.block 6
      (.loop p161l3)))
    .ret))))
    .skip))
  (.seq (.reg [⟨some 129, .move (.tmp 1), none⟩,
    ⟨some 130, .move (.tmp 3), none⟩,
    ⟨some 131, .binOp .add 3 (.tmp 129) (.tmp 130) 3, none⟩,
    ⟨some 132, .convert 3 116 (.tmp 131), none⟩,
    ⟨some 133, .binOp .shr 116 (.tmp 132) (.const (.int .u64 1)) 116, none⟩,
    ⟨some 134, .convert 116 3 (.tmp 133), none⟩,
    ⟨some 18, .assign (.tmp 134), none⟩])
  (.seq (.reg [⟨some 135, .move (.tmp 18), none⟩,
    ⟨some 136, .move (.tmp 2), none⟩,
    ⟨some 137, .binOp .add 3 (.tmp 135) (.tmp 136) 3, none⟩,
    ⟨some 19, .assign (.tmp 137), none⟩])
  (.seq (.reg [⟨some 20, .assign (.const (.int .i64 0)), none⟩,
    ⟨some 21, .assign (.const (.int .i64 0)), none⟩])
  (.seq (.seq (.reg [⟨some 138, .move (.tmp 2), none⟩,
    ⟨some 139, .move (.tmp 18), none⟩,
    ⟨some 140, .binOp .gtr 3 (.tmp 138) (.tmp 139) 3, none⟩])
  (.cond (.tmp 140)
    (.seq (.reg [⟨some 141, .move (.tmp 19), none⟩,
      ⟨some 142, .move (.tmp 3), none⟩,
      ⟨some 143, .binOp .sub 3 (.tmp 141) (.tmp 142) 3, none⟩,
      ⟨some 20, .assign (.tmp 143), none⟩])
    (.reg [⟨some 144, .move (.tmp 18), none⟩,
      ⟨some 21, .assign (.tmp 144), none⟩]))
    (.seq (.reg [⟨some 145, .move (.tmp 1), none⟩,
      ⟨some 20, .assign (.tmp 145), none⟩])
    (.reg [⟨some 146, .move (.tmp 2), none⟩,
      ⟨some 21, .assign (.tmp 146), none⟩]))))
  (.seq (.reg [⟨some 147, .move (.tmp 19), none⟩,
    ⟨some 148, .binOp .sub 3 (.tmp 147) (.const (.int .i64 1)) 3, none⟩,
    ⟨some 22, .assign (.tmp 148), none⟩])
  (.seq (.block 8
    (.loop p161l4))
  (.seq (.reg [⟨some 175, .move (.tmp 19), none⟩,
    ⟨some 176, .move (.tmp 20), none⟩,
    ⟨some 177, .binOp .sub 3 (.tmp 175) (.tmp 176) 3, none⟩,
    ⟨some 24, .assign (.tmp 177), none⟩])
  (.seq (.seq (.reg [⟨some 178, .move (.tmp 20), none⟩,
    ⟨some 179, .move (.tmp 2), none⟩,
    ⟨some 180, .binOp .lss 3 (.tmp 178) (.tmp 179) 3, none⟩,
    ⟨some 181, .move (.tmp 180), none⟩,
    ⟨some 182, .move (.tmp 2), some ((some 181), true)⟩,
    ⟨some 183, .move (.tmp 24), some ((some 181), true)⟩,
    ⟨some 184, .binOp .lss 3 (.tmp 182) (.tmp 183) 3, some ((some 181), true)⟩,
    ⟨some 185, .pick (.tmp 181) (.tmp 184) (.const (.bool false)), none⟩])
  (.cond (.tmp 185)
    (.reg [⟨some 186, .move (.tmp 0), none⟩,
      ⟨some 187, .move (.tmp 20), none⟩,
      ⟨some 188, .move (.tmp 2), none⟩,
      ⟨some 189, .move (.tmp 24), none⟩,
      ⟨some 190, .move (.tmp 4), none⟩,
      ⟨some 191, .call ⟨.value (.func 167), #[(.tmp 186), (.tmp 187), (.tmp 188), (.tmp 189), (.tmp 190)], #[54, 3, 3, 3, 148]⟩, none⟩])
    .skip))
  (.seq (.seq (.reg [⟨some 192, .move (.tmp 1), none⟩,
    ⟨some 193, .move (.tmp 20), none⟩,
    ⟨some 194, .binOp .lss 3 (.tmp 192) (.tmp 193) 3, none⟩,
    ⟨some 195, .move (.tmp 194), none⟩,
    ⟨some 196, .move (.tmp 20), some ((some 195), true)⟩,
    ⟨some 197, .move (.tmp 18), some ((some 195), true)⟩,
    ⟨some 198, .binOp .lss 3 (.tmp 196) (.tmp 197) 3, some ((some 195), true)⟩,
    ⟨some 199, .pick (.tmp 195) (.tmp 198) (.const (.bool false)), none⟩])
  (.cond (.tmp 199)
    (.reg [⟨some 200, .move (.tmp 0), none⟩,
      ⟨some 201, .move (.tmp 1), none⟩,
      ⟨some 202, .move (.tmp 20), none⟩,
      ⟨some 203, .move (.tmp 18), none⟩,
      ⟨some 204, .move (.tmp 4), none⟩,
      ⟨some 205, .call ⟨.value (.func 161), #[(.tmp 200), (.tmp 201), (.tmp 202), (.tmp 203), (.tmp 204)], #[54, 3, 3, 3, 148]⟩, none⟩])
    .skip))
  (.seq (.reg [⟨some 206, .move (.tmp 18), none⟩,
    ⟨some 207, .move (.tmp 24), none⟩,
    ⟨some 208, .binOp .lss 3 (.tmp 206) (.tmp 207) 3, none⟩,
    ⟨some 209, .move (.tmp 208), none⟩,
    ⟨some 210, .move (.tmp 24), some ((some 209), true)⟩,
    ⟨some 211, .move (.tmp 3), some ((some 209), true)⟩,
    ⟨some 212, .binOp .lss 3 (.tmp 210) (.tmp 211) 3, some ((some 209), true)⟩,
    ⟨some 213, .pick (.tmp 209) (.tmp 212) (.const (.bool false)), none⟩])
  (.cond (.tmp 213)
    (.reg [⟨some 214, .move (.tmp 0), none⟩,
      ⟨some 215, .move (.tmp 18), none⟩,
      ⟨some 216, .move (.tmp 24), none⟩,
      ⟨some 217, .move (.tmp 3), none⟩,
      ⟨some 218, .move (.tmp 4), none⟩,
      ⟨some 219, .call ⟨.value (.func 161), #[(.tmp 214), (.tmp 215), (.tmp 216), (.tmp 217), (.tmp 218)], #[54, 3, 3, 3, 148]⟩, none⟩])
    .skip)))))))))))))
theorem c161 : f161.body.bind (comp f161.ntmps) = some p161 := by kernel_rfl
def p167l0 : PC :=
  (.seq (.seq (.reg [⟨some 18, .move (.tmp 10), none⟩,
    ⟨some 19, .move (.tmp 11), none⟩,
    ⟨some 20, .binOp .neq 3 (.tmp 18) (.tmp 19) 3, none⟩])
  (.cond (.tmp 20)
    .skip
    (.exit 0)))
  (.block 1
    (.seq (.reg [⟨some 21, .move (.tmp 10), none⟩,
      ⟨some 22, .move (.tmp 11), none⟩,
      ⟨some 23, .binOp .gtr 3 (.tmp 21) (.tmp 22) 3, none⟩])
    (.cond (.tmp 23)
      (.seq (.reg [⟨some 24, .move (.tmp 0), none⟩,
        ⟨some 25, .move (.tmp 2), none⟩,
        ⟨some 26, .move (.tmp 10), none⟩,
        ⟨some 27, .binOp .sub 3 (.tmp 25) (.tmp 26) 3, none⟩,
        ⟨some 28, .move (.tmp 2), none⟩,
        ⟨some 29, .move (.tmp 11), none⟩,
        ⟨some 30, .move (.tmp 4), none⟩,
        ⟨some 31, .call ⟨.value (.func 169), #[(.tmp 24), (.tmp 27), (.tmp 28), (.tmp 29), (.tmp 30)], #[54, 3, 3, 3, 148]⟩, none⟩])
      (.reg [⟨some 32, .move (.tmp 10), none⟩,
        ⟨some 33, .move (.tmp 11), none⟩,
        ⟨some 34, .binOp .sub 3 (.tmp 32) (.tmp 33) 3, none⟩,
        ⟨some 10, .assign (.tmp 34), none⟩]))
      (.seq (.reg [⟨some 35, .move (.tmp 0), none⟩,
        ⟨some 36, .move (.tmp 2), none⟩,
        ⟨some 37, .move (.tmp 10), none⟩,
        ⟨some 38, .binOp .sub 3 (.tmp 36) (.tmp 37) 3, none⟩,
        ⟨some 39, .move (.tmp 2), none⟩,
        ⟨some 40, .move (.tmp 11), none⟩,
        ⟨some 41, .binOp .add 3 (.tmp 39) (.tmp 40) 3, none⟩,
        ⟨some 42, .move (.tmp 10), none⟩,
        ⟨some 43, .binOp .sub 3 (.tmp 41) (.tmp 42) 3, none⟩,
        ⟨some 44, .move (.tmp 10), none⟩,
        ⟨some 45, .move (.tmp 4), none⟩,
        ⟨some 46, .call ⟨.value (.func 169), #[(.tmp 35), (.tmp 38), (.tmp 43), (.tmp 44), (.tmp 45)], #[54, 3, 3, 3, 148]⟩, none⟩])
      (.reg [⟨some 47, .move (.tmp 11), none⟩,
        ⟨some 48, .move (.tmp 10), none⟩,
        ⟨some 49, .binOp .sub 3 (.tmp 47) (.tmp 48) 3, none⟩,
        ⟨some 11, .assign (.tmp 49), none⟩]))))))
def p167 : PC :=
  (.seq (.reg [⟨some 12, .move (.tmp 2), none⟩,
    ⟨some 13, .move (.tmp 1), none⟩,
    ⟨some 14, .binOp .sub 3 (.tmp 12) (.tmp 13) 3, none⟩,
    ⟨some 10, .assign (.tmp 14), none⟩])
  (.seq (.reg [⟨some 15, .move (.tmp 3), none⟩,
    ⟨some 16, .move (.tmp 2), none⟩,
    ⟨some 17, .binOp .sub 3 (.tmp 15) (.tmp 16) 3, none⟩,
    ⟨some 11, .assign (.tmp 17), none⟩])
  (.seq (.block 0
    (.loop p167l0))
  (.reg [⟨some 50, .move (.tmp 0), none⟩,
    ⟨some 51, .move (.tmp 2), none⟩,
    ⟨some 52, .move (.tmp 10), none⟩,
    ⟨some 53, .binOp .sub 3 (.tmp 51) (.tmp 52) 3, none⟩,
    ⟨some 54, .move (.tmp 2), none⟩,
    ⟨some 55, .move (.tmp 10), none⟩,
    ⟨some 56, .move (.tmp 4), none⟩,
    ⟨some 57, .call ⟨.value (.func 169), #[(.tmp 50), (.tmp 53), (.tmp 54), (.tmp 55), (.tmp 56)], #[54, 3, 3, 3, 148]⟩, none⟩]))))
theorem c167 : f167.body.bind (comp f167.ntmps) = some p167 := by kernel_rfl
def p169l0 : PC :=
  (.seq (.seq (.reg [⟨some 11, .move (.tmp 10), none⟩,
    ⟨some 12, .move (.tmp 3), none⟩,
    ⟨some 13, .binOp .lss 3 (.tmp 11) (.tmp 12) 3, none⟩])
  (.cond (.tmp 13)
    .skip
    (.exit 0)))
  (.seq (.block 1
    (.drawW [0, 0, 0, 6, 0, 0, 0, 96, 0, 0, 0, 1536, 3840, 7936, 0, 0, 0, 98304, 245760, 507904, 1048335, 2096911, 4194303, 8388607] [⟨some 16, .move (.tmp 0), none⟩,
      ⟨some 17, .move (.tmp 1), none⟩,
      ⟨some 18, .move (.tmp 10), none⟩,
      ⟨some 19, .binOp .add 3 (.tmp 17) (.tmp 18) 3, none⟩,
      ⟨some 20, .move (.tmp 0), none⟩,
      ⟨some 21, .move (.tmp 2), none⟩,
      ⟨some 22, .move (.tmp 10), none⟩,
      ⟨some 23, .binOp .add 3 (.tmp 21) (.tmp 22) 3, none⟩,
      ⟨some 24, .move (.tmp 0), none⟩,
      ⟨some 25, .move (.tmp 2), none⟩,
      ⟨some 26, .move (.tmp 10), none⟩,
      ⟨some 27, .binOp .add 3 (.tmp 25) (.tmp 26) 3, none⟩,
      ⟨some 28, .indexAddr 54 (.tmp 24) (.tmp 27), none⟩,
      ⟨some 29, .load 56 (.tmp 28), none⟩,
      ⟨some 30, .move (.tmp 0), none⟩,
      ⟨some 31, .move (.tmp 1), none⟩,
      ⟨some 32, .move (.tmp 10), none⟩,
      ⟨some 33, .binOp .add 3 (.tmp 31) (.tmp 32) 3, none⟩,
      ⟨some 34, .indexAddr 54 (.tmp 30) (.tmp 33), none⟩,
      ⟨some 35, .load 56 (.tmp 34), none⟩,
      ⟨some 36, .indexAddr 54 (.tmp 16) (.tmp 19), none⟩,
      ⟨none, .store 56 (.tmp 36) (.tmp 29), none⟩]
      [⟨some 37, .indexAddr 54 (.tmp 20) (.tmp 23), none⟩,
      ⟨none, .store 56 (.tmp 37) (.tmp 35), none⟩]))
  (.reg [⟨some 14, .move (.tmp 10), none⟩,
    ⟨some 15, .binOp .add 3 (.tmp 14) (.const (.int .i64 1)) 3, none⟩,
    ⟨some 10, .assign (.tmp 15), none⟩])))
def p169 : PC :=
  (.seq (.reg [⟨some 10, .assign (.const (.int .i64 0)), none⟩])
  (.block 0
    (.loop p169l0)))
theorem c169 : f169.body.bind (comp f169.ntmps) = some p169 := by kernel_rfl
end Go.Proofs.Try
