/- The functions in computed form, printed by a program of ours out of the translation, each with the kernel's word that it is that form. Conditions: none. -/
import Derived.Test.YtaedloehfgmcnaaPa
import Derived.Test.YtaedloehfgmcnaaProg
namespace Go.Proofs.Try
open Go.Psl
def p48 : PC :=
  (.seq (.reg [⟨some 2, .assign (.const (.bool false)), none⟩])
  (.seq (.reg [⟨some 3, .move (.tmp 0), none⟩,
    ⟨some 4, .call ⟨.builtin .len, #[(.tmp 3)], #[54]⟩, none⟩,
    ⟨some 5, .binOp .gtr 3 (.tmp 4) (.const (.int .i64 80)) 3, none⟩,
    ⟨some 2, .assign (.tmp 5), none⟩])
  .ret))
theorem c48 : f48.body.bind (comp f48.ntmps) = some p48 := by kernel_rfl

def p50 : PC :=
  (.seq (.reg [⟨some 2, .assign (.const (.slice none 0 0)), none⟩,
    ⟨some 3, .assign (.const (.int .i64 0)), none⟩])
  (.seq (.seq (.reg [⟨some 4, .move (.tmp 0), none⟩,
    ⟨some 5, .call ⟨.builtin .len, #[(.tmp 4)], #[54]⟩, none⟩,
    ⟨some 6, .binOp .gtr 3 (.tmp 5) (.const (.int .i64 64)) 3, none⟩])
  (.cond (.tmp 6)
    (.seq (.reg [⟨some 2, .assign (.const (.slice none 0 0)), none⟩,
      ⟨some 3, .assign (.const (.int .i64 4)), none⟩])
    .ret)
    .skip))
  (.seq (.seq (.reg [⟨some 7, .move (.tmp 0), none⟩,
    ⟨some 8, .call ⟨.builtin .len, #[(.tmp 7)], #[54]⟩, none⟩,
    ⟨some 9, .binOp .eql 3 (.tmp 8) (.const (.int .i64 0)) 3, none⟩,
    ⟨some 10, .move (.tmp 9), none⟩,
    ⟨some 11, .move (.tmp 0), some ((some 10), false)⟩,
    ⟨some 12, .call ⟨.value (.func 94), #[(.tmp 11)], #[54]⟩, some ((some 10), false)⟩,
    ⟨some 13, .unOp .not 4 (.tmp 12), some ((some 10), false)⟩,
    ⟨some 14, .pick (.tmp 10) (.const (.bool true)) (.tmp 13), none⟩])
  (.cond (.tmp 14)
    (.seq (.reg [⟨some 2, .assign (.const (.slice none 0 0)), none⟩,
      ⟨some 3, .assign (.const (.int .i64 2)), none⟩])
    .ret)
    .skip))
  (.seq (.reg [⟨some 15, .move (.tmp 0), none⟩,
    ⟨some 16, .call ⟨.value (.func 95), #[(.tmp 15)], #[54]⟩, none⟩,
    ⟨some 2, .assign (.tmp 16), none⟩,
    ⟨some 3, .assign (.const (.int .i64 0)), none⟩])
  .ret))))
theorem c50 : f50.body.bind (comp f50.ntmps) = some p50 := by kernel_rfl

def p51 : PC :=
  (.seq (.reg [⟨some 3, .box 56 (.tmp 1), none⟩,
    ⟨some 4, .assign (.const (.bool false)), none⟩,
    ⟨some 5, .assign (.const (.int .i64 0)), none⟩])
  (.seq (.seq (.reg [⟨some 7, .move (.tmp 0), none⟩,
    ⟨some 8, .call ⟨.value (.func 55), #[(.tmp 7)], #[54]⟩, none⟩,
    ⟨some 6, .assign (.tmp 8), none⟩])
  (.seq (.reg [⟨some 9, .move (.tmp 6), none⟩,
    ⟨some 10, .binOp .neq 25 (.tmp 9) (.const (.int .i64 0)) 25, none⟩])
  (.cond (.tmp 10)
    (.seq (.reg [⟨some 11, .move (.tmp 6), none⟩,
      ⟨some 4, .assign (.const (.bool false)), none⟩,
      ⟨some 5, .assign (.tmp 11), none⟩])
    .ret)
    .skip)))
  (.seq (.reg [⟨some 12, .load 56 (.tmp 3), none⟩,
    ⟨some 13, .buildSlice 54 1 #[(0, (.tmp 12))], none⟩,
    ⟨some 14, .call ⟨.value (.func 92), #[(.tmp 13)], #[54]⟩, none⟩,
    ⟨some 15, .move (.tmp 14), none⟩,
    ⟨some 16, .move (.tmp 0), some ((some 15), true)⟩,
    ⟨some 17, .load 56 (.tmp 3), some ((some 15), true)⟩,
    ⟨some 18, .call ⟨.value (.func 96), #[(.tmp 16), (.tmp 17)], #[54, 56]⟩, some ((some 15), true)⟩,
    ⟨some 19, .pick (.tmp 15) (.tmp 18) (.const (.bool false)), none⟩,
    ⟨some 4, .assign (.tmp 19), none⟩,
    ⟨some 5, .assign (.const (.int .i64 0)), none⟩])
  .ret)))
theorem c51 : f51.body.bind (comp f51.ntmps) = some p51 := by kernel_rfl

def p52 : PC :=
  (.seq (.reg [⟨some 3, .box 56 (.tmp 1), none⟩,
    ⟨some 4, .assign (.const (.bool false)), none⟩,
    ⟨some 5, .assign (.const (.int .i64 0)), none⟩])
  (.seq (.seq (.reg [⟨some 6, .move (.tmp 0), none⟩,
    ⟨some 7, .call ⟨.value (.func 67), #[(.tmp 6)], #[54]⟩, none⟩,
    ⟨some 8, .unOp .not 4 (.tmp 7), none⟩])
  (.cond (.tmp 8)
    (.seq (.reg [⟨some 4, .assign (.const (.bool false)), none⟩,
      ⟨some 5, .assign (.const (.int .i64 14)), none⟩])
    .ret)
    .skip))
  (.seq (.reg [⟨some 9, .load 56 (.tmp 3), none⟩,
    ⟨some 10, .buildSlice 54 1 #[(0, (.tmp 9))], none⟩,
    ⟨some 11, .call ⟨.value (.func 94), #[(.tmp 10)], #[54]⟩, none⟩,
    ⟨some 12, .move (.tmp 11), none⟩,
    ⟨some 13, .move (.tmp 0), some ((some 12), true)⟩,
    ⟨some 14, .load 56 (.tmp 3), some ((some 12), true)⟩,
    ⟨some 15, .call ⟨.value (.func 97), #[(.tmp 13), (.tmp 14)], #[54, 56]⟩, some ((some 12), true)⟩,
    ⟨some 16, .pick (.tmp 12) (.tmp 15) (.const (.bool false)), none⟩,
    ⟨some 4, .assign (.tmp 16), none⟩,
    ⟨some 5, .assign (.const (.int .i64 0)), none⟩])
  .ret)))
theorem c52 : f52.body.bind (comp f52.ntmps) = some p52 := by kernel_rfl

def p53 : PC :=
  (.seq (.reg [⟨some 3, .box 54 (.tmp 1), none⟩,
    ⟨some 4, .assign (.const (.bool false)), none⟩,
    ⟨some 5, .assign (.const (.int .i64 0)), none⟩])
  (.seq (.seq (.reg [⟨some 7, .move (.tmp 0), none⟩,
    ⟨some 8, .load 54 (.tmp 3), none⟩,
    ⟨some 9, .buildSlice 154 2 #[(0, (.tmp 7)), (1, (.tmp 8))], none⟩,
    ⟨some 10, .call ⟨.value (.func 98), #[(.tmp 9)], #[154]⟩, none⟩,
    ⟨some 6, .assign (.tmp 10), none⟩])
  (.seq (.reg [⟨some 11, .move (.tmp 6), none⟩,
    ⟨some 12, .binOp .neq 25 (.tmp 11) (.const (.int .i64 0)) 25, none⟩])
  (.cond (.tmp 12)
    (.seq (.reg [⟨some 13, .move (.tmp 6), none⟩,
      ⟨some 4, .assign (.const (.bool false)), none⟩,
      ⟨some 5, .assign (.tmp 13), none⟩])
    .ret)
    .skip)))
  (.seq (.reg [⟨some 14, .move (.tmp 0), none⟩,
    ⟨some 15, .makeFunc (.func 100) #[] #[(.tmp 3)], none⟩,
    ⟨some 16, .call ⟨.value (.func 99), #[(.tmp 14), (.tmp 15)], #[54, 124]⟩, none⟩,
    ⟨some 17, .unOp .not 4 (.tmp 16), none⟩,
    ⟨some 4, .assign (.tmp 17), none⟩,
    ⟨some 5, .assign (.const (.int .i64 0)), none⟩])
  .ret)))
theorem c53 : f53.body.bind (comp f53.ntmps) = some p53 := by kernel_rfl

def p54l0 : PC :=
  (.seq (.seq (.reg [⟨some 15, .move (.tmp 6), none⟩,
    ⟨some 16, .move (.tmp 0), none⟩,
    ⟨some 17, .call ⟨.builtin .len, #[(.tmp 16)], #[54]⟩, none⟩,
    ⟨some 18, .binOp .lss 3 (.tmp 15) (.tmp 17) 3, none⟩])
  (.cond (.tmp 18)
    .skip
    (.exit 0)))
  (.seq (.block 1
    (.seq (.reg [⟨some 21, .move (.tmp 1), none⟩,
      ⟨some 22, .move (.tmp 0), none⟩,
      ⟨some 23, .move (.tmp 6), none⟩,
      ⟨some 24, .indexAddr 54 (.tmp 22) (.tmp 23), none⟩,
      ⟨some 25, .load 56 (.tmp 24), none⟩,
      ⟨some 26, .call ⟨.value (.func 97), #[(.tmp 21), (.tmp 25)], #[54, 56]⟩, none⟩,
      ⟨some 27, .unOp .not 4 (.tmp 26), none⟩])
    (.cond (.tmp 27)
      (.seq (.reg [⟨some 4, .assign (.const (.bool false)), none⟩,
        ⟨some 5, .assign (.const (.int .i64 0)), none⟩])
      .ret)
      .skip)))
  (.reg [⟨some 19, .move (.tmp 6), none⟩,
    ⟨some 20, .binOp .add 3 (.tmp 19) (.const (.int .i64 1)) 3, none⟩,
    ⟨some 6, .assign (.tmp 20), none⟩])))
def p54 : PC :=
  (.seq (.reg [⟨some 4, .assign (.const (.bool false)), none⟩,
    ⟨some 5, .assign (.const (.int .i64 0)), none⟩])
  (.seq (.seq (.reg [⟨some 7, .move (.tmp 0), none⟩,
    ⟨some 8, .call ⟨.value (.func 67), #[(.tmp 7)], #[54]⟩, none⟩,
    ⟨some 9, .unOp .not 4 (.tmp 8), none⟩,
    ⟨some 10, .move (.tmp 9), none⟩,
    ⟨some 11, .move (.tmp 1), some ((some 10), false)⟩,
    ⟨some 12, .call ⟨.value (.func 67), #[(.tmp 11)], #[54]⟩, some ((some 10), false)⟩,
    ⟨some 13, .unOp .not 4 (.tmp 12), some ((some 10), false)⟩,
    ⟨some 14, .pick (.tmp 10) (.const (.bool true)) (.tmp 13), none⟩])
  (.cond (.tmp 14)
    (.seq (.reg [⟨some 4, .assign (.const (.bool false)), none⟩,
      ⟨some 5, .assign (.const (.int .i64 14)), none⟩])
    .ret)
    .skip))
  (.seq (.seq (.reg [⟨some 6, .assign (.const (.int .i64 0)), none⟩])
  (.block 0
    (.loop p54l0)))
  (.seq (.reg [⟨some 4, .assign (.const (.bool true)), none⟩,
    ⟨some 5, .assign (.const (.int .i64 0)), none⟩])
  .ret))))
theorem c54 : f54.body.bind (comp f54.ntmps) = some p54 := by kernel_rfl

def p56 : PC :=
  (.seq (.reg [⟨some 2, .assign (.const (.int .i64 0)), none⟩])
  (.seq (.seq (.reg [⟨some 3, .move (.tmp 0), none⟩,
    ⟨some 4, .call ⟨.value (.func 67), #[(.tmp 3)], #[54]⟩, none⟩,
    ⟨some 5, .unOp .not 4 (.tmp 4), none⟩])
  (.cond (.tmp 5)
    (.seq (.reg [⟨some 2, .assign (.const (.int .i64 14)), none⟩])
    .ret)
    .skip))
  (.seq (.reg [⟨some 2, .assign (.const (.int .i64 0)), none⟩])
  .ret)))
theorem c56 : f56.body.bind (comp f56.ntmps) = some p56 := by kernel_rfl

def p64 : PC :=
  (.seq (.reg [⟨some 8, .assign (.const (.bool false)), none⟩,
    ⟨some 9, .assign (.const (.int .i64 0)), none⟩])
  (.seq (.seq (.reg [⟨some 11, .move (.tmp 0), none⟩,
    ⟨some 12, .move (.tmp 1), none⟩,
    ⟨some 13, .buildSlice 154 2 #[(0, (.tmp 11)), (1, (.tmp 12))], none⟩,
    ⟨some 14, .call ⟨.value (.func 98), #[(.tmp 13)], #[154]⟩, none⟩,
    ⟨some 10, .assign (.tmp 14), none⟩])
  (.seq (.reg [⟨some 15, .move (.tmp 10), none⟩,
    ⟨some 16, .binOp .neq 25 (.tmp 15) (.const (.int .i64 0)) 25, none⟩])
  (.cond (.tmp 16)
    (.seq (.reg [⟨some 17, .move (.tmp 10), none⟩,
      ⟨some 8, .assign (.const (.bool false)), none⟩,
      ⟨some 9, .assign (.tmp 17), none⟩])
    .ret)
    .skip)))
  (.seq (.seq (.reg [⟨some 18, .move (.tmp 2), none⟩,
    ⟨some 19, .move (.tmp 3), none⟩,
    ⟨some 20, .call ⟨.value (.func 102), #[(.tmp 18), (.tmp 19)], #[3, 3]⟩, none⟩,
    ⟨some 21, .unOp .not 4 (.tmp 20), none⟩])
  (.cond (.tmp 21)
    (.seq (.reg [⟨some 8, .assign (.const (.bool false)), none⟩,
      ⟨some 9, .assign (.const (.int .i64 2)), none⟩])
    .ret)
    .skip))
  (.seq (.reg [⟨some 22, .move (.tmp 0), none⟩,
    ⟨some 23, .move (.tmp 1), none⟩,
    ⟨some 24, .move (.tmp 2), none⟩,
    ⟨some 25, .move (.tmp 3), none⟩,
    ⟨some 26, .call ⟨.value (.func 107), #[(.tmp 22), (.tmp 23), (.tmp 24), (.tmp 25)], #[54, 54, 3, 3]⟩, none⟩,
    ⟨some 8, .assign (.tmp 26), none⟩,
    ⟨some 9, .assign (.const (.int .i64 0)), none⟩])
  .ret))))
theorem c64 : f64.body.bind (comp f64.ntmps) = some p64 := by kernel_rfl

def p66l0 : PC :=
  (.seq (.reg [⟨some 28, .binOp .lss 3 (.tmp 27) (.tmp 26) 3, none⟩])
  (.seq (.cond (.tmp 28)
    .skip
    (.exit 0))
  (.seq (.block 1
    (.seq (.reg [⟨some 29, .indexAddr 54 (.tmp 25) (.tmp 27), none⟩,
      ⟨some 30, .load 56 (.tmp 29), none⟩,
      ⟨some 10, .alloc 56, none⟩,
      ⟨none, .store 56 (.tmp 10) (.tmp 30), none⟩])
    (.reg [⟨some 31, .move (.tmp 8), none⟩,
      ⟨some 32, .fieldAddr 56 (.tmp 10) 1, none⟩,
      ⟨some 33, .load 3 (.tmp 32), none⟩,
      ⟨some 34, .fieldAddr 56 (.tmp 10) 0, none⟩,
      ⟨some 35, .load 3 (.tmp 34), none⟩,
      ⟨some 36, .unOp .neg 3 (.tmp 35), none⟩,
      ⟨some 37, .build 56 #[(0, (.tmp 33)), (1, (.tmp 36))], none⟩,
      ⟨some 38, .fieldAddr 56 (.tmp 10) 1, none⟩,
      ⟨some 39, .load 3 (.tmp 38), none⟩,
      ⟨some 40, .unOp .neg 3 (.tmp 39), none⟩,
      ⟨some 41, .fieldAddr 56 (.tmp 10) 0, none⟩,
      ⟨some 42, .load 3 (.tmp 41), none⟩,
      ⟨some 43, .build 56 #[(0, (.tmp 40)), (1, (.tmp 42))], none⟩,
      ⟨some 44, .load 56 (.tmp 10), none⟩,
      ⟨some 45, .fieldAddr 56 (.tmp 10) 0, none⟩,
      ⟨some 46, .load 3 (.tmp 45), none⟩,
      ⟨some 47, .unOp .neg 3 (.tmp 46), none⟩,
      ⟨some 48, .fieldAddr 56 (.tmp 10) 1, none⟩,
      ⟨some 49, .load 3 (.tmp 48), none⟩,
      ⟨some 50, .unOp .neg 3 (.tmp 49), none⟩,
      ⟨some 51, .build 56 #[(0, (.tmp 47)), (1, (.tmp 50))], none⟩,
      ⟨some 52, .buildSlice 54 4 #[(0, (.tmp 37)), (1, (.tmp 43)), (2, (.tmp 44)), (3, (.tmp 51))], none⟩,
      ⟨some 53, .call ⟨.builtin .append, #[(.tmp 31), (.tmp 52)], #[54, 54]⟩, none⟩,
      ⟨some 8, .assign (.tmp 53), none⟩])))
  (.reg [⟨some 54, .binOp .add 3 (.tmp 27) (.const (.int .i64 1)) 3, none⟩,
    ⟨some 27, .move (.tmp 54), none⟩]))))
def p66l1 : PC :=
  (.seq (.reg [⟨some 68, .binOp .lss 3 (.tmp 67) (.tmp 66) 3, none⟩])
  (.seq (.cond (.tmp 68)
    .skip
    (.exit 2))
  (.seq (.block 3
    (.seq (.reg [⟨some 69, .indexAddr 54 (.tmp 65) (.tmp 67), none⟩,
      ⟨some 70, .load 56 (.tmp 69), none⟩,
      ⟨some 12, .alloc 56, none⟩,
      ⟨none, .store 56 (.tmp 12) (.tmp 70), none⟩])
    (.seq (.reg [⟨some 71, .move (.tmp 0), none⟩,
      ⟨some 72, .move (.tmp 1), none⟩,
      ⟨some 73, .fieldAddr 56 (.tmp 12) 0, none⟩,
      ⟨some 74, .load 3 (.tmp 73), none⟩,
      ⟨some 75, .fieldAddr 56 (.tmp 12) 1, none⟩,
      ⟨some 76, .load 3 (.tmp 75), none⟩,
      ⟨some 77, .call ⟨.value (.func 107), #[(.tmp 71), (.tmp 72), (.tmp 74), (.tmp 76)], #[54, 54, 3, 3]⟩, none⟩])
    (.cond (.tmp 77)
      (.seq (.draw [0, 1, 0, 4, 3, 31, 63] [⟨some 78, .fieldAddr 56 (.tmp 12) 0, none⟩,
        ⟨some 79, .load 3 (.tmp 78), none⟩,
        ⟨some 80, .fieldAddr 56 (.tmp 12) 1, none⟩,
        ⟨some 81, .load 3 (.tmp 80), none⟩,
        ⟨some 4, .assign (.tmp 79), none⟩]
        [⟨some 5, .assign (.tmp 81), none⟩,
        ⟨some 6, .assign (.const (.int .i64 0)), none⟩])
      .ret)
      .skip))))
  (.reg [⟨some 82, .binOp .add 3 (.tmp 67) (.const (.int .i64 1)) 3, none⟩,
    ⟨some 67, .move (.tmp 82), none⟩]))))
def p66 : PC :=
  (.seq (.reg [⟨some 4, .assign (.const (.int .i64 0)), none⟩,
    ⟨some 5, .assign (.const (.int .i64 0)), none⟩,
    ⟨some 6, .assign (.const (.int .i64 0)), none⟩])
  (.seq (.seq (.reg [⟨some 13, .move (.tmp 0), none⟩,
    ⟨some 14, .move (.tmp 1), none⟩,
    ⟨some 15, .buildSlice 154 2 #[(0, (.tmp 13)), (1, (.tmp 14))], none⟩,
    ⟨some 16, .call ⟨.value (.func 98), #[(.tmp 15)], #[154]⟩, none⟩,
    ⟨some 7, .assign (.tmp 16), none⟩])
  (.seq (.reg [⟨some 17, .move (.tmp 7), none⟩,
    ⟨some 18, .binOp .neq 25 (.tmp 17) (.const (.int .i64 0)) 25, none⟩])
  (.cond (.tmp 18)
    (.seq (.reg [⟨some 19, .move (.tmp 7), none⟩,
      ⟨some 4, .assign (.const (.int .i64 0)), none⟩,
      ⟨some 5, .assign (.const (.int .i64 0)), none⟩,
      ⟨some 6, .assign (.tmp 19), none⟩])
    .ret)
    .skip)))
  (.seq (.reg [⟨some 8, .assign (.const (.slice none 0 0)), none⟩])
  (.seq (.seq (.reg [⟨some 20, .move (.tmp 0), none⟩,
    ⟨some 21, .call ⟨.value (.func 109), #[(.tmp 20)], #[54]⟩, none⟩,
    ⟨some 22, .move (.tmp 1), none⟩,
    ⟨some 23, .call ⟨.value (.func 109), #[(.tmp 22)], #[54]⟩, none⟩,
    ⟨some 24, .buildSlice 154 2 #[(0, (.tmp 21)), (1, (.tmp 23))], none⟩,
    ⟨some 25, .call ⟨.value (.func 108), #[(.tmp 24)], #[154]⟩, none⟩,
    ⟨some 26, .call ⟨.builtin .len, #[(.tmp 25)], #[54]⟩, none⟩,
    ⟨some 27, .move (.const (.int .i64 0)), none⟩])
  (.block 0
    (.loop p66l0)))
  (.seq (.draw [0, 0, 2, 6, 0, 16, 48, 126, 254, 511, 1023] [⟨some 55, .move (.tmp 8), none⟩,
    ⟨some 56, .move (.tmp 0), none⟩,
    ⟨some 57, .indexAddr 54 (.tmp 56) (.const (.int .i64 0)), none⟩,
    ⟨some 58, .load 56 (.tmp 57), none⟩,
    ⟨some 59, .move (.tmp 1), none⟩,
    ⟨some 60, .indexAddr 54 (.tmp 59) (.const (.int .i64 0)), none⟩,
    ⟨some 61, .load 56 (.tmp 60), none⟩,
    ⟨some 62, .call ⟨.value (.func 110), #[(.tmp 58), (.tmp 61)], #[56, 56]⟩, none⟩,
    ⟨some 63, .buildSlice 54 1 #[(0, (.tmp 62))], none⟩]
    [⟨some 64, .call ⟨.builtin .append, #[(.tmp 55), (.tmp 63)], #[54, 54]⟩, none⟩,
    ⟨some 8, .assign (.tmp 64), none⟩])
  (.seq (.seq (.reg [⟨some 65, .move (.tmp 8), none⟩,
    ⟨some 66, .call ⟨.builtin .len, #[(.tmp 65)], #[54]⟩, none⟩,
    ⟨some 67, .move (.const (.int .i64 0)), none⟩])
  (.block 2
    (.loop p66l1)))
  (.seq (.reg [⟨some 4, .assign (.const (.int .i64 0)), none⟩,
    ⟨some 5, .assign (.const (.int .i64 0)), none⟩,
    ⟨some 6, .assign (.const (.int .i64 6)), none⟩])
  .ret)))))))
theorem c66 : f66.body.bind (comp f66.ntmps) = some p66 := by kernel_rfl

def p67 : PC :=
  (.seq (.reg [⟨some 2, .assign (.const (.bool false)), none⟩])
  (.seq (.reg [⟨some 3, .move (.tmp 0), none⟩,
    ⟨some 4, .call ⟨.builtin .len, #[(.tmp 3)], #[54]⟩, none⟩,
    ⟨some 5, .call ⟨.value (.func 79), #[(.tmp 4), (.const (.int .i64 1)), (.const (.int .i64 64))], #[3, 3, 3]⟩, none⟩,
    ⟨some 6, .move (.tmp 5), none⟩,
    ⟨some 7, .move (.tmp 0), some ((some 6), true)⟩,
    ⟨some 8, .call ⟨.value (.func 94), #[(.tmp 7)], #[54]⟩, some ((some 6), true)⟩,
    ⟨some 9, .pick (.tmp 6) (.tmp 8) (.const (.bool false)), none⟩,
    ⟨some 10, .move (.tmp 9), none⟩,
    ⟨some 11, .move (.tmp 0), some ((some 10), true)⟩,
    ⟨some 12, .call ⟨.value (.func 95), #[(.tmp 11)], #[54]⟩, some ((some 10), true)⟩,
    ⟨some 13, .move (.tmp 0), some ((some 10), true)⟩,
    ⟨some 14, .call ⟨.value (.func 57), #[(.tmp 12), (.tmp 13)], #[54, 54]⟩, some ((some 10), true)⟩,
    ⟨some 15, .pick (.tmp 10) (.tmp 14) (.const (.bool false)), none⟩,
    ⟨some 2, .assign (.tmp 15), none⟩])
  .ret))
theorem c67 : f67.body.bind (comp f67.ntmps) = some p67 := by kernel_rfl

def p94l0 : PC :=
  (.seq (.seq (.reg [⟨some 4, .move (.tmp 3), none⟩,
    ⟨some 5, .move (.tmp 0), none⟩,
    ⟨some 6, .call ⟨.builtin .len, #[(.tmp 5)], #[54]⟩, none⟩,
    ⟨some 7, .binOp .lss 3 (.tmp 4) (.tmp 6) 3, none⟩])
  (.cond (.tmp 7)
    .skip
    (.exit 0)))
  (.seq (.block 1
    (.seq (.reg [⟨some 10, .move (.tmp 0), none⟩,
      ⟨some 11, .move (.tmp 3), none⟩,
      ⟨some 12, .indexAddr 54 (.tmp 10) (.tmp 11), none⟩,
      ⟨some 13, .fieldAddr 56 (.tmp 12) 0, none⟩,
      ⟨some 14, .load 3 (.tmp 13), none⟩,
      ⟨some 15, .call ⟨.value (.func 79), #[(.tmp 14), (.const (.int .i64 (-268435456))), (.const (.int .i64 268435456))], #[3, 3, 3]⟩, none⟩,
      ⟨some 16, .unOp .not 4 (.tmp 15), none⟩,
      ⟨some 17, .move (.tmp 16), none⟩,
      ⟨some 18, .move (.tmp 0), some ((some 17), false)⟩,
      ⟨some 19, .move (.tmp 3), some ((some 17), false)⟩,
      ⟨some 20, .indexAddr 54 (.tmp 18) (.tmp 19), some ((some 17), false)⟩,
      ⟨some 21, .fieldAddr 56 (.tmp 20) 1, some ((some 17), false)⟩,
      ⟨some 22, .load 3 (.tmp 21), some ((some 17), false)⟩,
      ⟨some 23, .call ⟨.value (.func 79), #[(.tmp 22), (.const (.int .i64 (-268435456))), (.const (.int .i64 268435456))], #[3, 3, 3]⟩, some ((some 17), false)⟩,
      ⟨some 24, .unOp .not 4 (.tmp 23), some ((some 17), false)⟩,
      ⟨some 25, .pick (.tmp 17) (.const (.bool true)) (.tmp 24), none⟩])
    (.cond (.tmp 25)
      (.seq (.reg [⟨some 2, .assign (.const (.bool false)), none⟩])
      .ret)
      .skip)))
  (.reg [⟨some 8, .move (.tmp 3), none⟩,
    ⟨some 9, .binOp .add 3 (.tmp 8) (.const (.int .i64 1)) 3, none⟩,
    ⟨some 3, .assign (.tmp 9), none⟩])))
def p94 : PC :=
  (.seq (.reg [⟨some 2, .assign (.const (.bool false)), none⟩])
  (.seq (.seq (.reg [⟨some 3, .assign (.const (.int .i64 0)), none⟩])
  (.block 0
    (.loop p94l0)))
  (.seq (.reg [⟨some 2, .assign (.const (.bool true)), none⟩])
  .ret)))
theorem c94 : f94.body.bind (comp f94.ntmps) = some p94 := by kernel_rfl

def p95l0 : PC :=
  (.seq (.seq (.reg [⟨some 17, .move (.tmp 5), none⟩,
    ⟨some 18, .binOp .geq 3 (.tmp 17) (.const (.int .i64 0)) 3, none⟩])
  (.cond (.tmp 18)
    .skip
    (.exit 0)))
  (.seq (.block 1
    (.reg [⟨some 21, .move (.tmp 4), none⟩,
      ⟨some 22, .move (.tmp 3), none⟩,
      ⟨some 23, .move (.tmp 5), none⟩,
      ⟨some 24, .indexAddr 54 (.tmp 22) (.tmp 23), none⟩,
      ⟨some 25, .load 56 (.tmp 24), none⟩,
      ⟨some 26, .buildSlice 54 1 #[(0, (.tmp 25))], none⟩,
      ⟨some 27, .call ⟨.builtin .append, #[(.tmp 21), (.tmp 26)], #[54, 54]⟩, none⟩,
      ⟨some 4, .assign (.tmp 27), none⟩]))
  (.reg [⟨some 19, .move (.tmp 5), none⟩,
    ⟨some 20, .binOp .sub 3 (.tmp 19) (.const (.int .i64 1)) 3, none⟩,
    ⟨some 5, .assign (.tmp 20), none⟩])))
def p95 : PC :=
  (.seq (.reg [⟨some 2, .assign (.const (.slice none 0 0)), none⟩])
  (.seq (.reg [⟨some 8, .move (.tmp 0), none⟩,
    ⟨some 9, .call ⟨.value (.func 133), #[(.tmp 8)], #[54]⟩, none⟩,
    ⟨some 3, .assign (.tmp 9), none⟩])
  (.seq (.seq (.reg [⟨some 10, .move (.tmp 3), none⟩,
    ⟨some 11, .call ⟨.builtin .len, #[(.tmp 10)], #[54]⟩, none⟩,
    ⟨some 12, .binOp .lss 3 (.tmp 11) (.const (.int .i64 3)) 3, none⟩])
  (.cond (.tmp 12)
    (.seq (.reg [⟨some 13, .move (.tmp 3), none⟩,
      ⟨some 2, .assign (.tmp 13), none⟩])
    .ret)
    .skip))
  (.seq (.reg [⟨some 4, .assign (.const (.slice none 0 0)), none⟩])
  (.seq (.seq (.reg [⟨some 14, .move (.tmp 3), none⟩,
    ⟨some 15, .call ⟨.builtin .len, #[(.tmp 14)], #[54]⟩, none⟩,
    ⟨some 16, .binOp .sub 3 (.tmp 15) (.const (.int .i64 1)) 3, none⟩,
    ⟨some 5, .assign (.tmp 16), none⟩])
  (.block 0
    (.loop p95l0)))
  (.seq (.reg [⟨some 28, .move (.tmp 3), none⟩,
    ⟨some 29, .call ⟨.value (.func 134), #[(.tmp 28)], #[54]⟩, none⟩,
    ⟨some 30, .move (.tmp 4), none⟩,
    ⟨some 31, .call ⟨.value (.func 134), #[(.tmp 30)], #[54]⟩, none⟩,
    ⟨some 6, .assign (.tmp 29), none⟩,
    ⟨some 7, .assign (.tmp 31), none⟩])
  (.seq (.drawW [0, 0, 3, 0, 0, 16, 48, 120, 255, 511] [⟨some 32, .buildSlice 54 0 #[], none⟩,
    ⟨some 33, .move (.tmp 6), none⟩,
    ⟨some 34, .call ⟨.builtin .append, #[(.tmp 32), (.tmp 33)], #[54, 54]⟩, none⟩,
    ⟨some 35, .move (.tmp 7), none⟩,
    ⟨some 36, .move (.tmp 7), none⟩,
    ⟨some 37, .call ⟨.builtin .len, #[(.tmp 36)], #[54]⟩, none⟩,
    ⟨some 38, .binOp .sub 3 (.tmp 37) (.const (.int .i64 1)) 3, none⟩,
    ⟨some 39, .slice 54 (.tmp 35) (some (.const (.int .i64 1))) (some (.tmp 38)) none, none⟩]
    [⟨some 40, .call ⟨.builtin .append, #[(.tmp 34), (.tmp 39)], #[54, 54]⟩, none⟩,
    ⟨some 2, .assign (.tmp 40), none⟩])
  .ret)))))))
theorem c95 : f95.body.bind (comp f95.ntmps) = some p95 := by kernel_rfl

def p96l0 : PC :=
  (.seq (.reg [⟨some 5, .alloc 56, none⟩,
    ⟨none, .store 56 (.tmp 5) (.tmp 12), none⟩])
  (.reg [⟨some 6, .alloc 56, none⟩,
    ⟨none, .store 56 (.tmp 6) (.tmp 13), none⟩]))
def p96l1 : PC :=
  (.block 1
    (.seq (.seq (.reg [⟨some 14, .load 56 (.tmp 5), none⟩,
      ⟨some 15, .load 56 (.tmp 3), none⟩,
      ⟨some 16, .binOp .eql 56 (.tmp 14) (.tmp 15) 56, none⟩])
    (.cond (.tmp 16)
      (.seq (.reg [⟨none, .store 4 (.tmp 4) (.const (.bool true)), none⟩])
      .ret)
      .skip))
    (.seq (.draw [0, 0, 3, 0, 0, 31, 0, 0, 255, 511] [⟨some 17, .load 56 (.tmp 5), none⟩,
      ⟨some 18, .load 56 (.tmp 6), none⟩,
      ⟨some 19, .call ⟨.value (.func 110), #[(.tmp 17), (.tmp 18)], #[56, 56]⟩, none⟩,
      ⟨some 20, .load 56 (.tmp 5), none⟩,
      ⟨some 21, .load 56 (.tmp 3), none⟩,
      ⟨some 22, .call ⟨.value (.func 110), #[(.tmp 20), (.tmp 21)], #[56, 56]⟩, none⟩,
      ⟨some 7, .alloc 56, none⟩,
      ⟨some 8, .alloc 56, none⟩]
      [⟨none, .store 56 (.tmp 7) (.tmp 19), none⟩,
      ⟨none, .store 56 (.tmp 8) (.tmp 22), none⟩])
    (.seq (.reg [⟨some 23, .load 56 (.tmp 7), none⟩,
      ⟨some 24, .load 56 (.tmp 8), none⟩,
      ⟨some 25, .call ⟨.value (.func 131), #[(.tmp 23), (.tmp 24)], #[56, 56]⟩, none⟩,
      ⟨some 9, .assign (.tmp 25), none⟩])
    (.seq (.reg [⟨some 26, .move (.tmp 9), none⟩,
      ⟨some 27, .binOp .lss 3 (.tmp 26) (.const (.int .i64 0)) 3, none⟩,
      ⟨some 28, .move (.tmp 27), none⟩,
      ⟨some 29, .move (.tmp 9), some ((some 28), false)⟩,
      ⟨some 30, .binOp .eql 3 (.tmp 29) (.const (.int .i64 0)) 3, some ((some 28), false)⟩,
      ⟨some 31, .move (.tmp 30), some ((some 28), false)⟩,
      ⟨some 32, .load 54 (.tmp 2), some ((some 31), true)⟩,
      ⟨some 33, .call ⟨.builtin .len, #[(.tmp 32)], #[54]⟩, some ((some 31), true)⟩,
      ⟨some 34, .binOp .lss 3 (.tmp 33) (.const (.int .i64 3)) 3, some ((some 31), true)⟩,
      ⟨some 35, .pick (.tmp 31) (.tmp 34) (.const (.bool false)), some ((some 28), false)⟩,
      ⟨some 36, .move (.tmp 35), some ((some 28), false)⟩,
      ⟨some 37, .fieldAddr 56 (.tmp 8) 0, some ((some 36), true)⟩,
      ⟨some 38, .load 3 (.tmp 37), some ((some 36), true)⟩,
      ⟨some 39, .fieldAddr 56 (.tmp 7) 0, some ((some 36), true)⟩,
      ⟨some 40, .load 3 (.tmp 39), some ((some 36), true)⟩,
      ⟨some 41, .binOp .mul 3 (.tmp 38) (.tmp 40) 3, some ((some 36), true)⟩,
      ⟨some 42, .binOp .geq 3 (.tmp 41) (.const (.int .i64 0)) 3, some ((some 36), true)⟩,
      ⟨some 43, .move (.tmp 42), some ((some 36), true)⟩,
      ⟨some 44, .fieldAddr 56 (.tmp 8) 1, some ((some 43), true)⟩,
      ⟨some 45, .load 3 (.tmp 44), some ((some 43), true)⟩,
      ⟨some 46, .fieldAddr 56 (.tmp 7) 1, some ((some 43), true)⟩,
      ⟨some 47, .load 3 (.tmp 46), some ((some 43), true)⟩,
      ⟨some 48, .binOp .mul 3 (.tmp 45) (.tmp 47) 3, some ((some 43), true)⟩,
      ⟨some 49, .binOp .geq 3 (.tmp 48) (.const (.int .i64 0)) 3, some ((some 43), true)⟩,
      ⟨some 50, .pick (.tmp 43) (.tmp 49) (.const (.bool false)), some ((some 36), true)⟩,
      ⟨some 51, .move (.tmp 50), some ((some 36), true)⟩,
      ⟨some 52, .fieldAddr 56 (.tmp 8) 0, some ((some 51), true)⟩,
      ⟨some 53, .load 3 (.tmp 52), some ((some 51), true)⟩,
      ⟨some 54, .fieldAddr 56 (.tmp 8) 0, some ((some 51), true)⟩,
      ⟨some 55, .load 3 (.tmp 54), some ((some 51), true)⟩,
      ⟨some 56, .binOp .mul 3 (.tmp 53) (.tmp 55) 3, some ((some 51), true)⟩,
      ⟨some 57, .fieldAddr 56 (.tmp 7) 0, some ((some 51), true)⟩,
      ⟨some 58, .load 3 (.tmp 57), some ((some 51), true)⟩,
      ⟨some 59, .fieldAddr 56 (.tmp 7) 0, some ((some 51), true)⟩,
      ⟨some 60, .load 3 (.tmp 59), some ((some 51), true)⟩,
      ⟨some 61, .binOp .mul 3 (.tmp 58) (.tmp 60) 3, some ((some 51), true)⟩,
      ⟨some 62, .binOp .leq 3 (.tmp 56) (.tmp 61) 3, some ((some 51), true)⟩,
      ⟨some 63, .pick (.tmp 51) (.tmp 62) (.const (.bool false)), some ((some 36), true)⟩,
      ⟨some 64, .move (.tmp 63), some ((some 36), true)⟩,
      ⟨some 65, .fieldAddr 56 (.tmp 8) 1, some ((some 64), true)⟩,
      ⟨some 66, .load 3 (.tmp 65), some ((some 64), true)⟩,
      ⟨some 67, .fieldAddr 56 (.tmp 8) 1, some ((some 64), true)⟩,
      ⟨some 68, .load 3 (.tmp 67), some ((some 64), true)⟩,
      ⟨some 69, .binOp .mul 3 (.tmp 66) (.tmp 68) 3, some ((some 64), true)⟩,
      ⟨some 70, .fieldAddr 56 (.tmp 7) 1, some ((some 64), true)⟩,
      ⟨some 71, .load 3 (.tmp 70), some ((some 64), true)⟩,
      ⟨some 72, .fieldAddr 56 (.tmp 7) 1, some ((some 64), true)⟩,
      ⟨some 73, .load 3 (.tmp 72), some ((some 64), true)⟩,
      ⟨some 74, .binOp .mul 3 (.tmp 71) (.tmp 73) 3, some ((some 64), true)⟩,
      ⟨some 75, .binOp .leq 3 (.tmp 69) (.tmp 74) 3, some ((some 64), true)⟩,
      ⟨some 76, .pick (.tmp 64) (.tmp 75) (.const (.bool false)), some ((some 36), true)⟩,
      ⟨some 77, .unOp .not 4 (.tmp 76), some ((some 36), true)⟩,
      ⟨some 78, .pick (.tmp 36) (.tmp 77) (.const (.bool false)), some ((some 28), false)⟩,
      ⟨some 79, .pick (.tmp 28) (.const (.bool true)) (.tmp 78), none⟩])
    (.cond (.tmp 79)
      (.seq (.reg [⟨none, .store 4 (.tmp 4) (.const (.bool false)), none⟩])
      .ret)
      .skip))))))
def p96 : PC :=
  (.seq (.reg [⟨some 2, .box 54 (.tmp 0), none⟩,
    ⟨some 3, .box 56 (.tmp 1), none⟩,
    ⟨some 4, .alloc 4, none⟩])
  (.seq (.seq (.reg [⟨some 10, .load 54 (.tmp 2), none⟩,
    ⟨some 11, .call ⟨.value (.func 135), #[(.tmp 10)], #[54]⟩, none⟩])
  (.block 0
    (.rangeF (.tmp 11) [12, 13] p96l0 p96l1)))
  (.seq (.reg [⟨some 80, .load 54 (.tmp 2), none⟩,
    ⟨some 81, .call ⟨.builtin .len, #[(.tmp 80)], #[54]⟩, none⟩,
    ⟨some 82, .binOp .gtr 3 (.tmp 81) (.const (.int .i64 1)) 3, none⟩,
    ⟨none, .store 4 (.tmp 4) (.tmp 82), none⟩])
  .ret)))
theorem c96 : f96.body.bind (comp f96.ntmps) = some p96 := by kernel_rfl

def p97l0 : PC :=
  (.seq (.seq (.reg [⟨some 14, .move (.tmp 5), none⟩,
    ⟨some 15, .move (.tmp 0), none⟩,
    ⟨some 16, .call ⟨.builtin .len, #[(.tmp 15)], #[54]⟩, none⟩,
    ⟨some 17, .binOp .lss 3 (.tmp 14) (.tmp 16) 3, none⟩])
  (.cond (.tmp 17)
    .skip
    (.exit 0)))
  (.seq (.block 1
    (.seq (.draw [0, 0, 3, 7, 0, 0, 32, 0, 128, 480, 1008, 2032, 0, 8191, 16383] [⟨some 20, .move (.tmp 0), none⟩,
      ⟨some 21, .move (.tmp 5), none⟩,
      ⟨some 22, .indexAddr 54 (.tmp 20) (.tmp 21), none⟩,
      ⟨some 23, .load 56 (.tmp 22), none⟩,
      ⟨some 24, .move (.tmp 0), none⟩,
      ⟨some 25, .move (.tmp 5), none⟩,
      ⟨some 26, .binOp .add 3 (.tmp 25) (.const (.int .i64 1)) 3, none⟩,
      ⟨some 27, .move (.tmp 0), none⟩,
      ⟨some 28, .call ⟨.builtin .len, #[(.tmp 27)], #[54]⟩, none⟩,
      ⟨some 29, .binOp .rem 3 (.tmp 26) (.tmp 28) 3, none⟩,
      ⟨some 30, .indexAddr 54 (.tmp 24) (.tmp 29), none⟩,
      ⟨some 31, .load 56 (.tmp 30), none⟩,
      ⟨some 32, .load 56 (.tmp 3), none⟩]
      [⟨some 33, .call ⟨.value (.func 136), #[(.tmp 23), (.tmp 31), (.tmp 32)], #[56, 56, 56]⟩, none⟩,
      ⟨some 34, .binOp .lss 3 (.tmp 33) (.const (.int .i64 0)) 3, none⟩])
    (.cond (.tmp 34)
      (.seq (.reg [⟨some 4, .assign (.const (.bool false)), none⟩])
      .ret)
      .skip)))
  (.reg [⟨some 18, .move (.tmp 5), none⟩,
    ⟨some 19, .binOp .add 3 (.tmp 18) (.const (.int .i64 1)) 3, none⟩,
    ⟨some 5, .assign (.tmp 19), none⟩])))
def p97 : PC :=
  (.seq (.reg [⟨some 3, .box 56 (.tmp 1), none⟩,
    ⟨some 4, .assign (.const (.bool false)), none⟩])
  (.seq (.seq (.reg [⟨some 6, .move (.tmp 0), none⟩,
    ⟨some 7, .call ⟨.builtin .len, #[(.tmp 6)], #[54]⟩, none⟩,
    ⟨some 8, .binOp .eql 3 (.tmp 7) (.const (.int .i64 1)) 3, none⟩])
  (.cond (.tmp 8)
    (.seq (.draw [0, 1, 3, 0, 15, 31] [⟨some 9, .move (.tmp 0), none⟩,
      ⟨some 10, .indexAddr 54 (.tmp 9) (.const (.int .i64 0)), none⟩,
      ⟨some 11, .load 56 (.tmp 10), none⟩,
      ⟨some 12, .load 56 (.tmp 3), none⟩]
      [⟨some 13, .binOp .eql 56 (.tmp 11) (.tmp 12) 56, none⟩,
      ⟨some 4, .assign (.tmp 13), none⟩])
    .ret)
    .skip))
  (.seq (.seq (.reg [⟨some 5, .assign (.const (.int .i64 0)), none⟩])
  (.block 0
    (.loop p97l0)))
  (.seq (.draw [0, 1, 3, 7, 15, 31, 15, 79, 207, 463, 15, 1039, 3087, 7183, 16383, 32767, 65535, 131071, 65535, 327679, 851967, 1900543, 65535, 4259839, 12648447, 29425663, 66912255, 65535, 134283263, 402718719, 939589631, 65535, 2147549183, 6442516479, 15032451071, 34225586175, 68719476735, 137438953471, 274877906943, 549755813887] [⟨some 35, .move (.tmp 0), none⟩,
    ⟨some 36, .call ⟨.builtin .len, #[(.tmp 35)], #[54]⟩, none⟩,
    ⟨some 37, .binOp .gtr 3 (.tmp 36) (.const (.int .i64 2)) 3, none⟩,
    ⟨some 38, .move (.tmp 37), none⟩,
    ⟨some 39, .fieldAddr 56 (.tmp 3) 0, some ((some 38), false)⟩,
    ⟨some 40, .load 3 (.tmp 39), some ((some 38), false)⟩,
    ⟨some 41, .move (.tmp 0), some ((some 38), false)⟩,
    ⟨some 42, .indexAddr 54 (.tmp 41) (.const (.int .i64 0)), some ((some 38), false)⟩,
    ⟨some 43, .fieldAddr 56 (.tmp 42) 0, some ((some 38), false)⟩,
    ⟨some 44, .load 3 (.tmp 43), some ((some 38), false)⟩,
    ⟨some 45, .move (.tmp 0), some ((some 38), false)⟩,
    ⟨some 46, .indexAddr 54 (.tmp 45) (.const (.int .i64 1)), some ((some 38), false)⟩,
    ⟨some 47, .fieldAddr 56 (.tmp 46) 0, some ((some 38), false)⟩,
    ⟨some 48, .load 3 (.tmp 47), some ((some 38), false)⟩,
    ⟨some 49, .call ⟨.value (.func 79), #[(.tmp 40), (.tmp 44), (.tmp 48)], #[3, 3, 3]⟩, some ((some 38), false)⟩,
    ⟨some 50, .move (.tmp 49), some ((some 38), false)⟩,
    ⟨some 51, .fieldAddr 56 (.tmp 3) 1, some ((some 50), true)⟩,
    ⟨some 52, .load 3 (.tmp 51), some ((some 50), true)⟩,
    ⟨some 53, .move (.tmp 0), some ((some 50), true)⟩,
    ⟨some 54, .indexAddr 54 (.tmp 53) (.const (.int .i64 0)), some ((some 50), true)⟩,
    ⟨some 55, .fieldAddr 56 (.tmp 54) 1, some ((some 50), true)⟩,
    ⟨some 56, .load 3 (.tmp 55), some ((some 50), true)⟩,
    ⟨some 57, .move (.tmp 0), some ((some 50), true)⟩,
    ⟨some 58, .indexAddr 54 (.tmp 57) (.const (.int .i64 1)), some ((some 50), true)⟩,
    ⟨some 59, .fieldAddr 56 (.tmp 58) 1, some ((some 50), true)⟩,
    ⟨some 60, .load 3 (.tmp 59), some ((some 50), true)⟩,
    ⟨some 61, .call ⟨.builtin .min, #[(.tmp 56), (.tmp 60)], #[3, 3]⟩, some ((some 50), true)⟩,
    ⟨some 62, .move (.tmp 0), some ((some 50), true)⟩,
    ⟨some 63, .indexAddr 54 (.tmp 62) (.const (.int .i64 0)), some ((some 50), true)⟩,
    ⟨some 64, .fieldAddr 56 (.tmp 63) 1, some ((some 50), true)⟩,
    ⟨some 65, .load 3 (.tmp 64), some ((some 50), true)⟩,
    ⟨some 66, .move (.tmp 0), some ((some 50), true)⟩,
    ⟨some 67, .indexAddr 54 (.tmp 66) (.const (.int .i64 1)), some ((some 50), true)⟩,
    ⟨some 68, .fieldAddr 56 (.tmp 67) 1, some ((some 50), true)⟩,
    ⟨some 69, .load 3 (.tmp 68), some ((some 50), true)⟩,
    ⟨some 70, .call ⟨.builtin .max, #[(.tmp 65), (.tmp 69)], #[3, 3]⟩, some ((some 50), true)⟩]
    [⟨some 71, .call ⟨.value (.func 79), #[(.tmp 52), (.tmp 61), (.tmp 70)], #[3, 3, 3]⟩, some ((some 50), true)⟩,
    ⟨some 72, .pick (.tmp 50) (.tmp 71) (.const (.bool false)), some ((some 38), false)⟩,
    ⟨some 73, .pick (.tmp 38) (.const (.bool true)) (.tmp 72), none⟩,
    ⟨some 4, .assign (.tmp 73), none⟩])
  .ret))))
theorem c97 : f97.body.bind (comp f97.ntmps) = some p97 := by kernel_rfl

def p98l0 : PC :=
  (.seq (.reg [⟨some 9, .binOp .lss 3 (.tmp 8) (.tmp 7) 3, none⟩])
  (.seq (.cond (.tmp 9)
    .skip
    (.exit 0))
  (.seq (.block 1
    (.seq (.reg [⟨some 10, .indexAddr 154 (.tmp 6) (.tmp 8), none⟩,
      ⟨some 11, .load 54 (.tmp 10), none⟩,
      ⟨some 4, .assign (.tmp 11), none⟩])
    (.seq (.reg [⟨some 12, .move (.tmp 4), none⟩,
      ⟨some 13, .call ⟨.value (.func 55), #[(.tmp 12)], #[54]⟩, none⟩,
      ⟨some 5, .assign (.tmp 13), none⟩])
    (.seq (.reg [⟨some 14, .move (.tmp 5), none⟩,
      ⟨some 15, .binOp .neq 25 (.tmp 14) (.const (.int .i64 0)) 25, none⟩])
    (.cond (.tmp 15)
      (.seq (.reg [⟨some 16, .move (.tmp 5), none⟩,
        ⟨some 2, .assign (.tmp 16), none⟩])
      .ret)
      .skip)))))
  (.reg [⟨some 17, .binOp .add 3 (.tmp 8) (.const (.int .i64 1)) 3, none⟩,
    ⟨some 8, .move (.tmp 17), none⟩]))))
def p98 : PC :=
  (.seq (.reg [⟨some 2, .assign (.const (.int .i64 0)), none⟩])
  (.seq (.seq (.reg [⟨some 6, .move (.tmp 0), none⟩,
    ⟨some 7, .call ⟨.builtin .len, #[(.tmp 6)], #[154]⟩, none⟩,
    ⟨some 8, .move (.const (.int .i64 0)), none⟩])
  (.block 0
    (.loop p98l0)))
  (.seq (.reg [⟨some 2, .assign (.const (.int .i64 0)), none⟩])
  .ret)))
theorem c98 : f98.body.bind (comp f98.ntmps) = some p98 := by kernel_rfl

def p99 : PC :=
  (.seq (.reg [⟨some 4, .assign (.const (.bool false)), none⟩])
  (.seq (.reg [⟨some 5, .move (.tmp 0), none⟩,
    ⟨some 6, .move (.tmp 1), none⟩,
    ⟨some 7, .call ⟨.value (.func 137), #[(.tmp 5), (.tmp 6)], #[54, 124]⟩, none⟩,
    ⟨some 8, .binOp .geq 3 (.tmp 7) (.const (.int .i64 0)) 3, none⟩,
    ⟨some 4, .assign (.tmp 8), none⟩])
  .ret))
theorem c99 : f99.body.bind (comp f99.ntmps) = some p99 := by kernel_rfl

def p100 : PC :=
  (.seq (.reg [⟨some 2, .box 56 (.tmp 0), none⟩,
    ⟨some 3, .assign (.const (.bool false)), none⟩])
  (.seq (.reg [⟨some 4, .load 54 (.tmp 1), none⟩,
    ⟨some 5, .load 56 (.tmp 2), none⟩,
    ⟨some 6, .call ⟨.value (.func 96), #[(.tmp 4), (.tmp 5)], #[54, 56]⟩, none⟩,
    ⟨some 7, .unOp .not 4 (.tmp 6), none⟩,
    ⟨some 3, .assign (.tmp 7), none⟩])
  .ret))
theorem c100 : f100.body.bind (comp f100.ntmps) = some p100 := by kernel_rfl

def p107 : PC :=
  (.seq (.reg [⟨some 8, .assign (.const (.bool false)), none⟩])
  (.seq (.reg [⟨some 14, .move (.tmp 0), none⟩,
    ⟨some 15, .move (.tmp 2), none⟩,
    ⟨some 16, .move (.tmp 3), none⟩,
    ⟨some 17, .call ⟨.value (.func 103), #[(.tmp 14), (.tmp 15), (.tmp 16)], #[54, 3, 3]⟩, none⟩,
    ⟨some 13, .move (.tmp 17), none⟩,
    ⟨some 18, .extract (.tmp 13) 0, none⟩,
    ⟨some 19, .extract (.tmp 13) 1, none⟩,
    ⟨some 9, .assign (.tmp 18), none⟩,
    ⟨some 10, .assign (.tmp 19), none⟩])
  (.seq (.reg [⟨some 21, .move (.tmp 1), none⟩,
    ⟨some 22, .move (.tmp 2), none⟩,
    ⟨some 23, .move (.tmp 3), none⟩,
    ⟨some 24, .call ⟨.value (.func 103), #[(.tmp 21), (.tmp 22), (.tmp 23)], #[54, 3, 3]⟩, none⟩,
    ⟨some 20, .move (.tmp 24), none⟩,
    ⟨some 25, .extract (.tmp 20) 0, none⟩,
    ⟨some 26, .extract (.tmp 20) 1, none⟩,
    ⟨some 11, .assign (.tmp 25), none⟩,
    ⟨some 12, .assign (.tmp 26), none⟩])
  (.seq (.reg [⟨some 27, .move (.tmp 10), none⟩,
    ⟨some 28, .move (.tmp 11), none⟩,
    ⟨some 29, .binOp .lss 3 (.tmp 27) (.tmp 28) 3, none⟩,
    ⟨some 8, .assign (.tmp 29), none⟩])
  .ret))))
theorem c107 : f107.body.bind (comp f107.ntmps) = some p107 := by kernel_rfl

def p108l0 : PC :=
  (.seq (.reg [⟨some 12, .binOp .lss 3 (.tmp 11) (.tmp 10) 3, none⟩])
  (.seq (.cond (.tmp 12)
    .skip
    (.exit 0))
  (.seq (.block 1
    (.seq (.reg [⟨some 13, .indexAddr 154 (.tmp 9) (.tmp 11), none⟩,
      ⟨some 14, .load 54 (.tmp 13), none⟩,
      ⟨some 5, .assign (.tmp 14), none⟩])
    (.seq (.reg [⟨some 15, .move (.tmp 3), none⟩,
      ⟨some 16, .move (.tmp 5), none⟩,
      ⟨some 17, .call ⟨.builtin .len, #[(.tmp 16)], #[54]⟩, none⟩,
      ⟨some 18, .binOp .add 3 (.tmp 15) (.tmp 17) 3, none⟩,
      ⟨some 3, .assign (.tmp 18), none⟩])
    (.seq (.reg [⟨some 19, .move (.tmp 3), none⟩,
      ⟨some 20, .binOp .lss 3 (.tmp 19) (.const (.int .i64 0)) 3, none⟩])
    (.cond (.tmp 20)
      (.reg [⟨some 21, .makeInterface 9 (.const (.string ⟨#[108, 101, 110, 32, 111, 117, 116, 32, 111, 102, 32, 114, 97, 110, 103, 101]⟩)), none⟩,
        ⟨none, .panic (.tmp 21), none⟩])
      .skip)))))
  (.reg [⟨some 22, .binOp .add 3 (.tmp 11) (.const (.int .i64 1)) 3, none⟩,
    ⟨some 11, .move (.tmp 22), none⟩]))))
def p108l1 : PC :=
  (.seq (.reg [⟨some 28, .binOp .lss 3 (.tmp 27) (.tmp 26) 3, none⟩])
  (.seq (.cond (.tmp 28)
    .skip
    (.exit 2))
  (.seq (.block 3
    (.seq (.reg [⟨some 29, .indexAddr 154 (.tmp 25) (.tmp 27), none⟩,
      ⟨some 30, .load 54 (.tmp 29), none⟩,
      ⟨some 8, .assign (.tmp 30), none⟩])
    (.reg [⟨some 31, .move (.tmp 6), none⟩,
      ⟨some 32, .move (.tmp 8), none⟩,
      ⟨some 33, .call ⟨.builtin .append, #[(.tmp 31), (.tmp 32)], #[54, 54]⟩, none⟩,
      ⟨some 6, .assign (.tmp 33), none⟩])))
  (.reg [⟨some 34, .binOp .add 3 (.tmp 27) (.const (.int .i64 1)) 3, none⟩,
    ⟨some 27, .move (.tmp 34), none⟩]))))
def p108 : PC :=
  (.seq (.reg [⟨some 2, .assign (.const (.slice none 0 0)), none⟩])
  (.seq (.reg [⟨some 3, .assign (.const (.int .i64 0)), none⟩])
  (.seq (.seq (.reg [⟨some 9, .move (.tmp 0), none⟩,
    ⟨some 10, .call ⟨.builtin .len, #[(.tmp 9)], #[154]⟩, none⟩,
    ⟨some 11, .move (.const (.int .i64 0)), none⟩])
  (.block 0
    (.loop p108l0)))
  (.seq (.reg [⟨some 23, .move (.tmp 3), none⟩,
    ⟨some 24, .call ⟨.value (.func 143), #[(.const (.slice none 0 0)), (.tmp 23)], #[54, 3]⟩, none⟩,
    ⟨some 6, .assign (.tmp 24), none⟩])
  (.seq (.seq (.reg [⟨some 25, .move (.tmp 0), none⟩,
    ⟨some 26, .call ⟨.builtin .len, #[(.tmp 25)], #[154]⟩, none⟩,
    ⟨some 27, .move (.const (.int .i64 0)), none⟩])
  (.block 2
    (.loop p108l1)))
  (.seq (.reg [⟨some 35, .move (.tmp 6), none⟩,
    ⟨some 2, .assign (.tmp 35), none⟩])
  .ret))))))
theorem c108 : f108.body.bind (comp f108.ntmps) = some p108 := by kernel_rfl

def p109l0 : PC :=
  (.seq (.reg [⟨some 4, .alloc 56, none⟩,
    ⟨none, .store 56 (.tmp 4) (.tmp 11), none⟩])
  (.reg [⟨some 5, .alloc 56, none⟩,
    ⟨none, .store 56 (.tmp 5) (.tmp 12), none⟩]))
def p109l1 : PC :=
  (.block 1
    (.draw [0, 0, 0, 6, 14, 31, 63] [⟨some 13, .load 54 (.tmp 3), none⟩,
      ⟨some 14, .load 56 (.tmp 4), none⟩,
      ⟨some 15, .load 56 (.tmp 5), none⟩,
      ⟨some 16, .call ⟨.value (.func 110), #[(.tmp 14), (.tmp 15)], #[56, 56]⟩, none⟩,
      ⟨some 17, .buildSlice 54 1 #[(0, (.tmp 16))], none⟩]
      [⟨some 18, .call ⟨.builtin .append, #[(.tmp 13), (.tmp 17)], #[54, 54]⟩, none⟩,
      ⟨none, .store 54 (.tmp 3) (.tmp 18), none⟩]))
def p109 : PC :=
  (.seq (.reg [⟨some 2, .assign (.const (.slice none 0 0)), none⟩])
  (.seq (.reg [⟨some 3, .alloc 54, none⟩])
  (.seq (.seq (.reg [⟨some 6, .move (.tmp 0), none⟩,
    ⟨some 7, .call ⟨.builtin .len, #[(.tmp 6)], #[54]⟩, none⟩,
    ⟨some 8, .binOp .gtr 3 (.tmp 7) (.const (.int .i64 1)) 3, none⟩])
  (.cond (.tmp 8)
    (.seq (.reg [⟨some 9, .move (.tmp 0), none⟩,
      ⟨some 10, .call ⟨.value (.func 135), #[(.tmp 9)], #[54]⟩, none⟩])
    (.block 0
      (.rangeF (.tmp 10) [11, 12] p109l0 p109l1)))
    .skip))
  (.seq (.reg [⟨some 19, .load 54 (.tmp 3), none⟩,
    ⟨some 2, .assign (.tmp 19), none⟩])
  .ret))))
theorem c109 : f109.body.bind (comp f109.ntmps) = some p109 := by kernel_rfl

def p133l0 : PC :=
  (.seq (.seq (.draw [0, 1, 3, 7, 7, 31, 63, 7, 7, 263, 903, 1927, 4095, 8191] [⟨some 15, .move (.tmp 5), none⟩,
    ⟨some 16, .binOp .gtr 3 (.tmp 15) (.const (.int .i64 0)) 3, none⟩,
    ⟨some 17, .move (.tmp 16), none⟩,
    ⟨some 18, .move (.tmp 0), some ((some 17), true)⟩,
    ⟨some 19, .move (.tmp 4), some ((some 17), true)⟩,
    ⟨some 20, .indexAddr 54 (.tmp 18) (.tmp 19), some ((some 17), true)⟩,
    ⟨some 21, .load 56 (.tmp 20), some ((some 17), true)⟩,
    ⟨some 22, .move (.tmp 3), some ((some 17), true)⟩,
    ⟨some 23, .move (.tmp 5), some ((some 17), true)⟩,
    ⟨some 24, .binOp .sub 3 (.tmp 23) (.const (.int .i64 1)) 3, some ((some 17), true)⟩,
    ⟨some 25, .indexAddr 54 (.tmp 22) (.tmp 24), some ((some 17), true)⟩,
    ⟨some 26, .load 56 (.tmp 25), some ((some 17), true)⟩]
    [⟨some 27, .call ⟨.value (.func 147), #[(.tmp 21), (.tmp 26)], #[56, 56]⟩, some ((some 17), true)⟩,
    ⟨some 28, .pick (.tmp 17) (.tmp 27) (.const (.bool false)), none⟩])
  (.cond (.tmp 28)
    .skip
    (.exit 2)))
  (.block 3
    (.reg [⟨some 29, .move (.tmp 5), none⟩,
      ⟨some 30, .binOp .sub 3 (.tmp 29) (.const (.int .i64 1)) 3, none⟩,
      ⟨some 5, .assign (.tmp 30), none⟩])))
def p133l1 : PC :=
  (.seq (.seq (.reg [⟨some 52, .move (.tmp 6), none⟩,
    ⟨some 53, .move (.tmp 5), none⟩,
    ⟨some 54, .binOp .gtr 3 (.tmp 52) (.tmp 53) 3, none⟩])
  (.cond (.tmp 54)
    .skip
    (.exit 4)))
  (.seq (.block 5
    (.reg [⟨some 57, .move (.tmp 3), none⟩,
      ⟨some 58, .move (.tmp 6), none⟩,
      ⟨some 59, .move (.tmp 3), none⟩,
      ⟨some 60, .move (.tmp 6), none⟩,
      ⟨some 61, .binOp .sub 3 (.tmp 60) (.const (.int .i64 1)) 3, none⟩,
      ⟨some 62, .indexAddr 54 (.tmp 59) (.tmp 61), none⟩,
      ⟨some 63, .load 56 (.tmp 62), none⟩,
      ⟨some 64, .indexAddr 54 (.tmp 57) (.tmp 58), none⟩,
      ⟨none, .store 56 (.tmp 64) (.tmp 63), none⟩]))
  (.reg [⟨some 55, .move (.tmp 6), none⟩,
    ⟨some 56, .binOp .sub 3 (.tmp 55) (.const (.int .i64 1)) 3, none⟩,
    ⟨some 6, .assign (.tmp 56), none⟩])))
def p133l2 : PC :=
  (.seq (.seq (.reg [⟨some 7, .move (.tmp 4), none⟩,
    ⟨some 8, .move (.tmp 0), none⟩,
    ⟨some 9, .call ⟨.builtin .len, #[(.tmp 8)], #[54]⟩, none⟩,
    ⟨some 10, .binOp .lss 3 (.tmp 7) (.tmp 9) 3, none⟩])
  (.cond (.tmp 10)
    .skip
    (.exit 0)))
  (.seq (.block 1
    (.seq (.reg [⟨some 13, .move (.tmp 3), none⟩,
      ⟨some 14, .call ⟨.builtin .len, #[(.tmp 13)], #[54]⟩, none⟩,
      ⟨some 5, .assign (.tmp 14), none⟩])
    (.seq (.block 2
      (.loop p133l0))
    (.seq (.seq (.draw [0, 1, 3, 7, 7, 23, 63, 127, 7, 7, 775, 1799, 4095, 8191] [⟨some 31, .move (.tmp 5), none⟩,
      ⟨some 32, .binOp .gtr 3 (.tmp 31) (.const (.int .i64 0)) 3, none⟩,
      ⟨some 33, .move (.tmp 32), none⟩,
      ⟨some 34, .move (.tmp 3), some ((some 33), true)⟩,
      ⟨some 35, .move (.tmp 5), some ((some 33), true)⟩,
      ⟨some 36, .binOp .sub 3 (.tmp 35) (.const (.int .i64 1)) 3, some ((some 33), true)⟩,
      ⟨some 37, .indexAddr 54 (.tmp 34) (.tmp 36), some ((some 33), true)⟩,
      ⟨some 38, .load 56 (.tmp 37), some ((some 33), true)⟩,
      ⟨some 39, .move (.tmp 0), some ((some 33), true)⟩,
      ⟨some 40, .move (.tmp 4), some ((some 33), true)⟩,
      ⟨some 41, .indexAddr 54 (.tmp 39) (.tmp 40), some ((some 33), true)⟩,
      ⟨some 42, .load 56 (.tmp 41), some ((some 33), true)⟩]
      [⟨some 43, .binOp .eql 56 (.tmp 38) (.tmp 42) 56, some ((some 33), true)⟩,
      ⟨some 44, .pick (.tmp 33) (.tmp 43) (.const (.bool false)), none⟩])
    (.cond (.tmp 44)
      (.exit 1)
      .skip))
    (.seq (.reg [⟨some 45, .move (.tmp 3), none⟩,
      ⟨some 46, .build 56 #[], none⟩,
      ⟨some 47, .buildSlice 54 1 #[(0, (.tmp 46))], none⟩,
      ⟨some 48, .call ⟨.builtin .append, #[(.tmp 45), (.tmp 47)], #[54, 54]⟩, none⟩,
      ⟨some 3, .assign (.tmp 48), none⟩])
    (.seq (.seq (.reg [⟨some 49, .move (.tmp 3), none⟩,
      ⟨some 50, .call ⟨.builtin .len, #[(.tmp 49)], #[54]⟩, none⟩,
      ⟨some 51, .binOp .sub 3 (.tmp 50) (.const (.int .i64 1)) 3, none⟩,
      ⟨some 6, .assign (.tmp 51), none⟩])
    (.block 4
      (.loop p133l1)))
    (.reg [⟨some 65, .move (.tmp 3), none⟩,
      ⟨some 66, .move (.tmp 5), none⟩,
      ⟨some 67, .move (.tmp 0), none⟩,
      ⟨some 68, .move (.tmp 4), none⟩,
      ⟨some 69, .indexAddr 54 (.tmp 67) (.tmp 68), none⟩,
      ⟨some 70, .load 56 (.tmp 69), none⟩,
      ⟨some 71, .indexAddr 54 (.tmp 65) (.tmp 66), none⟩,
      ⟨none, .store 56 (.tmp 71) (.tmp 70), none⟩])))))))
  (.reg [⟨some 11, .move (.tmp 4), none⟩,
    ⟨some 12, .binOp .add 3 (.tmp 11) (.const (.int .i64 1)) 3, none⟩,
    ⟨some 4, .assign (.tmp 12), none⟩])))
def p133 : PC :=
  (.seq (.reg [⟨some 2, .assign (.const (.slice none 0 0)), none⟩])
  (.seq (.reg [⟨some 3, .assign (.const (.slice none 0 0)), none⟩])
  (.seq (.seq (.reg [⟨some 4, .assign (.const (.int .i64 0)), none⟩])
  (.block 0
    (.loop p133l2)))
  (.seq (.reg [⟨some 72, .move (.tmp 3), none⟩,
    ⟨some 2, .assign (.tmp 72), none⟩])
  .ret))))
theorem c133 : f133.body.bind (comp f133.ntmps) = some p133 := by kernel_rfl

def p134l0 : PC :=
  (.seq (.seq (.draw [0, 1, 3, 7, 15, 15, 47, 111, 255, 511, 15, 15, 2063, 6159, 15375, 31759, 15, 15, 196623, 458767, 1048575, 2097151, 4194303] [⟨some 11, .move (.tmp 3), none⟩,
    ⟨some 12, .call ⟨.builtin .len, #[(.tmp 11)], #[54]⟩, none⟩,
    ⟨some 13, .binOp .gtr 3 (.tmp 12) (.const (.int .i64 1)) 3, none⟩,
    ⟨some 14, .move (.tmp 13), none⟩,
    ⟨some 15, .move (.tmp 3), some ((some 14), true)⟩,
    ⟨some 16, .move (.tmp 3), some ((some 14), true)⟩,
    ⟨some 17, .call ⟨.builtin .len, #[(.tmp 16)], #[54]⟩, some ((some 14), true)⟩,
    ⟨some 18, .binOp .sub 3 (.tmp 17) (.const (.int .i64 2)) 3, some ((some 14), true)⟩,
    ⟨some 19, .indexAddr 54 (.tmp 15) (.tmp 18), some ((some 14), true)⟩,
    ⟨some 20, .load 56 (.tmp 19), some ((some 14), true)⟩,
    ⟨some 21, .move (.tmp 3), some ((some 14), true)⟩,
    ⟨some 22, .move (.tmp 3), some ((some 14), true)⟩,
    ⟨some 23, .call ⟨.builtin .len, #[(.tmp 22)], #[54]⟩, some ((some 14), true)⟩,
    ⟨some 24, .binOp .sub 3 (.tmp 23) (.const (.int .i64 1)) 3, some ((some 14), true)⟩,
    ⟨some 25, .indexAddr 54 (.tmp 21) (.tmp 24), some ((some 14), true)⟩,
    ⟨some 26, .load 56 (.tmp 25), some ((some 14), true)⟩,
    ⟨some 27, .move (.tmp 0), some ((some 14), true)⟩,
    ⟨some 28, .move (.tmp 4), some ((some 14), true)⟩,
    ⟨some 29, .indexAddr 54 (.tmp 27) (.tmp 28), some ((some 14), true)⟩,
    ⟨some 30, .load 56 (.tmp 29), some ((some 14), true)⟩]
    [⟨some 31, .call ⟨.value (.func 136), #[(.tmp 20), (.tmp 26), (.tmp 30)], #[56, 56, 56]⟩, some ((some 14), true)⟩,
    ⟨some 32, .binOp .leq 3 (.tmp 31) (.const (.int .i64 0)) 3, some ((some 14), true)⟩,
    ⟨some 33, .pick (.tmp 14) (.tmp 32) (.const (.bool false)), none⟩])
  (.cond (.tmp 33)
    .skip
    (.exit 2)))
  (.block 3
    (.reg [⟨some 34, .move (.tmp 3), none⟩,
      ⟨some 35, .move (.tmp 3), none⟩,
      ⟨some 36, .call ⟨.builtin .len, #[(.tmp 35)], #[54]⟩, none⟩,
      ⟨some 37, .binOp .sub 3 (.tmp 36) (.const (.int .i64 1)) 3, none⟩,
      ⟨some 38, .slice 54 (.tmp 34) none (some (.tmp 37)) none, none⟩,
      ⟨some 3, .assign (.tmp 38), none⟩])))
def p134l1 : PC :=
  (.seq (.seq (.reg [⟨some 5, .move (.tmp 4), none⟩,
    ⟨some 6, .move (.tmp 0), none⟩,
    ⟨some 7, .call ⟨.builtin .len, #[(.tmp 6)], #[54]⟩, none⟩,
    ⟨some 8, .binOp .lss 3 (.tmp 5) (.tmp 7) 3, none⟩])
  (.cond (.tmp 8)
    .skip
    (.exit 0)))
  (.seq (.block 1
    (.seq (.block 2
      (.loop p134l0))
    (.reg [⟨some 39, .move (.tmp 3), none⟩,
      ⟨some 40, .move (.tmp 0), none⟩,
      ⟨some 41, .move (.tmp 4), none⟩,
      ⟨some 42, .indexAddr 54 (.tmp 40) (.tmp 41), none⟩,
      ⟨some 43, .load 56 (.tmp 42), none⟩,
      ⟨some 44, .buildSlice 54 1 #[(0, (.tmp 43))], none⟩,
      ⟨some 45, .call ⟨.builtin .append, #[(.tmp 39), (.tmp 44)], #[54, 54]⟩, none⟩,
      ⟨some 3, .assign (.tmp 45), none⟩])))
  (.reg [⟨some 9, .move (.tmp 4), none⟩,
    ⟨some 10, .binOp .add 3 (.tmp 9) (.const (.int .i64 1)) 3, none⟩,
    ⟨some 4, .assign (.tmp 10), none⟩])))
def p134 : PC :=
  (.seq (.reg [⟨some 2, .assign (.const (.slice none 0 0)), none⟩])
  (.seq (.reg [⟨some 3, .assign (.const (.slice none 0 0)), none⟩])
  (.seq (.seq (.reg [⟨some 4, .assign (.const (.int .i64 0)), none⟩])
  (.block 0
    (.loop p134l1)))
  (.seq (.reg [⟨some 46, .move (.tmp 3), none⟩,
    ⟨some 2, .assign (.tmp 46), none⟩])
  .ret))))
theorem c134 : f134.body.bind (comp f134.ntmps) = some p134 := by kernel_rfl

def p135 : PC :=
  (.seq (.reg [⟨some 1, .box 54 (.tmp 0), none⟩,
    ⟨some 2, .assign (.const .nilFunc), none⟩])
  (.seq (.reg [⟨some 3, .makeFunc (.func 148) #[] #[(.tmp 1)], none⟩,
    ⟨some 2, .assign (.tmp 3), none⟩])
  .ret))
theorem c135 : f135.body.bind (comp f135.ntmps) = some p135 := by kernel_rfl

def p136 : PC :=
  (.seq (.reg [⟨some 3, .box 56 (.tmp 0), none⟩,
    ⟨some 4, .box 56 (.tmp 1), none⟩,
    ⟨some 5, .box 56 (.tmp 2), none⟩,
    ⟨some 6, .assign (.const (.int .i64 0)), none⟩])
  (.seq (.reg [⟨some 7, .fieldAddr 56 (.tmp 4) 0, none⟩,
    ⟨some 8, .load 3 (.tmp 7), none⟩,
    ⟨some 9, .fieldAddr 56 (.tmp 3) 0, none⟩,
    ⟨some 10, .load 3 (.tmp 9), none⟩,
    ⟨some 11, .binOp .sub 3 (.tmp 8) (.tmp 10) 3, none⟩,
    ⟨some 12, .fieldAddr 56 (.tmp 5) 1, none⟩,
    ⟨some 13, .load 3 (.tmp 12), none⟩,
    ⟨some 14, .fieldAddr 56 (.tmp 3) 1, none⟩,
    ⟨some 15, .load 3 (.tmp 14), none⟩,
    ⟨some 16, .binOp .sub 3 (.tmp 13) (.tmp 15) 3, none⟩,
    ⟨some 17, .binOp .mul 3 (.tmp 11) (.tmp 16) 3, none⟩,
    ⟨some 18, .fieldAddr 56 (.tmp 4) 1, none⟩,
    ⟨some 19, .load 3 (.tmp 18), none⟩,
    ⟨some 20, .fieldAddr 56 (.tmp 3) 1, none⟩,
    ⟨some 21, .load 3 (.tmp 20), none⟩,
    ⟨some 22, .binOp .sub 3 (.tmp 19) (.tmp 21) 3, none⟩,
    ⟨some 23, .fieldAddr 56 (.tmp 5) 0, none⟩,
    ⟨some 24, .load 3 (.tmp 23), none⟩,
    ⟨some 25, .fieldAddr 56 (.tmp 3) 0, none⟩,
    ⟨some 26, .load 3 (.tmp 25), none⟩,
    ⟨some 27, .binOp .sub 3 (.tmp 24) (.tmp 26) 3, none⟩,
    ⟨some 28, .binOp .mul 3 (.tmp 22) (.tmp 27) 3, none⟩,
    ⟨some 29, .binOp .sub 3 (.tmp 17) (.tmp 28) 3, none⟩,
    ⟨some 6, .assign (.tmp 29), none⟩])
  .ret))
theorem c136 : f136.body.bind (comp f136.ntmps) = some p136 := by kernel_rfl

def p137l0 : PC :=
  (.seq (.reg [⟨some 9, .binOp .lss 3 (.tmp 8) (.tmp 7) 3, none⟩])
  (.seq (.cond (.tmp 9)
    .skip
    (.exit 0))
  (.seq (.block 1
    (.seq (.reg [⟨some 10, .move (.tmp 8), none⟩,
      ⟨some 5, .assign (.tmp 10), none⟩])
    (.seq (.reg [⟨some 11, .move (.tmp 1), none⟩,
      ⟨some 12, .move (.tmp 0), none⟩,
      ⟨some 13, .move (.tmp 5), none⟩,
      ⟨some 14, .indexAddr 54 (.tmp 12) (.tmp 13), none⟩,
      ⟨some 15, .load 56 (.tmp 14), none⟩,
      ⟨some 16, .call ⟨.value (.tmp 11), #[(.tmp 15)], #[56]⟩, none⟩])
    (.cond (.tmp 16)
      (.seq (.reg [⟨some 17, .move (.tmp 5), none⟩,
        ⟨some 4, .assign (.tmp 17), none⟩])
      .ret)
      .skip))))
  (.reg [⟨some 18, .binOp .add 3 (.tmp 8) (.const (.int .i64 1)) 3, none⟩,
    ⟨some 8, .move (.tmp 18), none⟩]))))
def p137 : PC :=
  (.seq (.reg [⟨some 4, .assign (.const (.int .i64 0)), none⟩])
  (.seq (.seq (.reg [⟨some 6, .move (.tmp 0), none⟩,
    ⟨some 7, .call ⟨.builtin .len, #[(.tmp 6)], #[54]⟩, none⟩,
    ⟨some 8, .move (.const (.int .i64 0)), none⟩])
  (.block 0
    (.loop p137l0)))
  (.seq (.reg [⟨some 4, .assign (.const (.int .i64 (-1))), none⟩])
  .ret)))
theorem c137 : f137.body.bind (comp f137.ntmps) = some p137 := by kernel_rfl

def p143 : PC :=
  (.seq (.reg [⟨some 4, .assign (.const (.slice none 0 0)), none⟩])
  (.seq (.seq (.reg [⟨some 5, .move (.tmp 1), none⟩,
    ⟨some 6, .binOp .lss 3 (.tmp 5) (.const (.int .i64 0)) 3, none⟩])
  (.cond (.tmp 6)
    (.reg [⟨some 7, .makeInterface 9 (.const (.string ⟨#[99, 97, 110, 110, 111, 116, 32, 98, 101, 32, 110, 101, 103, 97, 116, 105, 118, 101]⟩)), none⟩,
      ⟨none, .panic (.tmp 7), none⟩])
    .skip))
  (.seq (.seq (.reg [⟨some 8, .move (.tmp 1), none⟩,
    ⟨some 9, .move (.tmp 0), none⟩,
    ⟨some 10, .call ⟨.builtin .cap, #[(.tmp 9)], #[54]⟩, none⟩,
    ⟨some 11, .move (.tmp 0), none⟩,
    ⟨some 12, .call ⟨.builtin .len, #[(.tmp 11)], #[54]⟩, none⟩,
    ⟨some 13, .binOp .sub 3 (.tmp 10) (.tmp 12) 3, none⟩,
    ⟨some 14, .binOp .sub 3 (.tmp 8) (.tmp 13) 3, none⟩,
    ⟨some 1, .assign (.tmp 14), none⟩])
  (.seq (.reg [⟨some 15, .move (.tmp 1), none⟩,
    ⟨some 16, .binOp .gtr 3 (.tmp 15) (.const (.int .i64 0)) 3, none⟩])
  (.cond (.tmp 16)
    (.reg [⟨some 17, .move (.tmp 0), none⟩,
      ⟨some 18, .move (.tmp 0), none⟩,
      ⟨some 19, .call ⟨.builtin .cap, #[(.tmp 18)], #[54]⟩, none⟩,
      ⟨some 20, .slice 54 (.tmp 17) none (some (.tmp 19)) none, none⟩,
      ⟨some 21, .move (.tmp 1), none⟩,
      ⟨some 22, .call ⟨.builtin .append, #[(.tmp 20), (.tmp 21)], #[54, 3]⟩, none⟩,
      ⟨some 23, .move (.tmp 0), none⟩,
      ⟨some 24, .call ⟨.builtin .len, #[(.tmp 23)], #[54]⟩, none⟩,
      ⟨some 25, .slice 54 (.tmp 22) none (some (.tmp 24)) none, none⟩,
      ⟨some 0, .assign (.tmp 25), none⟩])
    .skip)))
  (.seq (.reg [⟨some 26, .move (.tmp 0), none⟩,
    ⟨some 4, .assign (.tmp 26), none⟩])
  .ret))))
theorem c143 : f143.body.bind (comp f143.ntmps) = some p143 := by kernel_rfl

def p147 : PC :=
  (.seq (.reg [⟨some 2, .box 56 (.tmp 0), none⟩,
    ⟨some 3, .box 56 (.tmp 1), none⟩,
    ⟨some 4, .assign (.const (.bool false)), none⟩])
  (.seq (.reg [⟨some 5, .fieldAddr 56 (.tmp 2) 0, none⟩,
    ⟨some 6, .load 3 (.tmp 5), none⟩,
    ⟨some 7, .fieldAddr 56 (.tmp 3) 0, none⟩,
    ⟨some 8, .load 3 (.tmp 7), none⟩,
    ⟨some 9, .binOp .lss 3 (.tmp 6) (.tmp 8) 3, none⟩,
    ⟨some 10, .move (.tmp 9), none⟩,
    ⟨some 11, .fieldAddr 56 (.tmp 2) 0, some ((some 10), false)⟩,
    ⟨some 12, .load 3 (.tmp 11), some ((some 10), false)⟩,
    ⟨some 13, .fieldAddr 56 (.tmp 3) 0, some ((some 10), false)⟩,
    ⟨some 14, .load 3 (.tmp 13), some ((some 10), false)⟩,
    ⟨some 15, .binOp .eql 3 (.tmp 12) (.tmp 14) 3, some ((some 10), false)⟩,
    ⟨some 16, .move (.tmp 15), some ((some 10), false)⟩,
    ⟨some 17, .fieldAddr 56 (.tmp 2) 1, some ((some 16), true)⟩,
    ⟨some 18, .load 3 (.tmp 17), some ((some 16), true)⟩,
    ⟨some 19, .fieldAddr 56 (.tmp 3) 1, some ((some 16), true)⟩,
    ⟨some 20, .load 3 (.tmp 19), some ((some 16), true)⟩,
    ⟨some 21, .binOp .lss 3 (.tmp 18) (.tmp 20) 3, some ((some 16), true)⟩,
    ⟨some 22, .pick (.tmp 16) (.tmp 21) (.const (.bool false)), some ((some 10), false)⟩,
    ⟨some 23, .pick (.tmp 10) (.const (.bool true)) (.tmp 22), none⟩,
    ⟨some 4, .assign (.tmp 23), none⟩])
  .ret))
theorem c147 : f147.body.bind (comp f147.ntmps) = some p147 := by kernel_rfl

def p148l0 : PC :=
  (.seq (.reg [⟨some 8, .binOp .lss 3 (.tmp 7) (.tmp 6) 3, none⟩])
  (.seq (.cond (.tmp 8)
    .skip
    (.exit 0))
  (.seq (.block 1
    (.seq (.reg [⟨some 9, .move (.tmp 7), none⟩,
      ⟨some 10, .indexAddr 54 (.tmp 5) (.tmp 7), none⟩,
      ⟨some 11, .load 56 (.tmp 10), none⟩,
      ⟨some 4, .alloc 56, none⟩,
      ⟨some 3, .assign (.tmp 9), none⟩,
      ⟨none, .store 56 (.tmp 4) (.tmp 11), none⟩])
    (.seq (.draw [0, 0, 0, 0, 8, 0, 32, 120, 252, 508, 1023, 2047] [⟨some 12, .move (.tmp 0), none⟩,
      ⟨some 13, .load 56 (.tmp 4), none⟩,
      ⟨some 14, .load 54 (.tmp 1), none⟩,
      ⟨some 15, .move (.tmp 3), none⟩,
      ⟨some 16, .binOp .add 3 (.tmp 15) (.const (.int .i64 1)) 3, none⟩,
      ⟨some 17, .load 54 (.tmp 1), none⟩,
      ⟨some 18, .call ⟨.builtin .len, #[(.tmp 17)], #[54]⟩, none⟩,
      ⟨some 19, .binOp .rem 3 (.tmp 16) (.tmp 18) 3, none⟩,
      ⟨some 20, .indexAddr 54 (.tmp 14) (.tmp 19), none⟩,
      ⟨some 21, .load 56 (.tmp 20), none⟩]
      [⟨some 22, .call ⟨.value (.tmp 12), #[(.tmp 13), (.tmp 21)], #[56, 56]⟩, none⟩,
      ⟨some 23, .unOp .not 4 (.tmp 22), none⟩])
    (.cond (.tmp 23)
      .ret
      .skip))))
  (.reg [⟨some 24, .binOp .add 3 (.tmp 7) (.const (.int .i64 1)) 3, none⟩,
    ⟨some 7, .move (.tmp 24), none⟩]))))
def p148 : PC :=
  (.seq (.reg [⟨some 5, .load 54 (.tmp 1), none⟩,
    ⟨some 6, .call ⟨.builtin .len, #[(.tmp 5)], #[54]⟩, none⟩,
    ⟨some 7, .move (.const (.int .i64 0)), none⟩])
  (.block 0
    (.loop p148l0)))
theorem c148 : f148.body.bind (comp f148.ntmps) = some p148 := by kernel_rfl

end Go.Proofs.Try
