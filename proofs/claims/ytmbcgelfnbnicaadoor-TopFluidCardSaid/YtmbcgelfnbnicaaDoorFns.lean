/-
  The functions of this seat as abstract code. Printed by a program of this claim's writer.
-/
import Derived.Test.YtmbcgelfnbnicaaDoorChecked
import Derived.Test.YtmbcgelfnbnicaaDoorAmS
import Derived.KernelRfl
namespace Go.Proofs.YtmbcgelfnbnicaaDoor
open Go Go.Am

/- function 3: weirhouse/weirhousetop.TopPaced; parameters 3; operations that are not compiled: 0 -/
def f3r0 : List AInstr := [
    ⟨(some 6), none, .mov (.const (.bool false))⟩]

def f3r1 : List AInstr := [
    ⟨(some 17), none, .callF 6 []⟩,
    ⟨(some 18), none, .un .not (.tmp 17)⟩]

def f3r2 : List AInstr := [
    ⟨(some 6), none, .mov (.const (.bool false))⟩]

def f3r3 : List AInstr := [
    ⟨(some 19), none, .mov (.tmp 1)⟩,
    ⟨(some 20), none, .ibin .lss (.tmp 19) (.const (.int .i64 1500))⟩,
    ⟨(some 21), none, .mov (.tmp 20)⟩,
    ⟨(some 22), (some (21, false)), .mov (.tmp 2)⟩,
    ⟨(some 23), (some (21, false)), .len (.tmp 22)⟩,
    ⟨(some 24), (some (21, false)), .ibin .gtr (.tmp 23) (.const (.int .i64 60))⟩,
    ⟨(some 25), none, .pick (.tmp 21) (.const (.bool true)) (.tmp 24)⟩]

def f3r4 : List AInstr := [
    ⟨(some 6), none, .mov (.const (.bool true))⟩]

def f3r5 : List AInstr := [
    ⟨(some 27), none, .mov (.tmp 0)⟩,
    ⟨(some 28), none, .mov (.tmp 1)⟩,
    ⟨(some 29), none, .mov (.tmp 2)⟩,
    ⟨(some 30), none, .callF 7 [.tmp 27, .tmp 28, .const (.int .i64 0), .tmp 29]⟩,
    ⟨(some 26), none, .mov (.tmp 30)⟩,
    ⟨(some 31), none, .extract 0 (.tmp 26)⟩,
    ⟨(some 32), none, .extract 1 (.tmp 26)⟩,
    ⟨(some 33), none, .extract 2 (.tmp 26)⟩,
    ⟨(some 8), none, .alloc [.int .i64 0, .int .i64 0, .int .i64 0, .int .i64 0, .int .i64 0, .int .i64 0]⟩,
    ⟨(some 7), none, .mov (.tmp 31)⟩,
    ⟨none, none, .store 6 (.tmp 8) (.tmp 32)⟩,
    ⟨(some 9), none, .mov (.tmp 33)⟩]

def f3r6 : List AInstr := [
    ⟨(some 34), none, .mov (.tmp 9)⟩,
    ⟨(some 35), none, .ibin .neq (.tmp 34) (.const (.int .i64 0))⟩,
    ⟨(some 36), none, .mov (.tmp 35)⟩,
    ⟨(some 37), (some (36, false)), .mov (.tmp 7)⟩,
    ⟨(some 38), (some (36, false)), .len (.tmp 37)⟩,
    ⟨(some 39), (some (36, false)), .mov (.tmp 2)⟩,
    ⟨(some 40), (some (36, false)), .len (.tmp 39)⟩,
    ⟨(some 41), (some (36, false)), .ibin .neq (.tmp 38) (.tmp 40)⟩,
    ⟨(some 42), none, .pick (.tmp 36) (.const (.bool true)) (.tmp 41)⟩]

def f3r7 : List AInstr := [
    ⟨(some 43), none, .mov (.tmp 9)⟩,
    ⟨(some 44), none, .ibin .neq (.tmp 43) (.const (.int .i64 0))⟩,
    ⟨(some 6), none, .mov (.tmp 44)⟩]

def f3r8 : List AInstr := [
    ⟨(some 10), none, .mov (.const (.slice none 0 0))⟩]

def f3r9 : List AInstr := [
    ⟨(some 11), none, .mov (.const (.int .i64 0))⟩]

def f3r10 : List AInstr := [
    ⟨(some 45), none, .mov (.tmp 2)⟩,
    ⟨(some 46), none, .len (.tmp 45)⟩,
    ⟨(some 47), none, .mov (.const (.int .i64 0))⟩]

def f3r11 : List AInstr := [
    ⟨(some 48), none, .ibin .lss (.tmp 47) (.tmp 46)⟩]

def f3r12 : List AInstr := [
    ⟨(some 49), none, .mov (.tmp 47)⟩,
    ⟨(some 50), none, .indexAddr 2 (.tmp 45) (.tmp 47)⟩,
    ⟨(some 51), none, .load (some 2) (.tmp 50)⟩,
    ⟨(some 13), none, .alloc [.int .i64 0, .int .i64 0]⟩,
    ⟨(some 12), none, .mov (.tmp 49)⟩,
    ⟨none, none, .store 2 (.tmp 13) (.tmp 51)⟩]

def f3r13 : List AInstr := [
    ⟨(some 52), none, .fieldAddr 1 (.tmp 13)⟩,
    ⟨(some 53), none, .load none (.tmp 52)⟩,
    ⟨(some 54), none, .ibin .lss (.tmp 53) (.const (.int .i64 1))⟩,
    ⟨(some 55), none, .mov (.tmp 54)⟩,
    ⟨(some 56), (some (55, false)), .fieldAddr 1 (.tmp 13)⟩,
    ⟨(some 57), (some (55, false)), .load none (.tmp 56)⟩,
    ⟨(some 58), (some (55, false)), .ibin .gtr (.tmp 57) (.const (.int .i64 1500))⟩,
    ⟨(some 59), none, .pick (.tmp 55) (.const (.bool true)) (.tmp 58)⟩]

def f3r14 : List AInstr := [
    ⟨(some 6), none, .mov (.const (.bool true))⟩]

def f3r15 : List AInstr := [
    ⟨(some 60), none, .mov (.tmp 10)⟩,
    ⟨(some 61), none, .fieldAddr 0 (.tmp 13)⟩,
    ⟨(some 62), none, .load none (.tmp 61)⟩,
    ⟨(some 63), none, .mov (.tmp 11)⟩,
    ⟨(some 64), none, .ibin .sub (.tmp 62) (.tmp 63)⟩,
    ⟨(some 65), none, .build [.int .i64 0, .int .i64 0] [(0, 1, (.const (.int .i64 2))), (1, 1, (.tmp 64))]⟩,
    ⟨(some 66), none, .buildSlice 2 1 [.int .i64 0, .int .i64 0] [(0, 2, (.tmp 65))]⟩,
    ⟨(some 67), none, .append 2 16 (.tmp 60) (.tmp 66)⟩,
    ⟨(some 10), none, .mov (.tmp 67)⟩]

def f3r16 : List AInstr := [
    ⟨(some 68), none, .fieldAddr 0 (.tmp 13)⟩,
    ⟨(some 69), none, .load none (.tmp 68)⟩,
    ⟨(some 11), none, .mov (.tmp 69)⟩]

def f3r17 : List AInstr := [
    ⟨(some 70), none, .mov (.tmp 7)⟩,
    ⟨(some 71), none, .mov (.tmp 12)⟩,
    ⟨(some 72), none, .indexAddr 1 (.tmp 70) (.tmp 71)⟩,
    ⟨(some 73), none, .load none (.tmp 72)⟩,
    ⟨(some 74), none, .ibin .eql (.tmp 73) (.const (.int .i64 1))⟩]

def f3r18 : List AInstr := [
    ⟨(some 75), none, .mov (.tmp 10)⟩,
    ⟨(some 76), none, .fieldAddr 1 (.tmp 13)⟩,
    ⟨(some 77), none, .load none (.tmp 76)⟩,
    ⟨(some 78), none, .build [.int .i64 0, .int .i64 0] [(0, 1, (.const (.int .i64 1))), (1, 1, (.tmp 77))]⟩,
    ⟨(some 79), none, .build [.int .i64 0, .int .i64 0] [(0, 1, (.const (.int .i64 3))), (1, 1, (.const (.int .i64 1073741824)))]⟩,
    ⟨(some 80), none, .buildSlice 2 2 [.int .i64 0, .int .i64 0, .int .i64 0, .int .i64 0] [(0, 2, (.tmp 78)), (2, 2, (.tmp 79))]⟩,
    ⟨(some 81), none, .append 2 16 (.tmp 75) (.tmp 80)⟩,
    ⟨(some 10), none, .mov (.tmp 81)⟩]

def f3r19 : List AInstr := [
    ⟨(some 82), none, .ibin .add (.tmp 47) (.const (.int .i64 1))⟩,
    ⟨(some 47), none, .mov (.tmp 82)⟩]

/-- live: [0, 1, 7, 10, 11, 45, 46, 47] -/
def f3l0 : ACode := (.seq (.ops f3r11)
  (.keep [0, 1, 7, 10, 11, 45, 46, 47, 48] (.seq (.cond (.tmp 48) .skip (.exit 0))
  (.keep [0, 1, 7, 10, 11, 45, 46, 47] (.seq (.block 1 (.seq (.ops f3r12)
  (.keep [0, 1, 7, 10, 11, 12, 13, 45, 46, 47] (.seq (.seq (.ops f3r13)
  (.keep [0, 1, 7, 10, 11, 12, 13, 45, 46, 47, 59] (.cond (.tmp 59) (.keep [] (.seq (.ops f3r14)
  (.keep [6] .ret))) .skip)))
  (.keep [0, 1, 7, 10, 11, 12, 13, 45, 46, 47] (.seq (.ops f3r15)
  (.keep [0, 1, 7, 10, 12, 13, 45, 46, 47] (.seq (.ops f3r16)
  (.keep [0, 1, 7, 10, 11, 12, 13, 45, 46, 47] (.seq (.ops f3r17)
  (.keep [0, 1, 7, 10, 11, 13, 45, 46, 47, 74] (.cond (.tmp 74) (.keep [0, 1, 7, 10, 11, 13, 45, 46, 47] (.ops f3r18)) .skip))))))))))))
  (.keep [0, 1, 7, 10, 11, 45, 46, 47] (.ops f3r19)))))))

def f3r21 : List AInstr := [
    ⟨(some 84), none, .mov (.tmp 0)⟩,
    ⟨(some 85), none, .mov (.tmp 1)⟩,
    ⟨(some 86), none, .mov (.tmp 10)⟩,
    ⟨(some 87), none, .callF 8 [.tmp 84, .const (.int .i64 1), .tmp 85, .tmp 86]⟩,
    ⟨(some 83), none, .mov (.tmp 87)⟩,
    ⟨(some 88), none, .extract 0 (.tmp 83)⟩,
    ⟨(some 89), none, .extract 1 (.tmp 83)⟩,
    ⟨(some 90), none, .extract 2 (.tmp 83)⟩,
    ⟨(some 15), none, .alloc [.slice none 0 0, .int .i64 0, .int .i64 0, .int .i64 0, .int .i64 0, .int .i64 0, .int .i64 0, .int .i64 0, .int .i64 0, .int .i64 0]⟩,
    ⟨(some 14), none, .mov (.tmp 88)⟩,
    ⟨none, none, .store 10 (.tmp 15) (.tmp 89)⟩,
    ⟨(some 16), none, .mov (.tmp 90)⟩]

def f3r22 : List AInstr := [
    ⟨(some 91), none, .mov (.tmp 16)⟩,
    ⟨(some 92), none, .ibin .neq (.tmp 91) (.const (.int .i64 0))⟩,
    ⟨(some 93), none, .mov (.tmp 92)⟩,
    ⟨(some 94), (some (93, false)), .mov (.tmp 14)⟩,
    ⟨(some 95), (some (93, false)), .len (.tmp 94)⟩,
    ⟨(some 96), (some (93, false)), .mov (.tmp 10)⟩,
    ⟨(some 97), (some (93, false)), .len (.tmp 96)⟩,
    ⟨(some 98), (some (93, false)), .ibin .neq (.tmp 95) (.tmp 97)⟩,
    ⟨(some 99), none, .pick (.tmp 93) (.const (.bool true)) (.tmp 98)⟩]

def f3r23 : List AInstr := [
    ⟨(some 6), none, .mov (.const (.bool false))⟩]

def f3r24 : List AInstr := [
    ⟨(some 100), none, .fieldAddr 0 (.tmp 15)⟩,
    ⟨(some 101), none, .fieldAddr 0 (.tmp 100)⟩,
    ⟨(some 102), none, .load none (.tmp 101)⟩,
    ⟨(some 103), none, .len (.tmp 102)⟩,
    ⟨(some 104), none, .ibin .eql (.tmp 103) (.const (.int .i64 0))⟩,
    ⟨(some 105), none, .mov (.tmp 104)⟩,
    ⟨(some 106), (some (105, true)), .fieldAddr 0 (.tmp 15)⟩,
    ⟨(some 107), (some (105, true)), .fieldAddr 3 (.tmp 106)⟩,
    ⟨(some 108), (some (105, true)), .load none (.tmp 107)⟩,
    ⟨(some 109), (some (105, true)), .ibin .eql (.tmp 108) (.const (.int .i64 0))⟩,
    ⟨(some 110), none, .pick (.tmp 105) (.tmp 109) (.const (.bool false))⟩,
    ⟨(some 6), none, .mov (.tmp 110)⟩]

def f3b : ACode := (.seq (.ops f3r0)
  (.keep [0, 1, 2] (.seq (.seq (.ops f3r1)
  (.keep [0, 1, 2, 18] (.cond (.tmp 18) (.keep [] (.seq (.ops f3r2)
  (.keep [6] .ret))) .skip)))
  (.keep [0, 1, 2] (.seq (.seq (.ops f3r3)
  (.keep [0, 1, 2, 25] (.cond (.tmp 25) (.keep [] (.seq (.ops f3r4)
  (.keep [6] .ret))) .skip)))
  (.keep [0, 1, 2] (.seq (.ops f3r5)
  (.keep [0, 1, 2, 7, 9] (.seq (.seq (.ops f3r6)
  (.keep [0, 1, 2, 7, 9, 42] (.cond (.tmp 42) (.keep [9] (.seq (.ops f3r7)
  (.keep [6] .ret))) .skip)))
  (.keep [0, 1, 2, 7] (.seq (.ops f3r8)
  (.keep [0, 1, 2, 7, 10] (.seq (.ops f3r9)
  (.keep [0, 1, 2, 7, 10, 11] (.seq (.seq (.ops f3r10)
  (.keep [0, 1, 7, 10, 11, 45, 46, 47] (.block 0 (.loop f3l0))))
  (.keep [0, 1, 10] (.seq (.ops f3r21)
  (.keep [10, 14, 15, 16] (.seq (.seq (.ops f3r22)
  (.keep [15, 99] (.cond (.tmp 99) (.keep [] (.seq (.ops f3r23)
  (.keep [6] .ret))) .skip)))
  (.keep [15] (.seq (.ops f3r24)
  (.keep [6] .ret))))))))))))))))))))))

def f3 : AFn := ⟨111, [.tmp 6], f3b⟩

theorem f3_ok : compFn Tryd.prog 3 = some f3.strip := by kernel_rfl

/- function 4: weirhouse/weirhousetop.TopLate; parameters 2; operations that are not compiled: 0 -/
def f4r0 : List AInstr := [
    ⟨(some 4), none, .mov (.const (.bool false))⟩]

def f4r1 : List AInstr := [
    ⟨(some 18), none, .callF 6 []⟩,
    ⟨(some 19), none, .un .not (.tmp 18)⟩]

def f4r2 : List AInstr := [
    ⟨(some 4), none, .mov (.const (.bool false))⟩]

def f4r3 : List AInstr := [
    ⟨(some 20), none, .mov (.tmp 0)⟩,
    ⟨(some 21), none, .ibin .lss (.tmp 20) (.const (.int .i64 1))⟩,
    ⟨(some 22), none, .mov (.tmp 21)⟩,
    ⟨(some 23), (some (22, false)), .mov (.tmp 0)⟩,
    ⟨(some 24), (some (22, false)), .ibin .gtr (.tmp 23) (.const (.int .i64 50))⟩,
    ⟨(some 25), none, .pick (.tmp 22) (.const (.bool true)) (.tmp 24)⟩,
    ⟨(some 26), none, .mov (.tmp 25)⟩,
    ⟨(some 27), (some (26, false)), .mov (.tmp 1)⟩,
    ⟨(some 28), (some (26, false)), .len (.tmp 27)⟩,
    ⟨(some 29), (some (26, false)), .ibin .gtr (.tmp 28) (.const (.int .i64 60))⟩,
    ⟨(some 30), none, .pick (.tmp 26) (.const (.bool true)) (.tmp 29)⟩]

def f4r4 : List AInstr := [
    ⟨(some 4), none, .mov (.const (.bool true))⟩]

def f4r5 : List AInstr := [
    ⟨(some 5), none, .mov (.const (.int .i64 0))⟩]

def f4r6 : List AInstr := [
    ⟨(some 6), none, .mov (.const (.slice none 0 0))⟩]

def f4r7 : List AInstr := [
    ⟨(some 31), none, .mov (.tmp 1)⟩,
    ⟨(some 32), none, .len (.tmp 31)⟩,
    ⟨(some 33), none, .mov (.const (.int .i64 0))⟩]

def f4r8 : List AInstr := [
    ⟨(some 34), none, .ibin .lss (.tmp 33) (.tmp 32)⟩]

def f4r9 : List AInstr := [
    ⟨(some 35), none, .mov (.tmp 33)⟩,
    ⟨(some 36), none, .indexAddr 1 (.tmp 31) (.tmp 33)⟩,
    ⟨(some 37), none, .load none (.tmp 36)⟩,
    ⟨(some 7), none, .mov (.tmp 35)⟩,
    ⟨(some 8), none, .mov (.tmp 37)⟩]

def f4r10 : List AInstr := [
    ⟨(some 38), none, .mov (.tmp 8)⟩,
    ⟨(some 39), none, .ibin .lss (.tmp 38) (.const (.int .i64 0))⟩,
    ⟨(some 40), none, .mov (.tmp 39)⟩,
    ⟨(some 41), (some (40, false)), .mov (.tmp 8)⟩,
    ⟨(some 42), (some (40, false)), .ibin .gtr (.tmp 41) (.const (.int .i64 500))⟩,
    ⟨(some 43), none, .pick (.tmp 40) (.const (.bool true)) (.tmp 42)⟩]

def f4r11 : List AInstr := [
    ⟨(some 4), none, .mov (.const (.bool true))⟩]

def f4r12 : List AInstr := [
    ⟨(some 44), none, .mov (.tmp 5)⟩,
    ⟨(some 45), none, .mov (.tmp 8)⟩,
    ⟨(some 46), none, .ibin .add (.tmp 44) (.tmp 45)⟩,
    ⟨(some 5), none, .mov (.tmp 46)⟩]

def f4r13 : List AInstr := [
    ⟨(some 47), none, .mov (.tmp 6)⟩,
    ⟨(some 48), none, .mov (.tmp 7)⟩,
    ⟨(some 49), none, .mov (.tmp 0)⟩,
    ⟨(some 50), none, .ibin .mul (.tmp 48) (.tmp 49)⟩,
    ⟨(some 51), none, .mov (.tmp 8)⟩,
    ⟨(some 52), none, .build [.int .i64 0, .int .i64 0] [(0, 1, (.tmp 50)), (1, 1, (.tmp 51))]⟩,
    ⟨(some 53), none, .buildSlice 2 1 [.int .i64 0, .int .i64 0] [(0, 2, (.tmp 52))]⟩,
    ⟨(some 54), none, .append 2 16 (.tmp 47) (.tmp 53)⟩,
    ⟨(some 6), none, .mov (.tmp 54)⟩]

def f4r14 : List AInstr := [
    ⟨(some 55), none, .ibin .add (.tmp 33) (.const (.int .i64 1))⟩,
    ⟨(some 33), none, .mov (.tmp 55)⟩]

/-- live: [0, 1, 5, 6, 31, 32, 33] -/
def f4l0 : ACode := (.seq (.ops f4r8)
  (.keep [0, 1, 5, 6, 31, 32, 33, 34] (.seq (.cond (.tmp 34) .skip (.exit 0))
  (.keep [0, 1, 5, 6, 31, 32, 33] (.seq (.block 1 (.seq (.ops f4r9)
  (.keep [0, 1, 5, 6, 7, 8, 31, 32, 33] (.seq (.seq (.ops f4r10)
  (.keep [0, 1, 5, 6, 7, 8, 31, 32, 33, 43] (.cond (.tmp 43) (.keep [] (.seq (.ops f4r11)
  (.keep [4] .ret))) .skip)))
  (.keep [0, 1, 5, 6, 7, 8, 31, 32, 33] (.seq (.ops f4r12)
  (.keep [0, 1, 5, 6, 7, 8, 31, 32, 33] (.ops f4r13))))))))
  (.keep [0, 1, 5, 6, 31, 32, 33] (.ops f4r14)))))))

def f4r16 : List AInstr := [
    ⟨(some 57), none, .mov (.tmp 0)⟩,
    ⟨(some 58), none, .build [.int .i64 0, .int .i64 0] [(1, 1, (.tmp 57))]⟩,
    ⟨(some 59), none, .mov (.tmp 1)⟩,
    ⟨(some 60), none, .callF 9 [.tmp 58, .tmp 59]⟩,
    ⟨(some 56), none, .mov (.tmp 60)⟩,
    ⟨(some 61), none, .extract 0 (.tmp 56)⟩,
    ⟨(some 62), none, .extract 1 (.tmp 56)⟩,
    ⟨(some 9), none, .mov (.tmp 61)⟩,
    ⟨(some 10), none, .mov (.tmp 62)⟩]

def f4r17 : List AInstr := [
    ⟨(some 64), none, .mov (.tmp 6)⟩,
    ⟨(some 65), none, .callF 10 [.tmp 64]⟩,
    ⟨(some 63), none, .mov (.tmp 65)⟩,
    ⟨(some 66), none, .extract 0 (.tmp 63)⟩,
    ⟨(some 67), none, .extract 1 (.tmp 63)⟩,
    ⟨(some 11), none, .mov (.tmp 66)⟩,
    ⟨(some 12), none, .mov (.tmp 67)⟩]

def f4r18 : List AInstr := [
    ⟨(some 69), none, .mov (.tmp 5)⟩,
    ⟨(some 70), none, .build [.int .i64 0, .int .i64 0] [(0, 1, (.tmp 69))]⟩,
    ⟨(some 71), none, .mov (.tmp 1)⟩,
    ⟨(some 72), none, .callF 11 [.tmp 70, .tmp 71]⟩,
    ⟨(some 68), none, .mov (.tmp 72)⟩,
    ⟨(some 73), none, .extract 0 (.tmp 68)⟩,
    ⟨(some 74), none, .extract 1 (.tmp 68)⟩,
    ⟨(some 13), none, .mov (.tmp 73)⟩,
    ⟨(some 14), none, .mov (.tmp 74)⟩]

def f4r19 : List AInstr := [
    ⟨(some 75), none, .mov (.tmp 10)⟩,
    ⟨(some 76), none, .ibin .neq (.tmp 75) (.const (.int .i64 0))⟩,
    ⟨(some 77), none, .mov (.tmp 76)⟩,
    ⟨(some 78), (some (77, false)), .mov (.tmp 12)⟩,
    ⟨(some 79), (some (77, false)), .ibin .neq (.tmp 78) (.const (.int .i64 0))⟩,
    ⟨(some 80), none, .pick (.tmp 77) (.const (.bool true)) (.tmp 79)⟩,
    ⟨(some 81), none, .mov (.tmp 80)⟩,
    ⟨(some 82), (some (81, false)), .mov (.tmp 14)⟩,
    ⟨(some 83), (some (81, false)), .ibin .neq (.tmp 82) (.const (.int .i64 0))⟩,
    ⟨(some 84), none, .pick (.tmp 81) (.const (.bool true)) (.tmp 83)⟩,
    ⟨(some 85), none, .mov (.tmp 84)⟩,
    ⟨(some 86), (some (85, false)), .mov (.tmp 13)⟩,
    ⟨(some 87), (some (85, false)), .un .not (.tmp 86)⟩,
    ⟨(some 88), none, .pick (.tmp 85) (.const (.bool true)) (.tmp 87)⟩,
    ⟨(some 89), none, .mov (.tmp 88)⟩,
    ⟨(some 90), (some (89, false)), .mov (.tmp 9)⟩,
    ⟨(some 91), (some (89, false)), .len (.tmp 90)⟩,
    ⟨(some 92), (some (89, false)), .mov (.tmp 1)⟩,
    ⟨(some 93), (some (89, false)), .len (.tmp 92)⟩,
    ⟨(some 94), (some (89, false)), .ibin .neq (.tmp 91) (.tmp 93)⟩,
    ⟨(some 95), none, .pick (.tmp 89) (.const (.bool true)) (.tmp 94)⟩,
    ⟨(some 96), none, .mov (.tmp 95)⟩,
    ⟨(some 97), (some (96, false)), .mov (.tmp 11)⟩,
    ⟨(some 98), (some (96, false)), .len (.tmp 97)⟩,
    ⟨(some 99), (some (96, false)), .mov (.tmp 1)⟩,
    ⟨(some 100), (some (96, false)), .len (.tmp 99)⟩,
    ⟨(some 101), (some (96, false)), .ibin .neq (.tmp 98) (.tmp 100)⟩,
    ⟨(some 102), none, .pick (.tmp 96) (.const (.bool true)) (.tmp 101)⟩]

def f4r20 : List AInstr := [
    ⟨(some 4), none, .mov (.const (.bool false))⟩]

def f4r21 : List AInstr := [
    ⟨(some 15), none, .mov (.const (.int .i64 0))⟩]

def f4r22 : List AInstr := [
    ⟨(some 103), none, .mov (.tmp 1)⟩,
    ⟨(some 104), none, .len (.tmp 103)⟩,
    ⟨(some 105), none, .mov (.const (.int .i64 0))⟩]

def f4r23 : List AInstr := [
    ⟨(some 106), none, .ibin .lss (.tmp 105) (.tmp 104)⟩]

def f4r24 : List AInstr := [
    ⟨(some 107), none, .mov (.tmp 105)⟩,
    ⟨(some 108), none, .indexAddr 1 (.tmp 103) (.tmp 105)⟩,
    ⟨(some 109), none, .load none (.tmp 108)⟩,
    ⟨(some 16), none, .mov (.tmp 107)⟩,
    ⟨(some 17), none, .mov (.tmp 109)⟩]

def f4r25 : List AInstr := [
    ⟨(some 110), none, .mov (.tmp 11)⟩,
    ⟨(some 111), none, .mov (.tmp 16)⟩,
    ⟨(some 112), none, .indexAddr 1 (.tmp 110) (.tmp 111)⟩,
    ⟨(some 113), none, .load none (.tmp 112)⟩,
    ⟨(some 114), none, .mov (.tmp 15)⟩,
    ⟨(some 115), none, .ibin .neq (.tmp 113) (.tmp 114)⟩]

def f4r26 : List AInstr := [
    ⟨(some 4), none, .mov (.const (.bool false))⟩]

def f4r27 : List AInstr := [
    ⟨(some 116), none, .mov (.tmp 15)⟩,
    ⟨(some 117), none, .mov (.tmp 17)⟩,
    ⟨(some 118), none, .mov (.tmp 9)⟩,
    ⟨(some 119), none, .mov (.tmp 16)⟩,
    ⟨(some 120), none, .indexAddr 1 (.tmp 118) (.tmp 119)⟩,
    ⟨(some 121), none, .load none (.tmp 120)⟩,
    ⟨(some 122), none, .ibin .sub (.tmp 117) (.tmp 121)⟩,
    ⟨(some 123), none, .ibin .add (.tmp 116) (.tmp 122)⟩,
    ⟨(some 15), none, .mov (.tmp 123)⟩]

def f4r28 : List AInstr := [
    ⟨(some 124), none, .ibin .add (.tmp 105) (.const (.int .i64 1))⟩,
    ⟨(some 105), none, .mov (.tmp 124)⟩]

/-- live: [9, 11, 15, 103, 104, 105] -/
def f4l1 : ACode := (.seq (.ops f4r23)
  (.keep [9, 11, 15, 103, 104, 105, 106] (.seq (.cond (.tmp 106) .skip (.exit 2))
  (.keep [9, 11, 15, 103, 104, 105] (.seq (.block 3 (.seq (.ops f4r24)
  (.keep [9, 11, 15, 16, 17, 103, 104, 105] (.seq (.seq (.ops f4r25)
  (.keep [9, 11, 15, 16, 17, 103, 104, 105, 115] (.cond (.tmp 115) (.keep [] (.seq (.ops f4r26)
  (.keep [4] .ret))) .skip)))
  (.keep [9, 11, 15, 16, 17, 103, 104, 105] (.ops f4r27))))))
  (.keep [9, 11, 15, 103, 104, 105] (.ops f4r28)))))))

def f4r30 : List AInstr := [
    ⟨(some 4), none, .mov (.const (.bool true))⟩]

def f4b : ACode := (.seq (.ops f4r0)
  (.keep [0, 1] (.seq (.seq (.ops f4r1)
  (.keep [0, 1, 19] (.cond (.tmp 19) (.keep [] (.seq (.ops f4r2)
  (.keep [4] .ret))) .skip)))
  (.keep [0, 1] (.seq (.seq (.ops f4r3)
  (.keep [0, 1, 30] (.cond (.tmp 30) (.keep [] (.seq (.ops f4r4)
  (.keep [4] .ret))) .skip)))
  (.keep [0, 1] (.seq (.ops f4r5)
  (.keep [0, 1, 5] (.seq (.ops f4r6)
  (.keep [0, 1, 5, 6] (.seq (.seq (.ops f4r7)
  (.keep [0, 1, 5, 6, 31, 32, 33] (.block 0 (.loop f4l0))))
  (.keep [0, 1, 5, 6] (.seq (.ops f4r16)
  (.keep [1, 5, 6, 9, 10] (.seq (.ops f4r17)
  (.keep [1, 5, 9, 10, 11, 12] (.seq (.ops f4r18)
  (.keep [1, 9, 10, 11, 12, 13, 14] (.seq (.seq (.ops f4r19)
  (.keep [1, 9, 11, 102] (.cond (.tmp 102) (.keep [] (.seq (.ops f4r20)
  (.keep [4] .ret))) .skip)))
  (.keep [1, 9, 11] (.seq (.ops f4r21)
  (.keep [1, 9, 11, 15] (.seq (.seq (.ops f4r22)
  (.keep [9, 11, 15, 103, 104, 105] (.block 2 (.loop f4l1))))
  (.keep [] (.seq (.ops f4r30)
  (.keep [4] .ret))))))))))))))))))))))))))

def f4 : AFn := ⟨125, [.tmp 4], f4b⟩

theorem f4_ok : compFn Tryd.prog 4 = some f4.strip := by kernel_rfl

/- function 5: weirhouse/weirhousetop.TopFluid; parameters 2; operations that are not compiled: 0 -/
def f5r0 : List AInstr := [
    ⟨(some 4), none, .mov (.const (.bool false))⟩]

def f5r1 : List AInstr := [
    ⟨(some 16), none, .callF 6 []⟩,
    ⟨(some 17), none, .un .not (.tmp 16)⟩]

def f5r2 : List AInstr := [
    ⟨(some 4), none, .mov (.const (.bool false))⟩]

def f5r3 : List AInstr := [
    ⟨(some 18), none, .mov (.tmp 0)⟩,
    ⟨(some 19), none, .mov (.tmp 1)⟩,
    ⟨(some 20), none, .callF 12 [.tmp 18, .tmp 19]⟩,
    ⟨(some 21), none, .ibin .neq (.tmp 20) (.const (.int .i64 0))⟩,
    ⟨(some 22), none, .mov (.tmp 21)⟩,
    ⟨(some 23), (some (22, false)), .mov (.tmp 1)⟩,
    ⟨(some 24), (some (22, false)), .callF 13 [.tmp 23]⟩,
    ⟨(some 25), (some (22, false)), .ibin .neq (.tmp 24) (.const (.int .i64 0))⟩,
    ⟨(some 26), none, .pick (.tmp 22) (.const (.bool true)) (.tmp 25)⟩,
    ⟨(some 27), none, .mov (.tmp 26)⟩,
    ⟨(some 28), (some (27, false)), .mov (.tmp 0)⟩,
    ⟨(some 29), (some (27, false)), .callF 14 [.tmp 28, .const (.func (.func 15) #[] #[])]⟩,
    ⟨(some 30), none, .pick (.tmp 27) (.const (.bool true)) (.tmp 29)⟩]

def f5r4 : List AInstr := [
    ⟨(some 4), none, .mov (.const (.bool true))⟩]

def f5r5 : List AInstr := [
    ⟨(some 32), none, .mov (.tmp 0)⟩,
    ⟨(some 33), none, .mov (.tmp 1)⟩,
    ⟨(some 34), none, .callF 16 [.tmp 32, .tmp 33]⟩,
    ⟨(some 31), none, .mov (.tmp 34)⟩,
    ⟨(some 35), none, .extract 0 (.tmp 31)⟩,
    ⟨(some 36), none, .extract 1 (.tmp 31)⟩,
    ⟨(some 5), none, .mov (.tmp 35)⟩,
    ⟨(some 6), none, .mov (.tmp 36)⟩]

def f5r6 : List AInstr := [
    ⟨(some 7), none, .mov (.const (.slice none 0 0))⟩]

def f5r7 : List AInstr := [
    ⟨(some 37), none, .mov (.tmp 0)⟩,
    ⟨(some 38), none, .len (.tmp 37)⟩,
    ⟨(some 39), none, .mov (.const (.int .i64 0))⟩]

def f5r8 : List AInstr := [
    ⟨(some 40), none, .ibin .lss (.tmp 39) (.tmp 38)⟩]

def f5r9 : List AInstr := [
    ⟨(some 41), none, .mov (.tmp 39)⟩,
    ⟨(some 42), none, .indexAddr 1 (.tmp 37) (.tmp 39)⟩,
    ⟨(some 43), none, .load none (.tmp 42)⟩,
    ⟨(some 8), none, .mov (.tmp 41)⟩,
    ⟨(some 9), none, .mov (.tmp 43)⟩]

def f5r10 : List AInstr := [
    ⟨(some 44), none, .mov (.tmp 7)⟩,
    ⟨(some 45), none, .mov (.tmp 8)⟩,
    ⟨(some 46), none, .mov (.tmp 9)⟩,
    ⟨(some 47), none, .build [.int .i64 0, .int .i64 0, .int .i64 0] [(0, 1, (.const (.int .i64 1))), (1, 1, (.tmp 45)), (2, 1, (.tmp 46))]⟩,
    ⟨(some 48), none, .buildSlice 3 1 [.int .i64 0, .int .i64 0, .int .i64 0] [(0, 3, (.tmp 47))]⟩,
    ⟨(some 49), none, .append 3 24 (.tmp 44) (.tmp 48)⟩,
    ⟨(some 7), none, .mov (.tmp 49)⟩]

def f5r11 : List AInstr := [
    ⟨(some 50), none, .ibin .add (.tmp 39) (.const (.int .i64 1))⟩,
    ⟨(some 39), none, .mov (.tmp 50)⟩]

/-- live: [0, 1, 5, 6, 7, 37, 38, 39] -/
def f5l0 : ACode := (.seq (.ops f5r8)
  (.keep [0, 1, 5, 6, 7, 37, 38, 39, 40] (.seq (.cond (.tmp 40) .skip (.exit 0))
  (.keep [0, 1, 5, 6, 7, 37, 38, 39] (.seq (.block 1 (.seq (.ops f5r9)
  (.keep [0, 1, 5, 6, 7, 8, 9, 37, 38, 39] (.ops f5r10))))
  (.keep [0, 1, 5, 6, 7, 37, 38, 39] (.ops f5r11)))))))

def f5r13 : List AInstr := [
    ⟨(some 51), none, .mov (.tmp 0)⟩,
    ⟨(some 52), none, .len (.tmp 51)⟩,
    ⟨(some 53), none, .mov (.const (.int .i64 0))⟩]

def f5r14 : List AInstr := [
    ⟨(some 54), none, .ibin .lss (.tmp 53) (.tmp 52)⟩]

def f5r15 : List AInstr := [
    ⟨(some 55), none, .mov (.tmp 7)⟩,
    ⟨(some 56), none, .build [.int .i64 0, .int .i64 0, .int .i64 0] [(0, 1, (.const (.int .i64 2)))]⟩,
    ⟨(some 57), none, .buildSlice 3 1 [.int .i64 0, .int .i64 0, .int .i64 0] [(0, 3, (.tmp 56))]⟩,
    ⟨(some 58), none, .append 3 24 (.tmp 55) (.tmp 57)⟩,
    ⟨(some 7), none, .mov (.tmp 58)⟩]

def f5r16 : List AInstr := [
    ⟨(some 59), none, .ibin .add (.tmp 53) (.const (.int .i64 1))⟩,
    ⟨(some 53), none, .mov (.tmp 59)⟩]

/-- live: [1, 5, 6, 7, 52, 53] -/
def f5l1 : ACode := (.seq (.ops f5r14)
  (.keep [1, 5, 6, 7, 52, 53, 54] (.seq (.cond (.tmp 54) .skip (.exit 2))
  (.keep [1, 5, 6, 7, 52, 53] (.seq (.block 3 (.ops f5r15))
  (.keep [1, 5, 6, 7, 52, 53] (.ops f5r16)))))))

def f5r18 : List AInstr := [
    ⟨(some 61), none, .mov (.tmp 1)⟩,
    ⟨(some 62), none, .mov (.tmp 7)⟩,
    ⟨(some 63), none, .callF 17 [.tmp 61, .tmp 62]⟩,
    ⟨(some 60), none, .mov (.tmp 63)⟩,
    ⟨(some 64), none, .extract 0 (.tmp 60)⟩,
    ⟨(some 65), none, .extract 1 (.tmp 60)⟩,
    ⟨(some 66), none, .extract 2 (.tmp 60)⟩,
    ⟨(some 67), none, .extract 3 (.tmp 60)⟩,
    ⟨(some 10), none, .mov (.tmp 64)⟩,
    ⟨(some 11), none, .mov (.tmp 65)⟩,
    ⟨(some 12), none, .mov (.tmp 66)⟩,
    ⟨(some 13), none, .mov (.tmp 67)⟩]

def f5r19 : List AInstr := [
    ⟨(some 68), none, .mov (.tmp 6)⟩,
    ⟨(some 69), none, .ibin .neq (.tmp 68) (.const (.int .i64 0))⟩,
    ⟨(some 70), none, .mov (.tmp 69)⟩,
    ⟨(some 71), (some (70, false)), .mov (.tmp 13)⟩,
    ⟨(some 72), (some (70, false)), .ibin .neq (.tmp 71) (.const (.int .i64 0))⟩,
    ⟨(some 73), none, .pick (.tmp 70) (.const (.bool true)) (.tmp 72)⟩,
    ⟨(some 74), none, .mov (.tmp 73)⟩,
    ⟨(some 75), (some (74, false)), .mov (.tmp 11)⟩,
    ⟨(some 76), (some (74, false)), .len (.tmp 75)⟩,
    ⟨(some 77), (some (74, false)), .mov (.tmp 5)⟩,
    ⟨(some 78), (some (74, false)), .len (.tmp 77)⟩,
    ⟨(some 79), (some (74, false)), .ibin .neq (.tmp 76) (.tmp 78)⟩,
    ⟨(some 80), none, .pick (.tmp 74) (.const (.bool true)) (.tmp 79)⟩]

def f5r20 : List AInstr := [
    ⟨(some 4), none, .mov (.const (.bool false))⟩]

def f5r21 : List AInstr := [
    ⟨(some 81), none, .mov (.tmp 11)⟩,
    ⟨(some 82), none, .len (.tmp 81)⟩,
    ⟨(some 83), none, .mov (.const (.int .i64 0))⟩]

def f5r22 : List AInstr := [
    ⟨(some 84), none, .ibin .lss (.tmp 83) (.tmp 82)⟩]

def f5r23 : List AInstr := [
    ⟨(some 85), none, .mov (.tmp 83)⟩,
    ⟨(some 86), none, .indexAddr 2 (.tmp 81) (.tmp 83)⟩,
    ⟨(some 87), none, .load (some 2) (.tmp 86)⟩,
    ⟨(some 15), none, .alloc [.int .i64 0, .int .i64 0]⟩,
    ⟨(some 14), none, .mov (.tmp 85)⟩,
    ⟨none, none, .store 2 (.tmp 15) (.tmp 87)⟩]

def f5r24 : List AInstr := [
    ⟨(some 88), none, .fieldAddr 0 (.tmp 15)⟩,
    ⟨(some 89), none, .load none (.tmp 88)⟩,
    ⟨(some 90), none, .mov (.tmp 5)⟩,
    ⟨(some 91), none, .mov (.tmp 14)⟩,
    ⟨(some 92), none, .indexAddr 1 (.tmp 90) (.tmp 91)⟩,
    ⟨(some 93), none, .load none (.tmp 92)⟩,
    ⟨(some 94), none, .ibin .neq (.tmp 89) (.tmp 93)⟩]

def f5r25 : List AInstr := [
    ⟨(some 4), none, .mov (.const (.bool false))⟩]

def f5r26 : List AInstr := [
    ⟨(some 95), none, .ibin .add (.tmp 83) (.const (.int .i64 1))⟩,
    ⟨(some 83), none, .mov (.tmp 95)⟩]

/-- live: [5, 81, 82, 83] -/
def f5l2 : ACode := (.seq (.ops f5r22)
  (.keep [5, 81, 82, 83, 84] (.seq (.cond (.tmp 84) .skip (.exit 4))
  (.keep [5, 81, 82, 83] (.seq (.block 5 (.seq (.ops f5r23)
  (.keep [5, 14, 15, 81, 82, 83] (.seq (.draw f5r24 [(0, 0, false), (0, 0, false), (0, 0, false), (0, 0, false), (0, 0, false), (0, 0, false), (0, 0, false)])
  (.keep [5, 81, 82, 83, 94] (.cond (.tmp 94) (.keep [] (.seq (.ops f5r25)
  (.keep [4] .ret))) .skip))))))
  (.keep [5, 81, 82, 83] (.ops f5r26)))))))

def f5r28 : List AInstr := [
    ⟨(some 4), none, .mov (.const (.bool true))⟩]

def f5b : ACode := (.seq (.ops f5r0)
  (.keep [0, 1] (.seq (.seq (.ops f5r1)
  (.keep [0, 1, 17] (.cond (.tmp 17) (.keep [] (.seq (.ops f5r2)
  (.keep [4] .ret))) .skip)))
  (.keep [0, 1] (.seq (.seq (.ops f5r3)
  (.keep [0, 1, 30] (.cond (.tmp 30) (.keep [] (.seq (.ops f5r4)
  (.keep [4] .ret))) .skip)))
  (.keep [0, 1] (.seq (.ops f5r5)
  (.keep [0, 1, 5, 6] (.seq (.ops f5r6)
  (.keep [0, 1, 5, 6, 7] (.seq (.seq (.ops f5r7)
  (.keep [0, 1, 5, 6, 7, 37, 38, 39] (.block 0 (.loop f5l0))))
  (.keep [0, 1, 5, 6, 7] (.seq (.seq (.ops f5r13)
  (.keep [1, 5, 6, 7, 52, 53] (.block 2 (.loop f5l1))))
  (.keep [1, 5, 6, 7] (.seq (.ops f5r18)
  (.keep [5, 6, 11, 13] (.seq (.seq (.ops f5r19)
  (.keep [5, 11, 80] (.cond (.tmp 80) (.keep [] (.seq (.ops f5r20)
  (.keep [4] .ret))) .skip)))
  (.keep [5, 11] (.seq (.seq (.ops f5r21)
  (.keep [5, 81, 82, 83] (.block 4 (.loop f5l2))))
  (.keep [] (.seq (.ops f5r28)
  (.keep [4] .ret))))))))))))))))))))))

def f5 : AFn := ⟨96, [.tmp 4], f5b⟩

theorem f5_ok : compFn Tryd.prog 5 = some f5.strip := by kernel_rfl

/- function 6: weirhouse/weirhousetop.alive; parameters 0; operations that are not compiled: 0 -/
def f6r0 : List AInstr := [
    ⟨(some 0), none, .mov (.const (.bool false))⟩]

def f6r1s0 : ByteArray := ⟨#[114, 97, 116, 101, 32, 49, 32, 49, 32, 49, 53, 48, 48, 10, 105, 110, 32, 55, 48, 48, 10, 112, 111, 108, 108, 32, 54, 57, 57, 10, 112, 111, 108, 108, 32, 55, 48, 48, 10]⟩

def f6r1 : List AInstr := [
    ⟨(some 4), none, .callF 18 [.const (.string f6r1s0)]⟩,
    ⟨(some 3), none, .mov (.tmp 4)⟩,
    ⟨(some 5), none, .extract 0 (.tmp 3)⟩,
    ⟨(some 6), none, .extract 1 (.tmp 3)⟩,
    ⟨(some 1), none, .mov (.tmp 5)⟩,
    ⟨(some 2), none, .mov (.tmp 6)⟩]

def f6r2 : List AInstr := [
    ⟨(some 7), none, .mov (.tmp 2)⟩,
    ⟨(some 8), none, .ibin .eql (.tmp 7) (.const (.int .i64 0))⟩,
    ⟨(some 9), none, .mov (.tmp 8)⟩,
    ⟨(some 10), (some (9, true)), .mov (.tmp 1)⟩,
    ⟨(some 11), (some (9, true)), .buildSlice 1 4 [.string ⟨#[]⟩, .string ⟨#[]⟩, .string ⟨#[]⟩, .string ⟨#[]⟩] [(0, 1, (.const (.string ⟨#[111, 107]⟩))), (1, 1, (.const (.string ⟨#[115, 101, 110, 116]⟩))), (2, 1, (.const (.string ⟨#[115, 101, 110, 116, 32, 55, 48, 48]⟩))), (3, 1, (.const (.string ⟨#[108, 101, 102, 116, 32, 48, 32, 48, 32, 55, 48, 48, 32, 56, 48, 48, 32, 48]⟩)))]⟩,
    ⟨(some 12), (some (9, true)), .callF 19 [.tmp 10, .tmp 11]⟩,
    ⟨(some 13), none, .pick (.tmp 9) (.tmp 12) (.const (.bool false))⟩,
    ⟨(some 0), none, .mov (.tmp 13)⟩]

def f6b : ACode := (.seq (.ops f6r0)
  (.keep [] (.seq (.ops f6r1)
  (.keep [1, 2] (.seq (.ops f6r2)
  (.keep [0] .ret))))))

def f6 : AFn := ⟨14, [.tmp 0], f6b⟩

theorem f6_ok : compFn Tryd.prog 6 = some f6.strip := by kernel_rfl

/- function 7: weirhouse/meter.Play; parameters 4; operations that are not compiled: 0 -/
def f7r0 : List AInstr := [
    ⟨(some 8), none, .mov (.const (.slice none 0 0))⟩,
    ⟨(some 9), none, .alloc [.int .i64 0, .int .i64 0, .int .i64 0, .int .i64 0, .int .i64 0, .int .i64 0]⟩,
    ⟨(some 10), none, .mov (.const (.int .i64 0))⟩]

def f7r1 : List AInstr := [
    ⟨(some 18), none, .mov (.tmp 0)⟩,
    ⟨(some 19), none, .mov (.tmp 1)⟩,
    ⟨(some 20), none, .mov (.tmp 2)⟩,
    ⟨(some 21), none, .mov (.tmp 1)⟩,
    ⟨(some 22), none, .mov (.tmp 2)⟩,
    ⟨(some 23), none, .build [.int .i64 0, .int .i64 0, .int .i64 0, .int .i64 0, .int .i64 0, .int .i64 0] [(0, 1, (.tmp 18)), (1, 1, (.tmp 19)), (2, 1, (.tmp 20)), (3, 1, (.tmp 21)), (4, 1, (.tmp 22))]⟩,
    ⟨(some 11), none, .alloc [.int .i64 0, .int .i64 0, .int .i64 0, .int .i64 0, .int .i64 0, .int .i64 0]⟩,
    ⟨none, none, .store 6 (.tmp 11) (.tmp 23)⟩]

def f7r2 : List AInstr := [
    ⟨(some 24), none, .load (some 6) (.tmp 11)⟩,
    ⟨(some 25), none, .callF 20 [.tmp 24]⟩,
    ⟨(some 26), none, .un .not (.tmp 25)⟩]

def f7r3 : List AInstr := [
    ⟨(some 27), none, .build [.int .i64 0, .int .i64 0, .int .i64 0, .int .i64 0, .int .i64 0, .int .i64 0] []⟩,
    ⟨(some 8), none, .mov (.const (.slice none 0 0))⟩,
    ⟨none, none, .store 6 (.tmp 9) (.tmp 27)⟩,
    ⟨(some 10), none, .mov (.const (.int .i64 2))⟩]

def f7r4 : List AInstr := [
    ⟨(some 12), none, .mov (.const (.slice none 0 0))⟩]

def f7r5 : List AInstr := [
    ⟨(some 28), none, .mov (.tmp 3)⟩,
    ⟨(some 29), none, .len (.tmp 28)⟩,
    ⟨(some 30), none, .mov (.const (.int .i64 0))⟩]

def f7r6 : List AInstr := [
    ⟨(some 31), none, .ibin .lss (.tmp 30) (.tmp 29)⟩]

def f7r7 : List AInstr := [
    ⟨(some 32), none, .indexAddr 2 (.tmp 28) (.tmp 30)⟩,
    ⟨(some 33), none, .load (some 2) (.tmp 32)⟩,
    ⟨(some 14), none, .alloc [.int .i64 0, .int .i64 0]⟩,
    ⟨none, none, .store 2 (.tmp 14) (.tmp 33)⟩]

def f7r8 : List AInstr := [
    ⟨(some 35), none, .load (some 6) (.tmp 11)⟩,
    ⟨(some 36), none, .load (some 2) (.tmp 14)⟩,
    ⟨(some 37), none, .callF 21 [.tmp 35, .tmp 36, .const (.int .i64 1)]⟩,
    ⟨(some 34), none, .mov (.tmp 37)⟩,
    ⟨(some 38), none, .extract 0 (.tmp 34)⟩,
    ⟨(some 39), none, .extract 1 (.tmp 34)⟩,
    ⟨(some 40), none, .extract 2 (.tmp 34)⟩,
    ⟨(some 15), none, .alloc [.int .i64 0, .int .i64 0, .int .i64 0, .int .i64 0, .int .i64 0, .int .i64 0]⟩,
    ⟨none, none, .store 6 (.tmp 15) (.tmp 38)⟩,
    ⟨(some 16), none, .mov (.tmp 39)⟩,
    ⟨(some 17), none, .mov (.tmp 40)⟩]

def f7r9 : List AInstr := [
    ⟨(some 41), none, .mov (.tmp 17)⟩,
    ⟨(some 42), none, .ibin .neq (.tmp 41) (.const (.int .i64 0))⟩]

def f7r10 : List AInstr := [
    ⟨(some 43), none, .build [.int .i64 0, .int .i64 0, .int .i64 0, .int .i64 0, .int .i64 0, .int .i64 0] []⟩,
    ⟨(some 44), none, .mov (.tmp 17)⟩,
    ⟨(some 8), none, .mov (.const (.slice none 0 0))⟩,
    ⟨none, none, .store 6 (.tmp 9) (.tmp 43)⟩,
    ⟨(some 10), none, .mov (.tmp 44)⟩]

def f7r11 : List AInstr := [
    ⟨(some 45), none, .load (some 6) (.tmp 15)⟩,
    ⟨(some 46), none, .mov (.tmp 12)⟩,
    ⟨(some 47), none, .mov (.tmp 16)⟩,
    ⟨(some 48), none, .buildSlice 1 1 [.int .i64 0] [(0, 1, (.tmp 47))]⟩,
    ⟨(some 49), none, .append 1 8 (.tmp 46) (.tmp 48)⟩,
    ⟨none, none, .store 6 (.tmp 11) (.tmp 45)⟩,
    ⟨(some 12), none, .mov (.tmp 49)⟩]

def f7r12 : List AInstr := [
    ⟨(some 50), none, .ibin .add (.tmp 30) (.const (.int .i64 1))⟩,
    ⟨(some 30), none, .mov (.tmp 50)⟩]

/-- live: [9, 11, 12, 28, 29, 30] -/
def f7l0 : ACode := (.seq (.ops f7r6)
  (.keep [9, 11, 12, 28, 29, 30, 31] (.seq (.cond (.tmp 31) .skip (.exit 0))
  (.keep [9, 11, 12, 28, 29, 30] (.seq (.block 1 (.seq (.ops f7r7)
  (.keep [9, 11, 12, 14, 28, 29, 30] (.seq (.ops f7r8)
  (.keep [9, 11, 12, 15, 16, 17, 28, 29, 30] (.seq (.seq (.ops f7r9)
  (.keep [9, 11, 12, 15, 16, 17, 28, 29, 30, 42] (.cond (.tmp 42) (.keep [9, 17] (.seq (.ops f7r10)
  (.keep [8, 9, 10] .ret))) .skip)))
  (.keep [9, 11, 12, 15, 16, 28, 29, 30] (.draw f7r11 [(0, 2, false), (0, 1, false), (0, 0, false), (0, 0, true), (1, 0, true), (2, 0, true), (3, 3, false)]))))))))
  (.keep [9, 11, 12, 28, 29, 30] (.ops f7r12)))))))

def f7r14 : List AInstr := [
    ⟨(some 51), none, .mov (.tmp 12)⟩,
    ⟨(some 52), none, .load (some 6) (.tmp 11)⟩,
    ⟨(some 8), none, .mov (.tmp 51)⟩,
    ⟨none, none, .store 6 (.tmp 9) (.tmp 52)⟩,
    ⟨(some 10), none, .mov (.const (.int .i64 0))⟩]

def f7b : ACode := (.seq (.ops f7r0)
  (.keep [0, 1, 2, 3, 9] (.seq (.ops f7r1)
  (.keep [3, 9, 11] (.seq (.seq (.ops f7r2)
  (.keep [3, 9, 11, 26] (.cond (.tmp 26) (.keep [9] (.seq (.ops f7r3)
  (.keep [8, 9, 10] .ret))) .skip)))
  (.keep [3, 9, 11] (.seq (.ops f7r4)
  (.keep [3, 9, 11, 12] (.seq (.seq (.ops f7r5)
  (.keep [9, 11, 12, 28, 29, 30] (.block 0 (.loop f7l0))))
  (.keep [9, 11, 12] (.seq (.draw f7r14 [(0, 0, false), (0, 0, false), (0, 0, false), (0, 0, true), (1, 1, false)])
  (.keep [8, 9, 10] .ret))))))))))))

def f7 : AFn := ⟨53, [.tmp 8, .cell 9 (some 6), .tmp 10], f7b⟩

theorem f7_ok : compFn Tryd.prog 7 = some f7.strip := by kernel_rfl

/- function 8: weirhouse/pace.Play; parameters 4; operations that are not compiled: 0 -/
def f8r0 : List AInstr := [
    ⟨(some 8), none, .mov (.const (.slice none 0 0))⟩,
    ⟨(some 9), none, .alloc [.slice none 0 0, .int .i64 0, .int .i64 0, .int .i64 0, .int .i64 0, .int .i64 0, .int .i64 0, .int .i64 0, .int .i64 0, .int .i64 0]⟩,
    ⟨(some 10), none, .mov (.const (.int .i64 0))⟩]

def f8r1 : List AInstr := [
    ⟨(some 19), none, .mov (.tmp 0)⟩,
    ⟨(some 20), none, .mov (.tmp 1)⟩,
    ⟨(some 21), none, .mov (.tmp 2)⟩,
    ⟨(some 22), none, .callF 22 [.tmp 19, .tmp 20, .tmp 21]⟩,
    ⟨(some 11), none, .mov (.tmp 22)⟩]

def f8r2 : List AInstr := [
    ⟨(some 23), none, .mov (.tmp 11)⟩,
    ⟨(some 24), none, .ibin .neq (.tmp 23) (.const (.int .i64 0))⟩]

def f8r3 : List AInstr := [
    ⟨(some 25), none, .build [.slice none 0 0, .int .i64 0, .int .i64 0, .int .i64 0, .int .i64 0, .int .i64 0, .int .i64 0, .int .i64 0, .int .i64 0, .int .i64 0] []⟩,
    ⟨(some 26), none, .mov (.tmp 11)⟩,
    ⟨(some 8), none, .mov (.const (.slice none 0 0))⟩,
    ⟨none, none, .store 10 (.tmp 9) (.tmp 25)⟩,
    ⟨(some 10), none, .mov (.tmp 26)⟩]

def f8r4 : List AInstr := [
    ⟨(some 28), none, .mov (.tmp 0)⟩,
    ⟨(some 29), none, .mov (.tmp 1)⟩,
    ⟨(some 30), none, .mov (.tmp 2)⟩,
    ⟨(some 31), none, .callF 23 [.tmp 28, .tmp 29, .tmp 30]⟩,
    ⟨(some 27), none, .mov (.tmp 31)⟩,
    ⟨(some 32), none, .extract 0 (.tmp 27)⟩,
    ⟨(some 33), none, .extract 1 (.tmp 27)⟩,
    ⟨(some 12), none, .alloc [.int .i64 0, .int .i64 0, .int .i64 0, .int .i64 0, .int .i64 0]⟩,
    ⟨none, none, .store 5 (.tmp 12) (.tmp 32)⟩,
    ⟨(some 13), none, .mov (.tmp 33)⟩]

def f8r5 : List AInstr := [
    ⟨(some 34), none, .build [.slice none 0 0, .int .i64 0, .int .i64 0, .int .i64 0] [(1, 1, (.const (.int .i64 100))), (2, 1, (.const (.int .i64 60000)))]⟩,
    ⟨(some 35), none, .load (some 5) (.tmp 12)⟩,
    ⟨(some 36), none, .build [.slice none 0 0, .int .i64 0, .int .i64 0, .int .i64 0, .int .i64 0, .int .i64 0, .int .i64 0, .int .i64 0, .int .i64 0, .int .i64 0] [(0, 4, (.tmp 34)), (4, 5, (.tmp 35))]⟩,
    ⟨(some 14), none, .alloc [.slice none 0 0, .int .i64 0, .int .i64 0, .int .i64 0, .int .i64 0, .int .i64 0, .int .i64 0, .int .i64 0, .int .i64 0, .int .i64 0]⟩,
    ⟨none, none, .store 10 (.tmp 14) (.tmp 36)⟩]

def f8r6 : List AInstr := [
    ⟨(some 15), none, .mov (.const (.slice none 0 0))⟩]

def f8r7 : List AInstr := [
    ⟨(some 37), none, .mov (.tmp 3)⟩,
    ⟨(some 38), none, .len (.tmp 37)⟩,
    ⟨(some 39), none, .mov (.const (.int .i64 0))⟩]

def f8r8 : List AInstr := [
    ⟨(some 40), none, .ibin .lss (.tmp 39) (.tmp 38)⟩]

def f8r9 : List AInstr := [
    ⟨(some 41), none, .indexAddr 2 (.tmp 37) (.tmp 39)⟩,
    ⟨(some 42), none, .load (some 2) (.tmp 41)⟩,
    ⟨(some 17), none, .alloc [.int .i64 0, .int .i64 0]⟩,
    ⟨none, none, .store 2 (.tmp 17) (.tmp 42)⟩]

def f8r10 : List AInstr := [
    ⟨(some 18), none, .alloc [.int .i64 0, .slice none 0 0]⟩]

def f8r11 : List AInstr := [
    ⟨(some 44), none, .load (some 10) (.tmp 14)⟩,
    ⟨(some 45), none, .load (some 2) (.tmp 17)⟩,
    ⟨(some 46), none, .callF 24 [.tmp 44, .tmp 45]⟩,
    ⟨(some 43), none, .mov (.tmp 46)⟩,
    ⟨(some 47), none, .extract 0 (.tmp 43)⟩,
    ⟨(some 48), none, .extract 1 (.tmp 43)⟩,
    ⟨none, none, .store 10 (.tmp 14) (.tmp 47)⟩,
    ⟨none, none, .store 2 (.tmp 18) (.tmp 48)⟩]

def f8r12 : List AInstr := [
    ⟨(some 49), none, .mov (.tmp 15)⟩,
    ⟨(some 50), none, .load (some 2) (.tmp 18)⟩,
    ⟨(some 51), none, .buildSlice 2 1 [.int .i64 0, .slice none 0 0] [(0, 2, (.tmp 50))]⟩,
    ⟨(some 52), none, .append 2 32 (.tmp 49) (.tmp 51)⟩,
    ⟨(some 15), none, .mov (.tmp 52)⟩]

def f8r13 : List AInstr := [
    ⟨(some 53), none, .ibin .add (.tmp 39) (.const (.int .i64 1))⟩,
    ⟨(some 39), none, .mov (.tmp 53)⟩]

/-- live: [9, 14, 15, 37, 38, 39] -/
def f8l0 : ACode := (.seq (.ops f8r8)
  (.keep [9, 14, 15, 37, 38, 39, 40] (.seq (.cond (.tmp 40) .skip (.exit 0))
  (.keep [9, 14, 15, 37, 38, 39] (.seq (.block 1 (.seq (.ops f8r9)
  (.keep [9, 14, 15, 17, 37, 38, 39] (.seq (.ops f8r10)
  (.keep [9, 14, 15, 17, 18, 37, 38, 39] (.seq (.ops f8r11)
  (.keep [9, 14, 15, 18, 37, 38, 39] (.ops f8r12))))))))
  (.keep [9, 14, 15, 37, 38, 39] (.ops f8r13)))))))

def f8r15 : List AInstr := [
    ⟨(some 54), none, .fieldAddr 0 (.tmp 14)⟩,
    ⟨(some 55), none, .fieldAddr 0 (.tmp 54)⟩,
    ⟨(some 56), none, .load none (.tmp 55)⟩,
    ⟨(some 57), none, .callF 25 [.tmp 56]⟩,
    ⟨(some 58), none, .fieldAddr 0 (.tmp 14)⟩,
    ⟨(some 59), none, .fieldAddr 0 (.tmp 58)⟩,
    ⟨none, none, .store 1 (.tmp 59) (.tmp 57)⟩]

def f8r16 : List AInstr := [
    ⟨(some 60), none, .mov (.tmp 15)⟩,
    ⟨(some 61), none, .load (some 10) (.tmp 14)⟩,
    ⟨(some 8), none, .mov (.tmp 60)⟩,
    ⟨none, none, .store 10 (.tmp 9) (.tmp 61)⟩,
    ⟨(some 10), none, .mov (.const (.int .i64 0))⟩]

def f8b : ACode := (.seq (.ops f8r0)
  (.keep [0, 1, 2, 3, 9] (.seq (.seq (.ops f8r1)
  (.keep [0, 1, 2, 3, 9, 11] (.seq (.ops f8r2)
  (.keep [0, 1, 2, 3, 9, 11, 24] (.cond (.tmp 24) (.keep [9, 11] (.seq (.ops f8r3)
  (.keep [8, 9, 10] .ret))) .skip)))))
  (.keep [0, 1, 2, 3, 9] (.seq (.ops f8r4)
  (.keep [3, 9, 12] (.seq (.ops f8r5)
  (.keep [3, 9, 14] (.seq (.ops f8r6)
  (.keep [3, 9, 14, 15] (.seq (.seq (.ops f8r7)
  (.keep [9, 14, 15, 37, 38, 39] (.block 0 (.loop f8l0))))
  (.keep [9, 14, 15] (.seq (.ops f8r15)
  (.keep [9, 14, 15] (.seq (.draw f8r16 [(0, 0, false), (0, 0, false), (0, 0, false), (0, 0, true), (1, 1, false)])
  (.keep [8, 9, 10] .ret))))))))))))))))

def f8 : AFn := ⟨62, [.tmp 8, .cell 9 (some 10), .tmp 10], f8b⟩

theorem f8_ok : compFn Tryd.prog 8 = some f8.strip := by kernel_rfl

/- function 9: weirhouse/curve.Serve; parameters 2; operations that are not compiled: 0 -/
def f9r0 : List AInstr := [
    ⟨(some 2), none, .box (.tmp 0)⟩,
    ⟨(some 4), none, .mov (.const (.slice none 0 0))⟩,
    ⟨(some 5), none, .mov (.const (.int .i64 0))⟩]

def f9r1 : List AInstr := [
    ⟨(some 12), none, .build [.int .i64 0, .int .i64 0] []⟩,
    ⟨(some 13), none, .load (some 2) (.tmp 2)⟩,
    ⟨(some 14), none, .callF 26 [.tmp 12, .tmp 13]⟩,
    ⟨(some 15), none, .ibin .neq (.tmp 14) (.const (.int .i64 0))⟩,
    ⟨(some 16), none, .mov (.tmp 15)⟩,
    ⟨(some 17), (some (16, false)), .mov (.tmp 1)⟩,
    ⟨(some 18), (some (16, false)), .callF 27 [.tmp 17]⟩,
    ⟨(some 19), none, .pick (.tmp 16) (.const (.bool true)) (.tmp 18)⟩]

def f9r2 : List AInstr := [
    ⟨(some 4), none, .mov (.const (.slice none 0 0))⟩,
    ⟨(some 5), none, .mov (.const (.int .i64 2))⟩]

def f9r3 : List AInstr := [
    ⟨(some 6), none, .mov (.const (.int .i64 0))⟩,
    ⟨(some 7), none, .mov (.const (.int .i64 0))⟩]

def f9r4 : List AInstr := [
    ⟨(some 8), none, .mov (.const (.slice none 0 0))⟩]

def f9r5 : List AInstr := [
    ⟨(some 20), none, .mov (.tmp 1)⟩,
    ⟨(some 21), none, .len (.tmp 20)⟩,
    ⟨(some 22), none, .mov (.const (.int .i64 0))⟩]

def f9r6 : List AInstr := [
    ⟨(some 23), none, .ibin .lss (.tmp 22) (.tmp 21)⟩]

def f9r7 : List AInstr := [
    ⟨(some 24), none, .indexAddr 1 (.tmp 20) (.tmp 22)⟩,
    ⟨(some 25), none, .load none (.tmp 24)⟩,
    ⟨(some 10), none, .mov (.tmp 25)⟩]

def f9r8 : List AInstr := [
    ⟨(some 26), none, .mov (.tmp 6)⟩,
    ⟨(some 27), none, .mov (.tmp 10)⟩,
    ⟨(some 28), none, .ibin .add (.tmp 26) (.tmp 27)⟩,
    ⟨(some 6), none, .mov (.tmp 28)⟩]

def f9r9 : List AInstr := [
    ⟨(some 11), none, .mov (.const (.int .i64 0))⟩]

def f9r10 : List AInstr := [
    ⟨(some 29), none, .mov (.tmp 6)⟩,
    ⟨(some 30), none, .ibin .gtr (.tmp 29) (.const (.int .i64 0))⟩]

def f9r11 : List AInstr := [
    ⟨(some 31), none, .mov (.tmp 7)⟩,
    ⟨(some 32), none, .fieldAddr 0 (.tmp 2)⟩,
    ⟨(some 33), none, .load none (.tmp 32)⟩,
    ⟨(some 34), none, .ibin .geq (.tmp 31) (.tmp 33)⟩]

def f9r12 : List AInstr := [
    ⟨(some 35), none, .mov (.tmp 6)⟩,
    ⟨(some 36), none, .fieldAddr 1 (.tmp 2)⟩,
    ⟨(some 37), none, .load none (.tmp 36)⟩,
    ⟨(some 38), none, .minmax false [.tmp 35, .tmp 37]⟩,
    ⟨(some 11), none, .mov (.tmp 38)⟩]

def f9r13 : List AInstr := [
    ⟨(some 39), none, .mov (.tmp 7)⟩,
    ⟨(some 40), none, .ibin .add (.tmp 39) (.const (.int .i64 1))⟩,
    ⟨(some 7), none, .mov (.tmp 40)⟩]

def f9r14 : List AInstr := [
    ⟨(some 41), none, .mov (.tmp 6)⟩,
    ⟨(some 42), none, .mov (.tmp 11)⟩,
    ⟨(some 43), none, .ibin .sub (.tmp 41) (.tmp 42)⟩,
    ⟨(some 6), none, .mov (.tmp 43)⟩]

def f9r15 : List AInstr := [
    ⟨(some 44), none, .mov (.tmp 6)⟩,
    ⟨(some 45), none, .ibin .eql (.tmp 44) (.const (.int .i64 0))⟩]

def f9r16 : List AInstr := [
    ⟨(some 7), none, .mov (.const (.int .i64 0))⟩]

def f9r17 : List AInstr := [
    ⟨(some 46), none, .mov (.tmp 8)⟩,
    ⟨(some 47), none, .mov (.tmp 11)⟩,
    ⟨(some 48), none, .buildSlice 1 1 [.int .i64 0] [(0, 1, (.tmp 47))]⟩,
    ⟨(some 49), none, .append 1 8 (.tmp 46) (.tmp 48)⟩,
    ⟨(some 8), none, .mov (.tmp 49)⟩]

def f9r18 : List AInstr := [
    ⟨(some 50), none, .ibin .add (.tmp 22) (.const (.int .i64 1))⟩,
    ⟨(some 22), none, .mov (.tmp 50)⟩]

/-- live: [2, 6, 7, 8, 20, 21, 22] -/
def f9l0 : ACode := (.seq (.ops f9r6)
  (.keep [2, 6, 7, 8, 20, 21, 22, 23] (.seq (.cond (.tmp 23) .skip (.exit 0))
  (.keep [2, 6, 7, 8, 20, 21, 22] (.seq (.block 1 (.seq (.ops f9r7)
  (.keep [2, 6, 7, 8, 10, 20, 21, 22] (.seq (.ops f9r8)
  (.keep [2, 6, 7, 8, 20, 21, 22] (.seq (.ops f9r9)
  (.keep [2, 6, 7, 8, 11, 20, 21, 22] (.seq (.seq (.ops f9r10)
  (.keep [2, 6, 7, 8, 11, 20, 21, 22, 30] (.cond (.tmp 30) (.keep [2, 6, 7, 8, 11, 20, 21, 22] (.seq (.seq (.ops f9r11)
  (.keep [2, 6, 7, 8, 11, 20, 21, 22, 34] (.cond (.tmp 34) (.keep [2, 6, 7, 8, 20, 21, 22] (.ops f9r12)) .skip)))
  (.keep [2, 6, 7, 8, 11, 20, 21, 22] (.ops f9r13)))) .skip)))
  (.keep [2, 6, 7, 8, 11, 20, 21, 22] (.seq (.ops f9r14)
  (.keep [2, 6, 7, 8, 11, 20, 21, 22] (.seq (.seq (.ops f9r15)
  (.keep [2, 6, 7, 8, 11, 20, 21, 22, 45] (.cond (.tmp 45) (.keep [2, 6, 8, 11, 20, 21, 22] (.ops f9r16)) .skip)))
  (.keep [2, 6, 7, 8, 11, 20, 21, 22] (.ops f9r17))))))))))))))
  (.keep [2, 6, 7, 8, 20, 21, 22] (.ops f9r18)))))))

def f9r20 : List AInstr := [
    ⟨(some 51), none, .mov (.tmp 8)⟩,
    ⟨(some 4), none, .mov (.tmp 51)⟩,
    ⟨(some 5), none, .mov (.const (.int .i64 0))⟩]

def f9b : ACode := (.seq (.ops f9r0)
  (.keep [1, 2] (.seq (.seq (.ops f9r1)
  (.keep [1, 2, 19] (.cond (.tmp 19) (.keep [] (.seq (.ops f9r2)
  (.keep [4, 5] .ret))) .skip)))
  (.keep [1, 2] (.seq (.ops f9r3)
  (.keep [1, 2, 6, 7] (.seq (.ops f9r4)
  (.keep [1, 2, 6, 7, 8] (.seq (.seq (.ops f9r5)
  (.keep [2, 6, 7, 8, 20, 21, 22] (.block 0 (.loop f9l0))))
  (.keep [8] (.seq (.ops f9r20)
  (.keep [4, 5] .ret))))))))))))

def f9 : AFn := ⟨52, [.tmp 4, .tmp 5], f9b⟩

theorem f9_ok : compFn Tryd.prog 9 = some f9.strip := by kernel_rfl

/- function 10: weirhouse/lindley.Waits; parameters 1; operations that are not compiled: 0 -/
def f10r0 : List AInstr := [
    ⟨(some 2), none, .mov (.const (.slice none 0 0))⟩,
    ⟨(some 3), none, .mov (.const (.int .i64 0))⟩]

def f10r1 : List AInstr := [
    ⟨(some 10), none, .mov (.tmp 0)⟩,
    ⟨(some 11), none, .callF 28 [.tmp 10]⟩,
    ⟨(some 4), none, .mov (.tmp 11)⟩]

def f10r2 : List AInstr := [
    ⟨(some 12), none, .mov (.tmp 4)⟩,
    ⟨(some 13), none, .ibin .neq (.tmp 12) (.const (.int .i64 0))⟩]

def f10r3 : List AInstr := [
    ⟨(some 14), none, .mov (.tmp 4)⟩,
    ⟨(some 2), none, .mov (.const (.slice none 0 0))⟩,
    ⟨(some 3), none, .mov (.tmp 14)⟩]

def f10r4 : List AInstr := [
    ⟨(some 5), none, .mov (.const (.slice none 0 0))⟩]

def f10r5 : List AInstr := [
    ⟨(some 6), none, .mov (.const (.int .i64 0))⟩]

def f10r6 : List AInstr := [
    ⟨(some 15), none, .mov (.tmp 0)⟩,
    ⟨(some 16), none, .len (.tmp 15)⟩,
    ⟨(some 17), none, .mov (.const (.int .i64 0))⟩]

def f10r7 : List AInstr := [
    ⟨(some 18), none, .ibin .lss (.tmp 17) (.tmp 16)⟩]

def f10r8 : List AInstr := [
    ⟨(some 19), none, .indexAddr 2 (.tmp 15) (.tmp 17)⟩,
    ⟨(some 20), none, .load (some 2) (.tmp 19)⟩,
    ⟨(some 8), none, .alloc [.int .i64 0, .int .i64 0]⟩,
    ⟨none, none, .store 2 (.tmp 8) (.tmp 20)⟩]

def f10r9 : List AInstr := [
    ⟨(some 21), none, .mov (.tmp 6)⟩,
    ⟨(some 22), none, .fieldAddr 0 (.tmp 8)⟩,
    ⟨(some 23), none, .load none (.tmp 22)⟩,
    ⟨(some 24), none, .minmax true [.tmp 21, .tmp 23]⟩,
    ⟨(some 9), none, .mov (.tmp 24)⟩]

def f10r10 : List AInstr := [
    ⟨(some 25), none, .mov (.tmp 5)⟩,
    ⟨(some 26), none, .mov (.tmp 9)⟩,
    ⟨(some 27), none, .fieldAddr 0 (.tmp 8)⟩,
    ⟨(some 28), none, .load none (.tmp 27)⟩,
    ⟨(some 29), none, .ibin .sub (.tmp 26) (.tmp 28)⟩,
    ⟨(some 30), none, .buildSlice 1 1 [.int .i64 0] [(0, 1, (.tmp 29))]⟩,
    ⟨(some 31), none, .append 1 8 (.tmp 25) (.tmp 30)⟩,
    ⟨(some 5), none, .mov (.tmp 31)⟩]

def f10r11 : List AInstr := [
    ⟨(some 32), none, .mov (.tmp 9)⟩,
    ⟨(some 33), none, .fieldAddr 1 (.tmp 8)⟩,
    ⟨(some 34), none, .load none (.tmp 33)⟩,
    ⟨(some 35), none, .ibin .add (.tmp 32) (.tmp 34)⟩,
    ⟨(some 6), none, .mov (.tmp 35)⟩]

def f10r12 : List AInstr := [
    ⟨(some 36), none, .ibin .add (.tmp 17) (.const (.int .i64 1))⟩,
    ⟨(some 17), none, .mov (.tmp 36)⟩]

/-- live: [5, 6, 15, 16, 17] -/
def f10l0 : ACode := (.seq (.ops f10r7)
  (.keep [5, 6, 15, 16, 17, 18] (.seq (.cond (.tmp 18) .skip (.exit 0))
  (.keep [5, 6, 15, 16, 17] (.seq (.block 1 (.seq (.ops f10r8)
  (.keep [5, 6, 8, 15, 16, 17] (.seq (.ops f10r9)
  (.keep [5, 8, 9, 15, 16, 17] (.seq (.ops f10r10)
  (.keep [5, 8, 9, 15, 16, 17] (.ops f10r11))))))))
  (.keep [5, 6, 15, 16, 17] (.ops f10r12)))))))

def f10r14 : List AInstr := [
    ⟨(some 37), none, .mov (.tmp 5)⟩,
    ⟨(some 2), none, .mov (.tmp 37)⟩,
    ⟨(some 3), none, .mov (.const (.int .i64 0))⟩]

def f10b : ACode := (.seq (.ops f10r0)
  (.keep [0] (.seq (.seq (.ops f10r1)
  (.keep [0, 4] (.seq (.ops f10r2)
  (.keep [0, 4, 13] (.cond (.tmp 13) (.keep [4] (.seq (.ops f10r3)
  (.keep [2, 3] .ret))) .skip)))))
  (.keep [0] (.seq (.ops f10r4)
  (.keep [0, 5] (.seq (.ops f10r5)
  (.keep [0, 5, 6] (.seq (.seq (.ops f10r6)
  (.keep [5, 6, 15, 16, 17] (.block 0 (.loop f10l0))))
  (.keep [5] (.seq (.ops f10r14)
  (.keep [2, 3] .ret))))))))))))

def f10 : AFn := ⟨38, [.tmp 2, .tmp 3], f10b⟩

theorem f10_ok : compFn Tryd.prog 10 = some f10.strip := by kernel_rfl

/- function 11: weirhouse/curve.Keeps; parameters 2; operations that are not compiled: 0 -/
def f11r0 : List AInstr := [
    ⟨(some 2), none, .box (.tmp 0)⟩,
    ⟨(some 4), none, .mov (.const (.bool false))⟩,
    ⟨(some 5), none, .mov (.const (.int .i64 0))⟩]

def f11r1 : List AInstr := [
    ⟨(some 9), none, .load (some 2) (.tmp 2)⟩,
    ⟨(some 10), none, .build [.int .i64 0, .int .i64 0] []⟩,
    ⟨(some 11), none, .callF 26 [.tmp 9, .tmp 10]⟩,
    ⟨(some 12), none, .ibin .neq (.tmp 11) (.const (.int .i64 0))⟩,
    ⟨(some 13), none, .mov (.tmp 12)⟩,
    ⟨(some 14), (some (13, false)), .mov (.tmp 1)⟩,
    ⟨(some 15), (some (13, false)), .callF 27 [.tmp 14]⟩,
    ⟨(some 16), none, .pick (.tmp 13) (.const (.bool true)) (.tmp 15)⟩]

def f11r2 : List AInstr := [
    ⟨(some 4), none, .mov (.const (.bool false))⟩,
    ⟨(some 5), none, .mov (.const (.int .i64 2))⟩]

def f11r3 : List AInstr := [
    ⟨(some 17), none, .fieldAddr 0 (.tmp 2)⟩,
    ⟨(some 18), none, .load none (.tmp 17)⟩,
    ⟨(some 6), none, .mov (.tmp 18)⟩]

def f11r4 : List AInstr := [
    ⟨(some 19), none, .mov (.tmp 1)⟩,
    ⟨(some 20), none, .len (.tmp 19)⟩,
    ⟨(some 21), none, .mov (.const (.int .i64 0))⟩]

def f11r5 : List AInstr := [
    ⟨(some 22), none, .ibin .lss (.tmp 21) (.tmp 20)⟩]

def f11r6 : List AInstr := [
    ⟨(some 23), none, .indexAddr 1 (.tmp 19) (.tmp 21)⟩,
    ⟨(some 24), none, .load none (.tmp 23)⟩,
    ⟨(some 8), none, .mov (.tmp 24)⟩]

def f11r7 : List AInstr := [
    ⟨(some 25), none, .mov (.tmp 6)⟩,
    ⟨(some 26), none, .fieldAddr 0 (.tmp 2)⟩,
    ⟨(some 27), none, .load none (.tmp 26)⟩,
    ⟨(some 28), none, .minmax false [.tmp 25, .tmp 27]⟩,
    ⟨(some 29), none, .fieldAddr 1 (.tmp 2)⟩,
    ⟨(some 30), none, .load none (.tmp 29)⟩,
    ⟨(some 31), none, .ibin .add (.tmp 28) (.tmp 30)⟩,
    ⟨(some 32), none, .mov (.tmp 8)⟩,
    ⟨(some 33), none, .ibin .sub (.tmp 31) (.tmp 32)⟩,
    ⟨(some 6), none, .mov (.tmp 33)⟩]

def f11r8 : List AInstr := [
    ⟨(some 34), none, .mov (.tmp 6)⟩,
    ⟨(some 35), none, .ibin .lss (.tmp 34) (.const (.int .i64 0))⟩]

def f11r9 : List AInstr := [
    ⟨(some 4), none, .mov (.const (.bool false))⟩,
    ⟨(some 5), none, .mov (.const (.int .i64 0))⟩]

def f11r10 : List AInstr := [
    ⟨(some 36), none, .ibin .add (.tmp 21) (.const (.int .i64 1))⟩,
    ⟨(some 21), none, .mov (.tmp 36)⟩]

/-- live: [2, 6, 19, 20, 21] -/
def f11l0 : ACode := (.seq (.ops f11r5)
  (.keep [2, 6, 19, 20, 21, 22] (.seq (.cond (.tmp 22) .skip (.exit 0))
  (.keep [2, 6, 19, 20, 21] (.seq (.block 1 (.seq (.ops f11r6)
  (.keep [2, 6, 8, 19, 20, 21] (.seq (.ops f11r7)
  (.keep [2, 6, 19, 20, 21] (.seq (.ops f11r8)
  (.keep [2, 6, 19, 20, 21, 35] (.cond (.tmp 35) (.keep [] (.seq (.ops f11r9)
  (.keep [4, 5] .ret))) .skip))))))))
  (.keep [2, 6, 19, 20, 21] (.ops f11r10)))))))

def f11r12 : List AInstr := [
    ⟨(some 4), none, .mov (.const (.bool true))⟩,
    ⟨(some 5), none, .mov (.const (.int .i64 0))⟩]

def f11b : ACode := (.seq (.ops f11r0)
  (.keep [1, 2] (.seq (.seq (.ops f11r1)
  (.keep [1, 2, 16] (.cond (.tmp 16) (.keep [] (.seq (.ops f11r2)
  (.keep [4, 5] .ret))) .skip)))
  (.keep [1, 2] (.seq (.ops f11r3)
  (.keep [1, 2, 6] (.seq (.seq (.ops f11r4)
  (.keep [2, 6, 19, 20, 21] (.block 0 (.loop f11l0))))
  (.keep [] (.seq (.ops f11r12)
  (.keep [4, 5] .ret))))))))))

def f11 : AFn := ⟨37, [.tmp 4, .tmp 5], f11b⟩

theorem f11_ok : compFn Tryd.prog 11 = some f11.strip := by kernel_rfl

/- function 12: weirhouse/gps.Wrong; parameters 2; operations that are not compiled: 0 -/
def f12r0 : List AInstr := [
    ⟨(some 4), none, .mov (.const (.int .i64 0))⟩]

def f12r1 : List AInstr := [
    ⟨(some 8), none, .mov (.tmp 0)⟩,
    ⟨(some 9), none, .len (.tmp 8)⟩,
    ⟨(some 10), none, .mov (.tmp 1)⟩,
    ⟨(some 11), none, .len (.tmp 10)⟩,
    ⟨(some 12), none, .ibin .neq (.tmp 9) (.tmp 11)⟩,
    ⟨(some 7), none, .mov (.tmp 12)⟩]

def f12r2 : List AInstr := [
    ⟨(some 4), none, .mov (.const (.int .i64 1))⟩]

def f12r3 : List AInstr := [
    ⟨(some 14), none, .mov (.tmp 0)⟩,
    ⟨(some 15), none, .len (.tmp 14)⟩,
    ⟨(some 16), none, .ibin .gtr (.tmp 15) (.const (.int .i64 16))⟩,
    ⟨(some 13), none, .mov (.tmp 16)⟩]

def f12r4 : List AInstr := [
    ⟨(some 4), none, .mov (.const (.int .i64 2))⟩]

def f12r5 : List AInstr := [
    ⟨(some 17), none, .mov (.tmp 0)⟩,
    ⟨(some 18), none, .len (.tmp 17)⟩,
    ⟨(some 19), none, .mov (.const (.int .i64 0))⟩]

def f12r6 : List AInstr := [
    ⟨(some 20), none, .ibin .lss (.tmp 19) (.tmp 18)⟩]

def f12r7 : List AInstr := [
    ⟨(some 21), none, .mov (.tmp 19)⟩,
    ⟨(some 22), none, .indexAddr 1 (.tmp 17) (.tmp 19)⟩,
    ⟨(some 23), none, .load none (.tmp 22)⟩,
    ⟨(some 5), none, .mov (.tmp 21)⟩,
    ⟨(some 6), none, .mov (.tmp 23)⟩]

def f12r8 : List AInstr := [
    ⟨(some 24), none, .mov (.tmp 6)⟩,
    ⟨(some 25), none, .ibin .lss (.tmp 24) (.const (.int .i64 0))⟩,
    ⟨(some 26), none, .mov (.tmp 25)⟩,
    ⟨(some 27), (some (26, false)), .mov (.tmp 6)⟩,
    ⟨(some 28), (some (26, false)), .ibin .gtr (.tmp 27) (.const (.int .i64 1048576))⟩,
    ⟨(some 29), none, .pick (.tmp 26) (.const (.bool true)) (.tmp 28)⟩,
    ⟨(some 30), none, .mov (.tmp 29)⟩,
    ⟨(some 31), (some (30, false)), .mov (.tmp 1)⟩,
    ⟨(some 32), (some (30, false)), .mov (.tmp 5)⟩,
    ⟨(some 33), (some (30, false)), .indexAddr 1 (.tmp 31) (.tmp 32)⟩,
    ⟨(some 34), (some (30, false)), .load none (.tmp 33)⟩,
    ⟨(some 35), (some (30, false)), .ibin .lss (.tmp 34) (.const (.int .i64 1))⟩,
    ⟨(some 36), none, .pick (.tmp 30) (.const (.bool true)) (.tmp 35)⟩,
    ⟨(some 37), none, .mov (.tmp 36)⟩,
    ⟨(some 38), (some (37, false)), .mov (.tmp 1)⟩,
    ⟨(some 39), (some (37, false)), .mov (.tmp 5)⟩,
    ⟨(some 40), (some (37, false)), .indexAddr 1 (.tmp 38) (.tmp 39)⟩,
    ⟨(some 41), (some (37, false)), .load none (.tmp 40)⟩,
    ⟨(some 42), (some (37, false)), .ibin .gtr (.tmp 41) (.const (.int .i64 1000))⟩,
    ⟨(some 43), none, .pick (.tmp 37) (.const (.bool true)) (.tmp 42)⟩]

def f12r9 : List AInstr := [
    ⟨(some 4), none, .mov (.const (.int .i64 2))⟩]

def f12r10 : List AInstr := [
    ⟨(some 44), none, .ibin .add (.tmp 19) (.const (.int .i64 1))⟩,
    ⟨(some 19), none, .mov (.tmp 44)⟩]

/-- live: [1, 17, 18, 19] -/
def f12l0 : ACode := (.seq (.ops f12r6)
  (.keep [1, 17, 18, 19, 20] (.seq (.cond (.tmp 20) .skip (.exit 1))
  (.keep [1, 17, 18, 19] (.seq (.block 2 (.seq (.ops f12r7)
  (.keep [1, 5, 6, 17, 18, 19] (.seq (.ops f12r8)
  (.keep [1, 17, 18, 19, 43] (.cond (.tmp 43) (.keep [] (.seq (.ops f12r9)
  (.keep [4] .ret))) .skip))))))
  (.keep [1, 17, 18, 19] (.ops f12r10)))))))

def f12r12 : List AInstr := [
    ⟨(some 4), none, .mov (.const (.int .i64 0))⟩]

def f12b : ACode := (.seq (.ops f12r0)
  (.keep [0, 1] (.seq (.block 0 (.seq (.ops f12r1)
  (.keep [0, 1, 7] (.cond (.tmp 7) (.keep [] (.seq (.ops f12r2)
  (.keep [4] .ret))) (.keep [0, 1] (.seq (.ops f12r3)
  (.keep [0, 1, 13] (.cond (.tmp 13) (.keep [] (.seq (.ops f12r4)
  (.keep [4] .ret))) .skip))))))))
  (.keep [0, 1] (.seq (.seq (.ops f12r5)
  (.keep [1, 17, 18, 19] (.block 1 (.loop f12l0))))
  (.keep [] (.seq (.ops f12r12)
  (.keep [4] .ret))))))))

def f12 : AFn := ⟨45, [.tmp 4], f12b⟩

theorem f12_ok : compFn Tryd.prog 12 = some f12.strip := by kernel_rfl

/- function 13: weirhouse/wfq.Wrong; parameters 1; operations that are not compiled: 0 -/
def f13r0 : List AInstr := [
    ⟨(some 2), none, .mov (.const (.int .i64 0))⟩]

def f13r1 : List AInstr := [
    ⟨(some 5), none, .mov (.tmp 0)⟩,
    ⟨(some 6), none, .len (.tmp 5)⟩,
    ⟨(some 7), none, .ibin .gtr (.tmp 6) (.const (.int .i64 16))⟩]

def f13r2 : List AInstr := [
    ⟨(some 2), none, .mov (.const (.int .i64 2))⟩]

def f13r3 : List AInstr := [
    ⟨(some 8), none, .mov (.tmp 0)⟩,
    ⟨(some 9), none, .len (.tmp 8)⟩,
    ⟨(some 10), none, .mov (.const (.int .i64 0))⟩]

def f13r4 : List AInstr := [
    ⟨(some 11), none, .ibin .lss (.tmp 10) (.tmp 9)⟩]

def f13r5 : List AInstr := [
    ⟨(some 12), none, .indexAddr 1 (.tmp 8) (.tmp 10)⟩,
    ⟨(some 13), none, .load none (.tmp 12)⟩,
    ⟨(some 4), none, .mov (.tmp 13)⟩]

def f13r6 : List AInstr := [
    ⟨(some 14), none, .mov (.tmp 4)⟩,
    ⟨(some 15), none, .ibin .lss (.tmp 14) (.const (.int .i64 1))⟩,
    ⟨(some 16), none, .mov (.tmp 15)⟩,
    ⟨(some 17), (some (16, false)), .mov (.tmp 4)⟩,
    ⟨(some 18), (some (16, false)), .ibin .gtr (.tmp 17) (.const (.int .i64 12))⟩,
    ⟨(some 19), none, .pick (.tmp 16) (.const (.bool true)) (.tmp 18)⟩]

def f13r7 : List AInstr := [
    ⟨(some 2), none, .mov (.const (.int .i64 2))⟩]

def f13r8 : List AInstr := [
    ⟨(some 20), none, .ibin .add (.tmp 10) (.const (.int .i64 1))⟩,
    ⟨(some 10), none, .mov (.tmp 20)⟩]

/-- live: [8, 9, 10] -/
def f13l0 : ACode := (.seq (.ops f13r4)
  (.keep [8, 9, 10, 11] (.seq (.cond (.tmp 11) .skip (.exit 0))
  (.keep [8, 9, 10] (.seq (.block 1 (.seq (.ops f13r5)
  (.keep [4, 8, 9, 10] (.seq (.ops f13r6)
  (.keep [8, 9, 10, 19] (.cond (.tmp 19) (.keep [] (.seq (.ops f13r7)
  (.keep [2] .ret))) .skip))))))
  (.keep [8, 9, 10] (.ops f13r8)))))))

def f13r10 : List AInstr := [
    ⟨(some 2), none, .mov (.const (.int .i64 0))⟩]

def f13b : ACode := (.seq (.ops f13r0)
  (.keep [0] (.seq (.seq (.ops f13r1)
  (.keep [0, 7] (.cond (.tmp 7) (.keep [] (.seq (.ops f13r2)
  (.keep [2] .ret))) .skip)))
  (.keep [0] (.seq (.seq (.ops f13r3)
  (.keep [8, 9, 10] (.block 0 (.loop f13l0))))
  (.keep [] (.seq (.ops f13r10)
  (.keep [2] .ret))))))))

def f13 : AFn := ⟨21, [.tmp 2], f13b⟩

theorem f13_ok : compFn Tryd.prog 13 = some f13.strip := by kernel_rfl

/- function 14: slices.ContainsFunc[[]int,int]; parameters 2; operations that are not compiled: 0 -/
def f14r0 : List AInstr := [
    ⟨(some 4), none, .mov (.const (.bool false))⟩]

def f14r1 : List AInstr := [
    ⟨(some 5), none, .mov (.tmp 0)⟩,
    ⟨(some 6), none, .mov (.tmp 1)⟩,
    ⟨(some 7), none, .callF 29 [.tmp 5, .tmp 6]⟩,
    ⟨(some 8), none, .ibin .geq (.tmp 7) (.const (.int .i64 0))⟩,
    ⟨(some 4), none, .mov (.tmp 8)⟩]

def f14b : ACode := (.seq (.ops f14r0)
  (.keep [0, 1] (.seq (.ops f14r1)
  (.keep [4] .ret))))

def f14 : AFn := ⟨9, [.tmp 4], f14b⟩

theorem f14_ok : compFn Tryd.prog 14 = some f14.strip := by kernel_rfl

/- function 15: weirhouse/weirhousetop.TopFluid$1; parameters 1; operations that are not compiled: 0 -/
def f15r0 : List AInstr := [
    ⟨(some 2), none, .mov (.const (.bool false))⟩]

def f15r1 : List AInstr := [
    ⟨(some 3), none, .mov (.tmp 0)⟩,
    ⟨(some 4), none, .ibin .lss (.tmp 3) (.const (.int .i64 1))⟩,
    ⟨(some 5), none, .mov (.tmp 4)⟩,
    ⟨(some 6), (some (5, false)), .mov (.tmp 0)⟩,
    ⟨(some 7), (some (5, false)), .ibin .gtr (.tmp 6) (.const (.int .i64 1500))⟩,
    ⟨(some 8), none, .pick (.tmp 5) (.const (.bool true)) (.tmp 7)⟩,
    ⟨(some 2), none, .mov (.tmp 8)⟩]

def f15b : ACode := (.seq (.ops f15r0)
  (.keep [0] (.seq (.ops f15r1)
  (.keep [2] .ret))))

def f15 : AFn := ⟨9, [.tmp 2], f15b⟩

theorem f15_ok : compFn Tryd.prog 15 = some f15.strip := by kernel_rfl

/- function 16: weirhouse/gps.Order; parameters 2; operations that are not compiled: 0 -/
def f16r0 : List AInstr := [
    ⟨(some 3), none, .box (.tmp 1)⟩,
    ⟨(some 4), none, .mov (.const (.slice none 0 0))⟩,
    ⟨(some 5), none, .mov (.const (.int .i64 0))⟩]

def f16r1 : List AInstr := [
    ⟨(some 11), none, .mov (.tmp 0)⟩,
    ⟨(some 12), none, .load none (.tmp 3)⟩,
    ⟨(some 13), none, .callF 30 [.tmp 11, .tmp 12]⟩,
    ⟨(some 10), none, .mov (.tmp 13)⟩,
    ⟨(some 14), none, .extract 0 (.tmp 10)⟩,
    ⟨(some 15), none, .extract 1 (.tmp 10)⟩,
    ⟨(some 6), none, .alloc [.slice none 0 0]⟩,
    ⟨none, none, .store 1 (.tmp 6) (.tmp 14)⟩,
    ⟨(some 7), none, .mov (.tmp 15)⟩]

def f16r2 : List AInstr := [
    ⟨(some 16), none, .mov (.tmp 7)⟩,
    ⟨(some 17), none, .ibin .neq (.tmp 16) (.const (.int .i64 0))⟩]

def f16r3 : List AInstr := [
    ⟨(some 18), none, .mov (.tmp 7)⟩,
    ⟨(some 4), none, .mov (.const (.slice none 0 0))⟩,
    ⟨(some 5), none, .mov (.tmp 18)⟩]

def f16r4 : List AInstr := [
    ⟨(some 19), none, .mov (.tmp 0)⟩,
    ⟨(some 20), none, .len (.tmp 19)⟩,
    ⟨(some 21), none, .makeSlice 1 8 [.int .i64 0] (.tmp 20) (.tmp 20)⟩,
    ⟨(some 8), none, .mov (.tmp 21)⟩]

def f16r5 : List AInstr := [
    ⟨(some 22), none, .mov (.tmp 8)⟩,
    ⟨(some 23), none, .len (.tmp 22)⟩,
    ⟨(some 24), none, .mov (.const (.int .i64 0))⟩]

def f16r6 : List AInstr := [
    ⟨(some 25), none, .ibin .lss (.tmp 24) (.tmp 23)⟩]

def f16r7 : List AInstr := [
    ⟨(some 26), none, .mov (.tmp 24)⟩,
    ⟨(some 9), none, .mov (.tmp 26)⟩]

def f16r8 : List AInstr := [
    ⟨(some 27), none, .mov (.tmp 8)⟩,
    ⟨(some 28), none, .mov (.tmp 9)⟩,
    ⟨(some 29), none, .mov (.tmp 9)⟩,
    ⟨(some 30), none, .indexAddr 1 (.tmp 27) (.tmp 28)⟩,
    ⟨none, none, .store 1 (.tmp 30) (.tmp 29)⟩]

def f16r9 : List AInstr := [
    ⟨(some 31), none, .ibin .add (.tmp 24) (.const (.int .i64 1))⟩,
    ⟨(some 24), none, .mov (.tmp 31)⟩]

/-- live: [3, 6, 8, 23, 24] -/
def f16l0 : ACode := (.seq (.ops f16r6)
  (.keep [3, 6, 8, 23, 24, 25] (.seq (.cond (.tmp 25) .skip (.exit 0))
  (.keep [3, 6, 8, 23, 24] (.seq (.block 1 (.seq (.ops f16r7)
  (.keep [3, 6, 8, 9, 23, 24] (.ops f16r8))))
  (.keep [3, 6, 8, 23, 24] (.ops f16r9)))))))

def f16r11 : List AInstr := [
    ⟨(some 32), none, .mov (.tmp 8)⟩,
    ⟨(some 33), none, .func (.func 32) [] [.tmp 6, .tmp 3]⟩,
    ⟨(some 34), none, .callF 31 [.tmp 32, .tmp 33]⟩]

def f16r12 : List AInstr := [
    ⟨(some 35), none, .mov (.tmp 8)⟩,
    ⟨(some 4), none, .mov (.tmp 35)⟩,
    ⟨(some 5), none, .mov (.const (.int .i64 0))⟩]

def f16b : ACode := (.seq (.ops f16r0)
  (.keep [0, 3] (.seq (.ops f16r1)
  (.keep [0, 3, 6, 7] (.seq (.seq (.ops f16r2)
  (.keep [0, 3, 6, 7, 17] (.cond (.tmp 17) (.keep [7] (.seq (.ops f16r3)
  (.keep [4, 5] .ret))) .skip)))
  (.keep [0, 3, 6] (.seq (.ops f16r4)
  (.keep [3, 6, 8] (.seq (.seq (.ops f16r5)
  (.keep [3, 6, 8, 23, 24] (.block 0 (.loop f16l0))))
  (.keep [3, 6, 8] (.seq (.ops f16r11)
  (.keep [8] (.seq (.ops f16r12)
  (.keep [4, 5] .ret))))))))))))))

def f16 : AFn := ⟨36, [.tmp 4, .tmp 5], f16b⟩

theorem f16_ok : compFn Tryd.prog 16 = some f16.strip := by kernel_rfl

/- function 17: weirhouse/wfq.Play; parameters 2; operations that are not compiled: 0 -/
def f17r0 : List AInstr := [
    ⟨(some 4), none, .mov (.const (.slice none 0 0))⟩,
    ⟨(some 5), none, .mov (.const (.slice none 0 0))⟩,
    ⟨(some 6), none, .mov (.const (.slice none 0 0))⟩,
    ⟨(some 7), none, .mov (.const (.int .i64 0))⟩]

def f17r1 : List AInstr := [
    ⟨(some 22), none, .mov (.tmp 0)⟩,
    ⟨(some 23), none, .callF 13 [.tmp 22]⟩,
    ⟨(some 8), none, .mov (.tmp 23)⟩]

def f17r2 : List AInstr := [
    ⟨(some 24), none, .mov (.tmp 8)⟩,
    ⟨(some 25), none, .ibin .neq (.tmp 24) (.const (.int .i64 0))⟩]

def f17r3 : List AInstr := [
    ⟨(some 26), none, .mov (.tmp 8)⟩,
    ⟨(some 4), none, .mov (.const (.slice none 0 0))⟩,
    ⟨(some 5), none, .mov (.const (.slice none 0 0))⟩,
    ⟨(some 6), none, .mov (.const (.slice none 0 0))⟩,
    ⟨(some 7), none, .mov (.tmp 26)⟩]

def f17r4 : List AInstr := [
    ⟨(some 27), none, .mov (.tmp 1)⟩,
    ⟨(some 28), none, .len (.tmp 27)⟩,
    ⟨(some 29), none, .ibin .gtr (.tmp 28) (.const (.int .i64 400))⟩]

def f17r5 : List AInstr := [
    ⟨(some 4), none, .mov (.const (.slice none 0 0))⟩,
    ⟨(some 5), none, .mov (.const (.slice none 0 0))⟩,
    ⟨(some 6), none, .mov (.const (.slice none 0 0))⟩,
    ⟨(some 7), none, .mov (.const (.int .i64 2))⟩]

def f17r6 : List AInstr := [
    ⟨(some 30), none, .mov (.tmp 0)⟩,
    ⟨(some 31), none, .mov (.tmp 0)⟩,
    ⟨(some 32), none, .len (.tmp 31)⟩,
    ⟨(some 33), none, .makeSlice 3 40 [.slice none 0 0, .int .i64 0, .int .i64 0] (.tmp 32) (.tmp 32)⟩,
    ⟨(some 34), none, .build [.slice none 0 0, .slice none 0 0, .int .i64 0, .int .i64 0] [(0, 1, (.tmp 30)), (1, 1, (.tmp 33))]⟩,
    ⟨(some 35), none, .box (.tmp 34)⟩,
    ⟨(some 9), none, .mov (.tmp 35)⟩]

def f17r7 : List AInstr := [
    ⟨(some 36), none, .mov (.tmp 0)⟩,
    ⟨(some 37), none, .len (.tmp 36)⟩,
    ⟨(some 38), none, .mov (.const (.int .i64 0))⟩]

def f17r8 : List AInstr := [
    ⟨(some 39), none, .ibin .lss (.tmp 38) (.tmp 37)⟩]

def f17r9 : List AInstr := [
    ⟨(some 40), none, .indexAddr 1 (.tmp 36) (.tmp 38)⟩,
    ⟨(some 41), none, .load none (.tmp 40)⟩,
    ⟨(some 11), none, .mov (.tmp 41)⟩]

def f17r10 : List AInstr := [
    ⟨(some 42), none, .mov (.tmp 9)⟩,
    ⟨(some 43), none, .nilCheck (.tmp 42)⟩,
    ⟨(some 44), none, .fieldAddr 2 (.tmp 43)⟩,
    ⟨(some 45), none, .load none (.tmp 44)⟩,
    ⟨(some 46), none, .mov (.tmp 11)⟩,
    ⟨(some 47), none, .ibin .add (.tmp 45) (.tmp 46)⟩,
    ⟨(some 48), none, .nilCheck (.tmp 42)⟩,
    ⟨(some 49), none, .fieldAddr 2 (.tmp 48)⟩,
    ⟨none, none, .store 1 (.tmp 49) (.tmp 47)⟩]

def f17r11 : List AInstr := [
    ⟨(some 50), none, .ibin .add (.tmp 38) (.const (.int .i64 1))⟩,
    ⟨(some 38), none, .mov (.tmp 50)⟩]

/-- live: [0, 1, 9, 36, 37, 38] -/
def f17l0 : ACode := (.seq (.ops f17r8)
  (.keep [0, 1, 9, 36, 37, 38, 39] (.seq (.cond (.tmp 39) .skip (.exit 0))
  (.keep [0, 1, 9, 36, 37, 38] (.seq (.block 1 (.seq (.ops f17r9)
  (.keep [0, 1, 9, 11, 36, 37, 38] (.ops f17r10))))
  (.keep [0, 1, 9, 36, 37, 38] (.ops f17r11)))))))

def f17r13 : List AInstr := [
    ⟨(some 12), none, .mov (.const (.slice none 0 0))⟩]

def f17r14 : List AInstr := [
    ⟨(some 13), none, .mov (.const (.slice none 0 0))⟩]

def f17r15 : List AInstr := [
    ⟨(some 51), none, .mov (.tmp 1)⟩,
    ⟨(some 52), none, .len (.tmp 51)⟩,
    ⟨(some 53), none, .mov (.const (.int .i64 0))⟩]

def f17r16 : List AInstr := [
    ⟨(some 54), none, .ibin .lss (.tmp 53) (.tmp 52)⟩]

def f17r17 : List AInstr := [
    ⟨(some 55), none, .indexAddr 3 (.tmp 51) (.tmp 53)⟩,
    ⟨(some 56), none, .load (some 3) (.tmp 55)⟩,
    ⟨(some 15), none, .alloc [.int .i64 0, .int .i64 0, .int .i64 0]⟩,
    ⟨none, none, .store 3 (.tmp 15) (.tmp 56)⟩]

def f17r18 : List AInstr := [
    ⟨(some 16), none, .mov (.const (.int .i64 0))⟩]

def f17r19 : List AInstr := [
    ⟨(some 64), none, .fieldAddr 0 (.tmp 15)⟩,
    ⟨(some 65), none, .load none (.tmp 64)⟩,
    ⟨(some 66), none, .ibin .neq (.tmp 65) (.const (.int .i64 1))⟩,
    ⟨(some 67), none, .mov (.tmp 66)⟩,
    ⟨(some 68), (some (67, true)), .fieldAddr 0 (.tmp 15)⟩,
    ⟨(some 69), (some (67, true)), .load none (.tmp 68)⟩,
    ⟨(some 70), (some (67, true)), .ibin .neq (.tmp 69) (.const (.int .i64 2))⟩,
    ⟨(some 71), none, .pick (.tmp 67) (.tmp 70) (.const (.bool false))⟩,
    ⟨(some 63), none, .mov (.tmp 71)⟩]

def f17r20 : List AInstr := [
    ⟨(some 16), none, .mov (.const (.int .i64 5))⟩]

def f17r21 : List AInstr := [
    ⟨(some 73), none, .fieldAddr 0 (.tmp 15)⟩,
    ⟨(some 74), none, .load none (.tmp 73)⟩,
    ⟨(some 75), none, .ibin .eql (.tmp 74) (.const (.int .i64 2))⟩,
    ⟨(some 72), none, .mov (.tmp 75)⟩]

def f17r22 : List AInstr := [
    ⟨(some 77), none, .mov (.tmp 9)⟩,
    ⟨(some 78), none, .callF 33 [.tmp 77]⟩,
    ⟨(some 76), none, .mov (.tmp 78)⟩,
    ⟨(some 79), none, .extract 0 (.tmp 76)⟩,
    ⟨(some 80), none, .extract 1 (.tmp 76)⟩,
    ⟨(some 17), none, .alloc [.int .i64 0, .int .i64 0]⟩,
    ⟨none, none, .store 2 (.tmp 17) (.tmp 79)⟩,
    ⟨(some 18), none, .mov (.tmp 80)⟩]

def f17r23 : List AInstr := [
    ⟨(some 81), none, .mov (.tmp 18)⟩]

def f17r24 : List AInstr := [
    ⟨(some 82), none, .mov (.tmp 13)⟩,
    ⟨(some 83), none, .load (some 2) (.tmp 17)⟩,
    ⟨(some 84), none, .buildSlice 2 1 [.int .i64 0, .int .i64 0] [(0, 2, (.tmp 83))]⟩,
    ⟨(some 85), none, .append 2 16 (.tmp 82) (.tmp 84)⟩,
    ⟨(some 13), none, .mov (.tmp 85)⟩]

def f17r25 : List AInstr := [
    ⟨(some 16), none, .mov (.const (.int .i64 3))⟩]

def f17r26 : List AInstr := [
    ⟨(some 87), none, .fieldAddr 1 (.tmp 15)⟩,
    ⟨(some 88), none, .load none (.tmp 87)⟩,
    ⟨(some 89), none, .ibin .lss (.tmp 88) (.const (.int .i64 0))⟩,
    ⟨(some 90), none, .mov (.tmp 89)⟩,
    ⟨(some 91), (some (90, false)), .fieldAddr 1 (.tmp 15)⟩,
    ⟨(some 92), (some (90, false)), .load none (.tmp 91)⟩,
    ⟨(some 93), (some (90, false)), .mov (.tmp 0)⟩,
    ⟨(some 94), (some (90, false)), .len (.tmp 93)⟩,
    ⟨(some 95), (some (90, false)), .ibin .geq (.tmp 92) (.tmp 94)⟩,
    ⟨(some 96), none, .pick (.tmp 90) (.const (.bool true)) (.tmp 95)⟩,
    ⟨(some 86), none, .mov (.tmp 96)⟩]

def f17r27 : List AInstr := [
    ⟨(some 16), none, .mov (.const (.int .i64 3))⟩]

def f17r28 : List AInstr := [
    ⟨(some 98), none, .fieldAddr 2 (.tmp 15)⟩,
    ⟨(some 99), none, .load none (.tmp 98)⟩,
    ⟨(some 100), none, .ibin .lss (.tmp 99) (.const (.int .i64 1))⟩,
    ⟨(some 101), none, .mov (.tmp 100)⟩,
    ⟨(some 102), (some (101, false)), .fieldAddr 2 (.tmp 15)⟩,
    ⟨(some 103), (some (101, false)), .load none (.tmp 102)⟩,
    ⟨(some 104), (some (101, false)), .ibin .gtr (.tmp 103) (.const (.int .i64 1500))⟩,
    ⟨(some 105), none, .pick (.tmp 101) (.const (.bool true)) (.tmp 104)⟩,
    ⟨(some 97), none, .mov (.tmp 105)⟩]

def f17r29 : List AInstr := [
    ⟨(some 16), none, .mov (.const (.int .i64 2))⟩]

def f17r30 : List AInstr := [
    ⟨(some 57), none, .mov (.tmp 9)⟩,
    ⟨(some 58), none, .fieldAddr 1 (.tmp 15)⟩,
    ⟨(some 59), none, .load none (.tmp 58)⟩,
    ⟨(some 60), none, .fieldAddr 2 (.tmp 15)⟩,
    ⟨(some 61), none, .load none (.tmp 60)⟩,
    ⟨(some 62), none, .callF 34 [.tmp 57, .tmp 59, .tmp 61]⟩]

def f17r31 : List AInstr := [
    ⟨(some 106), none, .mov (.tmp 12)⟩,
    ⟨(some 107), none, .mov (.tmp 16)⟩,
    ⟨(some 108), none, .buildSlice 1 1 [.int .i64 0] [(0, 1, (.tmp 107))]⟩,
    ⟨(some 109), none, .append 1 8 (.tmp 106) (.tmp 108)⟩,
    ⟨(some 12), none, .mov (.tmp 109)⟩]

def f17r32 : List AInstr := [
    ⟨(some 110), none, .ibin .add (.tmp 53) (.const (.int .i64 1))⟩,
    ⟨(some 53), none, .mov (.tmp 110)⟩]

/-- live: [0, 9, 12, 13, 51, 52, 53] -/
def f17l1 : ACode := (.seq (.ops f17r16)
  (.keep [0, 9, 12, 13, 51, 52, 53, 54] (.seq (.cond (.tmp 54) .skip (.exit 2))
  (.keep [0, 9, 12, 13, 51, 52, 53] (.seq (.block 3 (.seq (.ops f17r17)
  (.keep [0, 9, 12, 13, 15, 51, 52, 53] (.seq (.ops f17r18)
  (.keep [0, 9, 12, 13, 15, 16, 51, 52, 53] (.seq (.block 4 (.seq (.ops f17r19)
  (.keep [0, 9, 12, 13, 15, 16, 51, 52, 53, 63] (.cond (.tmp 63) (.keep [0, 9, 12, 13, 51, 52, 53] (.ops f17r20)) (.keep [0, 9, 12, 13, 15, 16, 51, 52, 53] (.seq (.ops f17r21)
  (.keep [0, 9, 12, 13, 15, 16, 51, 52, 53, 72] (.cond (.tmp 72) (.keep [0, 9, 12, 13, 16, 51, 52, 53] (.seq (.ops f17r22)
  (.keep [0, 9, 12, 13, 16, 17, 18, 51, 52, 53] (.seq (.ops f17r23)
  (.keep [0, 9, 12, 13, 16, 17, 51, 52, 53, 81] (.cond (.tmp 81) (.keep [0, 9, 12, 13, 16, 17, 51, 52, 53] (.ops f17r24)) (.keep [0, 9, 12, 13, 51, 52, 53] (.ops f17r25)))))))) (.keep [0, 9, 12, 13, 15, 16, 51, 52, 53] (.seq (.ops f17r26)
  (.keep [0, 9, 12, 13, 15, 16, 51, 52, 53, 86] (.cond (.tmp 86) (.keep [0, 9, 12, 13, 51, 52, 53] (.ops f17r27)) (.keep [0, 9, 12, 13, 15, 16, 51, 52, 53] (.seq (.ops f17r28)
  (.keep [0, 9, 12, 13, 15, 16, 51, 52, 53, 97] (.cond (.tmp 97) (.keep [0, 9, 12, 13, 51, 52, 53] (.ops f17r29)) (.keep [0, 9, 12, 13, 15, 16, 51, 52, 53] (.ops f17r30))))))))))))))))))
  (.keep [0, 9, 12, 13, 16, 51, 52, 53] (.ops f17r31))))))))
  (.keep [0, 9, 12, 13, 51, 52, 53] (.ops f17r32)))))))

def f17r34 : List AInstr := [
    ⟨(some 19), none, .mov (.const (.slice none 0 0))⟩]

def f17r35 : List AInstr := [
    ⟨(some 111), none, .mov (.tmp 9)⟩,
    ⟨(some 112), none, .nilCheck (.tmp 111)⟩,
    ⟨(some 113), none, .fieldAddr 1 (.tmp 112)⟩,
    ⟨(some 114), none, .load none (.tmp 113)⟩,
    ⟨(some 115), none, .len (.tmp 114)⟩,
    ⟨(some 116), none, .mov (.const (.int .i64 0))⟩]

def f17r36 : List AInstr := [
    ⟨(some 117), none, .ibin .lss (.tmp 116) (.tmp 115)⟩]

def f17r37 : List AInstr := [
    ⟨(some 118), none, .indexAddr 3 (.tmp 114) (.tmp 116)⟩,
    ⟨(some 119), none, .load (some 3) (.tmp 118)⟩,
    ⟨(some 21), none, .alloc [.slice none 0 0, .int .i64 0, .int .i64 0]⟩,
    ⟨none, none, .store 3 (.tmp 21) (.tmp 119)⟩]

def f17r38 : List AInstr := [
    ⟨(some 120), none, .mov (.tmp 19)⟩,
    ⟨(some 121), none, .fieldAddr 0 (.tmp 21)⟩,
    ⟨(some 122), none, .load none (.tmp 121)⟩,
    ⟨(some 123), none, .len (.tmp 122)⟩,
    ⟨(some 124), none, .buildSlice 1 1 [.int .i64 0] [(0, 1, (.tmp 123))]⟩,
    ⟨(some 125), none, .append 1 8 (.tmp 120) (.tmp 124)⟩,
    ⟨(some 19), none, .mov (.tmp 125)⟩]

def f17r39 : List AInstr := [
    ⟨(some 126), none, .ibin .add (.tmp 116) (.const (.int .i64 1))⟩,
    ⟨(some 116), none, .mov (.tmp 126)⟩]

/-- live: [12, 13, 19, 114, 115, 116] -/
def f17l2 : ACode := (.seq (.ops f17r36)
  (.keep [12, 13, 19, 114, 115, 116, 117] (.seq (.cond (.tmp 117) .skip (.exit 5))
  (.keep [12, 13, 19, 114, 115, 116] (.seq (.block 6 (.seq (.ops f17r37)
  (.keep [12, 13, 19, 21, 114, 115, 116] (.ops f17r38))))
  (.keep [12, 13, 19, 114, 115, 116] (.ops f17r39)))))))

def f17r41 : List AInstr := [
    ⟨(some 127), none, .mov (.tmp 12)⟩,
    ⟨(some 128), none, .mov (.tmp 13)⟩,
    ⟨(some 129), none, .mov (.tmp 19)⟩,
    ⟨(some 4), none, .mov (.tmp 127)⟩,
    ⟨(some 5), none, .mov (.tmp 128)⟩,
    ⟨(some 6), none, .mov (.tmp 129)⟩,
    ⟨(some 7), none, .mov (.const (.int .i64 0))⟩]

def f17b : ACode := (.seq (.ops f17r0)
  (.keep [0, 1] (.seq (.seq (.ops f17r1)
  (.keep [0, 1, 8] (.seq (.ops f17r2)
  (.keep [0, 1, 8, 25] (.cond (.tmp 25) (.keep [8] (.seq (.ops f17r3)
  (.keep [4, 5, 6, 7] .ret))) .skip)))))
  (.keep [0, 1] (.seq (.seq (.ops f17r4)
  (.keep [0, 1, 29] (.cond (.tmp 29) (.keep [] (.seq (.ops f17r5)
  (.keep [4, 5, 6, 7] .ret))) .skip)))
  (.keep [0, 1] (.seq (.ops f17r6)
  (.keep [0, 1, 9] (.seq (.seq (.ops f17r7)
  (.keep [0, 1, 9, 36, 37, 38] (.block 0 (.loop f17l0))))
  (.keep [0, 1, 9] (.seq (.ops f17r13)
  (.keep [0, 1, 9, 12] (.seq (.ops f17r14)
  (.keep [0, 1, 9, 12, 13] (.seq (.seq (.ops f17r15)
  (.keep [0, 9, 12, 13, 51, 52, 53] (.block 2 (.loop f17l1))))
  (.keep [9, 12, 13] (.seq (.ops f17r34)
  (.keep [9, 12, 13, 19] (.seq (.seq (.ops f17r35)
  (.keep [12, 13, 19, 114, 115, 116] (.block 5 (.loop f17l2))))
  (.keep [12, 13, 19] (.seq (.ops f17r41)
  (.keep [4, 5, 6, 7] .ret))))))))))))))))))))))

def f17 : AFn := ⟨130, [.tmp 4, .tmp 5, .tmp 6, .tmp 7], f17b⟩

theorem f17_ok : compFn Tryd.prog 17 = some f17.strip := by kernel_rfl

/- function 18: weirhouse/bench.Tell; parameters 1; operations that are not compiled: 0 -/
def f18r0 : List AInstr := [
    ⟨(some 2), none, .mov (.const (.slice none 0 0))⟩,
    ⟨(some 3), none, .mov (.const (.int .i64 0))⟩]

def f18r1 : List AInstr := [
    ⟨(some 19), none, .mov (.tmp 0)⟩,
    ⟨(some 20), none, .callF 35 [.tmp 19]⟩,
    ⟨(some 18), none, .mov (.tmp 20)⟩,
    ⟨(some 21), none, .extract 0 (.tmp 18)⟩,
    ⟨(some 22), none, .extract 1 (.tmp 18)⟩,
    ⟨(some 23), none, .extract 2 (.tmp 18)⟩,
    ⟨(some 4), none, .alloc [.int .i64 0, .int .i64 0, .int .i64 0, .slice none 0 0]⟩,
    ⟨none, none, .store 4 (.tmp 4) (.tmp 21)⟩,
    ⟨(some 5), none, .mov (.tmp 22)⟩,
    ⟨(some 6), none, .mov (.tmp 23)⟩]

def f18r2 : List AInstr := [
    ⟨(some 24), none, .mov (.tmp 6)⟩,
    ⟨(some 25), none, .ibin .neq (.tmp 24) (.const (.int .i64 0))⟩]

def f18r3 : List AInstr := [
    ⟨(some 26), none, .mov (.tmp 6)⟩,
    ⟨(some 2), none, .mov (.const (.slice none 0 0))⟩,
    ⟨(some 3), none, .mov (.tmp 26)⟩]

def f18r4 : List AInstr := [
    ⟨(some 28), none, .fieldAddr 0 (.tmp 4)⟩,
    ⟨(some 29), none, .load none (.tmp 28)⟩,
    ⟨(some 30), none, .fieldAddr 1 (.tmp 4)⟩,
    ⟨(some 31), none, .load none (.tmp 30)⟩,
    ⟨(some 32), none, .fieldAddr 2 (.tmp 4)⟩,
    ⟨(some 33), none, .load none (.tmp 32)⟩,
    ⟨(some 34), none, .fieldAddr 3 (.tmp 4)⟩,
    ⟨(some 35), none, .load none (.tmp 34)⟩,
    ⟨(some 36), none, .callF 8 [.tmp 29, .tmp 31, .tmp 33, .tmp 35]⟩,
    ⟨(some 27), none, .mov (.tmp 36)⟩,
    ⟨(some 37), none, .extract 0 (.tmp 27)⟩,
    ⟨(some 38), none, .extract 1 (.tmp 27)⟩,
    ⟨(some 39), none, .extract 2 (.tmp 27)⟩,
    ⟨(some 8), none, .alloc [.slice none 0 0, .int .i64 0, .int .i64 0, .int .i64 0, .int .i64 0, .int .i64 0, .int .i64 0, .int .i64 0, .int .i64 0, .int .i64 0]⟩,
    ⟨(some 7), none, .mov (.tmp 37)⟩,
    ⟨none, none, .store 10 (.tmp 8) (.tmp 38)⟩,
    ⟨(some 6), none, .mov (.tmp 39)⟩]

def f18r5 : List AInstr := [
    ⟨(some 40), none, .mov (.tmp 6)⟩,
    ⟨(some 41), none, .ibin .neq (.tmp 40) (.const (.int .i64 0))⟩]

def f18r6 : List AInstr := [
    ⟨(some 42), none, .mov (.tmp 6)⟩,
    ⟨(some 2), none, .mov (.const (.slice none 0 0))⟩,
    ⟨(some 3), none, .mov (.tmp 42)⟩]

def f18r7 : List AInstr := [
    ⟨(some 9), none, .mov (.const (.slice none 0 0))⟩]

def f18r8 : List AInstr := [
    ⟨(some 43), none, .mov (.tmp 7)⟩,
    ⟨(some 44), none, .len (.tmp 43)⟩,
    ⟨(some 45), none, .mov (.const (.int .i64 0))⟩]

def f18r9 : List AInstr := [
    ⟨(some 46), none, .ibin .lss (.tmp 45) (.tmp 44)⟩]

def f18r10 : List AInstr := [
    ⟨(some 47), none, .mov (.tmp 45)⟩,
    ⟨(some 48), none, .indexAddr 2 (.tmp 43) (.tmp 45)⟩,
    ⟨(some 49), none, .load (some 2) (.tmp 48)⟩,
    ⟨(some 11), none, .alloc [.int .i64 0, .slice none 0 0]⟩,
    ⟨(some 10), none, .mov (.tmp 47)⟩,
    ⟨none, none, .store 2 (.tmp 11) (.tmp 49)⟩]

def f18r11 : List AInstr := [
    ⟨(some 12), none, .mov (.const (.string ⟨#[111, 107]⟩))⟩]

def f18r12 : List AInstr := [
    ⟨(some 50), none, .fieldAddr 0 (.tmp 11)⟩,
    ⟨(some 51), none, .load none (.tmp 50)⟩,
    ⟨(some 52), none, .ibin .neq (.tmp 51) (.const (.int .i64 0))⟩]

def f18r13 : List AInstr := [
    ⟨(some 53), none, .fieldAddr 0 (.tmp 11)⟩,
    ⟨(some 54), none, .load none (.tmp 53)⟩,
    ⟨(some 55), none, .callF 36 [.tmp 54]⟩,
    ⟨(some 56), none, .str .add [.const (.string ⟨#[101, 114, 114, 111, 114, 32]⟩), .tmp 55]⟩,
    ⟨(some 12), none, .mov (.tmp 56)⟩]

def f18r14 : List AInstr := [
    ⟨(some 57), none, .fieldAddr 3 (.tmp 4)⟩,
    ⟨(some 58), none, .load none (.tmp 57)⟩,
    ⟨(some 59), none, .mov (.tmp 10)⟩,
    ⟨(some 60), none, .indexAddr 2 (.tmp 58) (.tmp 59)⟩,
    ⟨(some 61), none, .fieldAddr 0 (.tmp 60)⟩,
    ⟨(some 62), none, .load none (.tmp 61)⟩,
    ⟨(some 63), none, .ibin .eql (.tmp 62) (.const (.int .i64 3))⟩]

def f18r15 : List AInstr := [
    ⟨(some 12), none, .mov (.const (.string ⟨#[115, 101, 110, 116]⟩))⟩]

def f18r16 : List AInstr := [
    ⟨(some 64), none, .fieldAddr 1 (.tmp 11)⟩,
    ⟨(some 65), none, .load none (.tmp 64)⟩,
    ⟨(some 66), none, .len (.tmp 65)⟩,
    ⟨(some 67), none, .mov (.const (.int .i64 0))⟩]

def f18r17 : List AInstr := [
    ⟨(some 68), none, .ibin .lss (.tmp 67) (.tmp 66)⟩]

def f18r18 : List AInstr := [
    ⟨(some 69), none, .indexAddr 1 (.tmp 65) (.tmp 67)⟩,
    ⟨(some 70), none, .load none (.tmp 69)⟩,
    ⟨(some 14), none, .mov (.tmp 70)⟩]

def f18r19 : List AInstr := [
    ⟨(some 71), none, .mov (.tmp 12)⟩,
    ⟨(some 72), none, .mov (.tmp 14)⟩,
    ⟨(some 73), none, .callF 36 [.tmp 72]⟩,
    ⟨(some 74), none, .str .add [.const (.string ⟨#[32]⟩), .tmp 73]⟩,
    ⟨(some 75), none, .str .add [.tmp 71, .tmp 74]⟩,
    ⟨(some 12), none, .mov (.tmp 75)⟩]

def f18r20 : List AInstr := [
    ⟨(some 76), none, .ibin .add (.tmp 67) (.const (.int .i64 1))⟩,
    ⟨(some 67), none, .mov (.tmp 76)⟩]

/-- live: [4, 8, 9, 12, 43, 44, 45, 65, 66, 67] -/
def f18l0 : ACode := (.seq (.ops f18r17)
  (.keep [4, 8, 9, 12, 43, 44, 45, 65, 66, 67, 68] (.seq (.cond (.tmp 68) .skip (.exit 2))
  (.keep [4, 8, 9, 12, 43, 44, 45, 65, 66, 67] (.seq (.block 3 (.seq (.ops f18r18)
  (.keep [4, 8, 9, 12, 14, 43, 44, 45, 65, 66, 67] (.ops f18r19))))
  (.keep [4, 8, 9, 12, 43, 44, 45, 65, 66, 67] (.ops f18r20)))))))

def f18r22 : List AInstr := [
    ⟨(some 77), none, .mov (.tmp 9)⟩,
    ⟨(some 78), none, .mov (.tmp 12)⟩,
    ⟨(some 79), none, .buildSlice 1 1 [.string ⟨#[]⟩] [(0, 1, (.tmp 78))]⟩,
    ⟨(some 80), none, .append 1 16 (.tmp 77) (.tmp 79)⟩,
    ⟨(some 9), none, .mov (.tmp 80)⟩]

def f18r23 : List AInstr := [
    ⟨(some 81), none, .ibin .add (.tmp 45) (.const (.int .i64 1))⟩,
    ⟨(some 45), none, .mov (.tmp 81)⟩]

/-- live: [4, 8, 9, 43, 44, 45] -/
def f18l1 : ACode := (.seq (.ops f18r9)
  (.keep [4, 8, 9, 43, 44, 45, 46] (.seq (.cond (.tmp 46) .skip (.exit 0))
  (.keep [4, 8, 9, 43, 44, 45] (.seq (.block 1 (.seq (.ops f18r10)
  (.keep [4, 8, 9, 10, 11, 43, 44, 45] (.seq (.ops f18r11)
  (.keep [4, 8, 9, 10, 11, 12, 43, 44, 45] (.seq (.seq (.ops f18r12)
  (.keep [4, 8, 9, 10, 11, 12, 43, 44, 45, 52] (.cond (.tmp 52) (.keep [4, 8, 9, 11, 43, 44, 45] (.ops f18r13)) (.keep [4, 8, 9, 10, 11, 12, 43, 44, 45] (.seq (.ops f18r14)
  (.keep [4, 8, 9, 11, 12, 43, 44, 45, 63] (.cond (.tmp 63) (.keep [4, 8, 9, 11, 43, 44, 45] (.seq (.ops f18r15)
  (.keep [4, 8, 9, 11, 12, 43, 44, 45] (.seq (.ops f18r16)
  (.keep [4, 8, 9, 12, 43, 44, 45, 65, 66, 67] (.block 2 (.loop f18l0))))))) .skip)))))))
  (.keep [4, 8, 9, 12, 43, 44, 45] (.ops f18r22))))))))
  (.keep [4, 8, 9, 43, 44, 45] (.ops f18r23)))))))

def f18r25 : List AInstr := [
    ⟨(some 15), none, .mov (.const (.string ⟨#[108, 101, 102, 116]⟩))⟩]

def f18r26 : List AInstr := [
    ⟨(some 82), none, .fieldAddr 0 (.tmp 8)⟩,
    ⟨(some 83), none, .fieldAddr 0 (.tmp 82)⟩,
    ⟨(some 84), none, .load none (.tmp 83)⟩,
    ⟨(some 85), none, .len (.tmp 84)⟩,
    ⟨(some 86), none, .fieldAddr 0 (.tmp 8)⟩,
    ⟨(some 87), none, .fieldAddr 3 (.tmp 86)⟩,
    ⟨(some 88), none, .load none (.tmp 87)⟩,
    ⟨(some 89), none, .fieldAddr 9 (.tmp 8)⟩,
    ⟨(some 90), none, .load none (.tmp 89)⟩,
    ⟨(some 91), none, .fieldAddr 4 (.tmp 8)⟩,
    ⟨(some 92), none, .fieldAddr 3 (.tmp 91)⟩,
    ⟨(some 93), none, .load none (.tmp 92)⟩,
    ⟨(some 94), none, .fieldAddr 4 (.tmp 8)⟩,
    ⟨(some 95), none, .fieldAddr 4 (.tmp 94)⟩,
    ⟨(some 96), none, .load none (.tmp 95)⟩,
    ⟨(some 97), none, .buildSlice 1 5 [.int .i64 0, .int .i64 0, .int .i64 0, .int .i64 0, .int .i64 0] [(0, 1, (.tmp 85)), (1, 1, (.tmp 88)), (2, 1, (.tmp 90)), (3, 1, (.tmp 93)), (4, 1, (.tmp 96))]⟩,
    ⟨(some 98), none, .len (.tmp 97)⟩,
    ⟨(some 99), none, .mov (.const (.int .i64 0))⟩]

def f18r27 : List AInstr := [
    ⟨(some 100), none, .ibin .lss (.tmp 99) (.tmp 98)⟩]

def f18r28 : List AInstr := [
    ⟨(some 101), none, .indexAddr 1 (.tmp 97) (.tmp 99)⟩,
    ⟨(some 102), none, .load none (.tmp 101)⟩,
    ⟨(some 17), none, .mov (.tmp 102)⟩]

def f18r29 : List AInstr := [
    ⟨(some 103), none, .mov (.tmp 15)⟩,
    ⟨(some 104), none, .mov (.tmp 17)⟩,
    ⟨(some 105), none, .callF 36 [.tmp 104]⟩,
    ⟨(some 106), none, .str .add [.const (.string ⟨#[32]⟩), .tmp 105]⟩,
    ⟨(some 107), none, .str .add [.tmp 103, .tmp 106]⟩,
    ⟨(some 15), none, .mov (.tmp 107)⟩]

def f18r30 : List AInstr := [
    ⟨(some 108), none, .ibin .add (.tmp 99) (.const (.int .i64 1))⟩,
    ⟨(some 99), none, .mov (.tmp 108)⟩]

/-- live: [9, 15, 97, 98, 99] -/
def f18l2 : ACode := (.seq (.ops f18r27)
  (.keep [9, 15, 97, 98, 99, 100] (.seq (.cond (.tmp 100) .skip (.exit 4))
  (.keep [9, 15, 97, 98, 99] (.seq (.block 5 (.seq (.ops f18r28)
  (.keep [9, 15, 17, 97, 98, 99] (.ops f18r29))))
  (.keep [9, 15, 97, 98, 99] (.ops f18r30)))))))

def f18r32 : List AInstr := [
    ⟨(some 109), none, .mov (.tmp 9)⟩,
    ⟨(some 110), none, .mov (.tmp 15)⟩,
    ⟨(some 111), none, .buildSlice 1 1 [.string ⟨#[]⟩] [(0, 1, (.tmp 110))]⟩,
    ⟨(some 112), none, .append 1 16 (.tmp 109) (.tmp 111)⟩,
    ⟨(some 2), none, .mov (.tmp 112)⟩,
    ⟨(some 3), none, .mov (.const (.int .i64 0))⟩]

def f18b : ACode := (.seq (.ops f18r0)
  (.keep [0] (.seq (.ops f18r1)
  (.keep [4, 6] (.seq (.seq (.ops f18r2)
  (.keep [4, 6, 25] (.cond (.tmp 25) (.keep [6] (.seq (.ops f18r3)
  (.keep [2, 3] .ret))) .skip)))
  (.keep [4] (.seq (.ops f18r4)
  (.keep [4, 6, 7, 8] (.seq (.seq (.ops f18r5)
  (.keep [4, 6, 7, 8, 41] (.cond (.tmp 41) (.keep [6] (.seq (.ops f18r6)
  (.keep [2, 3] .ret))) .skip)))
  (.keep [4, 7, 8] (.seq (.ops f18r7)
  (.keep [4, 7, 8, 9] (.seq (.seq (.ops f18r8)
  (.keep [4, 8, 9, 43, 44, 45] (.block 0 (.loop f18l1))))
  (.keep [8, 9] (.seq (.ops f18r25)
  (.keep [8, 9, 15] (.seq (.seq (.ops f18r26)
  (.keep [9, 15, 97, 98, 99] (.block 4 (.loop f18l2))))
  (.keep [9, 15] (.seq (.ops f18r32)
  (.keep [2, 3] .ret))))))))))))))))))))

def f18 : AFn := ⟨113, [.tmp 2, .tmp 3], f18b⟩

theorem f18_ok : compFn Tryd.prog 18 = some f18.strip := by kernel_rfl

/- function 19: slices.Equal[[]string,string]; parameters 2; operations that are not compiled: 0 -/
def f19r0 : List AInstr := [
    ⟨(some 4), none, .mov (.const (.bool false))⟩]

def f19r1 : List AInstr := [
    ⟨(some 6), none, .mov (.tmp 0)⟩,
    ⟨(some 7), none, .len (.tmp 6)⟩,
    ⟨(some 8), none, .mov (.tmp 1)⟩,
    ⟨(some 9), none, .len (.tmp 8)⟩,
    ⟨(some 10), none, .ibin .neq (.tmp 7) (.tmp 9)⟩]

def f19r2 : List AInstr := [
    ⟨(some 4), none, .mov (.const (.bool false))⟩]

def f19r3 : List AInstr := [
    ⟨(some 11), none, .mov (.tmp 0)⟩,
    ⟨(some 12), none, .len (.tmp 11)⟩,
    ⟨(some 13), none, .mov (.const (.int .i64 0))⟩]

def f19r4 : List AInstr := [
    ⟨(some 14), none, .ibin .lss (.tmp 13) (.tmp 12)⟩]

def f19r5 : List AInstr := [
    ⟨(some 15), none, .mov (.tmp 13)⟩,
    ⟨(some 5), none, .mov (.tmp 15)⟩]

def f19r6 : List AInstr := [
    ⟨(some 16), none, .mov (.tmp 0)⟩,
    ⟨(some 17), none, .mov (.tmp 5)⟩,
    ⟨(some 18), none, .indexAddr 1 (.tmp 16) (.tmp 17)⟩,
    ⟨(some 19), none, .load none (.tmp 18)⟩,
    ⟨(some 20), none, .mov (.tmp 1)⟩,
    ⟨(some 21), none, .mov (.tmp 5)⟩,
    ⟨(some 22), none, .indexAddr 1 (.tmp 20) (.tmp 21)⟩,
    ⟨(some 23), none, .load none (.tmp 22)⟩,
    ⟨(some 24), none, .str (.cmp true) [.tmp 19, .tmp 23]⟩]

def f19r7 : List AInstr := [
    ⟨(some 4), none, .mov (.const (.bool false))⟩]

def f19r8 : List AInstr := [
    ⟨(some 25), none, .ibin .add (.tmp 13) (.const (.int .i64 1))⟩,
    ⟨(some 13), none, .mov (.tmp 25)⟩]

/-- live: [0, 1, 12, 13] -/
def f19l0 : ACode := (.seq (.ops f19r4)
  (.keep [0, 1, 12, 13, 14] (.seq (.cond (.tmp 14) .skip (.exit 0))
  (.keep [0, 1, 12, 13] (.seq (.block 1 (.seq (.ops f19r5)
  (.keep [0, 1, 5, 12, 13] (.seq (.draw f19r6 [(0, 0, false), (0, 0, false), (0, 0, false), (0, 0, false), (0, 0, false), (0, 0, false), (0, 0, false), (0, 0, false), (0, 0, false)])
  (.keep [0, 1, 12, 13, 24] (.cond (.tmp 24) (.keep [] (.seq (.ops f19r7)
  (.keep [4] .ret))) .skip))))))
  (.keep [0, 1, 12, 13] (.ops f19r8)))))))

def f19r10 : List AInstr := [
    ⟨(some 4), none, .mov (.const (.bool true))⟩]

def f19b : ACode := (.seq (.ops f19r0)
  (.keep [0, 1] (.seq (.seq (.ops f19r1)
  (.keep [0, 1, 10] (.cond (.tmp 10) (.keep [] (.seq (.ops f19r2)
  (.keep [4] .ret))) .skip)))
  (.keep [0, 1] (.seq (.seq (.ops f19r3)
  (.keep [0, 1, 12, 13] (.block 0 (.loop f19l0))))
  (.keep [] (.seq (.ops f19r10)
  (.keep [4] .ret))))))))

def f19 : AFn := ⟨26, [.tmp 4], f19b⟩

theorem f19_ok : compFn Tryd.prog 19 = some f19.strip := by kernel_rfl

/- function 20: weirhouse/meter.Right; parameters 1; operations that are not compiled: 0 -/
def f20r0 : List AInstr := [
    ⟨(some 1), none, .box (.tmp 0)⟩,
    ⟨(some 2), none, .mov (.const (.bool false))⟩]

def f20r1 : List AInstr := [
    ⟨(some 3), none, .mov (.const (.func (.func 37) #[] #[]))⟩]

def f20r2 : List AInstr := [
    ⟨(some 4), none, .mov (.tmp 3)⟩,
    ⟨(some 5), none, .fieldAddr 0 (.tmp 1)⟩,
    ⟨(some 6), none, .load none (.tmp 5)⟩,
    ⟨(some 7), none, .callV (.tmp 4) [.tmp 6, .const (.int .i64 1048576)]⟩,
    ⟨(some 8), none, .mov (.tmp 7)⟩,
    ⟨(some 9), (some (8, true)), .mov (.tmp 3)⟩,
    ⟨(some 10), (some (8, true)), .fieldAddr 1 (.tmp 1)⟩,
    ⟨(some 11), (some (8, true)), .load none (.tmp 10)⟩,
    ⟨(some 12), (some (8, true)), .callV (.tmp 9) [.tmp 11, .const (.int .i64 1048576)]⟩,
    ⟨(some 13), none, .pick (.tmp 8) (.tmp 12) (.const (.bool false))⟩,
    ⟨(some 14), none, .mov (.tmp 13)⟩,
    ⟨(some 15), (some (14, true)), .mov (.tmp 3)⟩,
    ⟨(some 16), (some (14, true)), .fieldAddr 2 (.tmp 1)⟩,
    ⟨(some 17), (some (14, true)), .load none (.tmp 16)⟩,
    ⟨(some 18), (some (14, true)), .callV (.tmp 15) [.tmp 17, .const (.int .i64 1048576)]⟩,
    ⟨(some 19), none, .pick (.tmp 14) (.tmp 18) (.const (.bool false))⟩,
    ⟨(some 20), none, .mov (.tmp 19)⟩,
    ⟨(some 21), (some (20, true)), .mov (.tmp 3)⟩,
    ⟨(some 22), (some (20, true)), .fieldAddr 3 (.tmp 1)⟩,
    ⟨(some 23), (some (20, true)), .load none (.tmp 22)⟩,
    ⟨(some 24), (some (20, true)), .fieldAddr 1 (.tmp 1)⟩,
    ⟨(some 25), (some (20, true)), .load none (.tmp 24)⟩,
    ⟨(some 26), (some (20, true)), .callV (.tmp 21) [.tmp 23, .tmp 25]⟩,
    ⟨(some 27), none, .pick (.tmp 20) (.tmp 26) (.const (.bool false))⟩,
    ⟨(some 28), none, .mov (.tmp 27)⟩,
    ⟨(some 29), (some (28, true)), .mov (.tmp 3)⟩,
    ⟨(some 30), (some (28, true)), .fieldAddr 4 (.tmp 1)⟩,
    ⟨(some 31), (some (28, true)), .load none (.tmp 30)⟩,
    ⟨(some 32), (some (28, true)), .fieldAddr 2 (.tmp 1)⟩,
    ⟨(some 33), (some (28, true)), .load none (.tmp 32)⟩,
    ⟨(some 34), (some (28, true)), .callV (.tmp 29) [.tmp 31, .tmp 33]⟩,
    ⟨(some 35), none, .pick (.tmp 28) (.tmp 34) (.const (.bool false))⟩,
    ⟨(some 36), none, .mov (.tmp 35)⟩,
    ⟨(some 37), (some (36, true)), .mov (.tmp 3)⟩,
    ⟨(some 38), (some (36, true)), .fieldAddr 5 (.tmp 1)⟩,
    ⟨(some 39), (some (36, true)), .load none (.tmp 38)⟩,
    ⟨(some 40), (some (36, true)), .callV (.tmp 37) [.tmp 39, .const (.int .i64 1099511627776)]⟩,
    ⟨(some 41), none, .pick (.tmp 36) (.tmp 40) (.const (.bool false))⟩,
    ⟨(some 2), none, .mov (.tmp 41)⟩]

def f20b : ACode := (.seq (.ops f20r0)
  (.keep [1] (.seq (.ops f20r1)
  (.keep [1, 3] (.seq (.ops f20r2)
  (.keep [2] .ret))))))

def f20 : AFn := ⟨42, [.tmp 2], f20b⟩

theorem f20_ok : compFn Tryd.prog 20 = some f20.strip := by kernel_rfl

/- function 21: weirhouse/meter.Colour; parameters 3; operations that are not compiled: 0 -/
def f21r0 : List AInstr := [
    ⟨(some 3), none, .box (.tmp 0)⟩,
    ⟨(some 4), none, .box (.tmp 1)⟩,
    ⟨(some 6), none, .alloc [.int .i64 0, .int .i64 0, .int .i64 0, .int .i64 0, .int .i64 0, .int .i64 0]⟩,
    ⟨(some 7), none, .mov (.const (.int .i64 0))⟩,
    ⟨(some 8), none, .mov (.const (.int .i64 0))⟩]

def f21r1 : List AInstr := [
    ⟨(some 9), none, .mov (.const (.func (.func 38) #[] #[]))⟩]

def f21r2 : List AInstr := [
    ⟨(some 15), none, .load (some 6) (.tmp 3)⟩,
    ⟨(some 16), none, .callF 20 [.tmp 15]⟩,
    ⟨(some 17), none, .un .not (.tmp 16)⟩,
    ⟨(some 14), none, .mov (.tmp 17)⟩]

def f21r3 : List AInstr := [
    ⟨(some 18), none, .mov (.tmp 9)⟩,
    ⟨(some 19), none, .callV (.tmp 18) [.const (.int .i64 1)]⟩,
    ⟨(some 20), none, .extract 0 (.tmp 19)⟩,
    ⟨(some 21), none, .extract 1 (.tmp 19)⟩,
    ⟨(some 22), none, .extract 2 (.tmp 19)⟩,
    ⟨none, none, .store 6 (.tmp 6) (.tmp 20)⟩,
    ⟨(some 7), none, .mov (.tmp 21)⟩,
    ⟨(some 8), none, .mov (.tmp 22)⟩]

def f21r4 : List AInstr := [
    ⟨(some 24), none, .mov (.tmp 2)⟩,
    ⟨(some 25), none, .ibin .lss (.tmp 24) (.const (.int .i64 1))⟩,
    ⟨(some 26), none, .mov (.tmp 25)⟩,
    ⟨(some 27), (some (26, false)), .mov (.tmp 2)⟩,
    ⟨(some 28), (some (26, false)), .ibin .gtr (.tmp 27) (.const (.int .i64 3))⟩,
    ⟨(some 29), none, .pick (.tmp 26) (.const (.bool true)) (.tmp 28)⟩,
    ⟨(some 23), none, .mov (.tmp 29)⟩]

def f21r5 : List AInstr := [
    ⟨(some 30), none, .mov (.tmp 9)⟩,
    ⟨(some 31), none, .callV (.tmp 30) [.const (.int .i64 5)]⟩,
    ⟨(some 32), none, .extract 0 (.tmp 31)⟩,
    ⟨(some 33), none, .extract 1 (.tmp 31)⟩,
    ⟨(some 34), none, .extract 2 (.tmp 31)⟩,
    ⟨none, none, .store 6 (.tmp 6) (.tmp 32)⟩,
    ⟨(some 7), none, .mov (.tmp 33)⟩,
    ⟨(some 8), none, .mov (.tmp 34)⟩]

def f21r6 : List AInstr := [
    ⟨(some 36), none, .fieldAddr 0 (.tmp 4)⟩,
    ⟨(some 37), none, .load none (.tmp 36)⟩,
    ⟨(some 38), none, .fieldAddr 5 (.tmp 3)⟩,
    ⟨(some 39), none, .load none (.tmp 38)⟩,
    ⟨(some 40), none, .ibin .lss (.tmp 37) (.tmp 39)⟩,
    ⟨(some 41), none, .mov (.tmp 40)⟩,
    ⟨(some 42), (some (41, false)), .fieldAddr 0 (.tmp 4)⟩,
    ⟨(some 43), (some (41, false)), .load none (.tmp 42)⟩,
    ⟨(some 44), (some (41, false)), .ibin .gtr (.tmp 43) (.const (.int .i64 1099511627776))⟩,
    ⟨(some 45), none, .pick (.tmp 41) (.const (.bool true)) (.tmp 44)⟩,
    ⟨(some 46), none, .mov (.tmp 45)⟩,
    ⟨(some 47), (some (46, false)), .fieldAddr 1 (.tmp 4)⟩,
    ⟨(some 48), (some (46, false)), .load none (.tmp 47)⟩,
    ⟨(some 49), (some (46, false)), .ibin .lss (.tmp 48) (.const (.int .i64 0))⟩,
    ⟨(some 50), none, .pick (.tmp 46) (.const (.bool true)) (.tmp 49)⟩,
    ⟨(some 51), none, .mov (.tmp 50)⟩,
    ⟨(some 52), (some (51, false)), .fieldAddr 1 (.tmp 4)⟩,
    ⟨(some 53), (some (51, false)), .load none (.tmp 52)⟩,
    ⟨(some 54), (some (51, false)), .ibin .gtr (.tmp 53) (.const (.int .i64 1048576))⟩,
    ⟨(some 55), none, .pick (.tmp 51) (.const (.bool true)) (.tmp 54)⟩,
    ⟨(some 35), none, .mov (.tmp 55)⟩]

def f21r7 : List AInstr := [
    ⟨(some 56), none, .mov (.tmp 9)⟩,
    ⟨(some 57), none, .callV (.tmp 56) [.const (.int .i64 2)]⟩,
    ⟨(some 58), none, .extract 0 (.tmp 57)⟩,
    ⟨(some 59), none, .extract 1 (.tmp 57)⟩,
    ⟨(some 60), none, .extract 2 (.tmp 57)⟩,
    ⟨none, none, .store 6 (.tmp 6) (.tmp 58)⟩,
    ⟨(some 7), none, .mov (.tmp 59)⟩,
    ⟨(some 8), none, .mov (.tmp 60)⟩]

def f21r8 : List AInstr := [
    ⟨(some 61), none, .fieldAddr 1 (.tmp 3)⟩,
    ⟨(some 62), none, .load none (.tmp 61)⟩,
    ⟨(some 63), none, .fieldAddr 3 (.tmp 3)⟩,
    ⟨(some 64), none, .load none (.tmp 63)⟩,
    ⟨(some 65), none, .ibin .sub (.tmp 62) (.tmp 64)⟩,
    ⟨(some 66), none, .fieldAddr 2 (.tmp 3)⟩,
    ⟨(some 67), none, .load none (.tmp 66)⟩,
    ⟨(some 68), none, .ibin .add (.tmp 65) (.tmp 67)⟩,
    ⟨(some 69), none, .fieldAddr 4 (.tmp 3)⟩,
    ⟨(some 70), none, .load none (.tmp 69)⟩,
    ⟨(some 71), none, .ibin .sub (.tmp 68) (.tmp 70)⟩,
    ⟨(some 10), none, .mov (.tmp 71)⟩]

def f21r9 : List AInstr := [
    ⟨(some 72), none, .mov (.tmp 10)⟩,
    ⟨(some 11), none, .mov (.tmp 72)⟩]

def f21r10 : List AInstr := [
    ⟨(some 73), none, .fieldAddr 0 (.tmp 4)⟩,
    ⟨(some 74), none, .load none (.tmp 73)⟩,
    ⟨(some 75), none, .fieldAddr 5 (.tmp 3)⟩,
    ⟨(some 76), none, .load none (.tmp 75)⟩,
    ⟨(some 77), none, .ibin .sub (.tmp 74) (.tmp 76)⟩,
    ⟨(some 12), none, .mov (.tmp 77)⟩]

def f21r11 : List AInstr := [
    ⟨(some 78), none, .fieldAddr 0 (.tmp 3)⟩,
    ⟨(some 79), none, .load none (.tmp 78)⟩,
    ⟨(some 80), none, .ibin .eql (.tmp 79) (.const (.int .i64 0))⟩,
    ⟨(some 81), none, .mov (.tmp 80)⟩,
    ⟨(some 82), (some (81, false)), .mov (.tmp 12)⟩,
    ⟨(some 83), (some (81, false)), .mov (.tmp 10)⟩,
    ⟨(some 84), (some (81, false)), .fieldAddr 0 (.tmp 3)⟩,
    ⟨(some 85), (some (81, false)), .load none (.tmp 84)⟩,
    ⟨(some 86), (some (81, false)), .ibin .quo (.tmp 83) (.tmp 85)⟩,
    ⟨(some 87), (some (81, false)), .ibin .leq (.tmp 82) (.tmp 86)⟩,
    ⟨(some 88), none, .pick (.tmp 81) (.const (.bool true)) (.tmp 87)⟩]

def f21r12 : List AInstr := [
    ⟨(some 89), none, .mov (.tmp 12)⟩,
    ⟨(some 90), none, .fieldAddr 0 (.tmp 3)⟩,
    ⟨(some 91), none, .load none (.tmp 90)⟩,
    ⟨(some 92), none, .ibin .mul (.tmp 89) (.tmp 91)⟩,
    ⟨(some 93), none, .mov (.tmp 10)⟩,
    ⟨(some 94), none, .minmax false [.tmp 92, .tmp 93]⟩,
    ⟨(some 11), none, .mov (.tmp 94)⟩]

def f21r13 : List AInstr := [
    ⟨(some 95), none, .mov (.tmp 11)⟩,
    ⟨(some 96), none, .fieldAddr 1 (.tmp 3)⟩,
    ⟨(some 97), none, .load none (.tmp 96)⟩,
    ⟨(some 98), none, .fieldAddr 3 (.tmp 3)⟩,
    ⟨(some 99), none, .load none (.tmp 98)⟩,
    ⟨(some 100), none, .ibin .sub (.tmp 97) (.tmp 99)⟩,
    ⟨(some 101), none, .minmax false [.tmp 95, .tmp 100]⟩,
    ⟨(some 13), none, .mov (.tmp 101)⟩]

def f21r14 : List AInstr := [
    ⟨(some 102), none, .fieldAddr 3 (.tmp 3)⟩,
    ⟨(some 103), none, .load none (.tmp 102)⟩,
    ⟨(some 104), none, .mov (.tmp 13)⟩,
    ⟨(some 105), none, .ibin .add (.tmp 103) (.tmp 104)⟩,
    ⟨(some 106), none, .fieldAddr 3 (.tmp 3)⟩,
    ⟨none, none, .store 1 (.tmp 106) (.tmp 105)⟩]

def f21r15 : List AInstr := [
    ⟨(some 107), none, .fieldAddr 4 (.tmp 3)⟩,
    ⟨(some 108), none, .load none (.tmp 107)⟩,
    ⟨(some 109), none, .mov (.tmp 11)⟩,
    ⟨(some 110), none, .mov (.tmp 13)⟩,
    ⟨(some 111), none, .ibin .sub (.tmp 109) (.tmp 110)⟩,
    ⟨(some 112), none, .ibin .add (.tmp 108) (.tmp 111)⟩,
    ⟨(some 113), none, .fieldAddr 4 (.tmp 3)⟩,
    ⟨none, none, .store 1 (.tmp 113) (.tmp 112)⟩]

def f21r16 : List AInstr := [
    ⟨(some 114), none, .fieldAddr 0 (.tmp 4)⟩,
    ⟨(some 115), none, .load none (.tmp 114)⟩,
    ⟨(some 116), none, .fieldAddr 5 (.tmp 3)⟩,
    ⟨none, none, .store 1 (.tmp 116) (.tmp 115)⟩]

def f21r17 : List AInstr := [
    ⟨(some 118), none, .mov (.tmp 2)⟩,
    ⟨(some 119), none, .ibin .eql (.tmp 118) (.const (.int .i64 1))⟩,
    ⟨(some 120), none, .mov (.tmp 119)⟩,
    ⟨(some 121), (some (120, true)), .fieldAddr 1 (.tmp 4)⟩,
    ⟨(some 122), (some (120, true)), .load none (.tmp 121)⟩,
    ⟨(some 123), (some (120, true)), .fieldAddr 3 (.tmp 3)⟩,
    ⟨(some 124), (some (120, true)), .load none (.tmp 123)⟩,
    ⟨(some 125), (some (120, true)), .ibin .leq (.tmp 122) (.tmp 124)⟩,
    ⟨(some 126), none, .pick (.tmp 120) (.tmp 125) (.const (.bool false))⟩,
    ⟨(some 117), none, .mov (.tmp 126)⟩]

def f21r18 : List AInstr := [
    ⟨(some 127), none, .fieldAddr 3 (.tmp 3)⟩,
    ⟨(some 128), none, .load none (.tmp 127)⟩,
    ⟨(some 129), none, .fieldAddr 1 (.tmp 4)⟩,
    ⟨(some 130), none, .load none (.tmp 129)⟩,
    ⟨(some 131), none, .ibin .sub (.tmp 128) (.tmp 130)⟩,
    ⟨(some 132), none, .fieldAddr 3 (.tmp 3)⟩,
    ⟨none, none, .store 1 (.tmp 132) (.tmp 131)⟩]

def f21r19 : List AInstr := [
    ⟨(some 133), none, .load (some 6) (.tmp 3)⟩,
    ⟨none, none, .store 6 (.tmp 6) (.tmp 133)⟩,
    ⟨(some 7), none, .mov (.const (.int .i64 1))⟩,
    ⟨(some 8), none, .mov (.const (.int .i64 0))⟩]

def f21r20 : List AInstr := [
    ⟨(some 135), none, .mov (.tmp 2)⟩,
    ⟨(some 136), none, .ibin .leq (.tmp 135) (.const (.int .i64 2))⟩,
    ⟨(some 137), none, .mov (.tmp 136)⟩,
    ⟨(some 138), (some (137, true)), .fieldAddr 1 (.tmp 4)⟩,
    ⟨(some 139), (some (137, true)), .load none (.tmp 138)⟩,
    ⟨(some 140), (some (137, true)), .fieldAddr 4 (.tmp 3)⟩,
    ⟨(some 141), (some (137, true)), .load none (.tmp 140)⟩,
    ⟨(some 142), (some (137, true)), .ibin .leq (.tmp 139) (.tmp 141)⟩,
    ⟨(some 143), none, .pick (.tmp 137) (.tmp 142) (.const (.bool false))⟩,
    ⟨(some 134), none, .mov (.tmp 143)⟩]

def f21r21 : List AInstr := [
    ⟨(some 144), none, .fieldAddr 4 (.tmp 3)⟩,
    ⟨(some 145), none, .load none (.tmp 144)⟩,
    ⟨(some 146), none, .fieldAddr 1 (.tmp 4)⟩,
    ⟨(some 147), none, .load none (.tmp 146)⟩,
    ⟨(some 148), none, .ibin .sub (.tmp 145) (.tmp 147)⟩,
    ⟨(some 149), none, .fieldAddr 4 (.tmp 3)⟩,
    ⟨none, none, .store 1 (.tmp 149) (.tmp 148)⟩]

def f21r22 : List AInstr := [
    ⟨(some 150), none, .load (some 6) (.tmp 3)⟩,
    ⟨none, none, .store 6 (.tmp 6) (.tmp 150)⟩,
    ⟨(some 7), none, .mov (.const (.int .i64 2))⟩,
    ⟨(some 8), none, .mov (.const (.int .i64 0))⟩]

def f21r23 : List AInstr := [
    ⟨(some 151), none, .load (some 6) (.tmp 3)⟩,
    ⟨none, none, .store 6 (.tmp 6) (.tmp 151)⟩,
    ⟨(some 7), none, .mov (.const (.int .i64 3))⟩,
    ⟨(some 8), none, .mov (.const (.int .i64 0))⟩]

def f21b : ACode := (.seq (.ops f21r0)
  (.keep [2, 3, 4, 6] (.seq (.ops f21r1)
  (.keep [2, 3, 4, 6, 9] (.seq (.block 0 (.seq (.ops f21r2)
  (.keep [2, 3, 4, 6, 9, 14] (.cond (.tmp 14) (.keep [6, 9] (.seq (.ops f21r3)
  (.keep [6, 7, 8] .ret))) (.keep [2, 3, 4, 6, 9] (.seq (.ops f21r4)
  (.keep [2, 3, 4, 6, 9, 23] (.cond (.tmp 23) (.keep [6, 9] (.seq (.ops f21r5)
  (.keep [6, 7, 8] .ret))) (.keep [2, 3, 4, 6, 9] (.seq (.ops f21r6)
  (.keep [2, 3, 4, 6, 9, 35] (.cond (.tmp 35) (.keep [6, 9] (.seq (.ops f21r7)
  (.keep [6, 7, 8] .ret))) .skip))))))))))))
  (.keep [2, 3, 4, 6] (.seq (.ops f21r8)
  (.keep [2, 3, 4, 6, 10] (.seq (.ops f21r9)
  (.keep [2, 3, 4, 6, 10, 11] (.seq (.seq (.ops f21r10)
  (.keep [2, 3, 4, 6, 10, 11, 12] (.seq (.ops f21r11)
  (.keep [2, 3, 4, 6, 10, 11, 12, 88] (.cond (.tmp 88) (.keep [2, 3, 4, 6, 10, 12] (.ops f21r12)) .skip)))))
  (.keep [2, 3, 4, 6, 11] (.seq (.ops f21r13)
  (.keep [2, 3, 4, 6, 11, 13] (.seq (.ops f21r14)
  (.keep [2, 3, 4, 6, 11, 13] (.seq (.ops f21r15)
  (.keep [2, 3, 4, 6] (.seq (.ops f21r16)
  (.keep [2, 3, 4, 6] (.seq (.block 1 (.seq (.ops f21r17)
  (.keep [2, 3, 4, 6, 117] (.cond (.tmp 117) (.keep [3, 4, 6] (.seq (.ops f21r18)
  (.keep [3, 6] (.seq (.ops f21r19)
  (.keep [6, 7, 8] .ret))))) (.keep [2, 3, 4, 6] (.seq (.ops f21r20)
  (.keep [3, 4, 6, 134] (.cond (.tmp 134) (.keep [3, 4, 6] (.seq (.ops f21r21)
  (.keep [3, 6] (.seq (.ops f21r22)
  (.keep [6, 7, 8] .ret))))) .skip))))))))
  (.keep [3, 6] (.seq (.ops f21r23)
  (.keep [6, 7, 8] .ret))))))))))))))))))))))))

def f21 : AFn := ⟨152, [.cell 6 (some 6), .tmp 7, .tmp 8], f21b⟩

theorem f21_ok : compFn Tryd.prog 21 = some f21.strip := by kernel_rfl

/- function 22: weirhouse/pace.Wrong; parameters 3; operations that are not compiled: 0 -/
def f22r0 : List AInstr := [
    ⟨(some 6), none, .mov (.const (.int .i64 0))⟩]

def f22r1 : List AInstr := [
    ⟨(some 10), none, .mov (.tmp 0)⟩,
    ⟨(some 11), none, .mov (.tmp 1)⟩,
    ⟨(some 12), none, .mov (.tmp 2)⟩,
    ⟨(some 13), none, .callF 23 [.tmp 10, .tmp 11, .tmp 12]⟩,
    ⟨(some 9), none, .mov (.tmp 13)⟩,
    ⟨(some 14), none, .extract 0 (.tmp 9)⟩,
    ⟨(some 15), none, .extract 1 (.tmp 9)⟩,
    ⟨(some 7), none, .alloc [.int .i64 0, .int .i64 0, .int .i64 0, .int .i64 0, .int .i64 0]⟩,
    ⟨none, none, .store 5 (.tmp 7) (.tmp 14)⟩,
    ⟨(some 8), none, .mov (.tmp 15)⟩]

def f22r2 : List AInstr := [
    ⟨(some 16), none, .mov (.tmp 8)⟩,
    ⟨(some 17), none, .ibin .neq (.tmp 16) (.const (.int .i64 0))⟩]

def f22r3 : List AInstr := [
    ⟨(some 18), none, .mov (.tmp 8)⟩,
    ⟨(some 6), none, .mov (.tmp 18)⟩]

def f22r4 : List AInstr := [
    ⟨(some 19), none, .mov (.tmp 2)⟩,
    ⟨(some 20), none, .ibin .lss (.tmp 19) (.const (.int .i64 1500))⟩]

def f22r5 : List AInstr := [
    ⟨(some 6), none, .mov (.const (.int .i64 2))⟩]

def f22r6 : List AInstr := [
    ⟨(some 6), none, .mov (.const (.int .i64 0))⟩]

def f22b : ACode := (.seq (.ops f22r0)
  (.keep [0, 1, 2] (.seq (.seq (.ops f22r1)
  (.keep [2, 8] (.seq (.ops f22r2)
  (.keep [2, 8, 17] (.cond (.tmp 17) (.keep [8] (.seq (.ops f22r3)
  (.keep [6] .ret))) .skip)))))
  (.keep [2] (.seq (.seq (.ops f22r4)
  (.keep [20] (.cond (.tmp 20) (.keep [] (.seq (.ops f22r5)
  (.keep [6] .ret))) .skip)))
  (.keep [] (.seq (.ops f22r6)
  (.keep [6] .ret))))))))

def f22 : AFn := ⟨21, [.tmp 6], f22b⟩

theorem f22_ok : compFn Tryd.prog 22 = some f22.strip := by kernel_rfl

/- function 23: weirhouse/bucket.Full; parameters 3; operations that are not compiled: 0 -/
def f23r0 : List AInstr := [
    ⟨(some 6), none, .alloc [.int .i64 0, .int .i64 0, .int .i64 0, .int .i64 0, .int .i64 0]⟩,
    ⟨(some 7), none, .mov (.const (.int .i64 0))⟩]

def f23r1 : List AInstr := [
    ⟨(some 9), none, .mov (.tmp 0)⟩,
    ⟨(some 10), none, .mov (.tmp 1)⟩,
    ⟨(some 11), none, .mov (.tmp 2)⟩,
    ⟨(some 12), none, .build [.int .i64 0, .int .i64 0, .int .i64 0, .int .i64 0, .int .i64 0] [(0, 1, (.tmp 9)), (1, 1, (.tmp 10)), (2, 1, (.tmp 11))]⟩,
    ⟨(some 8), none, .alloc [.int .i64 0, .int .i64 0, .int .i64 0, .int .i64 0, .int .i64 0]⟩,
    ⟨none, none, .store 5 (.tmp 8) (.tmp 12)⟩]

def f23r2 : List AInstr := [
    ⟨(some 13), none, .load (some 5) (.tmp 8)⟩,
    ⟨(some 14), none, .callF 39 [.tmp 13]⟩,
    ⟨(some 15), none, .un .not (.tmp 14)⟩]

def f23r3 : List AInstr := [
    ⟨(some 16), none, .build [.int .i64 0, .int .i64 0, .int .i64 0, .int .i64 0, .int .i64 0] []⟩,
    ⟨none, none, .store 5 (.tmp 6) (.tmp 16)⟩,
    ⟨(some 7), none, .mov (.const (.int .i64 2))⟩]

def f23r4 : List AInstr := [
    ⟨(some 17), none, .mov (.tmp 2)⟩,
    ⟨(some 18), none, .mov (.tmp 1)⟩,
    ⟨(some 19), none, .ibin .mul (.tmp 17) (.tmp 18)⟩,
    ⟨(some 20), none, .fieldAddr 3 (.tmp 8)⟩,
    ⟨none, none, .store 1 (.tmp 20) (.tmp 19)⟩]

def f23r5 : List AInstr := [
    ⟨(some 21), none, .load (some 5) (.tmp 8)⟩,
    ⟨none, none, .store 5 (.tmp 6) (.tmp 21)⟩,
    ⟨(some 7), none, .mov (.const (.int .i64 0))⟩]

def f23b : ACode := (.seq (.ops f23r0)
  (.keep [0, 1, 2, 6] (.seq (.ops f23r1)
  (.keep [1, 2, 6, 8] (.seq (.seq (.ops f23r2)
  (.keep [1, 2, 6, 8, 15] (.cond (.tmp 15) (.keep [6] (.seq (.ops f23r3)
  (.keep [6, 7] .ret))) .skip)))
  (.keep [1, 2, 6, 8] (.seq (.ops f23r4)
  (.keep [6, 8] (.seq (.ops f23r5)
  (.keep [6, 7] .ret))))))))))

def f23 : AFn := ⟨22, [.cell 6 (some 5), .tmp 7], f23b⟩

theorem f23_ok : compFn Tryd.prog 23 = some f23.strip := by kernel_rfl

/- function 24: weirhouse/pace.do; parameters 2; operations that are not compiled: 0 -/
def f24r0 : List AInstr := [
    ⟨(some 2), none, .box (.tmp 0)⟩,
    ⟨(some 3), none, .box (.tmp 1)⟩,
    ⟨(some 4), none, .alloc [.slice none 0 0, .int .i64 0, .int .i64 0, .int .i64 0, .int .i64 0, .int .i64 0, .int .i64 0, .int .i64 0, .int .i64 0, .int .i64 0]⟩,
    ⟨(some 5), none, .alloc [.int .i64 0, .slice none 0 0]⟩]

def f24r1 : List AInstr := [
    ⟨(some 14), none, .func (.func 40) [] [.tmp 2]⟩,
    ⟨(some 6), none, .mov (.tmp 14)⟩]

def f24r2 : List AInstr := [
    ⟨(some 15), none, .fieldAddr 0 (.tmp 3)⟩,
    ⟨(some 16), none, .load none (.tmp 15)⟩]

def f24r3 : List AInstr := [
    ⟨(some 22), none, .ibin .eql (.tmp 16) (.const (.int .i64 1))⟩,
    ⟨(some 21), none, .mov (.tmp 22)⟩]

def f24r4 : List AInstr := [
    ⟨(some 24), none, .fieldAddr 0 (.tmp 2)⟩,
    ⟨(some 25), none, .load (some 4) (.tmp 24)⟩,
    ⟨(some 26), none, .fieldAddr 1 (.tmp 3)⟩,
    ⟨(some 27), none, .load none (.tmp 26)⟩,
    ⟨(some 28), none, .build [.int .i64 0, .int .i64 0] [(0, 1, (.const (.int .i64 1))), (1, 1, (.tmp 27))]⟩,
    ⟨(some 29), none, .callF 41 [.tmp 25, .tmp 28]⟩,
    ⟨(some 23), none, .mov (.tmp 29)⟩,
    ⟨(some 30), none, .extract 0 (.tmp 23)⟩,
    ⟨(some 31), none, .extract 1 (.tmp 23)⟩,
    ⟨(some 32), none, .extract 2 (.tmp 23)⟩,
    ⟨(some 7), none, .alloc [.slice none 0 0, .int .i64 0, .int .i64 0, .int .i64 0]⟩,
    ⟨none, none, .store 4 (.tmp 7) (.tmp 30)⟩,
    ⟨(some 8), none, .mov (.tmp 31)⟩,
    ⟨(some 9), none, .mov (.tmp 32)⟩]

def f24r5 : List AInstr := [
    ⟨(some 33), none, .mov (.tmp 9)⟩,
    ⟨(some 34), none, .ibin .neq (.tmp 33) (.const (.int .i64 0))⟩]

def f24r6 : List AInstr := [
    ⟨(some 35), none, .mov (.tmp 6)⟩,
    ⟨(some 36), none, .mov (.tmp 9)⟩,
    ⟨(some 37), none, .callV (.tmp 35) [.tmp 36]⟩,
    ⟨(some 38), none, .extract 0 (.tmp 37)⟩,
    ⟨(some 39), none, .extract 1 (.tmp 37)⟩,
    ⟨none, none, .store 10 (.tmp 4) (.tmp 38)⟩,
    ⟨none, none, .store 2 (.tmp 5) (.tmp 39)⟩]

def f24r7 : List AInstr := [
    ⟨(some 40), none, .load (some 4) (.tmp 7)⟩,
    ⟨(some 41), none, .fieldAddr 0 (.tmp 2)⟩,
    ⟨none, none, .store 4 (.tmp 41) (.tmp 40)⟩]

def f24r8 : List AInstr := [
    ⟨(some 42), none, .mov (.tmp 8)⟩,
    ⟨(some 43), none, .ibin .eql (.tmp 42) (.const (.int .i64 0))⟩]

def f24r9 : List AInstr := [
    ⟨(some 44), none, .mov (.tmp 6)⟩,
    ⟨(some 45), none, .callV (.tmp 44) [.const (.int .i64 4)]⟩,
    ⟨(some 46), none, .extract 0 (.tmp 45)⟩,
    ⟨(some 47), none, .extract 1 (.tmp 45)⟩,
    ⟨none, none, .store 10 (.tmp 4) (.tmp 46)⟩,
    ⟨none, none, .store 2 (.tmp 5) (.tmp 47)⟩]

def f24r10 : List AInstr := [
    ⟨(some 49), none, .ibin .eql (.tmp 16) (.const (.int .i64 2))⟩,
    ⟨(some 48), none, .mov (.tmp 49)⟩]

def f24r11 : List AInstr := [
    ⟨(some 50), none, .fieldAddr 1 (.tmp 3)⟩,
    ⟨(some 51), none, .load none (.tmp 50)⟩,
    ⟨(some 52), none, .ibin .lss (.tmp 51) (.const (.int .i64 0))⟩,
    ⟨(some 53), none, .mov (.tmp 52)⟩,
    ⟨(some 54), (some (53, false)), .fieldAddr 1 (.tmp 3)⟩,
    ⟨(some 55), (some (53, false)), .load none (.tmp 54)⟩,
    ⟨(some 56), (some (53, false)), .ibin .gtr (.tmp 55) (.const (.int .i64 1099511627776))⟩,
    ⟨(some 57), none, .pick (.tmp 53) (.const (.bool true)) (.tmp 56)⟩]

def f24r12 : List AInstr := [
    ⟨(some 58), none, .mov (.tmp 6)⟩,
    ⟨(some 59), none, .callV (.tmp 58) [.const (.int .i64 2)]⟩,
    ⟨(some 60), none, .extract 0 (.tmp 59)⟩,
    ⟨(some 61), none, .extract 1 (.tmp 59)⟩,
    ⟨none, none, .store 10 (.tmp 4) (.tmp 60)⟩,
    ⟨none, none, .store 2 (.tmp 5) (.tmp 61)⟩]

def f24r13 : List AInstr := [
    ⟨(some 63), none, .fieldAddr 4 (.tmp 2)⟩,
    ⟨(some 64), none, .load (some 5) (.tmp 63)⟩,
    ⟨(some 65), none, .fieldAddr 4 (.tmp 2)⟩,
    ⟨(some 66), none, .fieldAddr 4 (.tmp 65)⟩,
    ⟨(some 67), none, .load none (.tmp 66)⟩,
    ⟨(some 68), none, .fieldAddr 1 (.tmp 3)⟩,
    ⟨(some 69), none, .load none (.tmp 68)⟩,
    ⟨(some 70), none, .ibin .add (.tmp 67) (.tmp 69)⟩,
    ⟨(some 71), none, .minmax false [.tmp 70, .const (.int .i64 1099511627776)]⟩,
    ⟨(some 72), none, .callF 42 [.tmp 64, .tmp 71]⟩,
    ⟨(some 62), none, .mov (.tmp 72)⟩,
    ⟨(some 73), none, .extract 0 (.tmp 62)⟩,
    ⟨(some 74), none, .extract 1 (.tmp 62)⟩,
    ⟨(some 10), none, .alloc [.int .i64 0, .int .i64 0, .int .i64 0, .int .i64 0, .int .i64 0]⟩,
    ⟨none, none, .store 5 (.tmp 10) (.tmp 73)⟩,
    ⟨(some 11), none, .mov (.tmp 74)⟩]

def f24r14 : List AInstr := [
    ⟨(some 75), none, .mov (.tmp 11)⟩,
    ⟨(some 76), none, .ibin .neq (.tmp 75) (.const (.int .i64 0))⟩]

def f24r15 : List AInstr := [
    ⟨(some 77), none, .mov (.tmp 6)⟩,
    ⟨(some 78), none, .mov (.tmp 11)⟩,
    ⟨(some 79), none, .callV (.tmp 77) [.tmp 78]⟩,
    ⟨(some 80), none, .extract 0 (.tmp 79)⟩,
    ⟨(some 81), none, .extract 1 (.tmp 79)⟩,
    ⟨none, none, .store 10 (.tmp 4) (.tmp 80)⟩,
    ⟨none, none, .store 2 (.tmp 5) (.tmp 81)⟩]

def f24r16 : List AInstr := [
    ⟨(some 82), none, .load (some 5) (.tmp 10)⟩,
    ⟨(some 83), none, .fieldAddr 4 (.tmp 2)⟩,
    ⟨none, none, .store 5 (.tmp 83) (.tmp 82)⟩]

def f24r17 : List AInstr := [
    ⟨(some 85), none, .ibin .eql (.tmp 16) (.const (.int .i64 3))⟩,
    ⟨(some 84), none, .mov (.tmp 85)⟩]

def f24r18 : List AInstr := [
    ⟨(some 86), none, .fieldAddr 1 (.tmp 3)⟩,
    ⟨(some 87), none, .load none (.tmp 86)⟩,
    ⟨(some 88), none, .ibin .lss (.tmp 87) (.const (.int .i64 0))⟩,
    ⟨(some 89), none, .mov (.tmp 88)⟩,
    ⟨(some 90), (some (89, false)), .fieldAddr 1 (.tmp 3)⟩,
    ⟨(some 91), (some (89, false)), .load none (.tmp 90)⟩,
    ⟨(some 92), (some (89, false)), .ibin .gtr (.tmp 91) (.const (.int .i64 1073741824))⟩,
    ⟨(some 93), none, .pick (.tmp 89) (.const (.bool true)) (.tmp 92)⟩]

def f24r19 : List AInstr := [
    ⟨(some 94), none, .mov (.tmp 6)⟩,
    ⟨(some 95), none, .callV (.tmp 94) [.const (.int .i64 2)]⟩,
    ⟨(some 96), none, .extract 0 (.tmp 95)⟩,
    ⟨(some 97), none, .extract 1 (.tmp 95)⟩,
    ⟨none, none, .store 10 (.tmp 4) (.tmp 96)⟩,
    ⟨none, none, .store 2 (.tmp 5) (.tmp 97)⟩]

def f24r20 : List AInstr := [
    ⟨(some 99), none, .load (some 10) (.tmp 2)⟩,
    ⟨(some 100), none, .fieldAddr 1 (.tmp 3)⟩,
    ⟨(some 101), none, .load none (.tmp 100)⟩,
    ⟨(some 102), none, .callF 43 [.tmp 99, .tmp 101]⟩,
    ⟨(some 98), none, .mov (.tmp 102)⟩,
    ⟨(some 103), none, .extract 0 (.tmp 98)⟩,
    ⟨(some 104), none, .extract 1 (.tmp 98)⟩,
    ⟨(some 12), none, .alloc [.slice none 0 0, .int .i64 0, .int .i64 0, .int .i64 0, .int .i64 0, .int .i64 0, .int .i64 0, .int .i64 0, .int .i64 0, .int .i64 0]⟩,
    ⟨none, none, .store 10 (.tmp 12) (.tmp 103)⟩,
    ⟨(some 13), none, .mov (.tmp 104)⟩]

def f24r21 : List AInstr := [
    ⟨(some 105), none, .load (some 10) (.tmp 12)⟩,
    ⟨(some 106), none, .mov (.tmp 13)⟩,
    ⟨(some 107), none, .build [.int .i64 0, .slice none 0 0] [(1, 1, (.tmp 106))]⟩,
    ⟨none, none, .store 10 (.tmp 4) (.tmp 105)⟩,
    ⟨none, none, .store 2 (.tmp 5) (.tmp 107)⟩]

def f24r22 : List AInstr := [
    ⟨(some 17), none, .mov (.tmp 6)⟩,
    ⟨(some 18), none, .callV (.tmp 17) [.const (.int .i64 5)]⟩,
    ⟨(some 19), none, .extract 0 (.tmp 18)⟩,
    ⟨(some 20), none, .extract 1 (.tmp 18)⟩,
    ⟨none, none, .store 10 (.tmp 4) (.tmp 19)⟩,
    ⟨none, none, .store 2 (.tmp 5) (.tmp 20)⟩]

def f24r23 : List AInstr := [
    ⟨(some 108), none, .load (some 10) (.tmp 2)⟩,
    ⟨(some 109), none, .build [.int .i64 0, .slice none 0 0] []⟩,
    ⟨none, none, .store 10 (.tmp 4) (.tmp 108)⟩,
    ⟨none, none, .store 2 (.tmp 5) (.tmp 109)⟩]

def f24b : ACode := (.seq (.ops f24r0)
  (.keep [2, 3, 4, 5] (.seq (.ops f24r1)
  (.keep [2, 3, 4, 5, 6] (.seq (.seq (.ops f24r2)
  (.keep [2, 3, 4, 5, 6, 16] (.block 0 (.seq (.ops f24r3)
  (.keep [2, 3, 4, 5, 6, 16, 21] (.cond (.tmp 21) (.keep [2, 3, 4, 5, 6] (.seq (.ops f24r4)
  (.keep [2, 4, 5, 6, 7, 8, 9] (.seq (.seq (.ops f24r5)
  (.keep [2, 4, 5, 6, 7, 8, 9, 34] (.cond (.tmp 34) (.keep [4, 5, 6, 9] (.seq (.ops f24r6)
  (.keep [4, 5] .ret))) .skip)))
  (.keep [2, 4, 5, 6, 7, 8] (.seq (.ops f24r7)
  (.keep [2, 4, 5, 6, 8] (.seq (.ops f24r8)
  (.keep [2, 4, 5, 6, 43] (.cond (.tmp 43) (.keep [4, 5, 6] (.seq (.ops f24r9)
  (.keep [4, 5] .ret))) .skip)))))))))) (.keep [2, 3, 4, 5, 6, 16] (.seq (.ops f24r10)
  (.keep [2, 3, 4, 5, 6, 16, 48] (.cond (.tmp 48) (.keep [2, 3, 4, 5, 6] (.seq (.seq (.ops f24r11)
  (.keep [2, 3, 4, 5, 6, 57] (.cond (.tmp 57) (.keep [4, 5, 6] (.seq (.ops f24r12)
  (.keep [4, 5] .ret))) .skip)))
  (.keep [2, 3, 4, 5, 6] (.seq (.ops f24r13)
  (.keep [2, 4, 5, 6, 10, 11] (.seq (.seq (.ops f24r14)
  (.keep [2, 4, 5, 6, 10, 11, 76] (.cond (.tmp 76) (.keep [4, 5, 6, 11] (.seq (.ops f24r15)
  (.keep [4, 5] .ret))) .skip)))
  (.keep [2, 4, 5, 10] (.ops f24r16)))))))) (.keep [2, 3, 4, 5, 6, 16] (.seq (.ops f24r17)
  (.keep [2, 3, 4, 5, 6, 84] (.cond (.tmp 84) (.keep [2, 3, 4, 5, 6] (.seq (.seq (.ops f24r18)
  (.keep [2, 3, 4, 5, 6, 93] (.cond (.tmp 93) (.keep [4, 5, 6] (.seq (.ops f24r19)
  (.keep [4, 5] .ret))) .skip)))
  (.keep [2, 3, 4, 5] (.seq (.ops f24r20)
  (.keep [4, 5, 12, 13] (.seq (.ops f24r21)
  (.keep [4, 5] .ret))))))) (.keep [4, 5, 6] (.seq (.ops f24r22)
  (.keep [4, 5] .ret)))))))))))))))))
  (.keep [2, 4, 5] (.seq (.ops f24r23)
  (.keep [4, 5] .ret))))))))

def f24 : AFn := ⟨110, [.cell 4 (some 10), .cell 5 (some 2)], f24b⟩

theorem f24_ok : compFn Tryd.prog 24 = some f24.strip := by kernel_rfl

/- function 25: slices.Clone[[]int,int]; parameters 1; operations that are not compiled: 0 -/
def f25r0 : List AInstr := [
    ⟨(some 2), none, .mov (.const (.slice none 0 0))⟩]

def f25r1 : List AInstr := [
    ⟨(some 3), none, .mov (.tmp 0)⟩,
    ⟨(some 4), none, .eqS false (.tmp 3) (.const (.slice none 0 0))⟩]

def f25r2 : List AInstr := [
    ⟨(some 2), none, .mov (.const (.slice none 0 0))⟩]

def f25r3 : List AInstr := [
    ⟨(some 5), none, .buildSlice 1 0 [] []⟩,
    ⟨(some 6), none, .mov (.tmp 0)⟩,
    ⟨(some 7), none, .append 1 8 (.tmp 5) (.tmp 6)⟩,
    ⟨(some 2), none, .mov (.tmp 7)⟩]

def f25b : ACode := (.seq (.ops f25r0)
  (.keep [0] (.seq (.seq (.ops f25r1)
  (.keep [0, 4] (.cond (.tmp 4) (.keep [] (.seq (.ops f25r2)
  (.keep [2] .ret))) .skip)))
  (.keep [0] (.seq (.ops f25r3)
  (.keep [2] .ret))))))

def f25 : AFn := ⟨8, [.tmp 2], f25b⟩

theorem f25_ok : compFn Tryd.prog 25 = some f25.strip := by kernel_rfl

/- function 26: weirhouse/curve.Wrong; parameters 2; operations that are not compiled: 0 -/
def f26r0 : List AInstr := [
    ⟨(some 2), none, .box (.tmp 0)⟩,
    ⟨(some 3), none, .box (.tmp 1)⟩,
    ⟨(some 4), none, .mov (.const (.int .i64 0))⟩]

def f26r1 : List AInstr := [
    ⟨(some 5), none, .fieldAddr 0 (.tmp 2)⟩,
    ⟨(some 6), none, .load none (.tmp 5)⟩,
    ⟨(some 7), none, .callF 44 [.tmp 6]⟩,
    ⟨(some 8), none, .un .not (.tmp 7)⟩,
    ⟨(some 9), none, .mov (.tmp 8)⟩,
    ⟨(some 10), (some (9, false)), .fieldAddr 1 (.tmp 2)⟩,
    ⟨(some 11), (some (9, false)), .load none (.tmp 10)⟩,
    ⟨(some 12), (some (9, false)), .callF 44 [.tmp 11]⟩,
    ⟨(some 13), (some (9, false)), .un .not (.tmp 12)⟩,
    ⟨(some 14), none, .pick (.tmp 9) (.const (.bool true)) (.tmp 13)⟩,
    ⟨(some 15), none, .mov (.tmp 14)⟩,
    ⟨(some 16), (some (15, false)), .fieldAddr 0 (.tmp 3)⟩,
    ⟨(some 17), (some (15, false)), .load none (.tmp 16)⟩,
    ⟨(some 18), (some (15, false)), .callF 44 [.tmp 17]⟩,
    ⟨(some 19), (some (15, false)), .un .not (.tmp 18)⟩,
    ⟨(some 20), none, .pick (.tmp 15) (.const (.bool true)) (.tmp 19)⟩,
    ⟨(some 21), none, .mov (.tmp 20)⟩,
    ⟨(some 22), (some (21, false)), .fieldAddr 1 (.tmp 3)⟩,
    ⟨(some 23), (some (21, false)), .load none (.tmp 22)⟩,
    ⟨(some 24), (some (21, false)), .callF 44 [.tmp 23]⟩,
    ⟨(some 25), (some (21, false)), .un .not (.tmp 24)⟩,
    ⟨(some 26), none, .pick (.tmp 21) (.const (.bool true)) (.tmp 25)⟩]

def f26r2 : List AInstr := [
    ⟨(some 4), none, .mov (.const (.int .i64 2))⟩]

def f26r3 : List AInstr := [
    ⟨(some 4), none, .mov (.const (.int .i64 0))⟩]

def f26b : ACode := (.seq (.ops f26r0)
  (.keep [2, 3] (.seq (.seq (.ops f26r1)
  (.keep [26] (.cond (.tmp 26) (.keep [] (.seq (.ops f26r2)
  (.keep [4] .ret))) .skip)))
  (.keep [] (.seq (.ops f26r3)
  (.keep [4] .ret))))))

def f26 : AFn := ⟨27, [.tmp 4], f26b⟩

theorem f26_ok : compFn Tryd.prog 26 = some f26.strip := by kernel_rfl

/- function 27: weirhouse/curve.bad; parameters 1; operations that are not compiled: 0 -/
def f27r0 : List AInstr := [
    ⟨(some 2), none, .mov (.const (.bool false))⟩]

def f27r1 : List AInstr := [
    ⟨(some 5), none, .mov (.tmp 0)⟩,
    ⟨(some 6), none, .len (.tmp 5)⟩,
    ⟨(some 7), none, .ibin .gtr (.tmp 6) (.const (.int .i64 400))⟩]

def f27r2 : List AInstr := [
    ⟨(some 2), none, .mov (.const (.bool true))⟩]

def f27r3 : List AInstr := [
    ⟨(some 8), none, .mov (.tmp 0)⟩,
    ⟨(some 9), none, .len (.tmp 8)⟩,
    ⟨(some 10), none, .mov (.const (.int .i64 0))⟩]

def f27r4 : List AInstr := [
    ⟨(some 11), none, .ibin .lss (.tmp 10) (.tmp 9)⟩]

def f27r5 : List AInstr := [
    ⟨(some 12), none, .indexAddr 1 (.tmp 8) (.tmp 10)⟩,
    ⟨(some 13), none, .load none (.tmp 12)⟩,
    ⟨(some 4), none, .mov (.tmp 13)⟩]

def f27r6 : List AInstr := [
    ⟨(some 14), none, .mov (.tmp 4)⟩,
    ⟨(some 15), none, .callF 44 [.tmp 14]⟩,
    ⟨(some 16), none, .un .not (.tmp 15)⟩]

def f27r7 : List AInstr := [
    ⟨(some 2), none, .mov (.const (.bool true))⟩]

def f27r8 : List AInstr := [
    ⟨(some 17), none, .ibin .add (.tmp 10) (.const (.int .i64 1))⟩,
    ⟨(some 10), none, .mov (.tmp 17)⟩]

/-- live: [8, 9, 10] -/
def f27l0 : ACode := (.seq (.ops f27r4)
  (.keep [8, 9, 10, 11] (.seq (.cond (.tmp 11) .skip (.exit 0))
  (.keep [8, 9, 10] (.seq (.block 1 (.seq (.ops f27r5)
  (.keep [4, 8, 9, 10] (.seq (.ops f27r6)
  (.keep [8, 9, 10, 16] (.cond (.tmp 16) (.keep [] (.seq (.ops f27r7)
  (.keep [2] .ret))) .skip))))))
  (.keep [8, 9, 10] (.ops f27r8)))))))

def f27r10 : List AInstr := [
    ⟨(some 2), none, .mov (.const (.bool false))⟩]

def f27b : ACode := (.seq (.ops f27r0)
  (.keep [0] (.seq (.seq (.ops f27r1)
  (.keep [0, 7] (.cond (.tmp 7) (.keep [] (.seq (.ops f27r2)
  (.keep [2] .ret))) .skip)))
  (.keep [0] (.seq (.seq (.ops f27r3)
  (.keep [8, 9, 10] (.block 0 (.loop f27l0))))
  (.keep [] (.seq (.ops f27r10)
  (.keep [2] .ret))))))))

def f27 : AFn := ⟨18, [.tmp 2], f27b⟩

theorem f27_ok : compFn Tryd.prog 27 = some f27.strip := by kernel_rfl

/- function 28: weirhouse/lindley.Wrong; parameters 1; operations that are not compiled: 0 -/
def f28r0 : List AInstr := [
    ⟨(some 2), none, .mov (.const (.int .i64 0))⟩]

def f28r1 : List AInstr := [
    ⟨(some 5), none, .mov (.tmp 0)⟩,
    ⟨(some 6), none, .len (.tmp 5)⟩,
    ⟨(some 7), none, .ibin .gtr (.tmp 6) (.const (.int .i64 400))⟩]

def f28r2 : List AInstr := [
    ⟨(some 2), none, .mov (.const (.int .i64 2))⟩]

def f28r3 : List AInstr := [
    ⟨(some 8), none, .mov (.tmp 0)⟩,
    ⟨(some 9), none, .len (.tmp 8)⟩,
    ⟨(some 10), none, .mov (.const (.int .i64 0))⟩]

def f28r4 : List AInstr := [
    ⟨(some 11), none, .ibin .lss (.tmp 10) (.tmp 9)⟩]

def f28r5 : List AInstr := [
    ⟨(some 12), none, .mov (.tmp 10)⟩,
    ⟨(some 13), none, .indexAddr 2 (.tmp 8) (.tmp 10)⟩,
    ⟨(some 14), none, .load (some 2) (.tmp 13)⟩,
    ⟨(some 4), none, .alloc [.int .i64 0, .int .i64 0]⟩,
    ⟨(some 3), none, .mov (.tmp 12)⟩,
    ⟨none, none, .store 2 (.tmp 4) (.tmp 14)⟩]

def f28r6 : List AInstr := [
    ⟨(some 15), none, .fieldAddr 0 (.tmp 4)⟩,
    ⟨(some 16), none, .load none (.tmp 15)⟩,
    ⟨(some 17), none, .ibin .lss (.tmp 16) (.const (.int .i64 0))⟩,
    ⟨(some 18), none, .mov (.tmp 17)⟩,
    ⟨(some 19), (some (18, false)), .fieldAddr 0 (.tmp 4)⟩,
    ⟨(some 20), (some (18, false)), .load none (.tmp 19)⟩,
    ⟨(some 21), (some (18, false)), .ibin .gtr (.tmp 20) (.const (.int .i64 1048576))⟩,
    ⟨(some 22), none, .pick (.tmp 18) (.const (.bool true)) (.tmp 21)⟩,
    ⟨(some 23), none, .mov (.tmp 22)⟩,
    ⟨(some 24), (some (23, false)), .fieldAddr 1 (.tmp 4)⟩,
    ⟨(some 25), (some (23, false)), .load none (.tmp 24)⟩,
    ⟨(some 26), (some (23, false)), .ibin .lss (.tmp 25) (.const (.int .i64 0))⟩,
    ⟨(some 27), none, .pick (.tmp 23) (.const (.bool true)) (.tmp 26)⟩,
    ⟨(some 28), none, .mov (.tmp 27)⟩,
    ⟨(some 29), (some (28, false)), .fieldAddr 1 (.tmp 4)⟩,
    ⟨(some 30), (some (28, false)), .load none (.tmp 29)⟩,
    ⟨(some 31), (some (28, false)), .ibin .gtr (.tmp 30) (.const (.int .i64 1048576))⟩,
    ⟨(some 32), none, .pick (.tmp 28) (.const (.bool true)) (.tmp 31)⟩]

def f28r7 : List AInstr := [
    ⟨(some 2), none, .mov (.const (.int .i64 2))⟩]

def f28r8 : List AInstr := [
    ⟨(some 33), none, .mov (.tmp 3)⟩,
    ⟨(some 34), none, .ibin .gtr (.tmp 33) (.const (.int .i64 0))⟩,
    ⟨(some 35), none, .mov (.tmp 34)⟩,
    ⟨(some 36), (some (35, true)), .fieldAddr 0 (.tmp 4)⟩,
    ⟨(some 37), (some (35, true)), .load none (.tmp 36)⟩,
    ⟨(some 38), (some (35, true)), .mov (.tmp 0)⟩,
    ⟨(some 39), (some (35, true)), .mov (.tmp 3)⟩,
    ⟨(some 40), (some (35, true)), .ibin .sub (.tmp 39) (.const (.int .i64 1))⟩,
    ⟨(some 41), (some (35, true)), .indexAddr 2 (.tmp 38) (.tmp 40)⟩,
    ⟨(some 42), (some (35, true)), .fieldAddr 0 (.tmp 41)⟩,
    ⟨(some 43), (some (35, true)), .load none (.tmp 42)⟩,
    ⟨(some 44), (some (35, true)), .ibin .lss (.tmp 37) (.tmp 43)⟩,
    ⟨(some 45), none, .pick (.tmp 35) (.tmp 44) (.const (.bool false))⟩]

def f28r9 : List AInstr := [
    ⟨(some 2), none, .mov (.const (.int .i64 1))⟩]

def f28r10 : List AInstr := [
    ⟨(some 46), none, .ibin .add (.tmp 10) (.const (.int .i64 1))⟩,
    ⟨(some 10), none, .mov (.tmp 46)⟩]

/-- live: [0, 8, 9, 10] -/
def f28l0 : ACode := (.seq (.ops f28r4)
  (.keep [0, 8, 9, 10, 11] (.seq (.cond (.tmp 11) .skip (.exit 0))
  (.keep [0, 8, 9, 10] (.seq (.block 1 (.seq (.ops f28r5)
  (.keep [0, 3, 4, 8, 9, 10] (.seq (.seq (.ops f28r6)
  (.keep [0, 3, 4, 8, 9, 10, 32] (.cond (.tmp 32) (.keep [] (.seq (.ops f28r7)
  (.keep [2] .ret))) .skip)))
  (.keep [0, 3, 4, 8, 9, 10] (.seq (.draw f28r8 [(0, 0, false), (0, 0, false), (0, 0, false), (0, 0, false), (0, 0, false), (0, 0, false), (0, 0, false), (0, 0, false), (0, 0, false), (0, 0, false), (0, 0, false), (0, 0, false), (0, 0, false)])
  (.keep [0, 8, 9, 10, 45] (.cond (.tmp 45) (.keep [] (.seq (.ops f28r9)
  (.keep [2] .ret))) .skip))))))))
  (.keep [0, 8, 9, 10] (.ops f28r10)))))))

def f28r12 : List AInstr := [
    ⟨(some 2), none, .mov (.const (.int .i64 0))⟩]

def f28b : ACode := (.seq (.ops f28r0)
  (.keep [0] (.seq (.seq (.ops f28r1)
  (.keep [0, 7] (.cond (.tmp 7) (.keep [] (.seq (.ops f28r2)
  (.keep [2] .ret))) .skip)))
  (.keep [0] (.seq (.seq (.ops f28r3)
  (.keep [0, 8, 9, 10] (.block 0 (.loop f28l0))))
  (.keep [] (.seq (.ops f28r12)
  (.keep [2] .ret))))))))

def f28 : AFn := ⟨47, [.tmp 2], f28b⟩

theorem f28_ok : compFn Tryd.prog 28 = some f28.strip := by kernel_rfl

/- function 29: slices.IndexFunc[[]int,int]; parameters 2; operations that are not compiled: 0 -/
def f29r0 : List AInstr := [
    ⟨(some 4), none, .mov (.const (.int .i64 0))⟩]

def f29r1 : List AInstr := [
    ⟨(some 6), none, .mov (.tmp 0)⟩,
    ⟨(some 7), none, .len (.tmp 6)⟩,
    ⟨(some 8), none, .mov (.const (.int .i64 0))⟩]

def f29r2 : List AInstr := [
    ⟨(some 9), none, .ibin .lss (.tmp 8) (.tmp 7)⟩]

def f29r3 : List AInstr := [
    ⟨(some 10), none, .mov (.tmp 8)⟩,
    ⟨(some 5), none, .mov (.tmp 10)⟩]

def f29r4 : List AInstr := [
    ⟨(some 11), none, .mov (.tmp 1)⟩,
    ⟨(some 12), none, .mov (.tmp 0)⟩,
    ⟨(some 13), none, .mov (.tmp 5)⟩,
    ⟨(some 14), none, .indexAddr 1 (.tmp 12) (.tmp 13)⟩,
    ⟨(some 15), none, .load none (.tmp 14)⟩,
    ⟨(some 16), none, .callV (.tmp 11) [.tmp 15]⟩]

def f29r5 : List AInstr := [
    ⟨(some 17), none, .mov (.tmp 5)⟩,
    ⟨(some 4), none, .mov (.tmp 17)⟩]

def f29r6 : List AInstr := [
    ⟨(some 18), none, .ibin .add (.tmp 8) (.const (.int .i64 1))⟩,
    ⟨(some 8), none, .mov (.tmp 18)⟩]

/-- live: [0, 1, 7, 8] -/
def f29l0 : ACode := (.seq (.ops f29r2)
  (.keep [0, 1, 7, 8, 9] (.seq (.cond (.tmp 9) .skip (.exit 0))
  (.keep [0, 1, 7, 8] (.seq (.block 1 (.seq (.ops f29r3)
  (.keep [0, 1, 5, 7, 8] (.seq (.ops f29r4)
  (.keep [0, 1, 5, 7, 8, 16] (.cond (.tmp 16) (.keep [5] (.seq (.ops f29r5)
  (.keep [4] .ret))) .skip))))))
  (.keep [0, 1, 7, 8] (.ops f29r6)))))))

def f29r8 : List AInstr := [
    ⟨(some 4), none, .mov (.const (.int .i64 (-1)))⟩]

def f29b : ACode := (.seq (.ops f29r0)
  (.keep [0, 1] (.seq (.seq (.ops f29r1)
  (.keep [0, 1, 7, 8] (.block 0 (.loop f29l0))))
  (.keep [] (.seq (.ops f29r8)
  (.keep [4] .ret))))))

def f29 : AFn := ⟨19, [.tmp 4], f29b⟩

theorem f29_ok : compFn Tryd.prog 29 = some f29.strip := by kernel_rfl

/- function 30: weirhouse/gps.End; parameters 2; operations that are not compiled: 0 -/
def f30r0 : List AInstr := [
    ⟨(some 4), none, .mov (.const (.slice none 0 0))⟩,
    ⟨(some 5), none, .mov (.const (.int .i64 0))⟩]

def f30r1 : List AInstr := [
    ⟨(some 13), none, .mov (.tmp 0)⟩,
    ⟨(some 14), none, .mov (.tmp 1)⟩,
    ⟨(some 15), none, .callF 12 [.tmp 13, .tmp 14]⟩,
    ⟨(some 6), none, .mov (.tmp 15)⟩]

def f30r2 : List AInstr := [
    ⟨(some 16), none, .mov (.tmp 6)⟩,
    ⟨(some 17), none, .ibin .neq (.tmp 16) (.const (.int .i64 0))⟩]

def f30r3 : List AInstr := [
    ⟨(some 18), none, .mov (.tmp 6)⟩,
    ⟨(some 4), none, .mov (.const (.slice none 0 0))⟩,
    ⟨(some 5), none, .mov (.tmp 18)⟩]

def f30r4 : List AInstr := [
    ⟨(some 7), none, .mov (.const (.slice none 0 0))⟩]

def f30r5 : List AInstr := [
    ⟨(some 19), none, .mov (.tmp 0)⟩,
    ⟨(some 20), none, .len (.tmp 19)⟩,
    ⟨(some 21), none, .mov (.const (.int .i64 0))⟩]

def f30r6 : List AInstr := [
    ⟨(some 22), none, .ibin .lss (.tmp 21) (.tmp 20)⟩]

def f30r7 : List AInstr := [
    ⟨(some 23), none, .mov (.tmp 21)⟩,
    ⟨(some 24), none, .indexAddr 1 (.tmp 19) (.tmp 21)⟩,
    ⟨(some 25), none, .load none (.tmp 24)⟩,
    ⟨(some 8), none, .mov (.tmp 23)⟩,
    ⟨(some 9), none, .mov (.tmp 25)⟩]

def f30r8 : List AInstr := [
    ⟨(some 10), none, .mov (.const (.int .i64 0))⟩]

def f30r9 : List AInstr := [
    ⟨(some 26), none, .mov (.tmp 0)⟩,
    ⟨(some 27), none, .len (.tmp 26)⟩,
    ⟨(some 28), none, .mov (.const (.int .i64 0))⟩]

def f30r10 : List AInstr := [
    ⟨(some 29), none, .ibin .lss (.tmp 28) (.tmp 27)⟩]

def f30r11 : List AInstr := [
    ⟨(some 30), none, .mov (.tmp 28)⟩,
    ⟨(some 31), none, .indexAddr 1 (.tmp 26) (.tmp 28)⟩,
    ⟨(some 32), none, .load none (.tmp 31)⟩,
    ⟨(some 11), none, .mov (.tmp 30)⟩,
    ⟨(some 12), none, .mov (.tmp 32)⟩]

def f30r12 : List AInstr := [
    ⟨(some 33), none, .mov (.tmp 10)⟩,
    ⟨(some 34), none, .mov (.tmp 12)⟩,
    ⟨(some 35), none, .mov (.tmp 1)⟩,
    ⟨(some 36), none, .mov (.tmp 8)⟩,
    ⟨(some 37), none, .indexAddr 1 (.tmp 35) (.tmp 36)⟩,
    ⟨(some 38), none, .load none (.tmp 37)⟩,
    ⟨(some 39), none, .ibin .mul (.tmp 34) (.tmp 38)⟩,
    ⟨(some 40), none, .mov (.tmp 9)⟩,
    ⟨(some 41), none, .mov (.tmp 1)⟩,
    ⟨(some 42), none, .mov (.tmp 11)⟩,
    ⟨(some 43), none, .indexAddr 1 (.tmp 41) (.tmp 42)⟩,
    ⟨(some 44), none, .load none (.tmp 43)⟩,
    ⟨(some 45), none, .ibin .mul (.tmp 40) (.tmp 44)⟩,
    ⟨(some 46), none, .minmax false [.tmp 39, .tmp 45]⟩,
    ⟨(some 47), none, .ibin .add (.tmp 33) (.tmp 46)⟩,
    ⟨(some 10), none, .mov (.tmp 47)⟩]

def f30r13 : List AInstr := [
    ⟨(some 48), none, .ibin .add (.tmp 28) (.const (.int .i64 1))⟩,
    ⟨(some 28), none, .mov (.tmp 48)⟩]

/-- live: [0, 1, 7, 8, 9, 10, 19, 20, 21, 26, 27, 28] -/
def f30l0 : ACode := (.seq (.ops f30r10)
  (.keep [0, 1, 7, 8, 9, 10, 19, 20, 21, 26, 27, 28, 29] (.seq (.cond (.tmp 29) .skip (.exit 2))
  (.keep [0, 1, 7, 8, 9, 10, 19, 20, 21, 26, 27, 28] (.seq (.block 3 (.seq (.ops f30r11)
  (.keep [0, 1, 7, 8, 9, 10, 11, 12, 19, 20, 21, 26, 27, 28] (.draw f30r12 [(0, 0, false), (0, 0, false), (0, 0, false), (0, 0, false), (0, 0, false), (0, 0, false), (0, 0, false), (0, 0, false), (0, 0, false), (0, 0, false), (0, 0, false), (0, 0, false), (0, 0, false), (0, 0, false), (0, 0, false), (0, 0, false)]))))
  (.keep [0, 1, 7, 8, 9, 10, 19, 20, 21, 26, 27, 28] (.ops f30r13)))))))

def f30r15 : List AInstr := [
    ⟨(some 49), none, .mov (.tmp 7)⟩,
    ⟨(some 50), none, .mov (.tmp 10)⟩,
    ⟨(some 51), none, .buildSlice 1 1 [.int .i64 0] [(0, 1, (.tmp 50))]⟩,
    ⟨(some 52), none, .append 1 8 (.tmp 49) (.tmp 51)⟩,
    ⟨(some 7), none, .mov (.tmp 52)⟩]

def f30r16 : List AInstr := [
    ⟨(some 53), none, .ibin .add (.tmp 21) (.const (.int .i64 1))⟩,
    ⟨(some 21), none, .mov (.tmp 53)⟩]

/-- live: [0, 1, 7, 19, 20, 21] -/
def f30l1 : ACode := (.seq (.ops f30r6)
  (.keep [0, 1, 7, 19, 20, 21, 22] (.seq (.cond (.tmp 22) .skip (.exit 0))
  (.keep [0, 1, 7, 19, 20, 21] (.seq (.block 1 (.seq (.ops f30r7)
  (.keep [0, 1, 7, 8, 9, 19, 20, 21] (.seq (.ops f30r8)
  (.keep [0, 1, 7, 8, 9, 10, 19, 20, 21] (.seq (.seq (.ops f30r9)
  (.keep [0, 1, 7, 8, 9, 10, 19, 20, 21, 26, 27, 28] (.block 2 (.loop f30l0))))
  (.keep [0, 1, 7, 10, 19, 20, 21] (.ops f30r15))))))))
  (.keep [0, 1, 7, 19, 20, 21] (.ops f30r16)))))))

def f30r18 : List AInstr := [
    ⟨(some 54), none, .mov (.tmp 7)⟩,
    ⟨(some 4), none, .mov (.tmp 54)⟩,
    ⟨(some 5), none, .mov (.const (.int .i64 0))⟩]

def f30b : ACode := (.seq (.ops f30r0)
  (.keep [0, 1] (.seq (.seq (.ops f30r1)
  (.keep [0, 1, 6] (.seq (.ops f30r2)
  (.keep [0, 1, 6, 17] (.cond (.tmp 17) (.keep [6] (.seq (.ops f30r3)
  (.keep [4, 5] .ret))) .skip)))))
  (.keep [0, 1] (.seq (.ops f30r4)
  (.keep [0, 1, 7] (.seq (.seq (.ops f30r5)
  (.keep [0, 1, 7, 19, 20, 21] (.block 0 (.loop f30l1))))
  (.keep [7] (.seq (.ops f30r18)
  (.keep [4, 5] .ret))))))))))

def f30 : AFn := ⟨55, [.tmp 4, .tmp 5], f30b⟩

theorem f30_ok : compFn Tryd.prog 30 = some f30.strip := by kernel_rfl

/- function 31: slices.SortStableFunc[[]int,int]; parameters 2; operations that are not compiled: 0 -/
def f31r0 : List AInstr := [
    ⟨(some 4), none, .mov (.tmp 0)⟩,
    ⟨(some 5), none, .mov (.tmp 0)⟩,
    ⟨(some 6), none, .len (.tmp 5)⟩,
    ⟨(some 7), none, .mov (.tmp 1)⟩,
    ⟨(some 8), none, .callF 45 [.tmp 4, .tmp 6, .tmp 7]⟩]

def f31b : ACode := (.ops f31r0)

def f31 : AFn := ⟨9, [], f31b⟩

theorem f31_ok : compFn Tryd.prog 31 = some f31.strip := by kernel_rfl

/- function 32: weirhouse/gps.Order$1; parameters 2; operations that are not compiled: 0 -/
def f32r0 : List AInstr := [
    ⟨(some 6), none, .mov (.const (.int .i64 0))⟩]

def f32r1 : List AInstr := [
    ⟨(some 7), none, .load none (.tmp 2)⟩,
    ⟨(some 8), none, .mov (.tmp 0)⟩,
    ⟨(some 9), none, .indexAddr 1 (.tmp 7) (.tmp 8)⟩,
    ⟨(some 10), none, .load none (.tmp 9)⟩,
    ⟨(some 11), none, .load none (.tmp 3)⟩,
    ⟨(some 12), none, .mov (.tmp 1)⟩,
    ⟨(some 13), none, .indexAddr 1 (.tmp 11) (.tmp 12)⟩,
    ⟨(some 14), none, .load none (.tmp 13)⟩,
    ⟨(some 15), none, .ibin .mul (.tmp 10) (.tmp 14)⟩,
    ⟨(some 16), none, .load none (.tmp 2)⟩,
    ⟨(some 17), none, .mov (.tmp 1)⟩,
    ⟨(some 18), none, .indexAddr 1 (.tmp 16) (.tmp 17)⟩,
    ⟨(some 19), none, .load none (.tmp 18)⟩,
    ⟨(some 20), none, .load none (.tmp 3)⟩,
    ⟨(some 21), none, .mov (.tmp 0)⟩,
    ⟨(some 22), none, .indexAddr 1 (.tmp 20) (.tmp 21)⟩,
    ⟨(some 23), none, .load none (.tmp 22)⟩,
    ⟨(some 24), none, .ibin .mul (.tmp 19) (.tmp 23)⟩,
    ⟨(some 25), none, .ibin .sub (.tmp 15) (.tmp 24)⟩,
    ⟨(some 6), none, .mov (.tmp 25)⟩]

def f32b : ACode := (.seq (.ops f32r0)
  (.keep [0, 1, 2, 3] (.seq (.draw f32r1 [(0, 0, false), (0, 0, false), (0, 0, false), (0, 0, false), (0, 0, false), (0, 0, false), (0, 0, false), (0, 0, false), (0, 0, false), (0, 0, false), (0, 0, false), (0, 0, false), (0, 0, false), (0, 0, false), (0, 0, false), (0, 0, false), (0, 0, false), (0, 0, false), (0, 0, false), (0, 0, false)])
  (.keep [6] .ret))))

def f32 : AFn := ⟨26, [.tmp 6], f32b⟩

theorem f32_ok : compFn Tryd.prog 32 = some f32.strip := by kernel_rfl

/- function 33: (*weirhouse/wfq.node).out; parameters 1; operations that are not compiled: 0 -/
def f33r0 : List AInstr := [
    ⟨(some 2), none, .alloc [.int .i64 0, .int .i64 0]⟩,
    ⟨(some 3), none, .mov (.const (.bool false))⟩]

def f33r1 : List AInstr := [
    ⟨(some 7), none, .mov (.tmp 0)⟩,
    ⟨(some 8), none, .callF 46 [.tmp 7]⟩,
    ⟨(some 4), none, .mov (.tmp 8)⟩]

def f33r2 : List AInstr := [
    ⟨(some 9), none, .mov (.tmp 4)⟩,
    ⟨(some 10), none, .ibin .lss (.tmp 9) (.const (.int .i64 0))⟩]

def f33r3 : List AInstr := [
    ⟨(some 11), none, .build [.int .i64 0, .int .i64 0] []⟩,
    ⟨none, none, .store 2 (.tmp 2) (.tmp 11)⟩,
    ⟨(some 3), none, .mov (.const (.bool false))⟩]

def f33r4 : List AInstr := [
    ⟨(some 12), none, .mov (.tmp 0)⟩,
    ⟨(some 13), none, .nilCheck (.tmp 12)⟩,
    ⟨(some 14), none, .fieldAddr 1 (.tmp 13)⟩,
    ⟨(some 15), none, .load none (.tmp 14)⟩,
    ⟨(some 16), none, .mov (.tmp 4)⟩,
    ⟨(some 17), none, .indexAddr 3 (.tmp 15) (.tmp 16)⟩,
    ⟨(some 5), none, .mov (.tmp 17)⟩]

def f33r5 : List AInstr := [
    ⟨(some 18), none, .mov (.tmp 4)⟩,
    ⟨(some 19), none, .mov (.tmp 5)⟩,
    ⟨(some 20), none, .nilCheck (.tmp 19)⟩,
    ⟨(some 21), none, .fieldAddr 0 (.tmp 20)⟩,
    ⟨(some 22), none, .load none (.tmp 21)⟩,
    ⟨(some 23), none, .indexAddr 1 (.tmp 22) (.const (.int .i64 0))⟩,
    ⟨(some 24), none, .load none (.tmp 23)⟩,
    ⟨(some 25), none, .build [.int .i64 0, .int .i64 0] [(0, 1, (.tmp 18)), (1, 1, (.tmp 24))]⟩,
    ⟨(some 6), none, .alloc [.int .i64 0, .int .i64 0]⟩,
    ⟨none, none, .store 2 (.tmp 6) (.tmp 25)⟩]

def f33r6 : List AInstr := [
    ⟨(some 26), none, .mov (.tmp 5)⟩,
    ⟨(some 27), none, .mov (.tmp 5)⟩,
    ⟨(some 28), none, .nilCheck (.tmp 27)⟩,
    ⟨(some 29), none, .fieldAddr 0 (.tmp 28)⟩,
    ⟨(some 30), none, .load none (.tmp 29)⟩,
    ⟨(some 31), none, .slice 1 (.tmp 30) (some (.const (.int .i64 1))) none none⟩,
    ⟨(some 32), none, .nilCheck (.tmp 26)⟩,
    ⟨(some 33), none, .fieldAddr 0 (.tmp 32)⟩,
    ⟨none, none, .store 1 (.tmp 33) (.tmp 31)⟩]

def f33r7 : List AInstr := [
    ⟨(some 34), none, .mov (.tmp 0)⟩,
    ⟨(some 35), none, .nilCheck (.tmp 34)⟩,
    ⟨(some 36), none, .fieldAddr 3 (.tmp 35)⟩,
    ⟨(some 37), none, .load none (.tmp 36)⟩,
    ⟨(some 38), none, .fieldAddr 1 (.tmp 6)⟩,
    ⟨(some 39), none, .load none (.tmp 38)⟩,
    ⟨(some 40), none, .ibin .mul (.tmp 39) (.const (.int .i64 27720))⟩,
    ⟨(some 41), none, .ibin .add (.tmp 37) (.tmp 40)⟩,
    ⟨(some 42), none, .nilCheck (.tmp 34)⟩,
    ⟨(some 43), none, .fieldAddr 3 (.tmp 42)⟩,
    ⟨none, none, .store 1 (.tmp 43) (.tmp 41)⟩]

def f33r8 : List AInstr := [
    ⟨(some 44), none, .mov (.tmp 5)⟩,
    ⟨(some 45), none, .nilCheck (.tmp 44)⟩,
    ⟨(some 46), none, .fieldAddr 0 (.tmp 45)⟩,
    ⟨(some 47), none, .load none (.tmp 46)⟩,
    ⟨(some 48), none, .len (.tmp 47)⟩,
    ⟨(some 49), none, .ibin .gtr (.tmp 48) (.const (.int .i64 0))⟩]

def f33r9 : List AInstr := [
    ⟨(some 50), none, .mov (.tmp 0)⟩,
    ⟨(some 51), none, .mov (.tmp 4)⟩,
    ⟨(some 52), none, .mov (.tmp 5)⟩,
    ⟨(some 53), none, .nilCheck (.tmp 52)⟩,
    ⟨(some 54), none, .fieldAddr 2 (.tmp 53)⟩,
    ⟨(some 55), none, .load none (.tmp 54)⟩,
    ⟨(some 56), none, .callF 47 [.tmp 50, .tmp 51, .tmp 55]⟩]

def f33r10 : List AInstr := [
    ⟨(some 57), none, .load (some 2) (.tmp 6)⟩,
    ⟨none, none, .store 2 (.tmp 2) (.tmp 57)⟩,
    ⟨(some 3), none, .mov (.const (.bool true))⟩]

def f33b : ACode := (.seq (.ops f33r0)
  (.keep [0, 2] (.seq (.ops f33r1)
  (.keep [0, 2, 4] (.seq (.seq (.ops f33r2)
  (.keep [0, 2, 4, 10] (.cond (.tmp 10) (.keep [2] (.seq (.ops f33r3)
  (.keep [2, 3] .ret))) .skip)))
  (.keep [0, 2, 4] (.seq (.ops f33r4)
  (.keep [0, 2, 4, 5] (.seq (.ops f33r5)
  (.keep [0, 2, 4, 5, 6] (.seq (.ops f33r6)
  (.keep [0, 2, 4, 5, 6] (.seq (.draw f33r7 [(0, 0, false), (0, 0, false), (0, 0, false), (0, 0, false), (0, 0, false), (0, 0, false), (0, 0, false), (0, 0, false), (0, 0, false), (0, 0, false), (0, 0, true)])
  (.keep [0, 2, 4, 5, 6] (.seq (.seq (.ops f33r8)
  (.keep [0, 2, 4, 5, 6, 49] (.cond (.tmp 49) (.keep [0, 2, 4, 5, 6] (.ops f33r9)) .skip)))
  (.keep [2, 6] (.seq (.ops f33r10)
  (.keep [2, 3] .ret))))))))))))))))))

def f33 : AFn := ⟨58, [.cell 2 (some 2), .tmp 3], f33b⟩

theorem f33_ok : compFn Tryd.prog 33 = some f33.strip := by kernel_rfl

/- function 34: (*weirhouse/wfq.node).in; parameters 3; operations that are not compiled: 0 -/
def f34r0 : List AInstr := [
    ⟨(some 7), none, .mov (.tmp 0)⟩,
    ⟨(some 8), none, .nilCheck (.tmp 7)⟩,
    ⟨(some 9), none, .fieldAddr 1 (.tmp 8)⟩,
    ⟨(some 10), none, .load none (.tmp 9)⟩,
    ⟨(some 11), none, .mov (.tmp 1)⟩,
    ⟨(some 12), none, .indexAddr 3 (.tmp 10) (.tmp 11)⟩,
    ⟨(some 6), none, .mov (.tmp 12)⟩]

def f34r1 : List AInstr := [
    ⟨(some 13), none, .mov (.tmp 6)⟩,
    ⟨(some 14), none, .mov (.tmp 6)⟩,
    ⟨(some 15), none, .nilCheck (.tmp 14)⟩,
    ⟨(some 16), none, .fieldAddr 0 (.tmp 15)⟩,
    ⟨(some 17), none, .load none (.tmp 16)⟩,
    ⟨(some 18), none, .mov (.tmp 2)⟩,
    ⟨(some 19), none, .buildSlice 1 1 [.int .i64 0] [(0, 1, (.tmp 18))]⟩,
    ⟨(some 20), none, .append 1 8 (.tmp 17) (.tmp 19)⟩,
    ⟨(some 21), none, .nilCheck (.tmp 13)⟩,
    ⟨(some 22), none, .fieldAddr 0 (.tmp 21)⟩,
    ⟨none, none, .store 1 (.tmp 22) (.tmp 20)⟩]

def f34r2 : List AInstr := [
    ⟨(some 23), none, .mov (.tmp 6)⟩,
    ⟨(some 24), none, .nilCheck (.tmp 23)⟩,
    ⟨(some 25), none, .fieldAddr 0 (.tmp 24)⟩,
    ⟨(some 26), none, .load none (.tmp 25)⟩,
    ⟨(some 27), none, .len (.tmp 26)⟩,
    ⟨(some 28), none, .ibin .eql (.tmp 27) (.const (.int .i64 1))⟩]

def f34r3 : List AInstr := [
    ⟨(some 29), none, .mov (.tmp 0)⟩,
    ⟨(some 30), none, .mov (.tmp 1)⟩,
    ⟨(some 31), none, .mov (.tmp 6)⟩,
    ⟨(some 32), none, .nilCheck (.tmp 31)⟩,
    ⟨(some 33), none, .fieldAddr 2 (.tmp 32)⟩,
    ⟨(some 34), none, .load none (.tmp 33)⟩,
    ⟨(some 35), none, .mov (.tmp 0)⟩,
    ⟨(some 36), none, .nilCheck (.tmp 35)⟩,
    ⟨(some 37), none, .fieldAddr 3 (.tmp 36)⟩,
    ⟨(some 38), none, .load none (.tmp 37)⟩,
    ⟨(some 39), none, .minmax true [.tmp 34, .tmp 38]⟩,
    ⟨(some 40), none, .callF 47 [.tmp 29, .tmp 30, .tmp 39]⟩]

def f34b : ACode := (.seq (.ops f34r0)
  (.keep [0, 1, 2, 6] (.seq (.ops f34r1)
  (.keep [0, 1, 6] (.seq (.ops f34r2)
  (.keep [0, 1, 6, 28] (.cond (.tmp 28) (.keep [0, 1, 6] (.draw f34r3 [(0, 0, false), (0, 0, false), (0, 0, false), (0, 0, false), (0, 0, false), (0, 0, false), (0, 0, false), (0, 0, false), (0, 0, false), (0, 0, false), (0, 0, false), (0, 0, true)])) .skip)))))))

def f34 : AFn := ⟨41, [], f34b⟩

theorem f34_ok : compFn Tryd.prog 34 = some f34.strip := by kernel_rfl

/- function 35: weirhouse/bench.Parse; parameters 1; operations that are not compiled: 0 -/
def f35r0 : List AInstr := [
    ⟨(some 2), none, .alloc [.int .i64 0, .int .i64 0, .int .i64 0, .slice none 0 0]⟩,
    ⟨(some 3), none, .mov (.const (.int .i64 0))⟩,
    ⟨(some 4), none, .mov (.const (.int .i64 0))⟩]

def f35r1 : List AInstr := [
    ⟨(some 5), none, .alloc [.int .i64 0, .int .i64 0, .int .i64 0, .slice none 0 0]⟩]

def f35r2 : List AInstr := [
    ⟨(some 6), none, .mov (.const (.int .i64 0))⟩]

def f35r3 : List AInstr := [
    ⟨(some 7), none, .mov (.const (.func (.func 48) #[] #[]))⟩]

def f35r4 : List AInstr := [
    ⟨(some 11), none, .mov (.tmp 6)⟩,
    ⟨(some 12), none, .ibin .eql (.tmp 11) (.const (.int .i64 0))⟩,
    ⟨(some 13), none, .mov (.tmp 12)⟩,
    ⟨(some 14), (some (13, false)), .mov (.tmp 0)⟩,
    ⟨(some 15), (some (13, false)), .str (.cmp true) [.tmp 14, .const (.string ⟨#[]⟩)]⟩,
    ⟨(some 16), none, .pick (.tmp 13) (.const (.bool true)) (.tmp 15)⟩]

def f35r5 : List AInstr := [
    ⟨(some 18), none, .mov (.tmp 0)⟩,
    ⟨(some 19), none, .callF 50 [.tmp 18, .const (.string ⟨#[10]⟩)]⟩,
    ⟨(some 17), none, .mov (.tmp 19)⟩,
    ⟨(some 20), none, .extract 0 (.tmp 17)⟩,
    ⟨(some 21), none, .extract 1 (.tmp 17)⟩,
    ⟨(some 22), none, .extract 2 (.tmp 17)⟩,
    ⟨(some 8), none, .mov (.tmp 20)⟩,
    ⟨(some 9), none, .mov (.tmp 21)⟩,
    ⟨(some 10), none, .mov (.tmp 22)⟩]

def f35r6 : List AInstr := [
    ⟨(some 23), none, .mov (.tmp 10)⟩,
    ⟨(some 24), none, .un .not (.tmp 23)⟩,
    ⟨(some 25), none, .mov (.tmp 24)⟩,
    ⟨(some 26), (some (25, false)), .mov (.tmp 7)⟩,
    ⟨(some 27), (some (25, false)), .mov (.tmp 8)⟩,
    ⟨(some 28), (some (25, false)), .callV (.tmp 26) [.tmp 27, .tmp 5]⟩,
    ⟨(some 29), (some (25, false)), .un .not (.tmp 28)⟩,
    ⟨(some 30), none, .pick (.tmp 25) (.const (.bool true)) (.tmp 29)⟩]

def f35r7 : List AInstr := [
    ⟨(some 31), none, .build [.int .i64 0, .int .i64 0, .int .i64 0, .slice none 0 0] []⟩,
    ⟨(some 32), none, .mov (.tmp 6)⟩,
    ⟨none, none, .store 4 (.tmp 2) (.tmp 31)⟩,
    ⟨(some 3), none, .mov (.tmp 32)⟩,
    ⟨(some 4), none, .mov (.const (.int .i64 1))⟩]

def f35r8 : List AInstr := [
    ⟨(some 33), none, .mov (.tmp 9)⟩,
    ⟨(some 0), none, .mov (.tmp 33)⟩]

def f35r9 : List AInstr := [
    ⟨(some 34), none, .mov (.tmp 6)⟩,
    ⟨(some 35), none, .ibin .add (.tmp 34) (.const (.int .i64 1))⟩,
    ⟨(some 6), none, .mov (.tmp 35)⟩]

def f35r10 : List AInstr := [
    ⟨(some 7), none, .mov (.const (.func (.func 49) #[] #[]))⟩]

/-- live: [0, 2, 5, 6, 7] -/
def f35l0 : ACode := (.seq (.seq (.ops f35r4)
  (.keep [0, 2, 5, 6, 7, 16] (.cond (.tmp 16) .skip (.exit 0))))
  (.keep [0, 2, 5, 6, 7] (.seq (.block 1 (.seq (.ops f35r5)
  (.keep [2, 5, 6, 7, 8, 9, 10] (.seq (.seq (.ops f35r6)
  (.keep [2, 5, 6, 9, 30] (.cond (.tmp 30) (.keep [2, 6] (.seq (.ops f35r7)
  (.keep [2, 3, 4] .ret))) .skip)))
  (.keep [2, 5, 6, 9] (.seq (.ops f35r8)
  (.keep [0, 2, 5, 6] (.ops f35r9))))))))
  (.keep [0, 2, 5, 6] (.ops f35r10)))))

def f35r12 : List AInstr := [
    ⟨(some 36), none, .load (some 4) (.tmp 5)⟩,
    ⟨none, none, .store 4 (.tmp 2) (.tmp 36)⟩,
    ⟨(some 3), none, .mov (.const (.int .i64 0))⟩,
    ⟨(some 4), none, .mov (.const (.int .i64 0))⟩]

def f35b : ACode := (.seq (.ops f35r0)
  (.keep [0, 2] (.seq (.ops f35r1)
  (.keep [0, 2, 5] (.seq (.ops f35r2)
  (.keep [0, 2, 5, 6] (.seq (.seq (.ops f35r3)
  (.keep [0, 2, 5, 6, 7] (.block 0 (.loop f35l0))))
  (.keep [2, 5] (.seq (.ops f35r12)
  (.keep [2, 3, 4] .ret))))))))))

def f35 : AFn := ⟨37, [.cell 2 (some 4), .tmp 3, .tmp 4], f35b⟩

theorem f35_ok : compFn Tryd.prog 35 = some f35.strip := by kernel_rfl

/- function 37: weirhouse/meter.Right$1; parameters 2; operations that are not compiled: 0 -/
def f37r0 : List AInstr := [
    ⟨(some 4), none, .mov (.const (.bool false))⟩]

def f37r1 : List AInstr := [
    ⟨(some 5), none, .mov (.tmp 0)⟩,
    ⟨(some 6), none, .ibin .geq (.tmp 5) (.const (.int .i64 0))⟩,
    ⟨(some 7), none, .mov (.tmp 6)⟩,
    ⟨(some 8), (some (7, true)), .mov (.tmp 0)⟩,
    ⟨(some 9), (some (7, true)), .mov (.tmp 1)⟩,
    ⟨(some 10), (some (7, true)), .ibin .leq (.tmp 8) (.tmp 9)⟩,
    ⟨(some 11), none, .pick (.tmp 7) (.tmp 10) (.const (.bool false))⟩,
    ⟨(some 4), none, .mov (.tmp 11)⟩]

def f37b : ACode := (.seq (.ops f37r0)
  (.keep [0, 1] (.seq (.ops f37r1)
  (.keep [4] .ret))))

def f37 : AFn := ⟨12, [.tmp 4], f37b⟩

theorem f37_ok : compFn Tryd.prog 37 = some f37.strip := by kernel_rfl

/- function 38: weirhouse/meter.Colour$1; parameters 1; operations that are not compiled: 0 -/
def f38r0 : List AInstr := [
    ⟨(some 2), none, .alloc [.int .i64 0, .int .i64 0, .int .i64 0, .int .i64 0, .int .i64 0, .int .i64 0]⟩,
    ⟨(some 3), none, .mov (.const (.int .i64 0))⟩,
    ⟨(some 4), none, .mov (.const (.int .i64 0))⟩]

def f38r1 : List AInstr := [
    ⟨(some 5), none, .build [.int .i64 0, .int .i64 0, .int .i64 0, .int .i64 0, .int .i64 0, .int .i64 0] []⟩,
    ⟨(some 6), none, .mov (.tmp 0)⟩,
    ⟨none, none, .store 6 (.tmp 2) (.tmp 5)⟩,
    ⟨(some 3), none, .mov (.const (.int .i64 0))⟩,
    ⟨(some 4), none, .mov (.tmp 6)⟩]

def f38b : ACode := (.seq (.ops f38r0)
  (.keep [0, 2] (.seq (.ops f38r1)
  (.keep [2, 3, 4] .ret))))

def f38 : AFn := ⟨7, [.cell 2 (some 6), .tmp 3, .tmp 4], f38b⟩

theorem f38_ok : compFn Tryd.prog 38 = some f38.strip := by kernel_rfl

/- function 39: weirhouse/bucket.Right; parameters 1; operations that are not compiled: 0 -/
def f39r0 : List AInstr := [
    ⟨(some 1), none, .box (.tmp 0)⟩,
    ⟨(some 2), none, .mov (.const (.bool false))⟩]

def f39r1 : List AInstr := [
    ⟨(some 3), none, .fieldAddr 0 (.tmp 1)⟩,
    ⟨(some 4), none, .load none (.tmp 3)⟩,
    ⟨(some 5), none, .ibin .geq (.tmp 4) (.const (.int .i64 0))⟩,
    ⟨(some 6), none, .mov (.tmp 5)⟩,
    ⟨(some 7), (some (6, true)), .fieldAddr 0 (.tmp 1)⟩,
    ⟨(some 8), (some (6, true)), .load none (.tmp 7)⟩,
    ⟨(some 9), (some (6, true)), .ibin .leq (.tmp 8) (.const (.int .i64 1048576))⟩,
    ⟨(some 10), none, .pick (.tmp 6) (.tmp 9) (.const (.bool false))⟩,
    ⟨(some 11), none, .mov (.tmp 10)⟩,
    ⟨(some 12), (some (11, true)), .fieldAddr 1 (.tmp 1)⟩,
    ⟨(some 13), (some (11, true)), .load none (.tmp 12)⟩,
    ⟨(some 14), (some (11, true)), .ibin .geq (.tmp 13) (.const (.int .i64 1))⟩,
    ⟨(some 15), none, .pick (.tmp 11) (.tmp 14) (.const (.bool false))⟩,
    ⟨(some 16), none, .mov (.tmp 15)⟩,
    ⟨(some 17), (some (16, true)), .fieldAddr 1 (.tmp 1)⟩,
    ⟨(some 18), (some (16, true)), .load none (.tmp 17)⟩,
    ⟨(some 19), (some (16, true)), .ibin .leq (.tmp 18) (.const (.int .i64 1048576))⟩,
    ⟨(some 20), none, .pick (.tmp 16) (.tmp 19) (.const (.bool false))⟩,
    ⟨(some 21), none, .mov (.tmp 20)⟩,
    ⟨(some 22), (some (21, true)), .fieldAddr 2 (.tmp 1)⟩,
    ⟨(some 23), (some (21, true)), .load none (.tmp 22)⟩,
    ⟨(some 24), (some (21, true)), .ibin .geq (.tmp 23) (.const (.int .i64 0))⟩,
    ⟨(some 25), none, .pick (.tmp 21) (.tmp 24) (.const (.bool false))⟩,
    ⟨(some 26), none, .mov (.tmp 25)⟩,
    ⟨(some 27), (some (26, true)), .fieldAddr 2 (.tmp 1)⟩,
    ⟨(some 28), (some (26, true)), .load none (.tmp 27)⟩,
    ⟨(some 29), (some (26, true)), .ibin .leq (.tmp 28) (.const (.int .i64 1048576))⟩,
    ⟨(some 30), none, .pick (.tmp 26) (.tmp 29) (.const (.bool false))⟩,
    ⟨(some 31), none, .mov (.tmp 30)⟩,
    ⟨(some 32), (some (31, true)), .fieldAddr 3 (.tmp 1)⟩,
    ⟨(some 33), (some (31, true)), .load none (.tmp 32)⟩,
    ⟨(some 34), (some (31, true)), .ibin .geq (.tmp 33) (.const (.int .i64 0))⟩,
    ⟨(some 35), none, .pick (.tmp 31) (.tmp 34) (.const (.bool false))⟩,
    ⟨(some 36), none, .mov (.tmp 35)⟩,
    ⟨(some 37), (some (36, true)), .fieldAddr 3 (.tmp 1)⟩,
    ⟨(some 38), (some (36, true)), .load none (.tmp 37)⟩,
    ⟨(some 39), (some (36, true)), .fieldAddr 2 (.tmp 1)⟩,
    ⟨(some 40), (some (36, true)), .load none (.tmp 39)⟩,
    ⟨(some 41), (some (36, true)), .fieldAddr 1 (.tmp 1)⟩,
    ⟨(some 42), (some (36, true)), .load none (.tmp 41)⟩,
    ⟨(some 43), (some (36, true)), .ibin .mul (.tmp 40) (.tmp 42)⟩,
    ⟨(some 44), (some (36, true)), .ibin .leq (.tmp 38) (.tmp 43)⟩,
    ⟨(some 45), none, .pick (.tmp 36) (.tmp 44) (.const (.bool false))⟩,
    ⟨(some 46), none, .mov (.tmp 45)⟩,
    ⟨(some 47), (some (46, true)), .fieldAddr 4 (.tmp 1)⟩,
    ⟨(some 48), (some (46, true)), .load none (.tmp 47)⟩,
    ⟨(some 49), (some (46, true)), .ibin .geq (.tmp 48) (.const (.int .i64 0))⟩,
    ⟨(some 50), none, .pick (.tmp 46) (.tmp 49) (.const (.bool false))⟩,
    ⟨(some 51), none, .mov (.tmp 50)⟩,
    ⟨(some 52), (some (51, true)), .fieldAddr 4 (.tmp 1)⟩,
    ⟨(some 53), (some (51, true)), .load none (.tmp 52)⟩,
    ⟨(some 54), (some (51, true)), .ibin .leq (.tmp 53) (.const (.int .i64 1099511627776))⟩,
    ⟨(some 55), none, .pick (.tmp 51) (.tmp 54) (.const (.bool false))⟩,
    ⟨(some 2), none, .mov (.tmp 55)⟩]

def f39b : ACode := (.seq (.ops f39r0)
  (.keep [1] (.seq (.ops f39r1)
  (.keep [2] .ret))))

def f39 : AFn := ⟨56, [.tmp 2], f39b⟩

theorem f39_ok : compFn Tryd.prog 39 = some f39.strip := by kernel_rfl

/- function 40: weirhouse/pace.do$1; parameters 1; operations that are not compiled: 0 -/
def f40r0 : List AInstr := [
    ⟨(some 3), none, .alloc [.slice none 0 0, .int .i64 0, .int .i64 0, .int .i64 0, .int .i64 0, .int .i64 0, .int .i64 0, .int .i64 0, .int .i64 0, .int .i64 0]⟩,
    ⟨(some 4), none, .alloc [.int .i64 0, .slice none 0 0]⟩]

def f40r1 : List AInstr := [
    ⟨(some 5), none, .load (some 10) (.tmp 1)⟩,
    ⟨(some 6), none, .mov (.tmp 0)⟩,
    ⟨(some 7), none, .build [.int .i64 0, .slice none 0 0] [(0, 1, (.tmp 6))]⟩,
    ⟨none, none, .store 10 (.tmp 3) (.tmp 5)⟩,
    ⟨none, none, .store 2 (.tmp 4) (.tmp 7)⟩]

def f40b : ACode := (.seq (.ops f40r0)
  (.keep [0, 1, 3, 4] (.seq (.ops f40r1)
  (.keep [3, 4] .ret))))

def f40 : AFn := ⟨8, [.cell 3 (some 10), .cell 4 (some 2)], f40b⟩

theorem f40_ok : compFn Tryd.prog 40 = some f40.strip := by kernel_rfl

/- function 41: weirhouse/ring.Step; parameters 2; operations that are not compiled: 0 -/
def f41r0 : List AInstr := [
    ⟨(some 2), none, .box (.tmp 0)⟩,
    ⟨(some 3), none, .box (.tmp 1)⟩,
    ⟨(some 4), none, .alloc [.slice none 0 0, .int .i64 0, .int .i64 0, .int .i64 0]⟩,
    ⟨(some 5), none, .mov (.const (.int .i64 0))⟩,
    ⟨(some 6), none, .mov (.const (.int .i64 0))⟩]

def f41r1 : List AInstr := [
    ⟨(some 7), none, .mov (.const (.func (.func 52) #[] #[]))⟩]

def f41r2 : List AInstr := [
    ⟨(some 9), none, .load (some 4) (.tmp 2)⟩,
    ⟨(some 10), none, .callF 53 [.tmp 9]⟩,
    ⟨(some 11), none, .un .not (.tmp 10)⟩]

def f41r3 : List AInstr := [
    ⟨(some 12), none, .mov (.tmp 7)⟩,
    ⟨(some 13), none, .callV (.tmp 12) [.const (.int .i64 1)]⟩,
    ⟨(some 14), none, .extract 0 (.tmp 13)⟩,
    ⟨(some 15), none, .extract 1 (.tmp 13)⟩,
    ⟨(some 16), none, .extract 2 (.tmp 13)⟩,
    ⟨none, none, .store 4 (.tmp 4) (.tmp 14)⟩,
    ⟨(some 5), none, .mov (.tmp 15)⟩,
    ⟨(some 6), none, .mov (.tmp 16)⟩]

def f41r4 : List AInstr := [
    ⟨(some 17), none, .fieldAddr 0 (.tmp 2)⟩,
    ⟨(some 18), none, .load none (.tmp 17)⟩,
    ⟨(some 19), none, .callF 25 [.tmp 18]⟩,
    ⟨(some 20), none, .fieldAddr 0 (.tmp 2)⟩,
    ⟨none, none, .store 1 (.tmp 20) (.tmp 19)⟩]

def f41r5 : List AInstr := [
    ⟨(some 21), none, .fieldAddr 0 (.tmp 3)⟩,
    ⟨(some 22), none, .load none (.tmp 21)⟩]

def f41r6 : List AInstr := [
    ⟨(some 24), none, .ibin .eql (.tmp 22) (.const (.int .i64 1))⟩,
    ⟨(some 23), none, .mov (.tmp 24)⟩]

def f41r7 : List AInstr := [
    ⟨(some 26), none, .fieldAddr 1 (.tmp 3)⟩,
    ⟨(some 27), none, .load none (.tmp 26)⟩,
    ⟨(some 28), none, .ibin .lss (.tmp 27) (.const (.int .i64 1))⟩,
    ⟨(some 29), none, .mov (.tmp 28)⟩,
    ⟨(some 30), (some (29, false)), .fieldAddr 1 (.tmp 3)⟩,
    ⟨(some 31), (some (29, false)), .load none (.tmp 30)⟩,
    ⟨(some 32), (some (29, false)), .ibin .gtr (.tmp 31) (.const (.int .i64 1500))⟩,
    ⟨(some 33), none, .pick (.tmp 29) (.const (.bool true)) (.tmp 32)⟩,
    ⟨(some 25), none, .mov (.tmp 33)⟩]

def f41r8 : List AInstr := [
    ⟨(some 34), none, .mov (.tmp 7)⟩,
    ⟨(some 35), none, .callV (.tmp 34) [.const (.int .i64 2)]⟩,
    ⟨(some 36), none, .extract 0 (.tmp 35)⟩,
    ⟨(some 37), none, .extract 1 (.tmp 35)⟩,
    ⟨(some 38), none, .extract 2 (.tmp 35)⟩,
    ⟨none, none, .store 4 (.tmp 4) (.tmp 36)⟩,
    ⟨(some 5), none, .mov (.tmp 37)⟩,
    ⟨(some 6), none, .mov (.tmp 38)⟩]

def f41r9 : List AInstr := [
    ⟨(some 40), none, .fieldAddr 0 (.tmp 2)⟩,
    ⟨(some 41), none, .load none (.tmp 40)⟩,
    ⟨(some 42), none, .len (.tmp 41)⟩,
    ⟨(some 43), none, .fieldAddr 1 (.tmp 2)⟩,
    ⟨(some 44), none, .load none (.tmp 43)⟩,
    ⟨(some 45), none, .ibin .lss (.tmp 42) (.tmp 44)⟩,
    ⟨(some 46), none, .mov (.tmp 45)⟩,
    ⟨(some 47), (some (46, true)), .fieldAddr 0 (.tmp 2)⟩,
    ⟨(some 48), (some (46, true)), .load none (.tmp 47)⟩,
    ⟨(some 50), (some (46, true)), .fieldAddr 1 (.tmp 3)⟩,
    ⟨(some 51), (some (46, true)), .load none (.tmp 50)⟩,
    ⟨(some 53), (some (46, true)), .fieldAddr 2 (.tmp 2)⟩,
    ⟨(some 54), (some (46, true)), .load none (.tmp 53)⟩,
    ⟨(some 49), (some (46, true)), .callF 54 [.tmp 48]⟩,
    ⟨(some 52), (some (46, true)), .ibin .add (.tmp 49) (.tmp 51)⟩,
    ⟨(some 55), (some (46, true)), .ibin .leq (.tmp 52) (.tmp 54)⟩,
    ⟨(some 56), none, .pick (.tmp 46) (.tmp 55) (.const (.bool false))⟩,
    ⟨(some 39), none, .mov (.tmp 56)⟩]

def f41r10 : List AInstr := [
    ⟨(some 57), none, .fieldAddr 0 (.tmp 2)⟩,
    ⟨(some 58), none, .load none (.tmp 57)⟩,
    ⟨(some 59), none, .fieldAddr 1 (.tmp 3)⟩,
    ⟨(some 60), none, .load none (.tmp 59)⟩,
    ⟨(some 61), none, .buildSlice 1 1 [.int .i64 0] [(0, 1, (.tmp 60))]⟩,
    ⟨(some 62), none, .append 1 8 (.tmp 58) (.tmp 61)⟩,
    ⟨(some 63), none, .fieldAddr 0 (.tmp 2)⟩,
    ⟨none, none, .store 1 (.tmp 63) (.tmp 62)⟩]

def f41r11 : List AInstr := [
    ⟨(some 64), none, .load (some 4) (.tmp 2)⟩,
    ⟨none, none, .store 4 (.tmp 4) (.tmp 64)⟩,
    ⟨(some 5), none, .mov (.const (.int .i64 1))⟩,
    ⟨(some 6), none, .mov (.const (.int .i64 0))⟩]

def f41r12 : List AInstr := [
    ⟨(some 66), none, .fieldAddr 3 (.tmp 2)⟩,
    ⟨(some 67), none, .load none (.tmp 66)⟩,
    ⟨(some 68), none, .ibin .eql (.tmp 67) (.const (.int .i64 1099511627776))⟩,
    ⟨(some 65), none, .mov (.tmp 68)⟩]

def f41r13 : List AInstr := [
    ⟨(some 69), none, .mov (.tmp 7)⟩,
    ⟨(some 70), none, .callV (.tmp 69) [.const (.int .i64 4)]⟩,
    ⟨(some 71), none, .extract 0 (.tmp 70)⟩,
    ⟨(some 72), none, .extract 1 (.tmp 70)⟩,
    ⟨(some 73), none, .extract 2 (.tmp 70)⟩,
    ⟨none, none, .store 4 (.tmp 4) (.tmp 71)⟩,
    ⟨(some 5), none, .mov (.tmp 72)⟩,
    ⟨(some 6), none, .mov (.tmp 73)⟩]

def f41r14 : List AInstr := [
    ⟨(some 74), none, .fieldAddr 3 (.tmp 2)⟩,
    ⟨(some 75), none, .load none (.tmp 74)⟩,
    ⟨(some 76), none, .ibin .add (.tmp 75) (.const (.int .i64 1))⟩,
    ⟨(some 77), none, .fieldAddr 3 (.tmp 2)⟩,
    ⟨none, none, .store 1 (.tmp 77) (.tmp 76)⟩]

def f41r15 : List AInstr := [
    ⟨(some 78), none, .load (some 4) (.tmp 2)⟩,
    ⟨none, none, .store 4 (.tmp 4) (.tmp 78)⟩,
    ⟨(some 5), none, .mov (.const (.int .i64 0))⟩,
    ⟨(some 6), none, .mov (.const (.int .i64 0))⟩]

def f41r16 : List AInstr := [
    ⟨(some 80), none, .ibin .eql (.tmp 22) (.const (.int .i64 2))⟩,
    ⟨(some 79), none, .mov (.tmp 80)⟩]

def f41r17 : List AInstr := [
    ⟨(some 81), none, .fieldAddr 0 (.tmp 2)⟩,
    ⟨(some 82), none, .load none (.tmp 81)⟩,
    ⟨(some 83), none, .len (.tmp 82)⟩,
    ⟨(some 84), none, .ibin .eql (.tmp 83) (.const (.int .i64 0))⟩]

def f41r18 : List AInstr := [
    ⟨(some 85), none, .mov (.tmp 7)⟩,
    ⟨(some 86), none, .callV (.tmp 85) [.const (.int .i64 3)]⟩,
    ⟨(some 87), none, .extract 0 (.tmp 86)⟩,
    ⟨(some 88), none, .extract 1 (.tmp 86)⟩,
    ⟨(some 89), none, .extract 2 (.tmp 86)⟩,
    ⟨none, none, .store 4 (.tmp 4) (.tmp 87)⟩,
    ⟨(some 5), none, .mov (.tmp 88)⟩,
    ⟨(some 6), none, .mov (.tmp 89)⟩]

def f41r19 : List AInstr := [
    ⟨(some 90), none, .fieldAddr 0 (.tmp 2)⟩,
    ⟨(some 91), none, .load none (.tmp 90)⟩,
    ⟨(some 92), none, .indexAddr 1 (.tmp 91) (.const (.int .i64 0))⟩,
    ⟨(some 93), none, .load none (.tmp 92)⟩,
    ⟨(some 8), none, .mov (.tmp 93)⟩]

def f41r20 : List AInstr := [
    ⟨(some 94), none, .fieldAddr 0 (.tmp 2)⟩,
    ⟨(some 95), none, .load none (.tmp 94)⟩,
    ⟨(some 96), none, .slice 1 (.tmp 95) (some (.const (.int .i64 1))) none none⟩,
    ⟨(some 97), none, .callF 25 [.tmp 96]⟩,
    ⟨(some 98), none, .fieldAddr 0 (.tmp 2)⟩,
    ⟨none, none, .store 1 (.tmp 98) (.tmp 97)⟩]

def f41r21 : List AInstr := [
    ⟨(some 99), none, .load (some 4) (.tmp 2)⟩,
    ⟨(some 100), none, .mov (.tmp 8)⟩,
    ⟨none, none, .store 4 (.tmp 4) (.tmp 99)⟩,
    ⟨(some 5), none, .mov (.tmp 100)⟩,
    ⟨(some 6), none, .mov (.const (.int .i64 0))⟩]

def f41r22 : List AInstr := [
    ⟨(some 101), none, .mov (.tmp 7)⟩,
    ⟨(some 102), none, .callV (.tmp 101) [.const (.int .i64 5)]⟩,
    ⟨(some 103), none, .extract 0 (.tmp 102)⟩,
    ⟨(some 104), none, .extract 1 (.tmp 102)⟩,
    ⟨(some 105), none, .extract 2 (.tmp 102)⟩,
    ⟨none, none, .store 4 (.tmp 4) (.tmp 103)⟩,
    ⟨(some 5), none, .mov (.tmp 104)⟩,
    ⟨(some 6), none, .mov (.tmp 105)⟩]

def f41b : ACode := (.seq (.ops f41r0)
  (.keep [2, 3, 4] (.seq (.ops f41r1)
  (.keep [2, 3, 4, 7] (.seq (.seq (.ops f41r2)
  (.keep [2, 3, 4, 7, 11] (.cond (.tmp 11) (.keep [4, 7] (.seq (.ops f41r3)
  (.keep [4, 5, 6] .ret))) .skip)))
  (.keep [2, 3, 4, 7] (.seq (.ops f41r4)
  (.keep [2, 3, 4, 7] (.seq (.seq (.ops f41r5)
  (.keep [2, 3, 4, 7, 22] (.block 0 (.seq (.ops f41r6)
  (.keep [2, 3, 4, 7, 22, 23] (.cond (.tmp 23) (.keep [2, 3, 4, 7] (.seq (.block 1 (.seq (.ops f41r7)
  (.keep [2, 3, 4, 7, 25] (.cond (.tmp 25) (.keep [4, 7] (.seq (.ops f41r8)
  (.keep [4, 5, 6] .ret))) (.keep [2, 3, 4, 7] (.seq (.alt [(f41r9, [(0, 0, false), (0, 0, false), (0, 0, false), (0, 0, false), (0, 0, false), (0, 0, false), (0, 0, false), (0, 0, false), (0, 0, false), (0, 1, false), (0, 1, false), (0, 1, false), (0, 1, false), (0, 0, true), (1, 1, false), (1, 1, false), (1, 1, false), (1, 1, false)])])
  (.keep [2, 3, 4, 7, 39] (.cond (.tmp 39) (.keep [2, 3, 4] (.seq (.ops f41r10)
  (.keep [2, 4] (.seq (.ops f41r11)
  (.keep [4, 5, 6] .ret))))) (.keep [2, 4, 7] (.seq (.ops f41r12)
  (.keep [2, 4, 7, 65] (.cond (.tmp 65) (.keep [4, 7] (.seq (.ops f41r13)
  (.keep [4, 5, 6] .ret))) .skip))))))))))))
  (.keep [2, 4] (.seq (.ops f41r14)
  (.keep [2, 4] (.seq (.ops f41r15)
  (.keep [4, 5, 6] .ret))))))) (.keep [2, 4, 7, 22] (.seq (.ops f41r16)
  (.keep [2, 4, 7, 79] (.cond (.tmp 79) (.keep [2, 4, 7] (.seq (.seq (.ops f41r17)
  (.keep [2, 4, 7, 84] (.cond (.tmp 84) (.keep [4, 7] (.seq (.ops f41r18)
  (.keep [4, 5, 6] .ret))) .skip)))
  (.keep [2, 4] (.seq (.ops f41r19)
  (.keep [2, 4, 8] (.seq (.ops f41r20)
  (.keep [2, 4, 8] (.seq (.ops f41r21)
  (.keep [4, 5, 6] .ret))))))))) .skip))))))))))
  (.keep [4, 7] (.seq (.ops f41r22)
  (.keep [4, 5, 6] .ret))))))))))))

def f41 : AFn := ⟨106, [.cell 4 (some 4), .tmp 5, .tmp 6], f41b⟩

theorem f41_ok : compFn Tryd.prog 41 = some f41.strip := by kernel_rfl

/- function 42: weirhouse/bucket.Fill; parameters 2; operations that are not compiled: 0 -/
def f42r0 : List AInstr := [
    ⟨(some 2), none, .box (.tmp 0)⟩,
    ⟨(some 4), none, .alloc [.int .i64 0, .int .i64 0, .int .i64 0, .int .i64 0, .int .i64 0]⟩,
    ⟨(some 5), none, .mov (.const (.int .i64 0))⟩]

def f42r1 : List AInstr := [
    ⟨(some 9), none, .load (some 5) (.tmp 2)⟩,
    ⟨(some 10), none, .callF 39 [.tmp 9]⟩,
    ⟨(some 11), none, .un .not (.tmp 10)⟩,
    ⟨(some 8), none, .mov (.tmp 11)⟩]

def f42r2 : List AInstr := [
    ⟨(some 12), none, .build [.int .i64 0, .int .i64 0, .int .i64 0, .int .i64 0, .int .i64 0] []⟩,
    ⟨none, none, .store 5 (.tmp 4) (.tmp 12)⟩,
    ⟨(some 5), none, .mov (.const (.int .i64 1))⟩]

def f42r3 : List AInstr := [
    ⟨(some 14), none, .mov (.tmp 1)⟩,
    ⟨(some 15), none, .fieldAddr 4 (.tmp 2)⟩,
    ⟨(some 16), none, .load none (.tmp 15)⟩,
    ⟨(some 17), none, .ibin .lss (.tmp 14) (.tmp 16)⟩,
    ⟨(some 18), none, .mov (.tmp 17)⟩,
    ⟨(some 19), (some (18, false)), .mov (.tmp 1)⟩,
    ⟨(some 20), (some (18, false)), .ibin .gtr (.tmp 19) (.const (.int .i64 1099511627776))⟩,
    ⟨(some 21), none, .pick (.tmp 18) (.const (.bool true)) (.tmp 20)⟩,
    ⟨(some 13), none, .mov (.tmp 21)⟩]

def f42r4 : List AInstr := [
    ⟨(some 22), none, .build [.int .i64 0, .int .i64 0, .int .i64 0, .int .i64 0, .int .i64 0] []⟩,
    ⟨none, none, .store 5 (.tmp 4) (.tmp 22)⟩,
    ⟨(some 5), none, .mov (.const (.int .i64 2))⟩]

def f42r5 : List AInstr := [
    ⟨(some 23), none, .fieldAddr 2 (.tmp 2)⟩,
    ⟨(some 24), none, .load none (.tmp 23)⟩,
    ⟨(some 25), none, .fieldAddr 1 (.tmp 2)⟩,
    ⟨(some 26), none, .load none (.tmp 25)⟩,
    ⟨(some 27), none, .ibin .mul (.tmp 24) (.tmp 26)⟩,
    ⟨(some 28), none, .fieldAddr 3 (.tmp 2)⟩,
    ⟨(some 29), none, .load none (.tmp 28)⟩,
    ⟨(some 30), none, .ibin .sub (.tmp 27) (.tmp 29)⟩,
    ⟨(some 6), none, .mov (.tmp 30)⟩]

def f42r6 : List AInstr := [
    ⟨(some 31), none, .mov (.tmp 1)⟩,
    ⟨(some 32), none, .fieldAddr 4 (.tmp 2)⟩,
    ⟨(some 33), none, .load none (.tmp 32)⟩,
    ⟨(some 34), none, .ibin .sub (.tmp 31) (.tmp 33)⟩,
    ⟨(some 7), none, .mov (.tmp 34)⟩]

def f42r7 : List AInstr := [
    ⟨(some 35), none, .fieldAddr 0 (.tmp 2)⟩,
    ⟨(some 36), none, .load none (.tmp 35)⟩,
    ⟨(some 37), none, .ibin .gtr (.tmp 36) (.const (.int .i64 0))⟩,
    ⟨(some 38), none, .mov (.tmp 37)⟩,
    ⟨(some 39), (some (38, true)), .mov (.tmp 7)⟩,
    ⟨(some 40), (some (38, true)), .mov (.tmp 6)⟩,
    ⟨(some 41), (some (38, true)), .fieldAddr 0 (.tmp 2)⟩,
    ⟨(some 42), (some (38, true)), .load none (.tmp 41)⟩,
    ⟨(some 43), (some (38, true)), .ibin .quo (.tmp 40) (.tmp 42)⟩,
    ⟨(some 44), (some (38, true)), .ibin .gtr (.tmp 39) (.tmp 43)⟩,
    ⟨(some 45), none, .pick (.tmp 38) (.tmp 44) (.const (.bool false))⟩]

def f42r8 : List AInstr := [
    ⟨(some 46), none, .fieldAddr 3 (.tmp 2)⟩,
    ⟨(some 47), none, .load none (.tmp 46)⟩,
    ⟨(some 48), none, .mov (.tmp 6)⟩,
    ⟨(some 49), none, .ibin .add (.tmp 47) (.tmp 48)⟩,
    ⟨(some 50), none, .fieldAddr 3 (.tmp 2)⟩,
    ⟨none, none, .store 1 (.tmp 50) (.tmp 49)⟩]

def f42r9 : List AInstr := [
    ⟨(some 51), none, .fieldAddr 3 (.tmp 2)⟩,
    ⟨(some 52), none, .load none (.tmp 51)⟩,
    ⟨(some 53), none, .mov (.tmp 7)⟩,
    ⟨(some 54), none, .fieldAddr 0 (.tmp 2)⟩,
    ⟨(some 55), none, .load none (.tmp 54)⟩,
    ⟨(some 56), none, .ibin .mul (.tmp 53) (.tmp 55)⟩,
    ⟨(some 57), none, .ibin .add (.tmp 52) (.tmp 56)⟩,
    ⟨(some 58), none, .fieldAddr 3 (.tmp 2)⟩,
    ⟨none, none, .store 1 (.tmp 58) (.tmp 57)⟩]

def f42r10 : List AInstr := [
    ⟨(some 59), none, .mov (.tmp 1)⟩,
    ⟨(some 60), none, .fieldAddr 4 (.tmp 2)⟩,
    ⟨none, none, .store 1 (.tmp 60) (.tmp 59)⟩]

def f42r11 : List AInstr := [
    ⟨(some 61), none, .load (some 5) (.tmp 2)⟩,
    ⟨none, none, .store 5 (.tmp 4) (.tmp 61)⟩,
    ⟨(some 5), none, .mov (.const (.int .i64 0))⟩]

def f42b : ACode := (.seq (.ops f42r0)
  (.keep [1, 2, 4] (.seq (.block 0 (.seq (.ops f42r1)
  (.keep [1, 2, 4, 8] (.cond (.tmp 8) (.keep [4] (.seq (.ops f42r2)
  (.keep [4, 5] .ret))) (.keep [1, 2, 4] (.seq (.ops f42r3)
  (.keep [1, 2, 4, 13] (.cond (.tmp 13) (.keep [4] (.seq (.ops f42r4)
  (.keep [4, 5] .ret))) .skip))))))))
  (.keep [1, 2, 4] (.seq (.ops f42r5)
  (.keep [1, 2, 4, 6] (.seq (.seq (.ops f42r6)
  (.keep [1, 2, 4, 6, 7] (.seq (.ops f42r7)
  (.keep [1, 2, 4, 6, 7, 45] (.cond (.tmp 45) (.keep [1, 2, 4, 6] (.ops f42r8)) (.keep [1, 2, 4, 7] (.ops f42r9)))))))
  (.keep [1, 2, 4] (.seq (.ops f42r10)
  (.keep [2, 4] (.seq (.ops f42r11)
  (.keep [4, 5] .ret))))))))))))

def f42 : AFn := ⟨62, [.cell 4 (some 5), .tmp 5], f42b⟩

theorem f42_ok : compFn Tryd.prog 42 = some f42.strip := by kernel_rfl

/- function 43: weirhouse/pace.poll; parameters 2; operations that are not compiled: 0 -/
def f43r0 : List AInstr := [
    ⟨(some 2), none, .box (.tmp 0)⟩,
    ⟨(some 4), none, .alloc [.slice none 0 0, .int .i64 0, .int .i64 0, .int .i64 0, .int .i64 0, .int .i64 0, .int .i64 0, .int .i64 0, .int .i64 0, .int .i64 0]⟩,
    ⟨(some 5), none, .mov (.const (.slice none 0 0))⟩]

def f43r1 : List AInstr := [
    ⟨(some 6), none, .mov (.const (.slice none 0 0))⟩]

def f43r2 : List AInstr := [
    ⟨(some 13), none, .fieldAddr 0 (.tmp 2)⟩,
    ⟨(some 14), none, .fieldAddr 0 (.tmp 13)⟩,
    ⟨(some 15), none, .load none (.tmp 14)⟩,
    ⟨(some 16), none, .len (.tmp 15)⟩,
    ⟨(some 17), none, .ibin .gtr (.tmp 16) (.const (.int .i64 0))⟩]

def f43r3 : List AInstr := [
    ⟨(some 18), none, .fieldAddr 0 (.tmp 2)⟩,
    ⟨(some 19), none, .fieldAddr 0 (.tmp 18)⟩,
    ⟨(some 20), none, .load none (.tmp 19)⟩,
    ⟨(some 21), none, .indexAddr 1 (.tmp 20) (.const (.int .i64 0))⟩,
    ⟨(some 22), none, .load none (.tmp 21)⟩,
    ⟨(some 7), none, .mov (.tmp 22)⟩]

def f43r4 : List AInstr := [
    ⟨(some 23), none, .mov (.tmp 7)⟩,
    ⟨(some 24), none, .mov (.tmp 1)⟩,
    ⟨(some 25), none, .ibin .gtr (.tmp 23) (.tmp 24)⟩]

def f43r5 : List AInstr := [
    ⟨(some 27), none, .fieldAddr 4 (.tmp 2)⟩,
    ⟨(some 28), none, .load (some 5) (.tmp 27)⟩,
    ⟨(some 29), none, .fieldAddr 4 (.tmp 2)⟩,
    ⟨(some 30), none, .fieldAddr 4 (.tmp 29)⟩,
    ⟨(some 31), none, .load none (.tmp 30)⟩,
    ⟨(some 32), none, .mov (.tmp 7)⟩,
    ⟨(some 33), none, .build [.int .i64 0, .int .i64 0] [(0, 1, (.tmp 31)), (1, 1, (.tmp 32))]⟩,
    ⟨(some 34), none, .callF 55 [.tmp 28, .tmp 33]⟩,
    ⟨(some 26), none, .mov (.tmp 34)⟩,
    ⟨(some 35), none, .extract 0 (.tmp 26)⟩,
    ⟨(some 36), none, .extract 1 (.tmp 26)⟩,
    ⟨(some 37), none, .extract 2 (.tmp 26)⟩,
    ⟨(some 8), none, .alloc [.int .i64 0, .int .i64 0, .int .i64 0, .int .i64 0, .int .i64 0]⟩,
    ⟨none, none, .store 5 (.tmp 8) (.tmp 35)⟩,
    ⟨(some 9), none, .mov (.tmp 36)⟩,
    ⟨(some 10), none, .mov (.tmp 37)⟩]

def f43r6 : List AInstr := [
    ⟨(some 38), none, .mov (.tmp 10)⟩,
    ⟨(some 39), none, .ibin .neq (.tmp 38) (.const (.int .i64 0))⟩,
    ⟨(some 40), none, .mov (.tmp 39)⟩,
    ⟨(some 41), (some (40, false)), .mov (.tmp 9)⟩,
    ⟨(some 42), (some (40, false)), .un .not (.tmp 41)⟩,
    ⟨(some 43), none, .pick (.tmp 40) (.const (.bool true)) (.tmp 42)⟩]

def f43r7 : List AInstr := [
    ⟨(some 45), none, .fieldAddr 0 (.tmp 2)⟩,
    ⟨(some 46), none, .load (some 4) (.tmp 45)⟩,
    ⟨(some 47), none, .build [.int .i64 0, .int .i64 0] [(0, 1, (.const (.int .i64 2)))]⟩,
    ⟨(some 48), none, .callF 41 [.tmp 46, .tmp 47]⟩,
    ⟨(some 44), none, .mov (.tmp 48)⟩,
    ⟨(some 49), none, .extract 0 (.tmp 44)⟩,
    ⟨(some 50), none, .extract 1 (.tmp 44)⟩,
    ⟨(some 51), none, .extract 2 (.tmp 44)⟩,
    ⟨(some 11), none, .alloc [.slice none 0 0, .int .i64 0, .int .i64 0, .int .i64 0]⟩,
    ⟨none, none, .store 4 (.tmp 11) (.tmp 49)⟩,
    ⟨(some 12), none, .mov (.tmp 50)⟩,
    ⟨(some 10), none, .mov (.tmp 51)⟩]

def f43r8 : List AInstr := [
    ⟨(some 52), none, .mov (.tmp 10)⟩,
    ⟨(some 53), none, .ibin .neq (.tmp 52) (.const (.int .i64 0))⟩]

def f43r9 : List AInstr := [
    ⟨(some 54), none, .load (some 4) (.tmp 11)⟩,
    ⟨(some 55), none, .load (some 5) (.tmp 8)⟩,
    ⟨(some 56), none, .fieldAddr 0 (.tmp 2)⟩,
    ⟨none, none, .store 4 (.tmp 56) (.tmp 54)⟩,
    ⟨(some 57), none, .fieldAddr 4 (.tmp 2)⟩,
    ⟨none, none, .store 5 (.tmp 57) (.tmp 55)⟩]

def f43r10 : List AInstr := [
    ⟨(some 58), none, .mov (.tmp 1)⟩,
    ⟨(some 59), none, .mov (.tmp 7)⟩,
    ⟨(some 60), none, .ibin .sub (.tmp 58) (.tmp 59)⟩,
    ⟨(some 1), none, .mov (.tmp 60)⟩]

def f43r11 : List AInstr := [
    ⟨(some 61), none, .fieldAddr 9 (.tmp 2)⟩,
    ⟨(some 62), none, .load none (.tmp 61)⟩,
    ⟨(some 63), none, .mov (.tmp 7)⟩,
    ⟨(some 64), none, .ibin .add (.tmp 62) (.tmp 63)⟩,
    ⟨(some 65), none, .fieldAddr 9 (.tmp 2)⟩,
    ⟨none, none, .store 1 (.tmp 65) (.tmp 64)⟩]

def f43r12 : List AInstr := [
    ⟨(some 66), none, .mov (.tmp 6)⟩,
    ⟨(some 67), none, .mov (.tmp 7)⟩,
    ⟨(some 68), none, .buildSlice 1 1 [.int .i64 0] [(0, 1, (.tmp 67))]⟩,
    ⟨(some 69), none, .append 1 8 (.tmp 66) (.tmp 68)⟩,
    ⟨(some 6), none, .mov (.tmp 69)⟩]

/-- live: [1, 2, 4, 6] -/
def f43l0 : ACode := (.seq (.seq (.ops f43r2)
  (.keep [1, 2, 4, 6, 17] (.cond (.tmp 17) .skip (.exit 0))))
  (.keep [1, 2, 4, 6] (.block 1 (.seq (.ops f43r3)
  (.keep [1, 2, 4, 6, 7] (.seq (.seq (.ops f43r4)
  (.keep [1, 2, 4, 6, 7, 25] (.cond (.tmp 25) (.exit 0) .skip)))
  (.keep [1, 2, 4, 6, 7] (.seq (.ops f43r5)
  (.keep [1, 2, 4, 6, 7, 8, 9, 10] (.seq (.seq (.ops f43r6)
  (.keep [1, 2, 4, 6, 7, 8, 43] (.cond (.tmp 43) (.exit 0) .skip)))
  (.keep [1, 2, 4, 6, 7, 8] (.seq (.ops f43r7)
  (.keep [1, 2, 4, 6, 7, 8, 10, 11] (.seq (.seq (.ops f43r8)
  (.keep [1, 2, 4, 6, 7, 8, 11, 53] (.cond (.tmp 53) (.exit 0) .skip)))
  (.keep [1, 2, 4, 6, 7, 8, 11] (.seq (.draw f43r9 [(0, 0, false), (0, 1, false), (0, 0, false), (0, 0, true), (1, 1, false), (1, 0, true)])
  (.keep [1, 2, 4, 6, 7] (.seq (.ops f43r10)
  (.keep [1, 2, 4, 6, 7] (.seq (.ops f43r11)
  (.keep [1, 2, 4, 6, 7] (.ops f43r12))))))))))))))))))))))

def f43r14 : List AInstr := [
    ⟨(some 70), none, .load (some 10) (.tmp 2)⟩,
    ⟨(some 71), none, .mov (.tmp 6)⟩,
    ⟨none, none, .store 10 (.tmp 4) (.tmp 70)⟩,
    ⟨(some 5), none, .mov (.tmp 71)⟩]

def f43b : ACode := (.seq (.ops f43r0)
  (.keep [1, 2, 4] (.seq (.ops f43r1)
  (.keep [1, 2, 4, 6] (.seq (.block 0 (.loop f43l0))
  (.keep [2, 4, 6] (.seq (.ops f43r14)
  (.keep [4, 5] .ret))))))))

def f43 : AFn := ⟨72, [.cell 4 (some 10), .tmp 5], f43b⟩

theorem f43_ok : compFn Tryd.prog 43 = some f43.strip := by kernel_rfl

/- function 44: weirhouse/curve.fits; parameters 1; operations that are not compiled: 0 -/
def f44r0 : List AInstr := [
    ⟨(some 2), none, .mov (.const (.bool false))⟩]

def f44r1 : List AInstr := [
    ⟨(some 3), none, .mov (.tmp 0)⟩,
    ⟨(some 4), none, .ibin .geq (.tmp 3) (.const (.int .i64 0))⟩,
    ⟨(some 5), none, .mov (.tmp 4)⟩,
    ⟨(some 6), (some (5, true)), .mov (.tmp 0)⟩,
    ⟨(some 7), (some (5, true)), .ibin .leq (.tmp 6) (.const (.int .i64 1048576))⟩,
    ⟨(some 8), none, .pick (.tmp 5) (.tmp 7) (.const (.bool false))⟩,
    ⟨(some 2), none, .mov (.tmp 8)⟩]

def f44b : ACode := (.seq (.ops f44r0)
  (.keep [0] (.seq (.ops f44r1)
  (.keep [2] .ret))))

def f44 : AFn := ⟨9, [.tmp 2], f44b⟩

theorem f44_ok : compFn Tryd.prog 44 = some f44.strip := by kernel_rfl

/- function 45: slices.stableCmpFunc[int]; parameters 3; operations that are not compiled: 0 -/
def f45r0 : List AInstr := [
    ⟨(some 6), none, .mov (.const (.int .i64 20))⟩]

def f45r1 : List AInstr := [
    ⟨(some 10), none, .mov (.tmp 6)⟩,
    ⟨(some 7), none, .mov (.const (.int .i64 0))⟩,
    ⟨(some 8), none, .mov (.tmp 10)⟩]

def f45r2 : List AInstr := [
    ⟨(some 11), none, .mov (.tmp 8)⟩,
    ⟨(some 12), none, .mov (.tmp 1)⟩,
    ⟨(some 13), none, .ibin .leq (.tmp 11) (.tmp 12)⟩]

def f45r3 : List AInstr := [
    ⟨(some 14), none, .mov (.tmp 0)⟩,
    ⟨(some 15), none, .mov (.tmp 7)⟩,
    ⟨(some 16), none, .mov (.tmp 8)⟩,
    ⟨(some 17), none, .mov (.tmp 2)⟩,
    ⟨(some 18), none, .callF 56 [.tmp 14, .tmp 15, .tmp 16, .tmp 17]⟩]

def f45r4 : List AInstr := [
    ⟨(some 19), none, .mov (.tmp 8)⟩,
    ⟨(some 7), none, .mov (.tmp 19)⟩]

def f45r5 : List AInstr := [
    ⟨(some 20), none, .mov (.tmp 8)⟩,
    ⟨(some 21), none, .mov (.tmp 6)⟩,
    ⟨(some 22), none, .ibin .add (.tmp 20) (.tmp 21)⟩,
    ⟨(some 8), none, .mov (.tmp 22)⟩]

/-- live: [0, 1, 2, 6, 7, 8] -/
def f45l0 : ACode := (.seq (.seq (.ops f45r2)
  (.keep [0, 1, 2, 6, 7, 8, 13] (.cond (.tmp 13) .skip (.exit 0))))
  (.keep [0, 1, 2, 6, 7, 8] (.block 1 (.seq (.ops f45r3)
  (.keep [0, 1, 2, 6, 8] (.seq (.ops f45r4)
  (.keep [0, 1, 2, 6, 7, 8] (.ops f45r5))))))))

def f45r7 : List AInstr := [
    ⟨(some 23), none, .mov (.tmp 0)⟩,
    ⟨(some 24), none, .mov (.tmp 7)⟩,
    ⟨(some 25), none, .mov (.tmp 1)⟩,
    ⟨(some 26), none, .mov (.tmp 2)⟩,
    ⟨(some 27), none, .callF 56 [.tmp 23, .tmp 24, .tmp 25, .tmp 26]⟩]

def f45r8 : List AInstr := [
    ⟨(some 28), none, .mov (.tmp 6)⟩,
    ⟨(some 29), none, .mov (.tmp 1)⟩,
    ⟨(some 30), none, .ibin .lss (.tmp 28) (.tmp 29)⟩]

def f45r9 : List AInstr := [
    ⟨(some 31), none, .mov (.tmp 6)⟩,
    ⟨(some 32), none, .ibin .mul (.const (.int .i64 2)) (.tmp 31)⟩,
    ⟨(some 7), none, .mov (.const (.int .i64 0))⟩,
    ⟨(some 8), none, .mov (.tmp 32)⟩]

def f45r10 : List AInstr := [
    ⟨(some 33), none, .mov (.tmp 8)⟩,
    ⟨(some 34), none, .mov (.tmp 1)⟩,
    ⟨(some 35), none, .ibin .leq (.tmp 33) (.tmp 34)⟩]

def f45r11 : List AInstr := [
    ⟨(some 36), none, .mov (.tmp 0)⟩,
    ⟨(some 37), none, .mov (.tmp 7)⟩,
    ⟨(some 38), none, .mov (.tmp 7)⟩,
    ⟨(some 39), none, .mov (.tmp 6)⟩,
    ⟨(some 40), none, .ibin .add (.tmp 38) (.tmp 39)⟩,
    ⟨(some 41), none, .mov (.tmp 8)⟩,
    ⟨(some 42), none, .mov (.tmp 2)⟩,
    ⟨(some 43), none, .callF 57 [.tmp 36, .tmp 37, .tmp 40, .tmp 41, .tmp 42]⟩]

def f45r12 : List AInstr := [
    ⟨(some 44), none, .mov (.tmp 8)⟩,
    ⟨(some 7), none, .mov (.tmp 44)⟩]

def f45r13 : List AInstr := [
    ⟨(some 45), none, .mov (.tmp 8)⟩,
    ⟨(some 46), none, .mov (.tmp 6)⟩,
    ⟨(some 47), none, .ibin .mul (.const (.int .i64 2)) (.tmp 46)⟩,
    ⟨(some 48), none, .ibin .add (.tmp 45) (.tmp 47)⟩,
    ⟨(some 8), none, .mov (.tmp 48)⟩]

/-- live: [0, 1, 2, 6, 7, 8] -/
def f45l1 : ACode := (.seq (.seq (.ops f45r10)
  (.keep [0, 1, 2, 6, 7, 8, 35] (.cond (.tmp 35) .skip (.exit 4))))
  (.keep [0, 1, 2, 6, 7, 8] (.block 5 (.seq (.ops f45r11)
  (.keep [0, 1, 2, 6, 8] (.seq (.ops f45r12)
  (.keep [0, 1, 2, 6, 7, 8] (.ops f45r13))))))))

def f45r15 : List AInstr := [
    ⟨(some 49), none, .mov (.tmp 7)⟩,
    ⟨(some 50), none, .mov (.tmp 6)⟩,
    ⟨(some 51), none, .ibin .add (.tmp 49) (.tmp 50)⟩,
    ⟨(some 9), none, .mov (.tmp 51)⟩]

def f45r16 : List AInstr := [
    ⟨(some 52), none, .mov (.tmp 9)⟩,
    ⟨(some 53), none, .mov (.tmp 1)⟩,
    ⟨(some 54), none, .ibin .lss (.tmp 52) (.tmp 53)⟩]

def f45r17 : List AInstr := [
    ⟨(some 55), none, .mov (.tmp 0)⟩,
    ⟨(some 56), none, .mov (.tmp 7)⟩,
    ⟨(some 57), none, .mov (.tmp 9)⟩,
    ⟨(some 58), none, .mov (.tmp 1)⟩,
    ⟨(some 59), none, .mov (.tmp 2)⟩,
    ⟨(some 60), none, .callF 57 [.tmp 55, .tmp 56, .tmp 57, .tmp 58, .tmp 59]⟩]

def f45r18 : List AInstr := [
    ⟨(some 61), none, .mov (.tmp 6)⟩,
    ⟨(some 62), none, .ibin .mul (.tmp 61) (.const (.int .i64 2))⟩,
    ⟨(some 6), none, .mov (.tmp 62)⟩]

/-- live: [0, 1, 2, 6] -/
def f45l2 : ACode := (.seq (.seq (.ops f45r8)
  (.keep [0, 1, 2, 6, 30] (.cond (.tmp 30) .skip (.exit 2))))
  (.keep [0, 1, 2, 6] (.block 3 (.seq (.ops f45r9)
  (.keep [0, 1, 2, 6, 7, 8] (.seq (.block 4 (.loop f45l1))
  (.keep [0, 1, 2, 6, 7] (.seq (.seq (.ops f45r15)
  (.keep [0, 1, 2, 6, 7, 9] (.seq (.ops f45r16)
  (.keep [0, 1, 2, 6, 7, 9, 54] (.cond (.tmp 54) (.keep [0, 1, 2, 6, 7, 9] (.ops f45r17)) .skip)))))
  (.keep [0, 1, 2, 6] (.ops f45r18))))))))))

def f45b : ACode := (.seq (.ops f45r0)
  (.keep [0, 1, 2, 6] (.seq (.ops f45r1)
  (.keep [0, 1, 2, 6, 7, 8] (.seq (.block 0 (.loop f45l0))
  (.keep [0, 1, 2, 6, 7] (.seq (.ops f45r7)
  (.keep [0, 1, 2, 6] (.block 2 (.loop f45l2))))))))))

def f45 : AFn := ⟨63, [], f45b⟩

theorem f45_ok : compFn Tryd.prog 45 = some f45.strip := by kernel_rfl

/- function 46: (*weirhouse/wfq.node).pick; parameters 1; operations that are not compiled: 0 -/
def f46r0 : List AInstr := [
    ⟨(some 2), none, .mov (.const (.int .i64 0))⟩]

def f46r1 : List AInstr := [
    ⟨(some 3), none, .mov (.const (.int .i64 (-1)))⟩]

def f46r2 : List AInstr := [
    ⟨(some 9), none, .mov (.tmp 0)⟩,
    ⟨(some 10), none, .nilCheck (.tmp 9)⟩,
    ⟨(some 11), none, .fieldAddr 1 (.tmp 10)⟩,
    ⟨(some 12), none, .load none (.tmp 11)⟩,
    ⟨(some 13), none, .len (.tmp 12)⟩,
    ⟨(some 14), none, .mov (.const (.int .i64 0))⟩]

def f46r3 : List AInstr := [
    ⟨(some 15), none, .ibin .lss (.tmp 14) (.tmp 13)⟩]

def f46r4 : List AInstr := [
    ⟨(some 16), none, .indexAddr 3 (.tmp 12) (.tmp 14)⟩,
    ⟨(some 17), none, .load (some 3) (.tmp 16)⟩,
    ⟨(some 5), none, .alloc [.slice none 0 0, .int .i64 0, .int .i64 0]⟩,
    ⟨none, none, .store 3 (.tmp 5) (.tmp 17)⟩]

def f46r5 : List AInstr := [
    ⟨(some 18), none, .fieldAddr 0 (.tmp 5)⟩,
    ⟨(some 19), none, .load none (.tmp 18)⟩,
    ⟨(some 20), none, .len (.tmp 19)⟩,
    ⟨(some 21), none, .ibin .gtr (.tmp 20) (.const (.int .i64 0))⟩,
    ⟨(some 22), none, .mov (.tmp 21)⟩,
    ⟨(some 23), (some (22, true)), .mov (.tmp 3)⟩,
    ⟨(some 24), (some (22, true)), .ibin .lss (.tmp 23) (.const (.int .i64 0))⟩,
    ⟨(some 25), (some (22, true)), .mov (.tmp 24)⟩,
    ⟨(some 26), (some (25, false)), .fieldAddr 1 (.tmp 5)⟩,
    ⟨(some 27), (some (25, false)), .load none (.tmp 26)⟩,
    ⟨(some 28), (some (25, false)), .mov (.tmp 3)⟩,
    ⟨(some 29), (some (25, false)), .ibin .lss (.tmp 27) (.tmp 28)⟩,
    ⟨(some 30), (some (22, true)), .pick (.tmp 25) (.const (.bool true)) (.tmp 29)⟩,
    ⟨(some 31), none, .pick (.tmp 22) (.tmp 30) (.const (.bool false))⟩]

def f46r6 : List AInstr := [
    ⟨(some 32), none, .fieldAddr 1 (.tmp 5)⟩,
    ⟨(some 33), none, .load none (.tmp 32)⟩,
    ⟨(some 3), none, .mov (.tmp 33)⟩]

def f46r7 : List AInstr := [
    ⟨(some 34), none, .ibin .add (.tmp 14) (.const (.int .i64 1))⟩,
    ⟨(some 14), none, .mov (.tmp 34)⟩]

/-- live: [0, 3, 12, 13, 14] -/
def f46l0 : ACode := (.seq (.ops f46r3)
  (.keep [0, 3, 12, 13, 14, 15] (.seq (.cond (.tmp 15) .skip (.exit 0))
  (.keep [0, 3, 12, 13, 14] (.seq (.block 1 (.seq (.ops f46r4)
  (.keep [0, 3, 5, 12, 13, 14] (.seq (.ops f46r5)
  (.keep [0, 3, 5, 12, 13, 14, 31] (.cond (.tmp 31) (.keep [0, 5, 12, 13, 14] (.ops f46r6)) .skip))))))
  (.keep [0, 3, 12, 13, 14] (.ops f46r7)))))))

def f46r9 : List AInstr := [
    ⟨(some 35), none, .mov (.tmp 3)⟩,
    ⟨(some 36), none, .ibin .lss (.tmp 35) (.const (.int .i64 0))⟩]

def f46r10 : List AInstr := [
    ⟨(some 2), none, .mov (.const (.int .i64 (-1)))⟩]

def f46r11 : List AInstr := [
    ⟨(some 37), none, .mov (.tmp 0)⟩,
    ⟨(some 38), none, .mov (.tmp 0)⟩,
    ⟨(some 39), none, .nilCheck (.tmp 38)⟩,
    ⟨(some 40), none, .fieldAddr 3 (.tmp 39)⟩,
    ⟨(some 41), none, .load none (.tmp 40)⟩,
    ⟨(some 42), none, .mov (.tmp 3)⟩,
    ⟨(some 43), none, .minmax true [.tmp 41, .tmp 42]⟩,
    ⟨(some 44), none, .nilCheck (.tmp 37)⟩,
    ⟨(some 45), none, .fieldAddr 3 (.tmp 44)⟩,
    ⟨none, none, .store 1 (.tmp 45) (.tmp 43)⟩]

def f46r12 : List AInstr := [
    ⟨(some 6), none, .mov (.const (.int .i64 (-1)))⟩]

def f46r13 : List AInstr := [
    ⟨(some 46), none, .mov (.tmp 0)⟩,
    ⟨(some 47), none, .nilCheck (.tmp 46)⟩,
    ⟨(some 48), none, .fieldAddr 1 (.tmp 47)⟩,
    ⟨(some 49), none, .load none (.tmp 48)⟩,
    ⟨(some 50), none, .len (.tmp 49)⟩,
    ⟨(some 51), none, .mov (.const (.int .i64 0))⟩]

def f46r14 : List AInstr := [
    ⟨(some 52), none, .ibin .lss (.tmp 51) (.tmp 50)⟩]

def f46r15 : List AInstr := [
    ⟨(some 53), none, .mov (.tmp 51)⟩,
    ⟨(some 54), none, .indexAddr 3 (.tmp 49) (.tmp 51)⟩,
    ⟨(some 55), none, .load (some 3) (.tmp 54)⟩,
    ⟨(some 8), none, .alloc [.slice none 0 0, .int .i64 0, .int .i64 0]⟩,
    ⟨(some 7), none, .mov (.tmp 53)⟩,
    ⟨none, none, .store 3 (.tmp 8) (.tmp 55)⟩]

def f46r16 : List AInstr := [
    ⟨(some 56), none, .fieldAddr 0 (.tmp 8)⟩,
    ⟨(some 57), none, .load none (.tmp 56)⟩,
    ⟨(some 58), none, .len (.tmp 57)⟩,
    ⟨(some 59), none, .ibin .gtr (.tmp 58) (.const (.int .i64 0))⟩,
    ⟨(some 60), none, .mov (.tmp 59)⟩,
    ⟨(some 61), (some (60, true)), .fieldAddr 1 (.tmp 8)⟩,
    ⟨(some 62), (some (60, true)), .load none (.tmp 61)⟩,
    ⟨(some 63), (some (60, true)), .mov (.tmp 0)⟩,
    ⟨(some 64), (some (60, true)), .nilCheck (.tmp 63)⟩,
    ⟨(some 65), (some (60, true)), .fieldAddr 3 (.tmp 64)⟩,
    ⟨(some 66), (some (60, true)), .load none (.tmp 65)⟩,
    ⟨(some 67), (some (60, true)), .ibin .leq (.tmp 62) (.tmp 66)⟩,
    ⟨(some 68), none, .pick (.tmp 60) (.tmp 67) (.const (.bool false))⟩,
    ⟨(some 69), none, .mov (.tmp 68)⟩,
    ⟨(some 70), (some (69, true)), .mov (.tmp 6)⟩,
    ⟨(some 71), (some (69, true)), .ibin .lss (.tmp 70) (.const (.int .i64 0))⟩,
    ⟨(some 72), (some (69, true)), .mov (.tmp 71)⟩,
    ⟨(some 73), (some (72, false)), .fieldAddr 2 (.tmp 8)⟩,
    ⟨(some 74), (some (72, false)), .load none (.tmp 73)⟩,
    ⟨(some 75), (some (72, false)), .mov (.tmp 0)⟩,
    ⟨(some 76), (some (72, false)), .nilCheck (.tmp 75)⟩,
    ⟨(some 77), (some (72, false)), .fieldAddr 1 (.tmp 76)⟩,
    ⟨(some 78), (some (72, false)), .load none (.tmp 77)⟩,
    ⟨(some 79), (some (72, false)), .mov (.tmp 6)⟩,
    ⟨(some 80), (some (72, false)), .indexAddr 3 (.tmp 78) (.tmp 79)⟩,
    ⟨(some 81), (some (72, false)), .fieldAddr 2 (.tmp 80)⟩,
    ⟨(some 82), (some (72, false)), .load none (.tmp 81)⟩,
    ⟨(some 83), (some (72, false)), .ibin .lss (.tmp 74) (.tmp 82)⟩,
    ⟨(some 84), (some (69, true)), .pick (.tmp 72) (.const (.bool true)) (.tmp 83)⟩,
    ⟨(some 85), none, .pick (.tmp 69) (.tmp 84) (.const (.bool false))⟩]

def f46r17 : List AInstr := [
    ⟨(some 86), none, .mov (.tmp 7)⟩,
    ⟨(some 6), none, .mov (.tmp 86)⟩]

def f46r18 : List AInstr := [
    ⟨(some 87), none, .ibin .add (.tmp 51) (.const (.int .i64 1))⟩,
    ⟨(some 51), none, .mov (.tmp 87)⟩]

/-- live: [0, 6, 49, 50, 51] -/
def f46l1 : ACode := (.seq (.ops f46r14)
  (.keep [0, 6, 49, 50, 51, 52] (.seq (.cond (.tmp 52) .skip (.exit 2))
  (.keep [0, 6, 49, 50, 51] (.seq (.block 3 (.seq (.ops f46r15)
  (.keep [0, 6, 7, 8, 49, 50, 51] (.seq (.draw f46r16 [(0, 0, false), (0, 0, false), (0, 0, false), (0, 0, false), (0, 0, false), (0, 0, false), (0, 0, false), (0, 0, false), (0, 0, false), (0, 0, false), (0, 0, false), (0, 0, false), (0, 0, false), (0, 0, false), (0, 0, false), (0, 0, false), (0, 0, false), (0, 0, false), (0, 0, false), (0, 0, false), (0, 0, false), (0, 0, false), (0, 0, false), (0, 0, false), (0, 0, false), (0, 0, false), (0, 0, false), (0, 0, false), (0, 0, false), (0, 0, false)])
  (.keep [0, 6, 7, 49, 50, 51, 85] (.cond (.tmp 85) (.keep [0, 7, 49, 50, 51] (.ops f46r17)) .skip))))))
  (.keep [0, 6, 49, 50, 51] (.ops f46r18)))))))

def f46r20 : List AInstr := [
    ⟨(some 88), none, .mov (.tmp 6)⟩,
    ⟨(some 2), none, .mov (.tmp 88)⟩]

def f46b : ACode := (.seq (.ops f46r0)
  (.keep [0] (.seq (.ops f46r1)
  (.keep [0, 3] (.seq (.seq (.ops f46r2)
  (.keep [0, 3, 12, 13, 14] (.block 0 (.loop f46l0))))
  (.keep [0, 3] (.seq (.seq (.ops f46r9)
  (.keep [0, 3, 36] (.cond (.tmp 36) (.keep [] (.seq (.ops f46r10)
  (.keep [2] .ret))) .skip)))
  (.keep [0, 3] (.seq (.ops f46r11)
  (.keep [0] (.seq (.ops f46r12)
  (.keep [0, 6] (.seq (.seq (.ops f46r13)
  (.keep [0, 6, 49, 50, 51] (.block 2 (.loop f46l1))))
  (.keep [6] (.seq (.ops f46r20)
  (.keep [2] .ret))))))))))))))))

def f46 : AFn := ⟨89, [.tmp 2], f46b⟩

theorem f46_ok : compFn Tryd.prog 46 = some f46.strip := by kernel_rfl

/- function 47: (*weirhouse/wfq.node).head; parameters 3; operations that are not compiled: 0 -/
def f47r0 : List AInstr := [
    ⟨(some 7), none, .mov (.tmp 0)⟩,
    ⟨(some 8), none, .nilCheck (.tmp 7)⟩,
    ⟨(some 9), none, .fieldAddr 1 (.tmp 8)⟩,
    ⟨(some 10), none, .load none (.tmp 9)⟩,
    ⟨(some 11), none, .mov (.tmp 1)⟩,
    ⟨(some 12), none, .indexAddr 3 (.tmp 10) (.tmp 11)⟩,
    ⟨(some 6), none, .mov (.tmp 12)⟩]

def f47r1 : List AInstr := [
    ⟨(some 13), none, .mov (.tmp 6)⟩,
    ⟨(some 14), none, .mov (.tmp 2)⟩,
    ⟨(some 15), none, .nilCheck (.tmp 13)⟩,
    ⟨(some 16), none, .fieldAddr 1 (.tmp 15)⟩,
    ⟨none, none, .store 1 (.tmp 16) (.tmp 14)⟩]

def f47r2 : List AInstr := [
    ⟨(some 17), none, .mov (.tmp 6)⟩,
    ⟨(some 18), none, .mov (.tmp 2)⟩,
    ⟨(some 19), none, .mov (.tmp 6)⟩,
    ⟨(some 20), none, .nilCheck (.tmp 19)⟩,
    ⟨(some 21), none, .fieldAddr 0 (.tmp 20)⟩,
    ⟨(some 22), none, .load none (.tmp 21)⟩,
    ⟨(some 23), none, .indexAddr 1 (.tmp 22) (.const (.int .i64 0))⟩,
    ⟨(some 24), none, .load none (.tmp 23)⟩,
    ⟨(some 25), none, .mov (.tmp 0)⟩,
    ⟨(some 26), none, .nilCheck (.tmp 25)⟩,
    ⟨(some 27), none, .fieldAddr 0 (.tmp 26)⟩,
    ⟨(some 28), none, .load none (.tmp 27)⟩,
    ⟨(some 29), none, .mov (.tmp 1)⟩,
    ⟨(some 30), none, .indexAddr 1 (.tmp 28) (.tmp 29)⟩,
    ⟨(some 31), none, .load none (.tmp 30)⟩,
    ⟨(some 32), none, .ibin .quo (.const (.int .i64 27720)) (.tmp 31)⟩,
    ⟨(some 33), none, .ibin .mul (.tmp 24) (.tmp 32)⟩,
    ⟨(some 34), none, .mov (.tmp 0)⟩,
    ⟨(some 35), none, .nilCheck (.tmp 34)⟩,
    ⟨(some 36), none, .fieldAddr 2 (.tmp 35)⟩,
    ⟨(some 37), none, .load none (.tmp 36)⟩,
    ⟨(some 38), none, .ibin .mul (.tmp 33) (.tmp 37)⟩,
    ⟨(some 39), none, .ibin .add (.tmp 18) (.tmp 38)⟩,
    ⟨(some 40), none, .nilCheck (.tmp 17)⟩,
    ⟨(some 41), none, .fieldAddr 2 (.tmp 40)⟩,
    ⟨none, none, .store 1 (.tmp 41) (.tmp 39)⟩]

def f47b : ACode := (.seq (.ops f47r0)
  (.keep [0, 1, 2, 6] (.seq (.ops f47r1)
  (.keep [0, 1, 2, 6] (.draw f47r2 [(0, 0, false), (0, 0, false), (0, 0, false), (0, 0, false), (0, 0, false), (0, 0, false), (0, 0, false), (0, 0, false), (0, 0, false), (0, 0, false), (0, 0, false), (0, 0, false), (0, 0, false), (0, 0, false), (0, 0, false), (0, 0, false), (0, 0, false), (0, 0, false), (0, 0, false), (0, 0, false), (0, 0, false), (0, 0, false), (0, 0, false), (0, 0, false), (0, 0, false), (0, 0, true)])))))

def f47 : AFn := ⟨42, [], f47b⟩

theorem f47_ok : compFn Tryd.prog 47 = some f47.strip := by kernel_rfl

/- function 48: weirhouse/bench.head; parameters 2; operations that are not compiled: 0 -/
def f48r0 : List AInstr := [
    ⟨(some 4), none, .mov (.const (.bool false))⟩]

def f48r1 : List AInstr := [
    ⟨(some 10), none, .mov (.tmp 0)⟩,
    ⟨(some 11), none, .callF 58 [.tmp 10, .const (.string ⟨#[32]⟩)]⟩,
    ⟨(some 5), none, .mov (.tmp 11)⟩]

def f48r2 : List AInstr := [
    ⟨(some 12), none, .mov (.tmp 5)⟩,
    ⟨(some 13), none, .len (.tmp 12)⟩,
    ⟨(some 14), none, .ibin .neq (.tmp 13) (.const (.int .i64 4))⟩,
    ⟨(some 15), none, .mov (.tmp 14)⟩,
    ⟨(some 16), (some (15, false)), .mov (.tmp 5)⟩,
    ⟨(some 17), (some (15, false)), .indexAddr 1 (.tmp 16) (.const (.int .i64 0))⟩,
    ⟨(some 18), (some (15, false)), .load none (.tmp 17)⟩,
    ⟨(some 19), (some (15, false)), .str (.cmp true) [.tmp 18, .const (.string ⟨#[114, 97, 116, 101]⟩)]⟩,
    ⟨(some 20), none, .pick (.tmp 15) (.const (.bool true)) (.tmp 19)⟩]

def f48r3 : List AInstr := [
    ⟨(some 4), none, .mov (.const (.bool false))⟩]

def f48r4 : List AInstr := [
    ⟨(some 21), none, .mov (.tmp 1)⟩,
    ⟨(some 22), none, .nilCheck (.tmp 21)⟩,
    ⟨(some 23), none, .fieldAddr 0 (.tmp 22)⟩,
    ⟨(some 24), none, .mov (.tmp 1)⟩,
    ⟨(some 25), none, .nilCheck (.tmp 24)⟩,
    ⟨(some 26), none, .fieldAddr 1 (.tmp 25)⟩,
    ⟨(some 27), none, .mov (.tmp 1)⟩,
    ⟨(some 28), none, .nilCheck (.tmp 27)⟩,
    ⟨(some 29), none, .fieldAddr 2 (.tmp 28)⟩,
    ⟨(some 30), none, .buildSlice 1 3 [.pointer none, .pointer none, .pointer none] [(0, 1, (.tmp 23)), (1, 1, (.tmp 26)), (2, 1, (.tmp 29))]⟩,
    ⟨(some 31), none, .len (.tmp 30)⟩,
    ⟨(some 32), none, .mov (.const (.int .i64 0))⟩]

def f48r5 : List AInstr := [
    ⟨(some 33), none, .ibin .lss (.tmp 32) (.tmp 31)⟩]

def f48r6 : List AInstr := [
    ⟨(some 34), none, .mov (.tmp 32)⟩,
    ⟨(some 35), none, .indexAddr 1 (.tmp 30) (.tmp 32)⟩,
    ⟨(some 36), none, .load none (.tmp 35)⟩,
    ⟨(some 6), none, .mov (.tmp 34)⟩,
    ⟨(some 7), none, .mov (.tmp 36)⟩]

def f48r7 : List AInstr := [
    ⟨(some 38), none, .mov (.tmp 5)⟩,
    ⟨(some 39), none, .mov (.tmp 6)⟩,
    ⟨(some 40), none, .ibin .add (.tmp 39) (.const (.int .i64 1))⟩,
    ⟨(some 41), none, .indexAddr 1 (.tmp 38) (.tmp 40)⟩,
    ⟨(some 42), none, .load none (.tmp 41)⟩,
    ⟨(some 43), none, .callF 59 [.tmp 42]⟩,
    ⟨(some 37), none, .mov (.tmp 43)⟩,
    ⟨(some 44), none, .extract 0 (.tmp 37)⟩,
    ⟨(some 45), none, .extract 1 (.tmp 37)⟩,
    ⟨(some 8), none, .mov (.tmp 44)⟩,
    ⟨(some 9), none, .mov (.tmp 45)⟩]

def f48r8 : List AInstr := [
    ⟨(some 46), none, .mov (.tmp 9)⟩,
    ⟨(some 47), none, .un .not (.tmp 46)⟩]

def f48r9 : List AInstr := [
    ⟨(some 4), none, .mov (.const (.bool false))⟩]

def f48r10 : List AInstr := [
    ⟨(some 48), none, .mov (.tmp 7)⟩,
    ⟨(some 49), none, .mov (.tmp 8)⟩,
    ⟨(some 50), none, .nilCheck (.tmp 48)⟩,
    ⟨none, none, .store 1 (.tmp 50) (.tmp 49)⟩]

def f48r11 : List AInstr := [
    ⟨(some 51), none, .ibin .add (.tmp 32) (.const (.int .i64 1))⟩,
    ⟨(some 32), none, .mov (.tmp 51)⟩]

/-- live: [5, 30, 31, 32] -/
def f48l0 : ACode := (.seq (.ops f48r5)
  (.keep [5, 30, 31, 32, 33] (.seq (.cond (.tmp 33) .skip (.exit 0))
  (.keep [5, 30, 31, 32] (.seq (.block 1 (.seq (.ops f48r6)
  (.keep [5, 6, 7, 30, 31, 32] (.seq (.ops f48r7)
  (.keep [5, 7, 8, 9, 30, 31, 32] (.seq (.seq (.ops f48r8)
  (.keep [5, 7, 8, 30, 31, 32, 47] (.cond (.tmp 47) (.keep [] (.seq (.ops f48r9)
  (.keep [4] .ret))) .skip)))
  (.keep [5, 7, 8, 30, 31, 32] (.ops f48r10))))))))
  (.keep [5, 30, 31, 32] (.ops f48r11)))))))

def f48r13 : List AInstr := [
    ⟨(some 4), none, .mov (.const (.bool true))⟩]

def f48b : ACode := (.seq (.ops f48r0)
  (.keep [0, 1] (.seq (.ops f48r1)
  (.keep [1, 5] (.seq (.seq (.ops f48r2)
  (.keep [1, 5, 20] (.cond (.tmp 20) (.keep [] (.seq (.ops f48r3)
  (.keep [4] .ret))) .skip)))
  (.keep [1, 5] (.seq (.seq (.draw f48r4 [(0, 0, false), (0, 0, false), (0, 0, false), (0, 0, false), (0, 0, false), (0, 0, false), (0, 0, false), (0, 0, false), (0, 0, false), (0, 2, true), (1, 1, false), (0, 1, false)])
  (.keep [5, 30, 31, 32] (.block 0 (.loop f48l0))))
  (.keep [] (.seq (.ops f48r13)
  (.keep [4] .ret))))))))))

def f48 : AFn := ⟨52, [.tmp 4], f48b⟩

theorem f48_ok : compFn Tryd.prog 48 = some f48.strip := by kernel_rfl

/- function 49: weirhouse/bench.line; parameters 2; operations that are not compiled: 0 -/
def f49r0 : List AInstr := [
    ⟨(some 4), none, .mov (.const (.bool false))⟩]

def f49r1 : List AInstr := [
    ⟨(some 13), none, .mov (.tmp 0)⟩,
    ⟨(some 14), none, .callF 50 [.tmp 13, .const (.string ⟨#[32]⟩)]⟩,
    ⟨(some 12), none, .mov (.tmp 14)⟩,
    ⟨(some 15), none, .extract 0 (.tmp 12)⟩,
    ⟨(some 16), none, .extract 1 (.tmp 12)⟩,
    ⟨(some 17), none, .extract 2 (.tmp 12)⟩,
    ⟨(some 5), none, .mov (.tmp 15)⟩,
    ⟨(some 6), none, .mov (.tmp 16)⟩,
    ⟨(some 7), none, .mov (.tmp 17)⟩]

def f49r2 : List AInstr := [
    ⟨(some 19), none, .mov (.tmp 6)⟩,
    ⟨(some 20), none, .callF 59 [.tmp 19]⟩,
    ⟨(some 18), none, .mov (.tmp 20)⟩,
    ⟨(some 21), none, .extract 0 (.tmp 18)⟩,
    ⟨(some 22), none, .extract 1 (.tmp 18)⟩,
    ⟨(some 8), none, .mov (.tmp 21)⟩,
    ⟨(some 9), none, .mov (.tmp 22)⟩]

def f49r3 : List AInstr := [
    ⟨(some 23), none, .callF 60 []⟩,
    ⟨(some 24), none, .len (.tmp 23)⟩,
    ⟨(some 25), none, .mov (.const (.int .i64 0))⟩]

def f49r4 : List AInstr := [
    ⟨(some 26), none, .ibin .lss (.tmp 25) (.tmp 24)⟩]

def f49r5 : List AInstr := [
    ⟨(some 27), none, .mov (.tmp 25)⟩,
    ⟨(some 28), none, .indexAddr 1 (.tmp 23) (.tmp 25)⟩,
    ⟨(some 29), none, .load none (.tmp 28)⟩,
    ⟨(some 10), none, .mov (.tmp 27)⟩,
    ⟨(some 11), none, .mov (.tmp 29)⟩]

def f49r6 : List AInstr := [
    ⟨(some 30), none, .mov (.tmp 9)⟩,
    ⟨(some 31), none, .mov (.tmp 30)⟩,
    ⟨(some 32), (some (31, true)), .mov (.tmp 11)⟩,
    ⟨(some 33), (some (31, true)), .mov (.tmp 5)⟩,
    ⟨(some 34), (some (31, true)), .str (.cmp false) [.tmp 32, .tmp 33]⟩,
    ⟨(some 35), none, .pick (.tmp 31) (.tmp 34) (.const (.bool false))⟩]

def f49r7 : List AInstr := [
    ⟨(some 36), none, .mov (.tmp 1)⟩,
    ⟨(some 37), none, .mov (.tmp 1)⟩,
    ⟨(some 38), none, .nilCheck (.tmp 37)⟩,
    ⟨(some 39), none, .fieldAddr 3 (.tmp 38)⟩,
    ⟨(some 40), none, .load none (.tmp 39)⟩,
    ⟨(some 41), none, .mov (.tmp 10)⟩,
    ⟨(some 42), none, .ibin .add (.const (.int .i64 1)) (.tmp 41)⟩,
    ⟨(some 43), none, .mov (.tmp 8)⟩,
    ⟨(some 44), none, .build [.int .i64 0, .int .i64 0] [(0, 1, (.tmp 42)), (1, 1, (.tmp 43))]⟩,
    ⟨(some 45), none, .buildSlice 2 1 [.int .i64 0, .int .i64 0] [(0, 2, (.tmp 44))]⟩,
    ⟨(some 46), none, .append 2 16 (.tmp 40) (.tmp 45)⟩,
    ⟨(some 47), none, .nilCheck (.tmp 36)⟩,
    ⟨(some 48), none, .fieldAddr 3 (.tmp 47)⟩,
    ⟨none, none, .store 1 (.tmp 48) (.tmp 46)⟩]

def f49r8 : List AInstr := [
    ⟨(some 4), none, .mov (.const (.bool true))⟩]

def f49r9 : List AInstr := [
    ⟨(some 49), none, .ibin .add (.tmp 25) (.const (.int .i64 1))⟩,
    ⟨(some 25), none, .mov (.tmp 49)⟩]

/-- live: [1, 5, 8, 9, 23, 24, 25] -/
def f49l0 : ACode := (.seq (.ops f49r4)
  (.keep [1, 5, 8, 9, 23, 24, 25, 26] (.seq (.cond (.tmp 26) .skip (.exit 0))
  (.keep [1, 5, 8, 9, 23, 24, 25] (.seq (.block 1 (.seq (.ops f49r5)
  (.keep [1, 5, 8, 9, 10, 11, 23, 24, 25] (.seq (.ops f49r6)
  (.keep [1, 5, 8, 9, 10, 23, 24, 25, 35] (.cond (.tmp 35) (.keep [1, 8, 10] (.seq (.ops f49r7)
  (.keep [] (.seq (.ops f49r8)
  (.keep [4] .ret))))) .skip))))))
  (.keep [1, 5, 8, 9, 23, 24, 25] (.ops f49r9)))))))

def f49r11 : List AInstr := [
    ⟨(some 4), none, .mov (.const (.bool false))⟩]

def f49b : ACode := (.seq (.ops f49r0)
  (.keep [0, 1] (.seq (.ops f49r1)
  (.keep [1, 5, 6] (.seq (.ops f49r2)
  (.keep [1, 5, 8, 9] (.seq (.seq (.ops f49r3)
  (.keep [1, 5, 8, 9, 23, 24, 25] (.block 0 (.loop f49l0))))
  (.keep [] (.seq (.ops f49r11)
  (.keep [4] .ret))))))))))

def f49 : AFn := ⟨50, [.tmp 4], f49b⟩

theorem f49_ok : compFn Tryd.prog 49 = some f49.strip := by kernel_rfl

/- function 52: weirhouse/ring.Step$1; parameters 1; operations that are not compiled: 0 -/
def f52r0 : List AInstr := [
    ⟨(some 2), none, .alloc [.slice none 0 0, .int .i64 0, .int .i64 0, .int .i64 0]⟩,
    ⟨(some 3), none, .mov (.const (.int .i64 0))⟩,
    ⟨(some 4), none, .mov (.const (.int .i64 0))⟩]

def f52r1 : List AInstr := [
    ⟨(some 5), none, .build [.slice none 0 0, .int .i64 0, .int .i64 0, .int .i64 0] []⟩,
    ⟨(some 6), none, .mov (.tmp 0)⟩,
    ⟨none, none, .store 4 (.tmp 2) (.tmp 5)⟩,
    ⟨(some 3), none, .mov (.const (.int .i64 0))⟩,
    ⟨(some 4), none, .mov (.tmp 6)⟩]

def f52b : ACode := (.seq (.ops f52r0)
  (.keep [0, 2] (.seq (.ops f52r1)
  (.keep [2, 3, 4] .ret))))

def f52 : AFn := ⟨7, [.cell 2 (some 4), .tmp 3, .tmp 4], f52b⟩

theorem f52_ok : compFn Tryd.prog 52 = some f52.strip := by kernel_rfl

/- function 53: weirhouse/ring.Right; parameters 1; operations that are not compiled: 0 -/
def f53r0 : List AInstr := [
    ⟨(some 1), none, .box (.tmp 0)⟩,
    ⟨(some 2), none, .mov (.const (.bool false))⟩]

def f53r1 : List AInstr := [
    ⟨(some 5), none, .fieldAddr 1 (.tmp 1)⟩,
    ⟨(some 6), none, .load none (.tmp 5)⟩,
    ⟨(some 7), none, .ibin .lss (.tmp 6) (.const (.int .i64 0))⟩,
    ⟨(some 8), none, .mov (.tmp 7)⟩,
    ⟨(some 9), (some (8, false)), .fieldAddr 1 (.tmp 1)⟩,
    ⟨(some 10), (some (8, false)), .load none (.tmp 9)⟩,
    ⟨(some 11), (some (8, false)), .ibin .gtr (.tmp 10) (.const (.int .i64 400))⟩,
    ⟨(some 12), none, .pick (.tmp 8) (.const (.bool true)) (.tmp 11)⟩,
    ⟨(some 13), none, .mov (.tmp 12)⟩,
    ⟨(some 14), (some (13, false)), .fieldAddr 2 (.tmp 1)⟩,
    ⟨(some 15), (some (13, false)), .load none (.tmp 14)⟩,
    ⟨(some 16), (some (13, false)), .ibin .lss (.tmp 15) (.const (.int .i64 0))⟩,
    ⟨(some 17), none, .pick (.tmp 13) (.const (.bool true)) (.tmp 16)⟩,
    ⟨(some 18), none, .mov (.tmp 17)⟩,
    ⟨(some 19), (some (18, false)), .fieldAddr 2 (.tmp 1)⟩,
    ⟨(some 20), (some (18, false)), .load none (.tmp 19)⟩,
    ⟨(some 21), (some (18, false)), .ibin .gtr (.tmp 20) (.const (.int .i64 1073741824))⟩,
    ⟨(some 22), none, .pick (.tmp 18) (.const (.bool true)) (.tmp 21)⟩,
    ⟨(some 23), none, .mov (.tmp 22)⟩,
    ⟨(some 24), (some (23, false)), .fieldAddr 3 (.tmp 1)⟩,
    ⟨(some 25), (some (23, false)), .load none (.tmp 24)⟩,
    ⟨(some 26), (some (23, false)), .ibin .lss (.tmp 25) (.const (.int .i64 0))⟩,
    ⟨(some 27), none, .pick (.tmp 23) (.const (.bool true)) (.tmp 26)⟩,
    ⟨(some 28), none, .mov (.tmp 27)⟩,
    ⟨(some 29), (some (28, false)), .fieldAddr 3 (.tmp 1)⟩,
    ⟨(some 30), (some (28, false)), .load none (.tmp 29)⟩,
    ⟨(some 31), (some (28, false)), .ibin .gtr (.tmp 30) (.const (.int .i64 1099511627776))⟩,
    ⟨(some 32), none, .pick (.tmp 28) (.const (.bool true)) (.tmp 31)⟩,
    ⟨(some 33), none, .mov (.tmp 32)⟩,
    ⟨(some 34), (some (33, false)), .fieldAddr 0 (.tmp 1)⟩,
    ⟨(some 35), (some (33, false)), .load none (.tmp 34)⟩,
    ⟨(some 36), (some (33, false)), .len (.tmp 35)⟩,
    ⟨(some 37), (some (33, false)), .fieldAddr 1 (.tmp 1)⟩,
    ⟨(some 38), (some (33, false)), .load none (.tmp 37)⟩,
    ⟨(some 39), (some (33, false)), .ibin .gtr (.tmp 36) (.tmp 38)⟩,
    ⟨(some 40), none, .pick (.tmp 33) (.const (.bool true)) (.tmp 39)⟩]

def f53r2 : List AInstr := [
    ⟨(some 2), none, .mov (.const (.bool false))⟩]

def f53r3 : List AInstr := [
    ⟨(some 41), none, .fieldAddr 0 (.tmp 1)⟩,
    ⟨(some 42), none, .load none (.tmp 41)⟩,
    ⟨(some 43), none, .len (.tmp 42)⟩,
    ⟨(some 44), none, .mov (.const (.int .i64 0))⟩]

def f53r4 : List AInstr := [
    ⟨(some 45), none, .ibin .lss (.tmp 44) (.tmp 43)⟩]

def f53r5 : List AInstr := [
    ⟨(some 46), none, .indexAddr 1 (.tmp 42) (.tmp 44)⟩,
    ⟨(some 47), none, .load none (.tmp 46)⟩,
    ⟨(some 4), none, .mov (.tmp 47)⟩]

def f53r6 : List AInstr := [
    ⟨(some 48), none, .mov (.tmp 4)⟩,
    ⟨(some 49), none, .ibin .lss (.tmp 48) (.const (.int .i64 1))⟩,
    ⟨(some 50), none, .mov (.tmp 49)⟩,
    ⟨(some 51), (some (50, false)), .mov (.tmp 4)⟩,
    ⟨(some 52), (some (50, false)), .ibin .gtr (.tmp 51) (.const (.int .i64 1500))⟩,
    ⟨(some 53), none, .pick (.tmp 50) (.const (.bool true)) (.tmp 52)⟩]

def f53r7 : List AInstr := [
    ⟨(some 2), none, .mov (.const (.bool false))⟩]

def f53r8 : List AInstr := [
    ⟨(some 54), none, .ibin .add (.tmp 44) (.const (.int .i64 1))⟩,
    ⟨(some 44), none, .mov (.tmp 54)⟩]

/-- live: [1, 42, 43, 44] -/
def f53l0 : ACode := (.seq (.ops f53r4)
  (.keep [1, 42, 43, 44, 45] (.seq (.cond (.tmp 45) .skip (.exit 0))
  (.keep [1, 42, 43, 44] (.seq (.block 1 (.seq (.ops f53r5)
  (.keep [1, 4, 42, 43, 44] (.seq (.ops f53r6)
  (.keep [1, 42, 43, 44, 53] (.cond (.tmp 53) (.keep [] (.seq (.ops f53r7)
  (.keep [2] .ret))) .skip))))))
  (.keep [1, 42, 43, 44] (.ops f53r8)))))))

def f53r10 : List AInstr := [
    ⟨(some 55), none, .fieldAddr 0 (.tmp 1)⟩,
    ⟨(some 56), none, .load none (.tmp 55)⟩,
    ⟨(some 58), none, .fieldAddr 2 (.tmp 1)⟩,
    ⟨(some 59), none, .load none (.tmp 58)⟩,
    ⟨(some 57), none, .callF 54 [.tmp 56]⟩,
    ⟨(some 60), none, .ibin .leq (.tmp 57) (.tmp 59)⟩,
    ⟨(some 2), none, .mov (.tmp 60)⟩]

def f53b : ACode := (.seq (.ops f53r0)
  (.keep [1] (.seq (.seq (.ops f53r1)
  (.keep [1, 40] (.cond (.tmp 40) (.keep [] (.seq (.ops f53r2)
  (.keep [2] .ret))) .skip)))
  (.keep [1] (.seq (.seq (.ops f53r3)
  (.keep [1, 42, 43, 44] (.block 0 (.loop f53l0))))
  (.keep [1] (.seq (.alt [(f53r10, [(0, 0, false), (0, 0, false), (0, 1, false), (0, 1, false), (0, 0, true), (1, 1, false), (1, 1, false)])])
  (.keep [2] .ret))))))))

def f53 : AFn := ⟨61, [.tmp 2], f53b⟩

theorem f53_ok : compFn Tryd.prog 53 = some f53.strip := by kernel_rfl

/- function 54: weirhouse/ring.sum; parameters 1; operations that are not compiled: 0 -/
def f54r0 : List AInstr := [
    ⟨(some 2), none, .mov (.const (.int .i64 0))⟩]

def f54r1 : List AInstr := [
    ⟨(some 3), none, .mov (.const (.int .i64 0))⟩]

def f54r2 : List AInstr := [
    ⟨(some 6), none, .mov (.tmp 0)⟩,
    ⟨(some 7), none, .len (.tmp 6)⟩,
    ⟨(some 8), none, .mov (.const (.int .i64 0))⟩]

def f54r3 : List AInstr := [
    ⟨(some 9), none, .ibin .lss (.tmp 8) (.tmp 7)⟩]

def f54r4 : List AInstr := [
    ⟨(some 10), none, .indexAddr 1 (.tmp 6) (.tmp 8)⟩,
    ⟨(some 11), none, .load none (.tmp 10)⟩,
    ⟨(some 5), none, .mov (.tmp 11)⟩]

def f54r5 : List AInstr := [
    ⟨(some 12), none, .mov (.tmp 3)⟩,
    ⟨(some 13), none, .mov (.tmp 5)⟩,
    ⟨(some 14), none, .ibin .add (.tmp 12) (.tmp 13)⟩,
    ⟨(some 3), none, .mov (.tmp 14)⟩]

def f54r6 : List AInstr := [
    ⟨(some 15), none, .ibin .add (.tmp 8) (.const (.int .i64 1))⟩,
    ⟨(some 8), none, .mov (.tmp 15)⟩]

/-- live: [3, 6, 7, 8] -/
def f54l0 : ACode := (.seq (.ops f54r3)
  (.keep [3, 6, 7, 8, 9] (.seq (.cond (.tmp 9) .skip (.exit 0))
  (.keep [3, 6, 7, 8] (.seq (.block 1 (.seq (.ops f54r4)
  (.keep [3, 5, 6, 7, 8] (.ops f54r5))))
  (.keep [3, 6, 7, 8] (.ops f54r6)))))))

def f54r8 : List AInstr := [
    ⟨(some 16), none, .mov (.tmp 3)⟩,
    ⟨(some 2), none, .mov (.tmp 16)⟩]

def f54b : ACode := (.seq (.ops f54r0)
  (.keep [0] (.seq (.ops f54r1)
  (.keep [0, 3] (.seq (.seq (.ops f54r2)
  (.keep [3, 6, 7, 8] (.block 0 (.loop f54l0))))
  (.keep [3] (.seq (.ops f54r8)
  (.keep [2] .ret))))))))

def f54 : AFn := ⟨17, [.tmp 2], f54b⟩

theorem f54_ok : compFn Tryd.prog 54 = some f54.strip := by kernel_rfl

/- function 55: weirhouse/bucket.Take; parameters 2; operations that are not compiled: 0 -/
def f55r0 : List AInstr := [
    ⟨(some 2), none, .box (.tmp 0)⟩,
    ⟨(some 3), none, .box (.tmp 1)⟩,
    ⟨(some 4), none, .alloc [.int .i64 0, .int .i64 0, .int .i64 0, .int .i64 0, .int .i64 0]⟩,
    ⟨(some 5), none, .mov (.const (.bool false))⟩,
    ⟨(some 6), none, .mov (.const (.int .i64 0))⟩]

def f55r1 : List AInstr := [
    ⟨(some 9), none, .load (some 5) (.tmp 2)⟩,
    ⟨(some 10), none, .fieldAddr 0 (.tmp 3)⟩,
    ⟨(some 11), none, .load none (.tmp 10)⟩,
    ⟨(some 12), none, .callF 42 [.tmp 9, .tmp 11]⟩,
    ⟨(some 8), none, .mov (.tmp 12)⟩,
    ⟨(some 13), none, .extract 0 (.tmp 8)⟩,
    ⟨(some 14), none, .extract 1 (.tmp 8)⟩,
    ⟨none, none, .store 5 (.tmp 2) (.tmp 13)⟩,
    ⟨(some 7), none, .mov (.tmp 14)⟩]

def f55r2 : List AInstr := [
    ⟨(some 16), none, .mov (.tmp 7)⟩,
    ⟨(some 17), none, .ibin .neq (.tmp 16) (.const (.int .i64 0))⟩,
    ⟨(some 15), none, .mov (.tmp 17)⟩]

def f55r3 : List AInstr := [
    ⟨(some 18), none, .build [.int .i64 0, .int .i64 0, .int .i64 0, .int .i64 0, .int .i64 0] []⟩,
    ⟨(some 19), none, .mov (.tmp 7)⟩,
    ⟨none, none, .store 5 (.tmp 4) (.tmp 18)⟩,
    ⟨(some 5), none, .mov (.const (.bool false))⟩,
    ⟨(some 6), none, .mov (.tmp 19)⟩]

def f55r4 : List AInstr := [
    ⟨(some 21), none, .fieldAddr 1 (.tmp 3)⟩,
    ⟨(some 22), none, .load none (.tmp 21)⟩,
    ⟨(some 23), none, .ibin .lss (.tmp 22) (.const (.int .i64 0))⟩,
    ⟨(some 24), none, .mov (.tmp 23)⟩,
    ⟨(some 25), (some (24, false)), .fieldAddr 1 (.tmp 3)⟩,
    ⟨(some 26), (some (24, false)), .load none (.tmp 25)⟩,
    ⟨(some 27), (some (24, false)), .ibin .gtr (.tmp 26) (.const (.int .i64 1048576))⟩,
    ⟨(some 28), none, .pick (.tmp 24) (.const (.bool true)) (.tmp 27)⟩,
    ⟨(some 20), none, .mov (.tmp 28)⟩]

def f55r5 : List AInstr := [
    ⟨(some 29), none, .build [.int .i64 0, .int .i64 0, .int .i64 0, .int .i64 0, .int .i64 0] []⟩,
    ⟨none, none, .store 5 (.tmp 4) (.tmp 29)⟩,
    ⟨(some 5), none, .mov (.const (.bool false))⟩,
    ⟨(some 6), none, .mov (.const (.int .i64 2))⟩]

def f55r6 : List AInstr := [
    ⟨(some 31), none, .fieldAddr 1 (.tmp 3)⟩,
    ⟨(some 32), none, .load none (.tmp 31)⟩,
    ⟨(some 33), none, .fieldAddr 1 (.tmp 2)⟩,
    ⟨(some 34), none, .load none (.tmp 33)⟩,
    ⟨(some 35), none, .ibin .mul (.tmp 32) (.tmp 34)⟩,
    ⟨(some 36), none, .fieldAddr 3 (.tmp 2)⟩,
    ⟨(some 37), none, .load none (.tmp 36)⟩,
    ⟨(some 38), none, .ibin .gtr (.tmp 35) (.tmp 37)⟩,
    ⟨(some 30), none, .mov (.tmp 38)⟩]

def f55r7 : List AInstr := [
    ⟨(some 39), none, .load (some 5) (.tmp 2)⟩,
    ⟨none, none, .store 5 (.tmp 4) (.tmp 39)⟩,
    ⟨(some 5), none, .mov (.const (.bool false))⟩,
    ⟨(some 6), none, .mov (.const (.int .i64 0))⟩]

def f55r8 : List AInstr := [
    ⟨(some 40), none, .fieldAddr 3 (.tmp 2)⟩,
    ⟨(some 41), none, .load none (.tmp 40)⟩,
    ⟨(some 42), none, .fieldAddr 1 (.tmp 3)⟩,
    ⟨(some 43), none, .load none (.tmp 42)⟩,
    ⟨(some 44), none, .fieldAddr 1 (.tmp 2)⟩,
    ⟨(some 45), none, .load none (.tmp 44)⟩,
    ⟨(some 46), none, .ibin .mul (.tmp 43) (.tmp 45)⟩,
    ⟨(some 47), none, .ibin .sub (.tmp 41) (.tmp 46)⟩,
    ⟨(some 48), none, .fieldAddr 3 (.tmp 2)⟩,
    ⟨none, none, .store 1 (.tmp 48) (.tmp 47)⟩]

def f55r9 : List AInstr := [
    ⟨(some 49), none, .load (some 5) (.tmp 2)⟩,
    ⟨none, none, .store 5 (.tmp 4) (.tmp 49)⟩,
    ⟨(some 5), none, .mov (.const (.bool true))⟩,
    ⟨(some 6), none, .mov (.const (.int .i64 0))⟩]

def f55b : ACode := (.seq (.ops f55r0)
  (.keep [2, 3, 4] (.seq (.ops f55r1)
  (.keep [2, 3, 4, 7] (.seq (.block 0 (.seq (.ops f55r2)
  (.keep [2, 3, 4, 7, 15] (.cond (.tmp 15) (.keep [4, 7] (.seq (.ops f55r3)
  (.keep [4, 5, 6] .ret))) (.keep [2, 3, 4] (.seq (.ops f55r4)
  (.keep [2, 3, 4, 20] (.cond (.tmp 20) (.keep [4] (.seq (.ops f55r5)
  (.keep [4, 5, 6] .ret))) (.keep [2, 3, 4] (.seq (.ops f55r6)
  (.keep [2, 3, 4, 30] (.cond (.tmp 30) (.keep [2, 4] (.seq (.ops f55r7)
  (.keep [4, 5, 6] .ret))) .skip))))))))))))
  (.keep [2, 3, 4] (.seq (.ops f55r8)
  (.keep [2, 4] (.seq (.ops f55r9)
  (.keep [4, 5, 6] .ret))))))))))

def f55 : AFn := ⟨50, [.cell 4 (some 5), .tmp 5, .tmp 6], f55b⟩

theorem f55_ok : compFn Tryd.prog 55 = some f55.strip := by kernel_rfl

/- function 56: slices.insertionSortCmpFunc[int]; parameters 4; operations that are not compiled: 0 -/
def f56r0 : List AInstr := [
    ⟨(some 10), none, .mov (.tmp 1)⟩,
    ⟨(some 11), none, .ibin .add (.tmp 10) (.const (.int .i64 1))⟩,
    ⟨(some 8), none, .mov (.tmp 11)⟩]

def f56r1 : List AInstr := [
    ⟨(some 12), none, .mov (.tmp 8)⟩,
    ⟨(some 13), none, .mov (.tmp 2)⟩,
    ⟨(some 14), none, .ibin .lss (.tmp 12) (.tmp 13)⟩]

def f56r2 : List AInstr := [
    ⟨(some 17), none, .mov (.tmp 8)⟩,
    ⟨(some 9), none, .mov (.tmp 17)⟩]

def f56r3 : List AInstr := [
    ⟨(some 18), none, .mov (.tmp 9)⟩,
    ⟨(some 19), none, .mov (.tmp 1)⟩,
    ⟨(some 20), none, .ibin .gtr (.tmp 18) (.tmp 19)⟩,
    ⟨(some 21), none, .mov (.tmp 20)⟩,
    ⟨(some 22), (some (21, true)), .mov (.tmp 3)⟩,
    ⟨(some 23), (some (21, true)), .mov (.tmp 0)⟩,
    ⟨(some 24), (some (21, true)), .mov (.tmp 9)⟩,
    ⟨(some 25), (some (21, true)), .indexAddr 1 (.tmp 23) (.tmp 24)⟩,
    ⟨(some 26), (some (21, true)), .load none (.tmp 25)⟩,
    ⟨(some 27), (some (21, true)), .mov (.tmp 0)⟩,
    ⟨(some 28), (some (21, true)), .mov (.tmp 9)⟩,
    ⟨(some 29), (some (21, true)), .ibin .sub (.tmp 28) (.const (.int .i64 1))⟩,
    ⟨(some 30), (some (21, true)), .indexAddr 1 (.tmp 27) (.tmp 29)⟩,
    ⟨(some 31), (some (21, true)), .load none (.tmp 30)⟩,
    ⟨(some 32), (some (21, true)), .callV (.tmp 22) [.tmp 26, .tmp 31]⟩,
    ⟨(some 33), (some (21, true)), .ibin .lss (.tmp 32) (.const (.int .i64 0))⟩,
    ⟨(some 34), none, .pick (.tmp 21) (.tmp 33) (.const (.bool false))⟩]

def f56r4 : List AInstr := [
    ⟨(some 37), none, .mov (.tmp 0)⟩,
    ⟨(some 38), none, .mov (.tmp 9)⟩,
    ⟨(some 39), none, .mov (.tmp 0)⟩,
    ⟨(some 40), none, .mov (.tmp 9)⟩,
    ⟨(some 41), none, .ibin .sub (.tmp 40) (.const (.int .i64 1))⟩,
    ⟨(some 42), none, .mov (.tmp 0)⟩,
    ⟨(some 43), none, .mov (.tmp 9)⟩,
    ⟨(some 44), none, .ibin .sub (.tmp 43) (.const (.int .i64 1))⟩,
    ⟨(some 45), none, .indexAddr 1 (.tmp 42) (.tmp 44)⟩,
    ⟨(some 46), none, .load none (.tmp 45)⟩,
    ⟨(some 47), none, .mov (.tmp 0)⟩,
    ⟨(some 48), none, .mov (.tmp 9)⟩,
    ⟨(some 49), none, .indexAddr 1 (.tmp 47) (.tmp 48)⟩,
    ⟨(some 50), none, .load none (.tmp 49)⟩,
    ⟨(some 51), none, .indexAddr 1 (.tmp 37) (.tmp 38)⟩,
    ⟨none, none, .store 1 (.tmp 51) (.tmp 46)⟩,
    ⟨(some 52), none, .indexAddr 1 (.tmp 39) (.tmp 41)⟩,
    ⟨none, none, .store 1 (.tmp 52) (.tmp 50)⟩]

def f56r5 : List AInstr := [
    ⟨(some 35), none, .mov (.tmp 9)⟩,
    ⟨(some 36), none, .ibin .sub (.tmp 35) (.const (.int .i64 1))⟩,
    ⟨(some 9), none, .mov (.tmp 36)⟩]

/-- live: [0, 1, 2, 3, 8, 9] -/
def f56l0 : ACode := (.seq (.seq (.draw f56r3 [(0, 0, false), (0, 0, false), (0, 0, false), (0, 0, false), (0, 0, false), (0, 0, false), (0, 0, false), (0, 0, false), (0, 0, false), (0, 0, false), (0, 0, false), (0, 0, false), (0, 0, false), (0, 0, false), (0, 0, true), (1, 1, false), (1, 1, false)])
  (.keep [0, 1, 2, 3, 8, 9, 34] (.cond (.tmp 34) .skip (.exit 2))))
  (.keep [0, 1, 2, 3, 8, 9] (.seq (.block 3 (.draw f56r4 [(0, 0, false), (0, 0, false), (0, 1, false), (0, 1, false), (0, 1, false), (0, 0, false), (0, 0, false), (0, 0, false), (0, 0, false), (0, 0, false), (0, 0, false), (0, 0, false), (0, 0, false), (0, 0, false), (0, 0, false), (0, 0, true), (1, 1, false), (1, 0, true)]))
  (.keep [0, 1, 2, 3, 8, 9] (.ops f56r5)))))

def f56r7 : List AInstr := [
    ⟨(some 15), none, .mov (.tmp 8)⟩,
    ⟨(some 16), none, .ibin .add (.tmp 15) (.const (.int .i64 1))⟩,
    ⟨(some 8), none, .mov (.tmp 16)⟩]

/-- live: [0, 1, 2, 3, 8] -/
def f56l1 : ACode := (.seq (.seq (.ops f56r1)
  (.keep [0, 1, 2, 3, 8, 14] (.cond (.tmp 14) .skip (.exit 0))))
  (.keep [0, 1, 2, 3, 8] (.seq (.block 1 (.seq (.ops f56r2)
  (.keep [0, 1, 2, 3, 8, 9] (.block 2 (.loop f56l0)))))
  (.keep [0, 1, 2, 3, 8] (.ops f56r7)))))

def f56b : ACode := (.seq (.ops f56r0)
  (.keep [0, 1, 2, 3, 8] (.block 0 (.loop f56l1))))

def f56 : AFn := ⟨53, [], f56b⟩

theorem f56_ok : compFn Tryd.prog 56 = some f56.strip := by kernel_rfl

/- function 57: slices.symMergeCmpFunc[int]; parameters 5; operations that are not compiled: 0 -/
def f57r0 : List AInstr := [
    ⟨(some 25), none, .mov (.tmp 2)⟩,
    ⟨(some 26), none, .mov (.tmp 1)⟩,
    ⟨(some 27), none, .ibin .sub (.tmp 25) (.tmp 26)⟩,
    ⟨(some 28), none, .ibin .eql (.tmp 27) (.const (.int .i64 1))⟩]

def f57r1 : List AInstr := [
    ⟨(some 29), none, .mov (.tmp 2)⟩,
    ⟨(some 10), none, .mov (.tmp 29)⟩]

def f57r2 : List AInstr := [
    ⟨(some 30), none, .mov (.tmp 3)⟩,
    ⟨(some 11), none, .mov (.tmp 30)⟩]

def f57r3 : List AInstr := [
    ⟨(some 31), none, .mov (.tmp 10)⟩,
    ⟨(some 32), none, .mov (.tmp 11)⟩,
    ⟨(some 33), none, .ibin .lss (.tmp 31) (.tmp 32)⟩]

def f57r4 : List AInstr := [
    ⟨(some 34), none, .mov (.tmp 10)⟩,
    ⟨(some 35), none, .mov (.tmp 11)⟩,
    ⟨(some 36), none, .ibin .add (.tmp 34) (.tmp 35)⟩,
    ⟨(some 37), none, .conv .u64 (.tmp 36)⟩,
    ⟨(some 38), none, .ibin .shr (.tmp 37) (.const (.int .u64 1))⟩,
    ⟨(some 39), none, .conv .i64 (.tmp 38)⟩,
    ⟨(some 12), none, .mov (.tmp 39)⟩]

def f57r5 : List AInstr := [
    ⟨(some 40), none, .mov (.tmp 4)⟩,
    ⟨(some 41), none, .mov (.tmp 0)⟩,
    ⟨(some 42), none, .mov (.tmp 12)⟩,
    ⟨(some 43), none, .indexAddr 1 (.tmp 41) (.tmp 42)⟩,
    ⟨(some 44), none, .load none (.tmp 43)⟩,
    ⟨(some 45), none, .mov (.tmp 0)⟩,
    ⟨(some 46), none, .mov (.tmp 1)⟩,
    ⟨(some 47), none, .indexAddr 1 (.tmp 45) (.tmp 46)⟩,
    ⟨(some 48), none, .load none (.tmp 47)⟩,
    ⟨(some 49), none, .callV (.tmp 40) [.tmp 44, .tmp 48]⟩,
    ⟨(some 50), none, .ibin .lss (.tmp 49) (.const (.int .i64 0))⟩]

def f57r6 : List AInstr := [
    ⟨(some 51), none, .mov (.tmp 12)⟩,
    ⟨(some 52), none, .ibin .add (.tmp 51) (.const (.int .i64 1))⟩,
    ⟨(some 10), none, .mov (.tmp 52)⟩]

def f57r7 : List AInstr := [
    ⟨(some 53), none, .mov (.tmp 12)⟩,
    ⟨(some 11), none, .mov (.tmp 53)⟩]

/-- live: [0, 1, 4, 10, 11] -/
def f57l0 : ACode := (.seq (.seq (.ops f57r3)
  (.keep [0, 1, 4, 10, 11, 33] (.cond (.tmp 33) .skip (.exit 0))))
  (.keep [0, 1, 4, 10, 11] (.block 1 (.seq (.ops f57r4)
  (.keep [0, 1, 4, 10, 11, 12] (.seq (.draw f57r5 [(0, 0, false), (0, 0, false), (0, 0, false), (0, 0, false), (0, 0, false), (0, 0, false), (0, 0, false), (0, 0, false), (0, 0, false), (0, 0, true), (1, 1, false)])
  (.keep [0, 1, 4, 10, 11, 12, 50] (.cond (.tmp 50) (.keep [0, 1, 4, 11, 12] (.ops f57r6)) (.keep [0, 1, 4, 10, 12] (.ops f57r7))))))))))

def f57r9 : List AInstr := [
    ⟨(some 54), none, .mov (.tmp 1)⟩,
    ⟨(some 13), none, .mov (.tmp 54)⟩]

def f57r10 : List AInstr := [
    ⟨(some 55), none, .mov (.tmp 13)⟩,
    ⟨(some 56), none, .mov (.tmp 10)⟩,
    ⟨(some 57), none, .ibin .sub (.tmp 56) (.const (.int .i64 1))⟩,
    ⟨(some 58), none, .ibin .lss (.tmp 55) (.tmp 57)⟩]

def f57r11 : List AInstr := [
    ⟨(some 61), none, .mov (.tmp 0)⟩,
    ⟨(some 62), none, .mov (.tmp 13)⟩,
    ⟨(some 63), none, .mov (.tmp 0)⟩,
    ⟨(some 64), none, .mov (.tmp 13)⟩,
    ⟨(some 65), none, .ibin .add (.tmp 64) (.const (.int .i64 1))⟩,
    ⟨(some 66), none, .mov (.tmp 0)⟩,
    ⟨(some 67), none, .mov (.tmp 13)⟩,
    ⟨(some 68), none, .ibin .add (.tmp 67) (.const (.int .i64 1))⟩,
    ⟨(some 69), none, .indexAddr 1 (.tmp 66) (.tmp 68)⟩,
    ⟨(some 70), none, .load none (.tmp 69)⟩,
    ⟨(some 71), none, .mov (.tmp 0)⟩,
    ⟨(some 72), none, .mov (.tmp 13)⟩,
    ⟨(some 73), none, .indexAddr 1 (.tmp 71) (.tmp 72)⟩,
    ⟨(some 74), none, .load none (.tmp 73)⟩,
    ⟨(some 75), none, .indexAddr 1 (.tmp 61) (.tmp 62)⟩,
    ⟨none, none, .store 1 (.tmp 75) (.tmp 70)⟩,
    ⟨(some 76), none, .indexAddr 1 (.tmp 63) (.tmp 65)⟩,
    ⟨none, none, .store 1 (.tmp 76) (.tmp 74)⟩]

def f57r12 : List AInstr := [
    ⟨(some 59), none, .mov (.tmp 13)⟩,
    ⟨(some 60), none, .ibin .add (.tmp 59) (.const (.int .i64 1))⟩,
    ⟨(some 13), none, .mov (.tmp 60)⟩]

/-- live: [0, 10, 13] -/
def f57l1 : ACode := (.seq (.seq (.ops f57r10)
  (.keep [0, 10, 13, 58] (.cond (.tmp 58) .skip (.exit 2))))
  (.keep [0, 10, 13] (.seq (.block 3 (.draw f57r11 [(0, 0, false), (0, 0, false), (0, 1, false), (0, 1, false), (0, 1, false), (0, 0, false), (0, 0, false), (0, 0, false), (0, 0, false), (0, 0, false), (0, 0, false), (0, 0, false), (0, 0, false), (0, 0, false), (0, 0, false), (0, 0, true), (1, 1, false), (1, 0, true)]))
  (.keep [0, 10, 13] (.ops f57r12)))))

def f57r14 : List AInstr := [
    ⟨(some 77), none, .mov (.tmp 3)⟩,
    ⟨(some 78), none, .mov (.tmp 2)⟩,
    ⟨(some 79), none, .ibin .sub (.tmp 77) (.tmp 78)⟩,
    ⟨(some 80), none, .ibin .eql (.tmp 79) (.const (.int .i64 1))⟩]

def f57r15 : List AInstr := [
    ⟨(some 81), none, .mov (.tmp 1)⟩,
    ⟨(some 14), none, .mov (.tmp 81)⟩]

def f57r16 : List AInstr := [
    ⟨(some 82), none, .mov (.tmp 2)⟩,
    ⟨(some 15), none, .mov (.tmp 82)⟩]

def f57r17 : List AInstr := [
    ⟨(some 83), none, .mov (.tmp 14)⟩,
    ⟨(some 84), none, .mov (.tmp 15)⟩,
    ⟨(some 85), none, .ibin .lss (.tmp 83) (.tmp 84)⟩]

def f57r18 : List AInstr := [
    ⟨(some 86), none, .mov (.tmp 14)⟩,
    ⟨(some 87), none, .mov (.tmp 15)⟩,
    ⟨(some 88), none, .ibin .add (.tmp 86) (.tmp 87)⟩,
    ⟨(some 89), none, .conv .u64 (.tmp 88)⟩,
    ⟨(some 90), none, .ibin .shr (.tmp 89) (.const (.int .u64 1))⟩,
    ⟨(some 91), none, .conv .i64 (.tmp 90)⟩,
    ⟨(some 16), none, .mov (.tmp 91)⟩]

def f57r19 : List AInstr := [
    ⟨(some 92), none, .mov (.tmp 4)⟩,
    ⟨(some 93), none, .mov (.tmp 0)⟩,
    ⟨(some 94), none, .mov (.tmp 2)⟩,
    ⟨(some 95), none, .indexAddr 1 (.tmp 93) (.tmp 94)⟩,
    ⟨(some 96), none, .load none (.tmp 95)⟩,
    ⟨(some 97), none, .mov (.tmp 0)⟩,
    ⟨(some 98), none, .mov (.tmp 16)⟩,
    ⟨(some 99), none, .indexAddr 1 (.tmp 97) (.tmp 98)⟩,
    ⟨(some 100), none, .load none (.tmp 99)⟩,
    ⟨(some 101), none, .callV (.tmp 92) [.tmp 96, .tmp 100]⟩,
    ⟨(some 102), none, .ibin .lss (.tmp 101) (.const (.int .i64 0))⟩,
    ⟨(some 103), none, .un .not (.tmp 102)⟩]

def f57r20 : List AInstr := [
    ⟨(some 104), none, .mov (.tmp 16)⟩,
    ⟨(some 105), none, .ibin .add (.tmp 104) (.const (.int .i64 1))⟩,
    ⟨(some 14), none, .mov (.tmp 105)⟩]

def f57r21 : List AInstr := [
    ⟨(some 106), none, .mov (.tmp 16)⟩,
    ⟨(some 15), none, .mov (.tmp 106)⟩]

/-- live: [0, 2, 4, 14, 15] -/
def f57l2 : ACode := (.seq (.seq (.ops f57r17)
  (.keep [0, 2, 4, 14, 15, 85] (.cond (.tmp 85) .skip (.exit 4))))
  (.keep [0, 2, 4, 14, 15] (.block 5 (.seq (.ops f57r18)
  (.keep [0, 2, 4, 14, 15, 16] (.seq (.draw f57r19 [(0, 0, false), (0, 0, false), (0, 0, false), (0, 0, false), (0, 0, false), (0, 0, false), (0, 0, false), (0, 0, false), (0, 0, false), (0, 0, true), (1, 1, false), (1, 1, false)])
  (.keep [0, 2, 4, 14, 15, 16, 103] (.cond (.tmp 103) (.keep [0, 2, 4, 15, 16] (.ops f57r20)) (.keep [0, 2, 4, 14, 16] (.ops f57r21))))))))))

def f57r23 : List AInstr := [
    ⟨(some 107), none, .mov (.tmp 2)⟩,
    ⟨(some 17), none, .mov (.tmp 107)⟩]

def f57r24 : List AInstr := [
    ⟨(some 108), none, .mov (.tmp 17)⟩,
    ⟨(some 109), none, .mov (.tmp 14)⟩,
    ⟨(some 110), none, .ibin .gtr (.tmp 108) (.tmp 109)⟩]

def f57r25 : List AInstr := [
    ⟨(some 113), none, .mov (.tmp 0)⟩,
    ⟨(some 114), none, .mov (.tmp 17)⟩,
    ⟨(some 115), none, .mov (.tmp 0)⟩,
    ⟨(some 116), none, .mov (.tmp 17)⟩,
    ⟨(some 117), none, .ibin .sub (.tmp 116) (.const (.int .i64 1))⟩,
    ⟨(some 118), none, .mov (.tmp 0)⟩,
    ⟨(some 119), none, .mov (.tmp 17)⟩,
    ⟨(some 120), none, .ibin .sub (.tmp 119) (.const (.int .i64 1))⟩,
    ⟨(some 121), none, .indexAddr 1 (.tmp 118) (.tmp 120)⟩,
    ⟨(some 122), none, .load none (.tmp 121)⟩,
    ⟨(some 123), none, .mov (.tmp 0)⟩,
    ⟨(some 124), none, .mov (.tmp 17)⟩,
    ⟨(some 125), none, .indexAddr 1 (.tmp 123) (.tmp 124)⟩,
    ⟨(some 126), none, .load none (.tmp 125)⟩,
    ⟨(some 127), none, .indexAddr 1 (.tmp 113) (.tmp 114)⟩,
    ⟨none, none, .store 1 (.tmp 127) (.tmp 122)⟩,
    ⟨(some 128), none, .indexAddr 1 (.tmp 115) (.tmp 117)⟩,
    ⟨none, none, .store 1 (.tmp 128) (.tmp 126)⟩]

def f57r26 : List AInstr := [
    ⟨(some 111), none, .mov (.tmp 17)⟩,
    ⟨(some 112), none, .ibin .sub (.tmp 111) (.const (.int .i64 1))⟩,
    ⟨(some 17), none, .mov (.tmp 112)⟩]

/-- live: [0, 14, 17] -/
def f57l3 : ACode := (.seq (.seq (.ops f57r24)
  (.keep [0, 14, 17, 110] (.cond (.tmp 110) .skip (.exit 6))))
  (.keep [0, 14, 17] (.seq (.block 7 (.draw f57r25 [(0, 0, false), (0, 0, false), (0, 1, false), (0, 1, false), (0, 1, false), (0, 0, false), (0, 0, false), (0, 0, false), (0, 0, false), (0, 0, false), (0, 0, false), (0, 0, false), (0, 0, false), (0, 0, false), (0, 0, false), (0, 0, true), (1, 1, false), (1, 0, true)]))
  (.keep [0, 14, 17] (.ops f57r26)))))

def f57r28 : List AInstr := [
    ⟨(some 129), none, .mov (.tmp 1)⟩,
    ⟨(some 130), none, .mov (.tmp 3)⟩,
    ⟨(some 131), none, .ibin .add (.tmp 129) (.tmp 130)⟩,
    ⟨(some 132), none, .conv .u64 (.tmp 131)⟩,
    ⟨(some 133), none, .ibin .shr (.tmp 132) (.const (.int .u64 1))⟩,
    ⟨(some 134), none, .conv .i64 (.tmp 133)⟩,
    ⟨(some 18), none, .mov (.tmp 134)⟩]

def f57r29 : List AInstr := [
    ⟨(some 135), none, .mov (.tmp 18)⟩,
    ⟨(some 136), none, .mov (.tmp 2)⟩,
    ⟨(some 137), none, .ibin .add (.tmp 135) (.tmp 136)⟩,
    ⟨(some 19), none, .mov (.tmp 137)⟩]

def f57r30 : List AInstr := [
    ⟨(some 20), none, .mov (.const (.int .i64 0))⟩,
    ⟨(some 21), none, .mov (.const (.int .i64 0))⟩]

def f57r31 : List AInstr := [
    ⟨(some 138), none, .mov (.tmp 2)⟩,
    ⟨(some 139), none, .mov (.tmp 18)⟩,
    ⟨(some 140), none, .ibin .gtr (.tmp 138) (.tmp 139)⟩]

def f57r32 : List AInstr := [
    ⟨(some 141), none, .mov (.tmp 19)⟩,
    ⟨(some 142), none, .mov (.tmp 3)⟩,
    ⟨(some 143), none, .ibin .sub (.tmp 141) (.tmp 142)⟩,
    ⟨(some 20), none, .mov (.tmp 143)⟩]

def f57r33 : List AInstr := [
    ⟨(some 144), none, .mov (.tmp 18)⟩,
    ⟨(some 21), none, .mov (.tmp 144)⟩]

def f57r34 : List AInstr := [
    ⟨(some 145), none, .mov (.tmp 1)⟩,
    ⟨(some 20), none, .mov (.tmp 145)⟩]

def f57r35 : List AInstr := [
    ⟨(some 146), none, .mov (.tmp 2)⟩,
    ⟨(some 21), none, .mov (.tmp 146)⟩]

def f57r36 : List AInstr := [
    ⟨(some 147), none, .mov (.tmp 19)⟩,
    ⟨(some 148), none, .ibin .sub (.tmp 147) (.const (.int .i64 1))⟩,
    ⟨(some 22), none, .mov (.tmp 148)⟩]

def f57r37 : List AInstr := [
    ⟨(some 149), none, .mov (.tmp 20)⟩,
    ⟨(some 150), none, .mov (.tmp 21)⟩,
    ⟨(some 151), none, .ibin .lss (.tmp 149) (.tmp 150)⟩]

def f57r38 : List AInstr := [
    ⟨(some 152), none, .mov (.tmp 20)⟩,
    ⟨(some 153), none, .mov (.tmp 21)⟩,
    ⟨(some 154), none, .ibin .add (.tmp 152) (.tmp 153)⟩,
    ⟨(some 155), none, .conv .u64 (.tmp 154)⟩,
    ⟨(some 156), none, .ibin .shr (.tmp 155) (.const (.int .u64 1))⟩,
    ⟨(some 157), none, .conv .i64 (.tmp 156)⟩,
    ⟨(some 23), none, .mov (.tmp 157)⟩]

def f57r39 : List AInstr := [
    ⟨(some 158), none, .mov (.tmp 4)⟩,
    ⟨(some 159), none, .mov (.tmp 0)⟩,
    ⟨(some 160), none, .mov (.tmp 22)⟩,
    ⟨(some 161), none, .mov (.tmp 23)⟩,
    ⟨(some 162), none, .ibin .sub (.tmp 160) (.tmp 161)⟩,
    ⟨(some 163), none, .indexAddr 1 (.tmp 159) (.tmp 162)⟩,
    ⟨(some 164), none, .load none (.tmp 163)⟩,
    ⟨(some 165), none, .mov (.tmp 0)⟩,
    ⟨(some 166), none, .mov (.tmp 23)⟩,
    ⟨(some 167), none, .indexAddr 1 (.tmp 165) (.tmp 166)⟩,
    ⟨(some 168), none, .load none (.tmp 167)⟩,
    ⟨(some 169), none, .callV (.tmp 158) [.tmp 164, .tmp 168]⟩,
    ⟨(some 170), none, .ibin .lss (.tmp 169) (.const (.int .i64 0))⟩,
    ⟨(some 171), none, .un .not (.tmp 170)⟩]

def f57r40 : List AInstr := [
    ⟨(some 172), none, .mov (.tmp 23)⟩,
    ⟨(some 173), none, .ibin .add (.tmp 172) (.const (.int .i64 1))⟩,
    ⟨(some 20), none, .mov (.tmp 173)⟩]

def f57r41 : List AInstr := [
    ⟨(some 174), none, .mov (.tmp 23)⟩,
    ⟨(some 21), none, .mov (.tmp 174)⟩]

/-- live: [0, 1, 2, 3, 4, 18, 19, 20, 21, 22] -/
def f57l4 : ACode := (.seq (.seq (.ops f57r37)
  (.keep [0, 1, 2, 3, 4, 18, 19, 20, 21, 22, 151] (.cond (.tmp 151) .skip (.exit 8))))
  (.keep [0, 1, 2, 3, 4, 18, 19, 20, 21, 22] (.block 9 (.seq (.ops f57r38)
  (.keep [0, 1, 2, 3, 4, 18, 19, 20, 21, 22, 23] (.seq (.draw f57r39 [(0, 0, false), (0, 0, false), (0, 0, false), (0, 0, false), (0, 0, false), (0, 0, false), (0, 0, false), (0, 0, false), (0, 0, false), (0, 0, false), (0, 0, false), (0, 0, true), (1, 1, false), (1, 1, false)])
  (.keep [0, 1, 2, 3, 4, 18, 19, 20, 21, 22, 23, 171] (.cond (.tmp 171) (.keep [0, 1, 2, 3, 4, 18, 19, 21, 22, 23] (.ops f57r40)) (.keep [0, 1, 2, 3, 4, 18, 19, 20, 22, 23] (.ops f57r41))))))))))

def f57r43 : List AInstr := [
    ⟨(some 175), none, .mov (.tmp 19)⟩,
    ⟨(some 176), none, .mov (.tmp 20)⟩,
    ⟨(some 177), none, .ibin .sub (.tmp 175) (.tmp 176)⟩,
    ⟨(some 24), none, .mov (.tmp 177)⟩]

def f57r44 : List AInstr := [
    ⟨(some 178), none, .mov (.tmp 20)⟩,
    ⟨(some 179), none, .mov (.tmp 2)⟩,
    ⟨(some 180), none, .ibin .lss (.tmp 178) (.tmp 179)⟩,
    ⟨(some 181), none, .mov (.tmp 180)⟩,
    ⟨(some 182), (some (181, true)), .mov (.tmp 2)⟩,
    ⟨(some 183), (some (181, true)), .mov (.tmp 24)⟩,
    ⟨(some 184), (some (181, true)), .ibin .lss (.tmp 182) (.tmp 183)⟩,
    ⟨(some 185), none, .pick (.tmp 181) (.tmp 184) (.const (.bool false))⟩]

def f57r45 : List AInstr := [
    ⟨(some 186), none, .mov (.tmp 0)⟩,
    ⟨(some 187), none, .mov (.tmp 20)⟩,
    ⟨(some 188), none, .mov (.tmp 2)⟩,
    ⟨(some 189), none, .mov (.tmp 24)⟩,
    ⟨(some 190), none, .mov (.tmp 4)⟩,
    ⟨(some 191), none, .callF 63 [.tmp 186, .tmp 187, .tmp 188, .tmp 189, .tmp 190]⟩]

def f57r46 : List AInstr := [
    ⟨(some 192), none, .mov (.tmp 1)⟩,
    ⟨(some 193), none, .mov (.tmp 20)⟩,
    ⟨(some 194), none, .ibin .lss (.tmp 192) (.tmp 193)⟩,
    ⟨(some 195), none, .mov (.tmp 194)⟩,
    ⟨(some 196), (some (195, true)), .mov (.tmp 20)⟩,
    ⟨(some 197), (some (195, true)), .mov (.tmp 18)⟩,
    ⟨(some 198), (some (195, true)), .ibin .lss (.tmp 196) (.tmp 197)⟩,
    ⟨(some 199), none, .pick (.tmp 195) (.tmp 198) (.const (.bool false))⟩]

def f57r47 : List AInstr := [
    ⟨(some 200), none, .mov (.tmp 0)⟩,
    ⟨(some 201), none, .mov (.tmp 1)⟩,
    ⟨(some 202), none, .mov (.tmp 20)⟩,
    ⟨(some 203), none, .mov (.tmp 18)⟩,
    ⟨(some 204), none, .mov (.tmp 4)⟩,
    ⟨(some 205), none, .callF 57 [.tmp 200, .tmp 201, .tmp 202, .tmp 203, .tmp 204]⟩]

def f57r48 : List AInstr := [
    ⟨(some 206), none, .mov (.tmp 18)⟩,
    ⟨(some 207), none, .mov (.tmp 24)⟩,
    ⟨(some 208), none, .ibin .lss (.tmp 206) (.tmp 207)⟩,
    ⟨(some 209), none, .mov (.tmp 208)⟩,
    ⟨(some 210), (some (209, true)), .mov (.tmp 24)⟩,
    ⟨(some 211), (some (209, true)), .mov (.tmp 3)⟩,
    ⟨(some 212), (some (209, true)), .ibin .lss (.tmp 210) (.tmp 211)⟩,
    ⟨(some 213), none, .pick (.tmp 209) (.tmp 212) (.const (.bool false))⟩]

def f57r49 : List AInstr := [
    ⟨(some 214), none, .mov (.tmp 0)⟩,
    ⟨(some 215), none, .mov (.tmp 18)⟩,
    ⟨(some 216), none, .mov (.tmp 24)⟩,
    ⟨(some 217), none, .mov (.tmp 3)⟩,
    ⟨(some 218), none, .mov (.tmp 4)⟩,
    ⟨(some 219), none, .callF 57 [.tmp 214, .tmp 215, .tmp 216, .tmp 217, .tmp 218]⟩]

def f57b : ACode := (.seq (.seq (.ops f57r0)
  (.keep [0, 1, 2, 3, 4, 28] (.cond (.tmp 28) (.keep [0, 1, 2, 3, 4] (.seq (.ops f57r1)
  (.keep [0, 1, 3, 4, 10] (.seq (.ops f57r2)
  (.keep [0, 1, 4, 10, 11] (.seq (.block 0 (.loop f57l0))
  (.keep [0, 1, 10] (.seq (.seq (.ops f57r9)
  (.keep [0, 10, 13] (.block 2 (.loop f57l1))))
  (.keep [] .ret))))))))) .skip)))
  (.keep [0, 1, 2, 3, 4] (.seq (.seq (.ops f57r14)
  (.keep [0, 1, 2, 3, 4, 80] (.cond (.tmp 80) (.keep [0, 1, 2, 4] (.seq (.ops f57r15)
  (.keep [0, 2, 4, 14] (.seq (.ops f57r16)
  (.keep [0, 2, 4, 14, 15] (.seq (.block 4 (.loop f57l2))
  (.keep [0, 2, 14] (.seq (.seq (.ops f57r23)
  (.keep [0, 14, 17] (.block 6 (.loop f57l3))))
  (.keep [] .ret))))))))) .skip)))
  (.keep [0, 1, 2, 3, 4] (.seq (.ops f57r28)
  (.keep [0, 1, 2, 3, 4, 18] (.seq (.ops f57r29)
  (.keep [0, 1, 2, 3, 4, 18, 19] (.seq (.ops f57r30)
  (.keep [0, 1, 2, 3, 4, 18, 19] (.seq (.seq (.ops f57r31)
  (.keep [0, 1, 2, 3, 4, 18, 19, 140] (.cond (.tmp 140) (.keep [0, 1, 2, 3, 4, 18, 19] (.seq (.ops f57r32)
  (.keep [0, 1, 2, 3, 4, 18, 19, 20] (.ops f57r33)))) (.keep [0, 1, 2, 3, 4, 18, 19] (.seq (.ops f57r34)
  (.keep [0, 1, 2, 3, 4, 18, 19, 20] (.ops f57r35)))))))
  (.keep [0, 1, 2, 3, 4, 18, 19, 20, 21] (.seq (.ops f57r36)
  (.keep [0, 1, 2, 3, 4, 18, 19, 20, 21, 22] (.seq (.block 8 (.loop f57l4))
  (.keep [0, 1, 2, 3, 4, 18, 19, 20] (.seq (.ops f57r43)
  (.keep [0, 1, 2, 3, 4, 18, 20, 24] (.seq (.seq (.ops f57r44)
  (.keep [0, 1, 2, 3, 4, 18, 20, 24, 185] (.cond (.tmp 185) (.keep [0, 1, 2, 3, 4, 18, 20, 24] (.ops f57r45)) .skip)))
  (.keep [0, 1, 3, 4, 18, 20, 24] (.seq (.seq (.ops f57r46)
  (.keep [0, 1, 3, 4, 18, 20, 24, 199] (.cond (.tmp 199) (.keep [0, 1, 3, 4, 18, 20, 24] (.ops f57r47)) .skip)))
  (.keep [0, 3, 4, 18, 24] (.seq (.ops f57r48)
  (.keep [0, 3, 4, 18, 24, 213] (.cond (.tmp 213) (.keep [0, 3, 4, 18, 24] (.ops f57r49)) .skip)))))))))))))))))))))))))

def f57 : AFn := ⟨220, [], f57b⟩

theorem f57_ok : compFn Tryd.prog 57 = some f57.strip := by kernel_rfl

/- function 59: weirhouse/bench.number; parameters 1; operations that are not compiled: 0 -/
def f59r0 : List AInstr := [
    ⟨(some 2), none, .mov (.const (.int .i64 0))⟩,
    ⟨(some 3), none, .mov (.const (.bool false))⟩]

def f59r1 : List AInstr := [
    ⟨(some 7), none, .mov (.tmp 0)⟩,
    ⟨(some 8), none, .callF 65 [.tmp 7]⟩,
    ⟨(some 6), none, .mov (.tmp 8)⟩,
    ⟨(some 9), none, .extract 0 (.tmp 6)⟩,
    ⟨(some 10), none, .extract 1 (.tmp 6)⟩,
    ⟨(some 4), none, .mov (.tmp 9)⟩,
    ⟨(some 5), none, .mov (.tmp 10)⟩]

def f59r2 : List AInstr := [
    ⟨(some 11), none, .mov (.tmp 4)⟩,
    ⟨(some 12), none, .mov (.tmp 5)⟩,
    ⟨(some 13), none, .str (.isNil false) [.tmp 12]⟩,
    ⟨(some 14), none, .mov (.tmp 13)⟩,
    ⟨(some 15), (some (14, true)), .mov (.tmp 4)⟩,
    ⟨(some 16), (some (14, true)), .ibin .geq (.tmp 15) (.const (.int .i64 0))⟩,
    ⟨(some 17), none, .pick (.tmp 14) (.tmp 16) (.const (.bool false))⟩,
    ⟨(some 18), none, .mov (.tmp 17)⟩,
    ⟨(some 19), (some (18, true)), .mov (.tmp 4)⟩,
    ⟨(some 20), (some (18, true)), .ibin .leq (.tmp 19) (.const (.int .i64 1099511627776))⟩,
    ⟨(some 21), none, .pick (.tmp 18) (.tmp 20) (.const (.bool false))⟩,
    ⟨(some 22), none, .mov (.tmp 21)⟩,
    ⟨(some 23), (some (22, true)), .mov (.tmp 4)⟩,
    ⟨(some 24), (some (22, true)), .callF 36 [.tmp 23]⟩,
    ⟨(some 25), (some (22, true)), .mov (.tmp 0)⟩,
    ⟨(some 26), (some (22, true)), .str (.cmp false) [.tmp 24, .tmp 25]⟩,
    ⟨(some 27), none, .pick (.tmp 22) (.tmp 26) (.const (.bool false))⟩,
    ⟨(some 2), none, .mov (.tmp 11)⟩,
    ⟨(some 3), none, .mov (.tmp 27)⟩]

def f59b : ACode := (.seq (.ops f59r0)
  (.keep [0] (.seq (.ops f59r1)
  (.keep [0, 4, 5] (.seq (.ops f59r2)
  (.keep [2, 3] .ret))))))

def f59 : AFn := ⟨28, [.tmp 2, .tmp 3], f59b⟩

theorem f59_ok : compFn Tryd.prog 59 = some f59.strip := by kernel_rfl

/- function 60: weirhouse/bench.words; parameters 0; operations that are not compiled: 0 -/
def f60r0 : List AInstr := [
    ⟨(some 0), none, .mov (.const (.slice none 0 0))⟩]

def f60r1 : List AInstr := [
    ⟨(some 1), none, .buildSlice 1 3 [.string ⟨#[]⟩, .string ⟨#[]⟩, .string ⟨#[]⟩] [(0, 1, (.const (.string ⟨#[105, 110]⟩))), (1, 1, (.const (.string ⟨#[116, 105, 99, 107]⟩))), (2, 1, (.const (.string ⟨#[112, 111, 108, 108]⟩)))]⟩,
    ⟨(some 0), none, .mov (.tmp 1)⟩]

def f60b : ACode := (.seq (.ops f60r0)
  (.keep [] (.seq (.ops f60r1)
  (.keep [0] .ret))))

def f60 : AFn := ⟨2, [.tmp 0], f60b⟩

theorem f60_ok : compFn Tryd.prog 60 = some f60.strip := by kernel_rfl

/- function 63: slices.rotateCmpFunc[int]; parameters 5; operations that are not compiled: 0 -/
def f63r0 : List AInstr := [
    ⟨(some 12), none, .mov (.tmp 2)⟩,
    ⟨(some 13), none, .mov (.tmp 1)⟩,
    ⟨(some 14), none, .ibin .sub (.tmp 12) (.tmp 13)⟩,
    ⟨(some 10), none, .mov (.tmp 14)⟩]

def f63r1 : List AInstr := [
    ⟨(some 15), none, .mov (.tmp 3)⟩,
    ⟨(some 16), none, .mov (.tmp 2)⟩,
    ⟨(some 17), none, .ibin .sub (.tmp 15) (.tmp 16)⟩,
    ⟨(some 11), none, .mov (.tmp 17)⟩]

def f63r2 : List AInstr := [
    ⟨(some 18), none, .mov (.tmp 10)⟩,
    ⟨(some 19), none, .mov (.tmp 11)⟩,
    ⟨(some 20), none, .ibin .neq (.tmp 18) (.tmp 19)⟩]

def f63r3 : List AInstr := [
    ⟨(some 21), none, .mov (.tmp 10)⟩,
    ⟨(some 22), none, .mov (.tmp 11)⟩,
    ⟨(some 23), none, .ibin .gtr (.tmp 21) (.tmp 22)⟩]

def f63r4 : List AInstr := [
    ⟨(some 24), none, .mov (.tmp 0)⟩,
    ⟨(some 25), none, .mov (.tmp 2)⟩,
    ⟨(some 26), none, .mov (.tmp 10)⟩,
    ⟨(some 27), none, .ibin .sub (.tmp 25) (.tmp 26)⟩,
    ⟨(some 28), none, .mov (.tmp 2)⟩,
    ⟨(some 29), none, .mov (.tmp 11)⟩,
    ⟨(some 30), none, .mov (.tmp 4)⟩,
    ⟨(some 31), none, .callF 71 [.tmp 24, .tmp 27, .tmp 28, .tmp 29, .tmp 30]⟩]

def f63r5 : List AInstr := [
    ⟨(some 32), none, .mov (.tmp 10)⟩,
    ⟨(some 33), none, .mov (.tmp 11)⟩,
    ⟨(some 34), none, .ibin .sub (.tmp 32) (.tmp 33)⟩,
    ⟨(some 10), none, .mov (.tmp 34)⟩]

def f63r6 : List AInstr := [
    ⟨(some 35), none, .mov (.tmp 0)⟩,
    ⟨(some 36), none, .mov (.tmp 2)⟩,
    ⟨(some 37), none, .mov (.tmp 10)⟩,
    ⟨(some 38), none, .ibin .sub (.tmp 36) (.tmp 37)⟩,
    ⟨(some 39), none, .mov (.tmp 2)⟩,
    ⟨(some 40), none, .mov (.tmp 11)⟩,
    ⟨(some 41), none, .ibin .add (.tmp 39) (.tmp 40)⟩,
    ⟨(some 42), none, .mov (.tmp 10)⟩,
    ⟨(some 43), none, .ibin .sub (.tmp 41) (.tmp 42)⟩,
    ⟨(some 44), none, .mov (.tmp 10)⟩,
    ⟨(some 45), none, .mov (.tmp 4)⟩,
    ⟨(some 46), none, .callF 71 [.tmp 35, .tmp 38, .tmp 43, .tmp 44, .tmp 45]⟩]

def f63r7 : List AInstr := [
    ⟨(some 47), none, .mov (.tmp 11)⟩,
    ⟨(some 48), none, .mov (.tmp 10)⟩,
    ⟨(some 49), none, .ibin .sub (.tmp 47) (.tmp 48)⟩,
    ⟨(some 11), none, .mov (.tmp 49)⟩]

/-- live: [0, 2, 4, 10, 11] -/
def f63l0 : ACode := (.seq (.seq (.ops f63r2)
  (.keep [0, 2, 4, 10, 11, 20] (.cond (.tmp 20) .skip (.exit 0))))
  (.keep [0, 2, 4, 10, 11] (.block 1 (.seq (.ops f63r3)
  (.keep [0, 2, 4, 10, 11, 23] (.cond (.tmp 23) (.keep [0, 2, 4, 10, 11] (.seq (.ops f63r4)
  (.keep [0, 2, 4, 10, 11] (.ops f63r5)))) (.keep [0, 2, 4, 10, 11] (.seq (.ops f63r6)
  (.keep [0, 2, 4, 10, 11] (.ops f63r7))))))))))

def f63r9 : List AInstr := [
    ⟨(some 50), none, .mov (.tmp 0)⟩,
    ⟨(some 51), none, .mov (.tmp 2)⟩,
    ⟨(some 52), none, .mov (.tmp 10)⟩,
    ⟨(some 53), none, .ibin .sub (.tmp 51) (.tmp 52)⟩,
    ⟨(some 54), none, .mov (.tmp 2)⟩,
    ⟨(some 55), none, .mov (.tmp 10)⟩,
    ⟨(some 56), none, .mov (.tmp 4)⟩,
    ⟨(some 57), none, .callF 71 [.tmp 50, .tmp 53, .tmp 54, .tmp 55, .tmp 56]⟩]

def f63b : ACode := (.seq (.ops f63r0)
  (.keep [0, 2, 3, 4, 10] (.seq (.ops f63r1)
  (.keep [0, 2, 4, 10, 11] (.seq (.block 0 (.loop f63l0))
  (.keep [0, 2, 4, 10] (.ops f63r9)))))))

def f63 : AFn := ⟨58, [], f63b⟩

theorem f63_ok : compFn Tryd.prog 63 = some f63.strip := by kernel_rfl

/- function 71: slices.swapRangeCmpFunc[int]; parameters 5; operations that are not compiled: 0 -/
def f71r0 : List AInstr := [
    ⟨(some 10), none, .mov (.const (.int .i64 0))⟩]

def f71r1 : List AInstr := [
    ⟨(some 11), none, .mov (.tmp 10)⟩,
    ⟨(some 12), none, .mov (.tmp 3)⟩,
    ⟨(some 13), none, .ibin .lss (.tmp 11) (.tmp 12)⟩]

def f71r2 : List AInstr := [
    ⟨(some 16), none, .mov (.tmp 0)⟩,
    ⟨(some 17), none, .mov (.tmp 1)⟩,
    ⟨(some 18), none, .mov (.tmp 10)⟩,
    ⟨(some 19), none, .ibin .add (.tmp 17) (.tmp 18)⟩,
    ⟨(some 20), none, .mov (.tmp 0)⟩,
    ⟨(some 21), none, .mov (.tmp 2)⟩,
    ⟨(some 22), none, .mov (.tmp 10)⟩,
    ⟨(some 23), none, .ibin .add (.tmp 21) (.tmp 22)⟩,
    ⟨(some 24), none, .mov (.tmp 0)⟩,
    ⟨(some 25), none, .mov (.tmp 2)⟩,
    ⟨(some 26), none, .mov (.tmp 10)⟩,
    ⟨(some 27), none, .ibin .add (.tmp 25) (.tmp 26)⟩,
    ⟨(some 28), none, .indexAddr 1 (.tmp 24) (.tmp 27)⟩,
    ⟨(some 29), none, .load none (.tmp 28)⟩,
    ⟨(some 30), none, .mov (.tmp 0)⟩,
    ⟨(some 31), none, .mov (.tmp 1)⟩,
    ⟨(some 32), none, .mov (.tmp 10)⟩,
    ⟨(some 33), none, .ibin .add (.tmp 31) (.tmp 32)⟩,
    ⟨(some 34), none, .indexAddr 1 (.tmp 30) (.tmp 33)⟩,
    ⟨(some 35), none, .load none (.tmp 34)⟩,
    ⟨(some 36), none, .indexAddr 1 (.tmp 16) (.tmp 19)⟩,
    ⟨none, none, .store 1 (.tmp 36) (.tmp 29)⟩,
    ⟨(some 37), none, .indexAddr 1 (.tmp 20) (.tmp 23)⟩,
    ⟨none, none, .store 1 (.tmp 37) (.tmp 35)⟩]

def f71r3 : List AInstr := [
    ⟨(some 14), none, .mov (.tmp 10)⟩,
    ⟨(some 15), none, .ibin .add (.tmp 14) (.const (.int .i64 1))⟩,
    ⟨(some 10), none, .mov (.tmp 15)⟩]

/-- live: [0, 1, 2, 3, 10] -/
def f71l0 : ACode := (.seq (.seq (.ops f71r1)
  (.keep [0, 1, 2, 3, 10, 13] (.cond (.tmp 13) .skip (.exit 0))))
  (.keep [0, 1, 2, 3, 10] (.seq (.block 1 (.draw f71r2 [(0, 0, false), (0, 0, false), (0, 0, false), (0, 0, false), (0, 1, false), (0, 1, false), (0, 1, false), (0, 1, false), (0, 0, false), (0, 0, false), (0, 0, false), (0, 0, false), (0, 0, false), (0, 0, false), (0, 0, false), (0, 0, false), (0, 0, false), (0, 0, false), (0, 0, false), (0, 0, false), (0, 0, false), (0, 0, true), (1, 1, false), (1, 0, true)]))
  (.keep [0, 1, 2, 3, 10] (.ops f71r3)))))

def f71b : ACode := (.seq (.ops f71r0)
  (.keep [0, 1, 2, 3, 10] (.block 0 (.loop f71l0))))

def f71 : AFn := ⟨38, [], f71b⟩

theorem f71_ok : compFn Tryd.prog 71 = some f71.strip := by kernel_rfl

end Go.Proofs.YtmbcgelfnbnicaaDoor
