/-
  The functions of this seat as abstract code. Printed by a program of this claim's writer.
-/
import Derived.Test.YtddoegbgnmdfhaaChecked
import Derived.Test.YtddoegbgnmdfhaaAmS
import Derived.KernelRfl
namespace Go.Proofs.Ytddoegbgnmdfhaa
open Go Go.Am

/- function 3: weirhouse/weirhousekeep.ScfqOrder; parameters 2; operations that are not compiled: 0 -/
def f3r0 : List AInstr := [
    ⟨(some 4), none, .mov (.const (.bool false))⟩]

def f3r1 : List AInstr := [
    ⟨(some 12), none, .callF 6 []⟩,
    ⟨(some 13), none, .un .not (.tmp 12)⟩]

def f3r2 : List AInstr := [
    ⟨(some 4), none, .mov (.const (.bool false))⟩]

def f3r3 : List AInstr := [
    ⟨(some 15), none, .mov (.tmp 0)⟩,
    ⟨(some 16), none, .mov (.tmp 1)⟩,
    ⟨(some 17), none, .callF 7 [.tmp 15, .tmp 16]⟩,
    ⟨(some 14), none, .mov (.tmp 17)⟩,
    ⟨(some 18), none, .extract 0 (.tmp 14)⟩,
    ⟨(some 19), none, .extract 1 (.tmp 14)⟩,
    ⟨(some 20), none, .extract 2 (.tmp 14)⟩,
    ⟨(some 21), none, .extract 3 (.tmp 14)⟩,
    ⟨(some 5), none, .mov (.tmp 18)⟩,
    ⟨(some 6), none, .mov (.tmp 19)⟩,
    ⟨(some 7), none, .mov (.tmp 20)⟩,
    ⟨(some 8), none, .mov (.tmp 21)⟩]

def f3r4 : List AInstr := [
    ⟨(some 22), none, .mov (.tmp 8)⟩,
    ⟨(some 23), none, .ibin .neq (.tmp 22) (.const (.int .i64 0))⟩]

def f3r5 : List AInstr := [
    ⟨(some 24), none, .mov (.tmp 6)⟩,
    ⟨(some 25), none, .len (.tmp 24)⟩,
    ⟨(some 26), none, .ibin .eql (.tmp 25) (.const (.int .i64 0))⟩,
    ⟨(some 4), none, .mov (.tmp 26)⟩]

def f3r6 : List AInstr := [
    ⟨(some 9), none, .mov (.const (.int .i64 0))⟩]

def f3r7 : List AInstr := [
    ⟨(some 27), none, .mov (.tmp 1)⟩,
    ⟨(some 28), none, .len (.tmp 27)⟩,
    ⟨(some 29), none, .mov (.const (.int .i64 0))⟩]

def f3r8 : List AInstr := [
    ⟨(some 30), none, .ibin .lss (.tmp 29) (.tmp 28)⟩]

def f3r9 : List AInstr := [
    ⟨(some 31), none, .mov (.tmp 29)⟩,
    ⟨(some 32), none, .indexAddr 3 (.tmp 27) (.tmp 29)⟩,
    ⟨(some 33), none, .load (some 3) (.tmp 32)⟩,
    ⟨(some 11), none, .alloc [.int .i64 0, .int .i64 0, .int .i64 0]⟩,
    ⟨(some 10), none, .mov (.tmp 31)⟩,
    ⟨none, none, .store 3 (.tmp 11) (.tmp 33)⟩]

def f3r10 : List AInstr := [
    ⟨(some 34), none, .mov (.tmp 10)⟩,
    ⟨(some 35), none, .mov (.tmp 5)⟩,
    ⟨(some 36), none, .len (.tmp 35)⟩,
    ⟨(some 37), none, .ibin .geq (.tmp 34) (.tmp 36)⟩]

def f3r11 : List AInstr := [
    ⟨(some 4), none, .mov (.const (.bool false))⟩]

def f3r12 : List AInstr := [
    ⟨(some 41), none, .fieldAddr 0 (.tmp 11)⟩,
    ⟨(some 42), none, .load none (.tmp 41)⟩,
    ⟨(some 43), none, .ibin .eql (.tmp 42) (.const (.int .i64 2))⟩,
    ⟨(some 44), none, .mov (.tmp 43)⟩,
    ⟨(some 45), (some (44, true)), .mov (.tmp 5)⟩,
    ⟨(some 46), (some (44, true)), .mov (.tmp 10)⟩,
    ⟨(some 47), (some (44, true)), .indexAddr 1 (.tmp 45) (.tmp 46)⟩,
    ⟨(some 48), (some (44, true)), .load none (.tmp 47)⟩,
    ⟨(some 49), (some (44, true)), .ibin .eql (.tmp 48) (.const (.int .i64 0))⟩,
    ⟨(some 50), (some (44, true)), .mov (.tmp 9)⟩,
    ⟨(some 51), (some (44, true)), .ibin .gtr (.tmp 50) (.const (.int .i64 0))⟩,
    ⟨(some 52), (some (44, true)), .eqB true (.tmp 49) (.tmp 51)⟩,
    ⟨(some 53), none, .pick (.tmp 44) (.tmp 52) (.const (.bool false))⟩,
    ⟨(some 40), none, .mov (.tmp 53)⟩]

def f3r13 : List AInstr := [
    ⟨(some 4), none, .mov (.const (.bool false))⟩]

def f3r14 : List AInstr := [
    ⟨(some 55), none, .mov (.tmp 5)⟩,
    ⟨(some 56), none, .mov (.tmp 10)⟩,
    ⟨(some 57), none, .indexAddr 1 (.tmp 55) (.tmp 56)⟩,
    ⟨(some 58), none, .load none (.tmp 57)⟩,
    ⟨(some 59), none, .ibin .neq (.tmp 58) (.const (.int .i64 0))⟩,
    ⟨(some 54), none, .mov (.tmp 59)⟩]

def f3r15 : List AInstr := [
    ⟨(some 61), none, .fieldAddr 0 (.tmp 11)⟩,
    ⟨(some 62), none, .load none (.tmp 61)⟩,
    ⟨(some 63), none, .ibin .eql (.tmp 62) (.const (.int .i64 1))⟩,
    ⟨(some 60), none, .mov (.tmp 63)⟩]

def f3r16 : List AInstr := [
    ⟨(some 64), none, .mov (.tmp 9)⟩,
    ⟨(some 65), none, .ibin .add (.tmp 64) (.const (.int .i64 1))⟩,
    ⟨(some 9), none, .mov (.tmp 65)⟩]

def f3r17 : List AInstr := [
    ⟨(some 38), none, .mov (.tmp 9)⟩,
    ⟨(some 39), none, .ibin .sub (.tmp 38) (.const (.int .i64 1))⟩,
    ⟨(some 9), none, .mov (.tmp 39)⟩]

def f3r18 : List AInstr := [
    ⟨(some 66), none, .ibin .add (.tmp 29) (.const (.int .i64 1))⟩,
    ⟨(some 29), none, .mov (.tmp 66)⟩]

/-- live: [0, 1, 5, 6, 7, 9, 27, 28, 29] -/
def f3l0 : ACode := (.seq (.ops f3r8)
  (.keep [0, 1, 5, 6, 7, 9, 27, 28, 29, 30] (.seq (.cond (.tmp 30) .skip (.exit 0))
  (.keep [0, 1, 5, 6, 7, 9, 27, 28, 29] (.seq (.block 1 (.seq (.ops f3r9)
  (.keep [0, 1, 5, 6, 7, 9, 10, 11, 27, 28, 29] (.seq (.seq (.ops f3r10)
  (.keep [0, 1, 5, 6, 7, 9, 10, 11, 27, 28, 29, 37] (.cond (.tmp 37) (.keep [] (.seq (.ops f3r11)
  (.keep [4] .ret))) .skip)))
  (.keep [0, 1, 5, 6, 7, 9, 10, 11, 27, 28, 29] (.block 2 (.seq (.ops f3r12)
  (.keep [0, 1, 5, 6, 7, 9, 10, 11, 27, 28, 29, 40] (.cond (.tmp 40) (.keep [] (.seq (.ops f3r13)
  (.keep [4] .ret))) (.keep [0, 1, 5, 6, 7, 9, 10, 11, 27, 28, 29] (.seq (.ops f3r14)
  (.keep [0, 1, 5, 6, 7, 9, 11, 27, 28, 29, 54] (.cond (.tmp 54) .skip (.keep [0, 1, 5, 6, 7, 9, 11, 27, 28, 29] (.seq (.ops f3r15)
  (.keep [0, 1, 5, 6, 7, 9, 27, 28, 29, 60] (.cond (.tmp 60) (.keep [0, 1, 5, 6, 7, 9, 27, 28, 29] (.ops f3r16)) (.keep [0, 1, 5, 6, 7, 9, 27, 28, 29] (.ops f3r17)))))))))))))))))))
  (.keep [0, 1, 5, 6, 7, 9, 27, 28, 29] (.ops f3r18)))))))

def f3r20 : List AInstr := [
    ⟨(some 67), none, .mov (.tmp 0)⟩,
    ⟨(some 68), none, .len (.tmp 67)⟩,
    ⟨(some 69), none, .mov (.tmp 1)⟩,
    ⟨(some 70), none, .mov (.tmp 5)⟩,
    ⟨(some 71), none, .mov (.tmp 6)⟩,
    ⟨(some 72), none, .mov (.tmp 7)⟩,
    ⟨(some 73), none, .callF 8 [.tmp 68, .tmp 69, .tmp 70, .tmp 71, .tmp 72]⟩,
    ⟨(some 4), none, .mov (.tmp 73)⟩]

def f3b : ACode := (.seq (.ops f3r0)
  (.keep [0, 1] (.seq (.seq (.ops f3r1)
  (.keep [0, 1, 13] (.cond (.tmp 13) (.keep [] (.seq (.ops f3r2)
  (.keep [4] .ret))) .skip)))
  (.keep [0, 1] (.seq (.ops f3r3)
  (.keep [0, 1, 5, 6, 7, 8] (.seq (.seq (.ops f3r4)
  (.keep [0, 1, 5, 6, 7, 23] (.cond (.tmp 23) (.keep [6] (.seq (.ops f3r5)
  (.keep [4] .ret))) .skip)))
  (.keep [0, 1, 5, 6, 7] (.seq (.ops f3r6)
  (.keep [0, 1, 5, 6, 7, 9] (.seq (.seq (.ops f3r7)
  (.keep [0, 1, 5, 6, 7, 9, 27, 28, 29] (.block 0 (.loop f3l0))))
  (.keep [0, 1, 5, 6, 7] (.seq (.ops f3r20)
  (.keep [4] .ret))))))))))))))

def f3 : AFn := ⟨74, [.tmp 4], f3b⟩

theorem f3_ok : compFn Try.prog 3 = some f3.strip := by kernel_rfl

/- function 4: weirhouse/weirhousekeep.ScfqFair; parameters 4; operations that are not compiled: 0 -/
def f4r0 : List AInstr := [
    ⟨(some 8), none, .mov (.const (.bool false))⟩]

def f4r1 : List AInstr := [
    ⟨(some 28), none, .callF 6 []⟩,
    ⟨(some 29), none, .un .not (.tmp 28)⟩]

def f4r2 : List AInstr := [
    ⟨(some 8), none, .mov (.const (.bool false))⟩]

def f4r3 : List AInstr := [
    ⟨(some 31), none, .mov (.tmp 0)⟩,
    ⟨(some 32), none, .mov (.tmp 1)⟩,
    ⟨(some 33), none, .callF 7 [.tmp 31, .tmp 32]⟩,
    ⟨(some 30), none, .mov (.tmp 33)⟩,
    ⟨(some 34), none, .extract 0 (.tmp 30)⟩,
    ⟨(some 35), none, .extract 1 (.tmp 30)⟩,
    ⟨(some 36), none, .extract 2 (.tmp 30)⟩,
    ⟨(some 37), none, .extract 3 (.tmp 30)⟩,
    ⟨(some 9), none, .mov (.tmp 34)⟩,
    ⟨(some 10), none, .mov (.tmp 35)⟩,
    ⟨(some 11), none, .mov (.tmp 36)⟩,
    ⟨(some 12), none, .mov (.tmp 37)⟩]

def f4r4 : List AInstr := [
    ⟨(some 38), none, .mov (.tmp 12)⟩,
    ⟨(some 39), none, .ibin .neq (.tmp 38) (.const (.int .i64 0))⟩,
    ⟨(some 40), none, .mov (.tmp 39)⟩,
    ⟨(some 41), (some (40, false)), .mov (.tmp 2)⟩,
    ⟨(some 42), (some (40, false)), .ibin .lss (.tmp 41) (.const (.int .i64 0))⟩,
    ⟨(some 43), none, .pick (.tmp 40) (.const (.bool true)) (.tmp 42)⟩,
    ⟨(some 44), none, .mov (.tmp 43)⟩,
    ⟨(some 45), (some (44, false)), .mov (.tmp 3)⟩,
    ⟨(some 46), (some (44, false)), .ibin .lss (.tmp 45) (.const (.int .i64 0))⟩,
    ⟨(some 47), none, .pick (.tmp 44) (.const (.bool true)) (.tmp 46)⟩,
    ⟨(some 48), none, .mov (.tmp 47)⟩,
    ⟨(some 49), (some (48, false)), .mov (.tmp 2)⟩,
    ⟨(some 50), (some (48, false)), .mov (.tmp 0)⟩,
    ⟨(some 51), (some (48, false)), .len (.tmp 50)⟩,
    ⟨(some 52), (some (48, false)), .ibin .geq (.tmp 49) (.tmp 51)⟩,
    ⟨(some 53), none, .pick (.tmp 48) (.const (.bool true)) (.tmp 52)⟩,
    ⟨(some 54), none, .mov (.tmp 53)⟩,
    ⟨(some 55), (some (54, false)), .mov (.tmp 3)⟩,
    ⟨(some 56), (some (54, false)), .mov (.tmp 0)⟩,
    ⟨(some 57), (some (54, false)), .len (.tmp 56)⟩,
    ⟨(some 58), (some (54, false)), .ibin .geq (.tmp 55) (.tmp 57)⟩,
    ⟨(some 59), none, .pick (.tmp 54) (.const (.bool true)) (.tmp 58)⟩,
    ⟨(some 60), none, .mov (.tmp 59)⟩,
    ⟨(some 61), (some (60, false)), .mov (.tmp 2)⟩,
    ⟨(some 62), (some (60, false)), .mov (.tmp 3)⟩,
    ⟨(some 63), (some (60, false)), .ibin .eql (.tmp 61) (.tmp 62)⟩,
    ⟨(some 64), none, .pick (.tmp 60) (.const (.bool true)) (.tmp 63)⟩,
    ⟨(some 65), none, .mov (.tmp 64)⟩,
    ⟨(some 66), (some (65, false)), .mov (.tmp 9)⟩,
    ⟨(some 67), (some (65, false)), .len (.tmp 66)⟩,
    ⟨(some 68), (some (65, false)), .mov (.tmp 1)⟩,
    ⟨(some 69), (some (65, false)), .len (.tmp 68)⟩,
    ⟨(some 70), (some (65, false)), .ibin .neq (.tmp 67) (.tmp 69)⟩,
    ⟨(some 71), none, .pick (.tmp 65) (.const (.bool true)) (.tmp 70)⟩]

def f4r5 : List AInstr := [
    ⟨(some 72), none, .mov (.tmp 12)⟩,
    ⟨(some 73), none, .ibin .neq (.tmp 72) (.const (.int .i64 0))⟩,
    ⟨(some 74), none, .mov (.tmp 73)⟩,
    ⟨(some 75), (some (74, false)), .mov (.tmp 9)⟩,
    ⟨(some 76), (some (74, false)), .len (.tmp 75)⟩,
    ⟨(some 77), (some (74, false)), .mov (.tmp 1)⟩,
    ⟨(some 78), (some (74, false)), .len (.tmp 77)⟩,
    ⟨(some 79), (some (74, false)), .ibin .eql (.tmp 76) (.tmp 78)⟩,
    ⟨(some 80), none, .pick (.tmp 74) (.const (.bool true)) (.tmp 79)⟩,
    ⟨(some 8), none, .mov (.tmp 80)⟩]

def f4r6 : List AInstr := [
    ⟨(some 81), none, .mov (.tmp 0)⟩,
    ⟨(some 82), none, .len (.tmp 81)⟩,
    ⟨(some 83), none, .makeSlice 1 8 [.int .i64 0] (.tmp 82) (.tmp 82)⟩,
    ⟨(some 13), none, .mov (.tmp 83)⟩]

def f4r7 : List AInstr := [
    ⟨(some 14), none, .alloc [.int .i64 0, .int .i64 0]⟩]

def f4r8 : List AInstr := [
    ⟨(some 15), none, .mov (.const (.int .i64 0))⟩,
    ⟨(some 16), none, .mov (.const (.int .i64 0))⟩]

def f4r9 : List AInstr := [
    ⟨(some 17), none, .mov (.const (.int .i64 0))⟩]

def f4r10 : List AInstr := [
    ⟨(some 85), none, .mov (.tmp 0)⟩,
    ⟨(some 86), none, .mov (.tmp 1)⟩,
    ⟨(some 87), none, .callF 7 [.tmp 85, .tmp 86]⟩,
    ⟨(some 84), none, .mov (.tmp 87)⟩,
    ⟨(some 88), none, .extract 0 (.tmp 84)⟩,
    ⟨(some 89), none, .extract 1 (.tmp 84)⟩,
    ⟨(some 90), none, .extract 2 (.tmp 84)⟩,
    ⟨(some 91), none, .extract 3 (.tmp 84)⟩,
    ⟨(some 18), none, .mov (.tmp 88)⟩,
    ⟨(some 19), none, .mov (.tmp 89)⟩,
    ⟨(some 20), none, .mov (.tmp 90)⟩,
    ⟨(some 21), none, .mov (.tmp 91)⟩]

def f4r11 : List AInstr := [
    ⟨(some 22), none, .mov (.const (.bool false))⟩]

def f4r12 : List AInstr := [
    ⟨(some 92), none, .mov (.tmp 0)⟩,
    ⟨(some 93), none, .mov (.tmp 2)⟩,
    ⟨(some 94), none, .indexAddr 1 (.tmp 92) (.tmp 93)⟩,
    ⟨(some 95), none, .load none (.tmp 94)⟩,
    ⟨(some 96), none, .mov (.tmp 0)⟩,
    ⟨(some 97), none, .mov (.tmp 3)⟩,
    ⟨(some 98), none, .indexAddr 1 (.tmp 96) (.tmp 97)⟩,
    ⟨(some 99), none, .load none (.tmp 98)⟩,
    ⟨(some 100), none, .ibin .add (.tmp 95) (.tmp 99)⟩,
    ⟨(some 101), none, .ibin .mul (.const (.int .i64 1500)) (.tmp 100)⟩,
    ⟨(some 23), none, .mov (.tmp 101)⟩]

def f4r13 : List AInstr := [
    ⟨(some 102), none, .mov (.tmp 1)⟩,
    ⟨(some 103), none, .len (.tmp 102)⟩,
    ⟨(some 104), none, .mov (.const (.int .i64 0))⟩]

def f4r14 : List AInstr := [
    ⟨(some 105), none, .ibin .lss (.tmp 104) (.tmp 103)⟩]

def f4r15 : List AInstr := [
    ⟨(some 106), none, .mov (.tmp 104)⟩,
    ⟨(some 107), none, .indexAddr 3 (.tmp 102) (.tmp 104)⟩,
    ⟨(some 108), none, .load (some 3) (.tmp 107)⟩,
    ⟨(some 25), none, .alloc [.int .i64 0, .int .i64 0, .int .i64 0]⟩,
    ⟨(some 24), none, .mov (.tmp 106)⟩,
    ⟨none, none, .store 3 (.tmp 25) (.tmp 108)⟩]

def f4r16 : List AInstr := [
    ⟨(some 109), none, .mov (.tmp 9)⟩,
    ⟨(some 110), none, .mov (.tmp 24)⟩,
    ⟨(some 111), none, .indexAddr 1 (.tmp 109) (.tmp 110)⟩,
    ⟨(some 112), none, .load none (.tmp 111)⟩,
    ⟨(some 113), none, .ibin .neq (.tmp 112) (.const (.int .i64 0))⟩]

def f4r17 : List AInstr := [
    ⟨(some 114), none, .fieldAddr 0 (.tmp 25)⟩,
    ⟨(some 115), none, .load none (.tmp 114)⟩,
    ⟨(some 116), none, .ibin .eql (.tmp 115) (.const (.int .i64 1))⟩]

def f4r18 : List AInstr := [
    ⟨(some 117), none, .mov (.tmp 13)⟩,
    ⟨(some 118), none, .fieldAddr 1 (.tmp 25)⟩,
    ⟨(some 119), none, .load none (.tmp 118)⟩,
    ⟨(some 120), none, .indexAddr 1 (.tmp 117) (.tmp 119)⟩,
    ⟨(some 121), none, .load none (.tmp 120)⟩,
    ⟨(some 122), none, .ibin .add (.tmp 121) (.const (.int .i64 1))⟩,
    ⟨(some 123), none, .indexAddr 1 (.tmp 117) (.tmp 119)⟩,
    ⟨none, none, .store 1 (.tmp 123) (.tmp 122)⟩]

def f4r19 : List AInstr := [
    ⟨(some 124), none, .mov (.tmp 17)⟩,
    ⟨(some 125), none, .mov (.tmp 19)⟩,
    ⟨(some 126), none, .len (.tmp 125)⟩,
    ⟨(some 127), none, .ibin .geq (.tmp 124) (.tmp 126)⟩]

def f4r20 : List AInstr := [
    ⟨(some 8), none, .mov (.const (.bool false))⟩]

def f4r21 : List AInstr := [
    ⟨(some 128), none, .mov (.tmp 19)⟩,
    ⟨(some 129), none, .mov (.tmp 17)⟩,
    ⟨(some 130), none, .indexAddr 2 (.tmp 128) (.tmp 129)⟩,
    ⟨(some 131), none, .load (some 2) (.tmp 130)⟩,
    ⟨(some 26), none, .alloc [.int .i64 0, .int .i64 0]⟩,
    ⟨none, none, .store 2 (.tmp 26) (.tmp 131)⟩]

def f4r22 : List AInstr := [
    ⟨(some 132), none, .mov (.tmp 17)⟩,
    ⟨(some 133), none, .ibin .add (.tmp 132) (.const (.int .i64 1))⟩,
    ⟨(some 17), none, .mov (.tmp 133)⟩]

def f4r23 : List AInstr := [
    ⟨(some 134), none, .mov (.tmp 13)⟩,
    ⟨(some 135), none, .fieldAddr 0 (.tmp 26)⟩,
    ⟨(some 136), none, .load none (.tmp 135)⟩,
    ⟨(some 137), none, .indexAddr 1 (.tmp 134) (.tmp 136)⟩,
    ⟨(some 138), none, .load none (.tmp 137)⟩,
    ⟨(some 139), none, .ibin .sub (.tmp 138) (.const (.int .i64 1))⟩,
    ⟨(some 140), none, .indexAddr 1 (.tmp 134) (.tmp 136)⟩,
    ⟨none, none, .store 1 (.tmp 140) (.tmp 139)⟩]

def f4r24 : List AInstr := [
    ⟨(some 141), none, .fieldAddr 0 (.tmp 26)⟩,
    ⟨(some 142), none, .load none (.tmp 141)⟩]

def f4r25 : List AInstr := [
    ⟨(some 144), none, .mov (.tmp 2)⟩,
    ⟨(some 145), none, .ibin .eql (.tmp 142) (.tmp 144)⟩,
    ⟨(some 143), none, .mov (.tmp 145)⟩]

def f4r26 : List AInstr := [
    ⟨(some 146), none, .indexArr 1 2 (.tmp 14) (.const (.int .i64 0))⟩,
    ⟨(some 147), none, .load none (.tmp 146)⟩,
    ⟨(some 148), none, .fieldAddr 1 (.tmp 26)⟩,
    ⟨(some 149), none, .load none (.tmp 148)⟩,
    ⟨(some 150), none, .ibin .add (.tmp 147) (.tmp 149)⟩,
    ⟨(some 151), none, .indexArr 1 2 (.tmp 14) (.const (.int .i64 0))⟩,
    ⟨none, none, .store 1 (.tmp 151) (.tmp 150)⟩]

def f4r27 : List AInstr := [
    ⟨(some 153), none, .mov (.tmp 3)⟩,
    ⟨(some 154), none, .ibin .eql (.tmp 142) (.tmp 153)⟩,
    ⟨(some 152), none, .mov (.tmp 154)⟩]

def f4r28 : List AInstr := [
    ⟨(some 155), none, .indexArr 1 2 (.tmp 14) (.const (.int .i64 1))⟩,
    ⟨(some 156), none, .load none (.tmp 155)⟩,
    ⟨(some 157), none, .fieldAddr 1 (.tmp 26)⟩,
    ⟨(some 158), none, .load none (.tmp 157)⟩,
    ⟨(some 159), none, .ibin .add (.tmp 156) (.tmp 158)⟩,
    ⟨(some 160), none, .indexArr 1 2 (.tmp 14) (.const (.int .i64 1))⟩,
    ⟨none, none, .store 1 (.tmp 160) (.tmp 159)⟩]

def f4r29 : List AInstr := [
    ⟨(some 161), none, .mov (.tmp 13)⟩,
    ⟨(some 162), none, .mov (.tmp 2)⟩,
    ⟨(some 163), none, .indexAddr 1 (.tmp 161) (.tmp 162)⟩,
    ⟨(some 164), none, .load none (.tmp 163)⟩,
    ⟨(some 165), none, .ibin .eql (.tmp 164) (.const (.int .i64 0))⟩,
    ⟨(some 166), none, .mov (.tmp 165)⟩,
    ⟨(some 167), (some (166, false)), .mov (.tmp 13)⟩,
    ⟨(some 168), (some (166, false)), .mov (.tmp 3)⟩,
    ⟨(some 169), (some (166, false)), .indexAddr 1 (.tmp 167) (.tmp 168)⟩,
    ⟨(some 170), (some (166, false)), .load none (.tmp 169)⟩,
    ⟨(some 171), (some (166, false)), .ibin .eql (.tmp 170) (.const (.int .i64 0))⟩,
    ⟨(some 172), none, .pick (.tmp 166) (.const (.bool true)) (.tmp 171)⟩]

def f4r30 : List AInstr := [
    ⟨(some 22), none, .mov (.const (.bool false))⟩]

def f4r31 : List AInstr := [
    ⟨(some 173), none, .indexArr 1 2 (.tmp 14) (.const (.int .i64 0))⟩,
    ⟨(some 174), none, .load none (.tmp 173)⟩,
    ⟨(some 175), none, .mov (.tmp 0)⟩,
    ⟨(some 176), none, .mov (.tmp 3)⟩,
    ⟨(some 177), none, .indexAddr 1 (.tmp 175) (.tmp 176)⟩,
    ⟨(some 178), none, .load none (.tmp 177)⟩,
    ⟨(some 179), none, .ibin .mul (.tmp 174) (.tmp 178)⟩,
    ⟨(some 180), none, .indexArr 1 2 (.tmp 14) (.const (.int .i64 1))⟩,
    ⟨(some 181), none, .load none (.tmp 180)⟩,
    ⟨(some 182), none, .mov (.tmp 0)⟩,
    ⟨(some 183), none, .mov (.tmp 2)⟩,
    ⟨(some 184), none, .indexAddr 1 (.tmp 182) (.tmp 183)⟩,
    ⟨(some 185), none, .load none (.tmp 184)⟩,
    ⟨(some 186), none, .ibin .mul (.tmp 181) (.tmp 185)⟩,
    ⟨(some 187), none, .ibin .sub (.tmp 179) (.tmp 186)⟩,
    ⟨(some 27), none, .mov (.tmp 187)⟩]

def f4r32 : List AInstr := [
    ⟨(some 188), none, .mov (.tmp 22)⟩,
    ⟨(some 189), none, .un .not (.tmp 188)⟩]

def f4r33 : List AInstr := [
    ⟨(some 190), none, .mov (.tmp 27)⟩,
    ⟨(some 191), none, .mov (.tmp 27)⟩,
    ⟨(some 22), none, .mov (.const (.bool true))⟩,
    ⟨(some 15), none, .mov (.tmp 190)⟩,
    ⟨(some 16), none, .mov (.tmp 191)⟩]

def f4r34 : List AInstr := [
    ⟨(some 192), none, .mov (.tmp 15)⟩,
    ⟨(some 193), none, .mov (.tmp 27)⟩,
    ⟨(some 194), none, .minmax false [.tmp 192, .tmp 193]⟩,
    ⟨(some 195), none, .mov (.tmp 16)⟩,
    ⟨(some 196), none, .mov (.tmp 27)⟩,
    ⟨(some 197), none, .minmax true [.tmp 195, .tmp 196]⟩,
    ⟨(some 15), none, .mov (.tmp 194)⟩,
    ⟨(some 16), none, .mov (.tmp 197)⟩]

def f4r35 : List AInstr := [
    ⟨(some 198), none, .mov (.tmp 16)⟩,
    ⟨(some 199), none, .mov (.tmp 15)⟩,
    ⟨(some 200), none, .ibin .sub (.tmp 198) (.tmp 199)⟩,
    ⟨(some 201), none, .mov (.tmp 23)⟩,
    ⟨(some 202), none, .ibin .gtr (.tmp 200) (.tmp 201)⟩]

def f4r36 : List AInstr := [
    ⟨(some 8), none, .mov (.const (.bool false))⟩]

def f4r37 : List AInstr := [
    ⟨(some 203), none, .ibin .add (.tmp 104) (.const (.int .i64 1))⟩,
    ⟨(some 104), none, .mov (.tmp 203)⟩]

/-- live: [0, 2, 3, 9, 13, 14, 15, 16, 17, 19, 22, 23, 102, 103, 104] -/
def f4l0 : ACode := (.seq (.ops f4r14)
  (.keep [0, 2, 3, 9, 13, 14, 15, 16, 17, 19, 22, 23, 102, 103, 104, 105] (.seq (.cond (.tmp 105) .skip (.exit 0))
  (.keep [0, 2, 3, 9, 13, 14, 15, 16, 17, 19, 22, 23, 102, 103, 104] (.seq (.block 1 (.seq (.ops f4r15)
  (.keep [0, 2, 3, 9, 13, 14, 15, 16, 17, 19, 22, 23, 24, 25, 102, 103, 104] (.seq (.seq (.ops f4r16)
  (.keep [0, 2, 3, 9, 13, 14, 15, 16, 17, 19, 22, 23, 25, 102, 103, 104, 113] (.cond (.tmp 113) (.exit 1) .skip)))
  (.keep [0, 2, 3, 9, 13, 14, 15, 16, 17, 19, 22, 23, 25, 102, 103, 104] (.seq (.seq (.ops f4r17)
  (.keep [0, 2, 3, 9, 13, 14, 15, 16, 17, 19, 22, 23, 25, 102, 103, 104, 116] (.cond (.tmp 116) (.keep [0, 2, 3, 9, 13, 14, 15, 16, 17, 19, 22, 23, 25, 102, 103, 104] (.ops f4r18)) (.keep [0, 2, 3, 9, 13, 14, 15, 16, 17, 19, 22, 23, 102, 103, 104] (.seq (.seq (.ops f4r19)
  (.keep [0, 2, 3, 9, 13, 14, 15, 16, 17, 19, 22, 23, 102, 103, 104, 127] (.cond (.tmp 127) (.keep [] (.seq (.ops f4r20)
  (.keep [8] .ret))) .skip)))
  (.keep [0, 2, 3, 9, 13, 14, 15, 16, 17, 19, 22, 23, 102, 103, 104] (.seq (.ops f4r21)
  (.keep [0, 2, 3, 9, 13, 14, 15, 16, 17, 19, 22, 23, 26, 102, 103, 104] (.seq (.ops f4r22)
  (.keep [0, 2, 3, 9, 13, 14, 15, 16, 17, 19, 22, 23, 26, 102, 103, 104] (.seq (.ops f4r23)
  (.keep [0, 2, 3, 9, 13, 14, 15, 16, 17, 19, 22, 23, 26, 102, 103, 104] (.seq (.ops f4r24)
  (.keep [0, 2, 3, 9, 13, 14, 15, 16, 17, 19, 22, 23, 26, 102, 103, 104, 142] (.block 2 (.seq (.ops f4r25)
  (.keep [0, 2, 3, 9, 13, 14, 15, 16, 17, 19, 22, 23, 26, 102, 103, 104, 142, 143] (.cond (.tmp 143) (.keep [0, 2, 3, 9, 13, 14, 15, 16, 17, 19, 22, 23, 26, 102, 103, 104] (.ops f4r26)) (.keep [0, 2, 3, 9, 13, 14, 15, 16, 17, 19, 22, 23, 26, 102, 103, 104, 142] (.seq (.ops f4r27)
  (.keep [0, 2, 3, 9, 13, 14, 15, 16, 17, 19, 22, 23, 26, 102, 103, 104, 152] (.cond (.tmp 152) (.keep [0, 2, 3, 9, 13, 14, 15, 16, 17, 19, 22, 23, 26, 102, 103, 104] (.ops f4r28)) .skip))))))))))))))))))))))
  (.keep [0, 2, 3, 9, 13, 14, 15, 16, 17, 19, 22, 23, 102, 103, 104] (.seq (.seq (.ops f4r29)
  (.keep [0, 2, 3, 9, 13, 14, 15, 16, 17, 19, 22, 23, 102, 103, 104, 172] (.cond (.tmp 172) (.keep [0, 2, 3, 9, 13, 14, 15, 16, 17, 19, 23, 102, 103, 104] (.seq (.ops f4r30)
  (.exit 1))) .skip)))
  (.keep [0, 2, 3, 9, 13, 14, 15, 16, 17, 19, 22, 23, 102, 103, 104] (.seq (.draw f4r31 [(0, 0, false), (0, 0, false), (0, 0, false), (0, 0, false), (0, 0, false), (0, 0, false), (0, 0, false), (0, 0, false), (0, 0, false), (0, 0, false), (0, 0, false), (0, 0, false), (0, 0, false), (0, 0, false), (0, 0, false), (0, 0, false)])
  (.keep [0, 2, 3, 9, 13, 14, 15, 16, 17, 19, 22, 23, 27, 102, 103, 104] (.seq (.seq (.ops f4r32)
  (.keep [0, 2, 3, 9, 13, 14, 15, 16, 17, 19, 22, 23, 27, 102, 103, 104, 189] (.cond (.tmp 189) (.keep [0, 2, 3, 9, 13, 14, 17, 19, 23, 27, 102, 103, 104] (.ops f4r33)) .skip)))
  (.keep [0, 2, 3, 9, 13, 14, 15, 16, 17, 19, 22, 23, 27, 102, 103, 104] (.seq (.ops f4r34)
  (.keep [0, 2, 3, 9, 13, 14, 15, 16, 17, 19, 22, 23, 102, 103, 104] (.seq (.ops f4r35)
  (.keep [0, 2, 3, 9, 13, 14, 15, 16, 17, 19, 22, 23, 102, 103, 104, 202] (.cond (.tmp 202) (.keep [] (.seq (.ops f4r36)
  (.keep [8] .ret))) .skip))))))))))))))))))
  (.keep [0, 2, 3, 9, 13, 14, 15, 16, 17, 19, 22, 23, 102, 103, 104] (.ops f4r37)))))))

def f4r39 : List AInstr := [
    ⟨(some 8), none, .mov (.const (.bool true))⟩]

def f4b : ACode := (.seq (.ops f4r0)
  (.keep [0, 1, 2, 3] (.seq (.seq (.ops f4r1)
  (.keep [0, 1, 2, 3, 29] (.cond (.tmp 29) (.keep [] (.seq (.ops f4r2)
  (.keep [8] .ret))) .skip)))
  (.keep [0, 1, 2, 3] (.seq (.ops f4r3)
  (.keep [0, 1, 2, 3, 9, 12] (.seq (.seq (.ops f4r4)
  (.keep [0, 1, 2, 3, 9, 12, 71] (.cond (.tmp 71) (.keep [1, 9, 12] (.seq (.ops f4r5)
  (.keep [8] .ret))) .skip)))
  (.keep [0, 1, 2, 3, 9] (.seq (.ops f4r6)
  (.keep [0, 1, 2, 3, 9, 13] (.seq (.ops f4r7)
  (.keep [0, 1, 2, 3, 9, 13, 14] (.seq (.ops f4r8)
  (.keep [0, 1, 2, 3, 9, 13, 14, 15, 16] (.seq (.ops f4r9)
  (.keep [0, 1, 2, 3, 9, 13, 14, 15, 16, 17] (.seq (.ops f4r10)
  (.keep [0, 1, 2, 3, 9, 13, 14, 15, 16, 17, 19] (.seq (.ops f4r11)
  (.keep [0, 1, 2, 3, 9, 13, 14, 15, 16, 17, 19, 22] (.seq (.draw f4r12 [(0, 0, false), (0, 0, false), (0, 0, false), (0, 0, false), (0, 0, false), (0, 0, false), (0, 0, false), (0, 0, false), (0, 0, false), (0, 0, false), (0, 0, false)])
  (.keep [0, 1, 2, 3, 9, 13, 14, 15, 16, 17, 19, 22, 23] (.seq (.seq (.ops f4r13)
  (.keep [0, 2, 3, 9, 13, 14, 15, 16, 17, 19, 22, 23, 102, 103, 104] (.block 0 (.loop f4l0))))
  (.keep [] (.seq (.ops f4r39)
  (.keep [8] .ret))))))))))))))))))))))))))

def f4 : AFn := ⟨204, [.tmp 8], f4b⟩

theorem f4_ok : compFn Try.prog 4 = some f4.strip := by kernel_rfl

/- function 5: weirhouse/weirhousekeep.ScfqLight; parameters 2; operations that are not compiled: 0 -/
def f5r0 : List AInstr := [
    ⟨(some 4), none, .mov (.const (.bool false))⟩]

def f5r1 : List AInstr := [
    ⟨(some 12), none, .callF 6 []⟩,
    ⟨(some 13), none, .un .not (.tmp 12)⟩]

def f5r2 : List AInstr := [
    ⟨(some 4), none, .mov (.const (.bool false))⟩]

def f5r3 : List AInstr := [
    ⟨(some 14), none, .mov (.tmp 0)⟩,
    ⟨(some 15), none, .ibin .lss (.tmp 14) (.const (.int .i64 1))⟩,
    ⟨(some 16), none, .mov (.tmp 15)⟩,
    ⟨(some 17), (some (16, false)), .mov (.tmp 0)⟩,
    ⟨(some 18), (some (16, false)), .ibin .gtr (.tmp 17) (.const (.int .i64 1500))⟩,
    ⟨(some 19), none, .pick (.tmp 16) (.const (.bool true)) (.tmp 18)⟩,
    ⟨(some 20), none, .mov (.tmp 19)⟩,
    ⟨(some 21), (some (20, false)), .mov (.tmp 1)⟩,
    ⟨(some 22), (some (20, false)), .ibin .lss (.tmp 21) (.const (.int .i64 1))⟩,
    ⟨(some 23), none, .pick (.tmp 20) (.const (.bool true)) (.tmp 22)⟩,
    ⟨(some 24), none, .mov (.tmp 23)⟩,
    ⟨(some 25), (some (24, false)), .mov (.tmp 1)⟩,
    ⟨(some 26), (some (24, false)), .ibin .gtr (.tmp 25) (.const (.int .i64 50))⟩,
    ⟨(some 27), none, .pick (.tmp 24) (.const (.bool true)) (.tmp 26)⟩]

def f5r4 : List AInstr := [
    ⟨(some 4), none, .mov (.const (.bool true))⟩]

def f5r5 : List AInstr := [
    ⟨(some 5), none, .mov (.const (.slice none 0 0))⟩]

def f5r6 : List AInstr := [
    ⟨(some 28), none, .mov (.tmp 1)⟩,
    ⟨(some 29), none, .mov (.const (.int .i64 0))⟩]

def f5r7 : List AInstr := [
    ⟨(some 30), none, .ibin .lss (.tmp 29) (.tmp 28)⟩]

def f5r8 : List AInstr := [
    ⟨(some 31), none, .mov (.tmp 5)⟩,
    ⟨(some 32), none, .mov (.tmp 0)⟩,
    ⟨(some 33), none, .build [.int .i64 0, .int .i64 0, .int .i64 0] [(0, 1, (.const (.int .i64 1))), (2, 1, (.tmp 32))]⟩,
    ⟨(some 34), none, .buildSlice 3 1 [.int .i64 0, .int .i64 0, .int .i64 0] [(0, 3, (.tmp 33))]⟩,
    ⟨(some 35), none, .append 3 24 (.tmp 31) (.tmp 34)⟩,
    ⟨(some 5), none, .mov (.tmp 35)⟩]

def f5r9 : List AInstr := [
    ⟨(some 36), none, .ibin .add (.tmp 29) (.const (.int .i64 1))⟩,
    ⟨(some 29), none, .mov (.tmp 36)⟩]

/-- live: [0, 1, 5, 28, 29] -/
def f5l0 : ACode := (.seq (.ops f5r7)
  (.keep [0, 1, 5, 28, 29, 30] (.seq (.cond (.tmp 30) .skip (.exit 0))
  (.keep [0, 1, 5, 28, 29] (.seq (.block 1 (.ops f5r8))
  (.keep [0, 1, 5, 28, 29] (.ops f5r9)))))))

def f5r11 : List AInstr := [
    ⟨(some 37), none, .mov (.tmp 1)⟩,
    ⟨(some 38), none, .mov (.const (.int .i64 0))⟩]

def f5r12 : List AInstr := [
    ⟨(some 39), none, .ibin .lss (.tmp 38) (.tmp 37)⟩]

def f5r13 : List AInstr := [
    ⟨(some 40), none, .mov (.tmp 5)⟩,
    ⟨(some 41), none, .mov (.tmp 0)⟩,
    ⟨(some 42), none, .build [.int .i64 0, .int .i64 0, .int .i64 0] [(0, 1, (.const (.int .i64 1))), (1, 1, (.const (.int .i64 1))), (2, 1, (.tmp 41))]⟩,
    ⟨(some 43), none, .buildSlice 3 1 [.int .i64 0, .int .i64 0, .int .i64 0] [(0, 3, (.tmp 42))]⟩,
    ⟨(some 44), none, .append 3 24 (.tmp 40) (.tmp 43)⟩,
    ⟨(some 5), none, .mov (.tmp 44)⟩]

def f5r14 : List AInstr := [
    ⟨(some 45), none, .ibin .add (.tmp 38) (.const (.int .i64 1))⟩,
    ⟨(some 38), none, .mov (.tmp 45)⟩]

/-- live: [0, 1, 5, 37, 38] -/
def f5l1 : ACode := (.seq (.ops f5r12)
  (.keep [0, 1, 5, 37, 38, 39] (.seq (.cond (.tmp 39) .skip (.exit 2))
  (.keep [0, 1, 5, 37, 38] (.seq (.block 3 (.ops f5r13))
  (.keep [0, 1, 5, 37, 38] (.ops f5r14)))))))

def f5r16 : List AInstr := [
    ⟨(some 46), none, .mov (.tmp 1)⟩,
    ⟨(some 47), none, .ibin .mul (.const (.int .i64 2)) (.tmp 46)⟩,
    ⟨(some 48), none, .mov (.const (.int .i64 0))⟩]

def f5r17 : List AInstr := [
    ⟨(some 49), none, .ibin .lss (.tmp 48) (.tmp 47)⟩]

def f5r18 : List AInstr := [
    ⟨(some 50), none, .mov (.tmp 5)⟩,
    ⟨(some 51), none, .build [.int .i64 0, .int .i64 0, .int .i64 0] [(0, 1, (.const (.int .i64 2)))]⟩,
    ⟨(some 52), none, .buildSlice 3 1 [.int .i64 0, .int .i64 0, .int .i64 0] [(0, 3, (.tmp 51))]⟩,
    ⟨(some 53), none, .append 3 24 (.tmp 50) (.tmp 52)⟩,
    ⟨(some 5), none, .mov (.tmp 53)⟩]

def f5r19 : List AInstr := [
    ⟨(some 54), none, .ibin .add (.tmp 48) (.const (.int .i64 1))⟩,
    ⟨(some 48), none, .mov (.tmp 54)⟩]

/-- live: [1, 5, 47, 48] -/
def f5l2 : ACode := (.seq (.ops f5r17)
  (.keep [1, 5, 47, 48, 49] (.seq (.cond (.tmp 49) .skip (.exit 4))
  (.keep [1, 5, 47, 48] (.seq (.block 5 (.ops f5r18))
  (.keep [1, 5, 47, 48] (.ops f5r19)))))))

def f5r21 : List AInstr := [
    ⟨(some 56), none, .buildSlice 1 2 [.int .i64 0, .int .i64 0] [(0, 1, (.const (.int .i64 3))), (1, 1, (.const (.int .i64 3)))]⟩,
    ⟨(some 57), none, .mov (.tmp 5)⟩,
    ⟨(some 58), none, .callF 7 [.tmp 56, .tmp 57]⟩,
    ⟨(some 55), none, .mov (.tmp 58)⟩,
    ⟨(some 59), none, .extract 0 (.tmp 55)⟩,
    ⟨(some 60), none, .extract 1 (.tmp 55)⟩,
    ⟨(some 61), none, .extract 2 (.tmp 55)⟩,
    ⟨(some 62), none, .extract 3 (.tmp 55)⟩,
    ⟨(some 6), none, .mov (.tmp 59)⟩,
    ⟨(some 7), none, .mov (.tmp 60)⟩,
    ⟨(some 8), none, .mov (.tmp 61)⟩,
    ⟨(some 9), none, .mov (.tmp 62)⟩]

def f5r22 : List AInstr := [
    ⟨(some 63), none, .mov (.tmp 9)⟩,
    ⟨(some 64), none, .ibin .neq (.tmp 63) (.const (.int .i64 0))⟩,
    ⟨(some 65), none, .mov (.tmp 64)⟩,
    ⟨(some 66), (some (65, false)), .mov (.tmp 7)⟩,
    ⟨(some 67), (some (65, false)), .len (.tmp 66)⟩,
    ⟨(some 68), (some (65, false)), .mov (.tmp 1)⟩,
    ⟨(some 69), (some (65, false)), .ibin .mul (.const (.int .i64 2)) (.tmp 68)⟩,
    ⟨(some 70), (some (65, false)), .ibin .neq (.tmp 67) (.tmp 69)⟩,
    ⟨(some 71), none, .pick (.tmp 65) (.const (.bool true)) (.tmp 70)⟩]

def f5r23 : List AInstr := [
    ⟨(some 4), none, .mov (.const (.bool false))⟩]

def f5r24 : List AInstr := [
    ⟨(some 72), none, .mov (.tmp 7)⟩,
    ⟨(some 73), none, .len (.tmp 72)⟩,
    ⟨(some 74), none, .mov (.const (.int .i64 0))⟩]

def f5r25 : List AInstr := [
    ⟨(some 75), none, .ibin .lss (.tmp 74) (.tmp 73)⟩]

def f5r26 : List AInstr := [
    ⟨(some 76), none, .mov (.tmp 74)⟩,
    ⟨(some 77), none, .indexAddr 2 (.tmp 72) (.tmp 74)⟩,
    ⟨(some 78), none, .load (some 2) (.tmp 77)⟩,
    ⟨(some 11), none, .alloc [.int .i64 0, .int .i64 0]⟩,
    ⟨(some 10), none, .mov (.tmp 76)⟩,
    ⟨none, none, .store 2 (.tmp 11) (.tmp 78)⟩]

def f5r27 : List AInstr := [
    ⟨(some 79), none, .fieldAddr 0 (.tmp 11)⟩,
    ⟨(some 80), none, .load none (.tmp 79)⟩,
    ⟨(some 81), none, .mov (.tmp 10)⟩,
    ⟨(some 82), none, .ibin .rem (.tmp 81) (.const (.int .i64 2))⟩,
    ⟨(some 83), none, .ibin .neq (.tmp 80) (.tmp 82)⟩]

def f5r28 : List AInstr := [
    ⟨(some 4), none, .mov (.const (.bool false))⟩]

def f5r29 : List AInstr := [
    ⟨(some 84), none, .ibin .add (.tmp 74) (.const (.int .i64 1))⟩,
    ⟨(some 74), none, .mov (.tmp 84)⟩]

/-- live: [72, 73, 74] -/
def f5l3 : ACode := (.seq (.ops f5r25)
  (.keep [72, 73, 74, 75] (.seq (.cond (.tmp 75) .skip (.exit 6))
  (.keep [72, 73, 74] (.seq (.block 7 (.seq (.ops f5r26)
  (.keep [10, 11, 72, 73, 74] (.seq (.ops f5r27)
  (.keep [72, 73, 74, 83] (.cond (.tmp 83) (.keep [] (.seq (.ops f5r28)
  (.keep [4] .ret))) .skip))))))
  (.keep [72, 73, 74] (.ops f5r29)))))))

def f5r31 : List AInstr := [
    ⟨(some 4), none, .mov (.const (.bool true))⟩]

def f5b : ACode := (.seq (.ops f5r0)
  (.keep [0, 1] (.seq (.seq (.ops f5r1)
  (.keep [0, 1, 13] (.cond (.tmp 13) (.keep [] (.seq (.ops f5r2)
  (.keep [4] .ret))) .skip)))
  (.keep [0, 1] (.seq (.seq (.ops f5r3)
  (.keep [0, 1, 27] (.cond (.tmp 27) (.keep [] (.seq (.ops f5r4)
  (.keep [4] .ret))) .skip)))
  (.keep [0, 1] (.seq (.ops f5r5)
  (.keep [0, 1, 5] (.seq (.seq (.ops f5r6)
  (.keep [0, 1, 5, 28, 29] (.block 0 (.loop f5l0))))
  (.keep [0, 1, 5] (.seq (.seq (.ops f5r11)
  (.keep [0, 1, 5, 37, 38] (.block 2 (.loop f5l1))))
  (.keep [1, 5] (.seq (.seq (.ops f5r16)
  (.keep [1, 5, 47, 48] (.block 4 (.loop f5l2))))
  (.keep [1, 5] (.seq (.ops f5r21)
  (.keep [1, 7, 9] (.seq (.seq (.ops f5r22)
  (.keep [7, 71] (.cond (.tmp 71) (.keep [] (.seq (.ops f5r23)
  (.keep [4] .ret))) .skip)))
  (.keep [7] (.seq (.seq (.ops f5r24)
  (.keep [72, 73, 74] (.block 6 (.loop f5l3))))
  (.keep [] (.seq (.ops f5r31)
  (.keep [4] .ret))))))))))))))))))))))

def f5 : AFn := ⟨85, [.tmp 4], f5b⟩

theorem f5_ok : compFn Try.prog 5 = some f5.strip := by kernel_rfl

/- function 6: weirhouse/weirhousekeep.alive15; parameters 0; operations that are not compiled: 0 -/
def f6r0 : List AInstr := [
    ⟨(some 0), none, .mov (.const (.bool false))⟩]

def f6r1 : List AInstr := [
    ⟨(some 6), none, .buildSlice 1 2 [.int .i64 0, .int .i64 0] [(0, 1, (.const (.int .i64 1))), (1, 1, (.const (.int .i64 2)))]⟩,
    ⟨(some 7), none, .build [.int .i64 0, .int .i64 0, .int .i64 0] [(0, 1, (.const (.int .i64 1))), (2, 1, (.const (.int .i64 100)))]⟩,
    ⟨(some 8), none, .build [.int .i64 0, .int .i64 0, .int .i64 0] [(0, 1, (.const (.int .i64 1))), (1, 1, (.const (.int .i64 1))), (2, 1, (.const (.int .i64 150)))]⟩,
    ⟨(some 9), none, .build [.int .i64 0, .int .i64 0, .int .i64 0] [(0, 1, (.const (.int .i64 1))), (1, 1, (.const (.int .i64 1))), (2, 1, (.const (.int .i64 60)))]⟩,
    ⟨(some 10), none, .build [.int .i64 0, .int .i64 0, .int .i64 0] [(0, 1, (.const (.int .i64 2)))]⟩,
    ⟨(some 11), none, .build [.int .i64 0, .int .i64 0, .int .i64 0] [(0, 1, (.const (.int .i64 2)))]⟩,
    ⟨(some 12), none, .build [.int .i64 0, .int .i64 0, .int .i64 0] [(0, 1, (.const (.int .i64 2)))]⟩,
    ⟨(some 13), none, .build [.int .i64 0, .int .i64 0, .int .i64 0] [(0, 1, (.const (.int .i64 2)))]⟩,
    ⟨(some 14), none, .buildSlice 3 7 [.int .i64 0, .int .i64 0, .int .i64 0, .int .i64 0, .int .i64 0, .int .i64 0, .int .i64 0, .int .i64 0, .int .i64 0, .int .i64 0, .int .i64 0, .int .i64 0, .int .i64 0, .int .i64 0, .int .i64 0, .int .i64 0, .int .i64 0, .int .i64 0, .int .i64 0, .int .i64 0, .int .i64 0] [(0, 3, (.tmp 7)), (3, 3, (.tmp 8)), (6, 3, (.tmp 9)), (9, 3, (.tmp 10)), (12, 3, (.tmp 11)), (15, 3, (.tmp 12)), (18, 3, (.tmp 13))]⟩,
    ⟨(some 15), none, .callF 7 [.tmp 6, .tmp 14]⟩,
    ⟨(some 5), none, .mov (.tmp 15)⟩,
    ⟨(some 16), none, .extract 0 (.tmp 5)⟩,
    ⟨(some 17), none, .extract 1 (.tmp 5)⟩,
    ⟨(some 18), none, .extract 2 (.tmp 5)⟩,
    ⟨(some 19), none, .extract 3 (.tmp 5)⟩,
    ⟨(some 1), none, .mov (.tmp 16)⟩,
    ⟨(some 2), none, .mov (.tmp 17)⟩,
    ⟨(some 3), none, .mov (.tmp 18)⟩,
    ⟨(some 4), none, .mov (.tmp 19)⟩]

def f6r2 : List AInstr := [
    ⟨(some 20), none, .mov (.tmp 4)⟩,
    ⟨(some 21), none, .ibin .eql (.tmp 20) (.const (.int .i64 0))⟩,
    ⟨(some 22), none, .mov (.tmp 21)⟩,
    ⟨(some 23), (some (22, true)), .mov (.tmp 1)⟩,
    ⟨(some 24), (some (22, true)), .len (.tmp 23)⟩,
    ⟨(some 25), (some (22, true)), .ibin .eql (.tmp 24) (.const (.int .i64 7))⟩,
    ⟨(some 26), none, .pick (.tmp 22) (.tmp 25) (.const (.bool false))⟩,
    ⟨(some 27), none, .mov (.tmp 26)⟩,
    ⟨(some 28), (some (27, true)), .mov (.tmp 1)⟩,
    ⟨(some 29), (some (27, true)), .indexAddr 1 (.tmp 28) (.const (.int .i64 6))⟩,
    ⟨(some 30), (some (27, true)), .load none (.tmp 29)⟩,
    ⟨(some 31), (some (27, true)), .ibin .eql (.tmp 30) (.const (.int .i64 3))⟩,
    ⟨(some 32), none, .pick (.tmp 27) (.tmp 31) (.const (.bool false))⟩,
    ⟨(some 33), none, .mov (.tmp 32)⟩,
    ⟨(some 34), (some (33, true)), .mov (.tmp 2)⟩,
    ⟨(some 35), (some (33, true)), .build [.int .i64 0, .int .i64 0] [(0, 1, (.const (.int .i64 1))), (1, 1, (.const (.int .i64 150)))]⟩,
    ⟨(some 36), (some (33, true)), .build [.int .i64 0, .int .i64 0] [(0, 1, (.const (.int .i64 0))), (1, 1, (.const (.int .i64 100)))]⟩,
    ⟨(some 37), (some (33, true)), .build [.int .i64 0, .int .i64 0] [(0, 1, (.const (.int .i64 1))), (1, 1, (.const (.int .i64 60)))]⟩,
    ⟨(some 38), (some (33, true)), .buildSlice 2 3 [.int .i64 0, .int .i64 0, .int .i64 0, .int .i64 0, .int .i64 0, .int .i64 0] [(0, 2, (.tmp 35)), (2, 2, (.tmp 36)), (4, 2, (.tmp 37))]⟩,
    ⟨(some 39), (some (33, true)), .callF 9 [.tmp 34, .tmp 38]⟩,
    ⟨(some 40), none, .pick (.tmp 33) (.tmp 39) (.const (.bool false))⟩,
    ⟨(some 41), none, .mov (.tmp 40)⟩,
    ⟨(some 42), (some (41, true)), .mov (.tmp 3)⟩,
    ⟨(some 43), (some (41, true)), .buildSlice 1 2 [.int .i64 0, .int .i64 0] [(0, 1, (.const (.int .i64 0))), (1, 1, (.const (.int .i64 0)))]⟩,
    ⟨(some 44), (some (41, true)), .callF 10 [.tmp 42, .tmp 43]⟩,
    ⟨(some 45), none, .pick (.tmp 41) (.tmp 44) (.const (.bool false))⟩,
    ⟨(some 0), none, .mov (.tmp 45)⟩]

def f6b : ACode := (.seq (.ops f6r0)
  (.keep [] (.seq (.ops f6r1)
  (.keep [1, 2, 3, 4] (.seq (.ops f6r2)
  (.keep [0] .ret))))))

def f6 : AFn := ⟨46, [.tmp 0], f6b⟩

theorem f6_ok : compFn Try.prog 6 = some f6.strip := by kernel_rfl

/- function 7: weirhouse/scfq.Play; parameters 2; operations that are not compiled: 0 -/
def f7r0 : List AInstr := [
    ⟨(some 4), none, .mov (.const (.slice none 0 0))⟩,
    ⟨(some 5), none, .mov (.const (.slice none 0 0))⟩,
    ⟨(some 6), none, .mov (.const (.slice none 0 0))⟩,
    ⟨(some 7), none, .mov (.const (.int .i64 0))⟩]

def f7r1 : List AInstr := [
    ⟨(some 24), none, .mov (.tmp 0)⟩,
    ⟨(some 25), none, .callF 11 [.tmp 24]⟩,
    ⟨(some 8), none, .mov (.tmp 25)⟩]

def f7r2 : List AInstr := [
    ⟨(some 26), none, .mov (.tmp 8)⟩,
    ⟨(some 27), none, .ibin .neq (.tmp 26) (.const (.int .i64 0))⟩]

def f7r3 : List AInstr := [
    ⟨(some 28), none, .mov (.tmp 8)⟩,
    ⟨(some 4), none, .mov (.const (.slice none 0 0))⟩,
    ⟨(some 5), none, .mov (.const (.slice none 0 0))⟩,
    ⟨(some 6), none, .mov (.const (.slice none 0 0))⟩,
    ⟨(some 7), none, .mov (.tmp 28)⟩]

def f7r4 : List AInstr := [
    ⟨(some 29), none, .mov (.tmp 1)⟩,
    ⟨(some 30), none, .len (.tmp 29)⟩,
    ⟨(some 31), none, .ibin .gtr (.tmp 30) (.const (.int .i64 400))⟩]

def f7r5 : List AInstr := [
    ⟨(some 4), none, .mov (.const (.slice none 0 0))⟩,
    ⟨(some 5), none, .mov (.const (.slice none 0 0))⟩,
    ⟨(some 6), none, .mov (.const (.slice none 0 0))⟩,
    ⟨(some 7), none, .mov (.const (.int .i64 2))⟩]

def f7r6 : List AInstr := [
    ⟨(some 32), none, .mov (.tmp 0)⟩,
    ⟨(some 33), none, .len (.tmp 32)⟩,
    ⟨(some 34), none, .makeSlice 3 56 [.slice none 0 0, .slice none 0 0, .int .i64 0] (.tmp 33) (.tmp 33)⟩,
    ⟨(some 9), none, .mov (.tmp 34)⟩]

def f7r7 : List AInstr := [
    ⟨(some 10), none, .mov (.const (.int .i64 0))⟩]

def f7r8 : List AInstr := [
    ⟨(some 11), none, .mov (.const (.slice none 0 0))⟩]

def f7r9 : List AInstr := [
    ⟨(some 12), none, .mov (.const (.slice none 0 0))⟩]

def f7r10 : List AInstr := [
    ⟨(some 35), none, .mov (.tmp 1)⟩,
    ⟨(some 36), none, .len (.tmp 35)⟩,
    ⟨(some 37), none, .mov (.const (.int .i64 0))⟩]

def f7r11 : List AInstr := [
    ⟨(some 38), none, .ibin .lss (.tmp 37) (.tmp 36)⟩]

def f7r12 : List AInstr := [
    ⟨(some 39), none, .indexAddr 3 (.tmp 35) (.tmp 37)⟩,
    ⟨(some 40), none, .load (some 3) (.tmp 39)⟩,
    ⟨(some 14), none, .alloc [.int .i64 0, .int .i64 0, .int .i64 0]⟩,
    ⟨none, none, .store 3 (.tmp 14) (.tmp 40)⟩]

def f7r13 : List AInstr := [
    ⟨(some 15), none, .mov (.const (.int .i64 0))⟩]

def f7r14 : List AInstr := [
    ⟨(some 41), none, .fieldAddr 0 (.tmp 14)⟩,
    ⟨(some 42), none, .load none (.tmp 41)⟩]

def f7r15 : List AInstr := [
    ⟨(some 44), none, .ibin .eql (.tmp 42) (.const (.int .i64 1))⟩,
    ⟨(some 43), none, .mov (.tmp 44)⟩]

def f7r16 : List AInstr := [
    ⟨(some 93), none, .fieldAddr 1 (.tmp 14)⟩,
    ⟨(some 94), none, .load none (.tmp 93)⟩,
    ⟨(some 95), none, .ibin .lss (.tmp 94) (.const (.int .i64 0))⟩,
    ⟨(some 96), none, .mov (.tmp 95)⟩,
    ⟨(some 97), (some (96, false)), .fieldAddr 1 (.tmp 14)⟩,
    ⟨(some 98), (some (96, false)), .load none (.tmp 97)⟩,
    ⟨(some 99), (some (96, false)), .mov (.tmp 9)⟩,
    ⟨(some 100), (some (96, false)), .len (.tmp 99)⟩,
    ⟨(some 101), (some (96, false)), .ibin .geq (.tmp 98) (.tmp 100)⟩,
    ⟨(some 102), none, .pick (.tmp 96) (.const (.bool true)) (.tmp 101)⟩,
    ⟨(some 92), none, .mov (.tmp 102)⟩]

def f7r17 : List AInstr := [
    ⟨(some 15), none, .mov (.const (.int .i64 3))⟩]

def f7r18 : List AInstr := [
    ⟨(some 104), none, .fieldAddr 2 (.tmp 14)⟩,
    ⟨(some 105), none, .load none (.tmp 104)⟩,
    ⟨(some 106), none, .ibin .lss (.tmp 105) (.const (.int .i64 1))⟩,
    ⟨(some 107), none, .mov (.tmp 106)⟩,
    ⟨(some 108), (some (107, false)), .fieldAddr 2 (.tmp 14)⟩,
    ⟨(some 109), (some (107, false)), .load none (.tmp 108)⟩,
    ⟨(some 110), (some (107, false)), .ibin .gtr (.tmp 109) (.const (.int .i64 1500))⟩,
    ⟨(some 111), none, .pick (.tmp 107) (.const (.bool true)) (.tmp 110)⟩,
    ⟨(some 103), none, .mov (.tmp 111)⟩]

def f7r19 : List AInstr := [
    ⟨(some 15), none, .mov (.const (.int .i64 2))⟩]

def f7r20 : List AInstr := [
    ⟨(some 45), none, .mov (.tmp 9)⟩,
    ⟨(some 46), none, .fieldAddr 1 (.tmp 14)⟩,
    ⟨(some 47), none, .load none (.tmp 46)⟩,
    ⟨(some 48), none, .indexAddr 3 (.tmp 45) (.tmp 47)⟩,
    ⟨(some 16), none, .mov (.tmp 48)⟩]

def f7r21 : List AInstr := [
    ⟨(some 49), none, .mov (.tmp 16)⟩,
    ⟨(some 50), none, .mov (.tmp 16)⟩,
    ⟨(some 51), none, .nilCheck (.tmp 50)⟩,
    ⟨(some 52), none, .fieldAddr 2 (.tmp 51)⟩,
    ⟨(some 53), none, .load none (.tmp 52)⟩,
    ⟨(some 54), none, .mov (.tmp 10)⟩,
    ⟨(some 55), none, .minmax true [.tmp 53, .tmp 54]⟩,
    ⟨(some 56), none, .fieldAddr 2 (.tmp 14)⟩,
    ⟨(some 57), none, .load none (.tmp 56)⟩,
    ⟨(some 58), none, .mov (.tmp 0)⟩,
    ⟨(some 59), none, .fieldAddr 1 (.tmp 14)⟩,
    ⟨(some 60), none, .load none (.tmp 59)⟩,
    ⟨(some 61), none, .indexAddr 1 (.tmp 58) (.tmp 60)⟩,
    ⟨(some 62), none, .load none (.tmp 61)⟩,
    ⟨(some 63), none, .ibin .quo (.const (.int .i64 27720)) (.tmp 62)⟩,
    ⟨(some 64), none, .ibin .mul (.tmp 57) (.tmp 63)⟩,
    ⟨(some 65), none, .ibin .add (.tmp 55) (.tmp 64)⟩,
    ⟨(some 66), none, .nilCheck (.tmp 49)⟩,
    ⟨(some 67), none, .fieldAddr 2 (.tmp 66)⟩,
    ⟨none, none, .store 1 (.tmp 67) (.tmp 65)⟩]

def f7r22 : List AInstr := [
    ⟨(some 68), none, .mov (.tmp 16)⟩,
    ⟨(some 69), none, .mov (.tmp 16)⟩,
    ⟨(some 70), none, .mov (.tmp 16)⟩,
    ⟨(some 71), none, .nilCheck (.tmp 70)⟩,
    ⟨(some 72), none, .fieldAddr 0 (.tmp 71)⟩,
    ⟨(some 73), none, .load none (.tmp 72)⟩,
    ⟨(some 74), none, .fieldAddr 2 (.tmp 14)⟩,
    ⟨(some 75), none, .load none (.tmp 74)⟩,
    ⟨(some 76), none, .buildSlice 1 1 [.int .i64 0] [(0, 1, (.tmp 75))]⟩,
    ⟨(some 77), none, .append 1 8 (.tmp 73) (.tmp 76)⟩,
    ⟨(some 78), none, .mov (.tmp 16)⟩,
    ⟨(some 79), none, .nilCheck (.tmp 78)⟩,
    ⟨(some 80), none, .fieldAddr 1 (.tmp 79)⟩,
    ⟨(some 81), none, .load none (.tmp 80)⟩,
    ⟨(some 82), none, .mov (.tmp 16)⟩,
    ⟨(some 83), none, .nilCheck (.tmp 82)⟩,
    ⟨(some 84), none, .fieldAddr 2 (.tmp 83)⟩,
    ⟨(some 85), none, .load none (.tmp 84)⟩,
    ⟨(some 86), none, .buildSlice 1 1 [.int .i64 0] [(0, 1, (.tmp 85))]⟩,
    ⟨(some 87), none, .append 1 8 (.tmp 81) (.tmp 86)⟩,
    ⟨(some 88), none, .nilCheck (.tmp 68)⟩,
    ⟨(some 89), none, .fieldAddr 0 (.tmp 88)⟩,
    ⟨none, none, .store 1 (.tmp 89) (.tmp 77)⟩,
    ⟨(some 90), none, .nilCheck (.tmp 69)⟩,
    ⟨(some 91), none, .fieldAddr 1 (.tmp 90)⟩,
    ⟨none, none, .store 1 (.tmp 91) (.tmp 87)⟩]

def f7r23 : List AInstr := [
    ⟨(some 68), none, .mov (.tmp 16)⟩,
    ⟨(some 69), none, .mov (.tmp 16)⟩,
    ⟨(some 70), none, .mov (.tmp 16)⟩,
    ⟨(some 71), none, .nilCheck (.tmp 70)⟩,
    ⟨(some 72), none, .fieldAddr 0 (.tmp 71)⟩,
    ⟨(some 73), none, .load none (.tmp 72)⟩,
    ⟨(some 74), none, .fieldAddr 2 (.tmp 14)⟩,
    ⟨(some 75), none, .load none (.tmp 74)⟩,
    ⟨(some 76), none, .buildSlice 1 1 [.int .i64 0] [(0, 1, (.tmp 75))]⟩,
    ⟨(some 78), none, .mov (.tmp 16)⟩,
    ⟨(some 79), none, .nilCheck (.tmp 78)⟩,
    ⟨(some 80), none, .fieldAddr 1 (.tmp 79)⟩,
    ⟨(some 81), none, .load none (.tmp 80)⟩,
    ⟨(some 82), none, .mov (.tmp 16)⟩,
    ⟨(some 83), none, .nilCheck (.tmp 82)⟩,
    ⟨(some 84), none, .fieldAddr 2 (.tmp 83)⟩,
    ⟨(some 85), none, .load none (.tmp 84)⟩,
    ⟨(some 86), none, .buildSlice 1 1 [.int .i64 0] [(0, 1, (.tmp 85))]⟩,
    ⟨(some 77), none, .append 1 8 (.tmp 73) (.tmp 76)⟩,
    ⟨(some 87), none, .append 1 8 (.tmp 81) (.tmp 86)⟩,
    ⟨(some 88), none, .nilCheck (.tmp 68)⟩,
    ⟨(some 89), none, .fieldAddr 0 (.tmp 88)⟩,
    ⟨none, none, .store 1 (.tmp 89) (.tmp 77)⟩,
    ⟨(some 90), none, .nilCheck (.tmp 69)⟩,
    ⟨(some 91), none, .fieldAddr 1 (.tmp 90)⟩,
    ⟨none, none, .store 1 (.tmp 91) (.tmp 87)⟩]

def f7r24 : List AInstr := [
    ⟨(some 68), none, .mov (.tmp 16)⟩,
    ⟨(some 69), none, .mov (.tmp 16)⟩,
    ⟨(some 70), none, .mov (.tmp 16)⟩,
    ⟨(some 71), none, .nilCheck (.tmp 70)⟩,
    ⟨(some 72), none, .fieldAddr 0 (.tmp 71)⟩,
    ⟨(some 73), none, .load none (.tmp 72)⟩,
    ⟨(some 74), none, .fieldAddr 2 (.tmp 14)⟩,
    ⟨(some 75), none, .load none (.tmp 74)⟩,
    ⟨(some 78), none, .mov (.tmp 16)⟩,
    ⟨(some 79), none, .nilCheck (.tmp 78)⟩,
    ⟨(some 80), none, .fieldAddr 1 (.tmp 79)⟩,
    ⟨(some 81), none, .load none (.tmp 80)⟩,
    ⟨(some 82), none, .mov (.tmp 16)⟩,
    ⟨(some 83), none, .nilCheck (.tmp 82)⟩,
    ⟨(some 84), none, .fieldAddr 2 (.tmp 83)⟩,
    ⟨(some 85), none, .load none (.tmp 84)⟩,
    ⟨(some 86), none, .buildSlice 1 1 [.int .i64 0] [(0, 1, (.tmp 85))]⟩,
    ⟨(some 76), none, .buildSlice 1 1 [.int .i64 0] [(0, 1, (.tmp 75))]⟩,
    ⟨(some 77), none, .append 1 8 (.tmp 73) (.tmp 76)⟩,
    ⟨(some 87), none, .append 1 8 (.tmp 81) (.tmp 86)⟩,
    ⟨(some 88), none, .nilCheck (.tmp 68)⟩,
    ⟨(some 89), none, .fieldAddr 0 (.tmp 88)⟩,
    ⟨none, none, .store 1 (.tmp 89) (.tmp 77)⟩,
    ⟨(some 90), none, .nilCheck (.tmp 69)⟩,
    ⟨(some 91), none, .fieldAddr 1 (.tmp 90)⟩,
    ⟨none, none, .store 1 (.tmp 91) (.tmp 87)⟩]

def f7r25 : List AInstr := [
    ⟨(some 113), none, .ibin .eql (.tmp 42) (.const (.int .i64 2))⟩,
    ⟨(some 112), none, .mov (.tmp 113)⟩]

def f7r26 : List AInstr := [
    ⟨(some 17), none, .mov (.const (.int .i64 (-1)))⟩]

def f7r27 : List AInstr := [
    ⟨(some 114), none, .mov (.tmp 9)⟩,
    ⟨(some 115), none, .len (.tmp 114)⟩,
    ⟨(some 116), none, .mov (.const (.int .i64 0))⟩]

def f7r28 : List AInstr := [
    ⟨(some 117), none, .ibin .lss (.tmp 116) (.tmp 115)⟩]

def f7r29 : List AInstr := [
    ⟨(some 118), none, .mov (.tmp 116)⟩,
    ⟨(some 119), none, .indexAddr 3 (.tmp 114) (.tmp 116)⟩,
    ⟨(some 120), none, .load (some 3) (.tmp 119)⟩,
    ⟨(some 19), none, .alloc [.slice none 0 0, .slice none 0 0, .int .i64 0]⟩,
    ⟨(some 18), none, .mov (.tmp 118)⟩,
    ⟨none, none, .store 3 (.tmp 19) (.tmp 120)⟩]

def f7r30 : List AInstr := [
    ⟨(some 121), none, .fieldAddr 1 (.tmp 19)⟩,
    ⟨(some 122), none, .load none (.tmp 121)⟩,
    ⟨(some 123), none, .len (.tmp 122)⟩,
    ⟨(some 124), none, .ibin .gtr (.tmp 123) (.const (.int .i64 0))⟩,
    ⟨(some 125), none, .mov (.tmp 124)⟩,
    ⟨(some 126), (some (125, true)), .mov (.tmp 17)⟩,
    ⟨(some 127), (some (125, true)), .ibin .lss (.tmp 126) (.const (.int .i64 0))⟩,
    ⟨(some 128), (some (125, true)), .mov (.tmp 127)⟩,
    ⟨(some 129), (some (128, false)), .fieldAddr 1 (.tmp 19)⟩,
    ⟨(some 130), (some (128, false)), .load none (.tmp 129)⟩,
    ⟨(some 131), (some (128, false)), .indexAddr 1 (.tmp 130) (.const (.int .i64 0))⟩,
    ⟨(some 132), (some (128, false)), .load none (.tmp 131)⟩,
    ⟨(some 133), (some (128, false)), .mov (.tmp 9)⟩,
    ⟨(some 134), (some (128, false)), .mov (.tmp 17)⟩,
    ⟨(some 135), (some (128, false)), .indexAddr 3 (.tmp 133) (.tmp 134)⟩,
    ⟨(some 136), (some (128, false)), .fieldAddr 1 (.tmp 135)⟩,
    ⟨(some 137), (some (128, false)), .load none (.tmp 136)⟩,
    ⟨(some 138), (some (128, false)), .indexAddr 1 (.tmp 137) (.const (.int .i64 0))⟩,
    ⟨(some 139), (some (128, false)), .load none (.tmp 138)⟩,
    ⟨(some 140), (some (128, false)), .ibin .lss (.tmp 132) (.tmp 139)⟩,
    ⟨(some 141), (some (125, true)), .pick (.tmp 128) (.const (.bool true)) (.tmp 140)⟩,
    ⟨(some 142), none, .pick (.tmp 125) (.tmp 141) (.const (.bool false))⟩]

def f7r31 : List AInstr := [
    ⟨(some 143), none, .mov (.tmp 18)⟩,
    ⟨(some 17), none, .mov (.tmp 143)⟩]

def f7r32 : List AInstr := [
    ⟨(some 144), none, .ibin .add (.tmp 116) (.const (.int .i64 1))⟩,
    ⟨(some 116), none, .mov (.tmp 144)⟩]

/-- live: [0, 9, 10, 11, 12, 15, 17, 35, 36, 37, 114, 115, 116] -/
def f7l0 : ACode := (.seq (.ops f7r28)
  (.keep [0, 9, 10, 11, 12, 15, 17, 35, 36, 37, 114, 115, 116, 117] (.seq (.cond (.tmp 117) .skip (.exit 4))
  (.keep [0, 9, 10, 11, 12, 15, 17, 35, 36, 37, 114, 115, 116] (.seq (.block 5 (.seq (.ops f7r29)
  (.keep [0, 9, 10, 11, 12, 15, 17, 18, 19, 35, 36, 37, 114, 115, 116] (.seq (.draw f7r30 [(0, 0, false), (0, 0, false), (0, 0, false), (0, 0, false), (0, 0, false), (0, 0, false), (0, 0, false), (0, 0, false), (0, 0, false), (0, 0, false), (0, 0, false), (0, 0, false), (0, 0, false), (0, 0, false), (0, 0, false), (0, 0, false), (0, 0, false), (0, 0, false), (0, 0, false), (0, 0, false), (0, 0, false), (0, 0, false)])
  (.keep [0, 9, 10, 11, 12, 15, 17, 18, 35, 36, 37, 114, 115, 116, 142] (.cond (.tmp 142) (.keep [0, 9, 10, 11, 12, 15, 18, 35, 36, 37, 114, 115, 116] (.ops f7r31)) .skip))))))
  (.keep [0, 9, 10, 11, 12, 15, 17, 35, 36, 37, 114, 115, 116] (.ops f7r32)))))))

def f7r34 : List AInstr := [
    ⟨(some 145), none, .mov (.tmp 17)⟩,
    ⟨(some 146), none, .ibin .lss (.tmp 145) (.const (.int .i64 0))⟩]

def f7r35 : List AInstr := [
    ⟨(some 15), none, .mov (.const (.int .i64 3))⟩]

def f7r36 : List AInstr := [
    ⟨(some 147), none, .mov (.tmp 9)⟩,
    ⟨(some 148), none, .mov (.tmp 17)⟩,
    ⟨(some 149), none, .indexAddr 3 (.tmp 147) (.tmp 148)⟩,
    ⟨(some 20), none, .mov (.tmp 149)⟩]

def f7r37 : List AInstr := [
    ⟨(some 150), none, .mov (.tmp 20)⟩,
    ⟨(some 151), none, .nilCheck (.tmp 150)⟩,
    ⟨(some 152), none, .fieldAddr 1 (.tmp 151)⟩,
    ⟨(some 153), none, .load none (.tmp 152)⟩,
    ⟨(some 154), none, .indexAddr 1 (.tmp 153) (.const (.int .i64 0))⟩,
    ⟨(some 155), none, .load none (.tmp 154)⟩,
    ⟨(some 10), none, .mov (.tmp 155)⟩]

def f7r38 : List AInstr := [
    ⟨(some 156), none, .mov (.tmp 12)⟩,
    ⟨(some 157), none, .mov (.tmp 17)⟩,
    ⟨(some 158), none, .mov (.tmp 20)⟩,
    ⟨(some 159), none, .nilCheck (.tmp 158)⟩,
    ⟨(some 160), none, .fieldAddr 0 (.tmp 159)⟩,
    ⟨(some 161), none, .load none (.tmp 160)⟩,
    ⟨(some 162), none, .indexAddr 1 (.tmp 161) (.const (.int .i64 0))⟩,
    ⟨(some 163), none, .load none (.tmp 162)⟩,
    ⟨(some 164), none, .build [.int .i64 0, .int .i64 0] [(0, 1, (.tmp 157)), (1, 1, (.tmp 163))]⟩,
    ⟨(some 165), none, .buildSlice 2 1 [.int .i64 0, .int .i64 0] [(0, 2, (.tmp 164))]⟩,
    ⟨(some 166), none, .append 2 16 (.tmp 156) (.tmp 165)⟩,
    ⟨(some 12), none, .mov (.tmp 166)⟩]

def f7r39 : List AInstr := [
    ⟨(some 167), none, .mov (.tmp 20)⟩,
    ⟨(some 168), none, .mov (.tmp 20)⟩,
    ⟨(some 169), none, .mov (.tmp 20)⟩,
    ⟨(some 170), none, .nilCheck (.tmp 169)⟩,
    ⟨(some 171), none, .fieldAddr 0 (.tmp 170)⟩,
    ⟨(some 172), none, .load none (.tmp 171)⟩,
    ⟨(some 173), none, .slice 1 (.tmp 172) (some (.const (.int .i64 1))) none none⟩,
    ⟨(some 174), none, .mov (.tmp 20)⟩,
    ⟨(some 175), none, .nilCheck (.tmp 174)⟩,
    ⟨(some 176), none, .fieldAddr 1 (.tmp 175)⟩,
    ⟨(some 177), none, .load none (.tmp 176)⟩,
    ⟨(some 178), none, .slice 1 (.tmp 177) (some (.const (.int .i64 1))) none none⟩,
    ⟨(some 179), none, .nilCheck (.tmp 167)⟩,
    ⟨(some 180), none, .fieldAddr 0 (.tmp 179)⟩,
    ⟨none, none, .store 1 (.tmp 180) (.tmp 173)⟩,
    ⟨(some 181), none, .nilCheck (.tmp 168)⟩,
    ⟨(some 182), none, .fieldAddr 1 (.tmp 181)⟩,
    ⟨none, none, .store 1 (.tmp 182) (.tmp 178)⟩]

def f7r40 : List AInstr := [
    ⟨(some 15), none, .mov (.const (.int .i64 5))⟩]

def f7r41 : List AInstr := [
    ⟨(some 183), none, .mov (.tmp 11)⟩,
    ⟨(some 184), none, .mov (.tmp 15)⟩,
    ⟨(some 185), none, .buildSlice 1 1 [.int .i64 0] [(0, 1, (.tmp 184))]⟩,
    ⟨(some 186), none, .append 1 8 (.tmp 183) (.tmp 185)⟩,
    ⟨(some 11), none, .mov (.tmp 186)⟩]

def f7r42 : List AInstr := [
    ⟨(some 187), none, .ibin .add (.tmp 37) (.const (.int .i64 1))⟩,
    ⟨(some 37), none, .mov (.tmp 187)⟩]

/-- live: [0, 9, 10, 11, 12, 35, 36, 37] -/
def f7l1 : ACode := (.seq (.ops f7r11)
  (.keep [0, 9, 10, 11, 12, 35, 36, 37, 38] (.seq (.cond (.tmp 38) .skip (.exit 0))
  (.keep [0, 9, 10, 11, 12, 35, 36, 37] (.seq (.block 1 (.seq (.ops f7r12)
  (.keep [0, 9, 10, 11, 12, 14, 35, 36, 37] (.seq (.ops f7r13)
  (.keep [0, 9, 10, 11, 12, 14, 15, 35, 36, 37] (.seq (.seq (.ops f7r14)
  (.keep [0, 9, 10, 11, 12, 14, 15, 35, 36, 37, 42] (.block 2 (.seq (.ops f7r15)
  (.keep [0, 9, 10, 11, 12, 14, 15, 35, 36, 37, 42, 43] (.cond (.tmp 43) (.keep [0, 9, 10, 11, 12, 14, 15, 35, 36, 37] (.block 3 (.seq (.ops f7r16)
  (.keep [0, 9, 10, 11, 12, 14, 15, 35, 36, 37, 92] (.cond (.tmp 92) (.keep [0, 9, 10, 11, 12, 35, 36, 37] (.ops f7r17)) (.keep [0, 9, 10, 11, 12, 14, 15, 35, 36, 37] (.seq (.ops f7r18)
  (.keep [0, 9, 10, 11, 12, 14, 15, 35, 36, 37, 103] (.cond (.tmp 103) (.keep [0, 9, 10, 11, 12, 35, 36, 37] (.ops f7r19)) (.keep [0, 9, 10, 11, 12, 14, 15, 35, 36, 37] (.seq (.ops f7r20)
  (.keep [0, 9, 10, 11, 12, 14, 15, 16, 35, 36, 37] (.seq (.draw f7r21 [(0, 0, false), (0, 0, false), (0, 0, false), (0, 0, false), (0, 0, false), (0, 0, false), (0, 0, false), (0, 0, false), (0, 0, false), (0, 0, false), (0, 0, false), (0, 0, false), (0, 0, false), (0, 0, false), (0, 0, false), (0, 0, false), (0, 0, false), (0, 0, false), (0, 0, false), (0, 1, true)])
  (.keep [0, 9, 10, 11, 12, 14, 15, 16, 35, 36, 37] (.alt [(f7r22, [(0, 4, false), (0, 5, false), (0, 1, false), (0, 1, false), (0, 1, false), (0, 1, false), (0, 0, false), (0, 0, false), (0, 1, true), (1, 2, true), (0, 3, false), (0, 3, false), (0, 3, false), (0, 3, false), (0, 2, false), (0, 2, false), (0, 2, false), (0, 2, false), (2, 3, true), (3, 4, true), (4, 4, false), (4, 4, false), (4, 5, true), (5, 5, false), (5, 5, false), (5, 6, true)]), (f7r23, [(0, 4, false), (0, 5, false), (0, 2, false), (0, 2, false), (0, 2, false), (0, 2, false), (0, 0, false), (0, 0, false), (0, 1, true), (0, 3, false), (0, 3, false), (0, 3, false), (0, 3, false), (0, 1, false), (0, 1, false), (0, 1, false), (0, 1, false), (1, 2, true), (2, 3, true), (3, 4, true), (4, 4, false), (4, 4, false), (4, 5, true), (5, 5, false), (5, 5, false), (5, 6, true)]), (f7r24, [(0, 4, false), (0, 5, false), (0, 2, false), (0, 2, false), (0, 2, false), (0, 2, false), (0, 1, false), (0, 1, false), (0, 3, false), (0, 3, false), (0, 3, false), (0, 3, false), (0, 0, false), (0, 0, false), (0, 0, false), (0, 0, false), (0, 1, true), (1, 2, true), (2, 3, true), (3, 4, true), (4, 4, false), (4, 4, false), (4, 5, true), (5, 5, false), (5, 5, false), (5, 6, true)])]))))))))))))))) (.keep [0, 9, 10, 11, 12, 15, 35, 36, 37, 42] (.seq (.ops f7r25)
  (.keep [0, 9, 10, 11, 12, 15, 35, 36, 37, 112] (.cond (.tmp 112) (.keep [0, 9, 10, 11, 12, 15, 35, 36, 37] (.seq (.ops f7r26)
  (.keep [0, 9, 10, 11, 12, 15, 17, 35, 36, 37] (.seq (.seq (.ops f7r27)
  (.keep [0, 9, 10, 11, 12, 15, 17, 35, 36, 37, 114, 115, 116] (.block 4 (.loop f7l0))))
  (.keep [0, 9, 10, 11, 12, 15, 17, 35, 36, 37] (.seq (.seq (.ops f7r34)
  (.keep [0, 9, 10, 11, 12, 15, 17, 35, 36, 37, 146] (.cond (.tmp 146) (.keep [0, 9, 10, 11, 12, 35, 36, 37] (.seq (.ops f7r35)
  (.exit 2))) .skip)))
  (.keep [0, 9, 11, 12, 15, 17, 35, 36, 37] (.seq (.ops f7r36)
  (.keep [0, 9, 11, 12, 15, 17, 20, 35, 36, 37] (.seq (.ops f7r37)
  (.keep [0, 9, 10, 11, 12, 15, 17, 20, 35, 36, 37] (.seq (.ops f7r38)
  (.keep [0, 9, 10, 11, 12, 15, 20, 35, 36, 37] (.draw f7r39 [(0, 0, false), (0, 1, false), (0, 0, false), (0, 0, false), (0, 0, false), (0, 0, false), (0, 0, false), (0, 0, false), (0, 0, false), (0, 0, false), (0, 0, false), (0, 1, false), (0, 0, false), (0, 0, false), (0, 1, true), (1, 1, false), (1, 1, false), (1, 2, true)])))))))))))))) (.keep [0, 9, 10, 11, 12, 35, 36, 37] (.ops f7r40))))))))))))
  (.keep [0, 9, 10, 11, 12, 15, 35, 36, 37] (.ops f7r41))))))))
  (.keep [0, 9, 10, 11, 12, 35, 36, 37] (.ops f7r42)))))))

def f7r44 : List AInstr := [
    ⟨(some 21), none, .mov (.const (.slice none 0 0))⟩]

def f7r45 : List AInstr := [
    ⟨(some 188), none, .mov (.tmp 9)⟩,
    ⟨(some 189), none, .len (.tmp 188)⟩,
    ⟨(some 190), none, .mov (.const (.int .i64 0))⟩]

def f7r46 : List AInstr := [
    ⟨(some 191), none, .ibin .lss (.tmp 190) (.tmp 189)⟩]

def f7r47 : List AInstr := [
    ⟨(some 192), none, .indexAddr 3 (.tmp 188) (.tmp 190)⟩,
    ⟨(some 193), none, .load (some 3) (.tmp 192)⟩,
    ⟨(some 23), none, .alloc [.slice none 0 0, .slice none 0 0, .int .i64 0]⟩,
    ⟨none, none, .store 3 (.tmp 23) (.tmp 193)⟩]

def f7r48 : List AInstr := [
    ⟨(some 194), none, .mov (.tmp 21)⟩,
    ⟨(some 195), none, .fieldAddr 1 (.tmp 23)⟩,
    ⟨(some 196), none, .load none (.tmp 195)⟩,
    ⟨(some 197), none, .len (.tmp 196)⟩,
    ⟨(some 198), none, .buildSlice 1 1 [.int .i64 0] [(0, 1, (.tmp 197))]⟩,
    ⟨(some 199), none, .append 1 8 (.tmp 194) (.tmp 198)⟩,
    ⟨(some 21), none, .mov (.tmp 199)⟩]

def f7r49 : List AInstr := [
    ⟨(some 200), none, .ibin .add (.tmp 190) (.const (.int .i64 1))⟩,
    ⟨(some 190), none, .mov (.tmp 200)⟩]

/-- live: [11, 12, 21, 188, 189, 190] -/
def f7l2 : ACode := (.seq (.ops f7r46)
  (.keep [11, 12, 21, 188, 189, 190, 191] (.seq (.cond (.tmp 191) .skip (.exit 6))
  (.keep [11, 12, 21, 188, 189, 190] (.seq (.block 7 (.seq (.ops f7r47)
  (.keep [11, 12, 21, 23, 188, 189, 190] (.ops f7r48))))
  (.keep [11, 12, 21, 188, 189, 190] (.ops f7r49)))))))

def f7r51 : List AInstr := [
    ⟨(some 201), none, .mov (.tmp 11)⟩,
    ⟨(some 202), none, .mov (.tmp 12)⟩,
    ⟨(some 203), none, .mov (.tmp 21)⟩,
    ⟨(some 4), none, .mov (.tmp 201)⟩,
    ⟨(some 5), none, .mov (.tmp 202)⟩,
    ⟨(some 6), none, .mov (.tmp 203)⟩,
    ⟨(some 7), none, .mov (.const (.int .i64 0))⟩]

def f7b : ACode := (.seq (.ops f7r0)
  (.keep [0, 1] (.seq (.seq (.ops f7r1)
  (.keep [0, 1, 8] (.seq (.ops f7r2)
  (.keep [0, 1, 8, 27] (.cond (.tmp 27) (.keep [8] (.seq (.ops f7r3)
  (.keep [4, 5, 6, 7] .ret))) .skip)))))
  (.keep [0, 1] (.seq (.seq (.ops f7r4)
  (.keep [0, 1, 31] (.cond (.tmp 31) (.keep [] (.seq (.ops f7r5)
  (.keep [4, 5, 6, 7] .ret))) .skip)))
  (.keep [0, 1] (.seq (.ops f7r6)
  (.keep [0, 1, 9] (.seq (.ops f7r7)
  (.keep [0, 1, 9, 10] (.seq (.ops f7r8)
  (.keep [0, 1, 9, 10, 11] (.seq (.ops f7r9)
  (.keep [0, 1, 9, 10, 11, 12] (.seq (.seq (.ops f7r10)
  (.keep [0, 9, 10, 11, 12, 35, 36, 37] (.block 0 (.loop f7l1))))
  (.keep [9, 11, 12] (.seq (.ops f7r44)
  (.keep [9, 11, 12, 21] (.seq (.seq (.ops f7r45)
  (.keep [11, 12, 21, 188, 189, 190] (.block 6 (.loop f7l2))))
  (.keep [11, 12, 21] (.seq (.ops f7r51)
  (.keep [4, 5, 6, 7] .ret))))))))))))))))))))))

def f7 : AFn := ⟨204, [.tmp 4, .tmp 5, .tmp 6, .tmp 7], f7b⟩

theorem f7_ok : compFn Try.prog 7 = some f7.strip := by kernel_rfl

/- function 8: weirhouse/weirhousekeep.flowsKept; parameters 5; operations that are not compiled: 0 -/
def f8r0 : List AInstr := [
    ⟨(some 10), none, .mov (.const (.bool false))⟩]

def f8r1 : List AInstr := [
    ⟨(some 18), none, .mov (.tmp 2)⟩,
    ⟨(some 19), none, .len (.tmp 18)⟩,
    ⟨(some 20), none, .mov (.tmp 1)⟩,
    ⟨(some 21), none, .len (.tmp 20)⟩,
    ⟨(some 22), none, .ibin .neq (.tmp 19) (.tmp 21)⟩,
    ⟨(some 23), none, .mov (.tmp 22)⟩,
    ⟨(some 24), (some (23, false)), .mov (.tmp 4)⟩,
    ⟨(some 25), (some (23, false)), .len (.tmp 24)⟩,
    ⟨(some 26), (some (23, false)), .mov (.tmp 0)⟩,
    ⟨(some 27), (some (23, false)), .ibin .neq (.tmp 25) (.tmp 26)⟩,
    ⟨(some 28), none, .pick (.tmp 23) (.const (.bool true)) (.tmp 27)⟩]

def f8r2 : List AInstr := [
    ⟨(some 10), none, .mov (.const (.bool false))⟩]

def f8r3 : List AInstr := [
    ⟨(some 29), none, .mov (.tmp 0)⟩,
    ⟨(some 30), none, .makeSlice 1 24 [.slice none 0 0] (.tmp 29) (.tmp 29)⟩,
    ⟨(some 11), none, .mov (.tmp 30)⟩]

def f8r4 : List AInstr := [
    ⟨(some 31), none, .mov (.tmp 1)⟩,
    ⟨(some 32), none, .len (.tmp 31)⟩,
    ⟨(some 33), none, .mov (.const (.int .i64 0))⟩]

def f8r5 : List AInstr := [
    ⟨(some 34), none, .ibin .lss (.tmp 33) (.tmp 32)⟩]

def f8r6 : List AInstr := [
    ⟨(some 35), none, .mov (.tmp 33)⟩,
    ⟨(some 36), none, .indexAddr 3 (.tmp 31) (.tmp 33)⟩,
    ⟨(some 37), none, .load (some 3) (.tmp 36)⟩,
    ⟨(some 13), none, .alloc [.int .i64 0, .int .i64 0, .int .i64 0]⟩,
    ⟨(some 12), none, .mov (.tmp 35)⟩,
    ⟨none, none, .store 3 (.tmp 13) (.tmp 37)⟩]

def f8r7 : List AInstr := [
    ⟨(some 38), none, .mov (.tmp 2)⟩,
    ⟨(some 39), none, .mov (.tmp 12)⟩,
    ⟨(some 40), none, .indexAddr 1 (.tmp 38) (.tmp 39)⟩,
    ⟨(some 41), none, .load none (.tmp 40)⟩,
    ⟨(some 42), none, .ibin .eql (.tmp 41) (.const (.int .i64 0))⟩,
    ⟨(some 43), none, .mov (.tmp 42)⟩,
    ⟨(some 44), (some (43, true)), .fieldAddr 0 (.tmp 13)⟩,
    ⟨(some 45), (some (43, true)), .load none (.tmp 44)⟩,
    ⟨(some 46), (some (43, true)), .ibin .eql (.tmp 45) (.const (.int .i64 1))⟩,
    ⟨(some 47), none, .pick (.tmp 43) (.tmp 46) (.const (.bool false))⟩]

def f8r8 : List AInstr := [
    ⟨(some 48), none, .fieldAddr 1 (.tmp 13)⟩,
    ⟨(some 49), none, .load none (.tmp 48)⟩,
    ⟨(some 50), none, .ibin .lss (.tmp 49) (.const (.int .i64 0))⟩,
    ⟨(some 51), none, .mov (.tmp 50)⟩,
    ⟨(some 52), (some (51, false)), .fieldAddr 1 (.tmp 13)⟩,
    ⟨(some 53), (some (51, false)), .load none (.tmp 52)⟩,
    ⟨(some 54), (some (51, false)), .mov (.tmp 0)⟩,
    ⟨(some 55), (some (51, false)), .ibin .geq (.tmp 53) (.tmp 54)⟩,
    ⟨(some 56), none, .pick (.tmp 51) (.const (.bool true)) (.tmp 55)⟩]

def f8r9 : List AInstr := [
    ⟨(some 10), none, .mov (.const (.bool false))⟩]

def f8r10 : List AInstr := [
    ⟨(some 57), none, .mov (.tmp 11)⟩,
    ⟨(some 58), none, .fieldAddr 1 (.tmp 13)⟩,
    ⟨(some 59), none, .load none (.tmp 58)⟩,
    ⟨(some 60), none, .mov (.tmp 11)⟩,
    ⟨(some 61), none, .fieldAddr 1 (.tmp 13)⟩,
    ⟨(some 62), none, .load none (.tmp 61)⟩,
    ⟨(some 63), none, .indexAddr 1 (.tmp 60) (.tmp 62)⟩,
    ⟨(some 64), none, .load none (.tmp 63)⟩,
    ⟨(some 65), none, .fieldAddr 2 (.tmp 13)⟩,
    ⟨(some 66), none, .load none (.tmp 65)⟩,
    ⟨(some 67), none, .buildSlice 1 1 [.int .i64 0] [(0, 1, (.tmp 66))]⟩,
    ⟨(some 68), none, .append 1 8 (.tmp 64) (.tmp 67)⟩,
    ⟨(some 69), none, .indexAddr 1 (.tmp 57) (.tmp 59)⟩,
    ⟨none, none, .store 1 (.tmp 69) (.tmp 68)⟩]

def f8r11 : List AInstr := [
    ⟨(some 70), none, .ibin .add (.tmp 33) (.const (.int .i64 1))⟩,
    ⟨(some 33), none, .mov (.tmp 70)⟩]

/-- live: [0, 2, 3, 4, 11, 31, 32, 33] -/
def f8l0 : ACode := (.seq (.ops f8r5)
  (.keep [0, 2, 3, 4, 11, 31, 32, 33, 34] (.seq (.cond (.tmp 34) .skip (.exit 0))
  (.keep [0, 2, 3, 4, 11, 31, 32, 33] (.seq (.block 1 (.seq (.ops f8r6)
  (.keep [0, 2, 3, 4, 11, 12, 13, 31, 32, 33] (.seq (.ops f8r7)
  (.keep [0, 2, 3, 4, 11, 13, 31, 32, 33, 47] (.cond (.tmp 47) (.keep [0, 2, 3, 4, 11, 13, 31, 32, 33] (.seq (.seq (.ops f8r8)
  (.keep [0, 2, 3, 4, 11, 13, 31, 32, 33, 56] (.cond (.tmp 56) (.keep [] (.seq (.ops f8r9)
  (.keep [10] .ret))) .skip)))
  (.keep [0, 2, 3, 4, 11, 13, 31, 32, 33] (.draw f8r10 [(0, 2, false), (0, 2, false), (0, 2, false), (0, 1, false), (0, 1, false), (0, 1, false), (0, 1, false), (0, 1, false), (0, 0, false), (0, 0, false), (0, 1, true), (1, 2, true), (2, 2, false), (2, 3, true)])))) .skip))))))
  (.keep [0, 2, 3, 4, 11, 31, 32, 33] (.ops f8r11)))))))

def f8r13 : List AInstr := [
    ⟨(some 71), none, .mov (.tmp 3)⟩,
    ⟨(some 72), none, .len (.tmp 71)⟩,
    ⟨(some 73), none, .mov (.const (.int .i64 0))⟩]

def f8r14 : List AInstr := [
    ⟨(some 74), none, .ibin .lss (.tmp 73) (.tmp 72)⟩]

def f8r15 : List AInstr := [
    ⟨(some 75), none, .indexAddr 2 (.tmp 71) (.tmp 73)⟩,
    ⟨(some 76), none, .load (some 2) (.tmp 75)⟩,
    ⟨(some 15), none, .alloc [.int .i64 0, .int .i64 0]⟩,
    ⟨none, none, .store 2 (.tmp 15) (.tmp 76)⟩]

def f8r16 : List AInstr := [
    ⟨(some 77), none, .fieldAddr 0 (.tmp 15)⟩,
    ⟨(some 78), none, .load none (.tmp 77)⟩,
    ⟨(some 79), none, .ibin .lss (.tmp 78) (.const (.int .i64 0))⟩,
    ⟨(some 80), none, .mov (.tmp 79)⟩,
    ⟨(some 81), (some (80, false)), .fieldAddr 0 (.tmp 15)⟩,
    ⟨(some 82), (some (80, false)), .load none (.tmp 81)⟩,
    ⟨(some 83), (some (80, false)), .mov (.tmp 0)⟩,
    ⟨(some 84), (some (80, false)), .ibin .geq (.tmp 82) (.tmp 83)⟩,
    ⟨(some 85), none, .pick (.tmp 80) (.const (.bool true)) (.tmp 84)⟩,
    ⟨(some 86), none, .mov (.tmp 85)⟩,
    ⟨(some 87), (some (86, false)), .mov (.tmp 11)⟩,
    ⟨(some 88), (some (86, false)), .fieldAddr 0 (.tmp 15)⟩,
    ⟨(some 89), (some (86, false)), .load none (.tmp 88)⟩,
    ⟨(some 90), (some (86, false)), .indexAddr 1 (.tmp 87) (.tmp 89)⟩,
    ⟨(some 91), (some (86, false)), .load none (.tmp 90)⟩,
    ⟨(some 92), (some (86, false)), .len (.tmp 91)⟩,
    ⟨(some 93), (some (86, false)), .ibin .eql (.tmp 92) (.const (.int .i64 0))⟩,
    ⟨(some 94), none, .pick (.tmp 86) (.const (.bool true)) (.tmp 93)⟩,
    ⟨(some 95), none, .mov (.tmp 94)⟩,
    ⟨(some 96), (some (95, false)), .mov (.tmp 11)⟩,
    ⟨(some 97), (some (95, false)), .fieldAddr 0 (.tmp 15)⟩,
    ⟨(some 98), (some (95, false)), .load none (.tmp 97)⟩,
    ⟨(some 99), (some (95, false)), .indexAddr 1 (.tmp 96) (.tmp 98)⟩,
    ⟨(some 100), (some (95, false)), .load none (.tmp 99)⟩,
    ⟨(some 101), (some (95, false)), .indexAddr 1 (.tmp 100) (.const (.int .i64 0))⟩,
    ⟨(some 102), (some (95, false)), .load none (.tmp 101)⟩,
    ⟨(some 103), (some (95, false)), .fieldAddr 1 (.tmp 15)⟩,
    ⟨(some 104), (some (95, false)), .load none (.tmp 103)⟩,
    ⟨(some 105), (some (95, false)), .ibin .neq (.tmp 102) (.tmp 104)⟩,
    ⟨(some 106), none, .pick (.tmp 95) (.const (.bool true)) (.tmp 105)⟩]

def f8r17 : List AInstr := [
    ⟨(some 10), none, .mov (.const (.bool false))⟩]

def f8r18 : List AInstr := [
    ⟨(some 107), none, .mov (.tmp 11)⟩,
    ⟨(some 108), none, .fieldAddr 0 (.tmp 15)⟩,
    ⟨(some 109), none, .load none (.tmp 108)⟩,
    ⟨(some 110), none, .mov (.tmp 11)⟩,
    ⟨(some 111), none, .fieldAddr 0 (.tmp 15)⟩,
    ⟨(some 112), none, .load none (.tmp 111)⟩,
    ⟨(some 113), none, .indexAddr 1 (.tmp 110) (.tmp 112)⟩,
    ⟨(some 114), none, .load none (.tmp 113)⟩,
    ⟨(some 115), none, .slice 1 (.tmp 114) (some (.const (.int .i64 1))) none none⟩,
    ⟨(some 116), none, .indexAddr 1 (.tmp 107) (.tmp 109)⟩,
    ⟨none, none, .store 1 (.tmp 116) (.tmp 115)⟩]

def f8r19 : List AInstr := [
    ⟨(some 117), none, .ibin .add (.tmp 73) (.const (.int .i64 1))⟩,
    ⟨(some 73), none, .mov (.tmp 117)⟩]

/-- live: [0, 4, 11, 71, 72, 73] -/
def f8l1 : ACode := (.seq (.ops f8r14)
  (.keep [0, 4, 11, 71, 72, 73, 74] (.seq (.cond (.tmp 74) .skip (.exit 2))
  (.keep [0, 4, 11, 71, 72, 73] (.seq (.block 3 (.seq (.ops f8r15)
  (.keep [0, 4, 11, 15, 71, 72, 73] (.seq (.seq (.draw f8r16 [(0, 0, false), (0, 0, false), (0, 0, false), (0, 0, false), (0, 0, false), (0, 0, false), (0, 0, false), (0, 0, false), (0, 0, false), (0, 0, false), (0, 0, false), (0, 0, false), (0, 0, false), (0, 0, false), (0, 0, false), (0, 0, false), (0, 0, false), (0, 0, false), (0, 0, false), (0, 0, false), (0, 0, false), (0, 0, false), (0, 0, false), (0, 0, false), (0, 0, false), (0, 0, false), (0, 0, false), (0, 0, false), (0, 0, false), (0, 0, false)])
  (.keep [0, 4, 11, 15, 71, 72, 73, 106] (.cond (.tmp 106) (.keep [] (.seq (.ops f8r17)
  (.keep [10] .ret))) .skip)))
  (.keep [0, 4, 11, 15, 71, 72, 73] (.draw f8r18 [(0, 0, false), (0, 0, false), (0, 0, false), (0, 0, false), (0, 0, false), (0, 0, false), (0, 0, false), (0, 0, false), (0, 0, false), (0, 0, false), (0, 1, true)]))))))
  (.keep [0, 4, 11, 71, 72, 73] (.ops f8r19)))))))

def f8r21 : List AInstr := [
    ⟨(some 118), none, .mov (.tmp 11)⟩,
    ⟨(some 119), none, .len (.tmp 118)⟩,
    ⟨(some 120), none, .mov (.const (.int .i64 0))⟩]

def f8r22 : List AInstr := [
    ⟨(some 121), none, .ibin .lss (.tmp 120) (.tmp 119)⟩]

def f8r23 : List AInstr := [
    ⟨(some 122), none, .mov (.tmp 120)⟩,
    ⟨(some 123), none, .indexAddr 1 (.tmp 118) (.tmp 120)⟩,
    ⟨(some 124), none, .load none (.tmp 123)⟩,
    ⟨(some 16), none, .mov (.tmp 122)⟩,
    ⟨(some 17), none, .mov (.tmp 124)⟩]

def f8r24 : List AInstr := [
    ⟨(some 125), none, .mov (.tmp 17)⟩,
    ⟨(some 126), none, .len (.tmp 125)⟩,
    ⟨(some 127), none, .mov (.tmp 4)⟩,
    ⟨(some 128), none, .mov (.tmp 16)⟩,
    ⟨(some 129), none, .indexAddr 1 (.tmp 127) (.tmp 128)⟩,
    ⟨(some 130), none, .load none (.tmp 129)⟩,
    ⟨(some 131), none, .ibin .neq (.tmp 126) (.tmp 130)⟩]

def f8r25 : List AInstr := [
    ⟨(some 10), none, .mov (.const (.bool false))⟩]

def f8r26 : List AInstr := [
    ⟨(some 132), none, .ibin .add (.tmp 120) (.const (.int .i64 1))⟩,
    ⟨(some 120), none, .mov (.tmp 132)⟩]

/-- live: [4, 118, 119, 120] -/
def f8l2 : ACode := (.seq (.ops f8r22)
  (.keep [4, 118, 119, 120, 121] (.seq (.cond (.tmp 121) .skip (.exit 4))
  (.keep [4, 118, 119, 120] (.seq (.block 5 (.seq (.ops f8r23)
  (.keep [4, 16, 17, 118, 119, 120] (.seq (.ops f8r24)
  (.keep [4, 118, 119, 120, 131] (.cond (.tmp 131) (.keep [] (.seq (.ops f8r25)
  (.keep [10] .ret))) .skip))))))
  (.keep [4, 118, 119, 120] (.ops f8r26)))))))

def f8r28 : List AInstr := [
    ⟨(some 10), none, .mov (.const (.bool true))⟩]

def f8b : ACode := (.seq (.ops f8r0)
  (.keep [0, 1, 2, 3, 4] (.seq (.seq (.ops f8r1)
  (.keep [0, 1, 2, 3, 4, 28] (.cond (.tmp 28) (.keep [] (.seq (.ops f8r2)
  (.keep [10] .ret))) .skip)))
  (.keep [0, 1, 2, 3, 4] (.seq (.ops f8r3)
  (.keep [0, 1, 2, 3, 4, 11] (.seq (.seq (.ops f8r4)
  (.keep [0, 2, 3, 4, 11, 31, 32, 33] (.block 0 (.loop f8l0))))
  (.keep [0, 3, 4, 11] (.seq (.seq (.ops f8r13)
  (.keep [0, 4, 11, 71, 72, 73] (.block 2 (.loop f8l1))))
  (.keep [4, 11] (.seq (.seq (.ops f8r21)
  (.keep [4, 118, 119, 120] (.block 4 (.loop f8l2))))
  (.keep [] (.seq (.ops f8r28)
  (.keep [10] .ret))))))))))))))

def f8 : AFn := ⟨133, [.tmp 10], f8b⟩

theorem f8_ok : compFn Try.prog 8 = some f8.strip := by kernel_rfl

/- function 9: slices.Equal[[]weirhouse/api.Sent,weirhouse/api.Sent]; parameters 2; operations that are not compiled: 0 -/
def f9r0 : List AInstr := [
    ⟨(some 4), none, .mov (.const (.bool false))⟩]

def f9r1 : List AInstr := [
    ⟨(some 6), none, .mov (.tmp 0)⟩,
    ⟨(some 7), none, .len (.tmp 6)⟩,
    ⟨(some 8), none, .mov (.tmp 1)⟩,
    ⟨(some 9), none, .len (.tmp 8)⟩,
    ⟨(some 10), none, .ibin .neq (.tmp 7) (.tmp 9)⟩]

def f9r2 : List AInstr := [
    ⟨(some 4), none, .mov (.const (.bool false))⟩]

def f9r3 : List AInstr := [
    ⟨(some 11), none, .mov (.tmp 0)⟩,
    ⟨(some 12), none, .len (.tmp 11)⟩,
    ⟨(some 13), none, .mov (.const (.int .i64 0))⟩]

def f9r4 : List AInstr := [
    ⟨(some 14), none, .ibin .lss (.tmp 13) (.tmp 12)⟩]

def f9r5 : List AInstr := [
    ⟨(some 15), none, .mov (.tmp 13)⟩,
    ⟨(some 5), none, .mov (.tmp 15)⟩]

def f9r6 : List AInstr := [
    ⟨(some 16), none, .mov (.tmp 0)⟩,
    ⟨(some 17), none, .mov (.tmp 5)⟩,
    ⟨(some 18), none, .indexAddr 2 (.tmp 16) (.tmp 17)⟩,
    ⟨(some 19), none, .load (some 2) (.tmp 18)⟩,
    ⟨(some 20), none, .mov (.tmp 1)⟩,
    ⟨(some 21), none, .mov (.tmp 5)⟩,
    ⟨(some 22), none, .indexAddr 2 (.tmp 20) (.tmp 21)⟩,
    ⟨(some 23), none, .load (some 2) (.tmp 22)⟩,
    ⟨(some 24), none, .eqA true [false, false] (.tmp 19) (.tmp 23)⟩]

def f9r7 : List AInstr := [
    ⟨(some 4), none, .mov (.const (.bool false))⟩]

def f9r8 : List AInstr := [
    ⟨(some 25), none, .ibin .add (.tmp 13) (.const (.int .i64 1))⟩,
    ⟨(some 13), none, .mov (.tmp 25)⟩]

/-- live: [0, 1, 12, 13] -/
def f9l0 : ACode := (.seq (.ops f9r4)
  (.keep [0, 1, 12, 13, 14] (.seq (.cond (.tmp 14) .skip (.exit 0))
  (.keep [0, 1, 12, 13] (.seq (.block 1 (.seq (.ops f9r5)
  (.keep [0, 1, 5, 12, 13] (.seq (.draw f9r6 [(0, 0, false), (0, 0, false), (0, 0, false), (0, 0, false), (0, 0, false), (0, 0, false), (0, 0, false), (0, 0, false), (0, 0, false)])
  (.keep [0, 1, 12, 13, 24] (.cond (.tmp 24) (.keep [] (.seq (.ops f9r7)
  (.keep [4] .ret))) .skip))))))
  (.keep [0, 1, 12, 13] (.ops f9r8)))))))

def f9r10 : List AInstr := [
    ⟨(some 4), none, .mov (.const (.bool true))⟩]

def f9b : ACode := (.seq (.ops f9r0)
  (.keep [0, 1] (.seq (.seq (.ops f9r1)
  (.keep [0, 1, 10] (.cond (.tmp 10) (.keep [] (.seq (.ops f9r2)
  (.keep [4] .ret))) .skip)))
  (.keep [0, 1] (.seq (.seq (.ops f9r3)
  (.keep [0, 1, 12, 13] (.block 0 (.loop f9l0))))
  (.keep [] (.seq (.ops f9r10)
  (.keep [4] .ret))))))))

def f9 : AFn := ⟨26, [.tmp 4], f9b⟩

theorem f9_ok : compFn Try.prog 9 = some f9.strip := by kernel_rfl

/- function 10: slices.Equal[[]int,int]; parameters 2; operations that are not compiled: 0 -/
def f10r0 : List AInstr := [
    ⟨(some 4), none, .mov (.const (.bool false))⟩]

def f10r1 : List AInstr := [
    ⟨(some 6), none, .mov (.tmp 0)⟩,
    ⟨(some 7), none, .len (.tmp 6)⟩,
    ⟨(some 8), none, .mov (.tmp 1)⟩,
    ⟨(some 9), none, .len (.tmp 8)⟩,
    ⟨(some 10), none, .ibin .neq (.tmp 7) (.tmp 9)⟩]

def f10r2 : List AInstr := [
    ⟨(some 4), none, .mov (.const (.bool false))⟩]

def f10r3 : List AInstr := [
    ⟨(some 11), none, .mov (.tmp 0)⟩,
    ⟨(some 12), none, .len (.tmp 11)⟩,
    ⟨(some 13), none, .mov (.const (.int .i64 0))⟩]

def f10r4 : List AInstr := [
    ⟨(some 14), none, .ibin .lss (.tmp 13) (.tmp 12)⟩]

def f10r5 : List AInstr := [
    ⟨(some 15), none, .mov (.tmp 13)⟩,
    ⟨(some 5), none, .mov (.tmp 15)⟩]

def f10r6 : List AInstr := [
    ⟨(some 16), none, .mov (.tmp 0)⟩,
    ⟨(some 17), none, .mov (.tmp 5)⟩,
    ⟨(some 18), none, .indexAddr 1 (.tmp 16) (.tmp 17)⟩,
    ⟨(some 19), none, .load none (.tmp 18)⟩,
    ⟨(some 20), none, .mov (.tmp 1)⟩,
    ⟨(some 21), none, .mov (.tmp 5)⟩,
    ⟨(some 22), none, .indexAddr 1 (.tmp 20) (.tmp 21)⟩,
    ⟨(some 23), none, .load none (.tmp 22)⟩,
    ⟨(some 24), none, .ibin .neq (.tmp 19) (.tmp 23)⟩]

def f10r7 : List AInstr := [
    ⟨(some 4), none, .mov (.const (.bool false))⟩]

def f10r8 : List AInstr := [
    ⟨(some 25), none, .ibin .add (.tmp 13) (.const (.int .i64 1))⟩,
    ⟨(some 13), none, .mov (.tmp 25)⟩]

/-- live: [0, 1, 12, 13] -/
def f10l0 : ACode := (.seq (.ops f10r4)
  (.keep [0, 1, 12, 13, 14] (.seq (.cond (.tmp 14) .skip (.exit 0))
  (.keep [0, 1, 12, 13] (.seq (.block 1 (.seq (.ops f10r5)
  (.keep [0, 1, 5, 12, 13] (.seq (.draw f10r6 [(0, 0, false), (0, 0, false), (0, 0, false), (0, 0, false), (0, 0, false), (0, 0, false), (0, 0, false), (0, 0, false), (0, 0, false)])
  (.keep [0, 1, 12, 13, 24] (.cond (.tmp 24) (.keep [] (.seq (.ops f10r7)
  (.keep [4] .ret))) .skip))))))
  (.keep [0, 1, 12, 13] (.ops f10r8)))))))

def f10r10 : List AInstr := [
    ⟨(some 4), none, .mov (.const (.bool true))⟩]

def f10b : ACode := (.seq (.ops f10r0)
  (.keep [0, 1] (.seq (.seq (.ops f10r1)
  (.keep [0, 1, 10] (.cond (.tmp 10) (.keep [] (.seq (.ops f10r2)
  (.keep [4] .ret))) .skip)))
  (.keep [0, 1] (.seq (.seq (.ops f10r3)
  (.keep [0, 1, 12, 13] (.block 0 (.loop f10l0))))
  (.keep [] (.seq (.ops f10r10)
  (.keep [4] .ret))))))))

def f10 : AFn := ⟨26, [.tmp 4], f10b⟩

theorem f10_ok : compFn Try.prog 10 = some f10.strip := by kernel_rfl

/- function 11: weirhouse/scfq.Wrong; parameters 1; operations that are not compiled: 0 -/
def f11r0 : List AInstr := [
    ⟨(some 2), none, .mov (.const (.int .i64 0))⟩]

def f11r1 : List AInstr := [
    ⟨(some 5), none, .mov (.tmp 0)⟩,
    ⟨(some 6), none, .len (.tmp 5)⟩,
    ⟨(some 7), none, .ibin .gtr (.tmp 6) (.const (.int .i64 16))⟩]

def f11r2 : List AInstr := [
    ⟨(some 2), none, .mov (.const (.int .i64 2))⟩]

def f11r3 : List AInstr := [
    ⟨(some 8), none, .mov (.tmp 0)⟩,
    ⟨(some 9), none, .len (.tmp 8)⟩,
    ⟨(some 10), none, .mov (.const (.int .i64 0))⟩]

def f11r4 : List AInstr := [
    ⟨(some 11), none, .ibin .lss (.tmp 10) (.tmp 9)⟩]

def f11r5 : List AInstr := [
    ⟨(some 12), none, .indexAddr 1 (.tmp 8) (.tmp 10)⟩,
    ⟨(some 13), none, .load none (.tmp 12)⟩,
    ⟨(some 4), none, .mov (.tmp 13)⟩]

def f11r6 : List AInstr := [
    ⟨(some 14), none, .mov (.tmp 4)⟩,
    ⟨(some 15), none, .ibin .lss (.tmp 14) (.const (.int .i64 1))⟩,
    ⟨(some 16), none, .mov (.tmp 15)⟩,
    ⟨(some 17), (some (16, false)), .mov (.tmp 4)⟩,
    ⟨(some 18), (some (16, false)), .ibin .gtr (.tmp 17) (.const (.int .i64 12))⟩,
    ⟨(some 19), none, .pick (.tmp 16) (.const (.bool true)) (.tmp 18)⟩]

def f11r7 : List AInstr := [
    ⟨(some 2), none, .mov (.const (.int .i64 2))⟩]

def f11r8 : List AInstr := [
    ⟨(some 20), none, .ibin .add (.tmp 10) (.const (.int .i64 1))⟩,
    ⟨(some 10), none, .mov (.tmp 20)⟩]

/-- live: [8, 9, 10] -/
def f11l0 : ACode := (.seq (.ops f11r4)
  (.keep [8, 9, 10, 11] (.seq (.cond (.tmp 11) .skip (.exit 0))
  (.keep [8, 9, 10] (.seq (.block 1 (.seq (.ops f11r5)
  (.keep [4, 8, 9, 10] (.seq (.ops f11r6)
  (.keep [8, 9, 10, 19] (.cond (.tmp 19) (.keep [] (.seq (.ops f11r7)
  (.keep [2] .ret))) .skip))))))
  (.keep [8, 9, 10] (.ops f11r8)))))))

def f11r10 : List AInstr := [
    ⟨(some 2), none, .mov (.const (.int .i64 0))⟩]

def f11b : ACode := (.seq (.ops f11r0)
  (.keep [0] (.seq (.seq (.ops f11r1)
  (.keep [0, 7] (.cond (.tmp 7) (.keep [] (.seq (.ops f11r2)
  (.keep [2] .ret))) .skip)))
  (.keep [0] (.seq (.seq (.ops f11r3)
  (.keep [8, 9, 10] (.block 0 (.loop f11l0))))
  (.keep [] (.seq (.ops f11r10)
  (.keep [2] .ret))))))))

def f11 : AFn := ⟨21, [.tmp 2], f11b⟩

theorem f11_ok : compFn Try.prog 11 = some f11.strip := by kernel_rfl

end Go.Proofs.Ytddoegbgnmdfhaa
