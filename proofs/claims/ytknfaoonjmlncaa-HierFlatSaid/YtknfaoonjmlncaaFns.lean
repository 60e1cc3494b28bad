/-
  The functions of this seat as abstract code. Printed by a program of this claim's writer.
-/
import Derived.Test.YtknfaoonjmlncaaChecked
import Derived.Test.YtknfaoonjmlncaaAmS
import Derived.KernelRfl
namespace Go.Proofs.Ytknfaoonjmlncaa
open Go Go.Am

/- function 3: weirhouse/weirhousekeep.HierOrder; parameters 2; operations that are not compiled: 0 -/
def f3r0 : List AInstr := [
    ⟨(some 4), none, .mov (.const (.bool false))⟩]

def f3r1 : List AInstr := [
    ⟨(some 12), none, .callF 6 []⟩,
    ⟨(some 13), none, .un .not (.tmp 12)⟩]

def f3r2 : List AInstr := [
    ⟨(some 4), none, .mov (.const (.bool false))⟩]

def f3r3 : List AInstr := [
    ⟨(some 15), none, .mov (.tmp 0)⟩,
    ⟨(some 16), none, .mov (.tmp 1)⟩,
    ⟨(some 17), none, .callF 7 [.tmp 15, .tmp 16]⟩,
    ⟨(some 14), none, .mov (.tmp 17)⟩,
    ⟨(some 18), none, .extract 0 (.tmp 14)⟩,
    ⟨(some 19), none, .extract 1 (.tmp 14)⟩,
    ⟨(some 20), none, .extract 2 (.tmp 14)⟩,
    ⟨(some 21), none, .extract 3 (.tmp 14)⟩,
    ⟨(some 5), none, .mov (.tmp 18)⟩,
    ⟨(some 6), none, .mov (.tmp 19)⟩,
    ⟨(some 7), none, .mov (.tmp 20)⟩,
    ⟨(some 8), none, .mov (.tmp 21)⟩]

def f3r4 : List AInstr := [
    ⟨(some 22), none, .mov (.tmp 8)⟩,
    ⟨(some 23), none, .ibin .neq (.tmp 22) (.const (.int .i64 0))⟩]

def f3r5 : List AInstr := [
    ⟨(some 24), none, .mov (.tmp 6)⟩,
    ⟨(some 25), none, .len (.tmp 24)⟩,
    ⟨(some 26), none, .ibin .eql (.tmp 25) (.const (.int .i64 0))⟩,
    ⟨(some 4), none, .mov (.tmp 26)⟩]

def f3r6 : List AInstr := [
    ⟨(some 9), none, .mov (.const (.int .i64 0))⟩]

def f3r7 : List AInstr := [
    ⟨(some 27), none, .mov (.tmp 1)⟩,
    ⟨(some 28), none, .len (.tmp 27)⟩,
    ⟨(some 29), none, .mov (.const (.int .i64 0))⟩]

def f3r8 : List AInstr := [
    ⟨(some 30), none, .ibin .lss (.tmp 29) (.tmp 28)⟩]

def f3r9 : List AInstr := [
    ⟨(some 31), none, .mov (.tmp 29)⟩,
    ⟨(some 32), none, .indexAddr 3 (.tmp 27) (.tmp 29)⟩,
    ⟨(some 33), none, .load (some 3) (.tmp 32)⟩,
    ⟨(some 11), none, .alloc [.int .i64 0, .int .i64 0, .int .i64 0]⟩,
    ⟨(some 10), none, .mov (.tmp 31)⟩,
    ⟨none, none, .store 3 (.tmp 11) (.tmp 33)⟩]

def f3r10 : List AInstr := [
    ⟨(some 34), none, .mov (.tmp 10)⟩,
    ⟨(some 35), none, .mov (.tmp 5)⟩,
    ⟨(some 36), none, .len (.tmp 35)⟩,
    ⟨(some 37), none, .ibin .geq (.tmp 34) (.tmp 36)⟩]

def f3r11 : List AInstr := [
    ⟨(some 4), none, .mov (.const (.bool false))⟩]

def f3r12 : List AInstr := [
    ⟨(some 41), none, .fieldAddr 0 (.tmp 11)⟩,
    ⟨(some 42), none, .load none (.tmp 41)⟩,
    ⟨(some 43), none, .ibin .eql (.tmp 42) (.const (.int .i64 2))⟩,
    ⟨(some 44), none, .mov (.tmp 43)⟩,
    ⟨(some 45), (some (44, true)), .mov (.tmp 5)⟩,
    ⟨(some 46), (some (44, true)), .mov (.tmp 10)⟩,
    ⟨(some 47), (some (44, true)), .indexAddr 1 (.tmp 45) (.tmp 46)⟩,
    ⟨(some 48), (some (44, true)), .load none (.tmp 47)⟩,
    ⟨(some 49), (some (44, true)), .ibin .eql (.tmp 48) (.const (.int .i64 0))⟩,
    ⟨(some 50), (some (44, true)), .mov (.tmp 9)⟩,
    ⟨(some 51), (some (44, true)), .ibin .gtr (.tmp 50) (.const (.int .i64 0))⟩,
    ⟨(some 52), (some (44, true)), .eqB true (.tmp 49) (.tmp 51)⟩,
    ⟨(some 53), none, .pick (.tmp 44) (.tmp 52) (.const (.bool false))⟩,
    ⟨(some 40), none, .mov (.tmp 53)⟩]

def f3r13 : List AInstr := [
    ⟨(some 4), none, .mov (.const (.bool false))⟩]

def f3r14 : List AInstr := [
    ⟨(some 55), none, .mov (.tmp 5)⟩,
    ⟨(some 56), none, .mov (.tmp 10)⟩,
    ⟨(some 57), none, .indexAddr 1 (.tmp 55) (.tmp 56)⟩,
    ⟨(some 58), none, .load none (.tmp 57)⟩,
    ⟨(some 59), none, .ibin .neq (.tmp 58) (.const (.int .i64 0))⟩,
    ⟨(some 54), none, .mov (.tmp 59)⟩]

def f3r15 : List AInstr := [
    ⟨(some 61), none, .fieldAddr 0 (.tmp 11)⟩,
    ⟨(some 62), none, .load none (.tmp 61)⟩,
    ⟨(some 63), none, .ibin .eql (.tmp 62) (.const (.int .i64 1))⟩,
    ⟨(some 60), none, .mov (.tmp 63)⟩]

def f3r16 : List AInstr := [
    ⟨(some 64), none, .mov (.tmp 9)⟩,
    ⟨(some 65), none, .ibin .add (.tmp 64) (.const (.int .i64 1))⟩,
    ⟨(some 9), none, .mov (.tmp 65)⟩]

def f3r17 : List AInstr := [
    ⟨(some 38), none, .mov (.tmp 9)⟩,
    ⟨(some 39), none, .ibin .sub (.tmp 38) (.const (.int .i64 1))⟩,
    ⟨(some 9), none, .mov (.tmp 39)⟩]

def f3r18 : List AInstr := [
    ⟨(some 66), none, .ibin .add (.tmp 29) (.const (.int .i64 1))⟩,
    ⟨(some 29), none, .mov (.tmp 66)⟩]

/-- live: [0, 1, 5, 6, 7, 9, 27, 28, 29] -/
def f3l0 : ACode := (.seq (.ops f3r8)
  (.keep [0, 1, 5, 6, 7, 9, 27, 28, 29, 30] (.seq (.cond (.tmp 30) .skip (.exit 0))
  (.keep [0, 1, 5, 6, 7, 9, 27, 28, 29] (.seq (.block 1 (.seq (.ops f3r9)
  (.keep [0, 1, 5, 6, 7, 9, 10, 11, 27, 28, 29] (.seq (.seq (.ops f3r10)
  (.keep [0, 1, 5, 6, 7, 9, 10, 11, 27, 28, 29, 37] (.cond (.tmp 37) (.keep [] (.seq (.ops f3r11)
  (.keep [4] .ret))) .skip)))
  (.keep [0, 1, 5, 6, 7, 9, 10, 11, 27, 28, 29] (.block 2 (.seq (.ops f3r12)
  (.keep [0, 1, 5, 6, 7, 9, 10, 11, 27, 28, 29, 40] (.cond (.tmp 40) (.keep [] (.seq (.ops f3r13)
  (.keep [4] .ret))) (.keep [0, 1, 5, 6, 7, 9, 10, 11, 27, 28, 29] (.seq (.ops f3r14)
  (.keep [0, 1, 5, 6, 7, 9, 11, 27, 28, 29, 54] (.cond (.tmp 54) .skip (.keep [0, 1, 5, 6, 7, 9, 11, 27, 28, 29] (.seq (.ops f3r15)
  (.keep [0, 1, 5, 6, 7, 9, 27, 28, 29, 60] (.cond (.tmp 60) (.keep [0, 1, 5, 6, 7, 9, 27, 28, 29] (.ops f3r16)) (.keep [0, 1, 5, 6, 7, 9, 27, 28, 29] (.ops f3r17)))))))))))))))))))
  (.keep [0, 1, 5, 6, 7, 9, 27, 28, 29] (.ops f3r18)))))))

def f3r20 : List AInstr := [
    ⟨(some 67), none, .mov (.tmp 0)⟩,
    ⟨(some 68), none, .len (.tmp 67)⟩,
    ⟨(some 69), none, .mov (.tmp 1)⟩,
    ⟨(some 70), none, .mov (.tmp 5)⟩,
    ⟨(some 71), none, .mov (.tmp 6)⟩,
    ⟨(some 72), none, .mov (.tmp 7)⟩,
    ⟨(some 73), none, .callF 8 [.tmp 68, .tmp 69, .tmp 70, .tmp 71, .tmp 72]⟩,
    ⟨(some 4), none, .mov (.tmp 73)⟩]

def f3b : ACode := (.seq (.ops f3r0)
  (.keep [0, 1] (.seq (.seq (.ops f3r1)
  (.keep [0, 1, 13] (.cond (.tmp 13) (.keep [] (.seq (.ops f3r2)
  (.keep [4] .ret))) .skip)))
  (.keep [0, 1] (.seq (.ops f3r3)
  (.keep [0, 1, 5, 6, 7, 8] (.seq (.seq (.ops f3r4)
  (.keep [0, 1, 5, 6, 7, 23] (.cond (.tmp 23) (.keep [6] (.seq (.ops f3r5)
  (.keep [4] .ret))) .skip)))
  (.keep [0, 1, 5, 6, 7] (.seq (.ops f3r6)
  (.keep [0, 1, 5, 6, 7, 9] (.seq (.seq (.ops f3r7)
  (.keep [0, 1, 5, 6, 7, 9, 27, 28, 29] (.block 0 (.loop f3l0))))
  (.keep [0, 1, 5, 6, 7] (.seq (.ops f3r20)
  (.keep [4] .ret))))))))))))))

def f3 : AFn := ⟨74, [.tmp 4], f3b⟩

theorem f3_ok : compFn Try.prog 3 = some f3.strip := by kernel_rfl

/- function 4: weirhouse/weirhousekeep.HierFlat; parameters 2; operations that are not compiled: 0 -/
def f4r0 : List AInstr := [
    ⟨(some 4), none, .mov (.const (.bool false))⟩]

def f4r1 : List AInstr := [
    ⟨(some 20), none, .callF 6 []⟩,
    ⟨(some 21), none, .un .not (.tmp 20)⟩]

def f4r2 : List AInstr := [
    ⟨(some 4), none, .mov (.const (.bool false))⟩]

def f4r3 : List AInstr := [
    ⟨(some 22), none, .mov (.tmp 0)⟩,
    ⟨(some 23), none, .len (.tmp 22)⟩,
    ⟨(some 24), none, .ibin .lss (.tmp 23) (.const (.int .i64 1))⟩,
    ⟨(some 25), none, .mov (.tmp 24)⟩,
    ⟨(some 26), (some (25, false)), .mov (.tmp 0)⟩,
    ⟨(some 27), (some (25, false)), .len (.tmp 26)⟩,
    ⟨(some 28), (some (25, false)), .ibin .geq (.tmp 27) (.const (.int .i64 16))⟩,
    ⟨(some 29), none, .pick (.tmp 25) (.const (.bool true)) (.tmp 28)⟩,
    ⟨(some 30), none, .mov (.tmp 29)⟩,
    ⟨(some 31), (some (30, false)), .mov (.tmp 0)⟩,
    ⟨(some 32), (some (30, false)), .len (.tmp 31)⟩,
    ⟨(some 33), (some (30, false)), .mov (.tmp 1)⟩,
    ⟨(some 34), (some (30, false)), .len (.tmp 33)⟩,
    ⟨(some 35), (some (30, false)), .ibin .neq (.tmp 32) (.tmp 34)⟩,
    ⟨(some 36), none, .pick (.tmp 30) (.const (.bool true)) (.tmp 35)⟩,
    ⟨(some 37), none, .mov (.tmp 36)⟩,
    ⟨(some 38), (some (37, false)), .mov (.tmp 0)⟩,
    ⟨(some 39), (some (37, false)), .callF 9 [.tmp 38]⟩,
    ⟨(some 40), (some (37, false)), .ibin .neq (.tmp 39) (.const (.int .i64 0))⟩,
    ⟨(some 41), none, .pick (.tmp 37) (.const (.bool true)) (.tmp 40)⟩]

def f4r4 : List AInstr := [
    ⟨(some 4), none, .mov (.const (.bool true))⟩]

def f4r5 : List AInstr := [
    ⟨(some 42), none, .build [.int .i64 0, .int .i64 0] [(0, 1, (.const (.int .i64 (-1)))), (1, 1, (.const (.int .i64 1)))]⟩,
    ⟨(some 43), none, .buildSlice 2 1 [.int .i64 0, .int .i64 0] [(0, 2, (.tmp 42))]⟩,
    ⟨(some 5), none, .mov (.tmp 43)⟩]

def f4r6 : List AInstr := [
    ⟨(some 6), none, .mov (.const (.slice none 0 0))⟩,
    ⟨(some 7), none, .mov (.const (.slice none 0 0))⟩]

def f4r7 : List AInstr := [
    ⟨(some 44), none, .mov (.tmp 0)⟩,
    ⟨(some 45), none, .len (.tmp 44)⟩,
    ⟨(some 46), none, .mov (.const (.int .i64 0))⟩]

def f4r8 : List AInstr := [
    ⟨(some 47), none, .ibin .lss (.tmp 46) (.tmp 45)⟩]

def f4r9 : List AInstr := [
    ⟨(some 48), none, .mov (.tmp 46)⟩,
    ⟨(some 49), none, .indexAddr 1 (.tmp 44) (.tmp 46)⟩,
    ⟨(some 50), none, .load none (.tmp 49)⟩,
    ⟨(some 8), none, .mov (.tmp 48)⟩,
    ⟨(some 9), none, .mov (.tmp 50)⟩]

def f4r10 : List AInstr := [
    ⟨(some 51), none, .mov (.tmp 1)⟩,
    ⟨(some 52), none, .mov (.tmp 8)⟩,
    ⟨(some 53), none, .indexAddr 1 (.tmp 51) (.tmp 52)⟩,
    ⟨(some 54), none, .load none (.tmp 53)⟩,
    ⟨(some 55), none, .ibin .lss (.tmp 54) (.const (.int .i64 1))⟩,
    ⟨(some 56), none, .mov (.tmp 55)⟩,
    ⟨(some 57), (some (56, false)), .mov (.tmp 1)⟩,
    ⟨(some 58), (some (56, false)), .mov (.tmp 8)⟩,
    ⟨(some 59), (some (56, false)), .indexAddr 1 (.tmp 57) (.tmp 58)⟩,
    ⟨(some 60), (some (56, false)), .load none (.tmp 59)⟩,
    ⟨(some 61), (some (56, false)), .ibin .gtr (.tmp 60) (.const (.int .i64 1500))⟩,
    ⟨(some 62), none, .pick (.tmp 56) (.const (.bool true)) (.tmp 61)⟩]

def f4r11 : List AInstr := [
    ⟨(some 4), none, .mov (.const (.bool true))⟩]

def f4r12 : List AInstr := [
    ⟨(some 63), none, .mov (.tmp 5)⟩,
    ⟨(some 64), none, .mov (.tmp 9)⟩,
    ⟨(some 65), none, .build [.int .i64 0, .int .i64 0] [(0, 1, (.const (.int .i64 0))), (1, 1, (.tmp 64))]⟩,
    ⟨(some 66), none, .buildSlice 2 1 [.int .i64 0, .int .i64 0] [(0, 2, (.tmp 65))]⟩,
    ⟨(some 67), none, .append 2 16 (.tmp 63) (.tmp 66)⟩,
    ⟨(some 5), none, .mov (.tmp 67)⟩]

def f4r13 : List AInstr := [
    ⟨(some 68), none, .ibin .add (.tmp 46) (.const (.int .i64 1))⟩,
    ⟨(some 46), none, .mov (.tmp 68)⟩]

/-- live: [0, 1, 5, 6, 7, 44, 45, 46] -/
def f4l0 : ACode := (.seq (.ops f4r8)
  (.keep [0, 1, 5, 6, 7, 44, 45, 46, 47] (.seq (.cond (.tmp 47) .skip (.exit 0))
  (.keep [0, 1, 5, 6, 7, 44, 45, 46] (.seq (.block 1 (.seq (.ops f4r9)
  (.keep [0, 1, 5, 6, 7, 8, 9, 44, 45, 46] (.seq (.seq (.ops f4r10)
  (.keep [0, 1, 5, 6, 7, 9, 44, 45, 46, 62] (.cond (.tmp 62) (.keep [] (.seq (.ops f4r11)
  (.keep [4] .ret))) .skip)))
  (.keep [0, 1, 5, 6, 7, 9, 44, 45, 46] (.ops f4r12))))))
  (.keep [0, 1, 5, 6, 7, 44, 45, 46] (.ops f4r13)))))))

def f4r15 : List AInstr := [
    ⟨(some 69), none, .mov (.tmp 6)⟩,
    ⟨(some 70), none, .mov (.tmp 1)⟩,
    ⟨(some 71), none, .indexAddr 1 (.tmp 70) (.const (.int .i64 0))⟩,
    ⟨(some 72), none, .load none (.tmp 71)⟩,
    ⟨(some 73), none, .build [.int .i64 0, .int .i64 0, .int .i64 0] [(0, 1, (.const (.int .i64 1))), (1, 1, (.const (.int .i64 1))), (2, 1, (.tmp 72))]⟩,
    ⟨(some 74), none, .buildSlice 3 1 [.int .i64 0, .int .i64 0, .int .i64 0] [(0, 3, (.tmp 73))]⟩,
    ⟨(some 75), none, .append 3 24 (.tmp 69) (.tmp 74)⟩,
    ⟨(some 6), none, .mov (.tmp 75)⟩]

def f4r16 : List AInstr := [
    ⟨(some 76), none, .mov (.tmp 7)⟩,
    ⟨(some 77), none, .mov (.tmp 1)⟩,
    ⟨(some 78), none, .indexAddr 1 (.tmp 77) (.const (.int .i64 0))⟩,
    ⟨(some 79), none, .load none (.tmp 78)⟩,
    ⟨(some 80), none, .build [.int .i64 0, .int .i64 0, .int .i64 0] [(0, 1, (.const (.int .i64 1))), (2, 1, (.tmp 79))]⟩,
    ⟨(some 81), none, .build [.int .i64 0, .int .i64 0, .int .i64 0] [(0, 1, (.const (.int .i64 2)))]⟩,
    ⟨(some 82), none, .buildSlice 3 2 [.int .i64 0, .int .i64 0, .int .i64 0, .int .i64 0, .int .i64 0, .int .i64 0] [(0, 3, (.tmp 80)), (3, 3, (.tmp 81))]⟩,
    ⟨(some 83), none, .append 3 24 (.tmp 76) (.tmp 82)⟩,
    ⟨(some 7), none, .mov (.tmp 83)⟩]

def f4r17 : List AInstr := [
    ⟨(some 10), none, .mov (.const (.int .i64 1))⟩]

def f4r18 : List AInstr := [
    ⟨(some 84), none, .mov (.tmp 10)⟩,
    ⟨(some 85), none, .mov (.tmp 1)⟩,
    ⟨(some 86), none, .len (.tmp 85)⟩,
    ⟨(some 87), none, .ibin .lss (.tmp 84) (.tmp 86)⟩]

def f4r19 : List AInstr := [
    ⟨(some 90), none, .mov (.tmp 6)⟩,
    ⟨(some 91), none, .mov (.tmp 10)⟩,
    ⟨(some 92), none, .ibin .add (.tmp 91) (.const (.int .i64 1))⟩,
    ⟨(some 93), none, .mov (.tmp 1)⟩,
    ⟨(some 94), none, .mov (.tmp 10)⟩,
    ⟨(some 95), none, .indexAddr 1 (.tmp 93) (.tmp 94)⟩,
    ⟨(some 96), none, .load none (.tmp 95)⟩,
    ⟨(some 97), none, .build [.int .i64 0, .int .i64 0, .int .i64 0] [(0, 1, (.const (.int .i64 1))), (1, 1, (.tmp 92)), (2, 1, (.tmp 96))]⟩,
    ⟨(some 98), none, .buildSlice 3 1 [.int .i64 0, .int .i64 0, .int .i64 0] [(0, 3, (.tmp 97))]⟩,
    ⟨(some 99), none, .append 3 24 (.tmp 90) (.tmp 98)⟩,
    ⟨(some 6), none, .mov (.tmp 99)⟩]

def f4r20 : List AInstr := [
    ⟨(some 100), none, .mov (.tmp 7)⟩,
    ⟨(some 101), none, .mov (.tmp 10)⟩,
    ⟨(some 102), none, .mov (.tmp 1)⟩,
    ⟨(some 103), none, .mov (.tmp 10)⟩,
    ⟨(some 104), none, .indexAddr 1 (.tmp 102) (.tmp 103)⟩,
    ⟨(some 105), none, .load none (.tmp 104)⟩,
    ⟨(some 106), none, .build [.int .i64 0, .int .i64 0, .int .i64 0] [(0, 1, (.const (.int .i64 1))), (1, 1, (.tmp 101)), (2, 1, (.tmp 105))]⟩,
    ⟨(some 107), none, .buildSlice 3 1 [.int .i64 0, .int .i64 0, .int .i64 0] [(0, 3, (.tmp 106))]⟩,
    ⟨(some 108), none, .append 3 24 (.tmp 100) (.tmp 107)⟩,
    ⟨(some 7), none, .mov (.tmp 108)⟩]

def f4r21 : List AInstr := [
    ⟨(some 88), none, .mov (.tmp 10)⟩,
    ⟨(some 89), none, .ibin .add (.tmp 88) (.const (.int .i64 1))⟩,
    ⟨(some 10), none, .mov (.tmp 89)⟩]

/-- live: [0, 1, 5, 6, 7, 10] -/
def f4l1 : ACode := (.seq (.seq (.ops f4r18)
  (.keep [0, 1, 5, 6, 7, 10, 87] (.cond (.tmp 87) .skip (.exit 2))))
  (.keep [0, 1, 5, 6, 7, 10] (.seq (.block 3 (.seq (.ops f4r19)
  (.keep [0, 1, 5, 6, 7, 10] (.ops f4r20))))
  (.keep [0, 1, 5, 6, 7, 10] (.ops f4r21)))))

def f4r23 : List AInstr := [
    ⟨(some 109), none, .mov (.tmp 1)⟩,
    ⟨(some 110), none, .len (.tmp 109)⟩,
    ⟨(some 111), none, .mov (.const (.int .i64 0))⟩]

def f4r24 : List AInstr := [
    ⟨(some 112), none, .ibin .lss (.tmp 111) (.tmp 110)⟩]

def f4r25 : List AInstr := [
    ⟨(some 113), none, .mov (.tmp 6)⟩,
    ⟨(some 114), none, .build [.int .i64 0, .int .i64 0, .int .i64 0] [(0, 1, (.const (.int .i64 2)))]⟩,
    ⟨(some 115), none, .buildSlice 3 1 [.int .i64 0, .int .i64 0, .int .i64 0] [(0, 3, (.tmp 114))]⟩,
    ⟨(some 116), none, .append 3 24 (.tmp 113) (.tmp 115)⟩,
    ⟨(some 117), none, .mov (.tmp 7)⟩,
    ⟨(some 118), none, .build [.int .i64 0, .int .i64 0, .int .i64 0] [(0, 1, (.const (.int .i64 2)))]⟩,
    ⟨(some 119), none, .buildSlice 3 1 [.int .i64 0, .int .i64 0, .int .i64 0] [(0, 3, (.tmp 118))]⟩,
    ⟨(some 120), none, .append 3 24 (.tmp 117) (.tmp 119)⟩,
    ⟨(some 6), none, .mov (.tmp 116)⟩,
    ⟨(some 7), none, .mov (.tmp 120)⟩]

def f4r26 : List AInstr := [
    ⟨(some 121), none, .ibin .add (.tmp 111) (.const (.int .i64 1))⟩,
    ⟨(some 111), none, .mov (.tmp 121)⟩]

/-- live: [0, 5, 6, 7, 110, 111] -/
def f4l2 : ACode := (.seq (.ops f4r24)
  (.keep [0, 5, 6, 7, 110, 111, 112] (.seq (.cond (.tmp 112) .skip (.exit 4))
  (.keep [0, 5, 6, 7, 110, 111] (.seq (.block 5 (.ops f4r25))
  (.keep [0, 5, 6, 7, 110, 111] (.ops f4r26)))))))

def f4r28 : List AInstr := [
    ⟨(some 123), none, .mov (.tmp 5)⟩,
    ⟨(some 124), none, .mov (.tmp 6)⟩,
    ⟨(some 125), none, .callF 7 [.tmp 123, .tmp 124]⟩,
    ⟨(some 122), none, .mov (.tmp 125)⟩,
    ⟨(some 126), none, .extract 0 (.tmp 122)⟩,
    ⟨(some 127), none, .extract 1 (.tmp 122)⟩,
    ⟨(some 128), none, .extract 2 (.tmp 122)⟩,
    ⟨(some 129), none, .extract 3 (.tmp 122)⟩,
    ⟨(some 11), none, .mov (.tmp 126)⟩,
    ⟨(some 12), none, .mov (.tmp 127)⟩,
    ⟨(some 13), none, .mov (.tmp 128)⟩,
    ⟨(some 14), none, .mov (.tmp 129)⟩]

def f4r29 : List AInstr := [
    ⟨(some 131), none, .mov (.tmp 0)⟩,
    ⟨(some 132), none, .mov (.tmp 7)⟩,
    ⟨(some 133), none, .callF 10 [.tmp 131, .tmp 132]⟩,
    ⟨(some 130), none, .mov (.tmp 133)⟩,
    ⟨(some 134), none, .extract 0 (.tmp 130)⟩,
    ⟨(some 135), none, .extract 1 (.tmp 130)⟩,
    ⟨(some 136), none, .extract 2 (.tmp 130)⟩,
    ⟨(some 137), none, .extract 3 (.tmp 130)⟩,
    ⟨(some 15), none, .mov (.tmp 134)⟩,
    ⟨(some 16), none, .mov (.tmp 135)⟩,
    ⟨(some 17), none, .mov (.tmp 136)⟩,
    ⟨(some 18), none, .mov (.tmp 137)⟩]

def f4r30 : List AInstr := [
    ⟨(some 138), none, .mov (.tmp 14)⟩,
    ⟨(some 139), none, .ibin .neq (.tmp 138) (.const (.int .i64 0))⟩,
    ⟨(some 140), none, .mov (.tmp 139)⟩,
    ⟨(some 141), (some (140, false)), .mov (.tmp 18)⟩,
    ⟨(some 142), (some (140, false)), .ibin .neq (.tmp 141) (.const (.int .i64 0))⟩,
    ⟨(some 143), none, .pick (.tmp 140) (.const (.bool true)) (.tmp 142)⟩,
    ⟨(some 144), none, .mov (.tmp 143)⟩,
    ⟨(some 145), (some (144, false)), .mov (.tmp 12)⟩,
    ⟨(some 146), (some (144, false)), .len (.tmp 145)⟩,
    ⟨(some 147), (some (144, false)), .mov (.tmp 16)⟩,
    ⟨(some 148), (some (144, false)), .len (.tmp 147)⟩,
    ⟨(some 149), (some (144, false)), .ibin .neq (.tmp 146) (.tmp 148)⟩,
    ⟨(some 150), none, .pick (.tmp 144) (.const (.bool true)) (.tmp 149)⟩]

def f4r31 : List AInstr := [
    ⟨(some 4), none, .mov (.const (.bool false))⟩]

def f4r32 : List AInstr := [
    ⟨(some 151), none, .mov (.tmp 12)⟩,
    ⟨(some 152), none, .len (.tmp 151)⟩,
    ⟨(some 153), none, .mov (.const (.int .i64 0))⟩]

def f4r33 : List AInstr := [
    ⟨(some 154), none, .ibin .lss (.tmp 153) (.tmp 152)⟩]

def f4r34 : List AInstr := [
    ⟨(some 155), none, .mov (.tmp 153)⟩,
    ⟨(some 19), none, .mov (.tmp 155)⟩]

def f4r35 : List AInstr := [
    ⟨(some 156), none, .mov (.tmp 12)⟩,
    ⟨(some 157), none, .mov (.tmp 19)⟩,
    ⟨(some 158), none, .indexAddr 2 (.tmp 156) (.tmp 157)⟩,
    ⟨(some 159), none, .fieldAddr 0 (.tmp 158)⟩,
    ⟨(some 160), none, .load none (.tmp 159)⟩,
    ⟨(some 161), none, .mov (.tmp 16)⟩,
    ⟨(some 162), none, .mov (.tmp 19)⟩,
    ⟨(some 163), none, .indexAddr 2 (.tmp 161) (.tmp 162)⟩,
    ⟨(some 164), none, .fieldAddr 0 (.tmp 163)⟩,
    ⟨(some 165), none, .load none (.tmp 164)⟩,
    ⟨(some 166), none, .ibin .add (.tmp 165) (.const (.int .i64 1))⟩,
    ⟨(some 167), none, .ibin .neq (.tmp 160) (.tmp 166)⟩,
    ⟨(some 168), none, .mov (.tmp 167)⟩,
    ⟨(some 169), (some (168, false)), .mov (.tmp 12)⟩,
    ⟨(some 170), (some (168, false)), .mov (.tmp 19)⟩,
    ⟨(some 171), (some (168, false)), .indexAddr 2 (.tmp 169) (.tmp 170)⟩,
    ⟨(some 172), (some (168, false)), .fieldAddr 1 (.tmp 171)⟩,
    ⟨(some 173), (some (168, false)), .load none (.tmp 172)⟩,
    ⟨(some 174), (some (168, false)), .mov (.tmp 16)⟩,
    ⟨(some 175), (some (168, false)), .mov (.tmp 19)⟩,
    ⟨(some 176), (some (168, false)), .indexAddr 2 (.tmp 174) (.tmp 175)⟩,
    ⟨(some 177), (some (168, false)), .fieldAddr 1 (.tmp 176)⟩,
    ⟨(some 178), (some (168, false)), .load none (.tmp 177)⟩,
    ⟨(some 179), (some (168, false)), .ibin .neq (.tmp 173) (.tmp 178)⟩,
    ⟨(some 180), none, .pick (.tmp 168) (.const (.bool true)) (.tmp 179)⟩]

def f4r36 : List AInstr := [
    ⟨(some 4), none, .mov (.const (.bool false))⟩]

def f4r37 : List AInstr := [
    ⟨(some 181), none, .ibin .add (.tmp 153) (.const (.int .i64 1))⟩,
    ⟨(some 153), none, .mov (.tmp 181)⟩]

/-- live: [12, 16, 152, 153] -/
def f4l3 : ACode := (.seq (.ops f4r33)
  (.keep [12, 16, 152, 153, 154] (.seq (.cond (.tmp 154) .skip (.exit 6))
  (.keep [12, 16, 152, 153] (.seq (.block 7 (.seq (.ops f4r34)
  (.keep [12, 16, 19, 152, 153] (.seq (.draw f4r35 [(0, 0, false), (0, 0, false), (0, 0, false), (0, 0, false), (0, 0, false), (0, 0, false), (0, 0, false), (0, 0, false), (0, 0, false), (0, 0, false), (0, 0, false), (0, 0, false), (0, 0, false), (0, 0, false), (0, 0, false), (0, 0, false), (0, 0, false), (0, 0, false), (0, 0, false), (0, 0, false), (0, 0, false), (0, 0, false), (0, 0, false), (0, 0, false), (0, 0, false)])
  (.keep [12, 16, 152, 153, 180] (.cond (.tmp 180) (.keep [] (.seq (.ops f4r36)
  (.keep [4] .ret))) .skip))))))
  (.keep [12, 16, 152, 153] (.ops f4r37)))))))

def f4r39 : List AInstr := [
    ⟨(some 4), none, .mov (.const (.bool true))⟩]

def f4b : ACode := (.seq (.ops f4r0)
  (.keep [0, 1] (.seq (.seq (.ops f4r1)
  (.keep [0, 1, 21] (.cond (.tmp 21) (.keep [] (.seq (.ops f4r2)
  (.keep [4] .ret))) .skip)))
  (.keep [0, 1] (.seq (.seq (.ops f4r3)
  (.keep [0, 1, 41] (.cond (.tmp 41) (.keep [] (.seq (.ops f4r4)
  (.keep [4] .ret))) .skip)))
  (.keep [0, 1] (.seq (.ops f4r5)
  (.keep [0, 1, 5] (.seq (.ops f4r6)
  (.keep [0, 1, 5, 6, 7] (.seq (.seq (.ops f4r7)
  (.keep [0, 1, 5, 6, 7, 44, 45, 46] (.block 0 (.loop f4l0))))
  (.keep [0, 1, 5, 6, 7] (.seq (.ops f4r15)
  (.keep [0, 1, 5, 6, 7] (.seq (.ops f4r16)
  (.keep [0, 1, 5, 6, 7] (.seq (.seq (.ops f4r17)
  (.keep [0, 1, 5, 6, 7, 10] (.block 2 (.loop f4l1))))
  (.keep [0, 1, 5, 6, 7] (.seq (.seq (.ops f4r23)
  (.keep [0, 5, 6, 7, 110, 111] (.block 4 (.loop f4l2))))
  (.keep [0, 5, 6, 7] (.seq (.ops f4r28)
  (.keep [0, 7, 12, 14] (.seq (.ops f4r29)
  (.keep [12, 14, 16, 18] (.seq (.seq (.ops f4r30)
  (.keep [12, 16, 150] (.cond (.tmp 150) (.keep [] (.seq (.ops f4r31)
  (.keep [4] .ret))) .skip)))
  (.keep [12, 16] (.seq (.seq (.ops f4r32)
  (.keep [12, 16, 152, 153] (.block 6 (.loop f4l3))))
  (.keep [] (.seq (.ops f4r39)
  (.keep [4] .ret))))))))))))))))))))))))))))))

def f4 : AFn := ⟨182, [.tmp 4], f4b⟩

theorem f4_ok : compFn Try.prog 4 = some f4.strip := by kernel_rfl

/- function 5: weirhouse/weirhousekeep.HierShare; parameters 3; operations that are not compiled: 0 -/
def f5r0 : List AInstr := [
    ⟨(some 3), none, .box (.tmp 0)⟩,
    ⟨(some 6), none, .mov (.const (.bool false))⟩]

def f5r1 : List AInstr := [
    ⟨(some 22), none, .callF 6 []⟩,
    ⟨(some 23), none, .un .not (.tmp 22)⟩]

def f5r2 : List AInstr := [
    ⟨(some 6), none, .mov (.const (.bool false))⟩]

def f5r3 : List AInstr := [
    ⟨(some 25), none, .load none (.tmp 3)⟩,
    ⟨(some 26), none, .mov (.tmp 1)⟩,
    ⟨(some 27), none, .callF 7 [.tmp 25, .tmp 26]⟩,
    ⟨(some 24), none, .mov (.tmp 27)⟩,
    ⟨(some 28), none, .extract 0 (.tmp 24)⟩,
    ⟨(some 29), none, .extract 1 (.tmp 24)⟩,
    ⟨(some 30), none, .extract 2 (.tmp 24)⟩,
    ⟨(some 31), none, .extract 3 (.tmp 24)⟩,
    ⟨(some 7), none, .mov (.tmp 28)⟩,
    ⟨(some 8), none, .mov (.tmp 29)⟩,
    ⟨(some 9), none, .mov (.tmp 30)⟩,
    ⟨(some 10), none, .mov (.tmp 31)⟩]

def f5r4 : List AInstr := [
    ⟨(some 32), none, .mov (.tmp 10)⟩,
    ⟨(some 33), none, .ibin .neq (.tmp 32) (.const (.int .i64 0))⟩,
    ⟨(some 34), none, .mov (.tmp 33)⟩,
    ⟨(some 35), (some (34, false)), .mov (.tmp 2)⟩,
    ⟨(some 36), (some (34, false)), .ibin .lss (.tmp 35) (.const (.int .i64 1))⟩,
    ⟨(some 37), none, .pick (.tmp 34) (.const (.bool true)) (.tmp 36)⟩,
    ⟨(some 38), none, .mov (.tmp 37)⟩,
    ⟨(some 39), (some (38, false)), .mov (.tmp 2)⟩,
    ⟨(some 40), (some (38, false)), .load none (.tmp 3)⟩,
    ⟨(some 41), (some (38, false)), .len (.tmp 40)⟩,
    ⟨(some 42), (some (38, false)), .ibin .geq (.tmp 39) (.tmp 41)⟩,
    ⟨(some 43), none, .pick (.tmp 38) (.const (.bool true)) (.tmp 42)⟩,
    ⟨(some 44), none, .mov (.tmp 43)⟩,
    ⟨(some 45), (some (44, false)), .mov (.tmp 7)⟩,
    ⟨(some 46), (some (44, false)), .len (.tmp 45)⟩,
    ⟨(some 47), (some (44, false)), .mov (.tmp 1)⟩,
    ⟨(some 48), (some (44, false)), .len (.tmp 47)⟩,
    ⟨(some 49), (some (44, false)), .ibin .neq (.tmp 46) (.tmp 48)⟩,
    ⟨(some 50), none, .pick (.tmp 44) (.const (.bool true)) (.tmp 49)⟩]

def f5r5 : List AInstr := [
    ⟨(some 51), none, .mov (.tmp 10)⟩,
    ⟨(some 52), none, .ibin .neq (.tmp 51) (.const (.int .i64 0))⟩,
    ⟨(some 53), none, .mov (.tmp 52)⟩,
    ⟨(some 54), (some (53, false)), .mov (.tmp 7)⟩,
    ⟨(some 55), (some (53, false)), .len (.tmp 54)⟩,
    ⟨(some 56), (some (53, false)), .mov (.tmp 1)⟩,
    ⟨(some 57), (some (53, false)), .len (.tmp 56)⟩,
    ⟨(some 58), (some (53, false)), .ibin .eql (.tmp 55) (.tmp 57)⟩,
    ⟨(some 59), none, .pick (.tmp 53) (.const (.bool true)) (.tmp 58)⟩,
    ⟨(some 6), none, .mov (.tmp 59)⟩]

def f5r6 : List AInstr := [
    ⟨(some 11), none, .mov (.const (.int .i64 0))⟩]

def f5r7 : List AInstr := [
    ⟨(some 60), none, .load none (.tmp 3)⟩,
    ⟨(some 61), none, .len (.tmp 60)⟩,
    ⟨(some 62), none, .mov (.const (.int .i64 0))⟩]

def f5r8 : List AInstr := [
    ⟨(some 63), none, .ibin .lss (.tmp 62) (.tmp 61)⟩]

def f5r9 : List AInstr := [
    ⟨(some 64), none, .indexAddr 2 (.tmp 60) (.tmp 62)⟩,
    ⟨(some 65), none, .load (some 2) (.tmp 64)⟩,
    ⟨(some 13), none, .alloc [.int .i64 0, .int .i64 0]⟩,
    ⟨none, none, .store 2 (.tmp 13) (.tmp 65)⟩]

def f5r10 : List AInstr := [
    ⟨(some 66), none, .fieldAddr 0 (.tmp 13)⟩,
    ⟨(some 67), none, .load none (.tmp 66)⟩,
    ⟨(some 68), none, .load none (.tmp 3)⟩,
    ⟨(some 69), none, .mov (.tmp 2)⟩,
    ⟨(some 70), none, .indexAddr 2 (.tmp 68) (.tmp 69)⟩,
    ⟨(some 71), none, .fieldAddr 0 (.tmp 70)⟩,
    ⟨(some 72), none, .load none (.tmp 71)⟩,
    ⟨(some 73), none, .ibin .eql (.tmp 67) (.tmp 72)⟩]

def f5r11 : List AInstr := [
    ⟨(some 74), none, .mov (.tmp 11)⟩,
    ⟨(some 75), none, .fieldAddr 1 (.tmp 13)⟩,
    ⟨(some 76), none, .load none (.tmp 75)⟩,
    ⟨(some 77), none, .ibin .add (.tmp 74) (.tmp 76)⟩,
    ⟨(some 11), none, .mov (.tmp 77)⟩]

def f5r12 : List AInstr := [
    ⟨(some 78), none, .ibin .add (.tmp 62) (.const (.int .i64 1))⟩,
    ⟨(some 62), none, .mov (.tmp 78)⟩]

/-- live: [1, 2, 3, 7, 8, 11, 60, 61, 62] -/
def f5l0 : ACode := (.seq (.ops f5r8)
  (.keep [1, 2, 3, 7, 8, 11, 60, 61, 62, 63] (.seq (.cond (.tmp 63) .skip (.exit 0))
  (.keep [1, 2, 3, 7, 8, 11, 60, 61, 62] (.seq (.block 1 (.seq (.ops f5r9)
  (.keep [1, 2, 3, 7, 8, 11, 13, 60, 61, 62] (.seq (.draw f5r10 [(0, 0, false), (0, 0, false), (0, 0, false), (0, 0, false), (0, 0, false), (0, 0, false), (0, 0, false), (0, 0, false)])
  (.keep [1, 2, 3, 7, 8, 11, 13, 60, 61, 62, 73] (.cond (.tmp 73) (.keep [1, 2, 3, 7, 8, 11, 13, 60, 61, 62] (.ops f5r11)) .skip))))))
  (.keep [1, 2, 3, 7, 8, 11, 60, 61, 62] (.ops f5r12)))))))

def f5r14 : List AInstr := [
    ⟨(some 79), none, .func (.func 11) [] [.tmp 3]⟩,
    ⟨(some 14), none, .mov (.tmp 79)⟩]

def f5r15 : List AInstr := [
    ⟨(some 15), none, .mov (.const (.int .i64 0))⟩,
    ⟨(some 16), none, .mov (.const (.int .i64 0))⟩,
    ⟨(some 17), none, .mov (.const (.int .i64 0))⟩,
    ⟨(some 18), none, .mov (.const (.int .i64 0))⟩]

def f5r16 : List AInstr := [
    ⟨(some 80), none, .mov (.tmp 1)⟩,
    ⟨(some 81), none, .len (.tmp 80)⟩,
    ⟨(some 82), none, .mov (.const (.int .i64 0))⟩]

def f5r17 : List AInstr := [
    ⟨(some 83), none, .ibin .lss (.tmp 82) (.tmp 81)⟩]

def f5r18 : List AInstr := [
    ⟨(some 84), none, .mov (.tmp 82)⟩,
    ⟨(some 85), none, .indexAddr 3 (.tmp 80) (.tmp 82)⟩,
    ⟨(some 86), none, .load (some 3) (.tmp 85)⟩,
    ⟨(some 20), none, .alloc [.int .i64 0, .int .i64 0, .int .i64 0]⟩,
    ⟨(some 19), none, .mov (.tmp 84)⟩,
    ⟨none, none, .store 3 (.tmp 20) (.tmp 86)⟩]

def f5r19 : List AInstr := [
    ⟨(some 87), none, .mov (.tmp 7)⟩,
    ⟨(some 88), none, .mov (.tmp 19)⟩,
    ⟨(some 89), none, .indexAddr 1 (.tmp 87) (.tmp 88)⟩,
    ⟨(some 90), none, .load none (.tmp 89)⟩,
    ⟨(some 91), none, .ibin .neq (.tmp 90) (.const (.int .i64 0))⟩]

def f5r20 : List AInstr := [
    ⟨(some 92), none, .fieldAddr 0 (.tmp 20)⟩,
    ⟨(some 93), none, .load none (.tmp 92)⟩,
    ⟨(some 94), none, .ibin .eql (.tmp 93) (.const (.int .i64 1))⟩]

def f5r21 : List AInstr := [
    ⟨(some 95), none, .mov (.tmp 14)⟩,
    ⟨(some 96), none, .fieldAddr 1 (.tmp 20)⟩,
    ⟨(some 97), none, .load none (.tmp 96)⟩,
    ⟨(some 98), none, .mov (.tmp 2)⟩,
    ⟨(some 99), none, .callV (.tmp 95) [.tmp 97, .tmp 98]⟩]

def f5r22 : List AInstr := [
    ⟨(some 100), none, .mov (.tmp 15)⟩,
    ⟨(some 101), none, .ibin .add (.tmp 100) (.const (.int .i64 1))⟩,
    ⟨(some 15), none, .mov (.tmp 101)⟩]

def f5r23 : List AInstr := [
    ⟨(some 102), none, .mov (.tmp 15)⟩,
    ⟨(some 103), none, .ibin .eql (.tmp 102) (.const (.int .i64 1))⟩]

def f5r24 : List AInstr := [
    ⟨(some 104), none, .mov (.tmp 18)⟩,
    ⟨(some 17), none, .mov (.tmp 104)⟩]

def f5r25 : List AInstr := [
    ⟨(some 105), none, .mov (.tmp 16)⟩,
    ⟨(some 106), none, .mov (.tmp 8)⟩,
    ⟨(some 107), none, .len (.tmp 106)⟩,
    ⟨(some 108), none, .ibin .geq (.tmp 105) (.tmp 107)⟩]

def f5r26 : List AInstr := [
    ⟨(some 6), none, .mov (.const (.bool false))⟩]

def f5r27 : List AInstr := [
    ⟨(some 109), none, .mov (.tmp 8)⟩,
    ⟨(some 110), none, .mov (.tmp 16)⟩,
    ⟨(some 111), none, .indexAddr 2 (.tmp 109) (.tmp 110)⟩,
    ⟨(some 112), none, .load (some 2) (.tmp 111)⟩,
    ⟨(some 21), none, .alloc [.int .i64 0, .int .i64 0]⟩,
    ⟨none, none, .store 2 (.tmp 21) (.tmp 112)⟩]

def f5r28 : List AInstr := [
    ⟨(some 113), none, .mov (.tmp 16)⟩,
    ⟨(some 114), none, .ibin .add (.tmp 113) (.const (.int .i64 1))⟩,
    ⟨(some 16), none, .mov (.tmp 114)⟩]

def f5r29 : List AInstr := [
    ⟨(some 115), none, .mov (.tmp 14)⟩,
    ⟨(some 116), none, .fieldAddr 0 (.tmp 21)⟩,
    ⟨(some 117), none, .load none (.tmp 116)⟩,
    ⟨(some 118), none, .load none (.tmp 3)⟩,
    ⟨(some 119), none, .mov (.tmp 2)⟩,
    ⟨(some 120), none, .indexAddr 2 (.tmp 118) (.tmp 119)⟩,
    ⟨(some 121), none, .fieldAddr 0 (.tmp 120)⟩,
    ⟨(some 122), none, .load none (.tmp 121)⟩,
    ⟨(some 123), none, .callV (.tmp 115) [.tmp 117, .tmp 122]⟩]

def f5r30 : List AInstr := [
    ⟨(some 124), none, .mov (.tmp 18)⟩,
    ⟨(some 125), none, .fieldAddr 1 (.tmp 21)⟩,
    ⟨(some 126), none, .load none (.tmp 125)⟩,
    ⟨(some 127), none, .load none (.tmp 3)⟩,
    ⟨(some 128), none, .mov (.tmp 2)⟩,
    ⟨(some 129), none, .indexAddr 2 (.tmp 127) (.tmp 128)⟩,
    ⟨(some 130), none, .fieldAddr 1 (.tmp 129)⟩,
    ⟨(some 131), none, .load none (.tmp 130)⟩,
    ⟨(some 132), none, .ibin .mul (.tmp 126) (.tmp 131)⟩,
    ⟨(some 133), none, .ibin .sub (.tmp 124) (.tmp 132)⟩,
    ⟨(some 18), none, .mov (.tmp 133)⟩]

def f5r31 : List AInstr := [
    ⟨(some 134), none, .mov (.tmp 14)⟩,
    ⟨(some 135), none, .fieldAddr 0 (.tmp 21)⟩,
    ⟨(some 136), none, .load none (.tmp 135)⟩,
    ⟨(some 137), none, .mov (.tmp 2)⟩,
    ⟨(some 138), none, .callV (.tmp 134) [.tmp 136, .tmp 137]⟩]

def f5r32 : List AInstr := [
    ⟨(some 139), none, .mov (.tmp 18)⟩,
    ⟨(some 140), none, .fieldAddr 1 (.tmp 21)⟩,
    ⟨(some 141), none, .load none (.tmp 140)⟩,
    ⟨(some 142), none, .mov (.tmp 11)⟩,
    ⟨(some 143), none, .ibin .mul (.tmp 141) (.tmp 142)⟩,
    ⟨(some 144), none, .ibin .add (.tmp 139) (.tmp 143)⟩,
    ⟨(some 18), none, .mov (.tmp 144)⟩]

def f5r33 : List AInstr := [
    ⟨(some 145), none, .mov (.tmp 15)⟩,
    ⟨(some 146), none, .ibin .sub (.tmp 145) (.const (.int .i64 1))⟩,
    ⟨(some 15), none, .mov (.tmp 146)⟩]

def f5r34 : List AInstr := [
    ⟨(some 147), none, .mov (.tmp 17)⟩,
    ⟨(some 148), none, .mov (.tmp 18)⟩,
    ⟨(some 149), none, .minmax true [.tmp 147, .tmp 148]⟩,
    ⟨(some 17), none, .mov (.tmp 149)⟩]

def f5r35 : List AInstr := [
    ⟨(some 150), none, .mov (.tmp 15)⟩,
    ⟨(some 151), none, .ibin .gtr (.tmp 150) (.const (.int .i64 0))⟩,
    ⟨(some 152), none, .mov (.tmp 151)⟩,
    ⟨(some 153), (some (152, true)), .mov (.tmp 17)⟩,
    ⟨(some 154), (some (152, true)), .mov (.tmp 18)⟩,
    ⟨(some 155), (some (152, true)), .ibin .sub (.tmp 153) (.tmp 154)⟩,
    ⟨(some 156), (some (152, true)), .mov (.tmp 11)⟩,
    ⟨(some 157), (some (152, true)), .ibin .mul (.const (.int .i64 4500)) (.tmp 156)⟩,
    ⟨(some 158), (some (152, true)), .ibin .gtr (.tmp 155) (.tmp 157)⟩,
    ⟨(some 159), none, .pick (.tmp 152) (.tmp 158) (.const (.bool false))⟩]

def f5r36 : List AInstr := [
    ⟨(some 6), none, .mov (.const (.bool false))⟩]

def f5r37 : List AInstr := [
    ⟨(some 160), none, .ibin .add (.tmp 82) (.const (.int .i64 1))⟩,
    ⟨(some 82), none, .mov (.tmp 160)⟩]

/-- live: [2, 3, 7, 8, 11, 14, 15, 16, 17, 18, 80, 81, 82] -/
def f5l1 : ACode := (.seq (.ops f5r17)
  (.keep [2, 3, 7, 8, 11, 14, 15, 16, 17, 18, 80, 81, 82, 83] (.seq (.cond (.tmp 83) .skip (.exit 2))
  (.keep [2, 3, 7, 8, 11, 14, 15, 16, 17, 18, 80, 81, 82] (.seq (.block 3 (.seq (.ops f5r18)
  (.keep [2, 3, 7, 8, 11, 14, 15, 16, 17, 18, 19, 20, 80, 81, 82] (.seq (.seq (.ops f5r19)
  (.keep [2, 3, 7, 8, 11, 14, 15, 16, 17, 18, 20, 80, 81, 82, 91] (.cond (.tmp 91) (.exit 3) .skip)))
  (.keep [2, 3, 7, 8, 11, 14, 15, 16, 17, 18, 20, 80, 81, 82] (.seq (.seq (.ops f5r20)
  (.keep [2, 3, 7, 8, 11, 14, 15, 16, 17, 18, 20, 80, 81, 82, 94] (.cond (.tmp 94) (.keep [2, 3, 7, 8, 11, 14, 15, 16, 17, 18, 20, 80, 81, 82] (.seq (.seq (.ops f5r21)
  (.keep [2, 3, 7, 8, 11, 14, 15, 16, 17, 18, 80, 81, 82, 99] (.cond (.tmp 99) (.keep [2, 3, 7, 8, 11, 14, 15, 16, 17, 18, 80, 81, 82] (.seq (.ops f5r22)
  (.keep [2, 3, 7, 8, 11, 14, 15, 16, 17, 18, 80, 81, 82] (.seq (.ops f5r23)
  (.keep [2, 3, 7, 8, 11, 14, 15, 16, 17, 18, 80, 81, 82, 103] (.cond (.tmp 103) (.keep [2, 3, 7, 8, 11, 14, 15, 16, 18, 80, 81, 82] (.ops f5r24)) .skip)))))) .skip)))
  (.exit 3))) .skip)))
  (.keep [2, 3, 7, 8, 11, 14, 15, 16, 17, 18, 80, 81, 82] (.seq (.seq (.ops f5r25)
  (.keep [2, 3, 7, 8, 11, 14, 15, 16, 17, 18, 80, 81, 82, 108] (.cond (.tmp 108) (.keep [] (.seq (.ops f5r26)
  (.keep [6] .ret))) .skip)))
  (.keep [2, 3, 7, 8, 11, 14, 15, 16, 17, 18, 80, 81, 82] (.seq (.ops f5r27)
  (.keep [2, 3, 7, 8, 11, 14, 15, 16, 17, 18, 21, 80, 81, 82] (.seq (.ops f5r28)
  (.keep [2, 3, 7, 8, 11, 14, 15, 16, 17, 18, 21, 80, 81, 82] (.seq (.seq (.draw f5r29 [(0, 0, false), (0, 0, false), (0, 0, false), (0, 0, false), (0, 0, false), (0, 0, false), (0, 0, false), (0, 0, false), (0, 0, true)])
  (.keep [2, 3, 7, 8, 11, 14, 15, 16, 17, 18, 21, 80, 81, 82, 123] (.cond (.tmp 123) (.keep [2, 3, 7, 8, 11, 14, 15, 16, 17, 18, 21, 80, 81, 82] (.draw f5r30 [(0, 0, false), (0, 0, false), (0, 0, false), (0, 0, false), (0, 0, false), (0, 0, false), (0, 0, false), (0, 0, false), (0, 0, false), (0, 0, false), (0, 0, false)])) .skip)))
  (.keep [2, 3, 7, 8, 11, 14, 15, 16, 17, 18, 21, 80, 81, 82] (.seq (.seq (.ops f5r31)
  (.keep [2, 3, 7, 8, 11, 14, 15, 16, 17, 18, 21, 80, 81, 82, 138] (.cond (.tmp 138) (.keep [2, 3, 7, 8, 11, 14, 15, 16, 17, 18, 21, 80, 81, 82] (.seq (.ops f5r32)
  (.keep [2, 3, 7, 8, 11, 14, 15, 16, 17, 18, 80, 81, 82] (.ops f5r33)))) .skip)))
  (.keep [2, 3, 7, 8, 11, 14, 15, 16, 17, 18, 80, 81, 82] (.seq (.ops f5r34)
  (.keep [2, 3, 7, 8, 11, 14, 15, 16, 17, 18, 80, 81, 82] (.seq (.ops f5r35)
  (.keep [2, 3, 7, 8, 11, 14, 15, 16, 17, 18, 80, 81, 82, 159] (.cond (.tmp 159) (.keep [] (.seq (.ops f5r36)
  (.keep [6] .ret))) .skip))))))))))))))))))))))
  (.keep [2, 3, 7, 8, 11, 14, 15, 16, 17, 18, 80, 81, 82] (.ops f5r37)))))))

def f5r39 : List AInstr := [
    ⟨(some 6), none, .mov (.const (.bool true))⟩]

def f5b : ACode := (.seq (.ops f5r0)
  (.keep [1, 2, 3] (.seq (.seq (.ops f5r1)
  (.keep [1, 2, 3, 23] (.cond (.tmp 23) (.keep [] (.seq (.ops f5r2)
  (.keep [6] .ret))) .skip)))
  (.keep [1, 2, 3] (.seq (.ops f5r3)
  (.keep [1, 2, 3, 7, 8, 10] (.seq (.seq (.ops f5r4)
  (.keep [1, 2, 3, 7, 8, 10, 50] (.cond (.tmp 50) (.keep [1, 7, 10] (.seq (.ops f5r5)
  (.keep [6] .ret))) .skip)))
  (.keep [1, 2, 3, 7, 8] (.seq (.ops f5r6)
  (.keep [1, 2, 3, 7, 8, 11] (.seq (.seq (.ops f5r7)
  (.keep [1, 2, 3, 7, 8, 11, 60, 61, 62] (.block 0 (.loop f5l0))))
  (.keep [1, 2, 3, 7, 8, 11] (.seq (.ops f5r14)
  (.keep [1, 2, 3, 7, 8, 11, 14] (.seq (.ops f5r15)
  (.keep [1, 2, 3, 7, 8, 11, 14, 15, 16, 17, 18] (.seq (.seq (.ops f5r16)
  (.keep [2, 3, 7, 8, 11, 14, 15, 16, 17, 18, 80, 81, 82] (.block 2 (.loop f5l1))))
  (.keep [] (.seq (.ops f5r39)
  (.keep [6] .ret))))))))))))))))))))

def f5 : AFn := ⟨161, [.tmp 6], f5b⟩

theorem f5_ok : compFn Try.prog 5 = some f5.strip := by kernel_rfl

/- function 6: weirhouse/weirhousekeep.alive18; parameters 0; operations that are not compiled: 0 -/
def f6r0 : List AInstr := [
    ⟨(some 0), none, .mov (.const (.bool false))⟩]

def f6r1 : List AInstr := [
    ⟨(some 9), none, .build [.int .i64 0, .int .i64 0] [(0, 1, (.const (.int .i64 (-1)))), (1, 1, (.const (.int .i64 1)))]⟩,
    ⟨(some 10), none, .build [.int .i64 0, .int .i64 0] [(0, 1, (.const (.int .i64 0))), (1, 1, (.const (.int .i64 1)))]⟩,
    ⟨(some 11), none, .build [.int .i64 0, .int .i64 0] [(0, 1, (.const (.int .i64 0))), (1, 1, (.const (.int .i64 1)))]⟩,
    ⟨(some 12), none, .build [.int .i64 0, .int .i64 0] [(0, 1, (.const (.int .i64 2))), (1, 1, (.const (.int .i64 1)))]⟩,
    ⟨(some 13), none, .build [.int .i64 0, .int .i64 0] [(0, 1, (.const (.int .i64 2))), (1, 1, (.const (.int .i64 1)))]⟩,
    ⟨(some 14), none, .buildSlice 2 5 [.int .i64 0, .int .i64 0, .int .i64 0, .int .i64 0, .int .i64 0, .int .i64 0, .int .i64 0, .int .i64 0, .int .i64 0, .int .i64 0] [(0, 2, (.tmp 9)), (2, 2, (.tmp 10)), (4, 2, (.tmp 11)), (6, 2, (.tmp 12)), (8, 2, (.tmp 13))]⟩,
    ⟨(some 1), none, .mov (.tmp 14)⟩]

def f6r2 : List AInstr := [
    ⟨(some 2), none, .mov (.const (.slice none 0 0))⟩]

def f6r3 : List AInstr := [
    ⟨(some 15), none, .mov (.const (.int .i64 0))⟩]

def f6r4 : List AInstr := [
    ⟨(some 16), none, .ibin .lss (.tmp 15) (.const (.int .i64 2))⟩]

def f6r5 : List AInstr := [
    ⟨(some 17), none, .buildSlice 1 3 [.int .i64 0, .int .i64 0, .int .i64 0] [(0, 1, (.const (.int .i64 1))), (1, 1, (.const (.int .i64 3))), (2, 1, (.const (.int .i64 4)))]⟩,
    ⟨(some 18), none, .len (.tmp 17)⟩,
    ⟨(some 19), none, .mov (.const (.int .i64 0))⟩]

def f6r6 : List AInstr := [
    ⟨(some 20), none, .ibin .lss (.tmp 19) (.tmp 18)⟩]

def f6r7 : List AInstr := [
    ⟨(some 21), none, .indexAddr 1 (.tmp 17) (.tmp 19)⟩,
    ⟨(some 22), none, .load none (.tmp 21)⟩,
    ⟨(some 4), none, .mov (.tmp 22)⟩]

def f6r8 : List AInstr := [
    ⟨(some 23), none, .mov (.tmp 2)⟩,
    ⟨(some 24), none, .mov (.tmp 4)⟩,
    ⟨(some 25), none, .build [.int .i64 0, .int .i64 0, .int .i64 0] [(0, 1, (.const (.int .i64 1))), (1, 1, (.tmp 24)), (2, 1, (.const (.int .i64 100)))]⟩,
    ⟨(some 26), none, .buildSlice 3 1 [.int .i64 0, .int .i64 0, .int .i64 0] [(0, 3, (.tmp 25))]⟩,
    ⟨(some 27), none, .append 3 24 (.tmp 23) (.tmp 26)⟩,
    ⟨(some 2), none, .mov (.tmp 27)⟩]

def f6r9 : List AInstr := [
    ⟨(some 28), none, .ibin .add (.tmp 19) (.const (.int .i64 1))⟩,
    ⟨(some 19), none, .mov (.tmp 28)⟩]

/-- live: [1, 2, 15, 17, 18, 19] -/
def f6l0 : ACode := (.seq (.ops f6r6)
  (.keep [1, 2, 15, 17, 18, 19, 20] (.seq (.cond (.tmp 20) .skip (.exit 2))
  (.keep [1, 2, 15, 17, 18, 19] (.seq (.block 3 (.seq (.ops f6r7)
  (.keep [1, 2, 4, 15, 17, 18, 19] (.ops f6r8))))
  (.keep [1, 2, 15, 17, 18, 19] (.ops f6r9)))))))

def f6r11 : List AInstr := [
    ⟨(some 29), none, .ibin .add (.tmp 15) (.const (.int .i64 1))⟩,
    ⟨(some 15), none, .mov (.tmp 29)⟩]

/-- live: [1, 2, 15] -/
def f6l1 : ACode := (.seq (.ops f6r4)
  (.keep [1, 2, 15, 16] (.seq (.cond (.tmp 16) .skip (.exit 0))
  (.keep [1, 2, 15] (.seq (.block 1 (.seq (.ops f6r5)
  (.keep [1, 2, 15, 17, 18, 19] (.block 2 (.loop f6l0)))))
  (.keep [1, 2, 15] (.ops f6r11)))))))

def f6r13 : List AInstr := [
    ⟨(some 30), none, .mov (.const (.int .i64 0))⟩]

def f6r14 : List AInstr := [
    ⟨(some 31), none, .ibin .lss (.tmp 30) (.const (.int .i64 4))⟩]

def f6r15 : List AInstr := [
    ⟨(some 32), none, .mov (.tmp 2)⟩,
    ⟨(some 33), none, .build [.int .i64 0, .int .i64 0, .int .i64 0] [(0, 1, (.const (.int .i64 2)))]⟩,
    ⟨(some 34), none, .buildSlice 3 1 [.int .i64 0, .int .i64 0, .int .i64 0] [(0, 3, (.tmp 33))]⟩,
    ⟨(some 35), none, .append 3 24 (.tmp 32) (.tmp 34)⟩,
    ⟨(some 2), none, .mov (.tmp 35)⟩]

def f6r16 : List AInstr := [
    ⟨(some 36), none, .ibin .add (.tmp 30) (.const (.int .i64 1))⟩,
    ⟨(some 30), none, .mov (.tmp 36)⟩]

/-- live: [1, 2, 30] -/
def f6l2 : ACode := (.seq (.ops f6r14)
  (.keep [1, 2, 30, 31] (.seq (.cond (.tmp 31) .skip (.exit 4))
  (.keep [1, 2, 30] (.seq (.block 5 (.ops f6r15))
  (.keep [1, 2, 30] (.ops f6r16)))))))

def f6r18 : List AInstr := [
    ⟨(some 38), none, .mov (.tmp 1)⟩,
    ⟨(some 39), none, .mov (.tmp 2)⟩,
    ⟨(some 40), none, .callF 7 [.tmp 38, .tmp 39]⟩,
    ⟨(some 37), none, .mov (.tmp 40)⟩,
    ⟨(some 41), none, .extract 0 (.tmp 37)⟩,
    ⟨(some 42), none, .extract 1 (.tmp 37)⟩,
    ⟨(some 43), none, .extract 2 (.tmp 37)⟩,
    ⟨(some 44), none, .extract 3 (.tmp 37)⟩,
    ⟨(some 5), none, .mov (.tmp 41)⟩,
    ⟨(some 6), none, .mov (.tmp 42)⟩,
    ⟨(some 7), none, .mov (.tmp 43)⟩,
    ⟨(some 8), none, .mov (.tmp 44)⟩]

def f6r19 : List AInstr := [
    ⟨(some 45), none, .mov (.tmp 8)⟩,
    ⟨(some 46), none, .ibin .eql (.tmp 45) (.const (.int .i64 0))⟩,
    ⟨(some 47), none, .mov (.tmp 46)⟩,
    ⟨(some 48), (some (47, true)), .mov (.tmp 6)⟩,
    ⟨(some 49), (some (47, true)), .build [.int .i64 0, .int .i64 0] [(0, 1, (.const (.int .i64 1))), (1, 1, (.const (.int .i64 100)))]⟩,
    ⟨(some 50), (some (47, true)), .build [.int .i64 0, .int .i64 0] [(0, 1, (.const (.int .i64 3))), (1, 1, (.const (.int .i64 100)))]⟩,
    ⟨(some 51), (some (47, true)), .build [.int .i64 0, .int .i64 0] [(0, 1, (.const (.int .i64 1))), (1, 1, (.const (.int .i64 100)))]⟩,
    ⟨(some 52), (some (47, true)), .build [.int .i64 0, .int .i64 0] [(0, 1, (.const (.int .i64 4))), (1, 1, (.const (.int .i64 100)))]⟩,
    ⟨(some 53), (some (47, true)), .buildSlice 2 4 [.int .i64 0, .int .i64 0, .int .i64 0, .int .i64 0, .int .i64 0, .int .i64 0, .int .i64 0, .int .i64 0] [(0, 2, (.tmp 49)), (2, 2, (.tmp 50)), (4, 2, (.tmp 51)), (6, 2, (.tmp 52))]⟩,
    ⟨(some 54), (some (47, true)), .callF 14 [.tmp 48, .tmp 53]⟩,
    ⟨(some 55), none, .pick (.tmp 47) (.tmp 54) (.const (.bool false))⟩,
    ⟨(some 0), none, .mov (.tmp 55)⟩]

def f6b : ACode := (.seq (.ops f6r0)
  (.keep [] (.seq (.ops f6r1)
  (.keep [1] (.seq (.ops f6r2)
  (.keep [1, 2] (.seq (.seq (.ops f6r3)
  (.keep [1, 2, 15] (.block 0 (.loop f6l1))))
  (.keep [1, 2] (.seq (.seq (.ops f6r13)
  (.keep [1, 2, 30] (.block 4 (.loop f6l2))))
  (.keep [1, 2] (.seq (.ops f6r18)
  (.keep [6, 8] (.seq (.ops f6r19)
  (.keep [0] .ret))))))))))))))

def f6 : AFn := ⟨56, [.tmp 0], f6b⟩

theorem f6_ok : compFn Try.prog 6 = some f6.strip := by kernel_rfl

/- function 7: weirhouse/hier.Play; parameters 2; operations that are not compiled: 0 -/
def f7r0 : List AInstr := [
    ⟨(some 4), none, .mov (.const (.slice none 0 0))⟩,
    ⟨(some 5), none, .mov (.const (.slice none 0 0))⟩,
    ⟨(some 6), none, .mov (.const (.slice none 0 0))⟩,
    ⟨(some 7), none, .mov (.const (.int .i64 0))⟩]

def f7r1 : List AInstr := [
    ⟨(some 25), none, .mov (.tmp 0)⟩,
    ⟨(some 26), none, .callF 15 [.tmp 25]⟩,
    ⟨(some 24), none, .mov (.tmp 26)⟩,
    ⟨(some 27), none, .extract 0 (.tmp 24)⟩,
    ⟨(some 28), none, .extract 1 (.tmp 24)⟩,
    ⟨(some 8), none, .mov (.tmp 27)⟩,
    ⟨(some 9), none, .mov (.tmp 28)⟩]

def f7r2 : List AInstr := [
    ⟨(some 29), none, .mov (.tmp 9)⟩,
    ⟨(some 30), none, .ibin .neq (.tmp 29) (.const (.int .i64 0))⟩]

def f7r3 : List AInstr := [
    ⟨(some 31), none, .mov (.tmp 9)⟩,
    ⟨(some 4), none, .mov (.const (.slice none 0 0))⟩,
    ⟨(some 5), none, .mov (.const (.slice none 0 0))⟩,
    ⟨(some 6), none, .mov (.const (.slice none 0 0))⟩,
    ⟨(some 7), none, .mov (.tmp 31)⟩]

def f7r4 : List AInstr := [
    ⟨(some 32), none, .mov (.tmp 1)⟩,
    ⟨(some 33), none, .len (.tmp 32)⟩,
    ⟨(some 34), none, .ibin .gtr (.tmp 33) (.const (.int .i64 400))⟩]

def f7r5 : List AInstr := [
    ⟨(some 4), none, .mov (.const (.slice none 0 0))⟩,
    ⟨(some 5), none, .mov (.const (.slice none 0 0))⟩,
    ⟨(some 6), none, .mov (.const (.slice none 0 0))⟩,
    ⟨(some 7), none, .mov (.const (.int .i64 2))⟩]

def f7r6 : List AInstr := [
    ⟨(some 35), none, .build [.slice none 0 0] []⟩,
    ⟨(some 36), none, .box (.tmp 35)⟩,
    ⟨(some 10), none, .mov (.tmp 36)⟩]

def f7r7 : List AInstr := [
    ⟨(some 37), none, .mov (.tmp 0)⟩,
    ⟨(some 38), none, .len (.tmp 37)⟩,
    ⟨(some 39), none, .mov (.const (.int .i64 0))⟩]

def f7r8 : List AInstr := [
    ⟨(some 40), none, .ibin .lss (.tmp 39) (.tmp 38)⟩]

def f7r9 : List AInstr := [
    ⟨(some 41), none, .mov (.tmp 39)⟩,
    ⟨(some 42), none, .indexAddr 2 (.tmp 37) (.tmp 39)⟩,
    ⟨(some 43), none, .load (some 2) (.tmp 42)⟩,
    ⟨(some 12), none, .alloc [.int .i64 0, .int .i64 0]⟩,
    ⟨(some 11), none, .mov (.tmp 41)⟩,
    ⟨none, none, .store 2 (.tmp 12) (.tmp 43)⟩]

def f7r10 : List AInstr := [
    ⟨(some 44), none, .mov (.tmp 10)⟩,
    ⟨(some 45), none, .mov (.tmp 10)⟩,
    ⟨(some 46), none, .nilCheck (.tmp 45)⟩,
    ⟨(some 47), none, .fieldAddr 0 (.tmp 46)⟩,
    ⟨(some 48), none, .load none (.tmp 47)⟩,
    ⟨(some 49), none, .fieldAddr 0 (.tmp 12)⟩,
    ⟨(some 50), none, .load none (.tmp 49)⟩,
    ⟨(some 51), none, .fieldAddr 1 (.tmp 12)⟩,
    ⟨(some 52), none, .load none (.tmp 51)⟩,
    ⟨(some 53), none, .build [.int .i64 0, .int .i64 0, .slice none 0 0, .int .i64 0, .int .i64 0, .int .i64 0, .int .i64 0, .int .i64 0, .int .i64 0, .slice none 0 0] [(0, 1, (.tmp 50)), (1, 1, (.tmp 52))]⟩,
    ⟨(some 54), none, .buildSlice 10 1 [.int .i64 0, .int .i64 0, .slice none 0 0, .int .i64 0, .int .i64 0, .int .i64 0, .int .i64 0, .int .i64 0, .int .i64 0, .slice none 0 0] [(0, 10, (.tmp 53))]⟩,
    ⟨(some 55), none, .append 10 112 (.tmp 48) (.tmp 54)⟩,
    ⟨(some 56), none, .nilCheck (.tmp 44)⟩,
    ⟨(some 57), none, .fieldAddr 0 (.tmp 56)⟩,
    ⟨none, none, .store 1 (.tmp 57) (.tmp 55)⟩]

def f7r11 : List AInstr := [
    ⟨(some 58), none, .fieldAddr 0 (.tmp 12)⟩,
    ⟨(some 59), none, .load none (.tmp 58)⟩,
    ⟨(some 60), none, .ibin .geq (.tmp 59) (.const (.int .i64 0))⟩]

def f7r12 : List AInstr := [
    ⟨(some 61), none, .mov (.tmp 10)⟩,
    ⟨(some 62), none, .nilCheck (.tmp 61)⟩,
    ⟨(some 63), none, .fieldAddr 0 (.tmp 62)⟩,
    ⟨(some 64), none, .load none (.tmp 63)⟩,
    ⟨(some 65), none, .fieldAddr 0 (.tmp 12)⟩,
    ⟨(some 66), none, .load none (.tmp 65)⟩,
    ⟨(some 67), none, .indexAddr 10 (.tmp 64) (.tmp 66)⟩,
    ⟨(some 13), none, .mov (.tmp 67)⟩]

def f7r13 : List AInstr := [
    ⟨(some 68), none, .mov (.tmp 13)⟩,
    ⟨(some 69), none, .mov (.tmp 13)⟩,
    ⟨(some 70), none, .mov (.tmp 13)⟩,
    ⟨(some 71), none, .nilCheck (.tmp 70)⟩,
    ⟨(some 72), none, .fieldAddr 2 (.tmp 71)⟩,
    ⟨(some 73), none, .load none (.tmp 72)⟩,
    ⟨(some 74), none, .mov (.tmp 11)⟩,
    ⟨(some 75), none, .buildSlice 1 1 [.int .i64 0] [(0, 1, (.tmp 74))]⟩,
    ⟨(some 76), none, .append 1 8 (.tmp 73) (.tmp 75)⟩,
    ⟨(some 77), none, .mov (.tmp 13)⟩,
    ⟨(some 78), none, .nilCheck (.tmp 77)⟩,
    ⟨(some 79), none, .fieldAddr 3 (.tmp 78)⟩,
    ⟨(some 80), none, .load none (.tmp 79)⟩,
    ⟨(some 81), none, .fieldAddr 1 (.tmp 12)⟩,
    ⟨(some 82), none, .load none (.tmp 81)⟩,
    ⟨(some 83), none, .ibin .add (.tmp 80) (.tmp 82)⟩,
    ⟨(some 84), none, .nilCheck (.tmp 68)⟩,
    ⟨(some 85), none, .fieldAddr 2 (.tmp 84)⟩,
    ⟨none, none, .store 1 (.tmp 85) (.tmp 76)⟩,
    ⟨(some 86), none, .nilCheck (.tmp 69)⟩,
    ⟨(some 87), none, .fieldAddr 3 (.tmp 86)⟩,
    ⟨none, none, .store 1 (.tmp 87) (.tmp 83)⟩]

def f7r14 : List AInstr := [
    ⟨(some 88), none, .ibin .add (.tmp 39) (.const (.int .i64 1))⟩,
    ⟨(some 39), none, .mov (.tmp 88)⟩]

/-- live: [1, 8, 10, 37, 38, 39] -/
def f7l0 : ACode := (.seq (.ops f7r8)
  (.keep [1, 8, 10, 37, 38, 39, 40] (.seq (.cond (.tmp 40) .skip (.exit 0))
  (.keep [1, 8, 10, 37, 38, 39] (.seq (.block 1 (.seq (.ops f7r9)
  (.keep [1, 8, 10, 11, 12, 37, 38, 39] (.seq (.draw f7r10 [(0, 2, false), (0, 1, false), (0, 1, false), (0, 1, false), (0, 1, false), (0, 0, false), (0, 0, false), (0, 0, false), (0, 0, false), (0, 0, false), (0, 0, true), (1, 0, true), (2, 2, false), (2, 2, false), (2, 0, true)])
  (.keep [1, 8, 10, 11, 12, 37, 38, 39] (.seq (.ops f7r11)
  (.keep [1, 8, 10, 11, 12, 37, 38, 39, 60] (.cond (.tmp 60) (.keep [1, 8, 10, 11, 12, 37, 38, 39] (.seq (.draw f7r12 [(0, 0, false), (0, 0, false), (0, 0, false), (0, 0, false), (0, 0, false), (0, 0, false), (0, 0, false), (0, 0, false)])
  (.keep [1, 8, 10, 11, 12, 13, 37, 38, 39] (.draw f7r13 [(0, 2, false), (0, 3, false), (0, 1, false), (0, 1, false), (0, 1, false), (0, 1, false), (0, 0, false), (0, 2, true), (1, 3, true), (0, 2, false), (0, 2, false), (0, 2, false), (0, 2, false), (0, 3, false), (0, 3, false), (0, 3, false), (2, 2, false), (2, 2, false), (2, 0, true), (3, 3, false), (3, 3, false), (3, 0, true)])))) .skip))))))))
  (.keep [1, 8, 10, 37, 38, 39] (.ops f7r14)))))))

def f7r16 : List AInstr := [
    ⟨(some 14), none, .mov (.const (.slice none 0 0))⟩]

def f7r17 : List AInstr := [
    ⟨(some 15), none, .mov (.const (.slice none 0 0))⟩]

def f7r18 : List AInstr := [
    ⟨(some 89), none, .mov (.tmp 1)⟩,
    ⟨(some 90), none, .len (.tmp 89)⟩,
    ⟨(some 91), none, .mov (.const (.int .i64 0))⟩]

def f7r19 : List AInstr := [
    ⟨(some 92), none, .ibin .lss (.tmp 91) (.tmp 90)⟩]

def f7r20 : List AInstr := [
    ⟨(some 93), none, .indexAddr 3 (.tmp 89) (.tmp 91)⟩,
    ⟨(some 94), none, .load (some 3) (.tmp 93)⟩,
    ⟨(some 17), none, .alloc [.int .i64 0, .int .i64 0, .int .i64 0]⟩,
    ⟨none, none, .store 3 (.tmp 17) (.tmp 94)⟩]

def f7r21 : List AInstr := [
    ⟨(some 18), none, .mov (.const (.int .i64 0))⟩]

def f7r22 : List AInstr := [
    ⟨(some 102), none, .fieldAddr 0 (.tmp 17)⟩,
    ⟨(some 103), none, .load none (.tmp 102)⟩,
    ⟨(some 104), none, .ibin .neq (.tmp 103) (.const (.int .i64 1))⟩,
    ⟨(some 105), none, .mov (.tmp 104)⟩,
    ⟨(some 106), (some (105, true)), .fieldAddr 0 (.tmp 17)⟩,
    ⟨(some 107), (some (105, true)), .load none (.tmp 106)⟩,
    ⟨(some 108), (some (105, true)), .ibin .neq (.tmp 107) (.const (.int .i64 2))⟩,
    ⟨(some 109), none, .pick (.tmp 105) (.tmp 108) (.const (.bool false))⟩,
    ⟨(some 101), none, .mov (.tmp 109)⟩]

def f7r23 : List AInstr := [
    ⟨(some 18), none, .mov (.const (.int .i64 5))⟩]

def f7r24 : List AInstr := [
    ⟨(some 111), none, .fieldAddr 0 (.tmp 17)⟩,
    ⟨(some 112), none, .load none (.tmp 111)⟩,
    ⟨(some 113), none, .ibin .eql (.tmp 112) (.const (.int .i64 2))⟩,
    ⟨(some 110), none, .mov (.tmp 113)⟩]

def f7r25 : List AInstr := [
    ⟨(some 115), none, .mov (.tmp 10)⟩,
    ⟨(some 116), none, .callF 16 [.tmp 115]⟩,
    ⟨(some 114), none, .mov (.tmp 116)⟩,
    ⟨(some 117), none, .extract 0 (.tmp 114)⟩,
    ⟨(some 118), none, .extract 1 (.tmp 114)⟩,
    ⟨(some 19), none, .alloc [.int .i64 0, .int .i64 0]⟩,
    ⟨none, none, .store 2 (.tmp 19) (.tmp 117)⟩,
    ⟨(some 20), none, .mov (.tmp 118)⟩]

def f7r26 : List AInstr := [
    ⟨(some 119), none, .mov (.tmp 20)⟩]

def f7r27 : List AInstr := [
    ⟨(some 120), none, .mov (.tmp 15)⟩,
    ⟨(some 121), none, .load (some 2) (.tmp 19)⟩,
    ⟨(some 122), none, .buildSlice 2 1 [.int .i64 0, .int .i64 0] [(0, 2, (.tmp 121))]⟩,
    ⟨(some 123), none, .append 2 16 (.tmp 120) (.tmp 122)⟩,
    ⟨(some 15), none, .mov (.tmp 123)⟩]

def f7r28 : List AInstr := [
    ⟨(some 18), none, .mov (.const (.int .i64 3))⟩]

def f7r29 : List AInstr := [
    ⟨(some 125), none, .mov (.tmp 8)⟩,
    ⟨(some 126), none, .fieldAddr 1 (.tmp 17)⟩,
    ⟨(some 127), none, .load none (.tmp 126)⟩,
    ⟨(some 128), none, .callF 13 [.tmp 125, .tmp 127]⟩,
    ⟨(some 129), none, .un .not (.tmp 128)⟩,
    ⟨(some 124), none, .mov (.tmp 129)⟩]

def f7r30 : List AInstr := [
    ⟨(some 18), none, .mov (.const (.int .i64 3))⟩]

def f7r31 : List AInstr := [
    ⟨(some 131), none, .fieldAddr 2 (.tmp 17)⟩,
    ⟨(some 132), none, .load none (.tmp 131)⟩,
    ⟨(some 133), none, .ibin .lss (.tmp 132) (.const (.int .i64 1))⟩,
    ⟨(some 134), none, .mov (.tmp 133)⟩,
    ⟨(some 135), (some (134, false)), .fieldAddr 2 (.tmp 17)⟩,
    ⟨(some 136), (some (134, false)), .load none (.tmp 135)⟩,
    ⟨(some 137), (some (134, false)), .ibin .gtr (.tmp 136) (.const (.int .i64 1500))⟩,
    ⟨(some 138), none, .pick (.tmp 134) (.const (.bool true)) (.tmp 137)⟩,
    ⟨(some 130), none, .mov (.tmp 138)⟩]

def f7r32 : List AInstr := [
    ⟨(some 18), none, .mov (.const (.int .i64 2))⟩]

def f7r33 : List AInstr := [
    ⟨(some 95), none, .mov (.tmp 10)⟩,
    ⟨(some 96), none, .fieldAddr 1 (.tmp 17)⟩,
    ⟨(some 97), none, .load none (.tmp 96)⟩,
    ⟨(some 98), none, .fieldAddr 2 (.tmp 17)⟩,
    ⟨(some 99), none, .load none (.tmp 98)⟩,
    ⟨(some 100), none, .callF 17 [.tmp 95, .tmp 97, .tmp 99]⟩]

def f7r34 : List AInstr := [
    ⟨(some 139), none, .mov (.tmp 14)⟩,
    ⟨(some 140), none, .mov (.tmp 18)⟩,
    ⟨(some 141), none, .buildSlice 1 1 [.int .i64 0] [(0, 1, (.tmp 140))]⟩,
    ⟨(some 142), none, .append 1 8 (.tmp 139) (.tmp 141)⟩,
    ⟨(some 14), none, .mov (.tmp 142)⟩]

def f7r35 : List AInstr := [
    ⟨(some 143), none, .ibin .add (.tmp 91) (.const (.int .i64 1))⟩,
    ⟨(some 91), none, .mov (.tmp 143)⟩]

/-- live: [8, 10, 14, 15, 89, 90, 91] -/
def f7l1 : ACode := (.seq (.ops f7r19)
  (.keep [8, 10, 14, 15, 89, 90, 91, 92] (.seq (.cond (.tmp 92) .skip (.exit 2))
  (.keep [8, 10, 14, 15, 89, 90, 91] (.seq (.block 3 (.seq (.ops f7r20)
  (.keep [8, 10, 14, 15, 17, 89, 90, 91] (.seq (.ops f7r21)
  (.keep [8, 10, 14, 15, 17, 18, 89, 90, 91] (.seq (.block 4 (.seq (.ops f7r22)
  (.keep [8, 10, 14, 15, 17, 18, 89, 90, 91, 101] (.cond (.tmp 101) (.keep [8, 10, 14, 15, 89, 90, 91] (.ops f7r23)) (.keep [8, 10, 14, 15, 17, 18, 89, 90, 91] (.seq (.ops f7r24)
  (.keep [8, 10, 14, 15, 17, 18, 89, 90, 91, 110] (.cond (.tmp 110) (.keep [8, 10, 14, 15, 18, 89, 90, 91] (.seq (.ops f7r25)
  (.keep [8, 10, 14, 15, 18, 19, 20, 89, 90, 91] (.seq (.ops f7r26)
  (.keep [8, 10, 14, 15, 18, 19, 89, 90, 91, 119] (.cond (.tmp 119) (.keep [8, 10, 14, 15, 18, 19, 89, 90, 91] (.ops f7r27)) (.keep [8, 10, 14, 15, 89, 90, 91] (.ops f7r28)))))))) (.keep [8, 10, 14, 15, 17, 18, 89, 90, 91] (.seq (.ops f7r29)
  (.keep [8, 10, 14, 15, 17, 18, 89, 90, 91, 124] (.cond (.tmp 124) (.keep [8, 10, 14, 15, 89, 90, 91] (.ops f7r30)) (.keep [8, 10, 14, 15, 17, 18, 89, 90, 91] (.seq (.ops f7r31)
  (.keep [8, 10, 14, 15, 17, 18, 89, 90, 91, 130] (.cond (.tmp 130) (.keep [8, 10, 14, 15, 89, 90, 91] (.ops f7r32)) (.keep [8, 10, 14, 15, 17, 18, 89, 90, 91] (.ops f7r33))))))))))))))))))
  (.keep [8, 10, 14, 15, 18, 89, 90, 91] (.ops f7r34))))))))
  (.keep [8, 10, 14, 15, 89, 90, 91] (.ops f7r35)))))))

def f7r37 : List AInstr := [
    ⟨(some 21), none, .mov (.const (.slice none 0 0))⟩]

def f7r38 : List AInstr := [
    ⟨(some 144), none, .mov (.tmp 10)⟩,
    ⟨(some 145), none, .nilCheck (.tmp 144)⟩,
    ⟨(some 146), none, .fieldAddr 0 (.tmp 145)⟩,
    ⟨(some 147), none, .load none (.tmp 146)⟩,
    ⟨(some 148), none, .len (.tmp 147)⟩,
    ⟨(some 149), none, .mov (.const (.int .i64 0))⟩]

def f7r39 : List AInstr := [
    ⟨(some 150), none, .ibin .lss (.tmp 149) (.tmp 148)⟩]

def f7r40 : List AInstr := [
    ⟨(some 151), none, .indexAddr 10 (.tmp 147) (.tmp 149)⟩,
    ⟨(some 152), none, .load (some 10) (.tmp 151)⟩,
    ⟨(some 23), none, .alloc [.int .i64 0, .int .i64 0, .slice none 0 0, .int .i64 0, .int .i64 0, .int .i64 0, .int .i64 0, .int .i64 0, .int .i64 0, .slice none 0 0]⟩,
    ⟨none, none, .store 10 (.tmp 23) (.tmp 152)⟩]

def f7r41 : List AInstr := [
    ⟨(some 153), none, .mov (.tmp 21)⟩,
    ⟨(some 154), none, .fieldAddr 9 (.tmp 23)⟩,
    ⟨(some 155), none, .load none (.tmp 154)⟩,
    ⟨(some 156), none, .len (.tmp 155)⟩,
    ⟨(some 157), none, .buildSlice 1 1 [.int .i64 0] [(0, 1, (.tmp 156))]⟩,
    ⟨(some 158), none, .append 1 8 (.tmp 153) (.tmp 157)⟩,
    ⟨(some 21), none, .mov (.tmp 158)⟩]

def f7r42 : List AInstr := [
    ⟨(some 159), none, .ibin .add (.tmp 149) (.const (.int .i64 1))⟩,
    ⟨(some 149), none, .mov (.tmp 159)⟩]

/-- live: [14, 15, 21, 147, 148, 149] -/
def f7l2 : ACode := (.seq (.ops f7r39)
  (.keep [14, 15, 21, 147, 148, 149, 150] (.seq (.cond (.tmp 150) .skip (.exit 5))
  (.keep [14, 15, 21, 147, 148, 149] (.seq (.block 6 (.seq (.ops f7r40)
  (.keep [14, 15, 21, 23, 147, 148, 149] (.ops f7r41))))
  (.keep [14, 15, 21, 147, 148, 149] (.ops f7r42)))))))

def f7r44 : List AInstr := [
    ⟨(some 160), none, .mov (.tmp 14)⟩,
    ⟨(some 161), none, .mov (.tmp 15)⟩,
    ⟨(some 162), none, .mov (.tmp 21)⟩,
    ⟨(some 4), none, .mov (.tmp 160)⟩,
    ⟨(some 5), none, .mov (.tmp 161)⟩,
    ⟨(some 6), none, .mov (.tmp 162)⟩,
    ⟨(some 7), none, .mov (.const (.int .i64 0))⟩]

def f7b : ACode := (.seq (.ops f7r0)
  (.keep [0, 1] (.seq (.ops f7r1)
  (.keep [0, 1, 8, 9] (.seq (.seq (.ops f7r2)
  (.keep [0, 1, 8, 9, 30] (.cond (.tmp 30) (.keep [9] (.seq (.ops f7r3)
  (.keep [4, 5, 6, 7] .ret))) .skip)))
  (.keep [0, 1, 8] (.seq (.seq (.ops f7r4)
  (.keep [0, 1, 8, 34] (.cond (.tmp 34) (.keep [] (.seq (.ops f7r5)
  (.keep [4, 5, 6, 7] .ret))) .skip)))
  (.keep [0, 1, 8] (.seq (.ops f7r6)
  (.keep [0, 1, 8, 10] (.seq (.seq (.ops f7r7)
  (.keep [1, 8, 10, 37, 38, 39] (.block 0 (.loop f7l0))))
  (.keep [1, 8, 10] (.seq (.ops f7r16)
  (.keep [1, 8, 10, 14] (.seq (.ops f7r17)
  (.keep [1, 8, 10, 14, 15] (.seq (.seq (.ops f7r18)
  (.keep [8, 10, 14, 15, 89, 90, 91] (.block 2 (.loop f7l1))))
  (.keep [10, 14, 15] (.seq (.ops f7r37)
  (.keep [10, 14, 15, 21] (.seq (.seq (.ops f7r38)
  (.keep [14, 15, 21, 147, 148, 149] (.block 5 (.loop f7l2))))
  (.keep [14, 15, 21] (.seq (.ops f7r44)
  (.keep [4, 5, 6, 7] .ret))))))))))))))))))))))))

def f7 : AFn := ⟨163, [.tmp 4, .tmp 5, .tmp 6, .tmp 7], f7b⟩

theorem f7_ok : compFn Try.prog 7 = some f7.strip := by kernel_rfl

/- function 8: weirhouse/weirhousekeep.flowsKept; parameters 5; operations that are not compiled: 0 -/
def f8r0 : List AInstr := [
    ⟨(some 10), none, .mov (.const (.bool false))⟩]

def f8r1 : List AInstr := [
    ⟨(some 18), none, .mov (.tmp 2)⟩,
    ⟨(some 19), none, .len (.tmp 18)⟩,
    ⟨(some 20), none, .mov (.tmp 1)⟩,
    ⟨(some 21), none, .len (.tmp 20)⟩,
    ⟨(some 22), none, .ibin .neq (.tmp 19) (.tmp 21)⟩,
    ⟨(some 23), none, .mov (.tmp 22)⟩,
    ⟨(some 24), (some (23, false)), .mov (.tmp 4)⟩,
    ⟨(some 25), (some (23, false)), .len (.tmp 24)⟩,
    ⟨(some 26), (some (23, false)), .mov (.tmp 0)⟩,
    ⟨(some 27), (some (23, false)), .ibin .neq (.tmp 25) (.tmp 26)⟩,
    ⟨(some 28), none, .pick (.tmp 23) (.const (.bool true)) (.tmp 27)⟩]

def f8r2 : List AInstr := [
    ⟨(some 10), none, .mov (.const (.bool false))⟩]

def f8r3 : List AInstr := [
    ⟨(some 29), none, .mov (.tmp 0)⟩,
    ⟨(some 30), none, .makeSlice 1 24 [.slice none 0 0] (.tmp 29) (.tmp 29)⟩,
    ⟨(some 11), none, .mov (.tmp 30)⟩]

def f8r4 : List AInstr := [
    ⟨(some 31), none, .mov (.tmp 1)⟩,
    ⟨(some 32), none, .len (.tmp 31)⟩,
    ⟨(some 33), none, .mov (.const (.int .i64 0))⟩]

def f8r5 : List AInstr := [
    ⟨(some 34), none, .ibin .lss (.tmp 33) (.tmp 32)⟩]

def f8r6 : List AInstr := [
    ⟨(some 35), none, .mov (.tmp 33)⟩,
    ⟨(some 36), none, .indexAddr 3 (.tmp 31) (.tmp 33)⟩,
    ⟨(some 37), none, .load (some 3) (.tmp 36)⟩,
    ⟨(some 13), none, .alloc [.int .i64 0, .int .i64 0, .int .i64 0]⟩,
    ⟨(some 12), none, .mov (.tmp 35)⟩,
    ⟨none, none, .store 3 (.tmp 13) (.tmp 37)⟩]

def f8r7 : List AInstr := [
    ⟨(some 38), none, .mov (.tmp 2)⟩,
    ⟨(some 39), none, .mov (.tmp 12)⟩,
    ⟨(some 40), none, .indexAddr 1 (.tmp 38) (.tmp 39)⟩,
    ⟨(some 41), none, .load none (.tmp 40)⟩,
    ⟨(some 42), none, .ibin .eql (.tmp 41) (.const (.int .i64 0))⟩,
    ⟨(some 43), none, .mov (.tmp 42)⟩,
    ⟨(some 44), (some (43, true)), .fieldAddr 0 (.tmp 13)⟩,
    ⟨(some 45), (some (43, true)), .load none (.tmp 44)⟩,
    ⟨(some 46), (some (43, true)), .ibin .eql (.tmp 45) (.const (.int .i64 1))⟩,
    ⟨(some 47), none, .pick (.tmp 43) (.tmp 46) (.const (.bool false))⟩]

def f8r8 : List AInstr := [
    ⟨(some 48), none, .fieldAddr 1 (.tmp 13)⟩,
    ⟨(some 49), none, .load none (.tmp 48)⟩,
    ⟨(some 50), none, .ibin .lss (.tmp 49) (.const (.int .i64 0))⟩,
    ⟨(some 51), none, .mov (.tmp 50)⟩,
    ⟨(some 52), (some (51, false)), .fieldAddr 1 (.tmp 13)⟩,
    ⟨(some 53), (some (51, false)), .load none (.tmp 52)⟩,
    ⟨(some 54), (some (51, false)), .mov (.tmp 0)⟩,
    ⟨(some 55), (some (51, false)), .ibin .geq (.tmp 53) (.tmp 54)⟩,
    ⟨(some 56), none, .pick (.tmp 51) (.const (.bool true)) (.tmp 55)⟩]

def f8r9 : List AInstr := [
    ⟨(some 10), none, .mov (.const (.bool false))⟩]

def f8r10 : List AInstr := [
    ⟨(some 57), none, .mov (.tmp 11)⟩,
    ⟨(some 58), none, .fieldAddr 1 (.tmp 13)⟩,
    ⟨(some 59), none, .load none (.tmp 58)⟩,
    ⟨(some 60), none, .mov (.tmp 11)⟩,
    ⟨(some 61), none, .fieldAddr 1 (.tmp 13)⟩,
    ⟨(some 62), none, .load none (.tmp 61)⟩,
    ⟨(some 63), none, .indexAddr 1 (.tmp 60) (.tmp 62)⟩,
    ⟨(some 64), none, .load none (.tmp 63)⟩,
    ⟨(some 65), none, .fieldAddr 2 (.tmp 13)⟩,
    ⟨(some 66), none, .load none (.tmp 65)⟩,
    ⟨(some 67), none, .buildSlice 1 1 [.int .i64 0] [(0, 1, (.tmp 66))]⟩,
    ⟨(some 68), none, .append 1 8 (.tmp 64) (.tmp 67)⟩,
    ⟨(some 69), none, .indexAddr 1 (.tmp 57) (.tmp 59)⟩,
    ⟨none, none, .store 1 (.tmp 69) (.tmp 68)⟩]

def f8r11 : List AInstr := [
    ⟨(some 70), none, .ibin .add (.tmp 33) (.const (.int .i64 1))⟩,
    ⟨(some 33), none, .mov (.tmp 70)⟩]

/-- live: [0, 2, 3, 4, 11, 31, 32, 33] -/
def f8l0 : ACode := (.seq (.ops f8r5)
  (.keep [0, 2, 3, 4, 11, 31, 32, 33, 34] (.seq (.cond (.tmp 34) .skip (.exit 0))
  (.keep [0, 2, 3, 4, 11, 31, 32, 33] (.seq (.block 1 (.seq (.ops f8r6)
  (.keep [0, 2, 3, 4, 11, 12, 13, 31, 32, 33] (.seq (.ops f8r7)
  (.keep [0, 2, 3, 4, 11, 13, 31, 32, 33, 47] (.cond (.tmp 47) (.keep [0, 2, 3, 4, 11, 13, 31, 32, 33] (.seq (.seq (.ops f8r8)
  (.keep [0, 2, 3, 4, 11, 13, 31, 32, 33, 56] (.cond (.tmp 56) (.keep [] (.seq (.ops f8r9)
  (.keep [10] .ret))) .skip)))
  (.keep [0, 2, 3, 4, 11, 13, 31, 32, 33] (.draw f8r10 [(0, 2, false), (0, 2, false), (0, 2, false), (0, 1, false), (0, 1, false), (0, 1, false), (0, 1, false), (0, 1, false), (0, 0, false), (0, 0, false), (0, 0, true), (1, 0, true), (2, 2, false), (2, 0, true)])))) .skip))))))
  (.keep [0, 2, 3, 4, 11, 31, 32, 33] (.ops f8r11)))))))

def f8r13 : List AInstr := [
    ⟨(some 71), none, .mov (.tmp 3)⟩,
    ⟨(some 72), none, .len (.tmp 71)⟩,
    ⟨(some 73), none, .mov (.const (.int .i64 0))⟩]

def f8r14 : List AInstr := [
    ⟨(some 74), none, .ibin .lss (.tmp 73) (.tmp 72)⟩]

def f8r15 : List AInstr := [
    ⟨(some 75), none, .indexAddr 2 (.tmp 71) (.tmp 73)⟩,
    ⟨(some 76), none, .load (some 2) (.tmp 75)⟩,
    ⟨(some 15), none, .alloc [.int .i64 0, .int .i64 0]⟩,
    ⟨none, none, .store 2 (.tmp 15) (.tmp 76)⟩]

def f8r16 : List AInstr := [
    ⟨(some 77), none, .fieldAddr 0 (.tmp 15)⟩,
    ⟨(some 78), none, .load none (.tmp 77)⟩,
    ⟨(some 79), none, .ibin .lss (.tmp 78) (.const (.int .i64 0))⟩,
    ⟨(some 80), none, .mov (.tmp 79)⟩,
    ⟨(some 81), (some (80, false)), .fieldAddr 0 (.tmp 15)⟩,
    ⟨(some 82), (some (80, false)), .load none (.tmp 81)⟩,
    ⟨(some 83), (some (80, false)), .mov (.tmp 0)⟩,
    ⟨(some 84), (some (80, false)), .ibin .geq (.tmp 82) (.tmp 83)⟩,
    ⟨(some 85), none, .pick (.tmp 80) (.const (.bool true)) (.tmp 84)⟩,
    ⟨(some 86), none, .mov (.tmp 85)⟩,
    ⟨(some 87), (some (86, false)), .mov (.tmp 11)⟩,
    ⟨(some 88), (some (86, false)), .fieldAddr 0 (.tmp 15)⟩,
    ⟨(some 89), (some (86, false)), .load none (.tmp 88)⟩,
    ⟨(some 90), (some (86, false)), .indexAddr 1 (.tmp 87) (.tmp 89)⟩,
    ⟨(some 91), (some (86, false)), .load none (.tmp 90)⟩,
    ⟨(some 92), (some (86, false)), .len (.tmp 91)⟩,
    ⟨(some 93), (some (86, false)), .ibin .eql (.tmp 92) (.const (.int .i64 0))⟩,
    ⟨(some 94), none, .pick (.tmp 86) (.const (.bool true)) (.tmp 93)⟩,
    ⟨(some 95), none, .mov (.tmp 94)⟩,
    ⟨(some 96), (some (95, false)), .mov (.tmp 11)⟩,
    ⟨(some 97), (some (95, false)), .fieldAddr 0 (.tmp 15)⟩,
    ⟨(some 98), (some (95, false)), .load none (.tmp 97)⟩,
    ⟨(some 99), (some (95, false)), .indexAddr 1 (.tmp 96) (.tmp 98)⟩,
    ⟨(some 100), (some (95, false)), .load none (.tmp 99)⟩,
    ⟨(some 101), (some (95, false)), .indexAddr 1 (.tmp 100) (.const (.int .i64 0))⟩,
    ⟨(some 102), (some (95, false)), .load none (.tmp 101)⟩,
    ⟨(some 103), (some (95, false)), .fieldAddr 1 (.tmp 15)⟩,
    ⟨(some 104), (some (95, false)), .load none (.tmp 103)⟩,
    ⟨(some 105), (some (95, false)), .ibin .neq (.tmp 102) (.tmp 104)⟩,
    ⟨(some 106), none, .pick (.tmp 95) (.const (.bool true)) (.tmp 105)⟩]

def f8r17 : List AInstr := [
    ⟨(some 10), none, .mov (.const (.bool false))⟩]

def f8r18 : List AInstr := [
    ⟨(some 107), none, .mov (.tmp 11)⟩,
    ⟨(some 108), none, .fieldAddr 0 (.tmp 15)⟩,
    ⟨(some 109), none, .load none (.tmp 108)⟩,
    ⟨(some 110), none, .mov (.tmp 11)⟩,
    ⟨(some 111), none, .fieldAddr 0 (.tmp 15)⟩,
    ⟨(some 112), none, .load none (.tmp 111)⟩,
    ⟨(some 113), none, .indexAddr 1 (.tmp 110) (.tmp 112)⟩,
    ⟨(some 114), none, .load none (.tmp 113)⟩,
    ⟨(some 115), none, .slice 1 (.tmp 114) (some (.const (.int .i64 1))) none none⟩,
    ⟨(some 116), none, .indexAddr 1 (.tmp 107) (.tmp 109)⟩,
    ⟨none, none, .store 1 (.tmp 116) (.tmp 115)⟩]

def f8r19 : List AInstr := [
    ⟨(some 117), none, .ibin .add (.tmp 73) (.const (.int .i64 1))⟩,
    ⟨(some 73), none, .mov (.tmp 117)⟩]

/-- live: [0, 4, 11, 71, 72, 73] -/
def f8l1 : ACode := (.seq (.ops f8r14)
  (.keep [0, 4, 11, 71, 72, 73, 74] (.seq (.cond (.tmp 74) .skip (.exit 2))
  (.keep [0, 4, 11, 71, 72, 73] (.seq (.block 3 (.seq (.ops f8r15)
  (.keep [0, 4, 11, 15, 71, 72, 73] (.seq (.seq (.draw f8r16 [(0, 0, false), (0, 0, false), (0, 0, false), (0, 0, false), (0, 0, false), (0, 0, false), (0, 0, false), (0, 0, false), (0, 0, false), (0, 0, false), (0, 0, false), (0, 0, false), (0, 0, false), (0, 0, false), (0, 0, false), (0, 0, false), (0, 0, false), (0, 0, false), (0, 0, false), (0, 0, false), (0, 0, false), (0, 0, false), (0, 0, false), (0, 0, false), (0, 0, false), (0, 0, false), (0, 0, false), (0, 0, false), (0, 0, false), (0, 0, false)])
  (.keep [0, 4, 11, 15, 71, 72, 73, 106] (.cond (.tmp 106) (.keep [] (.seq (.ops f8r17)
  (.keep [10] .ret))) .skip)))
  (.keep [0, 4, 11, 15, 71, 72, 73] (.draw f8r18 [(0, 0, false), (0, 0, false), (0, 0, false), (0, 0, false), (0, 0, false), (0, 0, false), (0, 0, false), (0, 0, false), (0, 0, false), (0, 0, false), (0, 0, true)]))))))
  (.keep [0, 4, 11, 71, 72, 73] (.ops f8r19)))))))

def f8r21 : List AInstr := [
    ⟨(some 118), none, .mov (.tmp 11)⟩,
    ⟨(some 119), none, .len (.tmp 118)⟩,
    ⟨(some 120), none, .mov (.const (.int .i64 0))⟩]

def f8r22 : List AInstr := [
    ⟨(some 121), none, .ibin .lss (.tmp 120) (.tmp 119)⟩]

def f8r23 : List AInstr := [
    ⟨(some 122), none, .mov (.tmp 120)⟩,
    ⟨(some 123), none, .indexAddr 1 (.tmp 118) (.tmp 120)⟩,
    ⟨(some 124), none, .load none (.tmp 123)⟩,
    ⟨(some 16), none, .mov (.tmp 122)⟩,
    ⟨(some 17), none, .mov (.tmp 124)⟩]

def f8r24 : List AInstr := [
    ⟨(some 125), none, .mov (.tmp 17)⟩,
    ⟨(some 126), none, .len (.tmp 125)⟩,
    ⟨(some 127), none, .mov (.tmp 4)⟩,
    ⟨(some 128), none, .mov (.tmp 16)⟩,
    ⟨(some 129), none, .indexAddr 1 (.tmp 127) (.tmp 128)⟩,
    ⟨(some 130), none, .load none (.tmp 129)⟩,
    ⟨(some 131), none, .ibin .neq (.tmp 126) (.tmp 130)⟩]

def f8r25 : List AInstr := [
    ⟨(some 10), none, .mov (.const (.bool false))⟩]

def f8r26 : List AInstr := [
    ⟨(some 132), none, .ibin .add (.tmp 120) (.const (.int .i64 1))⟩,
    ⟨(some 120), none, .mov (.tmp 132)⟩]

/-- live: [4, 118, 119, 120] -/
def f8l2 : ACode := (.seq (.ops f8r22)
  (.keep [4, 118, 119, 120, 121] (.seq (.cond (.tmp 121) .skip (.exit 4))
  (.keep [4, 118, 119, 120] (.seq (.block 5 (.seq (.ops f8r23)
  (.keep [4, 16, 17, 118, 119, 120] (.seq (.ops f8r24)
  (.keep [4, 118, 119, 120, 131] (.cond (.tmp 131) (.keep [] (.seq (.ops f8r25)
  (.keep [10] .ret))) .skip))))))
  (.keep [4, 118, 119, 120] (.ops f8r26)))))))

def f8r28 : List AInstr := [
    ⟨(some 10), none, .mov (.const (.bool true))⟩]

def f8b : ACode := (.seq (.ops f8r0)
  (.keep [0, 1, 2, 3, 4] (.seq (.seq (.ops f8r1)
  (.keep [0, 1, 2, 3, 4, 28] (.cond (.tmp 28) (.keep [] (.seq (.ops f8r2)
  (.keep [10] .ret))) .skip)))
  (.keep [0, 1, 2, 3, 4] (.seq (.ops f8r3)
  (.keep [0, 1, 2, 3, 4, 11] (.seq (.seq (.ops f8r4)
  (.keep [0, 2, 3, 4, 11, 31, 32, 33] (.block 0 (.loop f8l0))))
  (.keep [0, 3, 4, 11] (.seq (.seq (.ops f8r13)
  (.keep [0, 4, 11, 71, 72, 73] (.block 2 (.loop f8l1))))
  (.keep [4, 11] (.seq (.seq (.ops f8r21)
  (.keep [4, 118, 119, 120] (.block 4 (.loop f8l2))))
  (.keep [] (.seq (.ops f8r28)
  (.keep [10] .ret))))))))))))))

def f8 : AFn := ⟨133, [.tmp 10], f8b⟩

theorem f8_ok : compFn Try.prog 8 = some f8.strip := by kernel_rfl

/- function 9: weirhouse/wfq.Wrong; parameters 1; operations that are not compiled: 0 -/
def f9r0 : List AInstr := [
    ⟨(some 2), none, .mov (.const (.int .i64 0))⟩]

def f9r1 : List AInstr := [
    ⟨(some 5), none, .mov (.tmp 0)⟩,
    ⟨(some 6), none, .len (.tmp 5)⟩,
    ⟨(some 7), none, .ibin .gtr (.tmp 6) (.const (.int .i64 16))⟩]

def f9r2 : List AInstr := [
    ⟨(some 2), none, .mov (.const (.int .i64 2))⟩]

def f9r3 : List AInstr := [
    ⟨(some 8), none, .mov (.tmp 0)⟩,
    ⟨(some 9), none, .len (.tmp 8)⟩,
    ⟨(some 10), none, .mov (.const (.int .i64 0))⟩]

def f9r4 : List AInstr := [
    ⟨(some 11), none, .ibin .lss (.tmp 10) (.tmp 9)⟩]

def f9r5 : List AInstr := [
    ⟨(some 12), none, .indexAddr 1 (.tmp 8) (.tmp 10)⟩,
    ⟨(some 13), none, .load none (.tmp 12)⟩,
    ⟨(some 4), none, .mov (.tmp 13)⟩]

def f9r6 : List AInstr := [
    ⟨(some 14), none, .mov (.tmp 4)⟩,
    ⟨(some 15), none, .ibin .lss (.tmp 14) (.const (.int .i64 1))⟩,
    ⟨(some 16), none, .mov (.tmp 15)⟩,
    ⟨(some 17), (some (16, false)), .mov (.tmp 4)⟩,
    ⟨(some 18), (some (16, false)), .ibin .gtr (.tmp 17) (.const (.int .i64 12))⟩,
    ⟨(some 19), none, .pick (.tmp 16) (.const (.bool true)) (.tmp 18)⟩]

def f9r7 : List AInstr := [
    ⟨(some 2), none, .mov (.const (.int .i64 2))⟩]

def f9r8 : List AInstr := [
    ⟨(some 20), none, .ibin .add (.tmp 10) (.const (.int .i64 1))⟩,
    ⟨(some 10), none, .mov (.tmp 20)⟩]

/-- live: [8, 9, 10] -/
def f9l0 : ACode := (.seq (.ops f9r4)
  (.keep [8, 9, 10, 11] (.seq (.cond (.tmp 11) .skip (.exit 0))
  (.keep [8, 9, 10] (.seq (.block 1 (.seq (.ops f9r5)
  (.keep [4, 8, 9, 10] (.seq (.ops f9r6)
  (.keep [8, 9, 10, 19] (.cond (.tmp 19) (.keep [] (.seq (.ops f9r7)
  (.keep [2] .ret))) .skip))))))
  (.keep [8, 9, 10] (.ops f9r8)))))))

def f9r10 : List AInstr := [
    ⟨(some 2), none, .mov (.const (.int .i64 0))⟩]

def f9b : ACode := (.seq (.ops f9r0)
  (.keep [0] (.seq (.seq (.ops f9r1)
  (.keep [0, 7] (.cond (.tmp 7) (.keep [] (.seq (.ops f9r2)
  (.keep [2] .ret))) .skip)))
  (.keep [0] (.seq (.seq (.ops f9r3)
  (.keep [8, 9, 10] (.block 0 (.loop f9l0))))
  (.keep [] (.seq (.ops f9r10)
  (.keep [2] .ret))))))))

def f9 : AFn := ⟨21, [.tmp 2], f9b⟩

theorem f9_ok : compFn Try.prog 9 = some f9.strip := by kernel_rfl

/- function 10: weirhouse/wfq.Play; parameters 2; operations that are not compiled: 0 -/
def f10r0 : List AInstr := [
    ⟨(some 4), none, .mov (.const (.slice none 0 0))⟩,
    ⟨(some 5), none, .mov (.const (.slice none 0 0))⟩,
    ⟨(some 6), none, .mov (.const (.slice none 0 0))⟩,
    ⟨(some 7), none, .mov (.const (.int .i64 0))⟩]

def f10r1 : List AInstr := [
    ⟨(some 22), none, .mov (.tmp 0)⟩,
    ⟨(some 23), none, .callF 9 [.tmp 22]⟩,
    ⟨(some 8), none, .mov (.tmp 23)⟩]

def f10r2 : List AInstr := [
    ⟨(some 24), none, .mov (.tmp 8)⟩,
    ⟨(some 25), none, .ibin .neq (.tmp 24) (.const (.int .i64 0))⟩]

def f10r3 : List AInstr := [
    ⟨(some 26), none, .mov (.tmp 8)⟩,
    ⟨(some 4), none, .mov (.const (.slice none 0 0))⟩,
    ⟨(some 5), none, .mov (.const (.slice none 0 0))⟩,
    ⟨(some 6), none, .mov (.const (.slice none 0 0))⟩,
    ⟨(some 7), none, .mov (.tmp 26)⟩]

def f10r4 : List AInstr := [
    ⟨(some 27), none, .mov (.tmp 1)⟩,
    ⟨(some 28), none, .len (.tmp 27)⟩,
    ⟨(some 29), none, .ibin .gtr (.tmp 28) (.const (.int .i64 400))⟩]

def f10r5 : List AInstr := [
    ⟨(some 4), none, .mov (.const (.slice none 0 0))⟩,
    ⟨(some 5), none, .mov (.const (.slice none 0 0))⟩,
    ⟨(some 6), none, .mov (.const (.slice none 0 0))⟩,
    ⟨(some 7), none, .mov (.const (.int .i64 2))⟩]

def f10r6 : List AInstr := [
    ⟨(some 30), none, .mov (.tmp 0)⟩,
    ⟨(some 31), none, .mov (.tmp 0)⟩,
    ⟨(some 32), none, .len (.tmp 31)⟩,
    ⟨(some 33), none, .makeSlice 3 40 [.slice none 0 0, .int .i64 0, .int .i64 0] (.tmp 32) (.tmp 32)⟩,
    ⟨(some 34), none, .build [.slice none 0 0, .slice none 0 0, .int .i64 0, .int .i64 0] [(0, 1, (.tmp 30)), (1, 1, (.tmp 33))]⟩,
    ⟨(some 35), none, .box (.tmp 34)⟩,
    ⟨(some 9), none, .mov (.tmp 35)⟩]

def f10r7 : List AInstr := [
    ⟨(some 36), none, .mov (.tmp 0)⟩,
    ⟨(some 37), none, .len (.tmp 36)⟩,
    ⟨(some 38), none, .mov (.const (.int .i64 0))⟩]

def f10r8 : List AInstr := [
    ⟨(some 39), none, .ibin .lss (.tmp 38) (.tmp 37)⟩]

def f10r9 : List AInstr := [
    ⟨(some 40), none, .indexAddr 1 (.tmp 36) (.tmp 38)⟩,
    ⟨(some 41), none, .load none (.tmp 40)⟩,
    ⟨(some 11), none, .mov (.tmp 41)⟩]

def f10r10 : List AInstr := [
    ⟨(some 42), none, .mov (.tmp 9)⟩,
    ⟨(some 43), none, .nilCheck (.tmp 42)⟩,
    ⟨(some 44), none, .fieldAddr 2 (.tmp 43)⟩,
    ⟨(some 45), none, .load none (.tmp 44)⟩,
    ⟨(some 46), none, .mov (.tmp 11)⟩,
    ⟨(some 47), none, .ibin .add (.tmp 45) (.tmp 46)⟩,
    ⟨(some 48), none, .nilCheck (.tmp 42)⟩,
    ⟨(some 49), none, .fieldAddr 2 (.tmp 48)⟩,
    ⟨none, none, .store 1 (.tmp 49) (.tmp 47)⟩]

def f10r11 : List AInstr := [
    ⟨(some 50), none, .ibin .add (.tmp 38) (.const (.int .i64 1))⟩,
    ⟨(some 38), none, .mov (.tmp 50)⟩]

/-- live: [0, 1, 9, 36, 37, 38] -/
def f10l0 : ACode := (.seq (.ops f10r8)
  (.keep [0, 1, 9, 36, 37, 38, 39] (.seq (.cond (.tmp 39) .skip (.exit 0))
  (.keep [0, 1, 9, 36, 37, 38] (.seq (.block 1 (.seq (.ops f10r9)
  (.keep [0, 1, 9, 11, 36, 37, 38] (.ops f10r10))))
  (.keep [0, 1, 9, 36, 37, 38] (.ops f10r11)))))))

def f10r13 : List AInstr := [
    ⟨(some 12), none, .mov (.const (.slice none 0 0))⟩]

def f10r14 : List AInstr := [
    ⟨(some 13), none, .mov (.const (.slice none 0 0))⟩]

def f10r15 : List AInstr := [
    ⟨(some 51), none, .mov (.tmp 1)⟩,
    ⟨(some 52), none, .len (.tmp 51)⟩,
    ⟨(some 53), none, .mov (.const (.int .i64 0))⟩]

def f10r16 : List AInstr := [
    ⟨(some 54), none, .ibin .lss (.tmp 53) (.tmp 52)⟩]

def f10r17 : List AInstr := [
    ⟨(some 55), none, .indexAddr 3 (.tmp 51) (.tmp 53)⟩,
    ⟨(some 56), none, .load (some 3) (.tmp 55)⟩,
    ⟨(some 15), none, .alloc [.int .i64 0, .int .i64 0, .int .i64 0]⟩,
    ⟨none, none, .store 3 (.tmp 15) (.tmp 56)⟩]

def f10r18 : List AInstr := [
    ⟨(some 16), none, .mov (.const (.int .i64 0))⟩]

def f10r19 : List AInstr := [
    ⟨(some 64), none, .fieldAddr 0 (.tmp 15)⟩,
    ⟨(some 65), none, .load none (.tmp 64)⟩,
    ⟨(some 66), none, .ibin .neq (.tmp 65) (.const (.int .i64 1))⟩,
    ⟨(some 67), none, .mov (.tmp 66)⟩,
    ⟨(some 68), (some (67, true)), .fieldAddr 0 (.tmp 15)⟩,
    ⟨(some 69), (some (67, true)), .load none (.tmp 68)⟩,
    ⟨(some 70), (some (67, true)), .ibin .neq (.tmp 69) (.const (.int .i64 2))⟩,
    ⟨(some 71), none, .pick (.tmp 67) (.tmp 70) (.const (.bool false))⟩,
    ⟨(some 63), none, .mov (.tmp 71)⟩]

def f10r20 : List AInstr := [
    ⟨(some 16), none, .mov (.const (.int .i64 5))⟩]

def f10r21 : List AInstr := [
    ⟨(some 73), none, .fieldAddr 0 (.tmp 15)⟩,
    ⟨(some 74), none, .load none (.tmp 73)⟩,
    ⟨(some 75), none, .ibin .eql (.tmp 74) (.const (.int .i64 2))⟩,
    ⟨(some 72), none, .mov (.tmp 75)⟩]

def f10r22 : List AInstr := [
    ⟨(some 77), none, .mov (.tmp 9)⟩,
    ⟨(some 78), none, .callF 18 [.tmp 77]⟩,
    ⟨(some 76), none, .mov (.tmp 78)⟩,
    ⟨(some 79), none, .extract 0 (.tmp 76)⟩,
    ⟨(some 80), none, .extract 1 (.tmp 76)⟩,
    ⟨(some 17), none, .alloc [.int .i64 0, .int .i64 0]⟩,
    ⟨none, none, .store 2 (.tmp 17) (.tmp 79)⟩,
    ⟨(some 18), none, .mov (.tmp 80)⟩]

def f10r23 : List AInstr := [
    ⟨(some 81), none, .mov (.tmp 18)⟩]

def f10r24 : List AInstr := [
    ⟨(some 82), none, .mov (.tmp 13)⟩,
    ⟨(some 83), none, .load (some 2) (.tmp 17)⟩,
    ⟨(some 84), none, .buildSlice 2 1 [.int .i64 0, .int .i64 0] [(0, 2, (.tmp 83))]⟩,
    ⟨(some 85), none, .append 2 16 (.tmp 82) (.tmp 84)⟩,
    ⟨(some 13), none, .mov (.tmp 85)⟩]

def f10r25 : List AInstr := [
    ⟨(some 16), none, .mov (.const (.int .i64 3))⟩]

def f10r26 : List AInstr := [
    ⟨(some 87), none, .fieldAddr 1 (.tmp 15)⟩,
    ⟨(some 88), none, .load none (.tmp 87)⟩,
    ⟨(some 89), none, .ibin .lss (.tmp 88) (.const (.int .i64 0))⟩,
    ⟨(some 90), none, .mov (.tmp 89)⟩,
    ⟨(some 91), (some (90, false)), .fieldAddr 1 (.tmp 15)⟩,
    ⟨(some 92), (some (90, false)), .load none (.tmp 91)⟩,
    ⟨(some 93), (some (90, false)), .mov (.tmp 0)⟩,
    ⟨(some 94), (some (90, false)), .len (.tmp 93)⟩,
    ⟨(some 95), (some (90, false)), .ibin .geq (.tmp 92) (.tmp 94)⟩,
    ⟨(some 96), none, .pick (.tmp 90) (.const (.bool true)) (.tmp 95)⟩,
    ⟨(some 86), none, .mov (.tmp 96)⟩]

def f10r27 : List AInstr := [
    ⟨(some 16), none, .mov (.const (.int .i64 3))⟩]

def f10r28 : List AInstr := [
    ⟨(some 98), none, .fieldAddr 2 (.tmp 15)⟩,
    ⟨(some 99), none, .load none (.tmp 98)⟩,
    ⟨(some 100), none, .ibin .lss (.tmp 99) (.const (.int .i64 1))⟩,
    ⟨(some 101), none, .mov (.tmp 100)⟩,
    ⟨(some 102), (some (101, false)), .fieldAddr 2 (.tmp 15)⟩,
    ⟨(some 103), (some (101, false)), .load none (.tmp 102)⟩,
    ⟨(some 104), (some (101, false)), .ibin .gtr (.tmp 103) (.const (.int .i64 1500))⟩,
    ⟨(some 105), none, .pick (.tmp 101) (.const (.bool true)) (.tmp 104)⟩,
    ⟨(some 97), none, .mov (.tmp 105)⟩]

def f10r29 : List AInstr := [
    ⟨(some 16), none, .mov (.const (.int .i64 2))⟩]

def f10r30 : List AInstr := [
    ⟨(some 57), none, .mov (.tmp 9)⟩,
    ⟨(some 58), none, .fieldAddr 1 (.tmp 15)⟩,
    ⟨(some 59), none, .load none (.tmp 58)⟩,
    ⟨(some 60), none, .fieldAddr 2 (.tmp 15)⟩,
    ⟨(some 61), none, .load none (.tmp 60)⟩,
    ⟨(some 62), none, .callF 19 [.tmp 57, .tmp 59, .tmp 61]⟩]

def f10r31 : List AInstr := [
    ⟨(some 106), none, .mov (.tmp 12)⟩,
    ⟨(some 107), none, .mov (.tmp 16)⟩,
    ⟨(some 108), none, .buildSlice 1 1 [.int .i64 0] [(0, 1, (.tmp 107))]⟩,
    ⟨(some 109), none, .append 1 8 (.tmp 106) (.tmp 108)⟩,
    ⟨(some 12), none, .mov (.tmp 109)⟩]

def f10r32 : List AInstr := [
    ⟨(some 110), none, .ibin .add (.tmp 53) (.const (.int .i64 1))⟩,
    ⟨(some 53), none, .mov (.tmp 110)⟩]

/-- live: [0, 9, 12, 13, 51, 52, 53] -/
def f10l1 : ACode := (.seq (.ops f10r16)
  (.keep [0, 9, 12, 13, 51, 52, 53, 54] (.seq (.cond (.tmp 54) .skip (.exit 2))
  (.keep [0, 9, 12, 13, 51, 52, 53] (.seq (.block 3 (.seq (.ops f10r17)
  (.keep [0, 9, 12, 13, 15, 51, 52, 53] (.seq (.ops f10r18)
  (.keep [0, 9, 12, 13, 15, 16, 51, 52, 53] (.seq (.block 4 (.seq (.ops f10r19)
  (.keep [0, 9, 12, 13, 15, 16, 51, 52, 53, 63] (.cond (.tmp 63) (.keep [0, 9, 12, 13, 51, 52, 53] (.ops f10r20)) (.keep [0, 9, 12, 13, 15, 16, 51, 52, 53] (.seq (.ops f10r21)
  (.keep [0, 9, 12, 13, 15, 16, 51, 52, 53, 72] (.cond (.tmp 72) (.keep [0, 9, 12, 13, 16, 51, 52, 53] (.seq (.ops f10r22)
  (.keep [0, 9, 12, 13, 16, 17, 18, 51, 52, 53] (.seq (.ops f10r23)
  (.keep [0, 9, 12, 13, 16, 17, 51, 52, 53, 81] (.cond (.tmp 81) (.keep [0, 9, 12, 13, 16, 17, 51, 52, 53] (.ops f10r24)) (.keep [0, 9, 12, 13, 51, 52, 53] (.ops f10r25)))))))) (.keep [0, 9, 12, 13, 15, 16, 51, 52, 53] (.seq (.ops f10r26)
  (.keep [0, 9, 12, 13, 15, 16, 51, 52, 53, 86] (.cond (.tmp 86) (.keep [0, 9, 12, 13, 51, 52, 53] (.ops f10r27)) (.keep [0, 9, 12, 13, 15, 16, 51, 52, 53] (.seq (.ops f10r28)
  (.keep [0, 9, 12, 13, 15, 16, 51, 52, 53, 97] (.cond (.tmp 97) (.keep [0, 9, 12, 13, 51, 52, 53] (.ops f10r29)) (.keep [0, 9, 12, 13, 15, 16, 51, 52, 53] (.ops f10r30))))))))))))))))))
  (.keep [0, 9, 12, 13, 16, 51, 52, 53] (.ops f10r31))))))))
  (.keep [0, 9, 12, 13, 51, 52, 53] (.ops f10r32)))))))

def f10r34 : List AInstr := [
    ⟨(some 19), none, .mov (.const (.slice none 0 0))⟩]

def f10r35 : List AInstr := [
    ⟨(some 111), none, .mov (.tmp 9)⟩,
    ⟨(some 112), none, .nilCheck (.tmp 111)⟩,
    ⟨(some 113), none, .fieldAddr 1 (.tmp 112)⟩,
    ⟨(some 114), none, .load none (.tmp 113)⟩,
    ⟨(some 115), none, .len (.tmp 114)⟩,
    ⟨(some 116), none, .mov (.const (.int .i64 0))⟩]

def f10r36 : List AInstr := [
    ⟨(some 117), none, .ibin .lss (.tmp 116) (.tmp 115)⟩]

def f10r37 : List AInstr := [
    ⟨(some 118), none, .indexAddr 3 (.tmp 114) (.tmp 116)⟩,
    ⟨(some 119), none, .load (some 3) (.tmp 118)⟩,
    ⟨(some 21), none, .alloc [.slice none 0 0, .int .i64 0, .int .i64 0]⟩,
    ⟨none, none, .store 3 (.tmp 21) (.tmp 119)⟩]

def f10r38 : List AInstr := [
    ⟨(some 120), none, .mov (.tmp 19)⟩,
    ⟨(some 121), none, .fieldAddr 0 (.tmp 21)⟩,
    ⟨(some 122), none, .load none (.tmp 121)⟩,
    ⟨(some 123), none, .len (.tmp 122)⟩,
    ⟨(some 124), none, .buildSlice 1 1 [.int .i64 0] [(0, 1, (.tmp 123))]⟩,
    ⟨(some 125), none, .append 1 8 (.tmp 120) (.tmp 124)⟩,
    ⟨(some 19), none, .mov (.tmp 125)⟩]

def f10r39 : List AInstr := [
    ⟨(some 126), none, .ibin .add (.tmp 116) (.const (.int .i64 1))⟩,
    ⟨(some 116), none, .mov (.tmp 126)⟩]

/-- live: [12, 13, 19, 114, 115, 116] -/
def f10l2 : ACode := (.seq (.ops f10r36)
  (.keep [12, 13, 19, 114, 115, 116, 117] (.seq (.cond (.tmp 117) .skip (.exit 5))
  (.keep [12, 13, 19, 114, 115, 116] (.seq (.block 6 (.seq (.ops f10r37)
  (.keep [12, 13, 19, 21, 114, 115, 116] (.ops f10r38))))
  (.keep [12, 13, 19, 114, 115, 116] (.ops f10r39)))))))

def f10r41 : List AInstr := [
    ⟨(some 127), none, .mov (.tmp 12)⟩,
    ⟨(some 128), none, .mov (.tmp 13)⟩,
    ⟨(some 129), none, .mov (.tmp 19)⟩,
    ⟨(some 4), none, .mov (.tmp 127)⟩,
    ⟨(some 5), none, .mov (.tmp 128)⟩,
    ⟨(some 6), none, .mov (.tmp 129)⟩,
    ⟨(some 7), none, .mov (.const (.int .i64 0))⟩]

def f10b : ACode := (.seq (.ops f10r0)
  (.keep [0, 1] (.seq (.seq (.ops f10r1)
  (.keep [0, 1, 8] (.seq (.ops f10r2)
  (.keep [0, 1, 8, 25] (.cond (.tmp 25) (.keep [8] (.seq (.ops f10r3)
  (.keep [4, 5, 6, 7] .ret))) .skip)))))
  (.keep [0, 1] (.seq (.seq (.ops f10r4)
  (.keep [0, 1, 29] (.cond (.tmp 29) (.keep [] (.seq (.ops f10r5)
  (.keep [4, 5, 6, 7] .ret))) .skip)))
  (.keep [0, 1] (.seq (.ops f10r6)
  (.keep [0, 1, 9] (.seq (.seq (.ops f10r7)
  (.keep [0, 1, 9, 36, 37, 38] (.block 0 (.loop f10l0))))
  (.keep [0, 1, 9] (.seq (.ops f10r13)
  (.keep [0, 1, 9, 12] (.seq (.ops f10r14)
  (.keep [0, 1, 9, 12, 13] (.seq (.seq (.ops f10r15)
  (.keep [0, 9, 12, 13, 51, 52, 53] (.block 2 (.loop f10l1))))
  (.keep [9, 12, 13] (.seq (.ops f10r34)
  (.keep [9, 12, 13, 19] (.seq (.seq (.ops f10r35)
  (.keep [12, 13, 19, 114, 115, 116] (.block 5 (.loop f10l2))))
  (.keep [12, 13, 19] (.seq (.ops f10r41)
  (.keep [4, 5, 6, 7] .ret))))))))))))))))))))))

def f10 : AFn := ⟨130, [.tmp 4, .tmp 5, .tmp 6, .tmp 7], f10b⟩

theorem f10_ok : compFn Try.prog 10 = some f10.strip := by kernel_rfl

/- function 11: weirhouse/weirhousekeep.HierShare$1; parameters 2; operations that are not compiled: 0 -/
def f11r0 : List AInstr := [
    ⟨(some 5), none, .mov (.const (.bool false))⟩]

def f11r1 : List AInstr := [
    ⟨(some 9), none, .load none (.tmp 2)⟩,
    ⟨(some 10), none, .mov (.tmp 0)⟩,
    ⟨(some 11), none, .callF 12 [.tmp 9, .tmp 10]⟩,
    ⟨(some 8), none, .mov (.tmp 11)⟩,
    ⟨(some 12), none, .extract 0 (.tmp 8)⟩,
    ⟨(some 13), none, .extract 1 (.tmp 8)⟩,
    ⟨(some 6), none, .mov (.tmp 12)⟩,
    ⟨(some 7), none, .mov (.tmp 13)⟩]

def f11r2 : List AInstr := [
    ⟨(some 14), none, .mov (.tmp 7)⟩,
    ⟨(some 15), none, .ibin .eql (.tmp 14) (.const (.int .i64 0))⟩,
    ⟨(some 16), none, .mov (.tmp 15)⟩,
    ⟨(some 17), (some (16, true)), .mov (.tmp 6)⟩,
    ⟨(some 18), (some (16, true)), .mov (.tmp 1)⟩,
    ⟨(some 19), (some (16, true)), .callF 13 [.tmp 17, .tmp 18]⟩,
    ⟨(some 20), none, .pick (.tmp 16) (.tmp 19) (.const (.bool false))⟩,
    ⟨(some 5), none, .mov (.tmp 20)⟩]

def f11b : ACode := (.seq (.ops f11r0)
  (.keep [0, 1, 2] (.seq (.ops f11r1)
  (.keep [1, 6, 7] (.seq (.ops f11r2)
  (.keep [5] .ret))))))

def f11 : AFn := ⟨21, [.tmp 5], f11b⟩

theorem f11_ok : compFn Try.prog 11 = some f11.strip := by kernel_rfl

/- function 12: weirhouse/tree.Path; parameters 2; operations that are not compiled: 0 -/
def f12r0 : List AInstr := [
    ⟨(some 4), none, .mov (.const (.slice none 0 0))⟩,
    ⟨(some 5), none, .mov (.const (.int .i64 0))⟩]

def f12r1 : List AInstr := [
    ⟨(some 8), none, .mov (.tmp 0)⟩,
    ⟨(some 9), none, .callF 20 [.tmp 8]⟩,
    ⟨(some 6), none, .mov (.tmp 9)⟩]

def f12r2 : List AInstr := [
    ⟨(some 10), none, .mov (.tmp 6)⟩,
    ⟨(some 11), none, .ibin .neq (.tmp 10) (.const (.int .i64 0))⟩]

def f12r3 : List AInstr := [
    ⟨(some 12), none, .mov (.tmp 6)⟩,
    ⟨(some 4), none, .mov (.const (.slice none 0 0))⟩,
    ⟨(some 5), none, .mov (.tmp 12)⟩]

def f12r4 : List AInstr := [
    ⟨(some 13), none, .mov (.tmp 1)⟩,
    ⟨(some 14), none, .ibin .lss (.tmp 13) (.const (.int .i64 0))⟩,
    ⟨(some 15), none, .mov (.tmp 14)⟩,
    ⟨(some 16), (some (15, false)), .mov (.tmp 1)⟩,
    ⟨(some 17), (some (15, false)), .mov (.tmp 0)⟩,
    ⟨(some 18), (some (15, false)), .len (.tmp 17)⟩,
    ⟨(some 19), (some (15, false)), .ibin .geq (.tmp 16) (.tmp 18)⟩,
    ⟨(some 20), none, .pick (.tmp 15) (.const (.bool true)) (.tmp 19)⟩]

def f12r5 : List AInstr := [
    ⟨(some 4), none, .mov (.const (.slice none 0 0))⟩,
    ⟨(some 5), none, .mov (.const (.int .i64 3))⟩]

def f12r6 : List AInstr := [
    ⟨(some 7), none, .mov (.const (.slice none 0 0))⟩]

def f12r7 : List AInstr := [
    ⟨(some 21), none, .mov (.tmp 1)⟩,
    ⟨(some 22), none, .ibin .geq (.tmp 21) (.const (.int .i64 0))⟩]

def f12r8 : List AInstr := [
    ⟨(some 28), none, .mov (.tmp 7)⟩,
    ⟨(some 29), none, .mov (.tmp 1)⟩,
    ⟨(some 30), none, .buildSlice 1 1 [.int .i64 0] [(0, 1, (.tmp 29))]⟩,
    ⟨(some 31), none, .callF 21 [.tmp 28, .const (.int .i64 0), .tmp 30]⟩,
    ⟨(some 7), none, .mov (.tmp 31)⟩]

def f12r9 : List AInstr := [
    ⟨(some 23), none, .mov (.tmp 0)⟩,
    ⟨(some 24), none, .mov (.tmp 1)⟩,
    ⟨(some 25), none, .indexAddr 2 (.tmp 23) (.tmp 24)⟩,
    ⟨(some 26), none, .fieldAddr 0 (.tmp 25)⟩,
    ⟨(some 27), none, .load none (.tmp 26)⟩,
    ⟨(some 1), none, .mov (.tmp 27)⟩]

/-- live: [0, 1, 7] -/
def f12l0 : ACode := (.seq (.seq (.ops f12r7)
  (.keep [0, 1, 7, 22] (.cond (.tmp 22) .skip (.exit 0))))
  (.keep [0, 1, 7] (.seq (.block 1 (.ops f12r8))
  (.keep [0, 1, 7] (.ops f12r9)))))

def f12r11 : List AInstr := [
    ⟨(some 32), none, .mov (.tmp 7)⟩,
    ⟨(some 4), none, .mov (.tmp 32)⟩,
    ⟨(some 5), none, .mov (.const (.int .i64 0))⟩]

def f12b : ACode := (.seq (.ops f12r0)
  (.keep [0, 1] (.seq (.seq (.ops f12r1)
  (.keep [0, 1, 6] (.seq (.ops f12r2)
  (.keep [0, 1, 6, 11] (.cond (.tmp 11) (.keep [6] (.seq (.ops f12r3)
  (.keep [4, 5] .ret))) .skip)))))
  (.keep [0, 1] (.seq (.seq (.ops f12r4)
  (.keep [0, 1, 20] (.cond (.tmp 20) (.keep [] (.seq (.ops f12r5)
  (.keep [4, 5] .ret))) .skip)))
  (.keep [0, 1] (.seq (.ops f12r6)
  (.keep [0, 1, 7] (.seq (.block 0 (.loop f12l0))
  (.keep [7] (.seq (.ops f12r11)
  (.keep [4, 5] .ret))))))))))))

def f12 : AFn := ⟨33, [.tmp 4, .tmp 5], f12b⟩

theorem f12_ok : compFn Try.prog 12 = some f12.strip := by kernel_rfl

/- function 13: slices.Contains[[]int,int]; parameters 2; operations that are not compiled: 0 -/
def f13r0 : List AInstr := [
    ⟨(some 4), none, .mov (.const (.bool false))⟩]

def f13r1 : List AInstr := [
    ⟨(some 5), none, .mov (.tmp 0)⟩,
    ⟨(some 6), none, .mov (.tmp 1)⟩,
    ⟨(some 7), none, .callF 22 [.tmp 5, .tmp 6]⟩,
    ⟨(some 8), none, .ibin .geq (.tmp 7) (.const (.int .i64 0))⟩,
    ⟨(some 4), none, .mov (.tmp 8)⟩]

def f13b : ACode := (.seq (.ops f13r0)
  (.keep [0, 1] (.seq (.ops f13r1)
  (.keep [4] .ret))))

def f13 : AFn := ⟨9, [.tmp 4], f13b⟩

theorem f13_ok : compFn Try.prog 13 = some f13.strip := by kernel_rfl

/- function 14: slices.Equal[[]weirhouse/api.Sent,weirhouse/api.Sent]; parameters 2; operations that are not compiled: 0 -/
def f14r0 : List AInstr := [
    ⟨(some 4), none, .mov (.const (.bool false))⟩]

def f14r1 : List AInstr := [
    ⟨(some 6), none, .mov (.tmp 0)⟩,
    ⟨(some 7), none, .len (.tmp 6)⟩,
    ⟨(some 8), none, .mov (.tmp 1)⟩,
    ⟨(some 9), none, .len (.tmp 8)⟩,
    ⟨(some 10), none, .ibin .neq (.tmp 7) (.tmp 9)⟩]

def f14r2 : List AInstr := [
    ⟨(some 4), none, .mov (.const (.bool false))⟩]

def f14r3 : List AInstr := [
    ⟨(some 11), none, .mov (.tmp 0)⟩,
    ⟨(some 12), none, .len (.tmp 11)⟩,
    ⟨(some 13), none, .mov (.const (.int .i64 0))⟩]

def f14r4 : List AInstr := [
    ⟨(some 14), none, .ibin .lss (.tmp 13) (.tmp 12)⟩]

def f14r5 : List AInstr := [
    ⟨(some 15), none, .mov (.tmp 13)⟩,
    ⟨(some 5), none, .mov (.tmp 15)⟩]

def f14r6 : List AInstr := [
    ⟨(some 16), none, .mov (.tmp 0)⟩,
    ⟨(some 17), none, .mov (.tmp 5)⟩,
    ⟨(some 18), none, .indexAddr 2 (.tmp 16) (.tmp 17)⟩,
    ⟨(some 19), none, .load (some 2) (.tmp 18)⟩,
    ⟨(some 20), none, .mov (.tmp 1)⟩,
    ⟨(some 21), none, .mov (.tmp 5)⟩,
    ⟨(some 22), none, .indexAddr 2 (.tmp 20) (.tmp 21)⟩,
    ⟨(some 23), none, .load (some 2) (.tmp 22)⟩,
    ⟨(some 24), none, .eqA true [false, false] (.tmp 19) (.tmp 23)⟩]

def f14r7 : List AInstr := [
    ⟨(some 4), none, .mov (.const (.bool false))⟩]

def f14r8 : List AInstr := [
    ⟨(some 25), none, .ibin .add (.tmp 13) (.const (.int .i64 1))⟩,
    ⟨(some 13), none, .mov (.tmp 25)⟩]

/-- live: [0, 1, 12, 13] -/
def f14l0 : ACode := (.seq (.ops f14r4)
  (.keep [0, 1, 12, 13, 14] (.seq (.cond (.tmp 14) .skip (.exit 0))
  (.keep [0, 1, 12, 13] (.seq (.block 1 (.seq (.ops f14r5)
  (.keep [0, 1, 5, 12, 13] (.seq (.draw f14r6 [(0, 0, false), (0, 0, false), (0, 0, false), (0, 0, false), (0, 0, false), (0, 0, false), (0, 0, false), (0, 0, false), (0, 0, false)])
  (.keep [0, 1, 12, 13, 24] (.cond (.tmp 24) (.keep [] (.seq (.ops f14r7)
  (.keep [4] .ret))) .skip))))))
  (.keep [0, 1, 12, 13] (.ops f14r8)))))))

def f14r10 : List AInstr := [
    ⟨(some 4), none, .mov (.const (.bool true))⟩]

def f14b : ACode := (.seq (.ops f14r0)
  (.keep [0, 1] (.seq (.seq (.ops f14r1)
  (.keep [0, 1, 10] (.cond (.tmp 10) (.keep [] (.seq (.ops f14r2)
  (.keep [4] .ret))) .skip)))
  (.keep [0, 1] (.seq (.seq (.ops f14r3)
  (.keep [0, 1, 12, 13] (.block 0 (.loop f14l0))))
  (.keep [] (.seq (.ops f14r10)
  (.keep [4] .ret))))))))

def f14 : AFn := ⟨26, [.tmp 4], f14b⟩

theorem f14_ok : compFn Try.prog 14 = some f14.strip := by kernel_rfl

/- function 15: weirhouse/tree.Leaves; parameters 1; operations that are not compiled: 0 -/
def f15r0 : List AInstr := [
    ⟨(some 2), none, .mov (.const (.slice none 0 0))⟩,
    ⟨(some 3), none, .mov (.const (.int .i64 0))⟩]

def f15r1 : List AInstr := [
    ⟨(some 7), none, .mov (.tmp 0)⟩,
    ⟨(some 8), none, .callF 20 [.tmp 7]⟩,
    ⟨(some 4), none, .mov (.tmp 8)⟩]

def f15r2 : List AInstr := [
    ⟨(some 9), none, .mov (.tmp 4)⟩,
    ⟨(some 10), none, .ibin .neq (.tmp 9) (.const (.int .i64 0))⟩]

def f15r3 : List AInstr := [
    ⟨(some 11), none, .mov (.tmp 4)⟩,
    ⟨(some 2), none, .mov (.const (.slice none 0 0))⟩,
    ⟨(some 3), none, .mov (.tmp 11)⟩]

def f15r4 : List AInstr := [
    ⟨(some 5), none, .mov (.const (.slice none 0 0))⟩]

def f15r5 : List AInstr := [
    ⟨(some 12), none, .mov (.tmp 0)⟩,
    ⟨(some 13), none, .len (.tmp 12)⟩,
    ⟨(some 14), none, .mov (.const (.int .i64 0))⟩]

def f15r6 : List AInstr := [
    ⟨(some 15), none, .ibin .lss (.tmp 14) (.tmp 13)⟩]

def f15r7 : List AInstr := [
    ⟨(some 16), none, .mov (.tmp 14)⟩,
    ⟨(some 6), none, .alloc [.int .i64 0]⟩,
    ⟨none, none, .store 1 (.tmp 6) (.tmp 16)⟩]

def f15r8 : List AInstr := [
    ⟨(some 17), none, .mov (.tmp 0)⟩,
    ⟨(some 18), none, .func (.func 24) [] [.tmp 6]⟩,
    ⟨(some 19), none, .callF 23 [.tmp 17, .tmp 18]⟩,
    ⟨(some 20), none, .un .not (.tmp 19)⟩]

def f15r9 : List AInstr := [
    ⟨(some 21), none, .mov (.tmp 5)⟩,
    ⟨(some 22), none, .load none (.tmp 6)⟩,
    ⟨(some 23), none, .buildSlice 1 1 [.int .i64 0] [(0, 1, (.tmp 22))]⟩,
    ⟨(some 24), none, .append 1 8 (.tmp 21) (.tmp 23)⟩,
    ⟨(some 5), none, .mov (.tmp 24)⟩]

def f15r10 : List AInstr := [
    ⟨(some 25), none, .ibin .add (.tmp 14) (.const (.int .i64 1))⟩,
    ⟨(some 14), none, .mov (.tmp 25)⟩]

/-- live: [0, 5, 13, 14] -/
def f15l0 : ACode := (.seq (.ops f15r6)
  (.keep [0, 5, 13, 14, 15] (.seq (.cond (.tmp 15) .skip (.exit 0))
  (.keep [0, 5, 13, 14] (.seq (.block 1 (.seq (.ops f15r7)
  (.keep [0, 5, 6, 13, 14] (.seq (.ops f15r8)
  (.keep [0, 5, 6, 13, 14, 20] (.cond (.tmp 20) (.keep [0, 5, 6, 13, 14] (.ops f15r9)) .skip))))))
  (.keep [0, 5, 13, 14] (.ops f15r10)))))))

def f15r12 : List AInstr := [
    ⟨(some 26), none, .mov (.tmp 5)⟩,
    ⟨(some 2), none, .mov (.tmp 26)⟩,
    ⟨(some 3), none, .mov (.const (.int .i64 0))⟩]

def f15b : ACode := (.seq (.ops f15r0)
  (.keep [0] (.seq (.seq (.ops f15r1)
  (.keep [0, 4] (.seq (.ops f15r2)
  (.keep [0, 4, 10] (.cond (.tmp 10) (.keep [4] (.seq (.ops f15r3)
  (.keep [2, 3] .ret))) .skip)))))
  (.keep [0] (.seq (.ops f15r4)
  (.keep [0, 5] (.seq (.seq (.ops f15r5)
  (.keep [0, 5, 13, 14] (.block 0 (.loop f15l0))))
  (.keep [5] (.seq (.ops f15r12)
  (.keep [2, 3] .ret))))))))))

def f15 : AFn := ⟨27, [.tmp 2, .tmp 3], f15b⟩

theorem f15_ok : compFn Try.prog 15 = some f15.strip := by kernel_rfl

/- function 16: (*weirhouse/hier.engine).out; parameters 1; operations that are not compiled: 0 -/
def f16r0 : List AInstr := [
    ⟨(some 2), none, .alloc [.int .i64 0, .int .i64 0]⟩,
    ⟨(some 3), none, .mov (.const (.bool false))⟩]

def f16r1 : List AInstr := [
    ⟨(some 7), none, .mov (.tmp 0)⟩,
    ⟨(some 8), none, .nilCheck (.tmp 7)⟩,
    ⟨(some 9), none, .fieldAddr 0 (.tmp 8)⟩,
    ⟨(some 10), none, .load none (.tmp 9)⟩,
    ⟨(some 11), none, .indexAddr 10 (.tmp 10) (.const (.int .i64 0))⟩,
    ⟨(some 12), none, .fieldAddr 4 (.tmp 11)⟩,
    ⟨(some 13), none, .load none (.tmp 12)⟩,
    ⟨(some 14), none, .mov (.tmp 0)⟩,
    ⟨(some 15), none, .nilCheck (.tmp 14)⟩,
    ⟨(some 16), none, .fieldAddr 0 (.tmp 15)⟩,
    ⟨(some 17), none, .load none (.tmp 16)⟩,
    ⟨(some 18), none, .indexAddr 10 (.tmp 17) (.const (.int .i64 0))⟩,
    ⟨(some 19), none, .fieldAddr 5 (.tmp 18)⟩,
    ⟨(some 20), none, .load none (.tmp 19)⟩,
    ⟨(some 21), none, .build [.int .i64 0, .int .i64 0] [(0, 1, (.tmp 13)), (1, 1, (.tmp 20))]⟩,
    ⟨(some 4), none, .alloc [.int .i64 0, .int .i64 0]⟩,
    ⟨none, none, .store 2 (.tmp 4) (.tmp 21)⟩]

def f16r2 : List AInstr := [
    ⟨(some 22), none, .fieldAddr 1 (.tmp 4)⟩,
    ⟨(some 23), none, .load none (.tmp 22)⟩,
    ⟨(some 24), none, .ibin .eql (.tmp 23) (.const (.int .i64 0))⟩]

def f16r3 : List AInstr := [
    ⟨(some 25), none, .build [.int .i64 0, .int .i64 0] []⟩,
    ⟨none, none, .store 2 (.tmp 2) (.tmp 25)⟩,
    ⟨(some 3), none, .mov (.const (.bool false))⟩]

def f16r4 : List AInstr := [
    ⟨(some 26), none, .mov (.tmp 0)⟩,
    ⟨(some 27), none, .nilCheck (.tmp 26)⟩,
    ⟨(some 28), none, .fieldAddr 0 (.tmp 27)⟩,
    ⟨(some 29), none, .load none (.tmp 28)⟩,
    ⟨(some 30), none, .fieldAddr 0 (.tmp 4)⟩,
    ⟨(some 31), none, .load none (.tmp 30)⟩,
    ⟨(some 32), none, .indexAddr 10 (.tmp 29) (.tmp 31)⟩,
    ⟨(some 5), none, .mov (.tmp 32)⟩]

def f16r5 : List AInstr := [
    ⟨(some 33), none, .mov (.tmp 5)⟩,
    ⟨(some 34), none, .mov (.tmp 5)⟩,
    ⟨(some 35), none, .nilCheck (.tmp 34)⟩,
    ⟨(some 36), none, .fieldAddr 9 (.tmp 35)⟩,
    ⟨(some 37), none, .load none (.tmp 36)⟩,
    ⟨(some 38), none, .slice 1 (.tmp 37) (some (.const (.int .i64 1))) none none⟩,
    ⟨(some 39), none, .nilCheck (.tmp 33)⟩,
    ⟨(some 40), none, .fieldAddr 9 (.tmp 39)⟩,
    ⟨none, none, .store 1 (.tmp 40) (.tmp 38)⟩]

def f16r6 : List AInstr := [
    ⟨(some 41), none, .mov (.tmp 5)⟩,
    ⟨(some 42), none, .nilCheck (.tmp 41)⟩,
    ⟨(some 43), none, .fieldAddr 5 (.tmp 42)⟩,
    ⟨none, none, .store 1 (.tmp 43) (.const (.int .i64 0))⟩]

def f16r7 : List AInstr := [
    ⟨(some 44), none, .mov (.tmp 5)⟩,
    ⟨(some 45), none, .nilCheck (.tmp 44)⟩,
    ⟨(some 46), none, .fieldAddr 9 (.tmp 45)⟩,
    ⟨(some 47), none, .load none (.tmp 46)⟩,
    ⟨(some 48), none, .len (.tmp 47)⟩,
    ⟨(some 49), none, .ibin .gtr (.tmp 48) (.const (.int .i64 0))⟩]

def f16r8 : List AInstr := [
    ⟨(some 50), none, .mov (.tmp 0)⟩,
    ⟨(some 51), none, .fieldAddr 0 (.tmp 4)⟩,
    ⟨(some 52), none, .load none (.tmp 51)⟩,
    ⟨(some 53), none, .fieldAddr 0 (.tmp 4)⟩,
    ⟨(some 54), none, .load none (.tmp 53)⟩,
    ⟨(some 55), none, .mov (.tmp 5)⟩,
    ⟨(some 56), none, .nilCheck (.tmp 55)⟩,
    ⟨(some 57), none, .fieldAddr 9 (.tmp 56)⟩,
    ⟨(some 58), none, .load none (.tmp 57)⟩,
    ⟨(some 59), none, .indexAddr 1 (.tmp 58) (.const (.int .i64 0))⟩,
    ⟨(some 60), none, .load none (.tmp 59)⟩,
    ⟨(some 61), none, .callF 25 [.tmp 50, .tmp 52, .tmp 54, .tmp 60, .const (.bool true)]⟩]

def f16r9 : List AInstr := [
    ⟨(some 62), none, .mov (.tmp 5)⟩,
    ⟨(some 63), none, .nilCheck (.tmp 62)⟩,
    ⟨(some 64), none, .fieldAddr 0 (.tmp 63)⟩,
    ⟨(some 65), none, .load none (.tmp 64)⟩,
    ⟨(some 6), none, .mov (.tmp 65)⟩]

def f16r10 : List AInstr := [
    ⟨(some 66), none, .mov (.tmp 6)⟩,
    ⟨(some 67), none, .ibin .geq (.tmp 66) (.const (.int .i64 0))⟩]

def f16r11 : List AInstr := [
    ⟨(some 76), none, .mov (.tmp 0)⟩,
    ⟨(some 77), none, .mov (.tmp 6)⟩,
    ⟨(some 78), none, .callF 26 [.tmp 76, .tmp 77, .const (.bool true)]⟩]

def f16r12 : List AInstr := [
    ⟨(some 68), none, .mov (.tmp 0)⟩,
    ⟨(some 69), none, .nilCheck (.tmp 68)⟩,
    ⟨(some 70), none, .fieldAddr 0 (.tmp 69)⟩,
    ⟨(some 71), none, .load none (.tmp 70)⟩,
    ⟨(some 72), none, .mov (.tmp 6)⟩,
    ⟨(some 73), none, .indexAddr 10 (.tmp 71) (.tmp 72)⟩,
    ⟨(some 74), none, .fieldAddr 0 (.tmp 73)⟩,
    ⟨(some 75), none, .load none (.tmp 74)⟩,
    ⟨(some 6), none, .mov (.tmp 75)⟩]

/-- live: [0, 2, 4, 6] -/
def f16l0 : ACode := (.seq (.seq (.ops f16r10)
  (.keep [0, 2, 4, 6, 67] (.cond (.tmp 67) .skip (.exit 0))))
  (.keep [0, 2, 4, 6] (.seq (.block 1 (.ops f16r11))
  (.keep [0, 2, 4, 6] (.ops f16r12)))))

def f16r14 : List AInstr := [
    ⟨(some 79), none, .load (some 2) (.tmp 4)⟩,
    ⟨none, none, .store 2 (.tmp 2) (.tmp 79)⟩,
    ⟨(some 3), none, .mov (.const (.bool true))⟩]

def f16b : ACode := (.seq (.ops f16r0)
  (.keep [0, 2] (.seq (.draw f16r1 [(0, 1, false), (0, 1, false), (0, 1, false), (0, 1, false), (0, 1, false), (0, 1, false), (0, 1, false), (0, 1, false), (0, 1, false), (0, 1, false), (0, 1, false), (0, 1, false), (0, 1, false), (0, 1, false), (0, 1, false), (0, 0, true), (1, 0, true)])
  (.keep [0, 2, 4] (.seq (.seq (.ops f16r2)
  (.keep [0, 2, 4, 24] (.cond (.tmp 24) (.keep [2] (.seq (.ops f16r3)
  (.keep [2, 3] .ret))) .skip)))
  (.keep [0, 2, 4] (.seq (.draw f16r4 [(0, 0, false), (0, 0, false), (0, 0, false), (0, 0, false), (0, 0, false), (0, 0, false), (0, 0, false), (0, 0, false)])
  (.keep [0, 2, 4, 5] (.seq (.ops f16r5)
  (.keep [0, 2, 4, 5] (.seq (.ops f16r6)
  (.keep [0, 2, 4, 5] (.seq (.seq (.ops f16r7)
  (.keep [0, 2, 4, 5, 49] (.cond (.tmp 49) (.keep [0, 2, 4, 5] (.draw f16r8 [(0, 0, false), (0, 0, false), (0, 0, false), (0, 0, false), (0, 0, false), (0, 0, false), (0, 0, false), (0, 0, false), (0, 0, false), (0, 0, false), (0, 0, false), (0, 0, true)])) .skip)))
  (.keep [0, 2, 4, 5] (.seq (.seq (.ops f16r9)
  (.keep [0, 2, 4, 6] (.block 0 (.loop f16l0))))
  (.keep [2, 4] (.seq (.ops f16r14)
  (.keep [2, 3] .ret))))))))))))))))))

def f16 : AFn := ⟨80, [.cell 2 (some 2), .tmp 3], f16b⟩

theorem f16_ok : compFn Try.prog 16 = some f16.strip := by kernel_rfl

/- function 17: (*weirhouse/hier.engine).in; parameters 3; operations that are not compiled: 0 -/
def f17r0 : List AInstr := [
    ⟨(some 8), none, .mov (.tmp 0)⟩,
    ⟨(some 9), none, .nilCheck (.tmp 8)⟩,
    ⟨(some 10), none, .fieldAddr 0 (.tmp 9)⟩,
    ⟨(some 11), none, .load none (.tmp 10)⟩,
    ⟨(some 12), none, .mov (.tmp 1)⟩,
    ⟨(some 13), none, .indexAddr 10 (.tmp 11) (.tmp 12)⟩,
    ⟨(some 6), none, .mov (.tmp 13)⟩]

def f17r1 : List AInstr := [
    ⟨(some 14), none, .mov (.tmp 6)⟩,
    ⟨(some 15), none, .mov (.tmp 6)⟩,
    ⟨(some 16), none, .nilCheck (.tmp 15)⟩,
    ⟨(some 17), none, .fieldAddr 9 (.tmp 16)⟩,
    ⟨(some 18), none, .load none (.tmp 17)⟩,
    ⟨(some 19), none, .mov (.tmp 2)⟩,
    ⟨(some 20), none, .buildSlice 1 1 [.int .i64 0] [(0, 1, (.tmp 19))]⟩,
    ⟨(some 21), none, .append 1 8 (.tmp 18) (.tmp 20)⟩,
    ⟨(some 22), none, .nilCheck (.tmp 14)⟩,
    ⟨(some 23), none, .fieldAddr 9 (.tmp 22)⟩,
    ⟨none, none, .store 1 (.tmp 23) (.tmp 21)⟩]

def f17r2 : List AInstr := [
    ⟨(some 24), none, .mov (.tmp 6)⟩,
    ⟨(some 25), none, .nilCheck (.tmp 24)⟩,
    ⟨(some 26), none, .fieldAddr 5 (.tmp 25)⟩,
    ⟨(some 27), none, .load none (.tmp 26)⟩,
    ⟨(some 28), none, .ibin .gtr (.tmp 27) (.const (.int .i64 0))⟩]

def f17r3 : List AInstr := [
    ⟨(some 29), none, .mov (.tmp 0)⟩,
    ⟨(some 30), none, .mov (.tmp 1)⟩,
    ⟨(some 31), none, .mov (.tmp 1)⟩,
    ⟨(some 32), none, .mov (.tmp 2)⟩,
    ⟨(some 33), none, .callF 25 [.tmp 29, .tmp 30, .tmp 31, .tmp 32, .const (.bool false)]⟩]

def f17r4 : List AInstr := [
    ⟨(some 34), none, .mov (.tmp 6)⟩,
    ⟨(some 35), none, .nilCheck (.tmp 34)⟩,
    ⟨(some 36), none, .fieldAddr 0 (.tmp 35)⟩,
    ⟨(some 37), none, .load none (.tmp 36)⟩,
    ⟨(some 7), none, .mov (.tmp 37)⟩]

def f17r5 : List AInstr := [
    ⟨(some 38), none, .mov (.tmp 7)⟩,
    ⟨(some 39), none, .ibin .geq (.tmp 38) (.const (.int .i64 0))⟩,
    ⟨(some 40), none, .mov (.tmp 39)⟩,
    ⟨(some 41), (some (40, true)), .mov (.tmp 0)⟩,
    ⟨(some 42), (some (40, true)), .nilCheck (.tmp 41)⟩,
    ⟨(some 43), (some (40, true)), .fieldAddr 0 (.tmp 42)⟩,
    ⟨(some 44), (some (40, true)), .load none (.tmp 43)⟩,
    ⟨(some 45), (some (40, true)), .mov (.tmp 7)⟩,
    ⟨(some 46), (some (40, true)), .indexAddr 10 (.tmp 44) (.tmp 45)⟩,
    ⟨(some 47), (some (40, true)), .fieldAddr 5 (.tmp 46)⟩,
    ⟨(some 48), (some (40, true)), .load none (.tmp 47)⟩,
    ⟨(some 49), (some (40, true)), .ibin .eql (.tmp 48) (.const (.int .i64 0))⟩,
    ⟨(some 50), none, .pick (.tmp 40) (.tmp 49) (.const (.bool false))⟩]

def f17r6 : List AInstr := [
    ⟨(some 59), none, .mov (.tmp 0)⟩,
    ⟨(some 60), none, .mov (.tmp 7)⟩,
    ⟨(some 61), none, .callF 26 [.tmp 59, .tmp 60, .const (.bool false)]⟩]

def f17r7 : List AInstr := [
    ⟨(some 51), none, .mov (.tmp 0)⟩,
    ⟨(some 52), none, .nilCheck (.tmp 51)⟩,
    ⟨(some 53), none, .fieldAddr 0 (.tmp 52)⟩,
    ⟨(some 54), none, .load none (.tmp 53)⟩,
    ⟨(some 55), none, .mov (.tmp 7)⟩,
    ⟨(some 56), none, .indexAddr 10 (.tmp 54) (.tmp 55)⟩,
    ⟨(some 57), none, .fieldAddr 0 (.tmp 56)⟩,
    ⟨(some 58), none, .load none (.tmp 57)⟩,
    ⟨(some 7), none, .mov (.tmp 58)⟩]

/-- live: [0, 7] -/
def f17l0 : ACode := (.seq (.seq (.ops f17r5)
  (.keep [0, 7, 50] (.cond (.tmp 50) .skip (.exit 0))))
  (.keep [0, 7] (.seq (.block 1 (.ops f17r6))
  (.keep [0, 7] (.ops f17r7)))))

def f17b : ACode := (.seq (.ops f17r0)
  (.keep [0, 1, 2, 6] (.seq (.ops f17r1)
  (.keep [0, 1, 2, 6] (.seq (.seq (.ops f17r2)
  (.keep [0, 1, 2, 6, 28] (.cond (.tmp 28) (.keep [] .ret) .skip)))
  (.keep [0, 1, 2, 6] (.seq (.ops f17r3)
  (.keep [0, 6] (.seq (.ops f17r4)
  (.keep [0, 7] (.block 0 (.loop f17l0))))))))))))

def f17 : AFn := ⟨62, [], f17b⟩

theorem f17_ok : compFn Try.prog 17 = some f17.strip := by kernel_rfl

/- function 18: (*weirhouse/wfq.node).out; parameters 1; operations that are not compiled: 0 -/
def f18r0 : List AInstr := [
    ⟨(some 2), none, .alloc [.int .i64 0, .int .i64 0]⟩,
    ⟨(some 3), none, .mov (.const (.bool false))⟩]

def f18r1 : List AInstr := [
    ⟨(some 7), none, .mov (.tmp 0)⟩,
    ⟨(some 8), none, .callF 27 [.tmp 7]⟩,
    ⟨(some 4), none, .mov (.tmp 8)⟩]

def f18r2 : List AInstr := [
    ⟨(some 9), none, .mov (.tmp 4)⟩,
    ⟨(some 10), none, .ibin .lss (.tmp 9) (.const (.int .i64 0))⟩]

def f18r3 : List AInstr := [
    ⟨(some 11), none, .build [.int .i64 0, .int .i64 0] []⟩,
    ⟨none, none, .store 2 (.tmp 2) (.tmp 11)⟩,
    ⟨(some 3), none, .mov (.const (.bool false))⟩]

def f18r4 : List AInstr := [
    ⟨(some 12), none, .mov (.tmp 0)⟩,
    ⟨(some 13), none, .nilCheck (.tmp 12)⟩,
    ⟨(some 14), none, .fieldAddr 1 (.tmp 13)⟩,
    ⟨(some 15), none, .load none (.tmp 14)⟩,
    ⟨(some 16), none, .mov (.tmp 4)⟩,
    ⟨(some 17), none, .indexAddr 3 (.tmp 15) (.tmp 16)⟩,
    ⟨(some 5), none, .mov (.tmp 17)⟩]

def f18r5 : List AInstr := [
    ⟨(some 18), none, .mov (.tmp 4)⟩,
    ⟨(some 19), none, .mov (.tmp 5)⟩,
    ⟨(some 20), none, .nilCheck (.tmp 19)⟩,
    ⟨(some 21), none, .fieldAddr 0 (.tmp 20)⟩,
    ⟨(some 22), none, .load none (.tmp 21)⟩,
    ⟨(some 23), none, .indexAddr 1 (.tmp 22) (.const (.int .i64 0))⟩,
    ⟨(some 24), none, .load none (.tmp 23)⟩,
    ⟨(some 25), none, .build [.int .i64 0, .int .i64 0] [(0, 1, (.tmp 18)), (1, 1, (.tmp 24))]⟩,
    ⟨(some 6), none, .alloc [.int .i64 0, .int .i64 0]⟩,
    ⟨none, none, .store 2 (.tmp 6) (.tmp 25)⟩]

def f18r6 : List AInstr := [
    ⟨(some 26), none, .mov (.tmp 5)⟩,
    ⟨(some 27), none, .mov (.tmp 5)⟩,
    ⟨(some 28), none, .nilCheck (.tmp 27)⟩,
    ⟨(some 29), none, .fieldAddr 0 (.tmp 28)⟩,
    ⟨(some 30), none, .load none (.tmp 29)⟩,
    ⟨(some 31), none, .slice 1 (.tmp 30) (some (.const (.int .i64 1))) none none⟩,
    ⟨(some 32), none, .nilCheck (.tmp 26)⟩,
    ⟨(some 33), none, .fieldAddr 0 (.tmp 32)⟩,
    ⟨none, none, .store 1 (.tmp 33) (.tmp 31)⟩]

def f18r7 : List AInstr := [
    ⟨(some 34), none, .mov (.tmp 0)⟩,
    ⟨(some 35), none, .nilCheck (.tmp 34)⟩,
    ⟨(some 36), none, .fieldAddr 3 (.tmp 35)⟩,
    ⟨(some 37), none, .load none (.tmp 36)⟩,
    ⟨(some 38), none, .fieldAddr 1 (.tmp 6)⟩,
    ⟨(some 39), none, .load none (.tmp 38)⟩,
    ⟨(some 40), none, .ibin .mul (.tmp 39) (.const (.int .i64 27720))⟩,
    ⟨(some 41), none, .ibin .add (.tmp 37) (.tmp 40)⟩,
    ⟨(some 42), none, .nilCheck (.tmp 34)⟩,
    ⟨(some 43), none, .fieldAddr 3 (.tmp 42)⟩,
    ⟨none, none, .store 1 (.tmp 43) (.tmp 41)⟩]

def f18r8 : List AInstr := [
    ⟨(some 44), none, .mov (.tmp 5)⟩,
    ⟨(some 45), none, .nilCheck (.tmp 44)⟩,
    ⟨(some 46), none, .fieldAddr 0 (.tmp 45)⟩,
    ⟨(some 47), none, .load none (.tmp 46)⟩,
    ⟨(some 48), none, .len (.tmp 47)⟩,
    ⟨(some 49), none, .ibin .gtr (.tmp 48) (.const (.int .i64 0))⟩]

def f18r9 : List AInstr := [
    ⟨(some 50), none, .mov (.tmp 0)⟩,
    ⟨(some 51), none, .mov (.tmp 4)⟩,
    ⟨(some 52), none, .mov (.tmp 5)⟩,
    ⟨(some 53), none, .nilCheck (.tmp 52)⟩,
    ⟨(some 54), none, .fieldAddr 2 (.tmp 53)⟩,
    ⟨(some 55), none, .load none (.tmp 54)⟩,
    ⟨(some 56), none, .callF 28 [.tmp 50, .tmp 51, .tmp 55]⟩]

def f18r10 : List AInstr := [
    ⟨(some 57), none, .load (some 2) (.tmp 6)⟩,
    ⟨none, none, .store 2 (.tmp 2) (.tmp 57)⟩,
    ⟨(some 3), none, .mov (.const (.bool true))⟩]

def f18b : ACode := (.seq (.ops f18r0)
  (.keep [0, 2] (.seq (.ops f18r1)
  (.keep [0, 2, 4] (.seq (.seq (.ops f18r2)
  (.keep [0, 2, 4, 10] (.cond (.tmp 10) (.keep [2] (.seq (.ops f18r3)
  (.keep [2, 3] .ret))) .skip)))
  (.keep [0, 2, 4] (.seq (.ops f18r4)
  (.keep [0, 2, 4, 5] (.seq (.ops f18r5)
  (.keep [0, 2, 4, 5, 6] (.seq (.ops f18r6)
  (.keep [0, 2, 4, 5, 6] (.seq (.draw f18r7 [(0, 0, false), (0, 0, false), (0, 0, false), (0, 0, false), (0, 0, false), (0, 0, false), (0, 0, false), (0, 0, false), (0, 0, false), (0, 0, false), (0, 0, true)])
  (.keep [0, 2, 4, 5, 6] (.seq (.seq (.ops f18r8)
  (.keep [0, 2, 4, 5, 6, 49] (.cond (.tmp 49) (.keep [0, 2, 4, 5, 6] (.ops f18r9)) .skip)))
  (.keep [2, 6] (.seq (.ops f18r10)
  (.keep [2, 3] .ret))))))))))))))))))

def f18 : AFn := ⟨58, [.cell 2 (some 2), .tmp 3], f18b⟩

theorem f18_ok : compFn Try.prog 18 = some f18.strip := by kernel_rfl

/- function 19: (*weirhouse/wfq.node).in; parameters 3; operations that are not compiled: 0 -/
def f19r0 : List AInstr := [
    ⟨(some 7), none, .mov (.tmp 0)⟩,
    ⟨(some 8), none, .nilCheck (.tmp 7)⟩,
    ⟨(some 9), none, .fieldAddr 1 (.tmp 8)⟩,
    ⟨(some 10), none, .load none (.tmp 9)⟩,
    ⟨(some 11), none, .mov (.tmp 1)⟩,
    ⟨(some 12), none, .indexAddr 3 (.tmp 10) (.tmp 11)⟩,
    ⟨(some 6), none, .mov (.tmp 12)⟩]

def f19r1 : List AInstr := [
    ⟨(some 13), none, .mov (.tmp 6)⟩,
    ⟨(some 14), none, .mov (.tmp 6)⟩,
    ⟨(some 15), none, .nilCheck (.tmp 14)⟩,
    ⟨(some 16), none, .fieldAddr 0 (.tmp 15)⟩,
    ⟨(some 17), none, .load none (.tmp 16)⟩,
    ⟨(some 18), none, .mov (.tmp 2)⟩,
    ⟨(some 19), none, .buildSlice 1 1 [.int .i64 0] [(0, 1, (.tmp 18))]⟩,
    ⟨(some 20), none, .append 1 8 (.tmp 17) (.tmp 19)⟩,
    ⟨(some 21), none, .nilCheck (.tmp 13)⟩,
    ⟨(some 22), none, .fieldAddr 0 (.tmp 21)⟩,
    ⟨none, none, .store 1 (.tmp 22) (.tmp 20)⟩]

def f19r2 : List AInstr := [
    ⟨(some 23), none, .mov (.tmp 6)⟩,
    ⟨(some 24), none, .nilCheck (.tmp 23)⟩,
    ⟨(some 25), none, .fieldAddr 0 (.tmp 24)⟩,
    ⟨(some 26), none, .load none (.tmp 25)⟩,
    ⟨(some 27), none, .len (.tmp 26)⟩,
    ⟨(some 28), none, .ibin .eql (.tmp 27) (.const (.int .i64 1))⟩]

def f19r3 : List AInstr := [
    ⟨(some 29), none, .mov (.tmp 0)⟩,
    ⟨(some 30), none, .mov (.tmp 1)⟩,
    ⟨(some 31), none, .mov (.tmp 6)⟩,
    ⟨(some 32), none, .nilCheck (.tmp 31)⟩,
    ⟨(some 33), none, .fieldAddr 2 (.tmp 32)⟩,
    ⟨(some 34), none, .load none (.tmp 33)⟩,
    ⟨(some 35), none, .mov (.tmp 0)⟩,
    ⟨(some 36), none, .nilCheck (.tmp 35)⟩,
    ⟨(some 37), none, .fieldAddr 3 (.tmp 36)⟩,
    ⟨(some 38), none, .load none (.tmp 37)⟩,
    ⟨(some 39), none, .minmax true [.tmp 34, .tmp 38]⟩,
    ⟨(some 40), none, .callF 28 [.tmp 29, .tmp 30, .tmp 39]⟩]

def f19b : ACode := (.seq (.ops f19r0)
  (.keep [0, 1, 2, 6] (.seq (.ops f19r1)
  (.keep [0, 1, 6] (.seq (.ops f19r2)
  (.keep [0, 1, 6, 28] (.cond (.tmp 28) (.keep [0, 1, 6] (.draw f19r3 [(0, 0, false), (0, 0, false), (0, 0, false), (0, 0, false), (0, 0, false), (0, 0, false), (0, 0, false), (0, 0, false), (0, 0, false), (0, 0, false), (0, 0, false), (0, 0, true)])) .skip)))))))

def f19 : AFn := ⟨41, [], f19b⟩

theorem f19_ok : compFn Try.prog 19 = some f19.strip := by kernel_rfl

/- function 20: weirhouse/tree.Wrong; parameters 1; operations that are not compiled: 0 -/
def f20r0 : List AInstr := [
    ⟨(some 2), none, .mov (.const (.int .i64 0))⟩]

def f20r1 : List AInstr := [
    ⟨(some 5), none, .mov (.tmp 0)⟩,
    ⟨(some 6), none, .len (.tmp 5)⟩,
    ⟨(some 7), none, .ibin .lss (.tmp 6) (.const (.int .i64 1))⟩,
    ⟨(some 8), none, .mov (.tmp 7)⟩,
    ⟨(some 9), (some (8, false)), .mov (.tmp 0)⟩,
    ⟨(some 10), (some (8, false)), .len (.tmp 9)⟩,
    ⟨(some 11), (some (8, false)), .ibin .gtr (.tmp 10) (.const (.int .i64 16))⟩,
    ⟨(some 12), none, .pick (.tmp 8) (.const (.bool true)) (.tmp 11)⟩]

def f20r2 : List AInstr := [
    ⟨(some 2), none, .mov (.const (.int .i64 2))⟩]

def f20r3 : List AInstr := [
    ⟨(some 13), none, .mov (.tmp 0)⟩,
    ⟨(some 14), none, .len (.tmp 13)⟩,
    ⟨(some 15), none, .mov (.const (.int .i64 0))⟩]

def f20r4 : List AInstr := [
    ⟨(some 16), none, .ibin .lss (.tmp 15) (.tmp 14)⟩]

def f20r5 : List AInstr := [
    ⟨(some 17), none, .mov (.tmp 15)⟩,
    ⟨(some 18), none, .indexAddr 2 (.tmp 13) (.tmp 15)⟩,
    ⟨(some 19), none, .load (some 2) (.tmp 18)⟩,
    ⟨(some 4), none, .alloc [.int .i64 0, .int .i64 0]⟩,
    ⟨(some 3), none, .mov (.tmp 17)⟩,
    ⟨none, none, .store 2 (.tmp 4) (.tmp 19)⟩]

def f20r6 : List AInstr := [
    ⟨(some 20), none, .fieldAddr 1 (.tmp 4)⟩,
    ⟨(some 21), none, .load none (.tmp 20)⟩,
    ⟨(some 22), none, .ibin .lss (.tmp 21) (.const (.int .i64 1))⟩,
    ⟨(some 23), none, .mov (.tmp 22)⟩,
    ⟨(some 24), (some (23, false)), .fieldAddr 1 (.tmp 4)⟩,
    ⟨(some 25), (some (23, false)), .load none (.tmp 24)⟩,
    ⟨(some 26), (some (23, false)), .ibin .gtr (.tmp 25) (.const (.int .i64 12))⟩,
    ⟨(some 27), none, .pick (.tmp 23) (.const (.bool true)) (.tmp 26)⟩]

def f20r7 : List AInstr := [
    ⟨(some 2), none, .mov (.const (.int .i64 2))⟩]

def f20r8 : List AInstr := [
    ⟨(some 28), none, .mov (.tmp 3)⟩,
    ⟨(some 29), none, .ibin .eql (.tmp 28) (.const (.int .i64 0))⟩,
    ⟨(some 30), none, .mov (.tmp 29)⟩,
    ⟨(some 31), (some (30, true)), .fieldAddr 0 (.tmp 4)⟩,
    ⟨(some 32), (some (30, true)), .load none (.tmp 31)⟩,
    ⟨(some 33), (some (30, true)), .ibin .neq (.tmp 32) (.const (.int .i64 (-1)))⟩,
    ⟨(some 34), none, .pick (.tmp 30) (.tmp 33) (.const (.bool false))⟩,
    ⟨(some 35), none, .mov (.tmp 34)⟩,
    ⟨(some 36), (some (35, false)), .mov (.tmp 3)⟩,
    ⟨(some 37), (some (35, false)), .ibin .gtr (.tmp 36) (.const (.int .i64 0))⟩,
    ⟨(some 38), (some (35, false)), .mov (.tmp 37)⟩,
    ⟨(some 39), (some (38, true)), .fieldAddr 0 (.tmp 4)⟩,
    ⟨(some 40), (some (38, true)), .load none (.tmp 39)⟩,
    ⟨(some 41), (some (38, true)), .ibin .lss (.tmp 40) (.const (.int .i64 0))⟩,
    ⟨(some 42), (some (38, true)), .mov (.tmp 41)⟩,
    ⟨(some 43), (some (42, false)), .fieldAddr 0 (.tmp 4)⟩,
    ⟨(some 44), (some (42, false)), .load none (.tmp 43)⟩,
    ⟨(some 45), (some (42, false)), .mov (.tmp 3)⟩,
    ⟨(some 46), (some (42, false)), .ibin .geq (.tmp 44) (.tmp 45)⟩,
    ⟨(some 47), (some (38, true)), .pick (.tmp 42) (.const (.bool true)) (.tmp 46)⟩,
    ⟨(some 48), (some (35, false)), .pick (.tmp 38) (.tmp 47) (.const (.bool false))⟩,
    ⟨(some 49), none, .pick (.tmp 35) (.const (.bool true)) (.tmp 48)⟩]

def f20r9 : List AInstr := [
    ⟨(some 2), none, .mov (.const (.int .i64 1))⟩]

def f20r10 : List AInstr := [
    ⟨(some 50), none, .ibin .add (.tmp 15) (.const (.int .i64 1))⟩,
    ⟨(some 15), none, .mov (.tmp 50)⟩]

/-- live: [13, 14, 15] -/
def f20l0 : ACode := (.seq (.ops f20r4)
  (.keep [13, 14, 15, 16] (.seq (.cond (.tmp 16) .skip (.exit 0))
  (.keep [13, 14, 15] (.seq (.block 1 (.seq (.ops f20r5)
  (.keep [3, 4, 13, 14, 15] (.seq (.seq (.ops f20r6)
  (.keep [3, 4, 13, 14, 15, 27] (.cond (.tmp 27) (.keep [] (.seq (.ops f20r7)
  (.keep [2] .ret))) .skip)))
  (.keep [3, 4, 13, 14, 15] (.seq (.ops f20r8)
  (.keep [13, 14, 15, 49] (.cond (.tmp 49) (.keep [] (.seq (.ops f20r9)
  (.keep [2] .ret))) .skip))))))))
  (.keep [13, 14, 15] (.ops f20r10)))))))

def f20r12 : List AInstr := [
    ⟨(some 2), none, .mov (.const (.int .i64 0))⟩]

def f20b : ACode := (.seq (.ops f20r0)
  (.keep [0] (.seq (.seq (.ops f20r1)
  (.keep [0, 12] (.cond (.tmp 12) (.keep [] (.seq (.ops f20r2)
  (.keep [2] .ret))) .skip)))
  (.keep [0] (.seq (.seq (.ops f20r3)
  (.keep [13, 14, 15] (.block 0 (.loop f20l0))))
  (.keep [] (.seq (.ops f20r12)
  (.keep [2] .ret))))))))

def f20 : AFn := ⟨51, [.tmp 2], f20b⟩

theorem f20_ok : compFn Try.prog 20 = some f20.strip := by kernel_rfl

/- function 21: slices.Insert[[]int,int]; parameters 3; operations that are not compiled: 0 -/
def f21r0 : List AInstr := [
    ⟨(some 6), none, .mov (.const (.slice none 0 0))⟩]

def f21r1 : List AInstr := [
    ⟨(some 10), none, .mov (.tmp 0)⟩,
    ⟨(some 11), none, .mov (.tmp 1)⟩,
    ⟨(some 12), none, .slice 1 (.tmp 10) (some (.tmp 11)) none none⟩]

def f21r2 : List AInstr := [
    ⟨(some 13), none, .mov (.tmp 2)⟩,
    ⟨(some 14), none, .len (.tmp 13)⟩,
    ⟨(some 7), none, .mov (.tmp 14)⟩]

def f21r3 : List AInstr := [
    ⟨(some 15), none, .mov (.tmp 7)⟩,
    ⟨(some 16), none, .ibin .eql (.tmp 15) (.const (.int .i64 0))⟩]

def f21r4 : List AInstr := [
    ⟨(some 17), none, .mov (.tmp 0)⟩,
    ⟨(some 6), none, .mov (.tmp 17)⟩]

def f21r5 : List AInstr := [
    ⟨(some 18), none, .mov (.tmp 0)⟩,
    ⟨(some 19), none, .len (.tmp 18)⟩,
    ⟨(some 8), none, .mov (.tmp 19)⟩]

def f21r6 : List AInstr := [
    ⟨(some 20), none, .mov (.tmp 1)⟩,
    ⟨(some 21), none, .mov (.tmp 8)⟩,
    ⟨(some 22), none, .ibin .eql (.tmp 20) (.tmp 21)⟩]

def f21r7 : List AInstr := [
    ⟨(some 23), none, .mov (.tmp 0)⟩,
    ⟨(some 24), none, .mov (.tmp 2)⟩,
    ⟨(some 25), none, .append 1 8 (.tmp 23) (.tmp 24)⟩,
    ⟨(some 6), none, .mov (.tmp 25)⟩]

def f21r8 : List AInstr := [
    ⟨(some 26), none, .mov (.tmp 8)⟩,
    ⟨(some 27), none, .mov (.tmp 7)⟩,
    ⟨(some 28), none, .ibin .add (.tmp 26) (.tmp 27)⟩,
    ⟨(some 29), none, .mov (.tmp 0)⟩,
    ⟨(some 30), none, .cap (.tmp 29)⟩,
    ⟨(some 31), none, .ibin .gtr (.tmp 28) (.tmp 30)⟩]

def f21r9 : List AInstr := [
    ⟨(some 32), none, .mov (.tmp 0)⟩,
    ⟨(some 33), none, .mov (.tmp 1)⟩,
    ⟨(some 34), none, .slice 1 (.tmp 32) none (some (.tmp 33)) none⟩,
    ⟨(some 35), none, .mov (.tmp 8)⟩,
    ⟨(some 36), none, .mov (.tmp 7)⟩,
    ⟨(some 37), none, .ibin .add (.tmp 35) (.tmp 36)⟩,
    ⟨(some 38), none, .mov (.tmp 1)⟩,
    ⟨(some 39), none, .ibin .sub (.tmp 37) (.tmp 38)⟩,
    ⟨(some 40), none, .appendZ 1 8 [.int .i64 0] (.tmp 34) (.tmp 39)⟩,
    ⟨(some 9), none, .mov (.tmp 40)⟩]

def f21r10 : List AInstr := [
    ⟨(some 41), none, .mov (.tmp 9)⟩,
    ⟨(some 42), none, .mov (.tmp 1)⟩,
    ⟨(some 43), none, .slice 1 (.tmp 41) (some (.tmp 42)) none none⟩,
    ⟨(some 44), none, .mov (.tmp 2)⟩,
    ⟨(some 45), none, .copy 1 (.tmp 43) (.tmp 44)⟩]

def f21r11 : List AInstr := [
    ⟨(some 46), none, .mov (.tmp 9)⟩,
    ⟨(some 47), none, .mov (.tmp 1)⟩,
    ⟨(some 48), none, .mov (.tmp 7)⟩,
    ⟨(some 49), none, .ibin .add (.tmp 47) (.tmp 48)⟩,
    ⟨(some 50), none, .slice 1 (.tmp 46) (some (.tmp 49)) none none⟩,
    ⟨(some 51), none, .mov (.tmp 0)⟩,
    ⟨(some 52), none, .mov (.tmp 1)⟩,
    ⟨(some 53), none, .slice 1 (.tmp 51) (some (.tmp 52)) none none⟩,
    ⟨(some 54), none, .copy 1 (.tmp 50) (.tmp 53)⟩]

def f21r12 : List AInstr := [
    ⟨(some 55), none, .mov (.tmp 9)⟩,
    ⟨(some 6), none, .mov (.tmp 55)⟩]

def f21r13 : List AInstr := [
    ⟨(some 56), none, .mov (.tmp 0)⟩,
    ⟨(some 57), none, .mov (.tmp 8)⟩,
    ⟨(some 58), none, .mov (.tmp 7)⟩,
    ⟨(some 59), none, .ibin .add (.tmp 57) (.tmp 58)⟩,
    ⟨(some 60), none, .slice 1 (.tmp 56) none (some (.tmp 59)) none⟩,
    ⟨(some 0), none, .mov (.tmp 60)⟩]

def f21r14 : List AInstr := [
    ⟨(some 61), none, .mov (.tmp 2)⟩,
    ⟨(some 62), none, .mov (.tmp 0)⟩,
    ⟨(some 63), none, .mov (.tmp 1)⟩,
    ⟨(some 64), none, .mov (.tmp 7)⟩,
    ⟨(some 65), none, .ibin .add (.tmp 63) (.tmp 64)⟩,
    ⟨(some 66), none, .slice 1 (.tmp 62) (some (.tmp 65)) none none⟩,
    ⟨(some 67), none, .callF 29 [.tmp 61, .tmp 66]⟩,
    ⟨(some 68), none, .un .not (.tmp 67)⟩]

def f21r15 : List AInstr := [
    ⟨(some 69), none, .mov (.tmp 0)⟩,
    ⟨(some 70), none, .mov (.tmp 1)⟩,
    ⟨(some 71), none, .mov (.tmp 7)⟩,
    ⟨(some 72), none, .ibin .add (.tmp 70) (.tmp 71)⟩,
    ⟨(some 73), none, .slice 1 (.tmp 69) (some (.tmp 72)) none none⟩,
    ⟨(some 74), none, .mov (.tmp 0)⟩,
    ⟨(some 75), none, .mov (.tmp 1)⟩,
    ⟨(some 76), none, .slice 1 (.tmp 74) (some (.tmp 75)) none none⟩,
    ⟨(some 77), none, .copy 1 (.tmp 73) (.tmp 76)⟩]

def f21r16 : List AInstr := [
    ⟨(some 78), none, .mov (.tmp 0)⟩,
    ⟨(some 79), none, .mov (.tmp 1)⟩,
    ⟨(some 80), none, .slice 1 (.tmp 78) (some (.tmp 79)) none none⟩,
    ⟨(some 81), none, .mov (.tmp 2)⟩,
    ⟨(some 82), none, .copy 1 (.tmp 80) (.tmp 81)⟩]

def f21r17 : List AInstr := [
    ⟨(some 83), none, .mov (.tmp 0)⟩,
    ⟨(some 6), none, .mov (.tmp 83)⟩]

def f21r18 : List AInstr := [
    ⟨(some 84), none, .mov (.tmp 0)⟩,
    ⟨(some 85), none, .mov (.tmp 8)⟩,
    ⟨(some 86), none, .slice 1 (.tmp 84) (some (.tmp 85)) none none⟩,
    ⟨(some 87), none, .mov (.tmp 2)⟩,
    ⟨(some 88), none, .copy 1 (.tmp 86) (.tmp 87)⟩]

def f21r19 : List AInstr := [
    ⟨(some 89), none, .mov (.tmp 0)⟩,
    ⟨(some 90), none, .mov (.tmp 1)⟩,
    ⟨(some 91), none, .slice 1 (.tmp 89) (some (.tmp 90)) none none⟩,
    ⟨(some 92), none, .mov (.tmp 7)⟩,
    ⟨(some 93), none, .callF 30 [.tmp 91, .tmp 92]⟩]

def f21r20 : List AInstr := [
    ⟨(some 94), none, .mov (.tmp 0)⟩,
    ⟨(some 6), none, .mov (.tmp 94)⟩]

def f21b : ACode := (.seq (.ops f21r0)
  (.keep [0, 1, 2] (.seq (.ops f21r1)
  (.keep [0, 1, 2] (.seq (.ops f21r2)
  (.keep [0, 1, 2, 7] (.seq (.seq (.ops f21r3)
  (.keep [0, 1, 2, 7, 16] (.cond (.tmp 16) (.keep [0] (.seq (.ops f21r4)
  (.keep [6] .ret))) .skip)))
  (.keep [0, 1, 2, 7] (.seq (.ops f21r5)
  (.keep [0, 1, 2, 7, 8] (.seq (.seq (.ops f21r6)
  (.keep [0, 1, 2, 7, 8, 22] (.cond (.tmp 22) (.keep [0, 2] (.seq (.ops f21r7)
  (.keep [6] .ret))) .skip)))
  (.keep [0, 1, 2, 7, 8] (.seq (.seq (.ops f21r8)
  (.keep [0, 1, 2, 7, 8, 31] (.cond (.tmp 31) (.keep [0, 1, 2, 7, 8] (.seq (.ops f21r9)
  (.keep [0, 1, 2, 7, 9] (.seq (.ops f21r10)
  (.keep [0, 1, 7, 9] (.seq (.draw f21r11 [(0, 0, false), (0, 0, false), (0, 0, false), (0, 0, false), (0, 0, false), (0, 0, false), (0, 0, false), (0, 0, false), (0, 0, true)])
  (.keep [9] (.seq (.ops f21r12)
  (.keep [6] .ret))))))))) .skip)))
  (.keep [0, 1, 2, 7, 8] (.seq (.ops f21r13)
  (.keep [0, 1, 2, 7, 8] (.seq (.seq (.ops f21r14)
  (.keep [0, 1, 2, 7, 8, 68] (.cond (.tmp 68) (.keep [0, 1, 2, 7] (.seq (.draw f21r15 [(0, 0, false), (0, 0, false), (0, 0, false), (0, 0, false), (0, 0, false), (0, 0, false), (0, 0, false), (0, 0, false), (0, 0, true)])
  (.keep [0, 1, 2] (.seq (.ops f21r16)
  (.keep [0] (.seq (.ops f21r17)
  (.keep [6] .ret))))))) .skip)))
  (.keep [0, 1, 2, 7, 8] (.seq (.ops f21r18)
  (.keep [0, 1, 7] (.seq (.ops f21r19)
  (.keep [0] (.seq (.ops f21r20)
  (.keep [6] .ret))))))))))))))))))))))))

def f21 : AFn := ⟨95, [.tmp 6], f21b⟩

theorem f21_ok : compFn Try.prog 21 = some f21.strip := by kernel_rfl

/- function 22: slices.Index[[]int,int]; parameters 2; operations that are not compiled: 0 -/
def f22r0 : List AInstr := [
    ⟨(some 4), none, .mov (.const (.int .i64 0))⟩]

def f22r1 : List AInstr := [
    ⟨(some 6), none, .mov (.tmp 0)⟩,
    ⟨(some 7), none, .len (.tmp 6)⟩,
    ⟨(some 8), none, .mov (.const (.int .i64 0))⟩]

def f22r2 : List AInstr := [
    ⟨(some 9), none, .ibin .lss (.tmp 8) (.tmp 7)⟩]

def f22r3 : List AInstr := [
    ⟨(some 10), none, .mov (.tmp 8)⟩,
    ⟨(some 5), none, .mov (.tmp 10)⟩]

def f22r4 : List AInstr := [
    ⟨(some 11), none, .mov (.tmp 1)⟩,
    ⟨(some 12), none, .mov (.tmp 0)⟩,
    ⟨(some 13), none, .mov (.tmp 5)⟩,
    ⟨(some 14), none, .indexAddr 1 (.tmp 12) (.tmp 13)⟩,
    ⟨(some 15), none, .load none (.tmp 14)⟩,
    ⟨(some 16), none, .ibin .eql (.tmp 11) (.tmp 15)⟩]

def f22r5 : List AInstr := [
    ⟨(some 17), none, .mov (.tmp 5)⟩,
    ⟨(some 4), none, .mov (.tmp 17)⟩]

def f22r6 : List AInstr := [
    ⟨(some 18), none, .ibin .add (.tmp 8) (.const (.int .i64 1))⟩,
    ⟨(some 8), none, .mov (.tmp 18)⟩]

/-- live: [0, 1, 7, 8] -/
def f22l0 : ACode := (.seq (.ops f22r2)
  (.keep [0, 1, 7, 8, 9] (.seq (.cond (.tmp 9) .skip (.exit 0))
  (.keep [0, 1, 7, 8] (.seq (.block 1 (.seq (.ops f22r3)
  (.keep [0, 1, 5, 7, 8] (.seq (.ops f22r4)
  (.keep [0, 1, 5, 7, 8, 16] (.cond (.tmp 16) (.keep [5] (.seq (.ops f22r5)
  (.keep [4] .ret))) .skip))))))
  (.keep [0, 1, 7, 8] (.ops f22r6)))))))

def f22r8 : List AInstr := [
    ⟨(some 4), none, .mov (.const (.int .i64 (-1)))⟩]

def f22b : ACode := (.seq (.ops f22r0)
  (.keep [0, 1] (.seq (.seq (.ops f22r1)
  (.keep [0, 1, 7, 8] (.block 0 (.loop f22l0))))
  (.keep [] (.seq (.ops f22r8)
  (.keep [4] .ret))))))

def f22 : AFn := ⟨19, [.tmp 4], f22b⟩

theorem f22_ok : compFn Try.prog 22 = some f22.strip := by kernel_rfl

/- function 23: slices.ContainsFunc[[]weirhouse/api.Node,weirhouse/api.Node]; parameters 2; operations that are not compiled: 0 -/
def f23r0 : List AInstr := [
    ⟨(some 4), none, .mov (.const (.bool false))⟩]

def f23r1 : List AInstr := [
    ⟨(some 5), none, .mov (.tmp 0)⟩,
    ⟨(some 6), none, .mov (.tmp 1)⟩,
    ⟨(some 7), none, .callF 31 [.tmp 5, .tmp 6]⟩,
    ⟨(some 8), none, .ibin .geq (.tmp 7) (.const (.int .i64 0))⟩,
    ⟨(some 4), none, .mov (.tmp 8)⟩]

def f23b : ACode := (.seq (.ops f23r0)
  (.keep [0, 1] (.seq (.ops f23r1)
  (.keep [4] .ret))))

def f23 : AFn := ⟨9, [.tmp 4], f23b⟩

theorem f23_ok : compFn Try.prog 23 = some f23.strip := by kernel_rfl

/- function 24: weirhouse/tree.Leaves$1; parameters 1; operations that are not compiled: 0 -/
def f24r0 : List AInstr := [
    ⟨(some 2), none, .box (.tmp 0)⟩,
    ⟨(some 3), none, .mov (.const (.bool false))⟩]

def f24r1 : List AInstr := [
    ⟨(some 4), none, .fieldAddr 0 (.tmp 2)⟩,
    ⟨(some 5), none, .load none (.tmp 4)⟩,
    ⟨(some 6), none, .load none (.tmp 1)⟩,
    ⟨(some 7), none, .ibin .eql (.tmp 5) (.tmp 6)⟩,
    ⟨(some 3), none, .mov (.tmp 7)⟩]

def f24b : ACode := (.seq (.ops f24r0)
  (.keep [1, 2] (.seq (.ops f24r1)
  (.keep [3] .ret))))

def f24 : AFn := ⟨8, [.tmp 3], f24b⟩

theorem f24_ok : compFn Try.prog 24 = some f24.strip := by kernel_rfl

/- function 25: (*weirhouse/hier.engine).offer; parameters 5; operations that are not compiled: 0 -/
def f25r0 : List AInstr := [
    ⟨(some 12), none, .mov (.tmp 0)⟩,
    ⟨(some 13), none, .nilCheck (.tmp 12)⟩,
    ⟨(some 14), none, .fieldAddr 0 (.tmp 13)⟩,
    ⟨(some 15), none, .load none (.tmp 14)⟩,
    ⟨(some 16), none, .mov (.tmp 1)⟩,
    ⟨(some 17), none, .indexAddr 10 (.tmp 15) (.tmp 16)⟩,
    ⟨(some 10), none, .mov (.tmp 17)⟩]

def f25r1 : List AInstr := [
    ⟨(some 18), none, .mov (.tmp 10)⟩,
    ⟨(some 19), none, .mov (.tmp 10)⟩,
    ⟨(some 20), none, .mov (.tmp 2)⟩,
    ⟨(some 21), none, .mov (.tmp 3)⟩,
    ⟨(some 22), none, .nilCheck (.tmp 18)⟩,
    ⟨(some 23), none, .fieldAddr 4 (.tmp 22)⟩,
    ⟨none, none, .store 1 (.tmp 23) (.tmp 20)⟩,
    ⟨(some 24), none, .nilCheck (.tmp 19)⟩,
    ⟨(some 25), none, .fieldAddr 5 (.tmp 24)⟩,
    ⟨none, none, .store 1 (.tmp 25) (.tmp 21)⟩]

def f25r2 : List AInstr := [
    ⟨(some 26), none, .mov (.tmp 10)⟩,
    ⟨(some 27), none, .nilCheck (.tmp 26)⟩,
    ⟨(some 28), none, .fieldAddr 0 (.tmp 27)⟩,
    ⟨(some 29), none, .load none (.tmp 28)⟩,
    ⟨(some 30), none, .ibin .lss (.tmp 29) (.const (.int .i64 0))⟩]

def f25r3 : List AInstr := [
    ⟨(some 31), none, .mov (.tmp 0)⟩,
    ⟨(some 32), none, .nilCheck (.tmp 31)⟩,
    ⟨(some 33), none, .fieldAddr 0 (.tmp 32)⟩,
    ⟨(some 34), none, .load none (.tmp 33)⟩,
    ⟨(some 35), none, .mov (.tmp 10)⟩,
    ⟨(some 36), none, .nilCheck (.tmp 35)⟩,
    ⟨(some 37), none, .fieldAddr 0 (.tmp 36)⟩,
    ⟨(some 38), none, .load none (.tmp 37)⟩,
    ⟨(some 39), none, .indexAddr 10 (.tmp 34) (.tmp 38)⟩,
    ⟨(some 11), none, .mov (.tmp 39)⟩]

def f25r4 : List AInstr := [
    ⟨(some 40), none, .mov (.tmp 10)⟩,
    ⟨(some 41), none, .mov (.tmp 10)⟩,
    ⟨(some 42), none, .nilCheck (.tmp 41)⟩,
    ⟨(some 43), none, .fieldAddr 7 (.tmp 42)⟩,
    ⟨(some 44), none, .load none (.tmp 43)⟩,
    ⟨(some 45), none, .nilCheck (.tmp 40)⟩,
    ⟨(some 46), none, .fieldAddr 6 (.tmp 45)⟩,
    ⟨none, none, .store 1 (.tmp 46) (.tmp 44)⟩]

def f25r5 : List AInstr := [
    ⟨(some 47), none, .mov (.tmp 4)⟩,
    ⟨(some 48), none, .un .not (.tmp 47)⟩]

def f25r6 : List AInstr := [
    ⟨(some 49), none, .mov (.tmp 10)⟩,
    ⟨(some 50), none, .mov (.tmp 10)⟩,
    ⟨(some 51), none, .nilCheck (.tmp 50)⟩,
    ⟨(some 52), none, .fieldAddr 7 (.tmp 51)⟩,
    ⟨(some 53), none, .load none (.tmp 52)⟩,
    ⟨(some 54), none, .mov (.tmp 11)⟩,
    ⟨(some 55), none, .nilCheck (.tmp 54)⟩,
    ⟨(some 56), none, .fieldAddr 8 (.tmp 55)⟩,
    ⟨(some 57), none, .load none (.tmp 56)⟩,
    ⟨(some 58), none, .minmax true [.tmp 53, .tmp 57]⟩,
    ⟨(some 59), none, .nilCheck (.tmp 49)⟩,
    ⟨(some 60), none, .fieldAddr 6 (.tmp 59)⟩,
    ⟨none, none, .store 1 (.tmp 60) (.tmp 58)⟩]

def f25r7 : List AInstr := [
    ⟨(some 61), none, .mov (.tmp 10)⟩,
    ⟨(some 62), none, .mov (.tmp 10)⟩,
    ⟨(some 63), none, .nilCheck (.tmp 62)⟩,
    ⟨(some 64), none, .fieldAddr 6 (.tmp 63)⟩,
    ⟨(some 65), none, .load none (.tmp 64)⟩,
    ⟨(some 66), none, .mov (.tmp 3)⟩,
    ⟨(some 67), none, .mov (.tmp 10)⟩,
    ⟨(some 68), none, .nilCheck (.tmp 67)⟩,
    ⟨(some 69), none, .fieldAddr 1 (.tmp 68)⟩,
    ⟨(some 70), none, .load none (.tmp 69)⟩,
    ⟨(some 71), none, .ibin .quo (.const (.int .i64 27720)) (.tmp 70)⟩,
    ⟨(some 72), none, .ibin .mul (.tmp 66) (.tmp 71)⟩,
    ⟨(some 73), none, .mov (.tmp 11)⟩,
    ⟨(some 74), none, .nilCheck (.tmp 73)⟩,
    ⟨(some 75), none, .fieldAddr 3 (.tmp 74)⟩,
    ⟨(some 76), none, .load none (.tmp 75)⟩,
    ⟨(some 77), none, .ibin .mul (.tmp 72) (.tmp 76)⟩,
    ⟨(some 78), none, .ibin .add (.tmp 65) (.tmp 77)⟩,
    ⟨(some 79), none, .nilCheck (.tmp 61)⟩,
    ⟨(some 80), none, .fieldAddr 7 (.tmp 79)⟩,
    ⟨none, none, .store 1 (.tmp 80) (.tmp 78)⟩]

def f25b : ACode := (.seq (.ops f25r0)
  (.keep [0, 2, 3, 4, 10] (.seq (.ops f25r1)
  (.keep [0, 3, 4, 10] (.seq (.seq (.ops f25r2)
  (.keep [0, 3, 4, 10, 30] (.cond (.tmp 30) (.keep [] .ret) .skip)))
  (.keep [0, 3, 4, 10] (.seq (.draw f25r3 [(0, 0, false), (0, 0, false), (0, 0, false), (0, 0, false), (0, 0, false), (0, 0, false), (0, 0, false), (0, 0, false), (0, 0, false), (0, 0, false)])
  (.keep [3, 4, 10, 11] (.seq (.ops f25r4)
  (.keep [3, 4, 10, 11] (.seq (.seq (.ops f25r5)
  (.keep [3, 10, 11, 48] (.cond (.tmp 48) (.keep [3, 10, 11] (.draw f25r6 [(0, 0, false), (0, 0, false), (0, 0, false), (0, 0, false), (0, 0, false), (0, 0, false), (0, 0, false), (0, 0, false), (0, 0, false), (0, 0, false), (0, 0, false), (0, 0, false), (0, 0, true)])) .skip)))
  (.keep [3, 10, 11] (.draw f25r7 [(0, 0, false), (0, 0, false), (0, 0, false), (0, 0, false), (0, 0, false), (0, 0, false), (0, 0, false), (0, 0, false), (0, 0, false), (0, 0, false), (0, 0, false), (0, 0, false), (0, 0, false), (0, 0, false), (0, 0, false), (0, 0, false), (0, 0, false), (0, 0, false), (0, 0, false), (0, 0, false), (0, 0, true)])))))))))))))

def f25 : AFn := ⟨81, [], f25b⟩

theorem f25_ok : compFn Try.prog 25 = some f25.strip := by kernel_rfl

/- function 26: (*weirhouse/hier.engine).pick; parameters 3; operations that are not compiled: 0 -/
def f26r0 : List AInstr := [
    ⟨(some 16), none, .mov (.tmp 0)⟩,
    ⟨(some 17), none, .nilCheck (.tmp 16)⟩,
    ⟨(some 18), none, .fieldAddr 0 (.tmp 17)⟩,
    ⟨(some 19), none, .load none (.tmp 18)⟩,
    ⟨(some 20), none, .mov (.tmp 1)⟩,
    ⟨(some 21), none, .indexAddr 10 (.tmp 19) (.tmp 20)⟩,
    ⟨(some 6), none, .mov (.tmp 21)⟩]

def f26r1 : List AInstr := [
    ⟨(some 7), none, .mov (.const (.int .i64 (-1)))⟩]

def f26r2 : List AInstr := [
    ⟨(some 22), none, .mov (.tmp 6)⟩,
    ⟨(some 23), none, .nilCheck (.tmp 22)⟩,
    ⟨(some 24), none, .fieldAddr 2 (.tmp 23)⟩,
    ⟨(some 25), none, .load none (.tmp 24)⟩,
    ⟨(some 26), none, .len (.tmp 25)⟩,
    ⟨(some 27), none, .mov (.const (.int .i64 0))⟩]

def f26r3 : List AInstr := [
    ⟨(some 28), none, .ibin .lss (.tmp 27) (.tmp 26)⟩]

def f26r4 : List AInstr := [
    ⟨(some 29), none, .indexAddr 1 (.tmp 25) (.tmp 27)⟩,
    ⟨(some 30), none, .load none (.tmp 29)⟩,
    ⟨(some 9), none, .mov (.tmp 30)⟩]

def f26r5 : List AInstr := [
    ⟨(some 31), none, .mov (.tmp 0)⟩,
    ⟨(some 32), none, .nilCheck (.tmp 31)⟩,
    ⟨(some 33), none, .fieldAddr 0 (.tmp 32)⟩,
    ⟨(some 34), none, .load none (.tmp 33)⟩,
    ⟨(some 35), none, .mov (.tmp 9)⟩,
    ⟨(some 36), none, .indexAddr 10 (.tmp 34) (.tmp 35)⟩,
    ⟨(some 37), none, .load (some 10) (.tmp 36)⟩,
    ⟨(some 10), none, .alloc [.int .i64 0, .int .i64 0, .slice none 0 0, .int .i64 0, .int .i64 0, .int .i64 0, .int .i64 0, .int .i64 0, .int .i64 0, .slice none 0 0]⟩,
    ⟨none, none, .store 10 (.tmp 10) (.tmp 37)⟩]

def f26r6 : List AInstr := [
    ⟨(some 38), none, .fieldAddr 5 (.tmp 10)⟩,
    ⟨(some 39), none, .load none (.tmp 38)⟩,
    ⟨(some 40), none, .ibin .gtr (.tmp 39) (.const (.int .i64 0))⟩,
    ⟨(some 41), none, .mov (.tmp 40)⟩,
    ⟨(some 42), (some (41, true)), .mov (.tmp 7)⟩,
    ⟨(some 43), (some (41, true)), .ibin .lss (.tmp 42) (.const (.int .i64 0))⟩,
    ⟨(some 44), (some (41, true)), .mov (.tmp 43)⟩,
    ⟨(some 45), (some (44, false)), .fieldAddr 6 (.tmp 10)⟩,
    ⟨(some 46), (some (44, false)), .load none (.tmp 45)⟩,
    ⟨(some 47), (some (44, false)), .mov (.tmp 7)⟩,
    ⟨(some 48), (some (44, false)), .ibin .lss (.tmp 46) (.tmp 47)⟩,
    ⟨(some 49), (some (41, true)), .pick (.tmp 44) (.const (.bool true)) (.tmp 48)⟩,
    ⟨(some 50), none, .pick (.tmp 41) (.tmp 49) (.const (.bool false))⟩]

def f26r7 : List AInstr := [
    ⟨(some 51), none, .fieldAddr 6 (.tmp 10)⟩,
    ⟨(some 52), none, .load none (.tmp 51)⟩,
    ⟨(some 7), none, .mov (.tmp 52)⟩]

def f26r8 : List AInstr := [
    ⟨(some 53), none, .ibin .add (.tmp 27) (.const (.int .i64 1))⟩,
    ⟨(some 27), none, .mov (.tmp 53)⟩]

/-- live: [0, 1, 2, 6, 7, 25, 26, 27] -/
def f26l0 : ACode := (.seq (.ops f26r3)
  (.keep [0, 1, 2, 6, 7, 25, 26, 27, 28] (.seq (.cond (.tmp 28) .skip (.exit 0))
  (.keep [0, 1, 2, 6, 7, 25, 26, 27] (.seq (.block 1 (.seq (.ops f26r4)
  (.keep [0, 1, 2, 6, 7, 9, 25, 26, 27] (.seq (.ops f26r5)
  (.keep [0, 1, 2, 6, 7, 10, 25, 26, 27] (.seq (.ops f26r6)
  (.keep [0, 1, 2, 6, 7, 10, 25, 26, 27, 50] (.cond (.tmp 50) (.keep [0, 1, 2, 6, 10, 25, 26, 27] (.ops f26r7)) .skip))))))))
  (.keep [0, 1, 2, 6, 7, 25, 26, 27] (.ops f26r8)))))))

def f26r10 : List AInstr := [
    ⟨(some 54), none, .mov (.tmp 7)⟩,
    ⟨(some 55), none, .ibin .lss (.tmp 54) (.const (.int .i64 0))⟩]

def f26r11 : List AInstr := [
    ⟨(some 56), none, .mov (.tmp 6)⟩,
    ⟨(some 57), none, .nilCheck (.tmp 56)⟩,
    ⟨(some 58), none, .fieldAddr 5 (.tmp 57)⟩,
    ⟨none, none, .store 1 (.tmp 58) (.const (.int .i64 0))⟩]

def f26r12 : List AInstr := [
    ⟨(some 59), none, .mov (.tmp 6)⟩,
    ⟨(some 60), none, .mov (.tmp 6)⟩,
    ⟨(some 61), none, .nilCheck (.tmp 60)⟩,
    ⟨(some 62), none, .fieldAddr 8 (.tmp 61)⟩,
    ⟨(some 63), none, .load none (.tmp 62)⟩,
    ⟨(some 64), none, .mov (.tmp 7)⟩,
    ⟨(some 65), none, .minmax true [.tmp 63, .tmp 64]⟩,
    ⟨(some 66), none, .nilCheck (.tmp 59)⟩,
    ⟨(some 67), none, .fieldAddr 8 (.tmp 66)⟩,
    ⟨none, none, .store 1 (.tmp 67) (.tmp 65)⟩]

def f26r13 : List AInstr := [
    ⟨(some 11), none, .mov (.const (.int .i64 (-1)))⟩]

def f26r14 : List AInstr := [
    ⟨(some 68), none, .mov (.tmp 6)⟩,
    ⟨(some 69), none, .nilCheck (.tmp 68)⟩,
    ⟨(some 70), none, .fieldAddr 2 (.tmp 69)⟩,
    ⟨(some 71), none, .load none (.tmp 70)⟩,
    ⟨(some 72), none, .len (.tmp 71)⟩,
    ⟨(some 73), none, .mov (.const (.int .i64 0))⟩]

def f26r15 : List AInstr := [
    ⟨(some 74), none, .ibin .lss (.tmp 73) (.tmp 72)⟩]

def f26r16 : List AInstr := [
    ⟨(some 75), none, .indexAddr 1 (.tmp 71) (.tmp 73)⟩,
    ⟨(some 76), none, .load none (.tmp 75)⟩,
    ⟨(some 13), none, .mov (.tmp 76)⟩]

def f26r17 : List AInstr := [
    ⟨(some 77), none, .mov (.tmp 0)⟩,
    ⟨(some 78), none, .nilCheck (.tmp 77)⟩,
    ⟨(some 79), none, .fieldAddr 0 (.tmp 78)⟩,
    ⟨(some 80), none, .load none (.tmp 79)⟩,
    ⟨(some 81), none, .mov (.tmp 13)⟩,
    ⟨(some 82), none, .indexAddr 10 (.tmp 80) (.tmp 81)⟩,
    ⟨(some 83), none, .load (some 10) (.tmp 82)⟩,
    ⟨(some 14), none, .alloc [.int .i64 0, .int .i64 0, .slice none 0 0, .int .i64 0, .int .i64 0, .int .i64 0, .int .i64 0, .int .i64 0, .int .i64 0, .slice none 0 0]⟩,
    ⟨none, none, .store 10 (.tmp 14) (.tmp 83)⟩]

def f26r18 : List AInstr := [
    ⟨(some 84), none, .fieldAddr 5 (.tmp 14)⟩,
    ⟨(some 85), none, .load none (.tmp 84)⟩,
    ⟨(some 86), none, .ibin .gtr (.tmp 85) (.const (.int .i64 0))⟩,
    ⟨(some 87), none, .mov (.tmp 86)⟩,
    ⟨(some 88), (some (87, true)), .fieldAddr 6 (.tmp 14)⟩,
    ⟨(some 89), (some (87, true)), .load none (.tmp 88)⟩,
    ⟨(some 90), (some (87, true)), .mov (.tmp 6)⟩,
    ⟨(some 91), (some (87, true)), .nilCheck (.tmp 90)⟩,
    ⟨(some 92), (some (87, true)), .fieldAddr 8 (.tmp 91)⟩,
    ⟨(some 93), (some (87, true)), .load none (.tmp 92)⟩,
    ⟨(some 94), (some (87, true)), .ibin .leq (.tmp 89) (.tmp 93)⟩,
    ⟨(some 95), none, .pick (.tmp 87) (.tmp 94) (.const (.bool false))⟩,
    ⟨(some 96), none, .mov (.tmp 95)⟩,
    ⟨(some 97), (some (96, true)), .mov (.tmp 11)⟩,
    ⟨(some 98), (some (96, true)), .ibin .lss (.tmp 97) (.const (.int .i64 0))⟩,
    ⟨(some 99), (some (96, true)), .mov (.tmp 98)⟩,
    ⟨(some 100), (some (99, false)), .fieldAddr 7 (.tmp 14)⟩,
    ⟨(some 101), (some (99, false)), .load none (.tmp 100)⟩,
    ⟨(some 102), (some (99, false)), .mov (.tmp 0)⟩,
    ⟨(some 103), (some (99, false)), .nilCheck (.tmp 102)⟩,
    ⟨(some 104), (some (99, false)), .fieldAddr 0 (.tmp 103)⟩,
    ⟨(some 105), (some (99, false)), .load none (.tmp 104)⟩,
    ⟨(some 106), (some (99, false)), .mov (.tmp 11)⟩,
    ⟨(some 107), (some (99, false)), .indexAddr 10 (.tmp 105) (.tmp 106)⟩,
    ⟨(some 108), (some (99, false)), .fieldAddr 7 (.tmp 107)⟩,
    ⟨(some 109), (some (99, false)), .load none (.tmp 108)⟩,
    ⟨(some 110), (some (99, false)), .ibin .lss (.tmp 101) (.tmp 109)⟩,
    ⟨(some 111), (some (96, true)), .pick (.tmp 99) (.const (.bool true)) (.tmp 110)⟩,
    ⟨(some 112), none, .pick (.tmp 96) (.tmp 111) (.const (.bool false))⟩]

def f26r19 : List AInstr := [
    ⟨(some 113), none, .mov (.tmp 13)⟩,
    ⟨(some 11), none, .mov (.tmp 113)⟩]

def f26r20 : List AInstr := [
    ⟨(some 114), none, .ibin .add (.tmp 73) (.const (.int .i64 1))⟩,
    ⟨(some 73), none, .mov (.tmp 114)⟩]

/-- live: [0, 1, 2, 6, 11, 71, 72, 73] -/
def f26l1 : ACode := (.seq (.ops f26r15)
  (.keep [0, 1, 2, 6, 11, 71, 72, 73, 74] (.seq (.cond (.tmp 74) .skip (.exit 2))
  (.keep [0, 1, 2, 6, 11, 71, 72, 73] (.seq (.block 3 (.seq (.ops f26r16)
  (.keep [0, 1, 2, 6, 11, 13, 71, 72, 73] (.seq (.ops f26r17)
  (.keep [0, 1, 2, 6, 11, 13, 14, 71, 72, 73] (.seq (.draw f26r18 [(0, 0, false), (0, 0, false), (0, 0, false), (0, 0, false), (0, 0, false), (0, 0, false), (0, 0, false), (0, 0, false), (0, 0, false), (0, 0, false), (0, 0, false), (0, 0, false), (0, 0, false), (0, 0, false), (0, 0, false), (0, 0, false), (0, 0, false), (0, 0, false), (0, 0, false), (0, 0, false), (0, 0, false), (0, 0, false), (0, 0, false), (0, 0, false), (0, 0, false), (0, 0, false), (0, 0, false), (0, 0, false), (0, 0, false)])
  (.keep [0, 1, 2, 6, 11, 13, 71, 72, 73, 112] (.cond (.tmp 112) (.keep [0, 1, 2, 6, 13, 71, 72, 73] (.ops f26r19)) .skip))))))))
  (.keep [0, 1, 2, 6, 11, 71, 72, 73] (.ops f26r20)))))))

def f26r22 : List AInstr := [
    ⟨(some 115), none, .mov (.tmp 0)⟩,
    ⟨(some 116), none, .nilCheck (.tmp 115)⟩,
    ⟨(some 117), none, .fieldAddr 0 (.tmp 116)⟩,
    ⟨(some 118), none, .load none (.tmp 117)⟩,
    ⟨(some 119), none, .mov (.tmp 11)⟩,
    ⟨(some 120), none, .indexAddr 10 (.tmp 118) (.tmp 119)⟩,
    ⟨(some 121), none, .load (some 10) (.tmp 120)⟩,
    ⟨(some 15), none, .alloc [.int .i64 0, .int .i64 0, .slice none 0 0, .int .i64 0, .int .i64 0, .int .i64 0, .int .i64 0, .int .i64 0, .int .i64 0, .slice none 0 0]⟩,
    ⟨none, none, .store 10 (.tmp 15) (.tmp 121)⟩]

def f26r23 : List AInstr := [
    ⟨(some 122), none, .mov (.tmp 6)⟩,
    ⟨(some 123), none, .nilCheck (.tmp 122)⟩,
    ⟨(some 124), none, .fieldAddr 8 (.tmp 123)⟩,
    ⟨(some 125), none, .load none (.tmp 124)⟩,
    ⟨(some 126), none, .fieldAddr 5 (.tmp 15)⟩,
    ⟨(some 127), none, .load none (.tmp 126)⟩,
    ⟨(some 128), none, .ibin .mul (.tmp 127) (.const (.int .i64 27720))⟩,
    ⟨(some 129), none, .ibin .add (.tmp 125) (.tmp 128)⟩,
    ⟨(some 130), none, .nilCheck (.tmp 122)⟩,
    ⟨(some 131), none, .fieldAddr 8 (.tmp 130)⟩,
    ⟨none, none, .store 1 (.tmp 131) (.tmp 129)⟩]

def f26r24 : List AInstr := [
    ⟨(some 132), none, .mov (.tmp 0)⟩,
    ⟨(some 133), none, .mov (.tmp 1)⟩,
    ⟨(some 134), none, .fieldAddr 4 (.tmp 15)⟩,
    ⟨(some 135), none, .load none (.tmp 134)⟩,
    ⟨(some 136), none, .fieldAddr 5 (.tmp 15)⟩,
    ⟨(some 137), none, .load none (.tmp 136)⟩,
    ⟨(some 138), none, .mov (.tmp 2)⟩,
    ⟨(some 139), none, .callF 25 [.tmp 132, .tmp 133, .tmp 135, .tmp 137, .tmp 138]⟩]

def f26b : ACode := (.seq (.ops f26r0)
  (.keep [0, 1, 2, 6] (.seq (.ops f26r1)
  (.keep [0, 1, 2, 6, 7] (.seq (.seq (.ops f26r2)
  (.keep [0, 1, 2, 6, 7, 25, 26, 27] (.block 0 (.loop f26l0))))
  (.keep [0, 1, 2, 6, 7] (.seq (.seq (.ops f26r10)
  (.keep [0, 1, 2, 6, 7, 55] (.cond (.tmp 55) (.keep [6] (.seq (.ops f26r11)
  (.keep [] .ret))) .skip)))
  (.keep [0, 1, 2, 6, 7] (.seq (.ops f26r12)
  (.keep [0, 1, 2, 6] (.seq (.ops f26r13)
  (.keep [0, 1, 2, 6, 11] (.seq (.seq (.ops f26r14)
  (.keep [0, 1, 2, 6, 11, 71, 72, 73] (.block 2 (.loop f26l1))))
  (.keep [0, 1, 2, 6, 11] (.seq (.ops f26r22)
  (.keep [0, 1, 2, 6, 15] (.seq (.draw f26r23 [(0, 0, false), (0, 0, false), (0, 0, false), (0, 0, false), (0, 0, false), (0, 0, false), (0, 0, false), (0, 0, false), (0, 0, false), (0, 0, false), (0, 0, true)])
  (.keep [0, 1, 2, 15] (.ops f26r24)))))))))))))))))))

def f26 : AFn := ⟨140, [], f26b⟩

theorem f26_ok : compFn Try.prog 26 = some f26.strip := by kernel_rfl

/- function 27: (*weirhouse/wfq.node).pick; parameters 1; operations that are not compiled: 0 -/
def f27r0 : List AInstr := [
    ⟨(some 2), none, .mov (.const (.int .i64 0))⟩]

def f27r1 : List AInstr := [
    ⟨(some 3), none, .mov (.const (.int .i64 (-1)))⟩]

def f27r2 : List AInstr := [
    ⟨(some 9), none, .mov (.tmp 0)⟩,
    ⟨(some 10), none, .nilCheck (.tmp 9)⟩,
    ⟨(some 11), none, .fieldAddr 1 (.tmp 10)⟩,
    ⟨(some 12), none, .load none (.tmp 11)⟩,
    ⟨(some 13), none, .len (.tmp 12)⟩,
    ⟨(some 14), none, .mov (.const (.int .i64 0))⟩]

def f27r3 : List AInstr := [
    ⟨(some 15), none, .ibin .lss (.tmp 14) (.tmp 13)⟩]

def f27r4 : List AInstr := [
    ⟨(some 16), none, .indexAddr 3 (.tmp 12) (.tmp 14)⟩,
    ⟨(some 17), none, .load (some 3) (.tmp 16)⟩,
    ⟨(some 5), none, .alloc [.slice none 0 0, .int .i64 0, .int .i64 0]⟩,
    ⟨none, none, .store 3 (.tmp 5) (.tmp 17)⟩]

def f27r5 : List AInstr := [
    ⟨(some 18), none, .fieldAddr 0 (.tmp 5)⟩,
    ⟨(some 19), none, .load none (.tmp 18)⟩,
    ⟨(some 20), none, .len (.tmp 19)⟩,
    ⟨(some 21), none, .ibin .gtr (.tmp 20) (.const (.int .i64 0))⟩,
    ⟨(some 22), none, .mov (.tmp 21)⟩,
    ⟨(some 23), (some (22, true)), .mov (.tmp 3)⟩,
    ⟨(some 24), (some (22, true)), .ibin .lss (.tmp 23) (.const (.int .i64 0))⟩,
    ⟨(some 25), (some (22, true)), .mov (.tmp 24)⟩,
    ⟨(some 26), (some (25, false)), .fieldAddr 1 (.tmp 5)⟩,
    ⟨(some 27), (some (25, false)), .load none (.tmp 26)⟩,
    ⟨(some 28), (some (25, false)), .mov (.tmp 3)⟩,
    ⟨(some 29), (some (25, false)), .ibin .lss (.tmp 27) (.tmp 28)⟩,
    ⟨(some 30), (some (22, true)), .pick (.tmp 25) (.const (.bool true)) (.tmp 29)⟩,
    ⟨(some 31), none, .pick (.tmp 22) (.tmp 30) (.const (.bool false))⟩]

def f27r6 : List AInstr := [
    ⟨(some 32), none, .fieldAddr 1 (.tmp 5)⟩,
    ⟨(some 33), none, .load none (.tmp 32)⟩,
    ⟨(some 3), none, .mov (.tmp 33)⟩]

def f27r7 : List AInstr := [
    ⟨(some 34), none, .ibin .add (.tmp 14) (.const (.int .i64 1))⟩,
    ⟨(some 14), none, .mov (.tmp 34)⟩]

/-- live: [0, 3, 12, 13, 14] -/
def f27l0 : ACode := (.seq (.ops f27r3)
  (.keep [0, 3, 12, 13, 14, 15] (.seq (.cond (.tmp 15) .skip (.exit 0))
  (.keep [0, 3, 12, 13, 14] (.seq (.block 1 (.seq (.ops f27r4)
  (.keep [0, 3, 5, 12, 13, 14] (.seq (.ops f27r5)
  (.keep [0, 3, 5, 12, 13, 14, 31] (.cond (.tmp 31) (.keep [0, 5, 12, 13, 14] (.ops f27r6)) .skip))))))
  (.keep [0, 3, 12, 13, 14] (.ops f27r7)))))))

def f27r9 : List AInstr := [
    ⟨(some 35), none, .mov (.tmp 3)⟩,
    ⟨(some 36), none, .ibin .lss (.tmp 35) (.const (.int .i64 0))⟩]

def f27r10 : List AInstr := [
    ⟨(some 2), none, .mov (.const (.int .i64 (-1)))⟩]

def f27r11 : List AInstr := [
    ⟨(some 37), none, .mov (.tmp 0)⟩,
    ⟨(some 38), none, .mov (.tmp 0)⟩,
    ⟨(some 39), none, .nilCheck (.tmp 38)⟩,
    ⟨(some 40), none, .fieldAddr 3 (.tmp 39)⟩,
    ⟨(some 41), none, .load none (.tmp 40)⟩,
    ⟨(some 42), none, .mov (.tmp 3)⟩,
    ⟨(some 43), none, .minmax true [.tmp 41, .tmp 42]⟩,
    ⟨(some 44), none, .nilCheck (.tmp 37)⟩,
    ⟨(some 45), none, .fieldAddr 3 (.tmp 44)⟩,
    ⟨none, none, .store 1 (.tmp 45) (.tmp 43)⟩]

def f27r12 : List AInstr := [
    ⟨(some 6), none, .mov (.const (.int .i64 (-1)))⟩]

def f27r13 : List AInstr := [
    ⟨(some 46), none, .mov (.tmp 0)⟩,
    ⟨(some 47), none, .nilCheck (.tmp 46)⟩,
    ⟨(some 48), none, .fieldAddr 1 (.tmp 47)⟩,
    ⟨(some 49), none, .load none (.tmp 48)⟩,
    ⟨(some 50), none, .len (.tmp 49)⟩,
    ⟨(some 51), none, .mov (.const (.int .i64 0))⟩]

def f27r14 : List AInstr := [
    ⟨(some 52), none, .ibin .lss (.tmp 51) (.tmp 50)⟩]

def f27r15 : List AInstr := [
    ⟨(some 53), none, .mov (.tmp 51)⟩,
    ⟨(some 54), none, .indexAddr 3 (.tmp 49) (.tmp 51)⟩,
    ⟨(some 55), none, .load (some 3) (.tmp 54)⟩,
    ⟨(some 8), none, .alloc [.slice none 0 0, .int .i64 0, .int .i64 0]⟩,
    ⟨(some 7), none, .mov (.tmp 53)⟩,
    ⟨none, none, .store 3 (.tmp 8) (.tmp 55)⟩]

def f27r16 : List AInstr := [
    ⟨(some 56), none, .fieldAddr 0 (.tmp 8)⟩,
    ⟨(some 57), none, .load none (.tmp 56)⟩,
    ⟨(some 58), none, .len (.tmp 57)⟩,
    ⟨(some 59), none, .ibin .gtr (.tmp 58) (.const (.int .i64 0))⟩,
    ⟨(some 60), none, .mov (.tmp 59)⟩,
    ⟨(some 61), (some (60, true)), .fieldAddr 1 (.tmp 8)⟩,
    ⟨(some 62), (some (60, true)), .load none (.tmp 61)⟩,
    ⟨(some 63), (some (60, true)), .mov (.tmp 0)⟩,
    ⟨(some 64), (some (60, true)), .nilCheck (.tmp 63)⟩,
    ⟨(some 65), (some (60, true)), .fieldAddr 3 (.tmp 64)⟩,
    ⟨(some 66), (some (60, true)), .load none (.tmp 65)⟩,
    ⟨(some 67), (some (60, true)), .ibin .leq (.tmp 62) (.tmp 66)⟩,
    ⟨(some 68), none, .pick (.tmp 60) (.tmp 67) (.const (.bool false))⟩,
    ⟨(some 69), none, .mov (.tmp 68)⟩,
    ⟨(some 70), (some (69, true)), .mov (.tmp 6)⟩,
    ⟨(some 71), (some (69, true)), .ibin .lss (.tmp 70) (.const (.int .i64 0))⟩,
    ⟨(some 72), (some (69, true)), .mov (.tmp 71)⟩,
    ⟨(some 73), (some (72, false)), .fieldAddr 2 (.tmp 8)⟩,
    ⟨(some 74), (some (72, false)), .load none (.tmp 73)⟩,
    ⟨(some 75), (some (72, false)), .mov (.tmp 0)⟩,
    ⟨(some 76), (some (72, false)), .nilCheck (.tmp 75)⟩,
    ⟨(some 77), (some (72, false)), .fieldAddr 1 (.tmp 76)⟩,
    ⟨(some 78), (some (72, false)), .load none (.tmp 77)⟩,
    ⟨(some 79), (some (72, false)), .mov (.tmp 6)⟩,
    ⟨(some 80), (some (72, false)), .indexAddr 3 (.tmp 78) (.tmp 79)⟩,
    ⟨(some 81), (some (72, false)), .fieldAddr 2 (.tmp 80)⟩,
    ⟨(some 82), (some (72, false)), .load none (.tmp 81)⟩,
    ⟨(some 83), (some (72, false)), .ibin .lss (.tmp 74) (.tmp 82)⟩,
    ⟨(some 84), (some (69, true)), .pick (.tmp 72) (.const (.bool true)) (.tmp 83)⟩,
    ⟨(some 85), none, .pick (.tmp 69) (.tmp 84) (.const (.bool false))⟩]

def f27r17 : List AInstr := [
    ⟨(some 86), none, .mov (.tmp 7)⟩,
    ⟨(some 6), none, .mov (.tmp 86)⟩]

def f27r18 : List AInstr := [
    ⟨(some 87), none, .ibin .add (.tmp 51) (.const (.int .i64 1))⟩,
    ⟨(some 51), none, .mov (.tmp 87)⟩]

/-- live: [0, 6, 49, 50, 51] -/
def f27l1 : ACode := (.seq (.ops f27r14)
  (.keep [0, 6, 49, 50, 51, 52] (.seq (.cond (.tmp 52) .skip (.exit 2))
  (.keep [0, 6, 49, 50, 51] (.seq (.block 3 (.seq (.ops f27r15)
  (.keep [0, 6, 7, 8, 49, 50, 51] (.seq (.draw f27r16 [(0, 0, false), (0, 0, false), (0, 0, false), (0, 0, false), (0, 0, false), (0, 0, false), (0, 0, false), (0, 0, false), (0, 0, false), (0, 0, false), (0, 0, false), (0, 0, false), (0, 0, false), (0, 0, false), (0, 0, false), (0, 0, false), (0, 0, false), (0, 0, false), (0, 0, false), (0, 0, false), (0, 0, false), (0, 0, false), (0, 0, false), (0, 0, false), (0, 0, false), (0, 0, false), (0, 0, false), (0, 0, false), (0, 0, false), (0, 0, false)])
  (.keep [0, 6, 7, 49, 50, 51, 85] (.cond (.tmp 85) (.keep [0, 7, 49, 50, 51] (.ops f27r17)) .skip))))))
  (.keep [0, 6, 49, 50, 51] (.ops f27r18)))))))

def f27r20 : List AInstr := [
    ⟨(some 88), none, .mov (.tmp 6)⟩,
    ⟨(some 2), none, .mov (.tmp 88)⟩]

def f27b : ACode := (.seq (.ops f27r0)
  (.keep [0] (.seq (.ops f27r1)
  (.keep [0, 3] (.seq (.seq (.ops f27r2)
  (.keep [0, 3, 12, 13, 14] (.block 0 (.loop f27l0))))
  (.keep [0, 3] (.seq (.seq (.ops f27r9)
  (.keep [0, 3, 36] (.cond (.tmp 36) (.keep [] (.seq (.ops f27r10)
  (.keep [2] .ret))) .skip)))
  (.keep [0, 3] (.seq (.ops f27r11)
  (.keep [0] (.seq (.ops f27r12)
  (.keep [0, 6] (.seq (.seq (.ops f27r13)
  (.keep [0, 6, 49, 50, 51] (.block 2 (.loop f27l1))))
  (.keep [6] (.seq (.ops f27r20)
  (.keep [2] .ret))))))))))))))))

def f27 : AFn := ⟨89, [.tmp 2], f27b⟩

theorem f27_ok : compFn Try.prog 27 = some f27.strip := by kernel_rfl

/- function 28: (*weirhouse/wfq.node).head; parameters 3; operations that are not compiled: 0 -/
def f28r0 : List AInstr := [
    ⟨(some 7), none, .mov (.tmp 0)⟩,
    ⟨(some 8), none, .nilCheck (.tmp 7)⟩,
    ⟨(some 9), none, .fieldAddr 1 (.tmp 8)⟩,
    ⟨(some 10), none, .load none (.tmp 9)⟩,
    ⟨(some 11), none, .mov (.tmp 1)⟩,
    ⟨(some 12), none, .indexAddr 3 (.tmp 10) (.tmp 11)⟩,
    ⟨(some 6), none, .mov (.tmp 12)⟩]

def f28r1 : List AInstr := [
    ⟨(some 13), none, .mov (.tmp 6)⟩,
    ⟨(some 14), none, .mov (.tmp 2)⟩,
    ⟨(some 15), none, .nilCheck (.tmp 13)⟩,
    ⟨(some 16), none, .fieldAddr 1 (.tmp 15)⟩,
    ⟨none, none, .store 1 (.tmp 16) (.tmp 14)⟩]

def f28r2 : List AInstr := [
    ⟨(some 17), none, .mov (.tmp 6)⟩,
    ⟨(some 18), none, .mov (.tmp 2)⟩,
    ⟨(some 19), none, .mov (.tmp 6)⟩,
    ⟨(some 20), none, .nilCheck (.tmp 19)⟩,
    ⟨(some 21), none, .fieldAddr 0 (.tmp 20)⟩,
    ⟨(some 22), none, .load none (.tmp 21)⟩,
    ⟨(some 23), none, .indexAddr 1 (.tmp 22) (.const (.int .i64 0))⟩,
    ⟨(some 24), none, .load none (.tmp 23)⟩,
    ⟨(some 25), none, .mov (.tmp 0)⟩,
    ⟨(some 26), none, .nilCheck (.tmp 25)⟩,
    ⟨(some 27), none, .fieldAddr 0 (.tmp 26)⟩,
    ⟨(some 28), none, .load none (.tmp 27)⟩,
    ⟨(some 29), none, .mov (.tmp 1)⟩,
    ⟨(some 30), none, .indexAddr 1 (.tmp 28) (.tmp 29)⟩,
    ⟨(some 31), none, .load none (.tmp 30)⟩,
    ⟨(some 32), none, .ibin .quo (.const (.int .i64 27720)) (.tmp 31)⟩,
    ⟨(some 33), none, .ibin .mul (.tmp 24) (.tmp 32)⟩,
    ⟨(some 34), none, .mov (.tmp 0)⟩,
    ⟨(some 35), none, .nilCheck (.tmp 34)⟩,
    ⟨(some 36), none, .fieldAddr 2 (.tmp 35)⟩,
    ⟨(some 37), none, .load none (.tmp 36)⟩,
    ⟨(some 38), none, .ibin .mul (.tmp 33) (.tmp 37)⟩,
    ⟨(some 39), none, .ibin .add (.tmp 18) (.tmp 38)⟩,
    ⟨(some 40), none, .nilCheck (.tmp 17)⟩,
    ⟨(some 41), none, .fieldAddr 2 (.tmp 40)⟩,
    ⟨none, none, .store 1 (.tmp 41) (.tmp 39)⟩]

def f28b : ACode := (.seq (.ops f28r0)
  (.keep [0, 1, 2, 6] (.seq (.ops f28r1)
  (.keep [0, 1, 2, 6] (.draw f28r2 [(0, 0, false), (0, 0, false), (0, 0, false), (0, 0, false), (0, 0, false), (0, 0, false), (0, 0, false), (0, 0, false), (0, 0, false), (0, 0, false), (0, 0, false), (0, 0, false), (0, 0, false), (0, 0, false), (0, 0, false), (0, 0, false), (0, 0, false), (0, 0, false), (0, 0, false), (0, 0, false), (0, 0, false), (0, 0, false), (0, 0, false), (0, 0, false), (0, 0, false), (0, 0, true)])))))

def f28 : AFn := ⟨42, [], f28b⟩

theorem f28_ok : compFn Try.prog 28 = some f28.strip := by kernel_rfl

/- function 30: slices.rotateRight[int]; parameters 2; operations that are not compiled: 0 -/
def f30r0 : List AInstr := [
    ⟨(some 4), none, .mov (.tmp 0)⟩,
    ⟨(some 5), none, .mov (.tmp 0)⟩,
    ⟨(some 6), none, .len (.tmp 5)⟩,
    ⟨(some 7), none, .mov (.tmp 1)⟩,
    ⟨(some 8), none, .ibin .sub (.tmp 6) (.tmp 7)⟩,
    ⟨(some 9), none, .callF 32 [.tmp 4, .tmp 8]⟩]

def f30b : ACode := (.ops f30r0)

def f30 : AFn := ⟨10, [], f30b⟩

theorem f30_ok : compFn Try.prog 30 = some f30.strip := by kernel_rfl

/- function 31: slices.IndexFunc[[]weirhouse/api.Node,weirhouse/api.Node]; parameters 2; operations that are not compiled: 0 -/
def f31r0 : List AInstr := [
    ⟨(some 4), none, .mov (.const (.int .i64 0))⟩]

def f31r1 : List AInstr := [
    ⟨(some 6), none, .mov (.tmp 0)⟩,
    ⟨(some 7), none, .len (.tmp 6)⟩,
    ⟨(some 8), none, .mov (.const (.int .i64 0))⟩]

def f31r2 : List AInstr := [
    ⟨(some 9), none, .ibin .lss (.tmp 8) (.tmp 7)⟩]

def f31r3 : List AInstr := [
    ⟨(some 10), none, .mov (.tmp 8)⟩,
    ⟨(some 5), none, .mov (.tmp 10)⟩]

def f31r4 : List AInstr := [
    ⟨(some 11), none, .mov (.tmp 1)⟩,
    ⟨(some 12), none, .mov (.tmp 0)⟩,
    ⟨(some 13), none, .mov (.tmp 5)⟩,
    ⟨(some 14), none, .indexAddr 2 (.tmp 12) (.tmp 13)⟩,
    ⟨(some 15), none, .load (some 2) (.tmp 14)⟩,
    ⟨(some 16), none, .callV (.tmp 11) [.tmp 15]⟩]

def f31r5 : List AInstr := [
    ⟨(some 17), none, .mov (.tmp 5)⟩,
    ⟨(some 4), none, .mov (.tmp 17)⟩]

def f31r6 : List AInstr := [
    ⟨(some 18), none, .ibin .add (.tmp 8) (.const (.int .i64 1))⟩,
    ⟨(some 8), none, .mov (.tmp 18)⟩]

/-- live: [0, 1, 7, 8] -/
def f31l0 : ACode := (.seq (.ops f31r2)
  (.keep [0, 1, 7, 8, 9] (.seq (.cond (.tmp 9) .skip (.exit 0))
  (.keep [0, 1, 7, 8] (.seq (.block 1 (.seq (.ops f31r3)
  (.keep [0, 1, 5, 7, 8] (.seq (.ops f31r4)
  (.keep [0, 1, 5, 7, 8, 16] (.cond (.tmp 16) (.keep [5] (.seq (.ops f31r5)
  (.keep [4] .ret))) .skip))))))
  (.keep [0, 1, 7, 8] (.ops f31r6)))))))

def f31r8 : List AInstr := [
    ⟨(some 4), none, .mov (.const (.int .i64 (-1)))⟩]

def f31b : ACode := (.seq (.ops f31r0)
  (.keep [0, 1] (.seq (.seq (.ops f31r1)
  (.keep [0, 1, 7, 8] (.block 0 (.loop f31l0))))
  (.keep [] (.seq (.ops f31r8)
  (.keep [4] .ret))))))

def f31 : AFn := ⟨19, [.tmp 4], f31b⟩

theorem f31_ok : compFn Try.prog 31 = some f31.strip := by kernel_rfl

/- function 32: slices.rotateLeft[int]; parameters 2; operations that are not compiled: 0 -/
def f32r0 : List AInstr := [
    ⟨(some 4), none, .mov (.tmp 0)⟩,
    ⟨(some 5), none, .mov (.tmp 1)⟩,
    ⟨(some 6), none, .slice 1 (.tmp 4) none (some (.tmp 5)) none⟩,
    ⟨(some 7), none, .callF 33 [.tmp 6]⟩]

def f32r1 : List AInstr := [
    ⟨(some 8), none, .mov (.tmp 0)⟩,
    ⟨(some 9), none, .mov (.tmp 1)⟩,
    ⟨(some 10), none, .slice 1 (.tmp 8) (some (.tmp 9)) none none⟩,
    ⟨(some 11), none, .callF 33 [.tmp 10]⟩]

def f32r2 : List AInstr := [
    ⟨(some 12), none, .mov (.tmp 0)⟩,
    ⟨(some 13), none, .callF 33 [.tmp 12]⟩]

def f32b : ACode := (.seq (.ops f32r0)
  (.keep [0, 1] (.seq (.ops f32r1)
  (.keep [0] (.ops f32r2)))))

def f32 : AFn := ⟨14, [], f32b⟩

theorem f32_ok : compFn Try.prog 32 = some f32.strip := by kernel_rfl

/- function 33: slices.Reverse[[]int,int]; parameters 1; operations that are not compiled: 0 -/
def f33r0 : List AInstr := [
    ⟨(some 4), none, .mov (.tmp 0)⟩,
    ⟨(some 5), none, .len (.tmp 4)⟩,
    ⟨(some 6), none, .ibin .sub (.tmp 5) (.const (.int .i64 1))⟩,
    ⟨(some 2), none, .mov (.const (.int .i64 0))⟩,
    ⟨(some 3), none, .mov (.tmp 6)⟩]

def f33r1 : List AInstr := [
    ⟨(some 7), none, .mov (.tmp 2)⟩,
    ⟨(some 8), none, .mov (.tmp 3)⟩,
    ⟨(some 9), none, .ibin .lss (.tmp 7) (.tmp 8)⟩]

def f33r2 : List AInstr := [
    ⟨(some 14), none, .mov (.tmp 0)⟩,
    ⟨(some 15), none, .mov (.tmp 2)⟩,
    ⟨(some 16), none, .mov (.tmp 0)⟩,
    ⟨(some 17), none, .mov (.tmp 3)⟩,
    ⟨(some 18), none, .mov (.tmp 0)⟩,
    ⟨(some 19), none, .mov (.tmp 3)⟩,
    ⟨(some 20), none, .indexAddr 1 (.tmp 18) (.tmp 19)⟩,
    ⟨(some 21), none, .load none (.tmp 20)⟩,
    ⟨(some 22), none, .mov (.tmp 0)⟩,
    ⟨(some 23), none, .mov (.tmp 2)⟩,
    ⟨(some 24), none, .indexAddr 1 (.tmp 22) (.tmp 23)⟩,
    ⟨(some 25), none, .load none (.tmp 24)⟩,
    ⟨(some 26), none, .indexAddr 1 (.tmp 14) (.tmp 15)⟩,
    ⟨none, none, .store 1 (.tmp 26) (.tmp 21)⟩,
    ⟨(some 27), none, .indexAddr 1 (.tmp 16) (.tmp 17)⟩,
    ⟨none, none, .store 1 (.tmp 27) (.tmp 25)⟩]

def f33r3 : List AInstr := [
    ⟨(some 10), none, .mov (.tmp 2)⟩,
    ⟨(some 11), none, .ibin .add (.tmp 10) (.const (.int .i64 1))⟩,
    ⟨(some 12), none, .mov (.tmp 3)⟩,
    ⟨(some 13), none, .ibin .sub (.tmp 12) (.const (.int .i64 1))⟩,
    ⟨(some 2), none, .mov (.tmp 11)⟩,
    ⟨(some 3), none, .mov (.tmp 13)⟩]

/-- live: [0, 2, 3] -/
def f33l0 : ACode := (.seq (.seq (.ops f33r1)
  (.keep [0, 2, 3, 9] (.cond (.tmp 9) .skip (.exit 0))))
  (.keep [0, 2, 3] (.seq (.block 1 (.draw f33r2 [(0, 0, false), (0, 0, false), (0, 1, false), (0, 1, false), (0, 0, false), (0, 0, false), (0, 0, false), (0, 0, false), (0, 0, false), (0, 0, false), (0, 0, false), (0, 0, false), (0, 0, false), (0, 0, true), (1, 1, false), (1, 0, true)]))
  (.keep [0, 2, 3] (.ops f33r3)))))

def f33b : ACode := (.seq (.ops f33r0)
  (.keep [0, 2, 3] (.block 0 (.loop f33l0))))

def f33 : AFn := ⟨28, [], f33b⟩

theorem f33_ok : compFn Try.prog 33 = some f33.strip := by kernel_rfl

end Go.Proofs.Ytknfaoonjmlncaa
