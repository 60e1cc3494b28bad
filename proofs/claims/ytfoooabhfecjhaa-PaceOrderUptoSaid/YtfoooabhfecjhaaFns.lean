/-
  The functions of this seat as abstract code. Printed by a program of this claim's writer.
-/
import Derived.Test.YtfoooabhfecjhaaChecked
import Derived.Test.YtfoooabhfecjhaaAmS
import Derived.KernelRfl
namespace Go.Proofs.Ytfoooabhfecjhaa
open Go Go.Am

/- function 3: weirhouse/weirhousekeep.PaceBound; parameters 4; operations that are not compiled: 0 -/
def f3r0 : List AInstr := [
    ⟨(some 8), none, .mov (.const (.bool false))⟩]

def f3r1 : List AInstr := [
    ⟨(some 18), none, .callF 8 []⟩,
    ⟨(some 19), none, .un .not (.tmp 18)⟩]

def f3r2 : List AInstr := [
    ⟨(some 8), none, .mov (.const (.bool false))⟩]

def f3r3 : List AInstr := [
    ⟨(some 21), none, .mov (.tmp 0)⟩,
    ⟨(some 22), none, .mov (.tmp 1)⟩,
    ⟨(some 23), none, .mov (.tmp 2)⟩,
    ⟨(some 24), none, .mov (.tmp 3)⟩,
    ⟨(some 25), none, .callF 9 [.tmp 21, .tmp 22, .tmp 23, .tmp 24]⟩,
    ⟨(some 20), none, .mov (.tmp 25)⟩,
    ⟨(some 26), none, .extract 0 (.tmp 20)⟩,
    ⟨(some 27), none, .extract 1 (.tmp 20)⟩,
    ⟨(some 28), none, .extract 2 (.tmp 20)⟩,
    ⟨(some 10), none, .alloc [.slice none 0 0, .int .i64 0, .int .i64 0, .int .i64 0, .int .i64 0, .int .i64 0, .int .i64 0, .int .i64 0, .int .i64 0, .int .i64 0]⟩,
    ⟨(some 9), none, .mov (.tmp 26)⟩,
    ⟨none, none, .store 10 (.tmp 10) (.tmp 27)⟩,
    ⟨(some 11), none, .mov (.tmp 28)⟩]

def f3r4 : List AInstr := [
    ⟨(some 29), none, .mov (.tmp 11)⟩,
    ⟨(some 30), none, .ibin .neq (.tmp 29) (.const (.int .i64 0))⟩,
    ⟨(some 31), none, .mov (.tmp 30)⟩,
    ⟨(some 32), (some (31, false)), .mov (.tmp 9)⟩,
    ⟨(some 33), (some (31, false)), .len (.tmp 32)⟩,
    ⟨(some 34), (some (31, false)), .mov (.tmp 3)⟩,
    ⟨(some 35), (some (31, false)), .len (.tmp 34)⟩,
    ⟨(some 36), (some (31, false)), .ibin .neq (.tmp 33) (.tmp 35)⟩,
    ⟨(some 37), none, .pick (.tmp 31) (.const (.bool true)) (.tmp 36)⟩]

def f3r5 : List AInstr := [
    ⟨(some 38), none, .mov (.tmp 11)⟩,
    ⟨(some 39), none, .ibin .neq (.tmp 38) (.const (.int .i64 0))⟩,
    ⟨(some 40), none, .mov (.tmp 39)⟩,
    ⟨(some 41), (some (40, true)), .mov (.tmp 9)⟩,
    ⟨(some 42), (some (40, true)), .len (.tmp 41)⟩,
    ⟨(some 43), (some (40, true)), .ibin .eql (.tmp 42) (.const (.int .i64 0))⟩,
    ⟨(some 44), none, .pick (.tmp 40) (.tmp 43) (.const (.bool false))⟩,
    ⟨(some 8), none, .mov (.tmp 44)⟩]

def f3r6 : List AInstr := [
    ⟨(some 45), none, .mov (.tmp 3)⟩,
    ⟨(some 46), none, .len (.tmp 45)⟩,
    ⟨(some 47), none, .minmax false [.tmp 46, .const (.int .i64 60)]⟩,
    ⟨(some 48), none, .mov (.const (.int .i64 0))⟩]

def f3r7 : List AInstr := [
    ⟨(some 49), none, .ibin .lss (.tmp 48) (.tmp 47)⟩]

def f3r8 : List AInstr := [
    ⟨(some 50), none, .mov (.tmp 48)⟩,
    ⟨(some 12), none, .mov (.tmp 50)⟩]

def f3r9 : List AInstr := [
    ⟨(some 13), none, .mov (.const (.int .i64 0))⟩,
    ⟨(some 14), none, .mov (.const (.int .i64 0))⟩]

def f3r10 : List AInstr := [
    ⟨(some 51), none, .mov (.tmp 12)⟩,
    ⟨(some 15), none, .mov (.tmp 51)⟩]

def f3r11 : List AInstr := [
    ⟨(some 52), none, .mov (.tmp 15)⟩,
    ⟨(some 53), none, .mov (.tmp 3)⟩,
    ⟨(some 54), none, .len (.tmp 53)⟩,
    ⟨(some 55), none, .ibin .lss (.tmp 52) (.tmp 54)⟩]

def f3r12 : List AInstr := [
    ⟨(some 58), none, .mov (.tmp 3)⟩,
    ⟨(some 59), none, .mov (.tmp 15)⟩,
    ⟨(some 60), none, .indexAddr 2 (.tmp 58) (.tmp 59)⟩,
    ⟨(some 61), none, .fieldAddr 0 (.tmp 60)⟩,
    ⟨(some 62), none, .load none (.tmp 61)⟩,
    ⟨(some 63), none, .ibin .eql (.tmp 62) (.const (.int .i64 2))⟩,
    ⟨(some 64), none, .mov (.tmp 63)⟩,
    ⟨(some 65), (some (64, true)), .mov (.tmp 9)⟩,
    ⟨(some 66), (some (64, true)), .mov (.tmp 15)⟩,
    ⟨(some 67), (some (64, true)), .indexAddr 2 (.tmp 65) (.tmp 66)⟩,
    ⟨(some 68), (some (64, true)), .fieldAddr 0 (.tmp 67)⟩,
    ⟨(some 69), (some (64, true)), .load none (.tmp 68)⟩,
    ⟨(some 70), (some (64, true)), .ibin .eql (.tmp 69) (.const (.int .i64 0))⟩,
    ⟨(some 71), none, .pick (.tmp 64) (.tmp 70) (.const (.bool false))⟩]

def f3r13 : List AInstr := [
    ⟨(some 72), none, .mov (.tmp 14)⟩,
    ⟨(some 73), none, .mov (.tmp 3)⟩,
    ⟨(some 74), none, .mov (.tmp 15)⟩,
    ⟨(some 75), none, .indexAddr 2 (.tmp 73) (.tmp 74)⟩,
    ⟨(some 76), none, .fieldAddr 1 (.tmp 75)⟩,
    ⟨(some 77), none, .load none (.tmp 76)⟩,
    ⟨(some 78), none, .ibin .add (.tmp 72) (.tmp 77)⟩,
    ⟨(some 14), none, .mov (.tmp 78)⟩]

def f3r14 : List AInstr := [
    ⟨(some 79), none, .mov (.tmp 9)⟩,
    ⟨(some 80), none, .mov (.tmp 15)⟩,
    ⟨(some 81), none, .indexAddr 2 (.tmp 79) (.tmp 80)⟩,
    ⟨(some 82), none, .fieldAddr 1 (.tmp 81)⟩,
    ⟨(some 83), none, .load none (.tmp 82)⟩,
    ⟨(some 84), none, .len (.tmp 83)⟩,
    ⟨(some 85), none, .mov (.const (.int .i64 0))⟩]

def f3r15 : List AInstr := [
    ⟨(some 86), none, .ibin .lss (.tmp 85) (.tmp 84)⟩]

def f3r16 : List AInstr := [
    ⟨(some 87), none, .indexAddr 1 (.tmp 83) (.tmp 85)⟩,
    ⟨(some 88), none, .load none (.tmp 87)⟩,
    ⟨(some 17), none, .mov (.tmp 88)⟩]

def f3r17 : List AInstr := [
    ⟨(some 89), none, .mov (.tmp 13)⟩,
    ⟨(some 90), none, .mov (.tmp 17)⟩,
    ⟨(some 91), none, .ibin .add (.tmp 89) (.tmp 90)⟩,
    ⟨(some 13), none, .mov (.tmp 91)⟩]

def f3r18 : List AInstr := [
    ⟨(some 92), none, .ibin .add (.tmp 85) (.const (.int .i64 1))⟩,
    ⟨(some 85), none, .mov (.tmp 92)⟩]

/-- live: [0, 1, 2, 3, 9, 13, 14, 15, 47, 48, 83, 84, 85] -/
def f3l0 : ACode := (.seq (.ops f3r15)
  (.keep [0, 1, 2, 3, 9, 13, 14, 15, 47, 48, 83, 84, 85, 86] (.seq (.cond (.tmp 86) .skip (.exit 4))
  (.keep [0, 1, 2, 3, 9, 13, 14, 15, 47, 48, 83, 84, 85] (.seq (.block 5 (.seq (.ops f3r16)
  (.keep [0, 1, 2, 3, 9, 13, 14, 15, 17, 47, 48, 83, 84, 85] (.ops f3r17))))
  (.keep [0, 1, 2, 3, 9, 13, 14, 15, 47, 48, 83, 84, 85] (.ops f3r18)))))))

def f3r20 : List AInstr := [
    ⟨(some 93), none, .mov (.tmp 14)⟩,
    ⟨(some 94), none, .ibin .gtr (.tmp 93) (.const (.int .i64 1048576))⟩,
    ⟨(some 95), none, .mov (.tmp 94)⟩,
    ⟨(some 96), (some (95, false)), .mov (.tmp 14)⟩,
    ⟨(some 97), (some (95, false)), .ibin .lss (.tmp 96) (.const (.int .i64 0))⟩,
    ⟨(some 98), none, .pick (.tmp 95) (.const (.bool true)) (.tmp 97)⟩]

def f3r21 : List AInstr := [
    ⟨(some 99), none, .mov (.tmp 13)⟩,
    ⟨(some 100), none, .mov (.tmp 1)⟩,
    ⟨(some 101), none, .ibin .mul (.tmp 99) (.tmp 100)⟩,
    ⟨(some 102), none, .mov (.tmp 2)⟩,
    ⟨(some 103), none, .mov (.tmp 1)⟩,
    ⟨(some 104), none, .ibin .mul (.tmp 102) (.tmp 103)⟩,
    ⟨(some 105), none, .mov (.tmp 0)⟩,
    ⟨(some 106), none, .mov (.tmp 14)⟩,
    ⟨(some 107), none, .ibin .mul (.tmp 105) (.tmp 106)⟩,
    ⟨(some 108), none, .ibin .add (.tmp 104) (.tmp 107)⟩,
    ⟨(some 109), none, .ibin .gtr (.tmp 101) (.tmp 108)⟩]

def f3r22 : List AInstr := [
    ⟨(some 8), none, .mov (.const (.bool false))⟩]

def f3r23 : List AInstr := [
    ⟨(some 56), none, .mov (.tmp 15)⟩,
    ⟨(some 57), none, .ibin .add (.tmp 56) (.const (.int .i64 1))⟩,
    ⟨(some 15), none, .mov (.tmp 57)⟩]

/-- live: [0, 1, 2, 3, 9, 13, 14, 15, 47, 48] -/
def f3l1 : ACode := (.seq (.seq (.ops f3r11)
  (.keep [0, 1, 2, 3, 9, 13, 14, 15, 47, 48, 55] (.cond (.tmp 55) .skip (.exit 2))))
  (.keep [0, 1, 2, 3, 9, 13, 14, 15, 47, 48] (.seq (.block 3 (.seq (.seq (.ops f3r12)
  (.keep [0, 1, 2, 3, 9, 13, 14, 15, 47, 48, 71] (.cond (.tmp 71) (.keep [0, 1, 2, 3, 9, 13, 14, 15, 47, 48] (.ops f3r13)) .skip)))
  (.keep [0, 1, 2, 3, 9, 13, 14, 15, 47, 48] (.seq (.seq (.ops f3r14)
  (.keep [0, 1, 2, 3, 9, 13, 14, 15, 47, 48, 83, 84, 85] (.block 4 (.loop f3l0))))
  (.keep [0, 1, 2, 3, 9, 13, 14, 15, 47, 48] (.seq (.seq (.ops f3r20)
  (.keep [0, 1, 2, 3, 9, 13, 14, 15, 47, 48, 98] (.cond (.tmp 98) (.exit 2) .skip)))
  (.keep [0, 1, 2, 3, 9, 13, 14, 15, 47, 48] (.seq (.ops f3r21)
  (.keep [0, 1, 2, 3, 9, 13, 14, 15, 47, 48, 109] (.cond (.tmp 109) (.keep [] (.seq (.ops f3r22)
  (.keep [8] .ret))) .skip))))))))))
  (.keep [0, 1, 2, 3, 9, 13, 14, 15, 47, 48] (.ops f3r23)))))

def f3r25 : List AInstr := [
    ⟨(some 110), none, .ibin .add (.tmp 48) (.const (.int .i64 1))⟩,
    ⟨(some 48), none, .mov (.tmp 110)⟩]

/-- live: [0, 1, 2, 3, 9, 47, 48] -/
def f3l2 : ACode := (.seq (.ops f3r7)
  (.keep [0, 1, 2, 3, 9, 47, 48, 49] (.seq (.cond (.tmp 49) .skip (.exit 0))
  (.keep [0, 1, 2, 3, 9, 47, 48] (.seq (.block 1 (.seq (.ops f3r8)
  (.keep [0, 1, 2, 3, 9, 12, 47, 48] (.seq (.ops f3r9)
  (.keep [0, 1, 2, 3, 9, 12, 13, 14, 47, 48] (.seq (.ops f3r10)
  (.keep [0, 1, 2, 3, 9, 13, 14, 15, 47, 48] (.block 2 (.loop f3l1)))))))))
  (.keep [0, 1, 2, 3, 9, 47, 48] (.ops f3r25)))))))

def f3r27 : List AInstr := [
    ⟨(some 8), none, .mov (.const (.bool true))⟩]

def f3b : ACode := (.seq (.ops f3r0)
  (.keep [0, 1, 2, 3] (.seq (.seq (.ops f3r1)
  (.keep [0, 1, 2, 3, 19] (.cond (.tmp 19) (.keep [] (.seq (.ops f3r2)
  (.keep [8] .ret))) .skip)))
  (.keep [0, 1, 2, 3] (.seq (.ops f3r3)
  (.keep [0, 1, 2, 3, 9, 11] (.seq (.seq (.ops f3r4)
  (.keep [0, 1, 2, 3, 9, 11, 37] (.cond (.tmp 37) (.keep [9, 11] (.seq (.ops f3r5)
  (.keep [8] .ret))) .skip)))
  (.keep [0, 1, 2, 3, 9] (.seq (.seq (.ops f3r6)
  (.keep [0, 1, 2, 3, 9, 47, 48] (.block 0 (.loop f3l2))))
  (.keep [] (.seq (.ops f3r27)
  (.keep [8] .ret))))))))))))

def f3 : AFn := ⟨111, [.tmp 8], f3b⟩

theorem f3_ok : compFn Try.prog 3 = some f3.strip := by kernel_rfl

/- function 4: weirhouse/weirhousekeep.PaceBusy; parameters 5; operations that are not compiled: 0 -/
def f4r0 : List AInstr := [
    ⟨(some 10), none, .mov (.const (.bool false))⟩]

def f4r1 : List AInstr := [
    ⟨(some 17), none, .callF 8 []⟩,
    ⟨(some 18), none, .un .not (.tmp 17)⟩]

def f4r2 : List AInstr := [
    ⟨(some 10), none, .mov (.const (.bool false))⟩]

def f4r3 : List AInstr := [
    ⟨(some 20), none, .mov (.tmp 0)⟩,
    ⟨(some 21), none, .mov (.tmp 1)⟩,
    ⟨(some 22), none, .mov (.tmp 2)⟩,
    ⟨(some 23), none, .mov (.tmp 3)⟩,
    ⟨(some 24), none, .callF 10 [.tmp 23]⟩,
    ⟨(some 25), none, .mov (.tmp 4)⟩,
    ⟨(some 26), none, .build [.int .i64 0, .int .i64 0] [(0, 1, (.const (.int .i64 3))), (1, 1, (.tmp 25))]⟩,
    ⟨(some 27), none, .buildSlice 2 1 [.int .i64 0, .int .i64 0] [(0, 2, (.tmp 26))]⟩,
    ⟨(some 28), none, .append 2 16 (.tmp 24) (.tmp 27)⟩,
    ⟨(some 29), none, .callF 9 [.tmp 20, .tmp 21, .tmp 22, .tmp 28]⟩,
    ⟨(some 19), none, .mov (.tmp 29)⟩,
    ⟨(some 30), none, .extract 0 (.tmp 19)⟩,
    ⟨(some 31), none, .extract 1 (.tmp 19)⟩,
    ⟨(some 32), none, .extract 2 (.tmp 19)⟩,
    ⟨(some 12), none, .alloc [.slice none 0 0, .int .i64 0, .int .i64 0, .int .i64 0, .int .i64 0, .int .i64 0, .int .i64 0, .int .i64 0, .int .i64 0, .int .i64 0]⟩,
    ⟨(some 11), none, .mov (.tmp 30)⟩,
    ⟨none, none, .store 10 (.tmp 12) (.tmp 31)⟩,
    ⟨(some 13), none, .mov (.tmp 32)⟩]

def f4r4 : List AInstr := [
    ⟨(some 33), none, .mov (.tmp 13)⟩,
    ⟨(some 34), none, .ibin .neq (.tmp 33) (.const (.int .i64 0))⟩,
    ⟨(some 35), none, .mov (.tmp 34)⟩,
    ⟨(some 36), (some (35, false)), .mov (.tmp 11)⟩,
    ⟨(some 37), (some (35, false)), .len (.tmp 36)⟩,
    ⟨(some 38), (some (35, false)), .mov (.tmp 3)⟩,
    ⟨(some 39), (some (35, false)), .len (.tmp 38)⟩,
    ⟨(some 40), (some (35, false)), .ibin .add (.tmp 39) (.const (.int .i64 1))⟩,
    ⟨(some 41), (some (35, false)), .ibin .neq (.tmp 37) (.tmp 40)⟩,
    ⟨(some 42), none, .pick (.tmp 35) (.const (.bool true)) (.tmp 41)⟩]

def f4r5 : List AInstr := [
    ⟨(some 43), none, .mov (.tmp 13)⟩,
    ⟨(some 44), none, .ibin .neq (.tmp 43) (.const (.int .i64 0))⟩,
    ⟨(some 10), none, .mov (.tmp 44)⟩]

def f4r6 : List AInstr := [
    ⟨(some 45), none, .mov (.tmp 11)⟩,
    ⟨(some 46), none, .mov (.tmp 3)⟩,
    ⟨(some 47), none, .len (.tmp 46)⟩,
    ⟨(some 48), none, .indexAddr 2 (.tmp 45) (.tmp 47)⟩,
    ⟨(some 49), none, .fieldAddr 0 (.tmp 48)⟩,
    ⟨(some 50), none, .load none (.tmp 49)⟩,
    ⟨(some 51), none, .ibin .neq (.tmp 50) (.const (.int .i64 0))⟩]

def f4r7 : List AInstr := [
    ⟨(some 52), none, .mov (.tmp 4)⟩,
    ⟨(some 53), none, .ibin .lss (.tmp 52) (.const (.int .i64 0))⟩,
    ⟨(some 54), none, .mov (.tmp 53)⟩,
    ⟨(some 55), (some (54, false)), .mov (.tmp 4)⟩,
    ⟨(some 56), (some (54, false)), .ibin .gtr (.tmp 55) (.const (.int .i64 1073741824))⟩,
    ⟨(some 57), none, .pick (.tmp 54) (.const (.bool true)) (.tmp 56)⟩,
    ⟨(some 10), none, .mov (.tmp 57)⟩]

def f4r8 : List AInstr := [
    ⟨(some 14), none, .mov (.const (.int .i64 0))⟩]

def f4r9 : List AInstr := [
    ⟨(some 58), none, .mov (.tmp 11)⟩,
    ⟨(some 59), none, .mov (.tmp 3)⟩,
    ⟨(some 60), none, .len (.tmp 59)⟩,
    ⟨(some 61), none, .indexAddr 2 (.tmp 58) (.tmp 60)⟩,
    ⟨(some 62), none, .fieldAddr 1 (.tmp 61)⟩,
    ⟨(some 63), none, .load none (.tmp 62)⟩,
    ⟨(some 64), none, .len (.tmp 63)⟩,
    ⟨(some 65), none, .mov (.const (.int .i64 0))⟩]

def f4r10 : List AInstr := [
    ⟨(some 66), none, .ibin .lss (.tmp 65) (.tmp 64)⟩]

def f4r11 : List AInstr := [
    ⟨(some 67), none, .indexAddr 1 (.tmp 63) (.tmp 65)⟩,
    ⟨(some 68), none, .load none (.tmp 67)⟩,
    ⟨(some 16), none, .mov (.tmp 68)⟩]

def f4r12 : List AInstr := [
    ⟨(some 69), none, .mov (.tmp 14)⟩,
    ⟨(some 70), none, .mov (.tmp 16)⟩,
    ⟨(some 71), none, .ibin .add (.tmp 69) (.tmp 70)⟩,
    ⟨(some 14), none, .mov (.tmp 71)⟩]

def f4r13 : List AInstr := [
    ⟨(some 72), none, .ibin .add (.tmp 65) (.const (.int .i64 1))⟩,
    ⟨(some 65), none, .mov (.tmp 72)⟩]

/-- live: [1, 4, 12, 14, 63, 64, 65] -/
def f4l0 : ACode := (.seq (.ops f4r10)
  (.keep [1, 4, 12, 14, 63, 64, 65, 66] (.seq (.cond (.tmp 66) .skip (.exit 0))
  (.keep [1, 4, 12, 14, 63, 64, 65] (.seq (.block 1 (.seq (.ops f4r11)
  (.keep [1, 4, 12, 14, 16, 63, 64, 65] (.ops f4r12))))
  (.keep [1, 4, 12, 14, 63, 64, 65] (.ops f4r13)))))))

def f4r15 : List AInstr := [
    ⟨(some 73), none, .mov (.tmp 14)⟩,
    ⟨(some 74), none, .mov (.tmp 4)⟩,
    ⟨(some 75), none, .ibin .leq (.tmp 73) (.tmp 74)⟩,
    ⟨(some 76), none, .mov (.tmp 75)⟩,
    ⟨(some 77), (some (76, true)), .fieldAddr 0 (.tmp 12)⟩,
    ⟨(some 78), (some (76, true)), .fieldAddr 0 (.tmp 77)⟩,
    ⟨(some 79), (some (76, true)), .load none (.tmp 78)⟩,
    ⟨(some 80), (some (76, true)), .len (.tmp 79)⟩,
    ⟨(some 81), (some (76, true)), .ibin .eql (.tmp 80) (.const (.int .i64 0))⟩,
    ⟨(some 82), (some (76, true)), .mov (.tmp 81)⟩,
    ⟨(some 83), (some (82, false)), .fieldAddr 0 (.tmp 12)⟩,
    ⟨(some 84), (some (82, false)), .fieldAddr 0 (.tmp 83)⟩,
    ⟨(some 85), (some (82, false)), .load none (.tmp 84)⟩,
    ⟨(some 86), (some (82, false)), .indexAddr 1 (.tmp 85) (.const (.int .i64 0))⟩,
    ⟨(some 87), (some (82, false)), .load none (.tmp 86)⟩,
    ⟨(some 88), (some (82, false)), .mov (.tmp 1)⟩,
    ⟨(some 89), (some (82, false)), .ibin .mul (.tmp 87) (.tmp 88)⟩,
    ⟨(some 90), (some (82, false)), .fieldAddr 4 (.tmp 12)⟩,
    ⟨(some 91), (some (82, false)), .fieldAddr 3 (.tmp 90)⟩,
    ⟨(some 92), (some (82, false)), .load none (.tmp 91)⟩,
    ⟨(some 93), (some (82, false)), .ibin .gtr (.tmp 89) (.tmp 92)⟩,
    ⟨(some 94), (some (76, true)), .pick (.tmp 82) (.const (.bool true)) (.tmp 93)⟩,
    ⟨(some 95), (some (76, true)), .mov (.tmp 94)⟩,
    ⟨(some 96), (some (95, false)), .fieldAddr 0 (.tmp 12)⟩,
    ⟨(some 97), (some (95, false)), .fieldAddr 0 (.tmp 96)⟩,
    ⟨(some 98), (some (95, false)), .load none (.tmp 97)⟩,
    ⟨(some 99), (some (95, false)), .indexAddr 1 (.tmp 98) (.const (.int .i64 0))⟩,
    ⟨(some 100), (some (95, false)), .load none (.tmp 99)⟩,
    ⟨(some 101), (some (95, false)), .mov (.tmp 4)⟩,
    ⟨(some 102), (some (95, false)), .mov (.tmp 14)⟩,
    ⟨(some 103), (some (95, false)), .ibin .sub (.tmp 101) (.tmp 102)⟩,
    ⟨(some 104), (some (95, false)), .ibin .gtr (.tmp 100) (.tmp 103)⟩,
    ⟨(some 105), (some (76, true)), .pick (.tmp 95) (.const (.bool true)) (.tmp 104)⟩,
    ⟨(some 106), none, .pick (.tmp 76) (.tmp 105) (.const (.bool false))⟩,
    ⟨(some 10), none, .mov (.tmp 106)⟩]

def f4b : ACode := (.seq (.ops f4r0)
  (.keep [0, 1, 2, 3, 4] (.seq (.seq (.ops f4r1)
  (.keep [0, 1, 2, 3, 4, 18] (.cond (.tmp 18) (.keep [] (.seq (.ops f4r2)
  (.keep [10] .ret))) .skip)))
  (.keep [0, 1, 2, 3, 4] (.seq (.ops f4r3)
  (.keep [1, 3, 4, 11, 12, 13] (.seq (.seq (.ops f4r4)
  (.keep [1, 3, 4, 11, 12, 13, 42] (.cond (.tmp 42) (.keep [13] (.seq (.ops f4r5)
  (.keep [10] .ret))) .skip)))
  (.keep [1, 3, 4, 11, 12] (.seq (.seq (.ops f4r6)
  (.keep [1, 3, 4, 11, 12, 51] (.cond (.tmp 51) (.keep [4] (.seq (.ops f4r7)
  (.keep [10] .ret))) .skip)))
  (.keep [1, 3, 4, 11, 12] (.seq (.ops f4r8)
  (.keep [1, 3, 4, 11, 12, 14] (.seq (.seq (.ops f4r9)
  (.keep [1, 4, 12, 14, 63, 64, 65] (.block 0 (.loop f4l0))))
  (.keep [1, 4, 12, 14] (.seq (.draw f4r15 [(0, 0, false), (0, 0, false), (0, 0, false), (0, 0, false), (0, 0, false), (0, 0, false), (0, 0, false), (0, 0, false), (0, 0, false), (0, 0, false), (0, 0, false), (0, 0, false), (0, 0, false), (0, 0, false), (0, 0, false), (0, 0, false), (0, 0, false), (0, 0, false), (0, 0, false), (0, 0, false), (0, 0, false), (0, 0, false), (0, 0, false), (0, 0, false), (0, 0, false), (0, 0, false), (0, 0, false), (0, 0, false), (0, 0, false), (0, 0, false), (0, 0, false), (0, 0, false), (0, 0, false), (0, 0, false), (0, 0, false)])
  (.keep [10] .ret))))))))))))))))

def f4 : AFn := ⟨107, [.tmp 10], f4b⟩

theorem f4_ok : compFn Try.prog 4 = some f4.strip := by kernel_rfl

/- function 5: weirhouse/weirhousekeep.PaceAll; parameters 4; operations that are not compiled: 0 -/
def f5r0 : List AInstr := [
    ⟨(some 8), none, .mov (.const (.bool false))⟩]

def f5r1 : List AInstr := [
    ⟨(some 16), none, .callF 8 []⟩,
    ⟨(some 17), none, .un .not (.tmp 16)⟩]

def f5r2 : List AInstr := [
    ⟨(some 8), none, .mov (.const (.bool false))⟩]

def f5r3 : List AInstr := [
    ⟨(some 18), none, .mov (.tmp 0)⟩,
    ⟨(some 19), none, .ibin .lss (.tmp 18) (.const (.int .i64 1))⟩,
    ⟨(some 20), none, .mov (.tmp 19)⟩,
    ⟨(some 21), (some (20, false)), .mov (.tmp 1)⟩,
    ⟨(some 22), (some (20, false)), .ibin .lss (.tmp 21) (.const (.int .i64 1))⟩,
    ⟨(some 23), none, .pick (.tmp 20) (.const (.bool true)) (.tmp 22)⟩,
    ⟨(some 24), none, .mov (.tmp 23)⟩,
    ⟨(some 25), (some (24, false)), .mov (.tmp 1)⟩,
    ⟨(some 26), (some (24, false)), .ibin .gtr (.tmp 25) (.const (.int .i64 1048576))⟩,
    ⟨(some 27), none, .pick (.tmp 24) (.const (.bool true)) (.tmp 26)⟩,
    ⟨(some 28), none, .mov (.tmp 27)⟩,
    ⟨(some 29), (some (28, false)), .mov (.tmp 3)⟩,
    ⟨(some 30), (some (28, false)), .len (.tmp 29)⟩,
    ⟨(some 31), (some (28, false)), .ibin .gtr (.tmp 30) (.const (.int .i64 300))⟩,
    ⟨(some 32), none, .pick (.tmp 28) (.const (.bool true)) (.tmp 31)⟩]

def f5r4 : List AInstr := [
    ⟨(some 8), none, .mov (.const (.bool true))⟩]

def f5r5 : List AInstr := [
    ⟨(some 33), none, .mov (.tmp 3)⟩,
    ⟨(some 34), none, .callF 10 [.tmp 33]⟩,
    ⟨(some 9), none, .mov (.tmp 34)⟩]

def f5r6 : List AInstr := [
    ⟨(some 35), none, .mov (.const (.int .i64 0))⟩]

def f5r7 : List AInstr := [
    ⟨(some 36), none, .ibin .lss (.tmp 35) (.const (.int .i64 101))⟩]

def f5r8 : List AInstr := [
    ⟨(some 37), none, .mov (.tmp 9)⟩,
    ⟨(some 38), none, .mov (.tmp 1)⟩,
    ⟨(some 39), none, .ibin .mul (.const (.int .i64 1500)) (.tmp 38)⟩,
    ⟨(some 40), none, .build [.int .i64 0, .int .i64 0] [(0, 1, (.const (.int .i64 2))), (1, 1, (.tmp 39))]⟩,
    ⟨(some 41), none, .build [.int .i64 0, .int .i64 0] [(0, 1, (.const (.int .i64 3))), (1, 1, (.const (.int .i64 1073741824)))]⟩,
    ⟨(some 42), none, .buildSlice 2 2 [.int .i64 0, .int .i64 0, .int .i64 0, .int .i64 0] [(0, 2, (.tmp 40)), (2, 2, (.tmp 41))]⟩,
    ⟨(some 43), none, .append 2 16 (.tmp 37) (.tmp 42)⟩,
    ⟨(some 9), none, .mov (.tmp 43)⟩]

def f5r9 : List AInstr := [
    ⟨(some 44), none, .ibin .add (.tmp 35) (.const (.int .i64 1))⟩,
    ⟨(some 35), none, .mov (.tmp 44)⟩]

/-- live: [0, 1, 2, 3, 9, 35] -/
def f5l0 : ACode := (.seq (.ops f5r7)
  (.keep [0, 1, 2, 3, 9, 35, 36] (.seq (.cond (.tmp 36) .skip (.exit 0))
  (.keep [0, 1, 2, 3, 9, 35] (.seq (.block 1 (.ops f5r8))
  (.keep [0, 1, 2, 3, 9, 35] (.ops f5r9)))))))

def f5r11 : List AInstr := [
    ⟨(some 46), none, .mov (.tmp 0)⟩,
    ⟨(some 47), none, .mov (.tmp 1)⟩,
    ⟨(some 48), none, .mov (.tmp 2)⟩,
    ⟨(some 49), none, .mov (.tmp 3)⟩,
    ⟨(some 50), none, .callF 9 [.tmp 46, .tmp 47, .tmp 48, .tmp 49]⟩,
    ⟨(some 45), none, .mov (.tmp 50)⟩,
    ⟨(some 51), none, .extract 0 (.tmp 45)⟩,
    ⟨(some 52), none, .extract 1 (.tmp 45)⟩,
    ⟨(some 53), none, .extract 2 (.tmp 45)⟩,
    ⟨(some 11), none, .alloc [.slice none 0 0, .int .i64 0, .int .i64 0, .int .i64 0, .int .i64 0, .int .i64 0, .int .i64 0, .int .i64 0, .int .i64 0, .int .i64 0]⟩,
    ⟨(some 10), none, .mov (.tmp 51)⟩,
    ⟨none, none, .store 10 (.tmp 11) (.tmp 52)⟩,
    ⟨(some 12), none, .mov (.tmp 53)⟩]

def f5r12 : List AInstr := [
    ⟨(some 55), none, .mov (.tmp 0)⟩,
    ⟨(some 56), none, .mov (.tmp 1)⟩,
    ⟨(some 57), none, .mov (.tmp 2)⟩,
    ⟨(some 58), none, .mov (.tmp 9)⟩,
    ⟨(some 59), none, .callF 9 [.tmp 55, .tmp 56, .tmp 57, .tmp 58]⟩,
    ⟨(some 54), none, .mov (.tmp 59)⟩,
    ⟨(some 60), none, .extract 0 (.tmp 54)⟩,
    ⟨(some 61), none, .extract 1 (.tmp 54)⟩,
    ⟨(some 62), none, .extract 2 (.tmp 54)⟩,
    ⟨(some 14), none, .alloc [.slice none 0 0, .int .i64 0, .int .i64 0, .int .i64 0, .int .i64 0, .int .i64 0, .int .i64 0, .int .i64 0, .int .i64 0, .int .i64 0]⟩,
    ⟨(some 13), none, .mov (.tmp 60)⟩,
    ⟨none, none, .store 10 (.tmp 14) (.tmp 61)⟩,
    ⟨(some 15), none, .mov (.tmp 62)⟩]

def f5r13 : List AInstr := [
    ⟨(some 63), none, .mov (.tmp 12)⟩,
    ⟨(some 64), none, .ibin .neq (.tmp 63) (.const (.int .i64 0))⟩,
    ⟨(some 65), none, .mov (.tmp 64)⟩,
    ⟨(some 66), (some (65, false)), .fieldAddr 4 (.tmp 11)⟩,
    ⟨(some 67), (some (65, false)), .fieldAddr 4 (.tmp 66)⟩,
    ⟨(some 68), (some (65, false)), .load none (.tmp 67)⟩,
    ⟨(some 69), (some (65, false)), .mov (.tmp 1)⟩,
    ⟨(some 70), (some (65, false)), .ibin .mul (.const (.int .i64 151500)) (.tmp 69)⟩,
    ⟨(some 71), (some (65, false)), .ibin .sub (.const (.int .i64 1099511627776)) (.tmp 70)⟩,
    ⟨(some 72), (some (65, false)), .ibin .gtr (.tmp 68) (.tmp 71)⟩,
    ⟨(some 73), none, .pick (.tmp 65) (.const (.bool true)) (.tmp 72)⟩]

def f5r14 : List AInstr := [
    ⟨(some 74), none, .mov (.tmp 12)⟩,
    ⟨(some 75), none, .mov (.tmp 15)⟩,
    ⟨(some 76), none, .ibin .eql (.tmp 74) (.tmp 75)⟩,
    ⟨(some 77), none, .mov (.tmp 76)⟩,
    ⟨(some 78), (some (77, false)), .mov (.tmp 12)⟩,
    ⟨(some 79), (some (77, false)), .ibin .eql (.tmp 78) (.const (.int .i64 0))⟩,
    ⟨(some 80), none, .pick (.tmp 77) (.const (.bool true)) (.tmp 79)⟩,
    ⟨(some 8), none, .mov (.tmp 80)⟩]

def f5r15 : List AInstr := [
    ⟨(some 81), none, .mov (.tmp 15)⟩,
    ⟨(some 82), none, .ibin .eql (.tmp 81) (.const (.int .i64 0))⟩,
    ⟨(some 83), none, .mov (.tmp 82)⟩,
    ⟨(some 84), (some (83, true)), .fieldAddr 0 (.tmp 14)⟩,
    ⟨(some 85), (some (83, true)), .fieldAddr 0 (.tmp 84)⟩,
    ⟨(some 86), (some (83, true)), .load none (.tmp 85)⟩,
    ⟨(some 87), (some (83, true)), .len (.tmp 86)⟩,
    ⟨(some 88), (some (83, true)), .ibin .eql (.tmp 87) (.const (.int .i64 0))⟩,
    ⟨(some 89), none, .pick (.tmp 83) (.tmp 88) (.const (.bool false))⟩,
    ⟨(some 8), none, .mov (.tmp 89)⟩]

def f5b : ACode := (.seq (.ops f5r0)
  (.keep [0, 1, 2, 3] (.seq (.seq (.ops f5r1)
  (.keep [0, 1, 2, 3, 17] (.cond (.tmp 17) (.keep [] (.seq (.ops f5r2)
  (.keep [8] .ret))) .skip)))
  (.keep [0, 1, 2, 3] (.seq (.seq (.ops f5r3)
  (.keep [0, 1, 2, 3, 32] (.cond (.tmp 32) (.keep [] (.seq (.ops f5r4)
  (.keep [8] .ret))) .skip)))
  (.keep [0, 1, 2, 3] (.seq (.ops f5r5)
  (.keep [0, 1, 2, 3, 9] (.seq (.seq (.ops f5r6)
  (.keep [0, 1, 2, 3, 9, 35] (.block 0 (.loop f5l0))))
  (.keep [0, 1, 2, 3, 9] (.seq (.ops f5r11)
  (.keep [0, 1, 2, 9, 11, 12] (.seq (.ops f5r12)
  (.keep [1, 11, 12, 14, 15] (.seq (.seq (.ops f5r13)
  (.keep [12, 14, 15, 73] (.cond (.tmp 73) (.keep [12, 15] (.seq (.ops f5r14)
  (.keep [8] .ret))) .skip)))
  (.keep [14, 15] (.seq (.ops f5r15)
  (.keep [8] .ret))))))))))))))))))

def f5 : AFn := ⟨90, [.tmp 8], f5b⟩

theorem f5_ok : compFn Try.prog 5 = some f5.strip := by kernel_rfl

/- function 6: weirhouse/weirhousekeep.PaceParts; parameters 6; operations that are not compiled: 0 -/
def f6r0 : List AInstr := [
    ⟨(some 6), none, .box (.tmp 0)⟩,
    ⟨(some 7), none, .box (.tmp 1)⟩,
    ⟨(some 8), none, .box (.tmp 2)⟩,
    ⟨(some 9), none, .box (.tmp 3)⟩,
    ⟨(some 12), none, .mov (.const (.bool false))⟩]

def f6r1 : List AInstr := [
    ⟨(some 22), none, .callF 8 []⟩,
    ⟨(some 23), none, .un .not (.tmp 22)⟩]

def f6r2 : List AInstr := [
    ⟨(some 12), none, .mov (.const (.bool false))⟩]

def f6r3 : List AInstr := [
    ⟨(some 24), none, .mov (.tmp 4)⟩,
    ⟨(some 25), none, .ibin .lss (.tmp 24) (.const (.int .i64 0))⟩,
    ⟨(some 26), none, .mov (.tmp 25)⟩,
    ⟨(some 27), (some (26, false)), .mov (.tmp 5)⟩,
    ⟨(some 28), (some (26, false)), .ibin .lss (.tmp 27) (.const (.int .i64 0))⟩,
    ⟨(some 29), none, .pick (.tmp 26) (.const (.bool true)) (.tmp 28)⟩,
    ⟨(some 30), none, .mov (.tmp 29)⟩,
    ⟨(some 31), (some (30, false)), .mov (.tmp 4)⟩,
    ⟨(some 32), (some (30, false)), .ibin .gtr (.tmp 31) (.const (.int .i64 1048576))⟩,
    ⟨(some 33), none, .pick (.tmp 30) (.const (.bool true)) (.tmp 32)⟩,
    ⟨(some 34), none, .mov (.tmp 33)⟩,
    ⟨(some 35), (some (34, false)), .mov (.tmp 5)⟩,
    ⟨(some 36), (some (34, false)), .ibin .gtr (.tmp 35) (.const (.int .i64 1048576))⟩,
    ⟨(some 37), none, .pick (.tmp 34) (.const (.bool true)) (.tmp 36)⟩]

def f6r4 : List AInstr := [
    ⟨(some 12), none, .mov (.const (.bool true))⟩]

def f6r5 : List AInstr := [
    ⟨(some 38), none, .func (.func 11) [] [.tmp 9, .tmp 6, .tmp 7, .tmp 8]⟩,
    ⟨(some 13), none, .mov (.tmp 38)⟩]

def f6r6 : List AInstr := [
    ⟨(some 40), none, .mov (.tmp 13)⟩,
    ⟨(some 41), none, .mov (.tmp 4)⟩,
    ⟨(some 42), none, .mov (.tmp 5)⟩,
    ⟨(some 43), none, .buildSlice 1 2 [.int .i64 0, .int .i64 0] [(0, 1, (.tmp 41)), (1, 1, (.tmp 42))]⟩,
    ⟨(some 44), none, .callV (.tmp 40) [.tmp 43]⟩,
    ⟨(some 39), none, .mov (.tmp 44)⟩,
    ⟨(some 45), none, .extract 0 (.tmp 39)⟩,
    ⟨(some 46), none, .extract 1 (.tmp 39)⟩,
    ⟨(some 14), none, .alloc [.slice none 0 0, .int .i64 0, .int .i64 0, .int .i64 0, .int .i64 0, .int .i64 0, .int .i64 0, .int .i64 0, .int .i64 0, .int .i64 0]⟩,
    ⟨none, none, .store 10 (.tmp 14) (.tmp 45)⟩,
    ⟨(some 15), none, .mov (.tmp 46)⟩]

def f6r7 : List AInstr := [
    ⟨(some 48), none, .mov (.tmp 13)⟩,
    ⟨(some 49), none, .mov (.tmp 4)⟩,
    ⟨(some 50), none, .mov (.tmp 5)⟩,
    ⟨(some 51), none, .ibin .add (.tmp 49) (.tmp 50)⟩,
    ⟨(some 52), none, .buildSlice 1 1 [.int .i64 0] [(0, 1, (.tmp 51))]⟩,
    ⟨(some 53), none, .callV (.tmp 48) [.tmp 52]⟩,
    ⟨(some 47), none, .mov (.tmp 53)⟩,
    ⟨(some 54), none, .extract 0 (.tmp 47)⟩,
    ⟨(some 55), none, .extract 1 (.tmp 47)⟩,
    ⟨(some 16), none, .alloc [.slice none 0 0, .int .i64 0, .int .i64 0, .int .i64 0, .int .i64 0, .int .i64 0, .int .i64 0, .int .i64 0, .int .i64 0, .int .i64 0]⟩,
    ⟨none, none, .store 10 (.tmp 16) (.tmp 54)⟩,
    ⟨(some 17), none, .mov (.tmp 55)⟩]

def f6r8 : List AInstr := [
    ⟨(some 57), none, .mov (.tmp 13)⟩,
    ⟨(some 58), none, .buildSlice 1 1 [.int .i64 0] [(0, 1, (.const (.int .i64 1073741824)))]⟩,
    ⟨(some 59), none, .callV (.tmp 57) [.tmp 58]⟩,
    ⟨(some 56), none, .mov (.tmp 59)⟩,
    ⟨(some 60), none, .extract 0 (.tmp 56)⟩,
    ⟨(some 61), none, .extract 1 (.tmp 56)⟩,
    ⟨(some 18), none, .alloc [.slice none 0 0, .int .i64 0, .int .i64 0, .int .i64 0, .int .i64 0, .int .i64 0, .int .i64 0, .int .i64 0, .int .i64 0, .int .i64 0]⟩,
    ⟨none, none, .store 10 (.tmp 18) (.tmp 60)⟩,
    ⟨(some 19), none, .mov (.tmp 61)⟩]

def f6r9 : List AInstr := [
    ⟨(some 63), none, .mov (.tmp 13)⟩,
    ⟨(some 64), none, .mov (.tmp 4)⟩,
    ⟨(some 65), none, .buildSlice 1 2 [.int .i64 0, .int .i64 0] [(0, 1, (.const (.int .i64 1073741824))), (1, 1, (.tmp 64))]⟩,
    ⟨(some 66), none, .callV (.tmp 63) [.tmp 65]⟩,
    ⟨(some 62), none, .mov (.tmp 66)⟩,
    ⟨(some 67), none, .extract 0 (.tmp 62)⟩,
    ⟨(some 68), none, .extract 1 (.tmp 62)⟩,
    ⟨(some 20), none, .alloc [.slice none 0 0, .int .i64 0, .int .i64 0, .int .i64 0, .int .i64 0, .int .i64 0, .int .i64 0, .int .i64 0, .int .i64 0, .int .i64 0]⟩,
    ⟨none, none, .store 10 (.tmp 20) (.tmp 67)⟩,
    ⟨(some 21), none, .mov (.tmp 68)⟩]

def f6r10 : List AInstr := [
    ⟨(some 69), none, .mov (.tmp 15)⟩,
    ⟨(some 70), none, .ibin .neq (.tmp 69) (.const (.int .i64 0))⟩,
    ⟨(some 71), none, .mov (.tmp 70)⟩,
    ⟨(some 72), (some (71, false)), .mov (.tmp 17)⟩,
    ⟨(some 73), (some (71, false)), .ibin .neq (.tmp 72) (.const (.int .i64 0))⟩,
    ⟨(some 74), none, .pick (.tmp 71) (.const (.bool true)) (.tmp 73)⟩,
    ⟨(some 75), none, .mov (.tmp 74)⟩,
    ⟨(some 76), (some (75, false)), .mov (.tmp 19)⟩,
    ⟨(some 77), (some (75, false)), .ibin .neq (.tmp 76) (.const (.int .i64 0))⟩,
    ⟨(some 78), none, .pick (.tmp 75) (.const (.bool true)) (.tmp 77)⟩,
    ⟨(some 79), none, .mov (.tmp 78)⟩,
    ⟨(some 80), (some (79, false)), .mov (.tmp 21)⟩,
    ⟨(some 81), (some (79, false)), .ibin .neq (.tmp 80) (.const (.int .i64 0))⟩,
    ⟨(some 82), none, .pick (.tmp 79) (.const (.bool true)) (.tmp 81)⟩]

def f6r11 : List AInstr := [
    ⟨(some 83), none, .mov (.tmp 15)⟩,
    ⟨(some 84), none, .mov (.tmp 17)⟩,
    ⟨(some 85), none, .ibin .eql (.tmp 83) (.tmp 84)⟩,
    ⟨(some 86), none, .mov (.tmp 85)⟩,
    ⟨(some 87), (some (86, true)), .mov (.tmp 15)⟩,
    ⟨(some 88), (some (86, true)), .mov (.tmp 19)⟩,
    ⟨(some 89), (some (86, true)), .ibin .eql (.tmp 87) (.tmp 88)⟩,
    ⟨(some 90), none, .pick (.tmp 86) (.tmp 89) (.const (.bool false))⟩,
    ⟨(some 91), none, .mov (.tmp 90)⟩,
    ⟨(some 92), (some (91, true)), .mov (.tmp 15)⟩,
    ⟨(some 93), (some (91, true)), .mov (.tmp 21)⟩,
    ⟨(some 94), (some (91, true)), .ibin .eql (.tmp 92) (.tmp 93)⟩,
    ⟨(some 95), none, .pick (.tmp 91) (.tmp 94) (.const (.bool false))⟩,
    ⟨(some 12), none, .mov (.tmp 95)⟩]

def f6r12 : List AInstr := [
    ⟨(some 96), none, .fieldAddr 9 (.tmp 14)⟩,
    ⟨(some 97), none, .load none (.tmp 96)⟩,
    ⟨(some 98), none, .fieldAddr 9 (.tmp 16)⟩,
    ⟨(some 99), none, .load none (.tmp 98)⟩,
    ⟨(some 100), none, .ibin .leq (.tmp 97) (.tmp 99)⟩,
    ⟨(some 101), none, .mov (.tmp 100)⟩,
    ⟨(some 102), (some (101, true)), .fieldAddr 9 (.tmp 16)⟩,
    ⟨(some 103), (some (101, true)), .load none (.tmp 102)⟩,
    ⟨(some 104), (some (101, true)), .fieldAddr 9 (.tmp 18)⟩,
    ⟨(some 105), (some (101, true)), .load none (.tmp 104)⟩,
    ⟨(some 106), (some (101, true)), .ibin .leq (.tmp 103) (.tmp 105)⟩,
    ⟨(some 107), none, .pick (.tmp 101) (.tmp 106) (.const (.bool false))⟩,
    ⟨(some 108), none, .mov (.tmp 107)⟩,
    ⟨(some 109), (some (108, true)), .load (some 10) (.tmp 18)⟩,
    ⟨(some 110), (some (108, true)), .load (some 10) (.tmp 20)⟩,
    ⟨(some 111), (some (108, true)), .callF 12 [.tmp 109, .tmp 110]⟩,
    ⟨(some 112), none, .pick (.tmp 108) (.tmp 111) (.const (.bool false))⟩,
    ⟨(some 12), none, .mov (.tmp 112)⟩]

def f6b : ACode := (.seq (.ops f6r0)
  (.keep [4, 5, 6, 7, 8, 9] (.seq (.seq (.ops f6r1)
  (.keep [4, 5, 6, 7, 8, 9, 23] (.cond (.tmp 23) (.keep [] (.seq (.ops f6r2)
  (.keep [12] .ret))) .skip)))
  (.keep [4, 5, 6, 7, 8, 9] (.seq (.seq (.ops f6r3)
  (.keep [4, 5, 6, 7, 8, 9, 37] (.cond (.tmp 37) (.keep [] (.seq (.ops f6r4)
  (.keep [12] .ret))) .skip)))
  (.keep [4, 5, 6, 7, 8, 9] (.seq (.ops f6r5)
  (.keep [4, 5, 13] (.seq (.ops f6r6)
  (.keep [4, 5, 13, 14, 15] (.seq (.ops f6r7)
  (.keep [4, 13, 14, 15, 16, 17] (.seq (.ops f6r8)
  (.keep [4, 13, 14, 15, 16, 17, 18, 19] (.seq (.ops f6r9)
  (.keep [14, 15, 16, 17, 18, 19, 20, 21] (.seq (.seq (.ops f6r10)
  (.keep [14, 15, 16, 17, 18, 19, 20, 21, 82] (.cond (.tmp 82) (.keep [15, 17, 19, 21] (.seq (.ops f6r11)
  (.keep [12] .ret))) .skip)))
  (.keep [14, 16, 18, 20] (.seq (.ops f6r12)
  (.keep [12] .ret))))))))))))))))))))

def f6 : AFn := ⟨113, [.tmp 12], f6b⟩

theorem f6_ok : compFn Try.prog 6 = some f6.strip := by kernel_rfl

/- function 7: weirhouse/weirhousekeep.PaceOrder; parameters 4; operations that are not compiled: 0 -/
def f7r0 : List AInstr := [
    ⟨(some 8), none, .mov (.const (.bool false))⟩]

def f7r1 : List AInstr := [
    ⟨(some 20), none, .callF 8 []⟩,
    ⟨(some 21), none, .un .not (.tmp 20)⟩]

def f7r2 : List AInstr := [
    ⟨(some 8), none, .mov (.const (.bool false))⟩]

def f7r3 : List AInstr := [
    ⟨(some 23), none, .mov (.tmp 0)⟩,
    ⟨(some 24), none, .mov (.tmp 1)⟩,
    ⟨(some 25), none, .mov (.tmp 2)⟩,
    ⟨(some 26), none, .mov (.tmp 3)⟩,
    ⟨(some 27), none, .callF 9 [.tmp 23, .tmp 24, .tmp 25, .tmp 26]⟩,
    ⟨(some 22), none, .mov (.tmp 27)⟩,
    ⟨(some 28), none, .extract 0 (.tmp 22)⟩,
    ⟨(some 29), none, .extract 1 (.tmp 22)⟩,
    ⟨(some 30), none, .extract 2 (.tmp 22)⟩,
    ⟨(some 10), none, .alloc [.slice none 0 0, .int .i64 0, .int .i64 0, .int .i64 0, .int .i64 0, .int .i64 0, .int .i64 0, .int .i64 0, .int .i64 0, .int .i64 0]⟩,
    ⟨(some 9), none, .mov (.tmp 28)⟩,
    ⟨none, none, .store 10 (.tmp 10) (.tmp 29)⟩,
    ⟨(some 11), none, .mov (.tmp 30)⟩]

def f7r4 : List AInstr := [
    ⟨(some 31), none, .mov (.tmp 11)⟩,
    ⟨(some 32), none, .ibin .neq (.tmp 31) (.const (.int .i64 0))⟩,
    ⟨(some 33), none, .mov (.tmp 32)⟩,
    ⟨(some 34), (some (33, false)), .mov (.tmp 9)⟩,
    ⟨(some 35), (some (33, false)), .len (.tmp 34)⟩,
    ⟨(some 36), (some (33, false)), .mov (.tmp 3)⟩,
    ⟨(some 37), (some (33, false)), .len (.tmp 36)⟩,
    ⟨(some 38), (some (33, false)), .ibin .neq (.tmp 35) (.tmp 37)⟩,
    ⟨(some 39), none, .pick (.tmp 33) (.const (.bool true)) (.tmp 38)⟩]

def f7r5 : List AInstr := [
    ⟨(some 40), none, .mov (.tmp 11)⟩,
    ⟨(some 41), none, .ibin .neq (.tmp 40) (.const (.int .i64 0))⟩,
    ⟨(some 8), none, .mov (.tmp 41)⟩]

def f7r6 : List AInstr := [
    ⟨(some 12), none, .mov (.const (.slice none 0 0))⟩,
    ⟨(some 13), none, .mov (.const (.slice none 0 0))⟩]

def f7r7 : List AInstr := [
    ⟨(some 14), none, .mov (.const (.int .i64 0))⟩,
    ⟨(some 15), none, .mov (.const (.int .i64 0))⟩]

def f7r8 : List AInstr := [
    ⟨(some 42), none, .mov (.tmp 3)⟩,
    ⟨(some 43), none, .len (.tmp 42)⟩,
    ⟨(some 44), none, .mov (.const (.int .i64 0))⟩]

def f7r9 : List AInstr := [
    ⟨(some 45), none, .ibin .lss (.tmp 44) (.tmp 43)⟩]

def f7r10 : List AInstr := [
    ⟨(some 46), none, .mov (.tmp 44)⟩,
    ⟨(some 47), none, .indexAddr 2 (.tmp 42) (.tmp 44)⟩,
    ⟨(some 48), none, .load (some 2) (.tmp 47)⟩,
    ⟨(some 17), none, .alloc [.int .i64 0, .int .i64 0]⟩,
    ⟨(some 16), none, .mov (.tmp 46)⟩,
    ⟨none, none, .store 2 (.tmp 17) (.tmp 48)⟩]

def f7r11 : List AInstr := [
    ⟨(some 50), none, .fieldAddr 0 (.tmp 17)⟩,
    ⟨(some 51), none, .load none (.tmp 50)⟩,
    ⟨(some 52), none, .ibin .eql (.tmp 51) (.const (.int .i64 1))⟩,
    ⟨(some 53), none, .mov (.tmp 52)⟩,
    ⟨(some 54), (some (53, true)), .mov (.tmp 9)⟩,
    ⟨(some 55), (some (53, true)), .mov (.tmp 16)⟩,
    ⟨(some 56), (some (53, true)), .indexAddr 2 (.tmp 54) (.tmp 55)⟩,
    ⟨(some 57), (some (53, true)), .fieldAddr 0 (.tmp 56)⟩,
    ⟨(some 58), (some (53, true)), .load none (.tmp 57)⟩,
    ⟨(some 59), (some (53, true)), .ibin .eql (.tmp 58) (.const (.int .i64 0))⟩,
    ⟨(some 60), none, .pick (.tmp 53) (.tmp 59) (.const (.bool false))⟩,
    ⟨(some 49), none, .mov (.tmp 60)⟩]

def f7r12 : List AInstr := [
    ⟨(some 61), none, .mov (.tmp 12)⟩,
    ⟨(some 62), none, .fieldAddr 1 (.tmp 17)⟩,
    ⟨(some 63), none, .load none (.tmp 62)⟩,
    ⟨(some 64), none, .buildSlice 1 1 [.int .i64 0] [(0, 1, (.tmp 63))]⟩,
    ⟨(some 65), none, .append 1 8 (.tmp 61) (.tmp 64)⟩,
    ⟨(some 12), none, .mov (.tmp 65)⟩]

def f7r13 : List AInstr := [
    ⟨(some 67), none, .fieldAddr 0 (.tmp 17)⟩,
    ⟨(some 68), none, .load none (.tmp 67)⟩,
    ⟨(some 69), none, .ibin .eql (.tmp 68) (.const (.int .i64 1))⟩,
    ⟨(some 70), none, .mov (.tmp 69)⟩,
    ⟨(some 71), (some (70, true)), .mov (.tmp 9)⟩,
    ⟨(some 72), (some (70, true)), .mov (.tmp 16)⟩,
    ⟨(some 73), (some (70, true)), .indexAddr 2 (.tmp 71) (.tmp 72)⟩,
    ⟨(some 74), (some (70, true)), .fieldAddr 0 (.tmp 73)⟩,
    ⟨(some 75), (some (70, true)), .load none (.tmp 74)⟩,
    ⟨(some 76), (some (70, true)), .ibin .eql (.tmp 75) (.const (.int .i64 4))⟩,
    ⟨(some 77), none, .pick (.tmp 70) (.tmp 76) (.const (.bool false))⟩,
    ⟨(some 66), none, .mov (.tmp 77)⟩]

def f7r14 : List AInstr := [
    ⟨(some 78), none, .mov (.tmp 14)⟩,
    ⟨(some 79), none, .ibin .add (.tmp 78) (.const (.int .i64 1))⟩,
    ⟨(some 14), none, .mov (.tmp 79)⟩]

def f7r15 : List AInstr := [
    ⟨(some 80), none, .mov (.tmp 13)⟩,
    ⟨(some 81), none, .mov (.tmp 9)⟩,
    ⟨(some 82), none, .mov (.tmp 16)⟩,
    ⟨(some 83), none, .indexAddr 2 (.tmp 81) (.tmp 82)⟩,
    ⟨(some 84), none, .fieldAddr 1 (.tmp 83)⟩,
    ⟨(some 85), none, .load none (.tmp 84)⟩,
    ⟨(some 86), none, .append 1 8 (.tmp 80) (.tmp 85)⟩,
    ⟨(some 13), none, .mov (.tmp 86)⟩]

def f7r16 : List AInstr := [
    ⟨(some 87), none, .ibin .add (.tmp 44) (.const (.int .i64 1))⟩,
    ⟨(some 44), none, .mov (.tmp 87)⟩]

/-- live: [9, 10, 12, 13, 14, 15, 42, 43, 44] -/
def f7l0 : ACode := (.seq (.ops f7r9)
  (.keep [9, 10, 12, 13, 14, 15, 42, 43, 44, 45] (.seq (.cond (.tmp 45) .skip (.exit 0))
  (.keep [9, 10, 12, 13, 14, 15, 42, 43, 44] (.seq (.block 1 (.seq (.ops f7r10)
  (.keep [9, 10, 12, 13, 14, 15, 16, 17, 42, 43, 44] (.seq (.block 2 (.seq (.ops f7r11)
  (.keep [9, 10, 12, 13, 14, 15, 16, 17, 42, 43, 44, 49] (.cond (.tmp 49) (.keep [9, 10, 12, 13, 14, 15, 16, 17, 42, 43, 44] (.ops f7r12)) (.keep [9, 10, 12, 13, 14, 15, 16, 17, 42, 43, 44] (.seq (.ops f7r13)
  (.keep [9, 10, 12, 13, 14, 15, 16, 42, 43, 44, 66] (.cond (.tmp 66) (.keep [9, 10, 12, 13, 14, 15, 16, 42, 43, 44] (.ops f7r14)) .skip))))))))
  (.keep [9, 10, 12, 13, 14, 15, 16, 42, 43, 44] (.ops f7r15))))))
  (.keep [9, 10, 12, 13, 14, 15, 42, 43, 44] (.ops f7r16)))))))

def f7r18 : List AInstr := [
    ⟨(some 88), none, .mov (.tmp 13)⟩,
    ⟨(some 89), none, .len (.tmp 88)⟩,
    ⟨(some 90), none, .mov (.const (.int .i64 0))⟩]

def f7r19 : List AInstr := [
    ⟨(some 91), none, .ibin .lss (.tmp 90) (.tmp 89)⟩]

def f7r20 : List AInstr := [
    ⟨(some 92), none, .indexAddr 1 (.tmp 88) (.tmp 90)⟩,
    ⟨(some 93), none, .load none (.tmp 92)⟩,
    ⟨(some 19), none, .mov (.tmp 93)⟩]

def f7r21 : List AInstr := [
    ⟨(some 94), none, .mov (.tmp 15)⟩,
    ⟨(some 95), none, .mov (.tmp 19)⟩,
    ⟨(some 96), none, .ibin .add (.tmp 94) (.tmp 95)⟩,
    ⟨(some 15), none, .mov (.tmp 96)⟩]

def f7r22 : List AInstr := [
    ⟨(some 97), none, .ibin .add (.tmp 90) (.const (.int .i64 1))⟩,
    ⟨(some 90), none, .mov (.tmp 97)⟩]

/-- live: [10, 12, 13, 14, 15, 88, 89, 90] -/
def f7l1 : ACode := (.seq (.ops f7r19)
  (.keep [10, 12, 13, 14, 15, 88, 89, 90, 91] (.seq (.cond (.tmp 91) .skip (.exit 3))
  (.keep [10, 12, 13, 14, 15, 88, 89, 90] (.seq (.block 4 (.seq (.ops f7r20)
  (.keep [10, 12, 13, 14, 15, 19, 88, 89, 90] (.ops f7r21))))
  (.keep [10, 12, 13, 14, 15, 88, 89, 90] (.ops f7r22)))))))

def f7r24 : List AInstr := [
    ⟨(some 98), none, .mov (.tmp 12)⟩,
    ⟨(some 99), none, .mov (.tmp 13)⟩,
    ⟨(some 100), none, .fieldAddr 0 (.tmp 10)⟩,
    ⟨(some 101), none, .fieldAddr 0 (.tmp 100)⟩,
    ⟨(some 102), none, .load none (.tmp 101)⟩,
    ⟨(some 103), none, .buildSlice 1 2 [.slice none 0 0, .slice none 0 0] [(0, 1, (.tmp 99)), (1, 1, (.tmp 102))]⟩,
    ⟨(some 104), none, .callF 14 [.tmp 103]⟩,
    ⟨(some 105), none, .callF 13 [.tmp 98, .tmp 104]⟩,
    ⟨(some 106), none, .mov (.tmp 105)⟩,
    ⟨(some 107), (some (106, true)), .fieldAddr 0 (.tmp 10)⟩,
    ⟨(some 108), (some (106, true)), .fieldAddr 3 (.tmp 107)⟩,
    ⟨(some 109), (some (106, true)), .load none (.tmp 108)⟩,
    ⟨(some 110), (some (106, true)), .mov (.tmp 14)⟩,
    ⟨(some 111), (some (106, true)), .ibin .eql (.tmp 109) (.tmp 110)⟩,
    ⟨(some 112), none, .pick (.tmp 106) (.tmp 111) (.const (.bool false))⟩,
    ⟨(some 113), none, .mov (.tmp 112)⟩,
    ⟨(some 114), (some (113, true)), .fieldAddr 9 (.tmp 10)⟩,
    ⟨(some 115), (some (113, true)), .load none (.tmp 114)⟩,
    ⟨(some 116), (some (113, true)), .mov (.tmp 15)⟩,
    ⟨(some 117), (some (113, true)), .ibin .eql (.tmp 115) (.tmp 116)⟩,
    ⟨(some 118), none, .pick (.tmp 113) (.tmp 117) (.const (.bool false))⟩,
    ⟨(some 8), none, .mov (.tmp 118)⟩]

def f7b : ACode := (.seq (.ops f7r0)
  (.keep [0, 1, 2, 3] (.seq (.seq (.ops f7r1)
  (.keep [0, 1, 2, 3, 21] (.cond (.tmp 21) (.keep [] (.seq (.ops f7r2)
  (.keep [8] .ret))) .skip)))
  (.keep [0, 1, 2, 3] (.seq (.ops f7r3)
  (.keep [3, 9, 10, 11] (.seq (.seq (.ops f7r4)
  (.keep [3, 9, 10, 11, 39] (.cond (.tmp 39) (.keep [11] (.seq (.ops f7r5)
  (.keep [8] .ret))) .skip)))
  (.keep [3, 9, 10] (.seq (.ops f7r6)
  (.keep [3, 9, 10, 12, 13] (.seq (.ops f7r7)
  (.keep [3, 9, 10, 12, 13, 14, 15] (.seq (.seq (.ops f7r8)
  (.keep [9, 10, 12, 13, 14, 15, 42, 43, 44] (.block 0 (.loop f7l0))))
  (.keep [10, 12, 13, 14, 15] (.seq (.seq (.ops f7r18)
  (.keep [10, 12, 13, 14, 15, 88, 89, 90] (.block 3 (.loop f7l1))))
  (.keep [10, 12, 13, 14, 15] (.seq (.ops f7r24)
  (.keep [8] .ret))))))))))))))))))

def f7 : AFn := ⟨119, [.tmp 8], f7b⟩

theorem f7_ok : compFn Try.prog 7 = some f7.strip := by kernel_rfl

/- function 8: weirhouse/weirhousekeep.alive25; parameters 0; operations that are not compiled: 0 -/
def f8r0 : List AInstr := [
    ⟨(some 0), none, .mov (.const (.bool false))⟩]

def f8r1 : List AInstr := [
    ⟨(some 5), none, .build [.int .i64 0, .int .i64 0] [(0, 1, (.const (.int .i64 1))), (1, 1, (.const (.int .i64 1000)))]⟩,
    ⟨(some 6), none, .build [.int .i64 0, .int .i64 0] [(0, 1, (.const (.int .i64 1))), (1, 1, (.const (.int .i64 600)))]⟩,
    ⟨(some 7), none, .build [.int .i64 0, .int .i64 0] [(0, 1, (.const (.int .i64 3))), (1, 1, (.const (.int .i64 9000)))]⟩,
    ⟨(some 8), none, .build [.int .i64 0, .int .i64 0] [(0, 1, (.const (.int .i64 2))), (1, 1, (.const (.int .i64 200)))]⟩,
    ⟨(some 9), none, .build [.int .i64 0, .int .i64 0] [(0, 1, (.const (.int .i64 3))), (1, 1, (.const (.int .i64 599)))]⟩,
    ⟨(some 10), none, .build [.int .i64 0, .int .i64 0] [(0, 1, (.const (.int .i64 3))), (1, 1, (.const (.int .i64 600)))]⟩,
    ⟨(some 11), none, .buildSlice 2 6 [.int .i64 0, .int .i64 0, .int .i64 0, .int .i64 0, .int .i64 0, .int .i64 0, .int .i64 0, .int .i64 0, .int .i64 0, .int .i64 0, .int .i64 0, .int .i64 0] [(0, 2, (.tmp 5)), (2, 2, (.tmp 6)), (4, 2, (.tmp 7)), (6, 2, (.tmp 8)), (8, 2, (.tmp 9)), (10, 2, (.tmp 10))]⟩,
    ⟨(some 12), none, .callF 9 [.const (.int .i64 1), .const (.int .i64 2), .const (.int .i64 1500), .tmp 11]⟩,
    ⟨(some 4), none, .mov (.tmp 12)⟩,
    ⟨(some 13), none, .extract 0 (.tmp 4)⟩,
    ⟨(some 14), none, .extract 1 (.tmp 4)⟩,
    ⟨(some 15), none, .extract 2 (.tmp 4)⟩,
    ⟨(some 2), none, .alloc [.slice none 0 0, .int .i64 0, .int .i64 0, .int .i64 0, .int .i64 0, .int .i64 0, .int .i64 0, .int .i64 0, .int .i64 0, .int .i64 0]⟩,
    ⟨(some 1), none, .mov (.tmp 13)⟩,
    ⟨none, none, .store 10 (.tmp 2) (.tmp 14)⟩,
    ⟨(some 3), none, .mov (.tmp 15)⟩]

def f8r2 : List AInstr := [
    ⟨(some 16), none, .mov (.tmp 3)⟩,
    ⟨(some 17), none, .ibin .eql (.tmp 16) (.const (.int .i64 0))⟩,
    ⟨(some 18), none, .mov (.tmp 17)⟩,
    ⟨(some 19), (some (18, true)), .mov (.tmp 1)⟩,
    ⟨(some 20), (some (18, true)), .len (.tmp 19)⟩,
    ⟨(some 21), (some (18, true)), .ibin .eql (.tmp 20) (.const (.int .i64 6))⟩,
    ⟨(some 22), none, .pick (.tmp 18) (.tmp 21) (.const (.bool false))⟩,
    ⟨(some 23), none, .mov (.tmp 22)⟩,
    ⟨(some 24), (some (23, true)), .mov (.tmp 1)⟩,
    ⟨(some 25), (some (23, true)), .indexAddr 2 (.tmp 24) (.const (.int .i64 2))⟩,
    ⟨(some 26), (some (23, true)), .fieldAddr 1 (.tmp 25)⟩,
    ⟨(some 27), (some (23, true)), .load none (.tmp 26)⟩,
    ⟨(some 28), (some (23, true)), .buildSlice 1 1 [.int .i64 0] [(0, 1, (.const (.int .i64 1000)))]⟩,
    ⟨(some 29), (some (23, true)), .callF 13 [.tmp 27, .tmp 28]⟩,
    ⟨(some 30), none, .pick (.tmp 23) (.tmp 29) (.const (.bool false))⟩,
    ⟨(some 31), none, .mov (.tmp 30)⟩,
    ⟨(some 32), (some (31, true)), .mov (.tmp 1)⟩,
    ⟨(some 33), (some (31, true)), .indexAddr 2 (.tmp 32) (.const (.int .i64 4))⟩,
    ⟨(some 34), (some (31, true)), .fieldAddr 1 (.tmp 33)⟩,
    ⟨(some 35), (some (31, true)), .load none (.tmp 34)⟩,
    ⟨(some 36), (some (31, true)), .len (.tmp 35)⟩,
    ⟨(some 37), (some (31, true)), .ibin .eql (.tmp 36) (.const (.int .i64 0))⟩,
    ⟨(some 38), none, .pick (.tmp 31) (.tmp 37) (.const (.bool false))⟩,
    ⟨(some 39), none, .mov (.tmp 38)⟩,
    ⟨(some 40), (some (39, true)), .mov (.tmp 1)⟩,
    ⟨(some 41), (some (39, true)), .indexAddr 2 (.tmp 40) (.const (.int .i64 5))⟩,
    ⟨(some 42), (some (39, true)), .fieldAddr 1 (.tmp 41)⟩,
    ⟨(some 43), (some (39, true)), .load none (.tmp 42)⟩,
    ⟨(some 44), (some (39, true)), .buildSlice 1 1 [.int .i64 0] [(0, 1, (.const (.int .i64 600)))]⟩,
    ⟨(some 45), (some (39, true)), .callF 13 [.tmp 43, .tmp 44]⟩,
    ⟨(some 46), none, .pick (.tmp 39) (.tmp 45) (.const (.bool false))⟩,
    ⟨(some 47), none, .mov (.tmp 46)⟩,
    ⟨(some 48), (some (47, true)), .fieldAddr 9 (.tmp 2)⟩,
    ⟨(some 49), (some (47, true)), .load none (.tmp 48)⟩,
    ⟨(some 50), (some (47, true)), .ibin .eql (.tmp 49) (.const (.int .i64 1600))⟩,
    ⟨(some 51), none, .pick (.tmp 47) (.tmp 50) (.const (.bool false))⟩,
    ⟨(some 52), none, .mov (.tmp 51)⟩,
    ⟨(some 53), (some (52, true)), .fieldAddr 4 (.tmp 2)⟩,
    ⟨(some 54), (some (52, true)), .fieldAddr 3 (.tmp 53)⟩,
    ⟨(some 55), (some (52, true)), .load none (.tmp 54)⟩,
    ⟨(some 56), (some (52, true)), .ibin .eql (.tmp 55) (.const (.int .i64 0))⟩,
    ⟨(some 57), none, .pick (.tmp 52) (.tmp 56) (.const (.bool false))⟩,
    ⟨(some 0), none, .mov (.tmp 57)⟩]

def f8b : ACode := (.seq (.ops f8r0)
  (.keep [] (.seq (.ops f8r1)
  (.keep [1, 2, 3] (.seq (.ops f8r2)
  (.keep [0] .ret))))))

def f8 : AFn := ⟨58, [.tmp 0], f8b⟩

theorem f8_ok : compFn Try.prog 8 = some f8.strip := by kernel_rfl

/- function 9: weirhouse/pace.Play; parameters 4; operations that are not compiled: 0 -/
def f9r0 : List AInstr := [
    ⟨(some 8), none, .mov (.const (.slice none 0 0))⟩,
    ⟨(some 9), none, .alloc [.slice none 0 0, .int .i64 0, .int .i64 0, .int .i64 0, .int .i64 0, .int .i64 0, .int .i64 0, .int .i64 0, .int .i64 0, .int .i64 0]⟩,
    ⟨(some 10), none, .mov (.const (.int .i64 0))⟩]

def f9r1 : List AInstr := [
    ⟨(some 19), none, .mov (.tmp 0)⟩,
    ⟨(some 20), none, .mov (.tmp 1)⟩,
    ⟨(some 21), none, .mov (.tmp 2)⟩,
    ⟨(some 22), none, .callF 15 [.tmp 19, .tmp 20, .tmp 21]⟩,
    ⟨(some 11), none, .mov (.tmp 22)⟩]

def f9r2 : List AInstr := [
    ⟨(some 23), none, .mov (.tmp 11)⟩,
    ⟨(some 24), none, .ibin .neq (.tmp 23) (.const (.int .i64 0))⟩]

def f9r3 : List AInstr := [
    ⟨(some 25), none, .build [.slice none 0 0, .int .i64 0, .int .i64 0, .int .i64 0, .int .i64 0, .int .i64 0, .int .i64 0, .int .i64 0, .int .i64 0, .int .i64 0] []⟩,
    ⟨(some 26), none, .mov (.tmp 11)⟩,
    ⟨(some 8), none, .mov (.const (.slice none 0 0))⟩,
    ⟨none, none, .store 10 (.tmp 9) (.tmp 25)⟩,
    ⟨(some 10), none, .mov (.tmp 26)⟩]

def f9r4 : List AInstr := [
    ⟨(some 28), none, .mov (.tmp 0)⟩,
    ⟨(some 29), none, .mov (.tmp 1)⟩,
    ⟨(some 30), none, .mov (.tmp 2)⟩,
    ⟨(some 31), none, .callF 16 [.tmp 28, .tmp 29, .tmp 30]⟩,
    ⟨(some 27), none, .mov (.tmp 31)⟩,
    ⟨(some 32), none, .extract 0 (.tmp 27)⟩,
    ⟨(some 33), none, .extract 1 (.tmp 27)⟩,
    ⟨(some 12), none, .alloc [.int .i64 0, .int .i64 0, .int .i64 0, .int .i64 0, .int .i64 0]⟩,
    ⟨none, none, .store 5 (.tmp 12) (.tmp 32)⟩,
    ⟨(some 13), none, .mov (.tmp 33)⟩]

def f9r5 : List AInstr := [
    ⟨(some 34), none, .build [.slice none 0 0, .int .i64 0, .int .i64 0, .int .i64 0] [(1, 1, (.const (.int .i64 100))), (2, 1, (.const (.int .i64 60000)))]⟩,
    ⟨(some 35), none, .load (some 5) (.tmp 12)⟩,
    ⟨(some 36), none, .build [.slice none 0 0, .int .i64 0, .int .i64 0, .int .i64 0, .int .i64 0, .int .i64 0, .int .i64 0, .int .i64 0, .int .i64 0, .int .i64 0] [(0, 4, (.tmp 34)), (4, 5, (.tmp 35))]⟩,
    ⟨(some 14), none, .alloc [.slice none 0 0, .int .i64 0, .int .i64 0, .int .i64 0, .int .i64 0, .int .i64 0, .int .i64 0, .int .i64 0, .int .i64 0, .int .i64 0]⟩,
    ⟨none, none, .store 10 (.tmp 14) (.tmp 36)⟩]

def f9r6 : List AInstr := [
    ⟨(some 15), none, .mov (.const (.slice none 0 0))⟩]

def f9r7 : List AInstr := [
    ⟨(some 37), none, .mov (.tmp 3)⟩,
    ⟨(some 38), none, .len (.tmp 37)⟩,
    ⟨(some 39), none, .mov (.const (.int .i64 0))⟩]

def f9r8 : List AInstr := [
    ⟨(some 40), none, .ibin .lss (.tmp 39) (.tmp 38)⟩]

def f9r9 : List AInstr := [
    ⟨(some 41), none, .indexAddr 2 (.tmp 37) (.tmp 39)⟩,
    ⟨(some 42), none, .load (some 2) (.tmp 41)⟩,
    ⟨(some 17), none, .alloc [.int .i64 0, .int .i64 0]⟩,
    ⟨none, none, .store 2 (.tmp 17) (.tmp 42)⟩]

def f9r10 : List AInstr := [
    ⟨(some 18), none, .alloc [.int .i64 0, .slice none 0 0]⟩]

def f9r11 : List AInstr := [
    ⟨(some 44), none, .load (some 10) (.tmp 14)⟩,
    ⟨(some 45), none, .load (some 2) (.tmp 17)⟩,
    ⟨(some 46), none, .callF 17 [.tmp 44, .tmp 45]⟩,
    ⟨(some 43), none, .mov (.tmp 46)⟩,
    ⟨(some 47), none, .extract 0 (.tmp 43)⟩,
    ⟨(some 48), none, .extract 1 (.tmp 43)⟩,
    ⟨none, none, .store 10 (.tmp 14) (.tmp 47)⟩,
    ⟨none, none, .store 2 (.tmp 18) (.tmp 48)⟩]

def f9r12 : List AInstr := [
    ⟨(some 49), none, .mov (.tmp 15)⟩,
    ⟨(some 50), none, .load (some 2) (.tmp 18)⟩,
    ⟨(some 51), none, .buildSlice 2 1 [.int .i64 0, .slice none 0 0] [(0, 2, (.tmp 50))]⟩,
    ⟨(some 52), none, .append 2 32 (.tmp 49) (.tmp 51)⟩,
    ⟨(some 15), none, .mov (.tmp 52)⟩]

def f9r13 : List AInstr := [
    ⟨(some 53), none, .ibin .add (.tmp 39) (.const (.int .i64 1))⟩,
    ⟨(some 39), none, .mov (.tmp 53)⟩]

/-- live: [9, 14, 15, 37, 38, 39] -/
def f9l0 : ACode := (.seq (.ops f9r8)
  (.keep [9, 14, 15, 37, 38, 39, 40] (.seq (.cond (.tmp 40) .skip (.exit 0))
  (.keep [9, 14, 15, 37, 38, 39] (.seq (.block 1 (.seq (.ops f9r9)
  (.keep [9, 14, 15, 17, 37, 38, 39] (.seq (.ops f9r10)
  (.keep [9, 14, 15, 17, 18, 37, 38, 39] (.seq (.ops f9r11)
  (.keep [9, 14, 15, 18, 37, 38, 39] (.ops f9r12))))))))
  (.keep [9, 14, 15, 37, 38, 39] (.ops f9r13)))))))

def f9r15 : List AInstr := [
    ⟨(some 54), none, .fieldAddr 0 (.tmp 14)⟩,
    ⟨(some 55), none, .fieldAddr 0 (.tmp 54)⟩,
    ⟨(some 56), none, .load none (.tmp 55)⟩,
    ⟨(some 57), none, .callF 18 [.tmp 56]⟩,
    ⟨(some 58), none, .fieldAddr 0 (.tmp 14)⟩,
    ⟨(some 59), none, .fieldAddr 0 (.tmp 58)⟩,
    ⟨none, none, .store 1 (.tmp 59) (.tmp 57)⟩]

def f9r16 : List AInstr := [
    ⟨(some 60), none, .mov (.tmp 15)⟩,
    ⟨(some 61), none, .load (some 10) (.tmp 14)⟩,
    ⟨(some 8), none, .mov (.tmp 60)⟩,
    ⟨none, none, .store 10 (.tmp 9) (.tmp 61)⟩,
    ⟨(some 10), none, .mov (.const (.int .i64 0))⟩]

def f9b : ACode := (.seq (.ops f9r0)
  (.keep [0, 1, 2, 3, 9] (.seq (.seq (.ops f9r1)
  (.keep [0, 1, 2, 3, 9, 11] (.seq (.ops f9r2)
  (.keep [0, 1, 2, 3, 9, 11, 24] (.cond (.tmp 24) (.keep [9, 11] (.seq (.ops f9r3)
  (.keep [8, 9, 10] .ret))) .skip)))))
  (.keep [0, 1, 2, 3, 9] (.seq (.ops f9r4)
  (.keep [3, 9, 12] (.seq (.ops f9r5)
  (.keep [3, 9, 14] (.seq (.ops f9r6)
  (.keep [3, 9, 14, 15] (.seq (.seq (.ops f9r7)
  (.keep [9, 14, 15, 37, 38, 39] (.block 0 (.loop f9l0))))
  (.keep [9, 14, 15] (.seq (.ops f9r15)
  (.keep [9, 14, 15] (.seq (.draw f9r16 [(0, 0, false), (0, 0, false), (0, 0, false), (0, 0, true), (1, 1, false)])
  (.keep [8, 9, 10] .ret))))))))))))))))

def f9 : AFn := ⟨62, [.tmp 8, .cell 9 (some 10), .tmp 10], f9b⟩

theorem f9_ok : compFn Try.prog 9 = some f9.strip := by kernel_rfl

/- function 10: slices.Clone[[]weirhouse/api.PaceOp,weirhouse/api.PaceOp]; parameters 1; operations that are not compiled: 0 -/
def f10r0 : List AInstr := [
    ⟨(some 2), none, .mov (.const (.slice none 0 0))⟩]

def f10r1 : List AInstr := [
    ⟨(some 3), none, .mov (.tmp 0)⟩,
    ⟨(some 4), none, .eqS false (.tmp 3) (.const (.slice none 0 0))⟩]

def f10r2 : List AInstr := [
    ⟨(some 2), none, .mov (.const (.slice none 0 0))⟩]

def f10r3 : List AInstr := [
    ⟨(some 5), none, .buildSlice 2 0 [] []⟩,
    ⟨(some 6), none, .mov (.tmp 0)⟩,
    ⟨(some 7), none, .append 2 16 (.tmp 5) (.tmp 6)⟩,
    ⟨(some 2), none, .mov (.tmp 7)⟩]

def f10b : ACode := (.seq (.ops f10r0)
  (.keep [0] (.seq (.seq (.ops f10r1)
  (.keep [0, 4] (.cond (.tmp 4) (.keep [] (.seq (.ops f10r2)
  (.keep [2] .ret))) .skip)))
  (.keep [0] (.seq (.ops f10r3)
  (.keep [2] .ret))))))

def f10 : AFn := ⟨8, [.tmp 2], f10b⟩

theorem f10_ok : compFn Try.prog 10 = some f10.strip := by kernel_rfl

/- function 11: weirhouse/weirhousekeep.PaceParts$1; parameters 1; operations that are not compiled: 0 -/
def f11r0 : List AInstr := [
    ⟨(some 6), none, .alloc [.slice none 0 0, .int .i64 0, .int .i64 0, .int .i64 0, .int .i64 0, .int .i64 0, .int .i64 0, .int .i64 0, .int .i64 0, .int .i64 0]⟩,
    ⟨(some 7), none, .mov (.const (.int .i64 0))⟩]

def f11r1 : List AInstr := [
    ⟨(some 14), none, .load none (.tmp 1)⟩,
    ⟨(some 15), none, .callF 10 [.tmp 14]⟩,
    ⟨(some 8), none, .mov (.tmp 15)⟩]

def f11r2 : List AInstr := [
    ⟨(some 16), none, .mov (.tmp 0)⟩,
    ⟨(some 17), none, .len (.tmp 16)⟩,
    ⟨(some 18), none, .mov (.const (.int .i64 0))⟩]

def f11r3 : List AInstr := [
    ⟨(some 19), none, .ibin .lss (.tmp 18) (.tmp 17)⟩]

def f11r4 : List AInstr := [
    ⟨(some 20), none, .indexAddr 1 (.tmp 16) (.tmp 18)⟩,
    ⟨(some 21), none, .load none (.tmp 20)⟩,
    ⟨(some 10), none, .mov (.tmp 21)⟩]

def f11r5 : List AInstr := [
    ⟨(some 22), none, .mov (.tmp 8)⟩,
    ⟨(some 23), none, .mov (.tmp 10)⟩,
    ⟨(some 24), none, .build [.int .i64 0, .int .i64 0] [(0, 1, (.const (.int .i64 3))), (1, 1, (.tmp 23))]⟩,
    ⟨(some 25), none, .buildSlice 2 1 [.int .i64 0, .int .i64 0] [(0, 2, (.tmp 24))]⟩,
    ⟨(some 26), none, .append 2 16 (.tmp 22) (.tmp 25)⟩,
    ⟨(some 8), none, .mov (.tmp 26)⟩]

def f11r6 : List AInstr := [
    ⟨(some 27), none, .ibin .add (.tmp 18) (.const (.int .i64 1))⟩,
    ⟨(some 18), none, .mov (.tmp 27)⟩]

/-- live: [2, 3, 4, 6, 8, 16, 17, 18] -/
def f11l0 : ACode := (.seq (.ops f11r3)
  (.keep [2, 3, 4, 6, 8, 16, 17, 18, 19] (.seq (.cond (.tmp 19) .skip (.exit 0))
  (.keep [2, 3, 4, 6, 8, 16, 17, 18] (.seq (.block 1 (.seq (.ops f11r4)
  (.keep [2, 3, 4, 6, 8, 10, 16, 17, 18] (.ops f11r5))))
  (.keep [2, 3, 4, 6, 8, 16, 17, 18] (.ops f11r6)))))))

def f11r8 : List AInstr := [
    ⟨(some 29), none, .load none (.tmp 2)⟩,
    ⟨(some 30), none, .load none (.tmp 3)⟩,
    ⟨(some 31), none, .load none (.tmp 4)⟩,
    ⟨(some 32), none, .mov (.tmp 8)⟩,
    ⟨(some 33), none, .callF 9 [.tmp 29, .tmp 30, .tmp 31, .tmp 32]⟩,
    ⟨(some 28), none, .mov (.tmp 33)⟩,
    ⟨(some 34), none, .extract 0 (.tmp 28)⟩,
    ⟨(some 35), none, .extract 1 (.tmp 28)⟩,
    ⟨(some 36), none, .extract 2 (.tmp 28)⟩,
    ⟨(some 12), none, .alloc [.slice none 0 0, .int .i64 0, .int .i64 0, .int .i64 0, .int .i64 0, .int .i64 0, .int .i64 0, .int .i64 0, .int .i64 0, .int .i64 0]⟩,
    ⟨(some 11), none, .mov (.tmp 34)⟩,
    ⟨none, none, .store 10 (.tmp 12) (.tmp 35)⟩,
    ⟨(some 13), none, .mov (.tmp 36)⟩]

def f11r9 : List AInstr := [
    ⟨(some 37), none, .load (some 10) (.tmp 12)⟩,
    ⟨(some 38), none, .mov (.tmp 13)⟩,
    ⟨none, none, .store 10 (.tmp 6) (.tmp 37)⟩,
    ⟨(some 7), none, .mov (.tmp 38)⟩]

def f11b : ACode := (.seq (.ops f11r0)
  (.keep [0, 1, 2, 3, 4, 6] (.seq (.ops f11r1)
  (.keep [0, 2, 3, 4, 6, 8] (.seq (.seq (.ops f11r2)
  (.keep [2, 3, 4, 6, 8, 16, 17, 18] (.block 0 (.loop f11l0))))
  (.keep [2, 3, 4, 6, 8] (.seq (.ops f11r8)
  (.keep [6, 12, 13] (.seq (.ops f11r9)
  (.keep [6, 7] .ret))))))))))

def f11 : AFn := ⟨39, [.cell 6 (some 10), .tmp 7], f11b⟩

theorem f11_ok : compFn Try.prog 11 = some f11.strip := by kernel_rfl

/- function 12: weirhouse/weirhouseref.SamePaced; parameters 2; operations that are not compiled: 0 -/
def f12r0 : List AInstr := [
    ⟨(some 2), none, .box (.tmp 0)⟩,
    ⟨(some 3), none, .box (.tmp 1)⟩,
    ⟨(some 4), none, .mov (.const (.bool false))⟩]

def f12r1 : List AInstr := [
    ⟨(some 5), none, .fieldAddr 0 (.tmp 2)⟩,
    ⟨(some 6), none, .load (some 4) (.tmp 5)⟩,
    ⟨(some 7), none, .fieldAddr 0 (.tmp 3)⟩,
    ⟨(some 8), none, .load (some 4) (.tmp 7)⟩,
    ⟨(some 9), none, .callF 19 [.tmp 6, .tmp 8]⟩,
    ⟨(some 10), none, .mov (.tmp 9)⟩,
    ⟨(some 11), (some (10, true)), .fieldAddr 4 (.tmp 2)⟩,
    ⟨(some 12), (some (10, true)), .load (some 5) (.tmp 11)⟩,
    ⟨(some 13), (some (10, true)), .fieldAddr 4 (.tmp 3)⟩,
    ⟨(some 14), (some (10, true)), .load (some 5) (.tmp 13)⟩,
    ⟨(some 15), (some (10, true)), .eqA false [false, false, false, false, false] (.tmp 12) (.tmp 14)⟩,
    ⟨(some 16), none, .pick (.tmp 10) (.tmp 15) (.const (.bool false))⟩,
    ⟨(some 17), none, .mov (.tmp 16)⟩,
    ⟨(some 18), (some (17, true)), .fieldAddr 9 (.tmp 2)⟩,
    ⟨(some 19), (some (17, true)), .load none (.tmp 18)⟩,
    ⟨(some 20), (some (17, true)), .fieldAddr 9 (.tmp 3)⟩,
    ⟨(some 21), (some (17, true)), .load none (.tmp 20)⟩,
    ⟨(some 22), (some (17, true)), .ibin .eql (.tmp 19) (.tmp 21)⟩,
    ⟨(some 23), none, .pick (.tmp 17) (.tmp 22) (.const (.bool false))⟩,
    ⟨(some 4), none, .mov (.tmp 23)⟩]

def f12b : ACode := (.seq (.ops f12r0)
  (.keep [2, 3] (.seq (.ops f12r1)
  (.keep [4] .ret))))

def f12 : AFn := ⟨24, [.tmp 4], f12b⟩

theorem f12_ok : compFn Try.prog 12 = some f12.strip := by kernel_rfl

/- function 13: slices.Equal[[]int,int]; parameters 2; operations that are not compiled: 0 -/
def f13r0 : List AInstr := [
    ⟨(some 4), none, .mov (.const (.bool false))⟩]

def f13r1 : List AInstr := [
    ⟨(some 6), none, .mov (.tmp 0)⟩,
    ⟨(some 7), none, .len (.tmp 6)⟩,
    ⟨(some 8), none, .mov (.tmp 1)⟩,
    ⟨(some 9), none, .len (.tmp 8)⟩,
    ⟨(some 10), none, .ibin .neq (.tmp 7) (.tmp 9)⟩]

def f13r2 : List AInstr := [
    ⟨(some 4), none, .mov (.const (.bool false))⟩]

def f13r3 : List AInstr := [
    ⟨(some 11), none, .mov (.tmp 0)⟩,
    ⟨(some 12), none, .len (.tmp 11)⟩,
    ⟨(some 13), none, .mov (.const (.int .i64 0))⟩]

def f13r4 : List AInstr := [
    ⟨(some 14), none, .ibin .lss (.tmp 13) (.tmp 12)⟩]

def f13r5 : List AInstr := [
    ⟨(some 15), none, .mov (.tmp 13)⟩,
    ⟨(some 5), none, .mov (.tmp 15)⟩]

def f13r6 : List AInstr := [
    ⟨(some 16), none, .mov (.tmp 0)⟩,
    ⟨(some 17), none, .mov (.tmp 5)⟩,
    ⟨(some 18), none, .indexAddr 1 (.tmp 16) (.tmp 17)⟩,
    ⟨(some 19), none, .load none (.tmp 18)⟩,
    ⟨(some 20), none, .mov (.tmp 1)⟩,
    ⟨(some 21), none, .mov (.tmp 5)⟩,
    ⟨(some 22), none, .indexAddr 1 (.tmp 20) (.tmp 21)⟩,
    ⟨(some 23), none, .load none (.tmp 22)⟩,
    ⟨(some 24), none, .ibin .neq (.tmp 19) (.tmp 23)⟩]

def f13r7 : List AInstr := [
    ⟨(some 4), none, .mov (.const (.bool false))⟩]

def f13r8 : List AInstr := [
    ⟨(some 25), none, .ibin .add (.tmp 13) (.const (.int .i64 1))⟩,
    ⟨(some 13), none, .mov (.tmp 25)⟩]

/-- live: [0, 1, 12, 13] -/
def f13l0 : ACode := (.seq (.ops f13r4)
  (.keep [0, 1, 12, 13, 14] (.seq (.cond (.tmp 14) .skip (.exit 0))
  (.keep [0, 1, 12, 13] (.seq (.block 1 (.seq (.ops f13r5)
  (.keep [0, 1, 5, 12, 13] (.seq (.draw f13r6 [(0, 0, false), (0, 0, false), (0, 0, false), (0, 0, false), (0, 0, false), (0, 0, false), (0, 0, false), (0, 0, false), (0, 0, false)])
  (.keep [0, 1, 12, 13, 24] (.cond (.tmp 24) (.keep [] (.seq (.ops f13r7)
  (.keep [4] .ret))) .skip))))))
  (.keep [0, 1, 12, 13] (.ops f13r8)))))))

def f13r10 : List AInstr := [
    ⟨(some 4), none, .mov (.const (.bool true))⟩]

def f13b : ACode := (.seq (.ops f13r0)
  (.keep [0, 1] (.seq (.seq (.ops f13r1)
  (.keep [0, 1, 10] (.cond (.tmp 10) (.keep [] (.seq (.ops f13r2)
  (.keep [4] .ret))) .skip)))
  (.keep [0, 1] (.seq (.seq (.ops f13r3)
  (.keep [0, 1, 12, 13] (.block 0 (.loop f13l0))))
  (.keep [] (.seq (.ops f13r10)
  (.keep [4] .ret))))))))

def f13 : AFn := ⟨26, [.tmp 4], f13b⟩

theorem f13_ok : compFn Try.prog 13 = some f13.strip := by kernel_rfl

/- function 14: slices.Concat[[]int,int]; parameters 1; operations that are not compiled: 2 -/
def f14r0 : List AInstr := [
    ⟨(some 2), none, .mov (.const (.slice none 0 0))⟩]

def f14r1 : List AInstr := [
    ⟨(some 3), none, .mov (.const (.int .i64 0))⟩]

def f14r2 : List AInstr := [
    ⟨(some 9), none, .mov (.tmp 0)⟩,
    ⟨(some 10), none, .len (.tmp 9)⟩,
    ⟨(some 11), none, .mov (.const (.int .i64 0))⟩]

def f14r3 : List AInstr := [
    ⟨(some 12), none, .ibin .lss (.tmp 11) (.tmp 10)⟩]

def f14r4 : List AInstr := [
    ⟨(some 13), none, .indexAddr 1 (.tmp 9) (.tmp 11)⟩,
    ⟨(some 14), none, .load none (.tmp 13)⟩,
    ⟨(some 5), none, .mov (.tmp 14)⟩]

def f14r5 : List AInstr := [
    ⟨(some 15), none, .mov (.tmp 3)⟩,
    ⟨(some 16), none, .mov (.tmp 5)⟩,
    ⟨(some 17), none, .len (.tmp 16)⟩,
    ⟨(some 18), none, .ibin .add (.tmp 15) (.tmp 17)⟩,
    ⟨(some 3), none, .mov (.tmp 18)⟩]

def f14r6 : List AInstr := [
    ⟨(some 19), none, .mov (.tmp 3)⟩,
    ⟨(some 20), none, .ibin .lss (.tmp 19) (.const (.int .i64 0))⟩]

def f14r7 : List AInstr := [
    ⟨(some 21), none, .bad⟩,
    ⟨none, none, .bad⟩]

def f14r8 : List AInstr := [
    ⟨(some 22), none, .ibin .add (.tmp 11) (.const (.int .i64 1))⟩,
    ⟨(some 11), none, .mov (.tmp 22)⟩]

/-- live: [0, 3, 9, 10, 11] -/
def f14l0 : ACode := (.seq (.ops f14r3)
  (.keep [0, 3, 9, 10, 11, 12] (.seq (.cond (.tmp 12) .skip (.exit 0))
  (.keep [0, 3, 9, 10, 11] (.seq (.block 1 (.seq (.ops f14r4)
  (.keep [0, 3, 5, 9, 10, 11] (.seq (.ops f14r5)
  (.keep [0, 3, 9, 10, 11] (.seq (.ops f14r6)
  (.keep [0, 3, 9, 10, 11, 20] (.cond (.tmp 20) (.keep [0, 3, 9, 10, 11] (.ops f14r7)) .skip))))))))
  (.keep [0, 3, 9, 10, 11] (.ops f14r8)))))))

def f14r10 : List AInstr := [
    ⟨(some 23), none, .mov (.tmp 3)⟩,
    ⟨(some 24), none, .callF 20 [.const (.slice none 0 0), .tmp 23]⟩,
    ⟨(some 6), none, .mov (.tmp 24)⟩]

def f14r11 : List AInstr := [
    ⟨(some 25), none, .mov (.tmp 0)⟩,
    ⟨(some 26), none, .len (.tmp 25)⟩,
    ⟨(some 27), none, .mov (.const (.int .i64 0))⟩]

def f14r12 : List AInstr := [
    ⟨(some 28), none, .ibin .lss (.tmp 27) (.tmp 26)⟩]

def f14r13 : List AInstr := [
    ⟨(some 29), none, .indexAddr 1 (.tmp 25) (.tmp 27)⟩,
    ⟨(some 30), none, .load none (.tmp 29)⟩,
    ⟨(some 8), none, .mov (.tmp 30)⟩]

def f14r14 : List AInstr := [
    ⟨(some 31), none, .mov (.tmp 6)⟩,
    ⟨(some 32), none, .mov (.tmp 8)⟩,
    ⟨(some 33), none, .append 1 8 (.tmp 31) (.tmp 32)⟩,
    ⟨(some 6), none, .mov (.tmp 33)⟩]

def f14r15 : List AInstr := [
    ⟨(some 34), none, .ibin .add (.tmp 27) (.const (.int .i64 1))⟩,
    ⟨(some 27), none, .mov (.tmp 34)⟩]

/-- live: [6, 25, 26, 27] -/
def f14l1 : ACode := (.seq (.ops f14r12)
  (.keep [6, 25, 26, 27, 28] (.seq (.cond (.tmp 28) .skip (.exit 2))
  (.keep [6, 25, 26, 27] (.seq (.block 3 (.seq (.ops f14r13)
  (.keep [6, 8, 25, 26, 27] (.ops f14r14))))
  (.keep [6, 25, 26, 27] (.ops f14r15)))))))

def f14r17 : List AInstr := [
    ⟨(some 35), none, .mov (.tmp 6)⟩,
    ⟨(some 2), none, .mov (.tmp 35)⟩]

def f14b : ACode := (.seq (.ops f14r0)
  (.keep [0] (.seq (.ops f14r1)
  (.keep [0, 3] (.seq (.seq (.ops f14r2)
  (.keep [0, 3, 9, 10, 11] (.block 0 (.loop f14l0))))
  (.keep [0, 3] (.seq (.ops f14r10)
  (.keep [0, 6] (.seq (.seq (.ops f14r11)
  (.keep [6, 25, 26, 27] (.block 2 (.loop f14l1))))
  (.keep [6] (.seq (.ops f14r17)
  (.keep [2] .ret))))))))))))

def f14 : AFn := ⟨36, [.tmp 2], f14b⟩

theorem f14_ok : compFn Try.prog 14 = some f14.strip := by kernel_rfl

/- function 15: weirhouse/pace.Wrong; parameters 3; operations that are not compiled: 0 -/
def f15r0 : List AInstr := [
    ⟨(some 6), none, .mov (.const (.int .i64 0))⟩]

def f15r1 : List AInstr := [
    ⟨(some 10), none, .mov (.tmp 0)⟩,
    ⟨(some 11), none, .mov (.tmp 1)⟩,
    ⟨(some 12), none, .mov (.tmp 2)⟩,
    ⟨(some 13), none, .callF 16 [.tmp 10, .tmp 11, .tmp 12]⟩,
    ⟨(some 9), none, .mov (.tmp 13)⟩,
    ⟨(some 14), none, .extract 0 (.tmp 9)⟩,
    ⟨(some 15), none, .extract 1 (.tmp 9)⟩,
    ⟨(some 7), none, .alloc [.int .i64 0, .int .i64 0, .int .i64 0, .int .i64 0, .int .i64 0]⟩,
    ⟨none, none, .store 5 (.tmp 7) (.tmp 14)⟩,
    ⟨(some 8), none, .mov (.tmp 15)⟩]

def f15r2 : List AInstr := [
    ⟨(some 16), none, .mov (.tmp 8)⟩,
    ⟨(some 17), none, .ibin .neq (.tmp 16) (.const (.int .i64 0))⟩]

def f15r3 : List AInstr := [
    ⟨(some 18), none, .mov (.tmp 8)⟩,
    ⟨(some 6), none, .mov (.tmp 18)⟩]

def f15r4 : List AInstr := [
    ⟨(some 19), none, .mov (.tmp 2)⟩,
    ⟨(some 20), none, .ibin .lss (.tmp 19) (.const (.int .i64 1500))⟩]

def f15r5 : List AInstr := [
    ⟨(some 6), none, .mov (.const (.int .i64 2))⟩]

def f15r6 : List AInstr := [
    ⟨(some 6), none, .mov (.const (.int .i64 0))⟩]

def f15b : ACode := (.seq (.ops f15r0)
  (.keep [0, 1, 2] (.seq (.seq (.ops f15r1)
  (.keep [2, 8] (.seq (.ops f15r2)
  (.keep [2, 8, 17] (.cond (.tmp 17) (.keep [8] (.seq (.ops f15r3)
  (.keep [6] .ret))) .skip)))))
  (.keep [2] (.seq (.seq (.ops f15r4)
  (.keep [20] (.cond (.tmp 20) (.keep [] (.seq (.ops f15r5)
  (.keep [6] .ret))) .skip)))
  (.keep [] (.seq (.ops f15r6)
  (.keep [6] .ret))))))))

def f15 : AFn := ⟨21, [.tmp 6], f15b⟩

theorem f15_ok : compFn Try.prog 15 = some f15.strip := by kernel_rfl

/- function 16: weirhouse/bucket.Full; parameters 3; operations that are not compiled: 0 -/
def f16r0 : List AInstr := [
    ⟨(some 6), none, .alloc [.int .i64 0, .int .i64 0, .int .i64 0, .int .i64 0, .int .i64 0]⟩,
    ⟨(some 7), none, .mov (.const (.int .i64 0))⟩]

def f16r1 : List AInstr := [
    ⟨(some 9), none, .mov (.tmp 0)⟩,
    ⟨(some 10), none, .mov (.tmp 1)⟩,
    ⟨(some 11), none, .mov (.tmp 2)⟩,
    ⟨(some 12), none, .build [.int .i64 0, .int .i64 0, .int .i64 0, .int .i64 0, .int .i64 0] [(0, 1, (.tmp 9)), (1, 1, (.tmp 10)), (2, 1, (.tmp 11))]⟩,
    ⟨(some 8), none, .alloc [.int .i64 0, .int .i64 0, .int .i64 0, .int .i64 0, .int .i64 0]⟩,
    ⟨none, none, .store 5 (.tmp 8) (.tmp 12)⟩]

def f16r2 : List AInstr := [
    ⟨(some 13), none, .load (some 5) (.tmp 8)⟩,
    ⟨(some 14), none, .callF 21 [.tmp 13]⟩,
    ⟨(some 15), none, .un .not (.tmp 14)⟩]

def f16r3 : List AInstr := [
    ⟨(some 16), none, .build [.int .i64 0, .int .i64 0, .int .i64 0, .int .i64 0, .int .i64 0] []⟩,
    ⟨none, none, .store 5 (.tmp 6) (.tmp 16)⟩,
    ⟨(some 7), none, .mov (.const (.int .i64 2))⟩]

def f16r4 : List AInstr := [
    ⟨(some 17), none, .mov (.tmp 2)⟩,
    ⟨(some 18), none, .mov (.tmp 1)⟩,
    ⟨(some 19), none, .ibin .mul (.tmp 17) (.tmp 18)⟩,
    ⟨(some 20), none, .fieldAddr 3 (.tmp 8)⟩,
    ⟨none, none, .store 1 (.tmp 20) (.tmp 19)⟩]

def f16r5 : List AInstr := [
    ⟨(some 21), none, .load (some 5) (.tmp 8)⟩,
    ⟨none, none, .store 5 (.tmp 6) (.tmp 21)⟩,
    ⟨(some 7), none, .mov (.const (.int .i64 0))⟩]

def f16b : ACode := (.seq (.ops f16r0)
  (.keep [0, 1, 2, 6] (.seq (.ops f16r1)
  (.keep [1, 2, 6, 8] (.seq (.seq (.ops f16r2)
  (.keep [1, 2, 6, 8, 15] (.cond (.tmp 15) (.keep [6] (.seq (.ops f16r3)
  (.keep [6, 7] .ret))) .skip)))
  (.keep [1, 2, 6, 8] (.seq (.ops f16r4)
  (.keep [6, 8] (.seq (.ops f16r5)
  (.keep [6, 7] .ret))))))))))

def f16 : AFn := ⟨22, [.cell 6 (some 5), .tmp 7], f16b⟩

theorem f16_ok : compFn Try.prog 16 = some f16.strip := by kernel_rfl

/- function 17: weirhouse/pace.do; parameters 2; operations that are not compiled: 0 -/
def f17r0 : List AInstr := [
    ⟨(some 2), none, .box (.tmp 0)⟩,
    ⟨(some 3), none, .box (.tmp 1)⟩,
    ⟨(some 4), none, .alloc [.slice none 0 0, .int .i64 0, .int .i64 0, .int .i64 0, .int .i64 0, .int .i64 0, .int .i64 0, .int .i64 0, .int .i64 0, .int .i64 0]⟩,
    ⟨(some 5), none, .alloc [.int .i64 0, .slice none 0 0]⟩]

def f17r1 : List AInstr := [
    ⟨(some 14), none, .func (.func 22) [] [.tmp 2]⟩,
    ⟨(some 6), none, .mov (.tmp 14)⟩]

def f17r2 : List AInstr := [
    ⟨(some 15), none, .fieldAddr 0 (.tmp 3)⟩,
    ⟨(some 16), none, .load none (.tmp 15)⟩]

def f17r3 : List AInstr := [
    ⟨(some 22), none, .ibin .eql (.tmp 16) (.const (.int .i64 1))⟩,
    ⟨(some 21), none, .mov (.tmp 22)⟩]

def f17r4 : List AInstr := [
    ⟨(some 24), none, .fieldAddr 0 (.tmp 2)⟩,
    ⟨(some 25), none, .load (some 4) (.tmp 24)⟩,
    ⟨(some 26), none, .fieldAddr 1 (.tmp 3)⟩,
    ⟨(some 27), none, .load none (.tmp 26)⟩,
    ⟨(some 28), none, .build [.int .i64 0, .int .i64 0] [(0, 1, (.const (.int .i64 1))), (1, 1, (.tmp 27))]⟩,
    ⟨(some 29), none, .callF 23 [.tmp 25, .tmp 28]⟩,
    ⟨(some 23), none, .mov (.tmp 29)⟩,
    ⟨(some 30), none, .extract 0 (.tmp 23)⟩,
    ⟨(some 31), none, .extract 1 (.tmp 23)⟩,
    ⟨(some 32), none, .extract 2 (.tmp 23)⟩,
    ⟨(some 7), none, .alloc [.slice none 0 0, .int .i64 0, .int .i64 0, .int .i64 0]⟩,
    ⟨none, none, .store 4 (.tmp 7) (.tmp 30)⟩,
    ⟨(some 8), none, .mov (.tmp 31)⟩,
    ⟨(some 9), none, .mov (.tmp 32)⟩]

def f17r5 : List AInstr := [
    ⟨(some 33), none, .mov (.tmp 9)⟩,
    ⟨(some 34), none, .ibin .neq (.tmp 33) (.const (.int .i64 0))⟩]

def f17r6 : List AInstr := [
    ⟨(some 35), none, .mov (.tmp 6)⟩,
    ⟨(some 36), none, .mov (.tmp 9)⟩,
    ⟨(some 37), none, .callV (.tmp 35) [.tmp 36]⟩,
    ⟨(some 38), none, .extract 0 (.tmp 37)⟩,
    ⟨(some 39), none, .extract 1 (.tmp 37)⟩,
    ⟨none, none, .store 10 (.tmp 4) (.tmp 38)⟩,
    ⟨none, none, .store 2 (.tmp 5) (.tmp 39)⟩]

def f17r7 : List AInstr := [
    ⟨(some 40), none, .load (some 4) (.tmp 7)⟩,
    ⟨(some 41), none, .fieldAddr 0 (.tmp 2)⟩,
    ⟨none, none, .store 4 (.tmp 41) (.tmp 40)⟩]

def f17r8 : List AInstr := [
    ⟨(some 42), none, .mov (.tmp 8)⟩,
    ⟨(some 43), none, .ibin .eql (.tmp 42) (.const (.int .i64 0))⟩]

def f17r9 : List AInstr := [
    ⟨(some 44), none, .mov (.tmp 6)⟩,
    ⟨(some 45), none, .callV (.tmp 44) [.const (.int .i64 4)]⟩,
    ⟨(some 46), none, .extract 0 (.tmp 45)⟩,
    ⟨(some 47), none, .extract 1 (.tmp 45)⟩,
    ⟨none, none, .store 10 (.tmp 4) (.tmp 46)⟩,
    ⟨none, none, .store 2 (.tmp 5) (.tmp 47)⟩]

def f17r10 : List AInstr := [
    ⟨(some 49), none, .ibin .eql (.tmp 16) (.const (.int .i64 2))⟩,
    ⟨(some 48), none, .mov (.tmp 49)⟩]

def f17r11 : List AInstr := [
    ⟨(some 50), none, .fieldAddr 1 (.tmp 3)⟩,
    ⟨(some 51), none, .load none (.tmp 50)⟩,
    ⟨(some 52), none, .ibin .lss (.tmp 51) (.const (.int .i64 0))⟩,
    ⟨(some 53), none, .mov (.tmp 52)⟩,
    ⟨(some 54), (some (53, false)), .fieldAddr 1 (.tmp 3)⟩,
    ⟨(some 55), (some (53, false)), .load none (.tmp 54)⟩,
    ⟨(some 56), (some (53, false)), .ibin .gtr (.tmp 55) (.const (.int .i64 1099511627776))⟩,
    ⟨(some 57), none, .pick (.tmp 53) (.const (.bool true)) (.tmp 56)⟩]

def f17r12 : List AInstr := [
    ⟨(some 58), none, .mov (.tmp 6)⟩,
    ⟨(some 59), none, .callV (.tmp 58) [.const (.int .i64 2)]⟩,
    ⟨(some 60), none, .extract 0 (.tmp 59)⟩,
    ⟨(some 61), none, .extract 1 (.tmp 59)⟩,
    ⟨none, none, .store 10 (.tmp 4) (.tmp 60)⟩,
    ⟨none, none, .store 2 (.tmp 5) (.tmp 61)⟩]

def f17r13 : List AInstr := [
    ⟨(some 63), none, .fieldAddr 4 (.tmp 2)⟩,
    ⟨(some 64), none, .load (some 5) (.tmp 63)⟩,
    ⟨(some 65), none, .fieldAddr 4 (.tmp 2)⟩,
    ⟨(some 66), none, .fieldAddr 4 (.tmp 65)⟩,
    ⟨(some 67), none, .load none (.tmp 66)⟩,
    ⟨(some 68), none, .fieldAddr 1 (.tmp 3)⟩,
    ⟨(some 69), none, .load none (.tmp 68)⟩,
    ⟨(some 70), none, .ibin .add (.tmp 67) (.tmp 69)⟩,
    ⟨(some 71), none, .minmax false [.tmp 70, .const (.int .i64 1099511627776)]⟩,
    ⟨(some 72), none, .callF 24 [.tmp 64, .tmp 71]⟩,
    ⟨(some 62), none, .mov (.tmp 72)⟩,
    ⟨(some 73), none, .extract 0 (.tmp 62)⟩,
    ⟨(some 74), none, .extract 1 (.tmp 62)⟩,
    ⟨(some 10), none, .alloc [.int .i64 0, .int .i64 0, .int .i64 0, .int .i64 0, .int .i64 0]⟩,
    ⟨none, none, .store 5 (.tmp 10) (.tmp 73)⟩,
    ⟨(some 11), none, .mov (.tmp 74)⟩]

def f17r14 : List AInstr := [
    ⟨(some 75), none, .mov (.tmp 11)⟩,
    ⟨(some 76), none, .ibin .neq (.tmp 75) (.const (.int .i64 0))⟩]

def f17r15 : List AInstr := [
    ⟨(some 77), none, .mov (.tmp 6)⟩,
    ⟨(some 78), none, .mov (.tmp 11)⟩,
    ⟨(some 79), none, .callV (.tmp 77) [.tmp 78]⟩,
    ⟨(some 80), none, .extract 0 (.tmp 79)⟩,
    ⟨(some 81), none, .extract 1 (.tmp 79)⟩,
    ⟨none, none, .store 10 (.tmp 4) (.tmp 80)⟩,
    ⟨none, none, .store 2 (.tmp 5) (.tmp 81)⟩]

def f17r16 : List AInstr := [
    ⟨(some 82), none, .load (some 5) (.tmp 10)⟩,
    ⟨(some 83), none, .fieldAddr 4 (.tmp 2)⟩,
    ⟨none, none, .store 5 (.tmp 83) (.tmp 82)⟩]

def f17r17 : List AInstr := [
    ⟨(some 85), none, .ibin .eql (.tmp 16) (.const (.int .i64 3))⟩,
    ⟨(some 84), none, .mov (.tmp 85)⟩]

def f17r18 : List AInstr := [
    ⟨(some 86), none, .fieldAddr 1 (.tmp 3)⟩,
    ⟨(some 87), none, .load none (.tmp 86)⟩,
    ⟨(some 88), none, .ibin .lss (.tmp 87) (.const (.int .i64 0))⟩,
    ⟨(some 89), none, .mov (.tmp 88)⟩,
    ⟨(some 90), (some (89, false)), .fieldAddr 1 (.tmp 3)⟩,
    ⟨(some 91), (some (89, false)), .load none (.tmp 90)⟩,
    ⟨(some 92), (some (89, false)), .ibin .gtr (.tmp 91) (.const (.int .i64 1073741824))⟩,
    ⟨(some 93), none, .pick (.tmp 89) (.const (.bool true)) (.tmp 92)⟩]

def f17r19 : List AInstr := [
    ⟨(some 94), none, .mov (.tmp 6)⟩,
    ⟨(some 95), none, .callV (.tmp 94) [.const (.int .i64 2)]⟩,
    ⟨(some 96), none, .extract 0 (.tmp 95)⟩,
    ⟨(some 97), none, .extract 1 (.tmp 95)⟩,
    ⟨none, none, .store 10 (.tmp 4) (.tmp 96)⟩,
    ⟨none, none, .store 2 (.tmp 5) (.tmp 97)⟩]

def f17r20 : List AInstr := [
    ⟨(some 99), none, .load (some 10) (.tmp 2)⟩,
    ⟨(some 100), none, .fieldAddr 1 (.tmp 3)⟩,
    ⟨(some 101), none, .load none (.tmp 100)⟩,
    ⟨(some 102), none, .callF 25 [.tmp 99, .tmp 101]⟩,
    ⟨(some 98), none, .mov (.tmp 102)⟩,
    ⟨(some 103), none, .extract 0 (.tmp 98)⟩,
    ⟨(some 104), none, .extract 1 (.tmp 98)⟩,
    ⟨(some 12), none, .alloc [.slice none 0 0, .int .i64 0, .int .i64 0, .int .i64 0, .int .i64 0, .int .i64 0, .int .i64 0, .int .i64 0, .int .i64 0, .int .i64 0]⟩,
    ⟨none, none, .store 10 (.tmp 12) (.tmp 103)⟩,
    ⟨(some 13), none, .mov (.tmp 104)⟩]

def f17r21 : List AInstr := [
    ⟨(some 105), none, .load (some 10) (.tmp 12)⟩,
    ⟨(some 106), none, .mov (.tmp 13)⟩,
    ⟨(some 107), none, .build [.int .i64 0, .slice none 0 0] [(1, 1, (.tmp 106))]⟩,
    ⟨none, none, .store 10 (.tmp 4) (.tmp 105)⟩,
    ⟨none, none, .store 2 (.tmp 5) (.tmp 107)⟩]

def f17r22 : List AInstr := [
    ⟨(some 17), none, .mov (.tmp 6)⟩,
    ⟨(some 18), none, .callV (.tmp 17) [.const (.int .i64 5)]⟩,
    ⟨(some 19), none, .extract 0 (.tmp 18)⟩,
    ⟨(some 20), none, .extract 1 (.tmp 18)⟩,
    ⟨none, none, .store 10 (.tmp 4) (.tmp 19)⟩,
    ⟨none, none, .store 2 (.tmp 5) (.tmp 20)⟩]

def f17r23 : List AInstr := [
    ⟨(some 108), none, .load (some 10) (.tmp 2)⟩,
    ⟨(some 109), none, .build [.int .i64 0, .slice none 0 0] []⟩,
    ⟨none, none, .store 10 (.tmp 4) (.tmp 108)⟩,
    ⟨none, none, .store 2 (.tmp 5) (.tmp 109)⟩]

def f17b : ACode := (.seq (.ops f17r0)
  (.keep [2, 3, 4, 5] (.seq (.ops f17r1)
  (.keep [2, 3, 4, 5, 6] (.seq (.seq (.ops f17r2)
  (.keep [2, 3, 4, 5, 6, 16] (.block 0 (.seq (.ops f17r3)
  (.keep [2, 3, 4, 5, 6, 16, 21] (.cond (.tmp 21) (.keep [2, 3, 4, 5, 6] (.seq (.ops f17r4)
  (.keep [2, 4, 5, 6, 7, 8, 9] (.seq (.seq (.ops f17r5)
  (.keep [2, 4, 5, 6, 7, 8, 9, 34] (.cond (.tmp 34) (.keep [4, 5, 6, 9] (.seq (.ops f17r6)
  (.keep [4, 5] .ret))) .skip)))
  (.keep [2, 4, 5, 6, 7, 8] (.seq (.ops f17r7)
  (.keep [2, 4, 5, 6, 8] (.seq (.ops f17r8)
  (.keep [2, 4, 5, 6, 43] (.cond (.tmp 43) (.keep [4, 5, 6] (.seq (.ops f17r9)
  (.keep [4, 5] .ret))) .skip)))))))))) (.keep [2, 3, 4, 5, 6, 16] (.seq (.ops f17r10)
  (.keep [2, 3, 4, 5, 6, 16, 48] (.cond (.tmp 48) (.keep [2, 3, 4, 5, 6] (.seq (.seq (.ops f17r11)
  (.keep [2, 3, 4, 5, 6, 57] (.cond (.tmp 57) (.keep [4, 5, 6] (.seq (.ops f17r12)
  (.keep [4, 5] .ret))) .skip)))
  (.keep [2, 3, 4, 5, 6] (.seq (.ops f17r13)
  (.keep [2, 4, 5, 6, 10, 11] (.seq (.seq (.ops f17r14)
  (.keep [2, 4, 5, 6, 10, 11, 76] (.cond (.tmp 76) (.keep [4, 5, 6, 11] (.seq (.ops f17r15)
  (.keep [4, 5] .ret))) .skip)))
  (.keep [2, 4, 5, 10] (.ops f17r16)))))))) (.keep [2, 3, 4, 5, 6, 16] (.seq (.ops f17r17)
  (.keep [2, 3, 4, 5, 6, 84] (.cond (.tmp 84) (.keep [2, 3, 4, 5, 6] (.seq (.seq (.ops f17r18)
  (.keep [2, 3, 4, 5, 6, 93] (.cond (.tmp 93) (.keep [4, 5, 6] (.seq (.ops f17r19)
  (.keep [4, 5] .ret))) .skip)))
  (.keep [2, 3, 4, 5] (.seq (.ops f17r20)
  (.keep [4, 5, 12, 13] (.seq (.ops f17r21)
  (.keep [4, 5] .ret))))))) (.keep [4, 5, 6] (.seq (.ops f17r22)
  (.keep [4, 5] .ret)))))))))))))))))
  (.keep [2, 4, 5] (.seq (.ops f17r23)
  (.keep [4, 5] .ret))))))))

def f17 : AFn := ⟨110, [.cell 4 (some 10), .cell 5 (some 2)], f17b⟩

theorem f17_ok : compFn Try.prog 17 = some f17.strip := by kernel_rfl

/- function 18: slices.Clone[[]int,int]; parameters 1; operations that are not compiled: 0 -/
def f18r0 : List AInstr := [
    ⟨(some 2), none, .mov (.const (.slice none 0 0))⟩]

def f18r1 : List AInstr := [
    ⟨(some 3), none, .mov (.tmp 0)⟩,
    ⟨(some 4), none, .eqS false (.tmp 3) (.const (.slice none 0 0))⟩]

def f18r2 : List AInstr := [
    ⟨(some 2), none, .mov (.const (.slice none 0 0))⟩]

def f18r3 : List AInstr := [
    ⟨(some 5), none, .buildSlice 1 0 [] []⟩,
    ⟨(some 6), none, .mov (.tmp 0)⟩,
    ⟨(some 7), none, .append 1 8 (.tmp 5) (.tmp 6)⟩,
    ⟨(some 2), none, .mov (.tmp 7)⟩]

def f18b : ACode := (.seq (.ops f18r0)
  (.keep [0] (.seq (.seq (.ops f18r1)
  (.keep [0, 4] (.cond (.tmp 4) (.keep [] (.seq (.ops f18r2)
  (.keep [2] .ret))) .skip)))
  (.keep [0] (.seq (.ops f18r3)
  (.keep [2] .ret))))))

def f18 : AFn := ⟨8, [.tmp 2], f18b⟩

theorem f18_ok : compFn Try.prog 18 = some f18.strip := by kernel_rfl

/- function 19: weirhouse/weirhouseref.SameQueue; parameters 2; operations that are not compiled: 0 -/
def f19r0 : List AInstr := [
    ⟨(some 2), none, .box (.tmp 0)⟩,
    ⟨(some 3), none, .box (.tmp 1)⟩,
    ⟨(some 4), none, .mov (.const (.bool false))⟩]

def f19r1 : List AInstr := [
    ⟨(some 6), none, .fieldAddr 0 (.tmp 2)⟩,
    ⟨(some 7), none, .load none (.tmp 6)⟩,
    ⟨(some 8), none, .len (.tmp 7)⟩,
    ⟨(some 9), none, .fieldAddr 0 (.tmp 3)⟩,
    ⟨(some 10), none, .load none (.tmp 9)⟩,
    ⟨(some 11), none, .len (.tmp 10)⟩,
    ⟨(some 12), none, .ibin .neq (.tmp 8) (.tmp 11)⟩]

def f19r2 : List AInstr := [
    ⟨(some 4), none, .mov (.const (.bool false))⟩]

def f19r3 : List AInstr := [
    ⟨(some 13), none, .fieldAddr 0 (.tmp 2)⟩,
    ⟨(some 14), none, .load none (.tmp 13)⟩,
    ⟨(some 15), none, .len (.tmp 14)⟩,
    ⟨(some 16), none, .mov (.const (.int .i64 0))⟩]

def f19r4 : List AInstr := [
    ⟨(some 17), none, .ibin .lss (.tmp 16) (.tmp 15)⟩]

def f19r5 : List AInstr := [
    ⟨(some 18), none, .mov (.tmp 16)⟩,
    ⟨(some 5), none, .mov (.tmp 18)⟩]

def f19r6 : List AInstr := [
    ⟨(some 19), none, .fieldAddr 0 (.tmp 2)⟩,
    ⟨(some 20), none, .load none (.tmp 19)⟩,
    ⟨(some 21), none, .mov (.tmp 5)⟩,
    ⟨(some 22), none, .indexAddr 1 (.tmp 20) (.tmp 21)⟩,
    ⟨(some 23), none, .load none (.tmp 22)⟩,
    ⟨(some 24), none, .fieldAddr 0 (.tmp 3)⟩,
    ⟨(some 25), none, .load none (.tmp 24)⟩,
    ⟨(some 26), none, .mov (.tmp 5)⟩,
    ⟨(some 27), none, .indexAddr 1 (.tmp 25) (.tmp 26)⟩,
    ⟨(some 28), none, .load none (.tmp 27)⟩,
    ⟨(some 29), none, .ibin .neq (.tmp 23) (.tmp 28)⟩]

def f19r7 : List AInstr := [
    ⟨(some 4), none, .mov (.const (.bool false))⟩]

def f19r8 : List AInstr := [
    ⟨(some 30), none, .ibin .add (.tmp 16) (.const (.int .i64 1))⟩,
    ⟨(some 16), none, .mov (.tmp 30)⟩]

/-- live: [2, 3, 15, 16] -/
def f19l0 : ACode := (.seq (.ops f19r4)
  (.keep [2, 3, 15, 16, 17] (.seq (.cond (.tmp 17) .skip (.exit 0))
  (.keep [2, 3, 15, 16] (.seq (.block 1 (.seq (.ops f19r5)
  (.keep [2, 3, 5, 15, 16] (.seq (.draw f19r6 [(0, 0, false), (0, 0, false), (0, 0, false), (0, 0, false), (0, 0, false), (0, 0, false), (0, 0, false), (0, 0, false), (0, 0, false), (0, 0, false), (0, 0, false)])
  (.keep [2, 3, 15, 16, 29] (.cond (.tmp 29) (.keep [] (.seq (.ops f19r7)
  (.keep [4] .ret))) .skip))))))
  (.keep [2, 3, 15, 16] (.ops f19r8)))))))

def f19r10 : List AInstr := [
    ⟨(some 31), none, .fieldAddr 1 (.tmp 2)⟩,
    ⟨(some 32), none, .load none (.tmp 31)⟩,
    ⟨(some 33), none, .fieldAddr 1 (.tmp 3)⟩,
    ⟨(some 34), none, .load none (.tmp 33)⟩,
    ⟨(some 35), none, .ibin .eql (.tmp 32) (.tmp 34)⟩,
    ⟨(some 36), none, .mov (.tmp 35)⟩,
    ⟨(some 37), (some (36, true)), .fieldAddr 2 (.tmp 2)⟩,
    ⟨(some 38), (some (36, true)), .load none (.tmp 37)⟩,
    ⟨(some 39), (some (36, true)), .fieldAddr 2 (.tmp 3)⟩,
    ⟨(some 40), (some (36, true)), .load none (.tmp 39)⟩,
    ⟨(some 41), (some (36, true)), .ibin .eql (.tmp 38) (.tmp 40)⟩,
    ⟨(some 42), none, .pick (.tmp 36) (.tmp 41) (.const (.bool false))⟩,
    ⟨(some 43), none, .mov (.tmp 42)⟩,
    ⟨(some 44), (some (43, true)), .fieldAddr 3 (.tmp 2)⟩,
    ⟨(some 45), (some (43, true)), .load none (.tmp 44)⟩,
    ⟨(some 46), (some (43, true)), .fieldAddr 3 (.tmp 3)⟩,
    ⟨(some 47), (some (43, true)), .load none (.tmp 46)⟩,
    ⟨(some 48), (some (43, true)), .ibin .eql (.tmp 45) (.tmp 47)⟩,
    ⟨(some 49), none, .pick (.tmp 43) (.tmp 48) (.const (.bool false))⟩,
    ⟨(some 4), none, .mov (.tmp 49)⟩]

def f19b : ACode := (.seq (.ops f19r0)
  (.keep [2, 3] (.seq (.seq (.ops f19r1)
  (.keep [2, 3, 12] (.cond (.tmp 12) (.keep [] (.seq (.ops f19r2)
  (.keep [4] .ret))) .skip)))
  (.keep [2, 3] (.seq (.seq (.ops f19r3)
  (.keep [2, 3, 15, 16] (.block 0 (.loop f19l0))))
  (.keep [2, 3] (.seq (.ops f19r10)
  (.keep [4] .ret))))))))

def f19 : AFn := ⟨50, [.tmp 4], f19b⟩

theorem f19_ok : compFn Try.prog 19 = some f19.strip := by kernel_rfl

/- function 20: slices.Grow[[]int,int]; parameters 2; operations that are not compiled: 2 -/
def f20r0 : List AInstr := [
    ⟨(some 4), none, .mov (.const (.slice none 0 0))⟩]

def f20r1 : List AInstr := [
    ⟨(some 5), none, .mov (.tmp 1)⟩,
    ⟨(some 6), none, .ibin .lss (.tmp 5) (.const (.int .i64 0))⟩]

def f20r2 : List AInstr := [
    ⟨(some 7), none, .bad⟩,
    ⟨none, none, .bad⟩]

def f20r3 : List AInstr := [
    ⟨(some 8), none, .mov (.tmp 1)⟩,
    ⟨(some 9), none, .mov (.tmp 0)⟩,
    ⟨(some 10), none, .cap (.tmp 9)⟩,
    ⟨(some 11), none, .mov (.tmp 0)⟩,
    ⟨(some 12), none, .len (.tmp 11)⟩,
    ⟨(some 13), none, .ibin .sub (.tmp 10) (.tmp 12)⟩,
    ⟨(some 14), none, .ibin .sub (.tmp 8) (.tmp 13)⟩,
    ⟨(some 1), none, .mov (.tmp 14)⟩]

def f20r4 : List AInstr := [
    ⟨(some 15), none, .mov (.tmp 1)⟩,
    ⟨(some 16), none, .ibin .gtr (.tmp 15) (.const (.int .i64 0))⟩]

def f20r5 : List AInstr := [
    ⟨(some 17), none, .mov (.tmp 0)⟩,
    ⟨(some 18), none, .mov (.tmp 0)⟩,
    ⟨(some 19), none, .cap (.tmp 18)⟩,
    ⟨(some 20), none, .slice 1 (.tmp 17) none (some (.tmp 19)) none⟩,
    ⟨(some 21), none, .mov (.tmp 1)⟩,
    ⟨(some 22), none, .appendZ 1 8 [.int .i64 0] (.tmp 20) (.tmp 21)⟩,
    ⟨(some 23), none, .mov (.tmp 0)⟩,
    ⟨(some 24), none, .len (.tmp 23)⟩,
    ⟨(some 25), none, .slice 1 (.tmp 22) none (some (.tmp 24)) none⟩,
    ⟨(some 0), none, .mov (.tmp 25)⟩]

def f20r6 : List AInstr := [
    ⟨(some 26), none, .mov (.tmp 0)⟩,
    ⟨(some 4), none, .mov (.tmp 26)⟩]

def f20b : ACode := (.seq (.ops f20r0)
  (.keep [0, 1] (.seq (.seq (.ops f20r1)
  (.keep [0, 1, 6] (.cond (.tmp 6) (.keep [0, 1] (.ops f20r2)) .skip)))
  (.keep [0, 1] (.seq (.seq (.ops f20r3)
  (.keep [0, 1] (.seq (.ops f20r4)
  (.keep [0, 1, 16] (.cond (.tmp 16) (.keep [0, 1] (.ops f20r5)) .skip)))))
  (.keep [0] (.seq (.ops f20r6)
  (.keep [4] .ret))))))))

def f20 : AFn := ⟨27, [.tmp 4], f20b⟩

theorem f20_ok : compFn Try.prog 20 = some f20.strip := by kernel_rfl

/- function 21: weirhouse/bucket.Right; parameters 1; operations that are not compiled: 0 -/
def f21r0 : List AInstr := [
    ⟨(some 1), none, .box (.tmp 0)⟩,
    ⟨(some 2), none, .mov (.const (.bool false))⟩]

def f21r1 : List AInstr := [
    ⟨(some 3), none, .fieldAddr 0 (.tmp 1)⟩,
    ⟨(some 4), none, .load none (.tmp 3)⟩,
    ⟨(some 5), none, .ibin .geq (.tmp 4) (.const (.int .i64 0))⟩,
    ⟨(some 6), none, .mov (.tmp 5)⟩,
    ⟨(some 7), (some (6, true)), .fieldAddr 0 (.tmp 1)⟩,
    ⟨(some 8), (some (6, true)), .load none (.tmp 7)⟩,
    ⟨(some 9), (some (6, true)), .ibin .leq (.tmp 8) (.const (.int .i64 1048576))⟩,
    ⟨(some 10), none, .pick (.tmp 6) (.tmp 9) (.const (.bool false))⟩,
    ⟨(some 11), none, .mov (.tmp 10)⟩,
    ⟨(some 12), (some (11, true)), .fieldAddr 1 (.tmp 1)⟩,
    ⟨(some 13), (some (11, true)), .load none (.tmp 12)⟩,
    ⟨(some 14), (some (11, true)), .ibin .geq (.tmp 13) (.const (.int .i64 1))⟩,
    ⟨(some 15), none, .pick (.tmp 11) (.tmp 14) (.const (.bool false))⟩,
    ⟨(some 16), none, .mov (.tmp 15)⟩,
    ⟨(some 17), (some (16, true)), .fieldAddr 1 (.tmp 1)⟩,
    ⟨(some 18), (some (16, true)), .load none (.tmp 17)⟩,
    ⟨(some 19), (some (16, true)), .ibin .leq (.tmp 18) (.const (.int .i64 1048576))⟩,
    ⟨(some 20), none, .pick (.tmp 16) (.tmp 19) (.const (.bool false))⟩,
    ⟨(some 21), none, .mov (.tmp 20)⟩,
    ⟨(some 22), (some (21, true)), .fieldAddr 2 (.tmp 1)⟩,
    ⟨(some 23), (some (21, true)), .load none (.tmp 22)⟩,
    ⟨(some 24), (some (21, true)), .ibin .geq (.tmp 23) (.const (.int .i64 0))⟩,
    ⟨(some 25), none, .pick (.tmp 21) (.tmp 24) (.const (.bool false))⟩,
    ⟨(some 26), none, .mov (.tmp 25)⟩,
    ⟨(some 27), (some (26, true)), .fieldAddr 2 (.tmp 1)⟩,
    ⟨(some 28), (some (26, true)), .load none (.tmp 27)⟩,
    ⟨(some 29), (some (26, true)), .ibin .leq (.tmp 28) (.const (.int .i64 1048576))⟩,
    ⟨(some 30), none, .pick (.tmp 26) (.tmp 29) (.const (.bool false))⟩,
    ⟨(some 31), none, .mov (.tmp 30)⟩,
    ⟨(some 32), (some (31, true)), .fieldAddr 3 (.tmp 1)⟩,
    ⟨(some 33), (some (31, true)), .load none (.tmp 32)⟩,
    ⟨(some 34), (some (31, true)), .ibin .geq (.tmp 33) (.const (.int .i64 0))⟩,
    ⟨(some 35), none, .pick (.tmp 31) (.tmp 34) (.const (.bool false))⟩,
    ⟨(some 36), none, .mov (.tmp 35)⟩,
    ⟨(some 37), (some (36, true)), .fieldAddr 3 (.tmp 1)⟩,
    ⟨(some 38), (some (36, true)), .load none (.tmp 37)⟩,
    ⟨(some 39), (some (36, true)), .fieldAddr 2 (.tmp 1)⟩,
    ⟨(some 40), (some (36, true)), .load none (.tmp 39)⟩,
    ⟨(some 41), (some (36, true)), .fieldAddr 1 (.tmp 1)⟩,
    ⟨(some 42), (some (36, true)), .load none (.tmp 41)⟩,
    ⟨(some 43), (some (36, true)), .ibin .mul (.tmp 40) (.tmp 42)⟩,
    ⟨(some 44), (some (36, true)), .ibin .leq (.tmp 38) (.tmp 43)⟩,
    ⟨(some 45), none, .pick (.tmp 36) (.tmp 44) (.const (.bool false))⟩,
    ⟨(some 46), none, .mov (.tmp 45)⟩,
    ⟨(some 47), (some (46, true)), .fieldAddr 4 (.tmp 1)⟩,
    ⟨(some 48), (some (46, true)), .load none (.tmp 47)⟩,
    ⟨(some 49), (some (46, true)), .ibin .geq (.tmp 48) (.const (.int .i64 0))⟩,
    ⟨(some 50), none, .pick (.tmp 46) (.tmp 49) (.const (.bool false))⟩,
    ⟨(some 51), none, .mov (.tmp 50)⟩,
    ⟨(some 52), (some (51, true)), .fieldAddr 4 (.tmp 1)⟩,
    ⟨(some 53), (some (51, true)), .load none (.tmp 52)⟩,
    ⟨(some 54), (some (51, true)), .ibin .leq (.tmp 53) (.const (.int .i64 1099511627776))⟩,
    ⟨(some 55), none, .pick (.tmp 51) (.tmp 54) (.const (.bool false))⟩,
    ⟨(some 2), none, .mov (.tmp 55)⟩]

def f21b : ACode := (.seq (.ops f21r0)
  (.keep [1] (.seq (.ops f21r1)
  (.keep [2] .ret))))

def f21 : AFn := ⟨56, [.tmp 2], f21b⟩

theorem f21_ok : compFn Try.prog 21 = some f21.strip := by kernel_rfl

/- function 22: weirhouse/pace.do$1; parameters 1; operations that are not compiled: 0 -/
def f22r0 : List AInstr := [
    ⟨(some 3), none, .alloc [.slice none 0 0, .int .i64 0, .int .i64 0, .int .i64 0, .int .i64 0, .int .i64 0, .int .i64 0, .int .i64 0, .int .i64 0, .int .i64 0]⟩,
    ⟨(some 4), none, .alloc [.int .i64 0, .slice none 0 0]⟩]

def f22r1 : List AInstr := [
    ⟨(some 5), none, .load (some 10) (.tmp 1)⟩,
    ⟨(some 6), none, .mov (.tmp 0)⟩,
    ⟨(some 7), none, .build [.int .i64 0, .slice none 0 0] [(0, 1, (.tmp 6))]⟩,
    ⟨none, none, .store 10 (.tmp 3) (.tmp 5)⟩,
    ⟨none, none, .store 2 (.tmp 4) (.tmp 7)⟩]

def f22b : ACode := (.seq (.ops f22r0)
  (.keep [0, 1, 3, 4] (.seq (.ops f22r1)
  (.keep [3, 4] .ret))))

def f22 : AFn := ⟨8, [.cell 3 (some 10), .cell 4 (some 2)], f22b⟩

theorem f22_ok : compFn Try.prog 22 = some f22.strip := by kernel_rfl

/- function 23: weirhouse/ring.Step; parameters 2; operations that are not compiled: 0 -/
def f23r0 : List AInstr := [
    ⟨(some 2), none, .box (.tmp 0)⟩,
    ⟨(some 3), none, .box (.tmp 1)⟩,
    ⟨(some 4), none, .alloc [.slice none 0 0, .int .i64 0, .int .i64 0, .int .i64 0]⟩,
    ⟨(some 5), none, .mov (.const (.int .i64 0))⟩,
    ⟨(some 6), none, .mov (.const (.int .i64 0))⟩]

def f23r1 : List AInstr := [
    ⟨(some 7), none, .mov (.const (.func (.func 26) #[] #[]))⟩]

def f23r2 : List AInstr := [
    ⟨(some 9), none, .load (some 4) (.tmp 2)⟩,
    ⟨(some 10), none, .callF 27 [.tmp 9]⟩,
    ⟨(some 11), none, .un .not (.tmp 10)⟩]

def f23r3 : List AInstr := [
    ⟨(some 12), none, .mov (.tmp 7)⟩,
    ⟨(some 13), none, .callV (.tmp 12) [.const (.int .i64 1)]⟩,
    ⟨(some 14), none, .extract 0 (.tmp 13)⟩,
    ⟨(some 15), none, .extract 1 (.tmp 13)⟩,
    ⟨(some 16), none, .extract 2 (.tmp 13)⟩,
    ⟨none, none, .store 4 (.tmp 4) (.tmp 14)⟩,
    ⟨(some 5), none, .mov (.tmp 15)⟩,
    ⟨(some 6), none, .mov (.tmp 16)⟩]

def f23r4 : List AInstr := [
    ⟨(some 17), none, .fieldAddr 0 (.tmp 2)⟩,
    ⟨(some 18), none, .load none (.tmp 17)⟩,
    ⟨(some 19), none, .callF 18 [.tmp 18]⟩,
    ⟨(some 20), none, .fieldAddr 0 (.tmp 2)⟩,
    ⟨none, none, .store 1 (.tmp 20) (.tmp 19)⟩]

def f23r5 : List AInstr := [
    ⟨(some 21), none, .fieldAddr 0 (.tmp 3)⟩,
    ⟨(some 22), none, .load none (.tmp 21)⟩]

def f23r6 : List AInstr := [
    ⟨(some 24), none, .ibin .eql (.tmp 22) (.const (.int .i64 1))⟩,
    ⟨(some 23), none, .mov (.tmp 24)⟩]

def f23r7 : List AInstr := [
    ⟨(some 26), none, .fieldAddr 1 (.tmp 3)⟩,
    ⟨(some 27), none, .load none (.tmp 26)⟩,
    ⟨(some 28), none, .ibin .lss (.tmp 27) (.const (.int .i64 1))⟩,
    ⟨(some 29), none, .mov (.tmp 28)⟩,
    ⟨(some 30), (some (29, false)), .fieldAddr 1 (.tmp 3)⟩,
    ⟨(some 31), (some (29, false)), .load none (.tmp 30)⟩,
    ⟨(some 32), (some (29, false)), .ibin .gtr (.tmp 31) (.const (.int .i64 1500))⟩,
    ⟨(some 33), none, .pick (.tmp 29) (.const (.bool true)) (.tmp 32)⟩,
    ⟨(some 25), none, .mov (.tmp 33)⟩]

def f23r8 : List AInstr := [
    ⟨(some 34), none, .mov (.tmp 7)⟩,
    ⟨(some 35), none, .callV (.tmp 34) [.const (.int .i64 2)]⟩,
    ⟨(some 36), none, .extract 0 (.tmp 35)⟩,
    ⟨(some 37), none, .extract 1 (.tmp 35)⟩,
    ⟨(some 38), none, .extract 2 (.tmp 35)⟩,
    ⟨none, none, .store 4 (.tmp 4) (.tmp 36)⟩,
    ⟨(some 5), none, .mov (.tmp 37)⟩,
    ⟨(some 6), none, .mov (.tmp 38)⟩]

def f23r9 : List AInstr := [
    ⟨(some 40), none, .fieldAddr 0 (.tmp 2)⟩,
    ⟨(some 41), none, .load none (.tmp 40)⟩,
    ⟨(some 42), none, .len (.tmp 41)⟩,
    ⟨(some 43), none, .fieldAddr 1 (.tmp 2)⟩,
    ⟨(some 44), none, .load none (.tmp 43)⟩,
    ⟨(some 45), none, .ibin .lss (.tmp 42) (.tmp 44)⟩,
    ⟨(some 46), none, .mov (.tmp 45)⟩,
    ⟨(some 47), (some (46, true)), .fieldAddr 0 (.tmp 2)⟩,
    ⟨(some 48), (some (46, true)), .load none (.tmp 47)⟩,
    ⟨(some 50), (some (46, true)), .fieldAddr 1 (.tmp 3)⟩,
    ⟨(some 51), (some (46, true)), .load none (.tmp 50)⟩,
    ⟨(some 53), (some (46, true)), .fieldAddr 2 (.tmp 2)⟩,
    ⟨(some 54), (some (46, true)), .load none (.tmp 53)⟩,
    ⟨(some 49), (some (46, true)), .callF 28 [.tmp 48]⟩,
    ⟨(some 52), (some (46, true)), .ibin .add (.tmp 49) (.tmp 51)⟩,
    ⟨(some 55), (some (46, true)), .ibin .leq (.tmp 52) (.tmp 54)⟩,
    ⟨(some 56), none, .pick (.tmp 46) (.tmp 55) (.const (.bool false))⟩,
    ⟨(some 39), none, .mov (.tmp 56)⟩]

def f23r10 : List AInstr := [
    ⟨(some 57), none, .fieldAddr 0 (.tmp 2)⟩,
    ⟨(some 58), none, .load none (.tmp 57)⟩,
    ⟨(some 59), none, .fieldAddr 1 (.tmp 3)⟩,
    ⟨(some 60), none, .load none (.tmp 59)⟩,
    ⟨(some 61), none, .buildSlice 1 1 [.int .i64 0] [(0, 1, (.tmp 60))]⟩,
    ⟨(some 62), none, .append 1 8 (.tmp 58) (.tmp 61)⟩,
    ⟨(some 63), none, .fieldAddr 0 (.tmp 2)⟩,
    ⟨none, none, .store 1 (.tmp 63) (.tmp 62)⟩]

def f23r11 : List AInstr := [
    ⟨(some 64), none, .load (some 4) (.tmp 2)⟩,
    ⟨none, none, .store 4 (.tmp 4) (.tmp 64)⟩,
    ⟨(some 5), none, .mov (.const (.int .i64 1))⟩,
    ⟨(some 6), none, .mov (.const (.int .i64 0))⟩]

def f23r12 : List AInstr := [
    ⟨(some 66), none, .fieldAddr 3 (.tmp 2)⟩,
    ⟨(some 67), none, .load none (.tmp 66)⟩,
    ⟨(some 68), none, .ibin .eql (.tmp 67) (.const (.int .i64 1099511627776))⟩,
    ⟨(some 65), none, .mov (.tmp 68)⟩]

def f23r13 : List AInstr := [
    ⟨(some 69), none, .mov (.tmp 7)⟩,
    ⟨(some 70), none, .callV (.tmp 69) [.const (.int .i64 4)]⟩,
    ⟨(some 71), none, .extract 0 (.tmp 70)⟩,
    ⟨(some 72), none, .extract 1 (.tmp 70)⟩,
    ⟨(some 73), none, .extract 2 (.tmp 70)⟩,
    ⟨none, none, .store 4 (.tmp 4) (.tmp 71)⟩,
    ⟨(some 5), none, .mov (.tmp 72)⟩,
    ⟨(some 6), none, .mov (.tmp 73)⟩]

def f23r14 : List AInstr := [
    ⟨(some 74), none, .fieldAddr 3 (.tmp 2)⟩,
    ⟨(some 75), none, .load none (.tmp 74)⟩,
    ⟨(some 76), none, .ibin .add (.tmp 75) (.const (.int .i64 1))⟩,
    ⟨(some 77), none, .fieldAddr 3 (.tmp 2)⟩,
    ⟨none, none, .store 1 (.tmp 77) (.tmp 76)⟩]

def f23r15 : List AInstr := [
    ⟨(some 78), none, .load (some 4) (.tmp 2)⟩,
    ⟨none, none, .store 4 (.tmp 4) (.tmp 78)⟩,
    ⟨(some 5), none, .mov (.const (.int .i64 0))⟩,
    ⟨(some 6), none, .mov (.const (.int .i64 0))⟩]

def f23r16 : List AInstr := [
    ⟨(some 80), none, .ibin .eql (.tmp 22) (.const (.int .i64 2))⟩,
    ⟨(some 79), none, .mov (.tmp 80)⟩]

def f23r17 : List AInstr := [
    ⟨(some 81), none, .fieldAddr 0 (.tmp 2)⟩,
    ⟨(some 82), none, .load none (.tmp 81)⟩,
    ⟨(some 83), none, .len (.tmp 82)⟩,
    ⟨(some 84), none, .ibin .eql (.tmp 83) (.const (.int .i64 0))⟩]

def f23r18 : List AInstr := [
    ⟨(some 85), none, .mov (.tmp 7)⟩,
    ⟨(some 86), none, .callV (.tmp 85) [.const (.int .i64 3)]⟩,
    ⟨(some 87), none, .extract 0 (.tmp 86)⟩,
    ⟨(some 88), none, .extract 1 (.tmp 86)⟩,
    ⟨(some 89), none, .extract 2 (.tmp 86)⟩,
    ⟨none, none, .store 4 (.tmp 4) (.tmp 87)⟩,
    ⟨(some 5), none, .mov (.tmp 88)⟩,
    ⟨(some 6), none, .mov (.tmp 89)⟩]

def f23r19 : List AInstr := [
    ⟨(some 90), none, .fieldAddr 0 (.tmp 2)⟩,
    ⟨(some 91), none, .load none (.tmp 90)⟩,
    ⟨(some 92), none, .indexAddr 1 (.tmp 91) (.const (.int .i64 0))⟩,
    ⟨(some 93), none, .load none (.tmp 92)⟩,
    ⟨(some 8), none, .mov (.tmp 93)⟩]

def f23r20 : List AInstr := [
    ⟨(some 94), none, .fieldAddr 0 (.tmp 2)⟩,
    ⟨(some 95), none, .load none (.tmp 94)⟩,
    ⟨(some 96), none, .slice 1 (.tmp 95) (some (.const (.int .i64 1))) none none⟩,
    ⟨(some 97), none, .callF 18 [.tmp 96]⟩,
    ⟨(some 98), none, .fieldAddr 0 (.tmp 2)⟩,
    ⟨none, none, .store 1 (.tmp 98) (.tmp 97)⟩]

def f23r21 : List AInstr := [
    ⟨(some 99), none, .load (some 4) (.tmp 2)⟩,
    ⟨(some 100), none, .mov (.tmp 8)⟩,
    ⟨none, none, .store 4 (.tmp 4) (.tmp 99)⟩,
    ⟨(some 5), none, .mov (.tmp 100)⟩,
    ⟨(some 6), none, .mov (.const (.int .i64 0))⟩]

def f23r22 : List AInstr := [
    ⟨(some 101), none, .mov (.tmp 7)⟩,
    ⟨(some 102), none, .callV (.tmp 101) [.const (.int .i64 5)]⟩,
    ⟨(some 103), none, .extract 0 (.tmp 102)⟩,
    ⟨(some 104), none, .extract 1 (.tmp 102)⟩,
    ⟨(some 105), none, .extract 2 (.tmp 102)⟩,
    ⟨none, none, .store 4 (.tmp 4) (.tmp 103)⟩,
    ⟨(some 5), none, .mov (.tmp 104)⟩,
    ⟨(some 6), none, .mov (.tmp 105)⟩]

def f23b : ACode := (.seq (.ops f23r0)
  (.keep [2, 3, 4] (.seq (.ops f23r1)
  (.keep [2, 3, 4, 7] (.seq (.seq (.ops f23r2)
  (.keep [2, 3, 4, 7, 11] (.cond (.tmp 11) (.keep [4, 7] (.seq (.ops f23r3)
  (.keep [4, 5, 6] .ret))) .skip)))
  (.keep [2, 3, 4, 7] (.seq (.ops f23r4)
  (.keep [2, 3, 4, 7] (.seq (.seq (.ops f23r5)
  (.keep [2, 3, 4, 7, 22] (.block 0 (.seq (.ops f23r6)
  (.keep [2, 3, 4, 7, 22, 23] (.cond (.tmp 23) (.keep [2, 3, 4, 7] (.seq (.block 1 (.seq (.ops f23r7)
  (.keep [2, 3, 4, 7, 25] (.cond (.tmp 25) (.keep [4, 7] (.seq (.ops f23r8)
  (.keep [4, 5, 6] .ret))) (.keep [2, 3, 4, 7] (.seq (.alt [(f23r9, [(0, 0, false), (0, 0, false), (0, 0, false), (0, 0, false), (0, 0, false), (0, 0, false), (0, 0, false), (0, 0, false), (0, 0, false), (0, 1, false), (0, 1, false), (0, 1, false), (0, 1, false), (0, 0, true), (1, 1, false), (1, 1, false), (1, 1, false), (1, 1, false)])])
  (.keep [2, 3, 4, 7, 39] (.cond (.tmp 39) (.keep [2, 3, 4] (.seq (.ops f23r10)
  (.keep [2, 4] (.seq (.ops f23r11)
  (.keep [4, 5, 6] .ret))))) (.keep [2, 4, 7] (.seq (.ops f23r12)
  (.keep [2, 4, 7, 65] (.cond (.tmp 65) (.keep [4, 7] (.seq (.ops f23r13)
  (.keep [4, 5, 6] .ret))) .skip))))))))))))
  (.keep [2, 4] (.seq (.ops f23r14)
  (.keep [2, 4] (.seq (.ops f23r15)
  (.keep [4, 5, 6] .ret))))))) (.keep [2, 4, 7, 22] (.seq (.ops f23r16)
  (.keep [2, 4, 7, 79] (.cond (.tmp 79) (.keep [2, 4, 7] (.seq (.seq (.ops f23r17)
  (.keep [2, 4, 7, 84] (.cond (.tmp 84) (.keep [4, 7] (.seq (.ops f23r18)
  (.keep [4, 5, 6] .ret))) .skip)))
  (.keep [2, 4] (.seq (.ops f23r19)
  (.keep [2, 4, 8] (.seq (.ops f23r20)
  (.keep [2, 4, 8] (.seq (.ops f23r21)
  (.keep [4, 5, 6] .ret))))))))) .skip))))))))))
  (.keep [4, 7] (.seq (.ops f23r22)
  (.keep [4, 5, 6] .ret))))))))))))

def f23 : AFn := ⟨106, [.cell 4 (some 4), .tmp 5, .tmp 6], f23b⟩

theorem f23_ok : compFn Try.prog 23 = some f23.strip := by kernel_rfl

/- function 24: weirhouse/bucket.Fill; parameters 2; operations that are not compiled: 0 -/
def f24r0 : List AInstr := [
    ⟨(some 2), none, .box (.tmp 0)⟩,
    ⟨(some 4), none, .alloc [.int .i64 0, .int .i64 0, .int .i64 0, .int .i64 0, .int .i64 0]⟩,
    ⟨(some 5), none, .mov (.const (.int .i64 0))⟩]

def f24r1 : List AInstr := [
    ⟨(some 9), none, .load (some 5) (.tmp 2)⟩,
    ⟨(some 10), none, .callF 21 [.tmp 9]⟩,
    ⟨(some 11), none, .un .not (.tmp 10)⟩,
    ⟨(some 8), none, .mov (.tmp 11)⟩]

def f24r2 : List AInstr := [
    ⟨(some 12), none, .build [.int .i64 0, .int .i64 0, .int .i64 0, .int .i64 0, .int .i64 0] []⟩,
    ⟨none, none, .store 5 (.tmp 4) (.tmp 12)⟩,
    ⟨(some 5), none, .mov (.const (.int .i64 1))⟩]

def f24r3 : List AInstr := [
    ⟨(some 14), none, .mov (.tmp 1)⟩,
    ⟨(some 15), none, .fieldAddr 4 (.tmp 2)⟩,
    ⟨(some 16), none, .load none (.tmp 15)⟩,
    ⟨(some 17), none, .ibin .lss (.tmp 14) (.tmp 16)⟩,
    ⟨(some 18), none, .mov (.tmp 17)⟩,
    ⟨(some 19), (some (18, false)), .mov (.tmp 1)⟩,
    ⟨(some 20), (some (18, false)), .ibin .gtr (.tmp 19) (.const (.int .i64 1099511627776))⟩,
    ⟨(some 21), none, .pick (.tmp 18) (.const (.bool true)) (.tmp 20)⟩,
    ⟨(some 13), none, .mov (.tmp 21)⟩]

def f24r4 : List AInstr := [
    ⟨(some 22), none, .build [.int .i64 0, .int .i64 0, .int .i64 0, .int .i64 0, .int .i64 0] []⟩,
    ⟨none, none, .store 5 (.tmp 4) (.tmp 22)⟩,
    ⟨(some 5), none, .mov (.const (.int .i64 2))⟩]

def f24r5 : List AInstr := [
    ⟨(some 23), none, .fieldAddr 2 (.tmp 2)⟩,
    ⟨(some 24), none, .load none (.tmp 23)⟩,
    ⟨(some 25), none, .fieldAddr 1 (.tmp 2)⟩,
    ⟨(some 26), none, .load none (.tmp 25)⟩,
    ⟨(some 27), none, .ibin .mul (.tmp 24) (.tmp 26)⟩,
    ⟨(some 28), none, .fieldAddr 3 (.tmp 2)⟩,
    ⟨(some 29), none, .load none (.tmp 28)⟩,
    ⟨(some 30), none, .ibin .sub (.tmp 27) (.tmp 29)⟩,
    ⟨(some 6), none, .mov (.tmp 30)⟩]

def f24r6 : List AInstr := [
    ⟨(some 31), none, .mov (.tmp 1)⟩,
    ⟨(some 32), none, .fieldAddr 4 (.tmp 2)⟩,
    ⟨(some 33), none, .load none (.tmp 32)⟩,
    ⟨(some 34), none, .ibin .sub (.tmp 31) (.tmp 33)⟩,
    ⟨(some 7), none, .mov (.tmp 34)⟩]

def f24r7 : List AInstr := [
    ⟨(some 35), none, .fieldAddr 0 (.tmp 2)⟩,
    ⟨(some 36), none, .load none (.tmp 35)⟩,
    ⟨(some 37), none, .ibin .gtr (.tmp 36) (.const (.int .i64 0))⟩,
    ⟨(some 38), none, .mov (.tmp 37)⟩,
    ⟨(some 39), (some (38, true)), .mov (.tmp 7)⟩,
    ⟨(some 40), (some (38, true)), .mov (.tmp 6)⟩,
    ⟨(some 41), (some (38, true)), .fieldAddr 0 (.tmp 2)⟩,
    ⟨(some 42), (some (38, true)), .load none (.tmp 41)⟩,
    ⟨(some 43), (some (38, true)), .ibin .quo (.tmp 40) (.tmp 42)⟩,
    ⟨(some 44), (some (38, true)), .ibin .gtr (.tmp 39) (.tmp 43)⟩,
    ⟨(some 45), none, .pick (.tmp 38) (.tmp 44) (.const (.bool false))⟩]

def f24r8 : List AInstr := [
    ⟨(some 46), none, .fieldAddr 3 (.tmp 2)⟩,
    ⟨(some 47), none, .load none (.tmp 46)⟩,
    ⟨(some 48), none, .mov (.tmp 6)⟩,
    ⟨(some 49), none, .ibin .add (.tmp 47) (.tmp 48)⟩,
    ⟨(some 50), none, .fieldAddr 3 (.tmp 2)⟩,
    ⟨none, none, .store 1 (.tmp 50) (.tmp 49)⟩]

def f24r9 : List AInstr := [
    ⟨(some 51), none, .fieldAddr 3 (.tmp 2)⟩,
    ⟨(some 52), none, .load none (.tmp 51)⟩,
    ⟨(some 53), none, .mov (.tmp 7)⟩,
    ⟨(some 54), none, .fieldAddr 0 (.tmp 2)⟩,
    ⟨(some 55), none, .load none (.tmp 54)⟩,
    ⟨(some 56), none, .ibin .mul (.tmp 53) (.tmp 55)⟩,
    ⟨(some 57), none, .ibin .add (.tmp 52) (.tmp 56)⟩,
    ⟨(some 58), none, .fieldAddr 3 (.tmp 2)⟩,
    ⟨none, none, .store 1 (.tmp 58) (.tmp 57)⟩]

def f24r10 : List AInstr := [
    ⟨(some 59), none, .mov (.tmp 1)⟩,
    ⟨(some 60), none, .fieldAddr 4 (.tmp 2)⟩,
    ⟨none, none, .store 1 (.tmp 60) (.tmp 59)⟩]

def f24r11 : List AInstr := [
    ⟨(some 61), none, .load (some 5) (.tmp 2)⟩,
    ⟨none, none, .store 5 (.tmp 4) (.tmp 61)⟩,
    ⟨(some 5), none, .mov (.const (.int .i64 0))⟩]

def f24b : ACode := (.seq (.ops f24r0)
  (.keep [1, 2, 4] (.seq (.block 0 (.seq (.ops f24r1)
  (.keep [1, 2, 4, 8] (.cond (.tmp 8) (.keep [4] (.seq (.ops f24r2)
  (.keep [4, 5] .ret))) (.keep [1, 2, 4] (.seq (.ops f24r3)
  (.keep [1, 2, 4, 13] (.cond (.tmp 13) (.keep [4] (.seq (.ops f24r4)
  (.keep [4, 5] .ret))) .skip))))))))
  (.keep [1, 2, 4] (.seq (.ops f24r5)
  (.keep [1, 2, 4, 6] (.seq (.seq (.ops f24r6)
  (.keep [1, 2, 4, 6, 7] (.seq (.ops f24r7)
  (.keep [1, 2, 4, 6, 7, 45] (.cond (.tmp 45) (.keep [1, 2, 4, 6] (.ops f24r8)) (.keep [1, 2, 4, 7] (.ops f24r9)))))))
  (.keep [1, 2, 4] (.seq (.ops f24r10)
  (.keep [2, 4] (.seq (.ops f24r11)
  (.keep [4, 5] .ret))))))))))))

def f24 : AFn := ⟨62, [.cell 4 (some 5), .tmp 5], f24b⟩

theorem f24_ok : compFn Try.prog 24 = some f24.strip := by kernel_rfl

/- function 25: weirhouse/pace.poll; parameters 2; operations that are not compiled: 0 -/
def f25r0 : List AInstr := [
    ⟨(some 2), none, .box (.tmp 0)⟩,
    ⟨(some 4), none, .alloc [.slice none 0 0, .int .i64 0, .int .i64 0, .int .i64 0, .int .i64 0, .int .i64 0, .int .i64 0, .int .i64 0, .int .i64 0, .int .i64 0]⟩,
    ⟨(some 5), none, .mov (.const (.slice none 0 0))⟩]

def f25r1 : List AInstr := [
    ⟨(some 6), none, .mov (.const (.slice none 0 0))⟩]

def f25r2 : List AInstr := [
    ⟨(some 13), none, .fieldAddr 0 (.tmp 2)⟩,
    ⟨(some 14), none, .fieldAddr 0 (.tmp 13)⟩,
    ⟨(some 15), none, .load none (.tmp 14)⟩,
    ⟨(some 16), none, .len (.tmp 15)⟩,
    ⟨(some 17), none, .ibin .gtr (.tmp 16) (.const (.int .i64 0))⟩]

def f25r3 : List AInstr := [
    ⟨(some 18), none, .fieldAddr 0 (.tmp 2)⟩,
    ⟨(some 19), none, .fieldAddr 0 (.tmp 18)⟩,
    ⟨(some 20), none, .load none (.tmp 19)⟩,
    ⟨(some 21), none, .indexAddr 1 (.tmp 20) (.const (.int .i64 0))⟩,
    ⟨(some 22), none, .load none (.tmp 21)⟩,
    ⟨(some 7), none, .mov (.tmp 22)⟩]

def f25r4 : List AInstr := [
    ⟨(some 23), none, .mov (.tmp 7)⟩,
    ⟨(some 24), none, .mov (.tmp 1)⟩,
    ⟨(some 25), none, .ibin .gtr (.tmp 23) (.tmp 24)⟩]

def f25r5 : List AInstr := [
    ⟨(some 27), none, .fieldAddr 4 (.tmp 2)⟩,
    ⟨(some 28), none, .load (some 5) (.tmp 27)⟩,
    ⟨(some 29), none, .fieldAddr 4 (.tmp 2)⟩,
    ⟨(some 30), none, .fieldAddr 4 (.tmp 29)⟩,
    ⟨(some 31), none, .load none (.tmp 30)⟩,
    ⟨(some 32), none, .mov (.tmp 7)⟩,
    ⟨(some 33), none, .build [.int .i64 0, .int .i64 0] [(0, 1, (.tmp 31)), (1, 1, (.tmp 32))]⟩,
    ⟨(some 34), none, .callF 29 [.tmp 28, .tmp 33]⟩,
    ⟨(some 26), none, .mov (.tmp 34)⟩,
    ⟨(some 35), none, .extract 0 (.tmp 26)⟩,
    ⟨(some 36), none, .extract 1 (.tmp 26)⟩,
    ⟨(some 37), none, .extract 2 (.tmp 26)⟩,
    ⟨(some 8), none, .alloc [.int .i64 0, .int .i64 0, .int .i64 0, .int .i64 0, .int .i64 0]⟩,
    ⟨none, none, .store 5 (.tmp 8) (.tmp 35)⟩,
    ⟨(some 9), none, .mov (.tmp 36)⟩,
    ⟨(some 10), none, .mov (.tmp 37)⟩]

def f25r6 : List AInstr := [
    ⟨(some 38), none, .mov (.tmp 10)⟩,
    ⟨(some 39), none, .ibin .neq (.tmp 38) (.const (.int .i64 0))⟩,
    ⟨(some 40), none, .mov (.tmp 39)⟩,
    ⟨(some 41), (some (40, false)), .mov (.tmp 9)⟩,
    ⟨(some 42), (some (40, false)), .un .not (.tmp 41)⟩,
    ⟨(some 43), none, .pick (.tmp 40) (.const (.bool true)) (.tmp 42)⟩]

def f25r7 : List AInstr := [
    ⟨(some 45), none, .fieldAddr 0 (.tmp 2)⟩,
    ⟨(some 46), none, .load (some 4) (.tmp 45)⟩,
    ⟨(some 47), none, .build [.int .i64 0, .int .i64 0] [(0, 1, (.const (.int .i64 2)))]⟩,
    ⟨(some 48), none, .callF 23 [.tmp 46, .tmp 47]⟩,
    ⟨(some 44), none, .mov (.tmp 48)⟩,
    ⟨(some 49), none, .extract 0 (.tmp 44)⟩,
    ⟨(some 50), none, .extract 1 (.tmp 44)⟩,
    ⟨(some 51), none, .extract 2 (.tmp 44)⟩,
    ⟨(some 11), none, .alloc [.slice none 0 0, .int .i64 0, .int .i64 0, .int .i64 0]⟩,
    ⟨none, none, .store 4 (.tmp 11) (.tmp 49)⟩,
    ⟨(some 12), none, .mov (.tmp 50)⟩,
    ⟨(some 10), none, .mov (.tmp 51)⟩]

def f25r8 : List AInstr := [
    ⟨(some 52), none, .mov (.tmp 10)⟩,
    ⟨(some 53), none, .ibin .neq (.tmp 52) (.const (.int .i64 0))⟩]

def f25r9 : List AInstr := [
    ⟨(some 54), none, .load (some 4) (.tmp 11)⟩,
    ⟨(some 55), none, .load (some 5) (.tmp 8)⟩,
    ⟨(some 56), none, .fieldAddr 0 (.tmp 2)⟩,
    ⟨none, none, .store 4 (.tmp 56) (.tmp 54)⟩,
    ⟨(some 57), none, .fieldAddr 4 (.tmp 2)⟩,
    ⟨none, none, .store 5 (.tmp 57) (.tmp 55)⟩]

def f25r10 : List AInstr := [
    ⟨(some 58), none, .mov (.tmp 1)⟩,
    ⟨(some 59), none, .mov (.tmp 7)⟩,
    ⟨(some 60), none, .ibin .sub (.tmp 58) (.tmp 59)⟩,
    ⟨(some 1), none, .mov (.tmp 60)⟩]

def f25r11 : List AInstr := [
    ⟨(some 61), none, .fieldAddr 9 (.tmp 2)⟩,
    ⟨(some 62), none, .load none (.tmp 61)⟩,
    ⟨(some 63), none, .mov (.tmp 7)⟩,
    ⟨(some 64), none, .ibin .add (.tmp 62) (.tmp 63)⟩,
    ⟨(some 65), none, .fieldAddr 9 (.tmp 2)⟩,
    ⟨none, none, .store 1 (.tmp 65) (.tmp 64)⟩]

def f25r12 : List AInstr := [
    ⟨(some 66), none, .mov (.tmp 6)⟩,
    ⟨(some 67), none, .mov (.tmp 7)⟩,
    ⟨(some 68), none, .buildSlice 1 1 [.int .i64 0] [(0, 1, (.tmp 67))]⟩,
    ⟨(some 69), none, .append 1 8 (.tmp 66) (.tmp 68)⟩,
    ⟨(some 6), none, .mov (.tmp 69)⟩]

/-- live: [1, 2, 4, 6] -/
def f25l0 : ACode := (.seq (.seq (.ops f25r2)
  (.keep [1, 2, 4, 6, 17] (.cond (.tmp 17) .skip (.exit 0))))
  (.keep [1, 2, 4, 6] (.block 1 (.seq (.ops f25r3)
  (.keep [1, 2, 4, 6, 7] (.seq (.seq (.ops f25r4)
  (.keep [1, 2, 4, 6, 7, 25] (.cond (.tmp 25) (.exit 0) .skip)))
  (.keep [1, 2, 4, 6, 7] (.seq (.ops f25r5)
  (.keep [1, 2, 4, 6, 7, 8, 9, 10] (.seq (.seq (.ops f25r6)
  (.keep [1, 2, 4, 6, 7, 8, 43] (.cond (.tmp 43) (.exit 0) .skip)))
  (.keep [1, 2, 4, 6, 7, 8] (.seq (.ops f25r7)
  (.keep [1, 2, 4, 6, 7, 8, 10, 11] (.seq (.seq (.ops f25r8)
  (.keep [1, 2, 4, 6, 7, 8, 11, 53] (.cond (.tmp 53) (.exit 0) .skip)))
  (.keep [1, 2, 4, 6, 7, 8, 11] (.seq (.draw f25r9 [(0, 0, false), (0, 1, false), (0, 0, false), (0, 0, true), (1, 1, false), (1, 0, true)])
  (.keep [1, 2, 4, 6, 7] (.seq (.ops f25r10)
  (.keep [1, 2, 4, 6, 7] (.seq (.ops f25r11)
  (.keep [1, 2, 4, 6, 7] (.ops f25r12))))))))))))))))))))))

def f25r14 : List AInstr := [
    ⟨(some 70), none, .load (some 10) (.tmp 2)⟩,
    ⟨(some 71), none, .mov (.tmp 6)⟩,
    ⟨none, none, .store 10 (.tmp 4) (.tmp 70)⟩,
    ⟨(some 5), none, .mov (.tmp 71)⟩]

def f25b : ACode := (.seq (.ops f25r0)
  (.keep [1, 2, 4] (.seq (.ops f25r1)
  (.keep [1, 2, 4, 6] (.seq (.block 0 (.loop f25l0))
  (.keep [2, 4, 6] (.seq (.ops f25r14)
  (.keep [4, 5] .ret))))))))

def f25 : AFn := ⟨72, [.cell 4 (some 10), .tmp 5], f25b⟩

theorem f25_ok : compFn Try.prog 25 = some f25.strip := by kernel_rfl

/- function 26: weirhouse/ring.Step$1; parameters 1; operations that are not compiled: 0 -/
def f26r0 : List AInstr := [
    ⟨(some 2), none, .alloc [.slice none 0 0, .int .i64 0, .int .i64 0, .int .i64 0]⟩,
    ⟨(some 3), none, .mov (.const (.int .i64 0))⟩,
    ⟨(some 4), none, .mov (.const (.int .i64 0))⟩]

def f26r1 : List AInstr := [
    ⟨(some 5), none, .build [.slice none 0 0, .int .i64 0, .int .i64 0, .int .i64 0] []⟩,
    ⟨(some 6), none, .mov (.tmp 0)⟩,
    ⟨none, none, .store 4 (.tmp 2) (.tmp 5)⟩,
    ⟨(some 3), none, .mov (.const (.int .i64 0))⟩,
    ⟨(some 4), none, .mov (.tmp 6)⟩]

def f26b : ACode := (.seq (.ops f26r0)
  (.keep [0, 2] (.seq (.ops f26r1)
  (.keep [2, 3, 4] .ret))))

def f26 : AFn := ⟨7, [.cell 2 (some 4), .tmp 3, .tmp 4], f26b⟩

theorem f26_ok : compFn Try.prog 26 = some f26.strip := by kernel_rfl

/- function 27: weirhouse/ring.Right; parameters 1; operations that are not compiled: 0 -/
def f27r0 : List AInstr := [
    ⟨(some 1), none, .box (.tmp 0)⟩,
    ⟨(some 2), none, .mov (.const (.bool false))⟩]

def f27r1 : List AInstr := [
    ⟨(some 5), none, .fieldAddr 1 (.tmp 1)⟩,
    ⟨(some 6), none, .load none (.tmp 5)⟩,
    ⟨(some 7), none, .ibin .lss (.tmp 6) (.const (.int .i64 0))⟩,
    ⟨(some 8), none, .mov (.tmp 7)⟩,
    ⟨(some 9), (some (8, false)), .fieldAddr 1 (.tmp 1)⟩,
    ⟨(some 10), (some (8, false)), .load none (.tmp 9)⟩,
    ⟨(some 11), (some (8, false)), .ibin .gtr (.tmp 10) (.const (.int .i64 400))⟩,
    ⟨(some 12), none, .pick (.tmp 8) (.const (.bool true)) (.tmp 11)⟩,
    ⟨(some 13), none, .mov (.tmp 12)⟩,
    ⟨(some 14), (some (13, false)), .fieldAddr 2 (.tmp 1)⟩,
    ⟨(some 15), (some (13, false)), .load none (.tmp 14)⟩,
    ⟨(some 16), (some (13, false)), .ibin .lss (.tmp 15) (.const (.int .i64 0))⟩,
    ⟨(some 17), none, .pick (.tmp 13) (.const (.bool true)) (.tmp 16)⟩,
    ⟨(some 18), none, .mov (.tmp 17)⟩,
    ⟨(some 19), (some (18, false)), .fieldAddr 2 (.tmp 1)⟩,
    ⟨(some 20), (some (18, false)), .load none (.tmp 19)⟩,
    ⟨(some 21), (some (18, false)), .ibin .gtr (.tmp 20) (.const (.int .i64 1073741824))⟩,
    ⟨(some 22), none, .pick (.tmp 18) (.const (.bool true)) (.tmp 21)⟩,
    ⟨(some 23), none, .mov (.tmp 22)⟩,
    ⟨(some 24), (some (23, false)), .fieldAddr 3 (.tmp 1)⟩,
    ⟨(some 25), (some (23, false)), .load none (.tmp 24)⟩,
    ⟨(some 26), (some (23, false)), .ibin .lss (.tmp 25) (.const (.int .i64 0))⟩,
    ⟨(some 27), none, .pick (.tmp 23) (.const (.bool true)) (.tmp 26)⟩,
    ⟨(some 28), none, .mov (.tmp 27)⟩,
    ⟨(some 29), (some (28, false)), .fieldAddr 3 (.tmp 1)⟩,
    ⟨(some 30), (some (28, false)), .load none (.tmp 29)⟩,
    ⟨(some 31), (some (28, false)), .ibin .gtr (.tmp 30) (.const (.int .i64 1099511627776))⟩,
    ⟨(some 32), none, .pick (.tmp 28) (.const (.bool true)) (.tmp 31)⟩,
    ⟨(some 33), none, .mov (.tmp 32)⟩,
    ⟨(some 34), (some (33, false)), .fieldAddr 0 (.tmp 1)⟩,
    ⟨(some 35), (some (33, false)), .load none (.tmp 34)⟩,
    ⟨(some 36), (some (33, false)), .len (.tmp 35)⟩,
    ⟨(some 37), (some (33, false)), .fieldAddr 1 (.tmp 1)⟩,
    ⟨(some 38), (some (33, false)), .load none (.tmp 37)⟩,
    ⟨(some 39), (some (33, false)), .ibin .gtr (.tmp 36) (.tmp 38)⟩,
    ⟨(some 40), none, .pick (.tmp 33) (.const (.bool true)) (.tmp 39)⟩]

def f27r2 : List AInstr := [
    ⟨(some 2), none, .mov (.const (.bool false))⟩]

def f27r3 : List AInstr := [
    ⟨(some 41), none, .fieldAddr 0 (.tmp 1)⟩,
    ⟨(some 42), none, .load none (.tmp 41)⟩,
    ⟨(some 43), none, .len (.tmp 42)⟩,
    ⟨(some 44), none, .mov (.const (.int .i64 0))⟩]

def f27r4 : List AInstr := [
    ⟨(some 45), none, .ibin .lss (.tmp 44) (.tmp 43)⟩]

def f27r5 : List AInstr := [
    ⟨(some 46), none, .indexAddr 1 (.tmp 42) (.tmp 44)⟩,
    ⟨(some 47), none, .load none (.tmp 46)⟩,
    ⟨(some 4), none, .mov (.tmp 47)⟩]

def f27r6 : List AInstr := [
    ⟨(some 48), none, .mov (.tmp 4)⟩,
    ⟨(some 49), none, .ibin .lss (.tmp 48) (.const (.int .i64 1))⟩,
    ⟨(some 50), none, .mov (.tmp 49)⟩,
    ⟨(some 51), (some (50, false)), .mov (.tmp 4)⟩,
    ⟨(some 52), (some (50, false)), .ibin .gtr (.tmp 51) (.const (.int .i64 1500))⟩,
    ⟨(some 53), none, .pick (.tmp 50) (.const (.bool true)) (.tmp 52)⟩]

def f27r7 : List AInstr := [
    ⟨(some 2), none, .mov (.const (.bool false))⟩]

def f27r8 : List AInstr := [
    ⟨(some 54), none, .ibin .add (.tmp 44) (.const (.int .i64 1))⟩,
    ⟨(some 44), none, .mov (.tmp 54)⟩]

/-- live: [1, 42, 43, 44] -/
def f27l0 : ACode := (.seq (.ops f27r4)
  (.keep [1, 42, 43, 44, 45] (.seq (.cond (.tmp 45) .skip (.exit 0))
  (.keep [1, 42, 43, 44] (.seq (.block 1 (.seq (.ops f27r5)
  (.keep [1, 4, 42, 43, 44] (.seq (.ops f27r6)
  (.keep [1, 42, 43, 44, 53] (.cond (.tmp 53) (.keep [] (.seq (.ops f27r7)
  (.keep [2] .ret))) .skip))))))
  (.keep [1, 42, 43, 44] (.ops f27r8)))))))

def f27r10 : List AInstr := [
    ⟨(some 55), none, .fieldAddr 0 (.tmp 1)⟩,
    ⟨(some 56), none, .load none (.tmp 55)⟩,
    ⟨(some 58), none, .fieldAddr 2 (.tmp 1)⟩,
    ⟨(some 59), none, .load none (.tmp 58)⟩,
    ⟨(some 57), none, .callF 28 [.tmp 56]⟩,
    ⟨(some 60), none, .ibin .leq (.tmp 57) (.tmp 59)⟩,
    ⟨(some 2), none, .mov (.tmp 60)⟩]

def f27b : ACode := (.seq (.ops f27r0)
  (.keep [1] (.seq (.seq (.ops f27r1)
  (.keep [1, 40] (.cond (.tmp 40) (.keep [] (.seq (.ops f27r2)
  (.keep [2] .ret))) .skip)))
  (.keep [1] (.seq (.seq (.ops f27r3)
  (.keep [1, 42, 43, 44] (.block 0 (.loop f27l0))))
  (.keep [1] (.seq (.alt [(f27r10, [(0, 0, false), (0, 0, false), (0, 1, false), (0, 1, false), (0, 0, true), (1, 1, false), (1, 1, false)])])
  (.keep [2] .ret))))))))

def f27 : AFn := ⟨61, [.tmp 2], f27b⟩

theorem f27_ok : compFn Try.prog 27 = some f27.strip := by kernel_rfl

/- function 28: weirhouse/ring.sum; parameters 1; operations that are not compiled: 0 -/
def f28r0 : List AInstr := [
    ⟨(some 2), none, .mov (.const (.int .i64 0))⟩]

def f28r1 : List AInstr := [
    ⟨(some 3), none, .mov (.const (.int .i64 0))⟩]

def f28r2 : List AInstr := [
    ⟨(some 6), none, .mov (.tmp 0)⟩,
    ⟨(some 7), none, .len (.tmp 6)⟩,
    ⟨(some 8), none, .mov (.const (.int .i64 0))⟩]

def f28r3 : List AInstr := [
    ⟨(some 9), none, .ibin .lss (.tmp 8) (.tmp 7)⟩]

def f28r4 : List AInstr := [
    ⟨(some 10), none, .indexAddr 1 (.tmp 6) (.tmp 8)⟩,
    ⟨(some 11), none, .load none (.tmp 10)⟩,
    ⟨(some 5), none, .mov (.tmp 11)⟩]

def f28r5 : List AInstr := [
    ⟨(some 12), none, .mov (.tmp 3)⟩,
    ⟨(some 13), none, .mov (.tmp 5)⟩,
    ⟨(some 14), none, .ibin .add (.tmp 12) (.tmp 13)⟩,
    ⟨(some 3), none, .mov (.tmp 14)⟩]

def f28r6 : List AInstr := [
    ⟨(some 15), none, .ibin .add (.tmp 8) (.const (.int .i64 1))⟩,
    ⟨(some 8), none, .mov (.tmp 15)⟩]

/-- live: [3, 6, 7, 8] -/
def f28l0 : ACode := (.seq (.ops f28r3)
  (.keep [3, 6, 7, 8, 9] (.seq (.cond (.tmp 9) .skip (.exit 0))
  (.keep [3, 6, 7, 8] (.seq (.block 1 (.seq (.ops f28r4)
  (.keep [3, 5, 6, 7, 8] (.ops f28r5))))
  (.keep [3, 6, 7, 8] (.ops f28r6)))))))

def f28r8 : List AInstr := [
    ⟨(some 16), none, .mov (.tmp 3)⟩,
    ⟨(some 2), none, .mov (.tmp 16)⟩]

def f28b : ACode := (.seq (.ops f28r0)
  (.keep [0] (.seq (.ops f28r1)
  (.keep [0, 3] (.seq (.seq (.ops f28r2)
  (.keep [3, 6, 7, 8] (.block 0 (.loop f28l0))))
  (.keep [3] (.seq (.ops f28r8)
  (.keep [2] .ret))))))))

def f28 : AFn := ⟨17, [.tmp 2], f28b⟩

theorem f28_ok : compFn Try.prog 28 = some f28.strip := by kernel_rfl

/- function 29: weirhouse/bucket.Take; parameters 2; operations that are not compiled: 0 -/
def f29r0 : List AInstr := [
    ⟨(some 2), none, .box (.tmp 0)⟩,
    ⟨(some 3), none, .box (.tmp 1)⟩,
    ⟨(some 4), none, .alloc [.int .i64 0, .int .i64 0, .int .i64 0, .int .i64 0, .int .i64 0]⟩,
    ⟨(some 5), none, .mov (.const (.bool false))⟩,
    ⟨(some 6), none, .mov (.const (.int .i64 0))⟩]

def f29r1 : List AInstr := [
    ⟨(some 9), none, .load (some 5) (.tmp 2)⟩,
    ⟨(some 10), none, .fieldAddr 0 (.tmp 3)⟩,
    ⟨(some 11), none, .load none (.tmp 10)⟩,
    ⟨(some 12), none, .callF 24 [.tmp 9, .tmp 11]⟩,
    ⟨(some 8), none, .mov (.tmp 12)⟩,
    ⟨(some 13), none, .extract 0 (.tmp 8)⟩,
    ⟨(some 14), none, .extract 1 (.tmp 8)⟩,
    ⟨none, none, .store 5 (.tmp 2) (.tmp 13)⟩,
    ⟨(some 7), none, .mov (.tmp 14)⟩]

def f29r2 : List AInstr := [
    ⟨(some 16), none, .mov (.tmp 7)⟩,
    ⟨(some 17), none, .ibin .neq (.tmp 16) (.const (.int .i64 0))⟩,
    ⟨(some 15), none, .mov (.tmp 17)⟩]

def f29r3 : List AInstr := [
    ⟨(some 18), none, .build [.int .i64 0, .int .i64 0, .int .i64 0, .int .i64 0, .int .i64 0] []⟩,
    ⟨(some 19), none, .mov (.tmp 7)⟩,
    ⟨none, none, .store 5 (.tmp 4) (.tmp 18)⟩,
    ⟨(some 5), none, .mov (.const (.bool false))⟩,
    ⟨(some 6), none, .mov (.tmp 19)⟩]

def f29r4 : List AInstr := [
    ⟨(some 21), none, .fieldAddr 1 (.tmp 3)⟩,
    ⟨(some 22), none, .load none (.tmp 21)⟩,
    ⟨(some 23), none, .ibin .lss (.tmp 22) (.const (.int .i64 0))⟩,
    ⟨(some 24), none, .mov (.tmp 23)⟩,
    ⟨(some 25), (some (24, false)), .fieldAddr 1 (.tmp 3)⟩,
    ⟨(some 26), (some (24, false)), .load none (.tmp 25)⟩,
    ⟨(some 27), (some (24, false)), .ibin .gtr (.tmp 26) (.const (.int .i64 1048576))⟩,
    ⟨(some 28), none, .pick (.tmp 24) (.const (.bool true)) (.tmp 27)⟩,
    ⟨(some 20), none, .mov (.tmp 28)⟩]

def f29r5 : List AInstr := [
    ⟨(some 29), none, .build [.int .i64 0, .int .i64 0, .int .i64 0, .int .i64 0, .int .i64 0] []⟩,
    ⟨none, none, .store 5 (.tmp 4) (.tmp 29)⟩,
    ⟨(some 5), none, .mov (.const (.bool false))⟩,
    ⟨(some 6), none, .mov (.const (.int .i64 2))⟩]

def f29r6 : List AInstr := [
    ⟨(some 31), none, .fieldAddr 1 (.tmp 3)⟩,
    ⟨(some 32), none, .load none (.tmp 31)⟩,
    ⟨(some 33), none, .fieldAddr 1 (.tmp 2)⟩,
    ⟨(some 34), none, .load none (.tmp 33)⟩,
    ⟨(some 35), none, .ibin .mul (.tmp 32) (.tmp 34)⟩,
    ⟨(some 36), none, .fieldAddr 3 (.tmp 2)⟩,
    ⟨(some 37), none, .load none (.tmp 36)⟩,
    ⟨(some 38), none, .ibin .gtr (.tmp 35) (.tmp 37)⟩,
    ⟨(some 30), none, .mov (.tmp 38)⟩]

def f29r7 : List AInstr := [
    ⟨(some 39), none, .load (some 5) (.tmp 2)⟩,
    ⟨none, none, .store 5 (.tmp 4) (.tmp 39)⟩,
    ⟨(some 5), none, .mov (.const (.bool false))⟩,
    ⟨(some 6), none, .mov (.const (.int .i64 0))⟩]

def f29r8 : List AInstr := [
    ⟨(some 40), none, .fieldAddr 3 (.tmp 2)⟩,
    ⟨(some 41), none, .load none (.tmp 40)⟩,
    ⟨(some 42), none, .fieldAddr 1 (.tmp 3)⟩,
    ⟨(some 43), none, .load none (.tmp 42)⟩,
    ⟨(some 44), none, .fieldAddr 1 (.tmp 2)⟩,
    ⟨(some 45), none, .load none (.tmp 44)⟩,
    ⟨(some 46), none, .ibin .mul (.tmp 43) (.tmp 45)⟩,
    ⟨(some 47), none, .ibin .sub (.tmp 41) (.tmp 46)⟩,
    ⟨(some 48), none, .fieldAddr 3 (.tmp 2)⟩,
    ⟨none, none, .store 1 (.tmp 48) (.tmp 47)⟩]

def f29r9 : List AInstr := [
    ⟨(some 49), none, .load (some 5) (.tmp 2)⟩,
    ⟨none, none, .store 5 (.tmp 4) (.tmp 49)⟩,
    ⟨(some 5), none, .mov (.const (.bool true))⟩,
    ⟨(some 6), none, .mov (.const (.int .i64 0))⟩]

def f29b : ACode := (.seq (.ops f29r0)
  (.keep [2, 3, 4] (.seq (.ops f29r1)
  (.keep [2, 3, 4, 7] (.seq (.block 0 (.seq (.ops f29r2)
  (.keep [2, 3, 4, 7, 15] (.cond (.tmp 15) (.keep [4, 7] (.seq (.ops f29r3)
  (.keep [4, 5, 6] .ret))) (.keep [2, 3, 4] (.seq (.ops f29r4)
  (.keep [2, 3, 4, 20] (.cond (.tmp 20) (.keep [4] (.seq (.ops f29r5)
  (.keep [4, 5, 6] .ret))) (.keep [2, 3, 4] (.seq (.ops f29r6)
  (.keep [2, 3, 4, 30] (.cond (.tmp 30) (.keep [2, 4] (.seq (.ops f29r7)
  (.keep [4, 5, 6] .ret))) .skip))))))))))))
  (.keep [2, 3, 4] (.seq (.ops f29r8)
  (.keep [2, 4] (.seq (.ops f29r9)
  (.keep [4, 5, 6] .ret))))))))))

def f29 : AFn := ⟨50, [.cell 4 (some 5), .tmp 5, .tmp 6], f29b⟩

theorem f29_ok : compFn Try.prog 29 = some f29.strip := by kernel_rfl

end Go.Proofs.Ytfoooabhfecjhaa
