/-
  The functions of this seat as abstract code. Printed by a program of this claim's writer.
-/
import Derived.Test.YthdpcloggedhfaaChecked
import Derived.Test.YthdpcloggedhfaaAmS
import Derived.KernelRfl
namespace Go.Proofs.Ythdpcloggedhfaa
open Go Go.Am

/- function 3: weirhouse/weirhousekeep.DrrFair; parameters 3; operations that are not compiled: 0 -/
def f3r0 : List AInstr := [
    ⟨(some 6), none, .mov (.const (.bool false))⟩]

def f3r1 : List AInstr := [
    ⟨(some 14), none, .callF 8 []⟩,
    ⟨(some 15), none, .un .not (.tmp 14)⟩]

def f3r2 : List AInstr := [
    ⟨(some 6), none, .mov (.const (.bool false))⟩]

def f3r3 : List AInstr := [
    ⟨(some 17), none, .mov (.tmp 0)⟩,
    ⟨(some 18), none, .mov (.tmp 1)⟩,
    ⟨(some 19), none, .mov (.tmp 2)⟩,
    ⟨(some 20), none, .callF 9 [.tmp 17, .tmp 18, .tmp 19]⟩,
    ⟨(some 16), none, .mov (.tmp 20)⟩,
    ⟨(some 21), none, .extract 0 (.tmp 16)⟩,
    ⟨(some 22), none, .extract 1 (.tmp 16)⟩,
    ⟨(some 23), none, .extract 2 (.tmp 16)⟩,
    ⟨(some 24), none, .extract 3 (.tmp 16)⟩,
    ⟨(some 7), none, .mov (.tmp 21)⟩,
    ⟨(some 8), none, .mov (.tmp 22)⟩,
    ⟨(some 9), none, .mov (.tmp 23)⟩,
    ⟨(some 10), none, .mov (.tmp 24)⟩]

def f3r4 : List AInstr := [
    ⟨(some 25), none, .mov (.tmp 10)⟩,
    ⟨(some 26), none, .ibin .neq (.tmp 25) (.const (.int .i64 0))⟩]

def f3r5 : List AInstr := [
    ⟨(some 27), none, .mov (.tmp 7)⟩,
    ⟨(some 28), none, .len (.tmp 27)⟩,
    ⟨(some 29), none, .ibin .eql (.tmp 28) (.const (.int .i64 0))⟩,
    ⟨(some 6), none, .mov (.tmp 29)⟩]

def f3r6 : List AInstr := [
    ⟨(some 30), none, .mov (.tmp 0)⟩,
    ⟨(some 31), none, .len (.tmp 30)⟩,
    ⟨(some 32), none, .mov (.const (.int .i64 0))⟩]

def f3r7 : List AInstr := [
    ⟨(some 33), none, .ibin .lss (.tmp 32) (.tmp 31)⟩]

def f3r8 : List AInstr := [
    ⟨(some 34), none, .mov (.tmp 32)⟩,
    ⟨(some 35), none, .indexAddr 1 (.tmp 30) (.tmp 32)⟩,
    ⟨(some 36), none, .load none (.tmp 35)⟩,
    ⟨(some 11), none, .mov (.tmp 34)⟩,
    ⟨(some 12), none, .mov (.tmp 36)⟩]

def f3r9 : List AInstr := [
    ⟨(some 37), none, .mov (.tmp 11)⟩,
    ⟨(some 38), none, .mov (.tmp 8)⟩,
    ⟨(some 39), none, .len (.tmp 38)⟩,
    ⟨(some 40), none, .ibin .geq (.tmp 37) (.tmp 39)⟩,
    ⟨(some 41), none, .mov (.tmp 40)⟩,
    ⟨(some 42), (some (41, false)), .mov (.tmp 11)⟩,
    ⟨(some 43), (some (41, false)), .mov (.tmp 9)⟩,
    ⟨(some 44), (some (41, false)), .len (.tmp 43)⟩,
    ⟨(some 45), (some (41, false)), .ibin .geq (.tmp 42) (.tmp 44)⟩,
    ⟨(some 46), none, .pick (.tmp 41) (.const (.bool true)) (.tmp 45)⟩]

def f3r10 : List AInstr := [
    ⟨(some 6), none, .mov (.const (.bool false))⟩]

def f3r11 : List AInstr := [
    ⟨(some 47), none, .mov (.tmp 7)⟩,
    ⟨(some 48), none, .mov (.tmp 11)⟩,
    ⟨(some 49), none, .callF 10 [.tmp 47, .tmp 48]⟩,
    ⟨(some 13), none, .mov (.tmp 49)⟩]

def f3r12 : List AInstr := [
    ⟨(some 50), none, .mov (.tmp 13)⟩,
    ⟨(some 51), none, .mov (.tmp 2)⟩,
    ⟨(some 52), none, .mov (.tmp 12)⟩,
    ⟨(some 53), none, .ibin .mul (.tmp 51) (.tmp 52)⟩,
    ⟨(some 54), none, .ibin .gtr (.tmp 50) (.tmp 53)⟩,
    ⟨(some 55), none, .mov (.tmp 54)⟩,
    ⟨(some 56), (some (55, false)), .mov (.tmp 8)⟩,
    ⟨(some 57), (some (55, false)), .mov (.tmp 11)⟩,
    ⟨(some 58), (some (55, false)), .indexAddr 1 (.tmp 56) (.tmp 57)⟩,
    ⟨(some 59), (some (55, false)), .load none (.tmp 58)⟩,
    ⟨(some 60), (some (55, false)), .len (.tmp 59)⟩,
    ⟨(some 61), (some (55, false)), .ibin .gtr (.tmp 60) (.const (.int .i64 0))⟩,
    ⟨(some 62), (some (55, false)), .mov (.tmp 61)⟩,
    ⟨(some 63), (some (62, true)), .mov (.tmp 13)⟩,
    ⟨(some 64), (some (62, true)), .mov (.tmp 2)⟩,
    ⟨(some 65), (some (62, true)), .mov (.tmp 12)⟩,
    ⟨(some 66), (some (62, true)), .ibin .mul (.tmp 64) (.tmp 65)⟩,
    ⟨(some 67), (some (62, true)), .ibin .sub (.tmp 66) (.const (.int .i64 1500))⟩,
    ⟨(some 68), (some (62, true)), .ibin .leq (.tmp 63) (.tmp 67)⟩,
    ⟨(some 69), (some (62, true)), .mov (.tmp 68)⟩,
    ⟨(some 70), (some (69, false)), .mov (.tmp 13)⟩,
    ⟨(some 71), (some (69, false)), .mov (.tmp 9)⟩,
    ⟨(some 72), (some (69, false)), .mov (.tmp 11)⟩,
    ⟨(some 73), (some (69, false)), .indexAddr 1 (.tmp 71) (.tmp 72)⟩,
    ⟨(some 74), (some (69, false)), .load none (.tmp 73)⟩,
    ⟨(some 75), (some (69, false)), .ibin .add (.tmp 70) (.tmp 74)⟩,
    ⟨(some 76), (some (69, false)), .mov (.tmp 2)⟩,
    ⟨(some 77), (some (69, false)), .mov (.tmp 12)⟩,
    ⟨(some 78), (some (69, false)), .ibin .mul (.tmp 76) (.tmp 77)⟩,
    ⟨(some 79), (some (69, false)), .ibin .neq (.tmp 75) (.tmp 78)⟩,
    ⟨(some 80), (some (62, true)), .pick (.tmp 69) (.const (.bool true)) (.tmp 79)⟩,
    ⟨(some 81), (some (62, true)), .mov (.tmp 80)⟩,
    ⟨(some 82), (some (81, false)), .mov (.tmp 9)⟩,
    ⟨(some 83), (some (81, false)), .mov (.tmp 11)⟩,
    ⟨(some 84), (some (81, false)), .indexAddr 1 (.tmp 82) (.tmp 83)⟩,
    ⟨(some 85), (some (81, false)), .load none (.tmp 84)⟩,
    ⟨(some 86), (some (81, false)), .mov (.tmp 8)⟩,
    ⟨(some 87), (some (81, false)), .mov (.tmp 11)⟩,
    ⟨(some 88), (some (81, false)), .indexAddr 1 (.tmp 86) (.tmp 87)⟩,
    ⟨(some 89), (some (81, false)), .load none (.tmp 88)⟩,
    ⟨(some 90), (some (81, false)), .indexAddr 1 (.tmp 89) (.const (.int .i64 0))⟩,
    ⟨(some 91), (some (81, false)), .load none (.tmp 90)⟩,
    ⟨(some 92), (some (81, false)), .ibin .geq (.tmp 85) (.tmp 91)⟩,
    ⟨(some 93), (some (62, true)), .pick (.tmp 81) (.const (.bool true)) (.tmp 92)⟩,
    ⟨(some 94), (some (55, false)), .pick (.tmp 62) (.tmp 93) (.const (.bool false))⟩,
    ⟨(some 95), none, .pick (.tmp 55) (.const (.bool true)) (.tmp 94)⟩]

def f3r13 : List AInstr := [
    ⟨(some 6), none, .mov (.const (.bool false))⟩]

def f3r14 : List AInstr := [
    ⟨(some 96), none, .ibin .add (.tmp 32) (.const (.int .i64 1))⟩,
    ⟨(some 32), none, .mov (.tmp 96)⟩]

/-- live: [2, 7, 8, 9, 30, 31, 32] -/
def f3l0 : ACode := (.seq (.ops f3r7)
  (.keep [2, 7, 8, 9, 30, 31, 32, 33] (.seq (.cond (.tmp 33) .skip (.exit 0))
  (.keep [2, 7, 8, 9, 30, 31, 32] (.seq (.block 1 (.seq (.ops f3r8)
  (.keep [2, 7, 8, 9, 11, 12, 30, 31, 32] (.seq (.seq (.ops f3r9)
  (.keep [2, 7, 8, 9, 11, 12, 30, 31, 32, 46] (.cond (.tmp 46) (.keep [] (.seq (.ops f3r10)
  (.keep [6] .ret))) .skip)))
  (.keep [2, 7, 8, 9, 11, 12, 30, 31, 32] (.seq (.ops f3r11)
  (.keep [2, 7, 8, 9, 11, 12, 13, 30, 31, 32] (.seq (.draw f3r12 [(0, 0, false), (0, 0, false), (0, 0, false), (0, 0, false), (0, 0, false), (0, 0, false), (0, 0, false), (0, 0, false), (0, 0, false), (0, 0, false), (0, 0, false), (0, 0, false), (0, 0, false), (0, 0, false), (0, 0, false), (0, 0, false), (0, 0, false), (0, 0, false), (0, 0, false), (0, 0, false), (0, 0, false), (0, 0, false), (0, 0, false), (0, 0, false), (0, 0, false), (0, 0, false), (0, 0, false), (0, 0, false), (0, 0, false), (0, 0, false), (0, 0, false), (0, 0, false), (0, 0, false), (0, 0, false), (0, 0, false), (0, 0, false), (0, 0, false), (0, 0, false), (0, 0, false), (0, 0, false), (0, 0, false), (0, 0, false), (0, 0, false), (0, 0, false), (0, 0, false), (0, 0, false)])
  (.keep [2, 7, 8, 9, 30, 31, 32, 95] (.cond (.tmp 95) (.keep [] (.seq (.ops f3r13)
  (.keep [6] .ret))) .skip))))))))))
  (.keep [2, 7, 8, 9, 30, 31, 32] (.ops f3r14)))))))

def f3r16 : List AInstr := [
    ⟨(some 6), none, .mov (.const (.bool true))⟩]

def f3b : ACode := (.seq (.ops f3r0)
  (.keep [0, 1, 2] (.seq (.seq (.ops f3r1)
  (.keep [0, 1, 2, 15] (.cond (.tmp 15) (.keep [] (.seq (.ops f3r2)
  (.keep [6] .ret))) .skip)))
  (.keep [0, 1, 2] (.seq (.ops f3r3)
  (.keep [0, 2, 7, 8, 9, 10] (.seq (.seq (.ops f3r4)
  (.keep [0, 2, 7, 8, 9, 26] (.cond (.tmp 26) (.keep [7] (.seq (.ops f3r5)
  (.keep [6] .ret))) .skip)))
  (.keep [0, 2, 7, 8, 9] (.seq (.seq (.ops f3r6)
  (.keep [2, 7, 8, 9, 30, 31, 32] (.block 0 (.loop f3l0))))
  (.keep [] (.seq (.ops f3r16)
  (.keep [6] .ret))))))))))))

def f3 : AFn := ⟨97, [.tmp 6], f3b⟩

theorem f3_ok : compFn Try.prog 3 = some f3.strip := by kernel_rfl

/- function 4: weirhouse/weirhousekeep.DrrOrder; parameters 3; operations that are not compiled: 0 -/
def f4r0 : List AInstr := [
    ⟨(some 6), none, .mov (.const (.bool false))⟩]

def f4r1 : List AInstr := [
    ⟨(some 15), none, .callF 8 []⟩,
    ⟨(some 16), none, .un .not (.tmp 15)⟩]

def f4r2 : List AInstr := [
    ⟨(some 6), none, .mov (.const (.bool false))⟩]

def f4r3 : List AInstr := [
    ⟨(some 18), none, .mov (.tmp 0)⟩,
    ⟨(some 19), none, .mov (.tmp 1)⟩,
    ⟨(some 20), none, .mov (.tmp 2)⟩,
    ⟨(some 21), none, .callF 9 [.tmp 18, .tmp 19, .tmp 20]⟩,
    ⟨(some 17), none, .mov (.tmp 21)⟩,
    ⟨(some 22), none, .extract 0 (.tmp 17)⟩,
    ⟨(some 23), none, .extract 1 (.tmp 17)⟩,
    ⟨(some 24), none, .extract 2 (.tmp 17)⟩,
    ⟨(some 25), none, .extract 3 (.tmp 17)⟩,
    ⟨(some 7), none, .mov (.tmp 22)⟩,
    ⟨(some 8), none, .mov (.tmp 23)⟩,
    ⟨(some 9), none, .mov (.tmp 24)⟩,
    ⟨(some 10), none, .mov (.tmp 25)⟩]

def f4r4 : List AInstr := [
    ⟨(some 26), none, .mov (.tmp 10)⟩,
    ⟨(some 27), none, .ibin .neq (.tmp 26) (.const (.int .i64 0))⟩]

def f4r5 : List AInstr := [
    ⟨(some 6), none, .mov (.const (.bool true))⟩]

def f4r6 : List AInstr := [
    ⟨(some 28), none, .mov (.tmp 1)⟩,
    ⟨(some 29), none, .len (.tmp 28)⟩,
    ⟨(some 30), none, .makeSlice 1 24 [.slice none 0 0] (.tmp 29) (.tmp 29)⟩,
    ⟨(some 11), none, .mov (.tmp 30)⟩]

def f4r7 : List AInstr := [
    ⟨(some 31), none, .mov (.tmp 7)⟩,
    ⟨(some 32), none, .len (.tmp 31)⟩,
    ⟨(some 33), none, .mov (.const (.int .i64 0))⟩]

def f4r8 : List AInstr := [
    ⟨(some 34), none, .ibin .lss (.tmp 33) (.tmp 32)⟩]

def f4r9 : List AInstr := [
    ⟨(some 35), none, .indexAddr 2 (.tmp 31) (.tmp 33)⟩,
    ⟨(some 36), none, .load (some 2) (.tmp 35)⟩,
    ⟨(some 13), none, .alloc [.int .i64 0, .int .i64 0]⟩,
    ⟨none, none, .store 2 (.tmp 13) (.tmp 36)⟩]

def f4r10 : List AInstr := [
    ⟨(some 37), none, .fieldAddr 0 (.tmp 13)⟩,
    ⟨(some 38), none, .load none (.tmp 37)⟩,
    ⟨(some 39), none, .ibin .lss (.tmp 38) (.const (.int .i64 0))⟩,
    ⟨(some 40), none, .mov (.tmp 39)⟩,
    ⟨(some 41), (some (40, false)), .fieldAddr 0 (.tmp 13)⟩,
    ⟨(some 42), (some (40, false)), .load none (.tmp 41)⟩,
    ⟨(some 43), (some (40, false)), .mov (.tmp 11)⟩,
    ⟨(some 44), (some (40, false)), .len (.tmp 43)⟩,
    ⟨(some 45), (some (40, false)), .ibin .geq (.tmp 42) (.tmp 44)⟩,
    ⟨(some 46), none, .pick (.tmp 40) (.const (.bool true)) (.tmp 45)⟩]

def f4r11 : List AInstr := [
    ⟨(some 6), none, .mov (.const (.bool false))⟩]

def f4r12 : List AInstr := [
    ⟨(some 47), none, .mov (.tmp 11)⟩,
    ⟨(some 48), none, .fieldAddr 0 (.tmp 13)⟩,
    ⟨(some 49), none, .load none (.tmp 48)⟩,
    ⟨(some 50), none, .mov (.tmp 11)⟩,
    ⟨(some 51), none, .fieldAddr 0 (.tmp 13)⟩,
    ⟨(some 52), none, .load none (.tmp 51)⟩,
    ⟨(some 53), none, .indexAddr 1 (.tmp 50) (.tmp 52)⟩,
    ⟨(some 54), none, .load none (.tmp 53)⟩,
    ⟨(some 55), none, .fieldAddr 1 (.tmp 13)⟩,
    ⟨(some 56), none, .load none (.tmp 55)⟩,
    ⟨(some 57), none, .buildSlice 1 1 [.int .i64 0] [(0, 1, (.tmp 56))]⟩,
    ⟨(some 58), none, .append 1 8 (.tmp 54) (.tmp 57)⟩,
    ⟨(some 59), none, .indexAddr 1 (.tmp 47) (.tmp 49)⟩,
    ⟨none, none, .store 1 (.tmp 59) (.tmp 58)⟩]

def f4r13 : List AInstr := [
    ⟨(some 60), none, .ibin .add (.tmp 33) (.const (.int .i64 1))⟩,
    ⟨(some 33), none, .mov (.tmp 60)⟩]

/-- live: [1, 8, 11, 31, 32, 33] -/
def f4l0 : ACode := (.seq (.ops f4r8)
  (.keep [1, 8, 11, 31, 32, 33, 34] (.seq (.cond (.tmp 34) .skip (.exit 0))
  (.keep [1, 8, 11, 31, 32, 33] (.seq (.block 1 (.seq (.ops f4r9)
  (.keep [1, 8, 11, 13, 31, 32, 33] (.seq (.seq (.ops f4r10)
  (.keep [1, 8, 11, 13, 31, 32, 33, 46] (.cond (.tmp 46) (.keep [] (.seq (.ops f4r11)
  (.keep [6] .ret))) .skip)))
  (.keep [1, 8, 11, 13, 31, 32, 33] (.draw f4r12 [(0, 2, false), (0, 2, false), (0, 2, false), (0, 1, false), (0, 1, false), (0, 1, false), (0, 1, false), (0, 1, false), (0, 0, false), (0, 0, false), (0, 0, true), (1, 0, true), (2, 2, false), (2, 0, true)]))))))
  (.keep [1, 8, 11, 31, 32, 33] (.ops f4r13)))))))

def f4r15 : List AInstr := [
    ⟨(some 61), none, .mov (.tmp 8)⟩,
    ⟨(some 62), none, .len (.tmp 61)⟩,
    ⟨(some 63), none, .mov (.const (.int .i64 0))⟩]

def f4r16 : List AInstr := [
    ⟨(some 64), none, .ibin .lss (.tmp 63) (.tmp 62)⟩]

def f4r17 : List AInstr := [
    ⟨(some 65), none, .mov (.tmp 63)⟩,
    ⟨(some 14), none, .mov (.tmp 65)⟩]

def f4r18 : List AInstr := [
    ⟨(some 66), none, .mov (.tmp 14)⟩,
    ⟨(some 67), none, .mov (.tmp 11)⟩,
    ⟨(some 68), none, .len (.tmp 67)⟩,
    ⟨(some 69), none, .ibin .geq (.tmp 66) (.tmp 68)⟩]

def f4r19 : List AInstr := [
    ⟨(some 6), none, .mov (.const (.bool false))⟩]

def f4r20 : List AInstr := [
    ⟨(some 70), none, .mov (.tmp 11)⟩,
    ⟨(some 71), none, .mov (.tmp 14)⟩,
    ⟨(some 72), none, .mov (.tmp 11)⟩,
    ⟨(some 73), none, .mov (.tmp 14)⟩,
    ⟨(some 74), none, .indexAddr 1 (.tmp 72) (.tmp 73)⟩,
    ⟨(some 75), none, .load none (.tmp 74)⟩,
    ⟨(some 76), none, .mov (.tmp 8)⟩,
    ⟨(some 77), none, .mov (.tmp 14)⟩,
    ⟨(some 78), none, .indexAddr 1 (.tmp 76) (.tmp 77)⟩,
    ⟨(some 79), none, .load none (.tmp 78)⟩,
    ⟨(some 80), none, .append 1 8 (.tmp 75) (.tmp 79)⟩,
    ⟨(some 81), none, .indexAddr 1 (.tmp 70) (.tmp 71)⟩,
    ⟨none, none, .store 1 (.tmp 81) (.tmp 80)⟩]

def f4r21 : List AInstr := [
    ⟨(some 82), none, .ibin .add (.tmp 63) (.const (.int .i64 1))⟩,
    ⟨(some 63), none, .mov (.tmp 82)⟩]

/-- live: [1, 8, 11, 62, 63] -/
def f4l1 : ACode := (.seq (.ops f4r16)
  (.keep [1, 8, 11, 62, 63, 64] (.seq (.cond (.tmp 64) .skip (.exit 2))
  (.keep [1, 8, 11, 62, 63] (.seq (.block 3 (.seq (.ops f4r17)
  (.keep [1, 8, 11, 14, 62, 63] (.seq (.seq (.ops f4r18)
  (.keep [1, 8, 11, 14, 62, 63, 69] (.cond (.tmp 69) (.keep [] (.seq (.ops f4r19)
  (.keep [6] .ret))) .skip)))
  (.keep [1, 8, 11, 14, 62, 63] (.draw f4r20 [(0, 1, false), (0, 1, false), (0, 0, false), (0, 0, false), (0, 0, false), (0, 0, false), (0, 0, false), (0, 0, false), (0, 0, false), (0, 0, false), (0, 0, true), (1, 1, false), (1, 0, true)]))))))
  (.keep [1, 8, 11, 62, 63] (.ops f4r21)))))))

def f4r23 : List AInstr := [
    ⟨(some 83), none, .mov (.tmp 11)⟩,
    ⟨(some 84), none, .mov (.tmp 1)⟩,
    ⟨(some 85), none, .callF 11 [.tmp 83, .tmp 84]⟩,
    ⟨(some 6), none, .mov (.tmp 85)⟩]

def f4b : ACode := (.seq (.ops f4r0)
  (.keep [0, 1, 2] (.seq (.seq (.ops f4r1)
  (.keep [0, 1, 2, 16] (.cond (.tmp 16) (.keep [] (.seq (.ops f4r2)
  (.keep [6] .ret))) .skip)))
  (.keep [0, 1, 2] (.seq (.ops f4r3)
  (.keep [1, 7, 8, 10] (.seq (.seq (.ops f4r4)
  (.keep [1, 7, 8, 27] (.cond (.tmp 27) (.keep [] (.seq (.ops f4r5)
  (.keep [6] .ret))) .skip)))
  (.keep [1, 7, 8] (.seq (.ops f4r6)
  (.keep [1, 7, 8, 11] (.seq (.seq (.ops f4r7)
  (.keep [1, 8, 11, 31, 32, 33] (.block 0 (.loop f4l0))))
  (.keep [1, 8, 11] (.seq (.seq (.ops f4r15)
  (.keep [1, 8, 11, 62, 63] (.block 2 (.loop f4l1))))
  (.keep [1, 11] (.seq (.ops f4r23)
  (.keep [6] .ret))))))))))))))))

def f4 : AFn := ⟨86, [.tmp 6], f4b⟩

theorem f4_ok : compFn Try.prog 4 = some f4.strip := by kernel_rfl

/- function 5: weirhouse/weirhousekeep.DrrApart; parameters 4; operations that are not compiled: 0 -/
def f5r0 : List AInstr := [
    ⟨(some 8), none, .mov (.const (.bool false))⟩]

def f5r1 : List AInstr := [
    ⟨(some 17), none, .callF 8 []⟩,
    ⟨(some 18), none, .un .not (.tmp 17)⟩]

def f5r2 : List AInstr := [
    ⟨(some 8), none, .mov (.const (.bool false))⟩]

def f5r3 : List AInstr := [
    ⟨(some 20), none, .mov (.tmp 0)⟩,
    ⟨(some 21), none, .mov (.tmp 1)⟩,
    ⟨(some 22), none, .mov (.tmp 2)⟩,
    ⟨(some 23), none, .callF 9 [.tmp 20, .tmp 21, .tmp 22]⟩,
    ⟨(some 19), none, .mov (.tmp 23)⟩,
    ⟨(some 24), none, .extract 0 (.tmp 19)⟩,
    ⟨(some 25), none, .extract 1 (.tmp 19)⟩,
    ⟨(some 26), none, .extract 2 (.tmp 19)⟩,
    ⟨(some 27), none, .extract 3 (.tmp 19)⟩,
    ⟨(some 9), none, .mov (.tmp 24)⟩,
    ⟨(some 10), none, .mov (.tmp 25)⟩,
    ⟨(some 11), none, .mov (.tmp 26)⟩,
    ⟨(some 12), none, .mov (.tmp 27)⟩]

def f5r4 : List AInstr := [
    ⟨(some 28), none, .mov (.tmp 12)⟩,
    ⟨(some 29), none, .ibin .neq (.tmp 28) (.const (.int .i64 0))⟩,
    ⟨(some 30), none, .mov (.tmp 29)⟩,
    ⟨(some 31), (some (30, false)), .mov (.tmp 3)⟩,
    ⟨(some 32), (some (30, false)), .ibin .lss (.tmp 31) (.const (.int .i64 0))⟩,
    ⟨(some 33), none, .pick (.tmp 30) (.const (.bool true)) (.tmp 32)⟩,
    ⟨(some 34), none, .mov (.tmp 33)⟩,
    ⟨(some 35), (some (34, false)), .mov (.tmp 3)⟩,
    ⟨(some 36), (some (34, false)), .mov (.tmp 0)⟩,
    ⟨(some 37), (some (34, false)), .len (.tmp 36)⟩,
    ⟨(some 38), (some (34, false)), .ibin .geq (.tmp 35) (.tmp 37)⟩,
    ⟨(some 39), none, .pick (.tmp 34) (.const (.bool true)) (.tmp 38)⟩]

def f5r5 : List AInstr := [
    ⟨(some 8), none, .mov (.const (.bool true))⟩]

def f5r6 : List AInstr := [
    ⟨(some 41), none, .mov (.tmp 0)⟩,
    ⟨(some 42), none, .mov (.tmp 3)⟩,
    ⟨(some 43), none, .mov (.tmp 3)⟩,
    ⟨(some 44), none, .ibin .add (.tmp 43) (.const (.int .i64 1))⟩,
    ⟨(some 45), none, .slice 1 (.tmp 41) (some (.tmp 42)) (some (.tmp 44)) none⟩,
    ⟨(some 46), none, .mov (.tmp 1)⟩,
    ⟨(some 47), none, .mov (.tmp 3)⟩,
    ⟨(some 48), none, .mov (.tmp 3)⟩,
    ⟨(some 49), none, .ibin .add (.tmp 48) (.const (.int .i64 1))⟩,
    ⟨(some 50), none, .slice 1 (.tmp 46) (some (.tmp 47)) (some (.tmp 49)) none⟩,
    ⟨(some 51), none, .mov (.tmp 2)⟩,
    ⟨(some 52), none, .callF 9 [.tmp 45, .tmp 50, .tmp 51]⟩,
    ⟨(some 40), none, .mov (.tmp 52)⟩,
    ⟨(some 53), none, .extract 0 (.tmp 40)⟩,
    ⟨(some 54), none, .extract 1 (.tmp 40)⟩,
    ⟨(some 55), none, .extract 2 (.tmp 40)⟩,
    ⟨(some 56), none, .extract 3 (.tmp 40)⟩,
    ⟨(some 13), none, .mov (.tmp 53)⟩,
    ⟨(some 14), none, .mov (.tmp 54)⟩,
    ⟨(some 15), none, .mov (.tmp 55)⟩,
    ⟨(some 16), none, .mov (.tmp 56)⟩]

def f5r7 : List AInstr := [
    ⟨(some 57), none, .mov (.tmp 16)⟩,
    ⟨(some 58), none, .ibin .eql (.tmp 57) (.const (.int .i64 0))⟩,
    ⟨(some 59), none, .mov (.tmp 58)⟩,
    ⟨(some 60), (some (59, true)), .mov (.tmp 9)⟩,
    ⟨(some 61), (some (59, true)), .mov (.tmp 3)⟩,
    ⟨(some 62), (some (59, true)), .callF 10 [.tmp 60, .tmp 61]⟩,
    ⟨(some 63), (some (59, true)), .mov (.tmp 13)⟩,
    ⟨(some 64), (some (59, true)), .callF 10 [.tmp 63, .const (.int .i64 0)]⟩,
    ⟨(some 65), (some (59, true)), .ibin .eql (.tmp 62) (.tmp 64)⟩,
    ⟨(some 66), none, .pick (.tmp 59) (.tmp 65) (.const (.bool false))⟩,
    ⟨(some 8), none, .mov (.tmp 66)⟩]

def f5b : ACode := (.seq (.ops f5r0)
  (.keep [0, 1, 2, 3] (.seq (.seq (.ops f5r1)
  (.keep [0, 1, 2, 3, 18] (.cond (.tmp 18) (.keep [] (.seq (.ops f5r2)
  (.keep [8] .ret))) .skip)))
  (.keep [0, 1, 2, 3] (.seq (.ops f5r3)
  (.keep [0, 1, 2, 3, 9, 12] (.seq (.seq (.ops f5r4)
  (.keep [0, 1, 2, 3, 9, 39] (.cond (.tmp 39) (.keep [] (.seq (.ops f5r5)
  (.keep [8] .ret))) .skip)))
  (.keep [0, 1, 2, 3, 9] (.seq (.draw f5r6 [(0, 0, false), (0, 0, false), (0, 0, false), (0, 0, false), (0, 0, false), (0, 0, false), (0, 0, false), (0, 0, false), (0, 0, false), (0, 0, false), (0, 0, false), (0, 0, true), (1, 1, false), (1, 1, false), (1, 1, false), (1, 1, false), (1, 1, false), (1, 1, false), (1, 1, false), (1, 1, false), (1, 1, false)])
  (.keep [3, 9, 13, 16] (.seq (.ops f5r7)
  (.keep [8] .ret))))))))))))

def f5 : AFn := ⟨67, [.tmp 8], f5b⟩

theorem f5_ok : compFn Try.prog 5 = some f5.strip := by kernel_rfl

/- function 6: weirhouse/weirhousekeep.DrrAll; parameters 2; operations that are not compiled: 0 -/
def f6r0 : List AInstr := [
    ⟨(some 4), none, .mov (.const (.bool false))⟩]

def f6r1 : List AInstr := [
    ⟨(some 17), none, .callF 8 []⟩,
    ⟨(some 18), none, .un .not (.tmp 17)⟩]

def f6r2 : List AInstr := [
    ⟨(some 4), none, .mov (.const (.bool false))⟩]

def f6r3 : List AInstr := [
    ⟨(some 5), none, .mov (.const (.int .i64 0))⟩]

def f6r4 : List AInstr := [
    ⟨(some 19), none, .mov (.tmp 1)⟩,
    ⟨(some 20), none, .len (.tmp 19)⟩,
    ⟨(some 21), none, .mov (.const (.int .i64 0))⟩]

def f6r5 : List AInstr := [
    ⟨(some 22), none, .ibin .lss (.tmp 21) (.tmp 20)⟩]

def f6r6 : List AInstr := [
    ⟨(some 23), none, .mov (.tmp 21)⟩,
    ⟨(some 24), none, .indexAddr 1 (.tmp 19) (.tmp 21)⟩,
    ⟨(some 25), none, .load none (.tmp 24)⟩,
    ⟨(some 6), none, .mov (.tmp 23)⟩,
    ⟨(some 7), none, .mov (.tmp 25)⟩]

def f6r7 : List AInstr := [
    ⟨(some 8), none, .mov (.const (.int .i64 0))⟩]

def f6r8 : List AInstr := [
    ⟨(some 26), none, .mov (.tmp 7)⟩,
    ⟨(some 27), none, .len (.tmp 26)⟩,
    ⟨(some 28), none, .mov (.const (.int .i64 0))⟩]

def f6r9 : List AInstr := [
    ⟨(some 29), none, .ibin .lss (.tmp 28) (.tmp 27)⟩]

def f6r10 : List AInstr := [
    ⟨(some 30), none, .indexAddr 1 (.tmp 26) (.tmp 28)⟩,
    ⟨(some 31), none, .load none (.tmp 30)⟩,
    ⟨(some 10), none, .mov (.tmp 31)⟩]

def f6r11 : List AInstr := [
    ⟨(some 32), none, .mov (.tmp 8)⟩,
    ⟨(some 33), none, .mov (.tmp 10)⟩,
    ⟨(some 34), none, .ibin .add (.tmp 32) (.tmp 33)⟩,
    ⟨(some 8), none, .mov (.tmp 34)⟩]

def f6r12 : List AInstr := [
    ⟨(some 35), none, .mov (.tmp 8)⟩,
    ⟨(some 36), none, .ibin .gtr (.tmp 35) (.const (.int .i64 1073741824))⟩,
    ⟨(some 37), none, .mov (.tmp 36)⟩,
    ⟨(some 38), (some (37, false)), .mov (.tmp 8)⟩,
    ⟨(some 39), (some (37, false)), .ibin .lss (.tmp 38) (.const (.int .i64 0))⟩,
    ⟨(some 40), none, .pick (.tmp 37) (.const (.bool true)) (.tmp 39)⟩]

def f6r13 : List AInstr := [
    ⟨(some 4), none, .mov (.const (.bool true))⟩]

def f6r14 : List AInstr := [
    ⟨(some 41), none, .ibin .add (.tmp 28) (.const (.int .i64 1))⟩,
    ⟨(some 28), none, .mov (.tmp 41)⟩]

/-- live: [0, 1, 5, 6, 8, 19, 20, 21, 26, 27, 28] -/
def f6l0 : ACode := (.seq (.ops f6r9)
  (.keep [0, 1, 5, 6, 8, 19, 20, 21, 26, 27, 28, 29] (.seq (.cond (.tmp 29) .skip (.exit 2))
  (.keep [0, 1, 5, 6, 8, 19, 20, 21, 26, 27, 28] (.seq (.block 3 (.seq (.ops f6r10)
  (.keep [0, 1, 5, 6, 8, 10, 19, 20, 21, 26, 27, 28] (.seq (.ops f6r11)
  (.keep [0, 1, 5, 6, 8, 19, 20, 21, 26, 27, 28] (.seq (.ops f6r12)
  (.keep [0, 1, 5, 6, 8, 19, 20, 21, 26, 27, 28, 40] (.cond (.tmp 40) (.keep [] (.seq (.ops f6r13)
  (.keep [4] .ret))) .skip))))))))
  (.keep [0, 1, 5, 6, 8, 19, 20, 21, 26, 27, 28] (.ops f6r14)))))))

def f6r16 : List AInstr := [
    ⟨(some 42), none, .mov (.tmp 6)⟩,
    ⟨(some 43), none, .mov (.tmp 0)⟩,
    ⟨(some 44), none, .len (.tmp 43)⟩,
    ⟨(some 45), none, .ibin .lss (.tmp 42) (.tmp 44)⟩,
    ⟨(some 46), none, .mov (.tmp 45)⟩,
    ⟨(some 47), (some (46, true)), .mov (.tmp 0)⟩,
    ⟨(some 48), (some (46, true)), .mov (.tmp 6)⟩,
    ⟨(some 49), (some (46, true)), .indexAddr 1 (.tmp 47) (.tmp 48)⟩,
    ⟨(some 50), (some (46, true)), .load none (.tmp 49)⟩,
    ⟨(some 51), (some (46, true)), .ibin .gtr (.tmp 50) (.const (.int .i64 0))⟩,
    ⟨(some 52), none, .pick (.tmp 46) (.tmp 51) (.const (.bool false))⟩]

def f6r17 : List AInstr := [
    ⟨(some 53), none, .mov (.tmp 5)⟩,
    ⟨(some 54), none, .mov (.tmp 8)⟩,
    ⟨(some 55), none, .mov (.tmp 0)⟩,
    ⟨(some 56), none, .mov (.tmp 6)⟩,
    ⟨(some 57), none, .indexAddr 1 (.tmp 55) (.tmp 56)⟩,
    ⟨(some 58), none, .load none (.tmp 57)⟩,
    ⟨(some 59), none, .ibin .add (.tmp 54) (.tmp 58)⟩,
    ⟨(some 60), none, .ibin .sub (.tmp 59) (.const (.int .i64 1))⟩,
    ⟨(some 61), none, .mov (.tmp 0)⟩,
    ⟨(some 62), none, .mov (.tmp 6)⟩,
    ⟨(some 63), none, .indexAddr 1 (.tmp 61) (.tmp 62)⟩,
    ⟨(some 64), none, .load none (.tmp 63)⟩,
    ⟨(some 65), none, .ibin .quo (.tmp 60) (.tmp 64)⟩,
    ⟨(some 66), none, .minmax true [.tmp 53, .tmp 65]⟩,
    ⟨(some 5), none, .mov (.tmp 66)⟩]

def f6r18 : List AInstr := [
    ⟨(some 67), none, .ibin .add (.tmp 21) (.const (.int .i64 1))⟩,
    ⟨(some 21), none, .mov (.tmp 67)⟩]

/-- live: [0, 1, 5, 19, 20, 21] -/
def f6l1 : ACode := (.seq (.ops f6r5)
  (.keep [0, 1, 5, 19, 20, 21, 22] (.seq (.cond (.tmp 22) .skip (.exit 0))
  (.keep [0, 1, 5, 19, 20, 21] (.seq (.block 1 (.seq (.ops f6r6)
  (.keep [0, 1, 5, 6, 7, 19, 20, 21] (.seq (.ops f6r7)
  (.keep [0, 1, 5, 6, 7, 8, 19, 20, 21] (.seq (.seq (.ops f6r8)
  (.keep [0, 1, 5, 6, 8, 19, 20, 21, 26, 27, 28] (.block 2 (.loop f6l0))))
  (.keep [0, 1, 5, 6, 8, 19, 20, 21] (.seq (.ops f6r16)
  (.keep [0, 1, 5, 6, 8, 19, 20, 21, 52] (.cond (.tmp 52) (.keep [0, 1, 5, 6, 8, 19, 20, 21] (.draw f6r17 [(0, 0, false), (0, 0, false), (0, 0, false), (0, 0, false), (0, 0, false), (0, 0, false), (0, 0, false), (0, 0, false), (0, 0, false), (0, 0, false), (0, 0, false), (0, 0, false), (0, 0, false), (0, 0, false), (0, 0, false)])) .skip))))))))))
  (.keep [0, 1, 5, 19, 20, 21] (.ops f6r18)))))))

def f6r20 : List AInstr := [
    ⟨(some 69), none, .mov (.tmp 0)⟩,
    ⟨(some 70), none, .mov (.tmp 1)⟩,
    ⟨(some 71), none, .mov (.tmp 5)⟩,
    ⟨(some 72), none, .callF 9 [.tmp 69, .tmp 70, .tmp 71]⟩,
    ⟨(some 68), none, .mov (.tmp 72)⟩,
    ⟨(some 73), none, .extract 0 (.tmp 68)⟩,
    ⟨(some 74), none, .extract 1 (.tmp 68)⟩,
    ⟨(some 75), none, .extract 2 (.tmp 68)⟩,
    ⟨(some 76), none, .extract 3 (.tmp 68)⟩,
    ⟨(some 11), none, .mov (.tmp 73)⟩,
    ⟨(some 12), none, .mov (.tmp 74)⟩,
    ⟨(some 13), none, .mov (.tmp 75)⟩,
    ⟨(some 14), none, .mov (.tmp 76)⟩]

def f6r21 : List AInstr := [
    ⟨(some 77), none, .mov (.tmp 14)⟩,
    ⟨(some 78), none, .ibin .neq (.tmp 77) (.const (.int .i64 0))⟩]

def f6r22 : List AInstr := [
    ⟨(some 4), none, .mov (.const (.bool true))⟩]

def f6r23 : List AInstr := [
    ⟨(some 79), none, .mov (.tmp 12)⟩,
    ⟨(some 80), none, .len (.tmp 79)⟩,
    ⟨(some 81), none, .mov (.const (.int .i64 0))⟩]

def f6r24 : List AInstr := [
    ⟨(some 82), none, .ibin .lss (.tmp 81) (.tmp 80)⟩]

def f6r25 : List AInstr := [
    ⟨(some 83), none, .mov (.tmp 81)⟩,
    ⟨(some 84), none, .indexAddr 1 (.tmp 79) (.tmp 81)⟩,
    ⟨(some 85), none, .load none (.tmp 84)⟩,
    ⟨(some 15), none, .mov (.tmp 83)⟩,
    ⟨(some 16), none, .mov (.tmp 85)⟩]

def f6r26 : List AInstr := [
    ⟨(some 86), none, .mov (.tmp 16)⟩,
    ⟨(some 87), none, .len (.tmp 86)⟩,
    ⟨(some 88), none, .ibin .gtr (.tmp 87) (.const (.int .i64 0))⟩,
    ⟨(some 89), none, .mov (.tmp 88)⟩,
    ⟨(some 90), (some (89, false)), .mov (.tmp 15)⟩,
    ⟨(some 91), (some (89, false)), .mov (.tmp 13)⟩,
    ⟨(some 92), (some (89, false)), .len (.tmp 91)⟩,
    ⟨(some 93), (some (89, false)), .ibin .geq (.tmp 90) (.tmp 92)⟩,
    ⟨(some 94), none, .pick (.tmp 89) (.const (.bool true)) (.tmp 93)⟩,
    ⟨(some 95), none, .mov (.tmp 94)⟩,
    ⟨(some 96), (some (95, false)), .mov (.tmp 13)⟩,
    ⟨(some 97), (some (95, false)), .mov (.tmp 15)⟩,
    ⟨(some 98), (some (95, false)), .indexAddr 1 (.tmp 96) (.tmp 97)⟩,
    ⟨(some 99), (some (95, false)), .load none (.tmp 98)⟩,
    ⟨(some 100), (some (95, false)), .ibin .neq (.tmp 99) (.const (.int .i64 0))⟩,
    ⟨(some 101), none, .pick (.tmp 95) (.const (.bool true)) (.tmp 100)⟩]

def f6r27 : List AInstr := [
    ⟨(some 4), none, .mov (.const (.bool false))⟩]

def f6r28 : List AInstr := [
    ⟨(some 102), none, .ibin .add (.tmp 81) (.const (.int .i64 1))⟩,
    ⟨(some 81), none, .mov (.tmp 102)⟩]

/-- live: [13, 79, 80, 81] -/
def f6l2 : ACode := (.seq (.ops f6r24)
  (.keep [13, 79, 80, 81, 82] (.seq (.cond (.tmp 82) .skip (.exit 4))
  (.keep [13, 79, 80, 81] (.seq (.block 5 (.seq (.ops f6r25)
  (.keep [13, 15, 16, 79, 80, 81] (.seq (.ops f6r26)
  (.keep [13, 79, 80, 81, 101] (.cond (.tmp 101) (.keep [] (.seq (.ops f6r27)
  (.keep [4] .ret))) .skip))))))
  (.keep [13, 79, 80, 81] (.ops f6r28)))))))

def f6r30 : List AInstr := [
    ⟨(some 4), none, .mov (.const (.bool true))⟩]

def f6b : ACode := (.seq (.ops f6r0)
  (.keep [0, 1] (.seq (.seq (.ops f6r1)
  (.keep [0, 1, 18] (.cond (.tmp 18) (.keep [] (.seq (.ops f6r2)
  (.keep [4] .ret))) .skip)))
  (.keep [0, 1] (.seq (.ops f6r3)
  (.keep [0, 1, 5] (.seq (.seq (.ops f6r4)
  (.keep [0, 1, 5, 19, 20, 21] (.block 0 (.loop f6l1))))
  (.keep [0, 1, 5] (.seq (.ops f6r20)
  (.keep [12, 13, 14] (.seq (.seq (.ops f6r21)
  (.keep [12, 13, 78] (.cond (.tmp 78) (.keep [] (.seq (.ops f6r22)
  (.keep [4] .ret))) .skip)))
  (.keep [12, 13] (.seq (.seq (.ops f6r23)
  (.keep [13, 79, 80, 81] (.block 4 (.loop f6l2))))
  (.keep [] (.seq (.ops f6r30)
  (.keep [4] .ret))))))))))))))))

def f6 : AFn := ⟨103, [.tmp 4], f6b⟩

theorem f6_ok : compFn Try.prog 6 = some f6.strip := by kernel_rfl

/- function 7: weirhouse/weirhousekeep.DrrParts; parameters 3; operations that are not compiled: 0 -/
def f7r0 : List AInstr := [
    ⟨(some 6), none, .mov (.const (.bool false))⟩]

def f7r1 : List AInstr := [
    ⟨(some 19), none, .callF 8 []⟩,
    ⟨(some 20), none, .un .not (.tmp 19)⟩]

def f7r2 : List AInstr := [
    ⟨(some 6), none, .mov (.const (.bool false))⟩]

def f7r3 : List AInstr := [
    ⟨(some 22), none, .mov (.tmp 0)⟩,
    ⟨(some 23), none, .mov (.tmp 1)⟩,
    ⟨(some 24), none, .mov (.tmp 2)⟩,
    ⟨(some 25), none, .callF 9 [.tmp 22, .tmp 23, .tmp 24]⟩,
    ⟨(some 21), none, .mov (.tmp 25)⟩,
    ⟨(some 26), none, .extract 0 (.tmp 21)⟩,
    ⟨(some 27), none, .extract 1 (.tmp 21)⟩,
    ⟨(some 28), none, .extract 2 (.tmp 21)⟩,
    ⟨(some 29), none, .extract 3 (.tmp 21)⟩,
    ⟨(some 7), none, .mov (.tmp 26)⟩,
    ⟨(some 8), none, .mov (.tmp 27)⟩,
    ⟨(some 9), none, .mov (.tmp 28)⟩,
    ⟨(some 10), none, .mov (.tmp 29)⟩]

def f7r4 : List AInstr := [
    ⟨(some 30), none, .mov (.tmp 10)⟩,
    ⟨(some 31), none, .ibin .neq (.tmp 30) (.const (.int .i64 0))⟩,
    ⟨(some 32), none, .mov (.tmp 31)⟩,
    ⟨(some 33), (some (32, false)), .mov (.tmp 2)⟩,
    ⟨(some 34), (some (32, false)), .ibin .eql (.tmp 33) (.const (.int .i64 400))⟩,
    ⟨(some 35), none, .pick (.tmp 32) (.const (.bool true)) (.tmp 34)⟩]

def f7r5 : List AInstr := [
    ⟨(some 6), none, .mov (.const (.bool true))⟩]

def f7r6 : List AInstr := [
    ⟨(some 37), none, .mov (.tmp 0)⟩,
    ⟨(some 38), none, .mov (.tmp 8)⟩,
    ⟨(some 39), none, .mov (.tmp 9)⟩,
    ⟨(some 40), none, .callF 12 [.tmp 37, .tmp 38, .tmp 39]⟩,
    ⟨(some 36), none, .mov (.tmp 40)⟩,
    ⟨(some 41), none, .extract 0 (.tmp 36)⟩,
    ⟨(some 42), none, .extract 1 (.tmp 36)⟩,
    ⟨(some 43), none, .extract 2 (.tmp 36)⟩,
    ⟨(some 44), none, .extract 3 (.tmp 36)⟩,
    ⟨(some 11), none, .mov (.tmp 41)⟩,
    ⟨(some 12), none, .mov (.tmp 42)⟩,
    ⟨(some 13), none, .mov (.tmp 43)⟩,
    ⟨(some 14), none, .mov (.tmp 44)⟩]

def f7r7 : List AInstr := [
    ⟨(some 46), none, .mov (.tmp 0)⟩,
    ⟨(some 47), none, .mov (.tmp 1)⟩,
    ⟨(some 48), none, .mov (.tmp 2)⟩,
    ⟨(some 49), none, .ibin .add (.tmp 48) (.const (.int .i64 1))⟩,
    ⟨(some 50), none, .callF 9 [.tmp 46, .tmp 47, .tmp 49]⟩,
    ⟨(some 45), none, .mov (.tmp 50)⟩,
    ⟨(some 51), none, .extract 0 (.tmp 45)⟩,
    ⟨(some 52), none, .extract 1 (.tmp 45)⟩,
    ⟨(some 53), none, .extract 2 (.tmp 45)⟩,
    ⟨(some 54), none, .extract 3 (.tmp 45)⟩,
    ⟨(some 15), none, .mov (.tmp 51)⟩,
    ⟨(some 16), none, .mov (.tmp 52)⟩,
    ⟨(some 17), none, .mov (.tmp 53)⟩,
    ⟨(some 18), none, .mov (.tmp 54)⟩]

def f7r8 : List AInstr := [
    ⟨(some 55), none, .mov (.tmp 14)⟩,
    ⟨(some 56), none, .ibin .eql (.tmp 55) (.const (.int .i64 0))⟩,
    ⟨(some 57), none, .mov (.tmp 56)⟩,
    ⟨(some 58), (some (57, true)), .mov (.tmp 18)⟩,
    ⟨(some 59), (some (57, true)), .ibin .eql (.tmp 58) (.const (.int .i64 0))⟩,
    ⟨(some 60), none, .pick (.tmp 57) (.tmp 59) (.const (.bool false))⟩,
    ⟨(some 61), none, .mov (.tmp 60)⟩,
    ⟨(some 62), (some (61, true)), .mov (.tmp 7)⟩,
    ⟨(some 63), (some (61, true)), .mov (.tmp 11)⟩,
    ⟨(some 64), (some (61, true)), .buildSlice 1 2 [.slice none 0 0, .slice none 0 0] [(0, 1, (.tmp 62)), (1, 1, (.tmp 63))]⟩,
    ⟨(some 65), (some (61, true)), .callF 14 [.tmp 64]⟩,
    ⟨(some 66), (some (61, true)), .mov (.tmp 15)⟩,
    ⟨(some 67), (some (61, true)), .callF 13 [.tmp 65, .tmp 66]⟩,
    ⟨(some 68), none, .pick (.tmp 61) (.tmp 67) (.const (.bool false))⟩,
    ⟨(some 69), none, .mov (.tmp 68)⟩,
    ⟨(some 70), (some (69, true)), .mov (.tmp 12)⟩,
    ⟨(some 71), (some (69, true)), .mov (.tmp 16)⟩,
    ⟨(some 72), (some (69, true)), .callF 11 [.tmp 70, .tmp 71]⟩,
    ⟨(some 73), none, .pick (.tmp 69) (.tmp 72) (.const (.bool false))⟩,
    ⟨(some 74), none, .mov (.tmp 73)⟩,
    ⟨(some 75), (some (74, true)), .mov (.tmp 13)⟩,
    ⟨(some 76), (some (74, true)), .mov (.tmp 17)⟩,
    ⟨(some 77), (some (74, true)), .callF 15 [.tmp 75, .tmp 76]⟩,
    ⟨(some 78), none, .pick (.tmp 74) (.tmp 77) (.const (.bool false))⟩,
    ⟨(some 6), none, .mov (.tmp 78)⟩]

def f7b : ACode := (.seq (.ops f7r0)
  (.keep [0, 1, 2] (.seq (.seq (.ops f7r1)
  (.keep [0, 1, 2, 20] (.cond (.tmp 20) (.keep [] (.seq (.ops f7r2)
  (.keep [6] .ret))) .skip)))
  (.keep [0, 1, 2] (.seq (.ops f7r3)
  (.keep [0, 1, 2, 7, 8, 9, 10] (.seq (.seq (.ops f7r4)
  (.keep [0, 1, 2, 7, 8, 9, 35] (.cond (.tmp 35) (.keep [] (.seq (.ops f7r5)
  (.keep [6] .ret))) .skip)))
  (.keep [0, 1, 2, 7, 8, 9] (.seq (.ops f7r6)
  (.keep [0, 1, 2, 7, 11, 12, 13, 14] (.seq (.ops f7r7)
  (.keep [7, 11, 12, 13, 14, 15, 16, 17, 18] (.seq (.ops f7r8)
  (.keep [6] .ret))))))))))))))

def f7 : AFn := ⟨79, [.tmp 6], f7b⟩

theorem f7_ok : compFn Try.prog 7 = some f7.strip := by kernel_rfl

/- function 8: weirhouse/weirhousekeep.alive14; parameters 0; operations that are not compiled: 0 -/
def f8r0 : List AInstr := [
    ⟨(some 0), none, .mov (.const (.bool false))⟩]

def f8r1 : List AInstr := [
    ⟨(some 6), none, .buildSlice 1 2 [.int .i64 0, .int .i64 0] [(0, 1, (.const (.int .i64 500))), (1, 1, (.const (.int .i64 600)))]⟩,
    ⟨(some 7), none, .buildSlice 1 2 [.int .i64 0, .int .i64 0] [(0, 1, (.const (.int .i64 300))), (1, 1, (.const (.int .i64 300)))]⟩,
    ⟨(some 8), none, .buildSlice 1 1 [.int .i64 0] [(0, 1, (.const (.int .i64 700)))]⟩,
    ⟨(some 9), none, .buildSlice 1 2 [.slice none 0 0, .slice none 0 0] [(0, 1, (.tmp 7)), (1, 1, (.tmp 8))]⟩,
    ⟨(some 10), none, .callF 9 [.tmp 6, .tmp 9, .const (.int .i64 1)]⟩,
    ⟨(some 5), none, .mov (.tmp 10)⟩,
    ⟨(some 11), none, .extract 0 (.tmp 5)⟩,
    ⟨(some 12), none, .extract 1 (.tmp 5)⟩,
    ⟨(some 13), none, .extract 2 (.tmp 5)⟩,
    ⟨(some 14), none, .extract 3 (.tmp 5)⟩,
    ⟨(some 1), none, .mov (.tmp 11)⟩,
    ⟨(some 2), none, .mov (.tmp 12)⟩,
    ⟨(some 3), none, .mov (.tmp 13)⟩,
    ⟨(some 4), none, .mov (.tmp 14)⟩]

def f8r2 : List AInstr := [
    ⟨(some 15), none, .mov (.tmp 4)⟩,
    ⟨(some 16), none, .ibin .eql (.tmp 15) (.const (.int .i64 0))⟩,
    ⟨(some 17), none, .mov (.tmp 16)⟩,
    ⟨(some 18), (some (17, true)), .mov (.tmp 1)⟩,
    ⟨(some 19), (some (17, true)), .build [.int .i64 0, .int .i64 0] [(0, 1, (.const (.int .i64 0))), (1, 1, (.const (.int .i64 300)))]⟩,
    ⟨(some 20), (some (17, true)), .buildSlice 2 1 [.int .i64 0, .int .i64 0] [(0, 2, (.tmp 19))]⟩,
    ⟨(some 21), (some (17, true)), .callF 13 [.tmp 18, .tmp 20]⟩,
    ⟨(some 22), none, .pick (.tmp 17) (.tmp 21) (.const (.bool false))⟩,
    ⟨(some 23), none, .mov (.tmp 22)⟩,
    ⟨(some 24), (some (23, true)), .mov (.tmp 2)⟩,
    ⟨(some 25), (some (23, true)), .buildSlice 1 1 [.int .i64 0] [(0, 1, (.const (.int .i64 300)))]⟩,
    ⟨(some 26), (some (23, true)), .buildSlice 1 1 [.int .i64 0] [(0, 1, (.const (.int .i64 700)))]⟩,
    ⟨(some 27), (some (23, true)), .buildSlice 1 2 [.slice none 0 0, .slice none 0 0] [(0, 1, (.tmp 25)), (1, 1, (.tmp 26))]⟩,
    ⟨(some 28), (some (23, true)), .callF 11 [.tmp 24, .tmp 27]⟩,
    ⟨(some 29), none, .pick (.tmp 23) (.tmp 28) (.const (.bool false))⟩,
    ⟨(some 30), none, .mov (.tmp 29)⟩,
    ⟨(some 31), (some (30, true)), .mov (.tmp 3)⟩,
    ⟨(some 32), (some (30, true)), .buildSlice 1 2 [.int .i64 0, .int .i64 0] [(0, 1, (.const (.int .i64 200))), (1, 1, (.const (.int .i64 600)))]⟩,
    ⟨(some 33), (some (30, true)), .callF 15 [.tmp 31, .tmp 32]⟩,
    ⟨(some 34), none, .pick (.tmp 30) (.tmp 33) (.const (.bool false))⟩,
    ⟨(some 0), none, .mov (.tmp 34)⟩]

def f8b : ACode := (.seq (.ops f8r0)
  (.keep [] (.seq (.ops f8r1)
  (.keep [1, 2, 3, 4] (.seq (.ops f8r2)
  (.keep [0] .ret))))))

def f8 : AFn := ⟨35, [.tmp 0], f8b⟩

theorem f8_ok : compFn Try.prog 8 = some f8.strip := by kernel_rfl

/- function 9: weirhouse/drr.Rounds; parameters 3; operations that are not compiled: 0 -/
def f9r0 : List AInstr := [
    ⟨(some 6), none, .mov (.const (.slice none 0 0))⟩,
    ⟨(some 7), none, .mov (.const (.slice none 0 0))⟩,
    ⟨(some 8), none, .mov (.const (.slice none 0 0))⟩,
    ⟨(some 9), none, .mov (.const (.int .i64 0))⟩]

def f9r1 : List AInstr := [
    ⟨(some 21), none, .mov (.tmp 0)⟩,
    ⟨(some 22), none, .mov (.tmp 1)⟩,
    ⟨(some 23), none, .callF 16 [.tmp 21, .tmp 22]⟩,
    ⟨(some 10), none, .mov (.tmp 23)⟩]

def f9r2 : List AInstr := [
    ⟨(some 24), none, .mov (.tmp 10)⟩,
    ⟨(some 25), none, .ibin .neq (.tmp 24) (.const (.int .i64 0))⟩]

def f9r3 : List AInstr := [
    ⟨(some 26), none, .mov (.tmp 10)⟩,
    ⟨(some 6), none, .mov (.const (.slice none 0 0))⟩,
    ⟨(some 7), none, .mov (.const (.slice none 0 0))⟩,
    ⟨(some 8), none, .mov (.const (.slice none 0 0))⟩,
    ⟨(some 9), none, .mov (.tmp 26)⟩]

def f9r4 : List AInstr := [
    ⟨(some 27), none, .mov (.tmp 2)⟩,
    ⟨(some 28), none, .ibin .lss (.tmp 27) (.const (.int .i64 0))⟩,
    ⟨(some 29), none, .mov (.tmp 28)⟩,
    ⟨(some 30), (some (29, false)), .mov (.tmp 2)⟩,
    ⟨(some 31), (some (29, false)), .ibin .gtr (.tmp 30) (.const (.int .i64 400))⟩,
    ⟨(some 32), none, .pick (.tmp 29) (.const (.bool true)) (.tmp 31)⟩]

def f9r5 : List AInstr := [
    ⟨(some 6), none, .mov (.const (.slice none 0 0))⟩,
    ⟨(some 7), none, .mov (.const (.slice none 0 0))⟩,
    ⟨(some 8), none, .mov (.const (.slice none 0 0))⟩,
    ⟨(some 9), none, .mov (.const (.int .i64 2))⟩]

def f9r6 : List AInstr := [
    ⟨(some 11), none, .mov (.const (.slice none 0 0))⟩]

def f9r7 : List AInstr := [
    ⟨(some 33), none, .mov (.tmp 1)⟩,
    ⟨(some 34), none, .mov (.tmp 0)⟩,
    ⟨(some 35), none, .len (.tmp 34)⟩,
    ⟨(some 36), none, .makeSlice 1 8 [.int .i64 0] (.tmp 35) (.tmp 35)⟩,
    ⟨(some 12), none, .mov (.tmp 33)⟩,
    ⟨(some 13), none, .mov (.tmp 36)⟩]

def f9r8 : List AInstr := [
    ⟨(some 37), none, .mov (.tmp 2)⟩,
    ⟨(some 38), none, .mov (.const (.int .i64 0))⟩]

def f9r9 : List AInstr := [
    ⟨(some 39), none, .ibin .lss (.tmp 38) (.tmp 37)⟩]

def f9r10 : List AInstr := [
    ⟨(some 41), none, .mov (.tmp 0)⟩,
    ⟨(some 42), none, .mov (.tmp 12)⟩,
    ⟨(some 43), none, .mov (.tmp 13)⟩,
    ⟨(some 44), none, .callF 12 [.tmp 41, .tmp 42, .tmp 43]⟩,
    ⟨(some 40), none, .mov (.tmp 44)⟩,
    ⟨(some 45), none, .extract 0 (.tmp 40)⟩,
    ⟨(some 46), none, .extract 1 (.tmp 40)⟩,
    ⟨(some 47), none, .extract 2 (.tmp 40)⟩,
    ⟨(some 48), none, .extract 3 (.tmp 40)⟩,
    ⟨(some 14), none, .mov (.tmp 45)⟩,
    ⟨(some 15), none, .mov (.tmp 46)⟩,
    ⟨(some 16), none, .mov (.tmp 47)⟩,
    ⟨(some 17), none, .mov (.tmp 48)⟩]

def f9r11 : List AInstr := [
    ⟨(some 49), none, .mov (.tmp 17)⟩,
    ⟨(some 50), none, .ibin .neq (.tmp 49) (.const (.int .i64 0))⟩]

def f9r12 : List AInstr := [
    ⟨(some 51), none, .mov (.tmp 17)⟩,
    ⟨(some 6), none, .mov (.const (.slice none 0 0))⟩,
    ⟨(some 7), none, .mov (.const (.slice none 0 0))⟩,
    ⟨(some 8), none, .mov (.const (.slice none 0 0))⟩,
    ⟨(some 9), none, .mov (.tmp 51)⟩]

def f9r13 : List AInstr := [
    ⟨(some 52), none, .mov (.tmp 11)⟩,
    ⟨(some 53), none, .mov (.tmp 14)⟩,
    ⟨(some 54), none, .append 2 16 (.tmp 52) (.tmp 53)⟩,
    ⟨(some 55), none, .mov (.tmp 15)⟩,
    ⟨(some 56), none, .mov (.tmp 16)⟩,
    ⟨(some 11), none, .mov (.tmp 54)⟩,
    ⟨(some 12), none, .mov (.tmp 55)⟩,
    ⟨(some 13), none, .mov (.tmp 56)⟩]

def f9r14 : List AInstr := [
    ⟨(some 57), none, .ibin .add (.tmp 38) (.const (.int .i64 1))⟩,
    ⟨(some 38), none, .mov (.tmp 57)⟩]

/-- live: [0, 11, 12, 13, 37, 38] -/
def f9l0 : ACode := (.seq (.ops f9r9)
  (.keep [0, 11, 12, 13, 37, 38, 39] (.seq (.cond (.tmp 39) .skip (.exit 0))
  (.keep [0, 11, 12, 13, 37, 38] (.seq (.block 1 (.seq (.ops f9r10)
  (.keep [0, 11, 14, 15, 16, 17, 37, 38] (.seq (.seq (.ops f9r11)
  (.keep [0, 11, 14, 15, 16, 17, 37, 38, 50] (.cond (.tmp 50) (.keep [17] (.seq (.ops f9r12)
  (.keep [6, 7, 8, 9] .ret))) .skip)))
  (.keep [0, 11, 14, 15, 16, 37, 38] (.ops f9r13))))))
  (.keep [0, 11, 12, 13, 37, 38] (.ops f9r14)))))))

def f9r16 : List AInstr := [
    ⟨(some 18), none, .mov (.const (.slice none 0 0))⟩]

def f9r17 : List AInstr := [
    ⟨(some 58), none, .mov (.tmp 12)⟩,
    ⟨(some 59), none, .len (.tmp 58)⟩,
    ⟨(some 60), none, .mov (.const (.int .i64 0))⟩]

def f9r18 : List AInstr := [
    ⟨(some 61), none, .ibin .lss (.tmp 60) (.tmp 59)⟩]

def f9r19 : List AInstr := [
    ⟨(some 62), none, .indexAddr 1 (.tmp 58) (.tmp 60)⟩,
    ⟨(some 63), none, .load none (.tmp 62)⟩,
    ⟨(some 20), none, .mov (.tmp 63)⟩]

def f9r20 : List AInstr := [
    ⟨(some 64), none, .mov (.tmp 18)⟩,
    ⟨(some 65), none, .buildSlice 1 0 [] []⟩,
    ⟨(some 66), none, .mov (.tmp 20)⟩,
    ⟨(some 67), none, .append 1 8 (.tmp 65) (.tmp 66)⟩,
    ⟨(some 68), none, .buildSlice 1 1 [.slice none 0 0] [(0, 1, (.tmp 67))]⟩,
    ⟨(some 69), none, .append 1 24 (.tmp 64) (.tmp 68)⟩,
    ⟨(some 18), none, .mov (.tmp 69)⟩]

def f9r21 : List AInstr := [
    ⟨(some 70), none, .ibin .add (.tmp 60) (.const (.int .i64 1))⟩,
    ⟨(some 60), none, .mov (.tmp 70)⟩]

/-- live: [11, 13, 18, 58, 59, 60] -/
def f9l1 : ACode := (.seq (.ops f9r18)
  (.keep [11, 13, 18, 58, 59, 60, 61] (.seq (.cond (.tmp 61) .skip (.exit 2))
  (.keep [11, 13, 18, 58, 59, 60] (.seq (.block 3 (.seq (.ops f9r19)
  (.keep [11, 13, 18, 20, 58, 59, 60] (.ops f9r20))))
  (.keep [11, 13, 18, 58, 59, 60] (.ops f9r21)))))))

def f9r23 : List AInstr := [
    ⟨(some 71), none, .mov (.tmp 11)⟩,
    ⟨(some 72), none, .mov (.tmp 18)⟩,
    ⟨(some 73), none, .mov (.tmp 13)⟩,
    ⟨(some 6), none, .mov (.tmp 71)⟩,
    ⟨(some 7), none, .mov (.tmp 72)⟩,
    ⟨(some 8), none, .mov (.tmp 73)⟩,
    ⟨(some 9), none, .mov (.const (.int .i64 0))⟩]

def f9b : ACode := (.seq (.ops f9r0)
  (.keep [0, 1, 2] (.seq (.seq (.ops f9r1)
  (.keep [0, 1, 2, 10] (.seq (.ops f9r2)
  (.keep [0, 1, 2, 10, 25] (.cond (.tmp 25) (.keep [10] (.seq (.ops f9r3)
  (.keep [6, 7, 8, 9] .ret))) .skip)))))
  (.keep [0, 1, 2] (.seq (.seq (.ops f9r4)
  (.keep [0, 1, 2, 32] (.cond (.tmp 32) (.keep [] (.seq (.ops f9r5)
  (.keep [6, 7, 8, 9] .ret))) .skip)))
  (.keep [0, 1, 2] (.seq (.ops f9r6)
  (.keep [0, 1, 2, 11] (.seq (.draw f9r7 [(0, 1, false), (0, 0, false), (0, 0, false), (0, 2, true), (0, 1, false), (1, 1, false)])
  (.keep [0, 2, 11, 12, 13] (.seq (.seq (.ops f9r8)
  (.keep [0, 11, 12, 13, 37, 38] (.block 0 (.loop f9l0))))
  (.keep [11, 12, 13] (.seq (.ops f9r16)
  (.keep [11, 12, 13, 18] (.seq (.seq (.ops f9r17)
  (.keep [11, 13, 18, 58, 59, 60] (.block 2 (.loop f9l1))))
  (.keep [11, 13, 18] (.seq (.ops f9r23)
  (.keep [6, 7, 8, 9] .ret))))))))))))))))))

def f9 : AFn := ⟨74, [.tmp 6, .tmp 7, .tmp 8, .tmp 9], f9b⟩

theorem f9_ok : compFn Try.prog 9 = some f9.strip := by kernel_rfl

/- function 10: weirhouse/weirhousekeep.sum; parameters 2; operations that are not compiled: 0 -/
def f10r0 : List AInstr := [
    ⟨(some 4), none, .mov (.const (.int .i64 0))⟩]

def f10r1 : List AInstr := [
    ⟨(some 5), none, .mov (.const (.int .i64 0))⟩]

def f10r2 : List AInstr := [
    ⟨(some 8), none, .mov (.tmp 0)⟩,
    ⟨(some 9), none, .len (.tmp 8)⟩,
    ⟨(some 10), none, .mov (.const (.int .i64 0))⟩]

def f10r3 : List AInstr := [
    ⟨(some 11), none, .ibin .lss (.tmp 10) (.tmp 9)⟩]

def f10r4 : List AInstr := [
    ⟨(some 12), none, .indexAddr 2 (.tmp 8) (.tmp 10)⟩,
    ⟨(some 13), none, .load (some 2) (.tmp 12)⟩,
    ⟨(some 7), none, .alloc [.int .i64 0, .int .i64 0]⟩,
    ⟨none, none, .store 2 (.tmp 7) (.tmp 13)⟩]

def f10r5 : List AInstr := [
    ⟨(some 14), none, .fieldAddr 0 (.tmp 7)⟩,
    ⟨(some 15), none, .load none (.tmp 14)⟩,
    ⟨(some 16), none, .mov (.tmp 1)⟩,
    ⟨(some 17), none, .ibin .eql (.tmp 15) (.tmp 16)⟩]

def f10r6 : List AInstr := [
    ⟨(some 18), none, .mov (.tmp 5)⟩,
    ⟨(some 19), none, .fieldAddr 1 (.tmp 7)⟩,
    ⟨(some 20), none, .load none (.tmp 19)⟩,
    ⟨(some 21), none, .ibin .add (.tmp 18) (.tmp 20)⟩,
    ⟨(some 5), none, .mov (.tmp 21)⟩]

def f10r7 : List AInstr := [
    ⟨(some 22), none, .ibin .add (.tmp 10) (.const (.int .i64 1))⟩,
    ⟨(some 10), none, .mov (.tmp 22)⟩]

/-- live: [1, 5, 8, 9, 10] -/
def f10l0 : ACode := (.seq (.ops f10r3)
  (.keep [1, 5, 8, 9, 10, 11] (.seq (.cond (.tmp 11) .skip (.exit 0))
  (.keep [1, 5, 8, 9, 10] (.seq (.block 1 (.seq (.ops f10r4)
  (.keep [1, 5, 7, 8, 9, 10] (.seq (.ops f10r5)
  (.keep [1, 5, 7, 8, 9, 10, 17] (.cond (.tmp 17) (.keep [1, 5, 7, 8, 9, 10] (.ops f10r6)) .skip))))))
  (.keep [1, 5, 8, 9, 10] (.ops f10r7)))))))

def f10r9 : List AInstr := [
    ⟨(some 23), none, .mov (.tmp 5)⟩,
    ⟨(some 4), none, .mov (.tmp 23)⟩]

def f10b : ACode := (.seq (.ops f10r0)
  (.keep [0, 1] (.seq (.ops f10r1)
  (.keep [0, 1, 5] (.seq (.seq (.ops f10r2)
  (.keep [1, 5, 8, 9, 10] (.block 0 (.loop f10l0))))
  (.keep [5] (.seq (.ops f10r9)
  (.keep [4] .ret))))))))

def f10 : AFn := ⟨24, [.tmp 4], f10b⟩

theorem f10_ok : compFn Try.prog 10 = some f10.strip := by kernel_rfl

/- function 11: weirhouse/weirhouseref.SameLists; parameters 2; operations that are not compiled: 0 -/
def f11r0 : List AInstr := [
    ⟨(some 4), none, .mov (.const (.bool false))⟩]

def f11r1 : List AInstr := [
    ⟨(some 7), none, .mov (.tmp 0)⟩,
    ⟨(some 8), none, .len (.tmp 7)⟩,
    ⟨(some 9), none, .mov (.tmp 1)⟩,
    ⟨(some 10), none, .len (.tmp 9)⟩,
    ⟨(some 11), none, .ibin .neq (.tmp 8) (.tmp 10)⟩]

def f11r2 : List AInstr := [
    ⟨(some 4), none, .mov (.const (.bool false))⟩]

def f11r3 : List AInstr := [
    ⟨(some 12), none, .mov (.tmp 0)⟩,
    ⟨(some 13), none, .len (.tmp 12)⟩,
    ⟨(some 14), none, .mov (.const (.int .i64 0))⟩]

def f11r4 : List AInstr := [
    ⟨(some 15), none, .ibin .lss (.tmp 14) (.tmp 13)⟩]

def f11r5 : List AInstr := [
    ⟨(some 16), none, .mov (.tmp 14)⟩,
    ⟨(some 5), none, .mov (.tmp 16)⟩]

def f11r6 : List AInstr := [
    ⟨(some 17), none, .mov (.tmp 0)⟩,
    ⟨(some 18), none, .mov (.tmp 5)⟩,
    ⟨(some 19), none, .indexAddr 1 (.tmp 17) (.tmp 18)⟩,
    ⟨(some 20), none, .load none (.tmp 19)⟩,
    ⟨(some 21), none, .len (.tmp 20)⟩,
    ⟨(some 22), none, .mov (.tmp 1)⟩,
    ⟨(some 23), none, .mov (.tmp 5)⟩,
    ⟨(some 24), none, .indexAddr 1 (.tmp 22) (.tmp 23)⟩,
    ⟨(some 25), none, .load none (.tmp 24)⟩,
    ⟨(some 26), none, .len (.tmp 25)⟩,
    ⟨(some 27), none, .ibin .neq (.tmp 21) (.tmp 26)⟩]

def f11r7 : List AInstr := [
    ⟨(some 4), none, .mov (.const (.bool false))⟩]

def f11r8 : List AInstr := [
    ⟨(some 28), none, .mov (.tmp 0)⟩,
    ⟨(some 29), none, .mov (.tmp 5)⟩,
    ⟨(some 30), none, .indexAddr 1 (.tmp 28) (.tmp 29)⟩,
    ⟨(some 31), none, .load none (.tmp 30)⟩,
    ⟨(some 32), none, .len (.tmp 31)⟩,
    ⟨(some 33), none, .mov (.const (.int .i64 0))⟩]

def f11r9 : List AInstr := [
    ⟨(some 34), none, .ibin .lss (.tmp 33) (.tmp 32)⟩]

def f11r10 : List AInstr := [
    ⟨(some 35), none, .mov (.tmp 33)⟩,
    ⟨(some 6), none, .mov (.tmp 35)⟩]

def f11r11 : List AInstr := [
    ⟨(some 36), none, .mov (.tmp 0)⟩,
    ⟨(some 37), none, .mov (.tmp 5)⟩,
    ⟨(some 38), none, .indexAddr 1 (.tmp 36) (.tmp 37)⟩,
    ⟨(some 39), none, .load none (.tmp 38)⟩,
    ⟨(some 40), none, .mov (.tmp 6)⟩,
    ⟨(some 41), none, .indexAddr 1 (.tmp 39) (.tmp 40)⟩,
    ⟨(some 42), none, .load none (.tmp 41)⟩,
    ⟨(some 43), none, .mov (.tmp 1)⟩,
    ⟨(some 44), none, .mov (.tmp 5)⟩,
    ⟨(some 45), none, .indexAddr 1 (.tmp 43) (.tmp 44)⟩,
    ⟨(some 46), none, .load none (.tmp 45)⟩,
    ⟨(some 47), none, .mov (.tmp 6)⟩,
    ⟨(some 48), none, .indexAddr 1 (.tmp 46) (.tmp 47)⟩,
    ⟨(some 49), none, .load none (.tmp 48)⟩,
    ⟨(some 50), none, .ibin .neq (.tmp 42) (.tmp 49)⟩]

def f11r12 : List AInstr := [
    ⟨(some 4), none, .mov (.const (.bool false))⟩]

def f11r13 : List AInstr := [
    ⟨(some 51), none, .ibin .add (.tmp 33) (.const (.int .i64 1))⟩,
    ⟨(some 33), none, .mov (.tmp 51)⟩]

/-- live: [0, 1, 5, 13, 14, 32, 33] -/
def f11l0 : ACode := (.seq (.ops f11r9)
  (.keep [0, 1, 5, 13, 14, 32, 33, 34] (.seq (.cond (.tmp 34) .skip (.exit 2))
  (.keep [0, 1, 5, 13, 14, 32, 33] (.seq (.block 3 (.seq (.ops f11r10)
  (.keep [0, 1, 5, 6, 13, 14, 32, 33] (.seq (.draw f11r11 [(0, 0, false), (0, 0, false), (0, 0, false), (0, 0, false), (0, 0, false), (0, 0, false), (0, 0, false), (0, 0, false), (0, 0, false), (0, 0, false), (0, 0, false), (0, 0, false), (0, 0, false), (0, 0, false), (0, 0, false)])
  (.keep [0, 1, 5, 13, 14, 32, 33, 50] (.cond (.tmp 50) (.keep [] (.seq (.ops f11r12)
  (.keep [4] .ret))) .skip))))))
  (.keep [0, 1, 5, 13, 14, 32, 33] (.ops f11r13)))))))

def f11r15 : List AInstr := [
    ⟨(some 52), none, .ibin .add (.tmp 14) (.const (.int .i64 1))⟩,
    ⟨(some 14), none, .mov (.tmp 52)⟩]

/-- live: [0, 1, 13, 14] -/
def f11l1 : ACode := (.seq (.ops f11r4)
  (.keep [0, 1, 13, 14, 15] (.seq (.cond (.tmp 15) .skip (.exit 0))
  (.keep [0, 1, 13, 14] (.seq (.block 1 (.seq (.ops f11r5)
  (.keep [0, 1, 5, 13, 14] (.seq (.seq (.draw f11r6 [(0, 0, false), (0, 0, false), (0, 0, false), (0, 0, false), (0, 0, false), (0, 0, false), (0, 0, false), (0, 0, false), (0, 0, false), (0, 0, false), (0, 0, false)])
  (.keep [0, 1, 5, 13, 14, 27] (.cond (.tmp 27) (.keep [] (.seq (.ops f11r7)
  (.keep [4] .ret))) .skip)))
  (.keep [0, 1, 5, 13, 14] (.seq (.ops f11r8)
  (.keep [0, 1, 5, 13, 14, 32, 33] (.block 2 (.loop f11l0)))))))))
  (.keep [0, 1, 13, 14] (.ops f11r15)))))))

def f11r17 : List AInstr := [
    ⟨(some 4), none, .mov (.const (.bool true))⟩]

def f11b : ACode := (.seq (.ops f11r0)
  (.keep [0, 1] (.seq (.seq (.ops f11r1)
  (.keep [0, 1, 11] (.cond (.tmp 11) (.keep [] (.seq (.ops f11r2)
  (.keep [4] .ret))) .skip)))
  (.keep [0, 1] (.seq (.seq (.ops f11r3)
  (.keep [0, 1, 13, 14] (.block 0 (.loop f11l1))))
  (.keep [] (.seq (.ops f11r17)
  (.keep [4] .ret))))))))

def f11 : AFn := ⟨53, [.tmp 4], f11b⟩

theorem f11_ok : compFn Try.prog 11 = some f11.strip := by kernel_rfl

/- function 12: weirhouse/drr.Round; parameters 3; operations that are not compiled: 0 -/
def f12r0 : List AInstr := [
    ⟨(some 6), none, .mov (.const (.slice none 0 0))⟩,
    ⟨(some 7), none, .mov (.const (.slice none 0 0))⟩,
    ⟨(some 8), none, .mov (.const (.slice none 0 0))⟩,
    ⟨(some 9), none, .mov (.const (.int .i64 0))⟩]

def f12r1 : List AInstr := [
    ⟨(some 10), none, .mov (.const (.func (.func 17) #[] #[]))⟩]

def f12r2 : List AInstr := [
    ⟨(some 23), none, .mov (.tmp 0)⟩,
    ⟨(some 24), none, .mov (.tmp 1)⟩,
    ⟨(some 25), none, .callF 16 [.tmp 23, .tmp 24]⟩,
    ⟨(some 11), none, .mov (.tmp 25)⟩]

def f12r3 : List AInstr := [
    ⟨(some 26), none, .mov (.tmp 11)⟩,
    ⟨(some 27), none, .ibin .neq (.tmp 26) (.const (.int .i64 0))⟩]

def f12r4 : List AInstr := [
    ⟨(some 28), none, .mov (.tmp 10)⟩,
    ⟨(some 29), none, .mov (.tmp 11)⟩,
    ⟨(some 30), none, .callV (.tmp 28) [.tmp 29]⟩,
    ⟨(some 31), none, .extract 0 (.tmp 30)⟩,
    ⟨(some 32), none, .extract 1 (.tmp 30)⟩,
    ⟨(some 33), none, .extract 2 (.tmp 30)⟩,
    ⟨(some 34), none, .extract 3 (.tmp 30)⟩,
    ⟨(some 6), none, .mov (.tmp 31)⟩,
    ⟨(some 7), none, .mov (.tmp 32)⟩,
    ⟨(some 8), none, .mov (.tmp 33)⟩,
    ⟨(some 9), none, .mov (.tmp 34)⟩]

def f12r5 : List AInstr := [
    ⟨(some 35), none, .mov (.tmp 2)⟩,
    ⟨(some 36), none, .len (.tmp 35)⟩,
    ⟨(some 37), none, .mov (.tmp 0)⟩,
    ⟨(some 38), none, .len (.tmp 37)⟩,
    ⟨(some 39), none, .ibin .neq (.tmp 36) (.tmp 38)⟩]

def f12r6 : List AInstr := [
    ⟨(some 40), none, .mov (.tmp 10)⟩,
    ⟨(some 41), none, .callV (.tmp 40) [.const (.int .i64 1)]⟩,
    ⟨(some 42), none, .extract 0 (.tmp 41)⟩,
    ⟨(some 43), none, .extract 1 (.tmp 41)⟩,
    ⟨(some 44), none, .extract 2 (.tmp 41)⟩,
    ⟨(some 45), none, .extract 3 (.tmp 41)⟩,
    ⟨(some 6), none, .mov (.tmp 42)⟩,
    ⟨(some 7), none, .mov (.tmp 43)⟩,
    ⟨(some 8), none, .mov (.tmp 44)⟩,
    ⟨(some 9), none, .mov (.tmp 45)⟩]

def f12r7 : List AInstr := [
    ⟨(some 46), none, .mov (.tmp 2)⟩,
    ⟨(some 47), none, .len (.tmp 46)⟩,
    ⟨(some 48), none, .mov (.const (.int .i64 0))⟩]

def f12r8 : List AInstr := [
    ⟨(some 49), none, .ibin .lss (.tmp 48) (.tmp 47)⟩]

def f12r9 : List AInstr := [
    ⟨(some 50), none, .indexAddr 1 (.tmp 46) (.tmp 48)⟩,
    ⟨(some 51), none, .load none (.tmp 50)⟩,
    ⟨(some 13), none, .mov (.tmp 51)⟩]

def f12r10 : List AInstr := [
    ⟨(some 52), none, .mov (.tmp 13)⟩,
    ⟨(some 53), none, .ibin .lss (.tmp 52) (.const (.int .i64 0))⟩,
    ⟨(some 54), none, .mov (.tmp 53)⟩,
    ⟨(some 55), (some (54, false)), .mov (.tmp 13)⟩,
    ⟨(some 56), (some (54, false)), .ibin .geq (.tmp 55) (.const (.int .i64 1500))⟩,
    ⟨(some 57), none, .pick (.tmp 54) (.const (.bool true)) (.tmp 56)⟩]

def f12r11 : List AInstr := [
    ⟨(some 58), none, .mov (.tmp 10)⟩,
    ⟨(some 59), none, .callV (.tmp 58) [.const (.int .i64 2)]⟩,
    ⟨(some 60), none, .extract 0 (.tmp 59)⟩,
    ⟨(some 61), none, .extract 1 (.tmp 59)⟩,
    ⟨(some 62), none, .extract 2 (.tmp 59)⟩,
    ⟨(some 63), none, .extract 3 (.tmp 59)⟩,
    ⟨(some 6), none, .mov (.tmp 60)⟩,
    ⟨(some 7), none, .mov (.tmp 61)⟩,
    ⟨(some 8), none, .mov (.tmp 62)⟩,
    ⟨(some 9), none, .mov (.tmp 63)⟩]

def f12r12 : List AInstr := [
    ⟨(some 64), none, .ibin .add (.tmp 48) (.const (.int .i64 1))⟩,
    ⟨(some 48), none, .mov (.tmp 64)⟩]

/-- live: [0, 1, 2, 10, 46, 47, 48] -/
def f12l0 : ACode := (.seq (.ops f12r8)
  (.keep [0, 1, 2, 10, 46, 47, 48, 49] (.seq (.cond (.tmp 49) .skip (.exit 0))
  (.keep [0, 1, 2, 10, 46, 47, 48] (.seq (.block 1 (.seq (.ops f12r9)
  (.keep [0, 1, 2, 10, 13, 46, 47, 48] (.seq (.ops f12r10)
  (.keep [0, 1, 2, 10, 46, 47, 48, 57] (.cond (.tmp 57) (.keep [10] (.seq (.ops f12r11)
  (.keep [6, 7, 8, 9] .ret))) .skip))))))
  (.keep [0, 1, 2, 10, 46, 47, 48] (.ops f12r12)))))))

def f12r14 : List AInstr := [
    ⟨(some 14), none, .mov (.const (.slice none 0 0))⟩]

def f12r15 : List AInstr := [
    ⟨(some 15), none, .mov (.const (.slice none 0 0))⟩]

def f12r16 : List AInstr := [
    ⟨(some 16), none, .mov (.const (.slice none 0 0))⟩]

def f12r17 : List AInstr := [
    ⟨(some 65), none, .mov (.tmp 1)⟩,
    ⟨(some 66), none, .len (.tmp 65)⟩,
    ⟨(some 67), none, .mov (.const (.int .i64 0))⟩]

def f12r18 : List AInstr := [
    ⟨(some 68), none, .ibin .lss (.tmp 67) (.tmp 66)⟩]

def f12r19 : List AInstr := [
    ⟨(some 69), none, .mov (.tmp 67)⟩,
    ⟨(some 70), none, .indexAddr 1 (.tmp 65) (.tmp 67)⟩,
    ⟨(some 71), none, .load none (.tmp 70)⟩,
    ⟨(some 17), none, .mov (.tmp 69)⟩,
    ⟨(some 18), none, .mov (.tmp 71)⟩]

def f12r20 : List AInstr := [
    ⟨(some 73), none, .mov (.tmp 2)⟩,
    ⟨(some 74), none, .mov (.tmp 17)⟩,
    ⟨(some 75), none, .indexAddr 1 (.tmp 73) (.tmp 74)⟩,
    ⟨(some 76), none, .load none (.tmp 75)⟩,
    ⟨(some 77), none, .mov (.tmp 0)⟩,
    ⟨(some 78), none, .mov (.tmp 17)⟩,
    ⟨(some 79), none, .indexAddr 1 (.tmp 77) (.tmp 78)⟩,
    ⟨(some 80), none, .load none (.tmp 79)⟩,
    ⟨(some 81), none, .ibin .add (.tmp 76) (.tmp 80)⟩,
    ⟨(some 82), none, .mov (.tmp 18)⟩,
    ⟨(some 83), none, .callF 18 [.tmp 81, .tmp 82]⟩,
    ⟨(some 72), none, .mov (.tmp 83)⟩,
    ⟨(some 84), none, .extract 0 (.tmp 72)⟩,
    ⟨(some 85), none, .extract 1 (.tmp 72)⟩,
    ⟨(some 19), none, .mov (.tmp 84)⟩,
    ⟨(some 20), none, .mov (.tmp 85)⟩]

def f12r21 : List AInstr := [
    ⟨(some 86), none, .mov (.tmp 19)⟩,
    ⟨(some 87), none, .len (.tmp 86)⟩,
    ⟨(some 88), none, .mov (.const (.int .i64 0))⟩]

def f12r22 : List AInstr := [
    ⟨(some 89), none, .ibin .lss (.tmp 88) (.tmp 87)⟩]

def f12r23 : List AInstr := [
    ⟨(some 90), none, .indexAddr 1 (.tmp 86) (.tmp 88)⟩,
    ⟨(some 91), none, .load none (.tmp 90)⟩,
    ⟨(some 22), none, .mov (.tmp 91)⟩]

def f12r24 : List AInstr := [
    ⟨(some 92), none, .mov (.tmp 14)⟩,
    ⟨(some 93), none, .mov (.tmp 17)⟩,
    ⟨(some 94), none, .mov (.tmp 22)⟩,
    ⟨(some 95), none, .build [.int .i64 0, .int .i64 0] [(0, 1, (.tmp 93)), (1, 1, (.tmp 94))]⟩,
    ⟨(some 96), none, .buildSlice 2 1 [.int .i64 0, .int .i64 0] [(0, 2, (.tmp 95))]⟩,
    ⟨(some 97), none, .append 2 16 (.tmp 92) (.tmp 96)⟩,
    ⟨(some 14), none, .mov (.tmp 97)⟩]

def f12r25 : List AInstr := [
    ⟨(some 98), none, .ibin .add (.tmp 88) (.const (.int .i64 1))⟩,
    ⟨(some 88), none, .mov (.tmp 98)⟩]

/-- live: [0, 2, 14, 15, 16, 17, 18, 19, 20, 65, 66, 67, 86, 87, 88] -/
def f12l1 : ACode := (.seq (.ops f12r22)
  (.keep [0, 2, 14, 15, 16, 17, 18, 19, 20, 65, 66, 67, 86, 87, 88, 89] (.seq (.cond (.tmp 89) .skip (.exit 4))
  (.keep [0, 2, 14, 15, 16, 17, 18, 19, 20, 65, 66, 67, 86, 87, 88] (.seq (.block 5 (.seq (.ops f12r23)
  (.keep [0, 2, 14, 15, 16, 17, 18, 19, 20, 22, 65, 66, 67, 86, 87, 88] (.ops f12r24))))
  (.keep [0, 2, 14, 15, 16, 17, 18, 19, 20, 65, 66, 67, 86, 87, 88] (.ops f12r25)))))))

def f12r27 : List AInstr := [
    ⟨(some 99), none, .mov (.tmp 15)⟩,
    ⟨(some 100), none, .buildSlice 1 0 [] []⟩,
    ⟨(some 101), none, .mov (.tmp 18)⟩,
    ⟨(some 102), none, .mov (.tmp 19)⟩,
    ⟨(some 103), none, .len (.tmp 102)⟩,
    ⟨(some 104), none, .slice 1 (.tmp 101) (some (.tmp 103)) none none⟩,
    ⟨(some 105), none, .append 1 8 (.tmp 100) (.tmp 104)⟩,
    ⟨(some 106), none, .buildSlice 1 1 [.slice none 0 0] [(0, 1, (.tmp 105))]⟩,
    ⟨(some 107), none, .append 1 24 (.tmp 99) (.tmp 106)⟩,
    ⟨(some 15), none, .mov (.tmp 107)⟩]

def f12r28 : List AInstr := [
    ⟨(some 108), none, .mov (.tmp 16)⟩,
    ⟨(some 109), none, .mov (.tmp 20)⟩,
    ⟨(some 110), none, .buildSlice 1 1 [.int .i64 0] [(0, 1, (.tmp 109))]⟩,
    ⟨(some 111), none, .append 1 8 (.tmp 108) (.tmp 110)⟩,
    ⟨(some 16), none, .mov (.tmp 111)⟩]

def f12r29 : List AInstr := [
    ⟨(some 112), none, .ibin .add (.tmp 67) (.const (.int .i64 1))⟩,
    ⟨(some 67), none, .mov (.tmp 112)⟩]

/-- live: [0, 2, 14, 15, 16, 65, 66, 67] -/
def f12l2 : ACode := (.seq (.ops f12r18)
  (.keep [0, 2, 14, 15, 16, 65, 66, 67, 68] (.seq (.cond (.tmp 68) .skip (.exit 2))
  (.keep [0, 2, 14, 15, 16, 65, 66, 67] (.seq (.block 3 (.seq (.ops f12r19)
  (.keep [0, 2, 14, 15, 16, 17, 18, 65, 66, 67] (.seq (.draw f12r20 [(0, 0, false), (0, 0, false), (0, 0, false), (0, 0, false), (0, 0, false), (0, 0, false), (0, 0, false), (0, 0, false), (0, 0, false), (0, 0, false), (0, 0, true), (1, 1, false), (1, 1, false), (1, 1, false), (1, 1, false), (1, 1, false)])
  (.keep [0, 2, 14, 15, 16, 17, 18, 19, 20, 65, 66, 67] (.seq (.seq (.ops f12r21)
  (.keep [0, 2, 14, 15, 16, 17, 18, 19, 20, 65, 66, 67, 86, 87, 88] (.block 4 (.loop f12l1))))
  (.keep [0, 2, 14, 15, 16, 18, 19, 20, 65, 66, 67] (.seq (.ops f12r27)
  (.keep [0, 2, 14, 15, 16, 20, 65, 66, 67] (.ops f12r28))))))))))
  (.keep [0, 2, 14, 15, 16, 65, 66, 67] (.ops f12r29)))))))

def f12r31 : List AInstr := [
    ⟨(some 113), none, .mov (.tmp 14)⟩,
    ⟨(some 114), none, .mov (.tmp 15)⟩,
    ⟨(some 115), none, .mov (.tmp 16)⟩,
    ⟨(some 6), none, .mov (.tmp 113)⟩,
    ⟨(some 7), none, .mov (.tmp 114)⟩,
    ⟨(some 8), none, .mov (.tmp 115)⟩,
    ⟨(some 9), none, .mov (.const (.int .i64 0))⟩]

def f12b : ACode := (.seq (.ops f12r0)
  (.keep [0, 1, 2] (.seq (.ops f12r1)
  (.keep [0, 1, 2, 10] (.seq (.seq (.ops f12r2)
  (.keep [0, 1, 2, 10, 11] (.seq (.ops f12r3)
  (.keep [0, 1, 2, 10, 11, 27] (.cond (.tmp 27) (.keep [10, 11] (.seq (.ops f12r4)
  (.keep [6, 7, 8, 9] .ret))) .skip)))))
  (.keep [0, 1, 2, 10] (.seq (.seq (.ops f12r5)
  (.keep [0, 1, 2, 10, 39] (.cond (.tmp 39) (.keep [10] (.seq (.ops f12r6)
  (.keep [6, 7, 8, 9] .ret))) .skip)))
  (.keep [0, 1, 2, 10] (.seq (.seq (.ops f12r7)
  (.keep [0, 1, 2, 10, 46, 47, 48] (.block 0 (.loop f12l0))))
  (.keep [0, 1, 2] (.seq (.ops f12r14)
  (.keep [0, 1, 2, 14] (.seq (.ops f12r15)
  (.keep [0, 1, 2, 14, 15] (.seq (.ops f12r16)
  (.keep [0, 1, 2, 14, 15, 16] (.seq (.seq (.ops f12r17)
  (.keep [0, 2, 14, 15, 16, 65, 66, 67] (.block 2 (.loop f12l2))))
  (.keep [14, 15, 16] (.seq (.ops f12r31)
  (.keep [6, 7, 8, 9] .ret))))))))))))))))))))

def f12 : AFn := ⟨116, [.tmp 6, .tmp 7, .tmp 8, .tmp 9], f12b⟩

theorem f12_ok : compFn Try.prog 12 = some f12.strip := by kernel_rfl

/- function 13: slices.Equal[[]weirhouse/api.Sent,weirhouse/api.Sent]; parameters 2; operations that are not compiled: 0 -/
def f13r0 : List AInstr := [
    ⟨(some 4), none, .mov (.const (.bool false))⟩]

def f13r1 : List AInstr := [
    ⟨(some 6), none, .mov (.tmp 0)⟩,
    ⟨(some 7), none, .len (.tmp 6)⟩,
    ⟨(some 8), none, .mov (.tmp 1)⟩,
    ⟨(some 9), none, .len (.tmp 8)⟩,
    ⟨(some 10), none, .ibin .neq (.tmp 7) (.tmp 9)⟩]

def f13r2 : List AInstr := [
    ⟨(some 4), none, .mov (.const (.bool false))⟩]

def f13r3 : List AInstr := [
    ⟨(some 11), none, .mov (.tmp 0)⟩,
    ⟨(some 12), none, .len (.tmp 11)⟩,
    ⟨(some 13), none, .mov (.const (.int .i64 0))⟩]

def f13r4 : List AInstr := [
    ⟨(some 14), none, .ibin .lss (.tmp 13) (.tmp 12)⟩]

def f13r5 : List AInstr := [
    ⟨(some 15), none, .mov (.tmp 13)⟩,
    ⟨(some 5), none, .mov (.tmp 15)⟩]

def f13r6 : List AInstr := [
    ⟨(some 16), none, .mov (.tmp 0)⟩,
    ⟨(some 17), none, .mov (.tmp 5)⟩,
    ⟨(some 18), none, .indexAddr 2 (.tmp 16) (.tmp 17)⟩,
    ⟨(some 19), none, .load (some 2) (.tmp 18)⟩,
    ⟨(some 20), none, .mov (.tmp 1)⟩,
    ⟨(some 21), none, .mov (.tmp 5)⟩,
    ⟨(some 22), none, .indexAddr 2 (.tmp 20) (.tmp 21)⟩,
    ⟨(some 23), none, .load (some 2) (.tmp 22)⟩,
    ⟨(some 24), none, .eqA true [false, false] (.tmp 19) (.tmp 23)⟩]

def f13r7 : List AInstr := [
    ⟨(some 4), none, .mov (.const (.bool false))⟩]

def f13r8 : List AInstr := [
    ⟨(some 25), none, .ibin .add (.tmp 13) (.const (.int .i64 1))⟩,
    ⟨(some 13), none, .mov (.tmp 25)⟩]

/-- live: [0, 1, 12, 13] -/
def f13l0 : ACode := (.seq (.ops f13r4)
  (.keep [0, 1, 12, 13, 14] (.seq (.cond (.tmp 14) .skip (.exit 0))
  (.keep [0, 1, 12, 13] (.seq (.block 1 (.seq (.ops f13r5)
  (.keep [0, 1, 5, 12, 13] (.seq (.draw f13r6 [(0, 0, false), (0, 0, false), (0, 0, false), (0, 0, false), (0, 0, false), (0, 0, false), (0, 0, false), (0, 0, false), (0, 0, false)])
  (.keep [0, 1, 12, 13, 24] (.cond (.tmp 24) (.keep [] (.seq (.ops f13r7)
  (.keep [4] .ret))) .skip))))))
  (.keep [0, 1, 12, 13] (.ops f13r8)))))))

def f13r10 : List AInstr := [
    ⟨(some 4), none, .mov (.const (.bool true))⟩]

def f13b : ACode := (.seq (.ops f13r0)
  (.keep [0, 1] (.seq (.seq (.ops f13r1)
  (.keep [0, 1, 10] (.cond (.tmp 10) (.keep [] (.seq (.ops f13r2)
  (.keep [4] .ret))) .skip)))
  (.keep [0, 1] (.seq (.seq (.ops f13r3)
  (.keep [0, 1, 12, 13] (.block 0 (.loop f13l0))))
  (.keep [] (.seq (.ops f13r10)
  (.keep [4] .ret))))))))

def f13 : AFn := ⟨26, [.tmp 4], f13b⟩

theorem f13_ok : compFn Try.prog 13 = some f13.strip := by kernel_rfl

/- function 14: slices.Concat[[]weirhouse/api.Sent,weirhouse/api.Sent]; parameters 1; operations that are not compiled: 2 -/
def f14r0 : List AInstr := [
    ⟨(some 2), none, .mov (.const (.slice none 0 0))⟩]

def f14r1 : List AInstr := [
    ⟨(some 3), none, .mov (.const (.int .i64 0))⟩]

def f14r2 : List AInstr := [
    ⟨(some 9), none, .mov (.tmp 0)⟩,
    ⟨(some 10), none, .len (.tmp 9)⟩,
    ⟨(some 11), none, .mov (.const (.int .i64 0))⟩]

def f14r3 : List AInstr := [
    ⟨(some 12), none, .ibin .lss (.tmp 11) (.tmp 10)⟩]

def f14r4 : List AInstr := [
    ⟨(some 13), none, .indexAddr 1 (.tmp 9) (.tmp 11)⟩,
    ⟨(some 14), none, .load none (.tmp 13)⟩,
    ⟨(some 5), none, .mov (.tmp 14)⟩]

def f14r5 : List AInstr := [
    ⟨(some 15), none, .mov (.tmp 3)⟩,
    ⟨(some 16), none, .mov (.tmp 5)⟩,
    ⟨(some 17), none, .len (.tmp 16)⟩,
    ⟨(some 18), none, .ibin .add (.tmp 15) (.tmp 17)⟩,
    ⟨(some 3), none, .mov (.tmp 18)⟩]

def f14r6 : List AInstr := [
    ⟨(some 19), none, .mov (.tmp 3)⟩,
    ⟨(some 20), none, .ibin .lss (.tmp 19) (.const (.int .i64 0))⟩]

def f14r7 : List AInstr := [
    ⟨(some 21), none, .bad⟩,
    ⟨none, none, .bad⟩]

def f14r8 : List AInstr := [
    ⟨(some 22), none, .ibin .add (.tmp 11) (.const (.int .i64 1))⟩,
    ⟨(some 11), none, .mov (.tmp 22)⟩]

/-- live: [0, 3, 9, 10, 11] -/
def f14l0 : ACode := (.seq (.ops f14r3)
  (.keep [0, 3, 9, 10, 11, 12] (.seq (.cond (.tmp 12) .skip (.exit 0))
  (.keep [0, 3, 9, 10, 11] (.seq (.block 1 (.seq (.ops f14r4)
  (.keep [0, 3, 5, 9, 10, 11] (.seq (.ops f14r5)
  (.keep [0, 3, 9, 10, 11] (.seq (.ops f14r6)
  (.keep [0, 3, 9, 10, 11, 20] (.cond (.tmp 20) (.keep [0, 3, 9, 10, 11] (.ops f14r7)) .skip))))))))
  (.keep [0, 3, 9, 10, 11] (.ops f14r8)))))))

def f14r10 : List AInstr := [
    ⟨(some 23), none, .mov (.tmp 3)⟩,
    ⟨(some 24), none, .callF 19 [.const (.slice none 0 0), .tmp 23]⟩,
    ⟨(some 6), none, .mov (.tmp 24)⟩]

def f14r11 : List AInstr := [
    ⟨(some 25), none, .mov (.tmp 0)⟩,
    ⟨(some 26), none, .len (.tmp 25)⟩,
    ⟨(some 27), none, .mov (.const (.int .i64 0))⟩]

def f14r12 : List AInstr := [
    ⟨(some 28), none, .ibin .lss (.tmp 27) (.tmp 26)⟩]

def f14r13 : List AInstr := [
    ⟨(some 29), none, .indexAddr 1 (.tmp 25) (.tmp 27)⟩,
    ⟨(some 30), none, .load none (.tmp 29)⟩,
    ⟨(some 8), none, .mov (.tmp 30)⟩]

def f14r14 : List AInstr := [
    ⟨(some 31), none, .mov (.tmp 6)⟩,
    ⟨(some 32), none, .mov (.tmp 8)⟩,
    ⟨(some 33), none, .append 2 16 (.tmp 31) (.tmp 32)⟩,
    ⟨(some 6), none, .mov (.tmp 33)⟩]

def f14r15 : List AInstr := [
    ⟨(some 34), none, .ibin .add (.tmp 27) (.const (.int .i64 1))⟩,
    ⟨(some 27), none, .mov (.tmp 34)⟩]

/-- live: [6, 25, 26, 27] -/
def f14l1 : ACode := (.seq (.ops f14r12)
  (.keep [6, 25, 26, 27, 28] (.seq (.cond (.tmp 28) .skip (.exit 2))
  (.keep [6, 25, 26, 27] (.seq (.block 3 (.seq (.ops f14r13)
  (.keep [6, 8, 25, 26, 27] (.ops f14r14))))
  (.keep [6, 25, 26, 27] (.ops f14r15)))))))

def f14r17 : List AInstr := [
    ⟨(some 35), none, .mov (.tmp 6)⟩,
    ⟨(some 2), none, .mov (.tmp 35)⟩]

def f14b : ACode := (.seq (.ops f14r0)
  (.keep [0] (.seq (.ops f14r1)
  (.keep [0, 3] (.seq (.seq (.ops f14r2)
  (.keep [0, 3, 9, 10, 11] (.block 0 (.loop f14l0))))
  (.keep [0, 3] (.seq (.ops f14r10)
  (.keep [0, 6] (.seq (.seq (.ops f14r11)
  (.keep [6, 25, 26, 27] (.block 2 (.loop f14l1))))
  (.keep [6] (.seq (.ops f14r17)
  (.keep [2] .ret))))))))))))

def f14 : AFn := ⟨36, [.tmp 2], f14b⟩

theorem f14_ok : compFn Try.prog 14 = some f14.strip := by kernel_rfl

/- function 15: slices.Equal[[]int,int]; parameters 2; operations that are not compiled: 0 -/
def f15r0 : List AInstr := [
    ⟨(some 4), none, .mov (.const (.bool false))⟩]

def f15r1 : List AInstr := [
    ⟨(some 6), none, .mov (.tmp 0)⟩,
    ⟨(some 7), none, .len (.tmp 6)⟩,
    ⟨(some 8), none, .mov (.tmp 1)⟩,
    ⟨(some 9), none, .len (.tmp 8)⟩,
    ⟨(some 10), none, .ibin .neq (.tmp 7) (.tmp 9)⟩]

def f15r2 : List AInstr := [
    ⟨(some 4), none, .mov (.const (.bool false))⟩]

def f15r3 : List AInstr := [
    ⟨(some 11), none, .mov (.tmp 0)⟩,
    ⟨(some 12), none, .len (.tmp 11)⟩,
    ⟨(some 13), none, .mov (.const (.int .i64 0))⟩]

def f15r4 : List AInstr := [
    ⟨(some 14), none, .ibin .lss (.tmp 13) (.tmp 12)⟩]

def f15r5 : List AInstr := [
    ⟨(some 15), none, .mov (.tmp 13)⟩,
    ⟨(some 5), none, .mov (.tmp 15)⟩]

def f15r6 : List AInstr := [
    ⟨(some 16), none, .mov (.tmp 0)⟩,
    ⟨(some 17), none, .mov (.tmp 5)⟩,
    ⟨(some 18), none, .indexAddr 1 (.tmp 16) (.tmp 17)⟩,
    ⟨(some 19), none, .load none (.tmp 18)⟩,
    ⟨(some 20), none, .mov (.tmp 1)⟩,
    ⟨(some 21), none, .mov (.tmp 5)⟩,
    ⟨(some 22), none, .indexAddr 1 (.tmp 20) (.tmp 21)⟩,
    ⟨(some 23), none, .load none (.tmp 22)⟩,
    ⟨(some 24), none, .ibin .neq (.tmp 19) (.tmp 23)⟩]

def f15r7 : List AInstr := [
    ⟨(some 4), none, .mov (.const (.bool false))⟩]

def f15r8 : List AInstr := [
    ⟨(some 25), none, .ibin .add (.tmp 13) (.const (.int .i64 1))⟩,
    ⟨(some 13), none, .mov (.tmp 25)⟩]

/-- live: [0, 1, 12, 13] -/
def f15l0 : ACode := (.seq (.ops f15r4)
  (.keep [0, 1, 12, 13, 14] (.seq (.cond (.tmp 14) .skip (.exit 0))
  (.keep [0, 1, 12, 13] (.seq (.block 1 (.seq (.ops f15r5)
  (.keep [0, 1, 5, 12, 13] (.seq (.draw f15r6 [(0, 0, false), (0, 0, false), (0, 0, false), (0, 0, false), (0, 0, false), (0, 0, false), (0, 0, false), (0, 0, false), (0, 0, false)])
  (.keep [0, 1, 12, 13, 24] (.cond (.tmp 24) (.keep [] (.seq (.ops f15r7)
  (.keep [4] .ret))) .skip))))))
  (.keep [0, 1, 12, 13] (.ops f15r8)))))))

def f15r10 : List AInstr := [
    ⟨(some 4), none, .mov (.const (.bool true))⟩]

def f15b : ACode := (.seq (.ops f15r0)
  (.keep [0, 1] (.seq (.seq (.ops f15r1)
  (.keep [0, 1, 10] (.cond (.tmp 10) (.keep [] (.seq (.ops f15r2)
  (.keep [4] .ret))) .skip)))
  (.keep [0, 1] (.seq (.seq (.ops f15r3)
  (.keep [0, 1, 12, 13] (.block 0 (.loop f15l0))))
  (.keep [] (.seq (.ops f15r10)
  (.keep [4] .ret))))))))

def f15 : AFn := ⟨26, [.tmp 4], f15b⟩

theorem f15_ok : compFn Try.prog 15 = some f15.strip := by kernel_rfl

/- function 16: weirhouse/drr.Wrong; parameters 2; operations that are not compiled: 0 -/
def f16r0 : List AInstr := [
    ⟨(some 4), none, .mov (.const (.int .i64 0))⟩]

def f16r1 : List AInstr := [
    ⟨(some 9), none, .mov (.tmp 0)⟩,
    ⟨(some 10), none, .len (.tmp 9)⟩,
    ⟨(some 11), none, .mov (.tmp 1)⟩,
    ⟨(some 12), none, .len (.tmp 11)⟩,
    ⟨(some 13), none, .ibin .neq (.tmp 10) (.tmp 12)⟩]

def f16r2 : List AInstr := [
    ⟨(some 4), none, .mov (.const (.int .i64 1))⟩]

def f16r3 : List AInstr := [
    ⟨(some 14), none, .mov (.tmp 0)⟩,
    ⟨(some 15), none, .len (.tmp 14)⟩,
    ⟨(some 16), none, .ibin .gtr (.tmp 15) (.const (.int .i64 16))⟩]

def f16r4 : List AInstr := [
    ⟨(some 4), none, .mov (.const (.int .i64 2))⟩]

def f16r5 : List AInstr := [
    ⟨(some 17), none, .mov (.tmp 0)⟩,
    ⟨(some 18), none, .len (.tmp 17)⟩,
    ⟨(some 19), none, .mov (.const (.int .i64 0))⟩]

def f16r6 : List AInstr := [
    ⟨(some 20), none, .ibin .lss (.tmp 19) (.tmp 18)⟩]

def f16r7 : List AInstr := [
    ⟨(some 21), none, .mov (.tmp 19)⟩,
    ⟨(some 22), none, .indexAddr 1 (.tmp 17) (.tmp 19)⟩,
    ⟨(some 23), none, .load none (.tmp 22)⟩,
    ⟨(some 5), none, .mov (.tmp 21)⟩,
    ⟨(some 6), none, .mov (.tmp 23)⟩]

def f16r8 : List AInstr := [
    ⟨(some 24), none, .mov (.tmp 6)⟩,
    ⟨(some 25), none, .ibin .lss (.tmp 24) (.const (.int .i64 1))⟩,
    ⟨(some 26), none, .mov (.tmp 25)⟩,
    ⟨(some 27), (some (26, false)), .mov (.tmp 6)⟩,
    ⟨(some 28), (some (26, false)), .ibin .gtr (.tmp 27) (.const (.int .i64 10000))⟩,
    ⟨(some 29), none, .pick (.tmp 26) (.const (.bool true)) (.tmp 28)⟩,
    ⟨(some 30), none, .mov (.tmp 29)⟩,
    ⟨(some 31), (some (30, false)), .mov (.tmp 1)⟩,
    ⟨(some 32), (some (30, false)), .mov (.tmp 5)⟩,
    ⟨(some 33), (some (30, false)), .indexAddr 1 (.tmp 31) (.tmp 32)⟩,
    ⟨(some 34), (some (30, false)), .load none (.tmp 33)⟩,
    ⟨(some 35), (some (30, false)), .len (.tmp 34)⟩,
    ⟨(some 36), (some (30, false)), .ibin .gtr (.tmp 35) (.const (.int .i64 400))⟩,
    ⟨(some 37), none, .pick (.tmp 30) (.const (.bool true)) (.tmp 36)⟩]

def f16r9 : List AInstr := [
    ⟨(some 4), none, .mov (.const (.int .i64 2))⟩]

def f16r10 : List AInstr := [
    ⟨(some 38), none, .mov (.tmp 1)⟩,
    ⟨(some 39), none, .mov (.tmp 5)⟩,
    ⟨(some 40), none, .indexAddr 1 (.tmp 38) (.tmp 39)⟩,
    ⟨(some 41), none, .load none (.tmp 40)⟩,
    ⟨(some 42), none, .len (.tmp 41)⟩,
    ⟨(some 43), none, .mov (.const (.int .i64 0))⟩]

def f16r11 : List AInstr := [
    ⟨(some 44), none, .ibin .lss (.tmp 43) (.tmp 42)⟩]

def f16r12 : List AInstr := [
    ⟨(some 45), none, .indexAddr 1 (.tmp 41) (.tmp 43)⟩,
    ⟨(some 46), none, .load none (.tmp 45)⟩,
    ⟨(some 8), none, .mov (.tmp 46)⟩]

def f16r13 : List AInstr := [
    ⟨(some 47), none, .mov (.tmp 8)⟩,
    ⟨(some 48), none, .ibin .lss (.tmp 47) (.const (.int .i64 1))⟩,
    ⟨(some 49), none, .mov (.tmp 48)⟩,
    ⟨(some 50), (some (49, false)), .mov (.tmp 8)⟩,
    ⟨(some 51), (some (49, false)), .ibin .gtr (.tmp 50) (.const (.int .i64 1500))⟩,
    ⟨(some 52), none, .pick (.tmp 49) (.const (.bool true)) (.tmp 51)⟩]

def f16r14 : List AInstr := [
    ⟨(some 4), none, .mov (.const (.int .i64 2))⟩]

def f16r15 : List AInstr := [
    ⟨(some 53), none, .ibin .add (.tmp 43) (.const (.int .i64 1))⟩,
    ⟨(some 43), none, .mov (.tmp 53)⟩]

/-- live: [1, 17, 18, 19, 41, 42, 43] -/
def f16l0 : ACode := (.seq (.ops f16r11)
  (.keep [1, 17, 18, 19, 41, 42, 43, 44] (.seq (.cond (.tmp 44) .skip (.exit 2))
  (.keep [1, 17, 18, 19, 41, 42, 43] (.seq (.block 3 (.seq (.ops f16r12)
  (.keep [1, 8, 17, 18, 19, 41, 42, 43] (.seq (.ops f16r13)
  (.keep [1, 17, 18, 19, 41, 42, 43, 52] (.cond (.tmp 52) (.keep [] (.seq (.ops f16r14)
  (.keep [4] .ret))) .skip))))))
  (.keep [1, 17, 18, 19, 41, 42, 43] (.ops f16r15)))))))

def f16r17 : List AInstr := [
    ⟨(some 54), none, .ibin .add (.tmp 19) (.const (.int .i64 1))⟩,
    ⟨(some 19), none, .mov (.tmp 54)⟩]

/-- live: [1, 17, 18, 19] -/
def f16l1 : ACode := (.seq (.ops f16r6)
  (.keep [1, 17, 18, 19, 20] (.seq (.cond (.tmp 20) .skip (.exit 0))
  (.keep [1, 17, 18, 19] (.seq (.block 1 (.seq (.ops f16r7)
  (.keep [1, 5, 6, 17, 18, 19] (.seq (.seq (.ops f16r8)
  (.keep [1, 5, 17, 18, 19, 37] (.cond (.tmp 37) (.keep [] (.seq (.ops f16r9)
  (.keep [4] .ret))) .skip)))
  (.keep [1, 5, 17, 18, 19] (.seq (.ops f16r10)
  (.keep [1, 17, 18, 19, 41, 42, 43] (.block 2 (.loop f16l0)))))))))
  (.keep [1, 17, 18, 19] (.ops f16r17)))))))

def f16r19 : List AInstr := [
    ⟨(some 4), none, .mov (.const (.int .i64 0))⟩]

def f16b : ACode := (.seq (.ops f16r0)
  (.keep [0, 1] (.seq (.seq (.ops f16r1)
  (.keep [0, 1, 13] (.cond (.tmp 13) (.keep [] (.seq (.ops f16r2)
  (.keep [4] .ret))) .skip)))
  (.keep [0, 1] (.seq (.seq (.ops f16r3)
  (.keep [0, 1, 16] (.cond (.tmp 16) (.keep [] (.seq (.ops f16r4)
  (.keep [4] .ret))) .skip)))
  (.keep [0, 1] (.seq (.seq (.ops f16r5)
  (.keep [1, 17, 18, 19] (.block 0 (.loop f16l1))))
  (.keep [] (.seq (.ops f16r19)
  (.keep [4] .ret))))))))))

def f16 : AFn := ⟨55, [.tmp 4], f16b⟩

theorem f16_ok : compFn Try.prog 16 = some f16.strip := by kernel_rfl

/- function 17: weirhouse/drr.Round$1; parameters 1; operations that are not compiled: 0 -/
def f17r0 : List AInstr := [
    ⟨(some 2), none, .mov (.const (.slice none 0 0))⟩,
    ⟨(some 3), none, .mov (.const (.slice none 0 0))⟩,
    ⟨(some 4), none, .mov (.const (.slice none 0 0))⟩,
    ⟨(some 5), none, .mov (.const (.int .i64 0))⟩]

def f17r1 : List AInstr := [
    ⟨(some 6), none, .mov (.tmp 0)⟩,
    ⟨(some 2), none, .mov (.const (.slice none 0 0))⟩,
    ⟨(some 3), none, .mov (.const (.slice none 0 0))⟩,
    ⟨(some 4), none, .mov (.const (.slice none 0 0))⟩,
    ⟨(some 5), none, .mov (.tmp 6)⟩]

def f17b : ACode := (.seq (.ops f17r0)
  (.keep [0] (.seq (.ops f17r1)
  (.keep [2, 3, 4, 5] .ret))))

def f17 : AFn := ⟨7, [.tmp 2, .tmp 3, .tmp 4, .tmp 5], f17b⟩

theorem f17_ok : compFn Try.prog 17 = some f17.strip := by kernel_rfl

/- function 18: weirhouse/drr.turn; parameters 2; operations that are not compiled: 0 -/
def f18r0 : List AInstr := [
    ⟨(some 4), none, .mov (.const (.slice none 0 0))⟩,
    ⟨(some 5), none, .mov (.const (.int .i64 0))⟩]

def f18r1 : List AInstr := [
    ⟨(some 6), none, .mov (.const (.int .i64 0))⟩]

def f18r2 : List AInstr := [
    ⟨(some 7), none, .mov (.tmp 6)⟩,
    ⟨(some 8), none, .mov (.tmp 1)⟩,
    ⟨(some 9), none, .len (.tmp 8)⟩,
    ⟨(some 10), none, .ibin .lss (.tmp 7) (.tmp 9)⟩,
    ⟨(some 11), none, .mov (.tmp 10)⟩,
    ⟨(some 12), (some (11, true)), .mov (.tmp 1)⟩,
    ⟨(some 13), (some (11, true)), .mov (.tmp 6)⟩,
    ⟨(some 14), (some (11, true)), .indexAddr 1 (.tmp 12) (.tmp 13)⟩,
    ⟨(some 15), (some (11, true)), .load none (.tmp 14)⟩,
    ⟨(some 16), (some (11, true)), .mov (.tmp 0)⟩,
    ⟨(some 17), (some (11, true)), .ibin .leq (.tmp 15) (.tmp 16)⟩,
    ⟨(some 18), none, .pick (.tmp 11) (.tmp 17) (.const (.bool false))⟩]

def f18r3 : List AInstr := [
    ⟨(some 19), none, .mov (.tmp 0)⟩,
    ⟨(some 20), none, .mov (.tmp 1)⟩,
    ⟨(some 21), none, .mov (.tmp 6)⟩,
    ⟨(some 22), none, .indexAddr 1 (.tmp 20) (.tmp 21)⟩,
    ⟨(some 23), none, .load none (.tmp 22)⟩,
    ⟨(some 24), none, .ibin .sub (.tmp 19) (.tmp 23)⟩,
    ⟨(some 0), none, .mov (.tmp 24)⟩]

def f18r4 : List AInstr := [
    ⟨(some 25), none, .mov (.tmp 6)⟩,
    ⟨(some 26), none, .ibin .add (.tmp 25) (.const (.int .i64 1))⟩,
    ⟨(some 6), none, .mov (.tmp 26)⟩]

/-- live: [0, 1, 6] -/
def f18l0 : ACode := (.seq (.seq (.ops f18r2)
  (.keep [0, 1, 6, 18] (.cond (.tmp 18) .skip (.exit 0))))
  (.keep [0, 1, 6] (.block 1 (.seq (.ops f18r3)
  (.keep [0, 1, 6] (.ops f18r4))))))

def f18r6 : List AInstr := [
    ⟨(some 27), none, .mov (.tmp 6)⟩,
    ⟨(some 28), none, .mov (.tmp 1)⟩,
    ⟨(some 29), none, .len (.tmp 28)⟩,
    ⟨(some 30), none, .ibin .eql (.tmp 27) (.tmp 29)⟩]

def f18r7 : List AInstr := [
    ⟨(some 0), none, .mov (.const (.int .i64 0))⟩]

def f18r8 : List AInstr := [
    ⟨(some 31), none, .mov (.tmp 1)⟩,
    ⟨(some 32), none, .mov (.tmp 6)⟩,
    ⟨(some 33), none, .slice 1 (.tmp 31) none (some (.tmp 32)) none⟩,
    ⟨(some 34), none, .mov (.tmp 0)⟩,
    ⟨(some 4), none, .mov (.tmp 33)⟩,
    ⟨(some 5), none, .mov (.tmp 34)⟩]

def f18b : ACode := (.seq (.ops f18r0)
  (.keep [0, 1] (.seq (.ops f18r1)
  (.keep [0, 1, 6] (.seq (.block 0 (.loop f18l0))
  (.keep [0, 1, 6] (.seq (.seq (.ops f18r6)
  (.keep [0, 1, 6, 30] (.cond (.tmp 30) (.keep [1, 6] (.ops f18r7)) .skip)))
  (.keep [0, 1, 6] (.seq (.ops f18r8)
  (.keep [4, 5] .ret))))))))))

def f18 : AFn := ⟨35, [.tmp 4, .tmp 5], f18b⟩

theorem f18_ok : compFn Try.prog 18 = some f18.strip := by kernel_rfl

/- function 19: slices.Grow[[]weirhouse/api.Sent,weirhouse/api.Sent]; parameters 2; operations that are not compiled: 2 -/
def f19r0 : List AInstr := [
    ⟨(some 4), none, .mov (.const (.slice none 0 0))⟩]

def f19r1 : List AInstr := [
    ⟨(some 5), none, .mov (.tmp 1)⟩,
    ⟨(some 6), none, .ibin .lss (.tmp 5) (.const (.int .i64 0))⟩]

def f19r2 : List AInstr := [
    ⟨(some 7), none, .bad⟩,
    ⟨none, none, .bad⟩]

def f19r3 : List AInstr := [
    ⟨(some 8), none, .mov (.tmp 1)⟩,
    ⟨(some 9), none, .mov (.tmp 0)⟩,
    ⟨(some 10), none, .cap (.tmp 9)⟩,
    ⟨(some 11), none, .mov (.tmp 0)⟩,
    ⟨(some 12), none, .len (.tmp 11)⟩,
    ⟨(some 13), none, .ibin .sub (.tmp 10) (.tmp 12)⟩,
    ⟨(some 14), none, .ibin .sub (.tmp 8) (.tmp 13)⟩,
    ⟨(some 1), none, .mov (.tmp 14)⟩]

def f19r4 : List AInstr := [
    ⟨(some 15), none, .mov (.tmp 1)⟩,
    ⟨(some 16), none, .ibin .gtr (.tmp 15) (.const (.int .i64 0))⟩]

def f19r5 : List AInstr := [
    ⟨(some 17), none, .mov (.tmp 0)⟩,
    ⟨(some 18), none, .mov (.tmp 0)⟩,
    ⟨(some 19), none, .cap (.tmp 18)⟩,
    ⟨(some 20), none, .slice 2 (.tmp 17) none (some (.tmp 19)) none⟩,
    ⟨(some 21), none, .mov (.tmp 1)⟩,
    ⟨(some 22), none, .appendZ 2 16 [.int .i64 0, .int .i64 0] (.tmp 20) (.tmp 21)⟩,
    ⟨(some 23), none, .mov (.tmp 0)⟩,
    ⟨(some 24), none, .len (.tmp 23)⟩,
    ⟨(some 25), none, .slice 2 (.tmp 22) none (some (.tmp 24)) none⟩,
    ⟨(some 0), none, .mov (.tmp 25)⟩]

def f19r6 : List AInstr := [
    ⟨(some 26), none, .mov (.tmp 0)⟩,
    ⟨(some 4), none, .mov (.tmp 26)⟩]

def f19b : ACode := (.seq (.ops f19r0)
  (.keep [0, 1] (.seq (.seq (.ops f19r1)
  (.keep [0, 1, 6] (.cond (.tmp 6) (.keep [0, 1] (.ops f19r2)) .skip)))
  (.keep [0, 1] (.seq (.seq (.ops f19r3)
  (.keep [0, 1] (.seq (.ops f19r4)
  (.keep [0, 1, 16] (.cond (.tmp 16) (.keep [0, 1] (.ops f19r5)) .skip)))))
  (.keep [0] (.seq (.ops f19r6)
  (.keep [4] .ret))))))))

def f19 : AFn := ⟨27, [.tmp 4], f19b⟩

theorem f19_ok : compFn Try.prog 19 = some f19.strip := by kernel_rfl

end Go.Proofs.Ythdpcloggedhfaa
