/-
  The functions of this seat as abstract code. Printed by a program of this claim's writer.
-/
import Derived.Test.YteopnmfdncjbhaaChecked
import Derived.Test.YteopnmfdncjbhaaAmS
import Derived.KernelRfl
namespace Go.Proofs.Yteopnmfdncjbhaa
open Go Go.Am

/- function 3: weirhouse/weirhousekeep.MeterBound; parameters 4; operations that are not compiled: 0 -/
def f3r0 : List AInstr := [
    ⟨(some 8), none, .mov (.const (.bool false))⟩]

def f3r1 : List AInstr := [
    ⟨(some 17), none, .callF 7 []⟩,
    ⟨(some 18), none, .un .not (.tmp 17)⟩]

def f3r2 : List AInstr := [
    ⟨(some 8), none, .mov (.const (.bool false))⟩]

def f3r3 : List AInstr := [
    ⟨(some 20), none, .mov (.tmp 0)⟩,
    ⟨(some 21), none, .mov (.tmp 1)⟩,
    ⟨(some 22), none, .mov (.tmp 2)⟩,
    ⟨(some 23), none, .mov (.tmp 3)⟩,
    ⟨(some 24), none, .callF 8 [.tmp 20, .tmp 21, .tmp 22, .tmp 23]⟩,
    ⟨(some 19), none, .mov (.tmp 24)⟩,
    ⟨(some 25), none, .extract 0 (.tmp 19)⟩,
    ⟨(some 26), none, .extract 1 (.tmp 19)⟩,
    ⟨(some 27), none, .extract 2 (.tmp 19)⟩,
    ⟨(some 10), none, .alloc [.int .i64 0, .int .i64 0, .int .i64 0, .int .i64 0, .int .i64 0, .int .i64 0]⟩,
    ⟨(some 9), none, .mov (.tmp 25)⟩,
    ⟨none, none, .store 6 (.tmp 10) (.tmp 26)⟩,
    ⟨(some 11), none, .mov (.tmp 27)⟩]

def f3r4 : List AInstr := [
    ⟨(some 28), none, .mov (.tmp 11)⟩,
    ⟨(some 29), none, .ibin .neq (.tmp 28) (.const (.int .i64 0))⟩,
    ⟨(some 30), none, .mov (.tmp 29)⟩,
    ⟨(some 31), (some (30, false)), .mov (.tmp 9)⟩,
    ⟨(some 32), (some (30, false)), .len (.tmp 31)⟩,
    ⟨(some 33), (some (30, false)), .mov (.tmp 3)⟩,
    ⟨(some 34), (some (30, false)), .len (.tmp 33)⟩,
    ⟨(some 35), (some (30, false)), .ibin .neq (.tmp 32) (.tmp 34)⟩,
    ⟨(some 36), none, .pick (.tmp 30) (.const (.bool true)) (.tmp 35)⟩]

def f3r5 : List AInstr := [
    ⟨(some 37), none, .mov (.tmp 11)⟩,
    ⟨(some 38), none, .ibin .neq (.tmp 37) (.const (.int .i64 0))⟩,
    ⟨(some 39), none, .mov (.tmp 38)⟩,
    ⟨(some 40), (some (39, true)), .mov (.tmp 9)⟩,
    ⟨(some 41), (some (39, true)), .len (.tmp 40)⟩,
    ⟨(some 42), (some (39, true)), .ibin .eql (.tmp 41) (.const (.int .i64 0))⟩,
    ⟨(some 43), none, .pick (.tmp 39) (.tmp 42) (.const (.bool false))⟩,
    ⟨(some 8), none, .mov (.tmp 43)⟩]

def f3r6 : List AInstr := [
    ⟨(some 44), none, .mov (.tmp 3)⟩,
    ⟨(some 45), none, .len (.tmp 44)⟩,
    ⟨(some 46), none, .ibin .gtr (.tmp 45) (.const (.int .i64 60))⟩]

def f3r7 : List AInstr := [
    ⟨(some 8), none, .mov (.const (.bool true))⟩]

def f3r8 : List AInstr := [
    ⟨(some 47), none, .mov (.tmp 3)⟩,
    ⟨(some 48), none, .len (.tmp 47)⟩,
    ⟨(some 49), none, .mov (.const (.int .i64 0))⟩]

def f3r9 : List AInstr := [
    ⟨(some 50), none, .ibin .lss (.tmp 49) (.tmp 48)⟩]

def f3r10 : List AInstr := [
    ⟨(some 51), none, .mov (.tmp 49)⟩,
    ⟨(some 12), none, .mov (.tmp 51)⟩]

def f3r11 : List AInstr := [
    ⟨(some 13), none, .mov (.const (.int .i64 0))⟩,
    ⟨(some 14), none, .mov (.const (.int .i64 0))⟩]

def f3r12 : List AInstr := [
    ⟨(some 52), none, .mov (.tmp 12)⟩,
    ⟨(some 15), none, .mov (.tmp 52)⟩]

def f3r13 : List AInstr := [
    ⟨(some 53), none, .mov (.tmp 15)⟩,
    ⟨(some 54), none, .mov (.tmp 3)⟩,
    ⟨(some 55), none, .len (.tmp 54)⟩,
    ⟨(some 56), none, .ibin .lss (.tmp 53) (.tmp 55)⟩]

def f3r14 : List AInstr := [
    ⟨(some 59), none, .mov (.tmp 9)⟩,
    ⟨(some 60), none, .mov (.tmp 15)⟩,
    ⟨(some 61), none, .indexAddr 1 (.tmp 59) (.tmp 60)⟩,
    ⟨(some 62), none, .load none (.tmp 61)⟩,
    ⟨(some 63), none, .ibin .eql (.tmp 62) (.const (.int .i64 1))⟩]

def f3r15 : List AInstr := [
    ⟨(some 64), none, .mov (.tmp 13)⟩,
    ⟨(some 65), none, .mov (.tmp 3)⟩,
    ⟨(some 66), none, .mov (.tmp 15)⟩,
    ⟨(some 67), none, .indexAddr 2 (.tmp 65) (.tmp 66)⟩,
    ⟨(some 68), none, .fieldAddr 1 (.tmp 67)⟩,
    ⟨(some 69), none, .load none (.tmp 68)⟩,
    ⟨(some 70), none, .ibin .add (.tmp 64) (.tmp 69)⟩,
    ⟨(some 13), none, .mov (.tmp 70)⟩]

def f3r16 : List AInstr := [
    ⟨(some 71), none, .mov (.tmp 9)⟩,
    ⟨(some 72), none, .mov (.tmp 15)⟩,
    ⟨(some 73), none, .indexAddr 1 (.tmp 71) (.tmp 72)⟩,
    ⟨(some 74), none, .load none (.tmp 73)⟩,
    ⟨(some 75), none, .ibin .neq (.tmp 74) (.const (.int .i64 3))⟩]

def f3r17 : List AInstr := [
    ⟨(some 76), none, .mov (.tmp 14)⟩,
    ⟨(some 77), none, .mov (.tmp 3)⟩,
    ⟨(some 78), none, .mov (.tmp 15)⟩,
    ⟨(some 79), none, .indexAddr 2 (.tmp 77) (.tmp 78)⟩,
    ⟨(some 80), none, .fieldAddr 1 (.tmp 79)⟩,
    ⟨(some 81), none, .load none (.tmp 80)⟩,
    ⟨(some 82), none, .ibin .add (.tmp 76) (.tmp 81)⟩,
    ⟨(some 14), none, .mov (.tmp 82)⟩]

def f3r18 : List AInstr := [
    ⟨(some 83), none, .mov (.tmp 3)⟩,
    ⟨(some 84), none, .mov (.tmp 15)⟩,
    ⟨(some 85), none, .indexAddr 2 (.tmp 83) (.tmp 84)⟩,
    ⟨(some 86), none, .fieldAddr 0 (.tmp 85)⟩,
    ⟨(some 87), none, .load none (.tmp 86)⟩,
    ⟨(some 88), none, .mov (.tmp 3)⟩,
    ⟨(some 89), none, .mov (.tmp 12)⟩,
    ⟨(some 90), none, .indexAddr 2 (.tmp 88) (.tmp 89)⟩,
    ⟨(some 91), none, .fieldAddr 0 (.tmp 90)⟩,
    ⟨(some 92), none, .load none (.tmp 91)⟩,
    ⟨(some 93), none, .ibin .sub (.tmp 87) (.tmp 92)⟩,
    ⟨(some 16), none, .mov (.tmp 93)⟩]

def f3r19 : List AInstr := [
    ⟨(some 94), none, .mov (.tmp 16)⟩,
    ⟨(some 95), none, .ibin .lss (.tmp 94) (.const (.int .i64 1048576))⟩,
    ⟨(some 96), none, .mov (.tmp 95)⟩,
    ⟨(some 97), (some (96, true)), .mov (.tmp 13)⟩,
    ⟨(some 98), (some (96, true)), .mov (.tmp 1)⟩,
    ⟨(some 99), (some (96, true)), .mov (.tmp 0)⟩,
    ⟨(some 100), (some (96, true)), .mov (.tmp 16)⟩,
    ⟨(some 101), (some (96, true)), .ibin .mul (.tmp 99) (.tmp 100)⟩,
    ⟨(some 102), (some (96, true)), .ibin .add (.tmp 98) (.tmp 101)⟩,
    ⟨(some 103), (some (96, true)), .ibin .gtr (.tmp 97) (.tmp 102)⟩,
    ⟨(some 104), (some (96, true)), .mov (.tmp 103)⟩,
    ⟨(some 105), (some (104, false)), .mov (.tmp 14)⟩,
    ⟨(some 106), (some (104, false)), .mov (.tmp 1)⟩,
    ⟨(some 107), (some (104, false)), .mov (.tmp 2)⟩,
    ⟨(some 108), (some (104, false)), .ibin .add (.tmp 106) (.tmp 107)⟩,
    ⟨(some 109), (some (104, false)), .mov (.tmp 0)⟩,
    ⟨(some 110), (some (104, false)), .mov (.tmp 16)⟩,
    ⟨(some 111), (some (104, false)), .ibin .mul (.tmp 109) (.tmp 110)⟩,
    ⟨(some 112), (some (104, false)), .ibin .add (.tmp 108) (.tmp 111)⟩,
    ⟨(some 113), (some (104, false)), .ibin .gtr (.tmp 105) (.tmp 112)⟩,
    ⟨(some 114), (some (96, true)), .pick (.tmp 104) (.const (.bool true)) (.tmp 113)⟩,
    ⟨(some 115), none, .pick (.tmp 96) (.tmp 114) (.const (.bool false))⟩]

def f3r20 : List AInstr := [
    ⟨(some 8), none, .mov (.const (.bool false))⟩]

def f3r21 : List AInstr := [
    ⟨(some 57), none, .mov (.tmp 15)⟩,
    ⟨(some 58), none, .ibin .add (.tmp 57) (.const (.int .i64 1))⟩,
    ⟨(some 15), none, .mov (.tmp 58)⟩]

/-- live: [0, 1, 2, 3, 9, 12, 13, 14, 15, 48, 49] -/
def f3l0 : ACode := (.seq (.seq (.ops f3r13)
  (.keep [0, 1, 2, 3, 9, 12, 13, 14, 15, 48, 49, 56] (.cond (.tmp 56) .skip (.exit 2))))
  (.keep [0, 1, 2, 3, 9, 12, 13, 14, 15, 48, 49] (.seq (.block 3 (.seq (.seq (.ops f3r14)
  (.keep [0, 1, 2, 3, 9, 12, 13, 14, 15, 48, 49, 63] (.cond (.tmp 63) (.keep [0, 1, 2, 3, 9, 12, 13, 14, 15, 48, 49] (.ops f3r15)) .skip)))
  (.keep [0, 1, 2, 3, 9, 12, 13, 14, 15, 48, 49] (.seq (.seq (.ops f3r16)
  (.keep [0, 1, 2, 3, 9, 12, 13, 14, 15, 48, 49, 75] (.cond (.tmp 75) (.keep [0, 1, 2, 3, 9, 12, 13, 14, 15, 48, 49] (.ops f3r17)) .skip)))
  (.keep [0, 1, 2, 3, 9, 12, 13, 14, 15, 48, 49] (.seq (.draw f3r18 [(0, 0, false), (0, 0, false), (0, 0, false), (0, 0, false), (0, 0, false), (0, 0, false), (0, 0, false), (0, 0, false), (0, 0, false), (0, 0, false), (0, 0, false), (0, 0, false)])
  (.keep [0, 1, 2, 3, 9, 12, 13, 14, 15, 16, 48, 49] (.seq (.ops f3r19)
  (.keep [0, 1, 2, 3, 9, 12, 13, 14, 15, 48, 49, 115] (.cond (.tmp 115) (.keep [] (.seq (.ops f3r20)
  (.keep [8] .ret))) .skip))))))))))
  (.keep [0, 1, 2, 3, 9, 12, 13, 14, 15, 48, 49] (.ops f3r21)))))

def f3r23 : List AInstr := [
    ⟨(some 116), none, .ibin .add (.tmp 49) (.const (.int .i64 1))⟩,
    ⟨(some 49), none, .mov (.tmp 116)⟩]

/-- live: [0, 1, 2, 3, 9, 48, 49] -/
def f3l1 : ACode := (.seq (.ops f3r9)
  (.keep [0, 1, 2, 3, 9, 48, 49, 50] (.seq (.cond (.tmp 50) .skip (.exit 0))
  (.keep [0, 1, 2, 3, 9, 48, 49] (.seq (.block 1 (.seq (.ops f3r10)
  (.keep [0, 1, 2, 3, 9, 12, 48, 49] (.seq (.ops f3r11)
  (.keep [0, 1, 2, 3, 9, 12, 13, 14, 48, 49] (.seq (.ops f3r12)
  (.keep [0, 1, 2, 3, 9, 12, 13, 14, 15, 48, 49] (.block 2 (.loop f3l0)))))))))
  (.keep [0, 1, 2, 3, 9, 48, 49] (.ops f3r23)))))))

def f3r25 : List AInstr := [
    ⟨(some 8), none, .mov (.const (.bool true))⟩]

def f3b : ACode := (.seq (.ops f3r0)
  (.keep [0, 1, 2, 3] (.seq (.seq (.ops f3r1)
  (.keep [0, 1, 2, 3, 18] (.cond (.tmp 18) (.keep [] (.seq (.ops f3r2)
  (.keep [8] .ret))) .skip)))
  (.keep [0, 1, 2, 3] (.seq (.ops f3r3)
  (.keep [0, 1, 2, 3, 9, 11] (.seq (.seq (.ops f3r4)
  (.keep [0, 1, 2, 3, 9, 11, 36] (.cond (.tmp 36) (.keep [9, 11] (.seq (.ops f3r5)
  (.keep [8] .ret))) .skip)))
  (.keep [0, 1, 2, 3, 9] (.seq (.seq (.ops f3r6)
  (.keep [0, 1, 2, 3, 9, 46] (.cond (.tmp 46) (.keep [] (.seq (.ops f3r7)
  (.keep [8] .ret))) .skip)))
  (.keep [0, 1, 2, 3, 9] (.seq (.seq (.ops f3r8)
  (.keep [0, 1, 2, 3, 9, 48, 49] (.block 0 (.loop f3l1))))
  (.keep [] (.seq (.ops f3r25)
  (.keep [8] .ret))))))))))))))

def f3 : AFn := ⟨117, [.tmp 8], f3b⟩

theorem f3_ok : compFn Try.prog 3 = some f3.strip := by kernel_rfl

/- function 4: weirhouse/weirhousekeep.MeterWorse; parameters 3; operations that are not compiled: 0 -/
def f4r0 : List AInstr := [
    ⟨(some 3), none, .box (.tmp 0)⟩,
    ⟨(some 4), none, .box (.tmp 1)⟩,
    ⟨(some 6), none, .mov (.const (.bool false))⟩]

def f4r1 : List AInstr := [
    ⟨(some 13), none, .callF 7 []⟩,
    ⟨(some 14), none, .un .not (.tmp 13)⟩]

def f4r2 : List AInstr := [
    ⟨(some 6), none, .mov (.const (.bool false))⟩]

def f4r3 : List AInstr := [
    ⟨(some 16), none, .load (some 6) (.tmp 3)⟩,
    ⟨(some 17), none, .load (some 2) (.tmp 4)⟩,
    ⟨(some 18), none, .mov (.tmp 2)⟩,
    ⟨(some 19), none, .callF 9 [.tmp 16, .tmp 17, .tmp 18]⟩,
    ⟨(some 15), none, .mov (.tmp 19)⟩,
    ⟨(some 20), none, .extract 0 (.tmp 15)⟩,
    ⟨(some 21), none, .extract 1 (.tmp 15)⟩,
    ⟨(some 22), none, .extract 2 (.tmp 15)⟩,
    ⟨(some 7), none, .alloc [.int .i64 0, .int .i64 0, .int .i64 0, .int .i64 0, .int .i64 0, .int .i64 0]⟩,
    ⟨none, none, .store 6 (.tmp 7) (.tmp 20)⟩,
    ⟨(some 8), none, .mov (.tmp 21)⟩,
    ⟨(some 9), none, .mov (.tmp 22)⟩]

def f4r4 : List AInstr := [
    ⟨(some 24), none, .load (some 6) (.tmp 3)⟩,
    ⟨(some 25), none, .load (some 2) (.tmp 4)⟩,
    ⟨(some 26), none, .mov (.tmp 2)⟩,
    ⟨(some 27), none, .ibin .add (.tmp 26) (.const (.int .i64 1))⟩,
    ⟨(some 28), none, .callF 9 [.tmp 24, .tmp 25, .tmp 27]⟩,
    ⟨(some 23), none, .mov (.tmp 28)⟩,
    ⟨(some 29), none, .extract 0 (.tmp 23)⟩,
    ⟨(some 30), none, .extract 1 (.tmp 23)⟩,
    ⟨(some 31), none, .extract 2 (.tmp 23)⟩,
    ⟨(some 10), none, .alloc [.int .i64 0, .int .i64 0, .int .i64 0, .int .i64 0, .int .i64 0, .int .i64 0]⟩,
    ⟨none, none, .store 6 (.tmp 10) (.tmp 29)⟩,
    ⟨(some 11), none, .mov (.tmp 30)⟩,
    ⟨(some 12), none, .mov (.tmp 31)⟩]

def f4r5 : List AInstr := [
    ⟨(some 32), none, .mov (.tmp 9)⟩,
    ⟨(some 33), none, .ibin .neq (.tmp 32) (.const (.int .i64 0))⟩]

def f4r6 : List AInstr := [
    ⟨(some 34), none, .mov (.tmp 8)⟩,
    ⟨(some 35), none, .ibin .eql (.tmp 34) (.const (.int .i64 0))⟩,
    ⟨(some 36), none, .mov (.tmp 35)⟩,
    ⟨(some 37), (some (36, true)), .load (some 6) (.tmp 7)⟩,
    ⟨(some 38), (some (36, true)), .build [.int .i64 0, .int .i64 0, .int .i64 0, .int .i64 0, .int .i64 0, .int .i64 0] []⟩,
    ⟨(some 39), (some (36, true)), .eqA false [false, false, false, false, false, false] (.tmp 37) (.tmp 38)⟩,
    ⟨(some 40), none, .pick (.tmp 36) (.tmp 39) (.const (.bool false))⟩,
    ⟨(some 6), none, .mov (.tmp 40)⟩]

def f4r7 : List AInstr := [
    ⟨(some 41), none, .mov (.tmp 8)⟩,
    ⟨(some 42), none, .mov (.tmp 2)⟩,
    ⟨(some 43), none, .ibin .geq (.tmp 41) (.tmp 42)⟩,
    ⟨(some 44), none, .mov (.tmp 43)⟩,
    ⟨(some 45), (some (44, true)), .mov (.tmp 8)⟩,
    ⟨(some 46), (some (44, true)), .ibin .leq (.tmp 45) (.const (.int .i64 3))⟩,
    ⟨(some 47), none, .pick (.tmp 44) (.tmp 46) (.const (.bool false))⟩,
    ⟨(some 48), none, .mov (.tmp 47)⟩,
    ⟨(some 49), (some (48, true)), .load (some 6) (.tmp 7)⟩,
    ⟨(some 50), (some (48, true)), .callF 10 [.tmp 49]⟩,
    ⟨(some 51), none, .pick (.tmp 48) (.tmp 50) (.const (.bool false))⟩,
    ⟨(some 52), none, .mov (.tmp 51)⟩,
    ⟨(some 53), (some (52, true)), .mov (.tmp 12)⟩,
    ⟨(some 54), (some (52, true)), .ibin .neq (.tmp 53) (.const (.int .i64 0))⟩,
    ⟨(some 55), (some (52, true)), .mov (.tmp 54)⟩,
    ⟨(some 56), (some (55, false)), .mov (.tmp 11)⟩,
    ⟨(some 57), (some (55, false)), .mov (.tmp 8)⟩,
    ⟨(some 58), (some (55, false)), .ibin .geq (.tmp 56) (.tmp 57)⟩,
    ⟨(some 59), (some (52, true)), .pick (.tmp 55) (.const (.bool true)) (.tmp 58)⟩,
    ⟨(some 60), none, .pick (.tmp 52) (.tmp 59) (.const (.bool false))⟩,
    ⟨(some 6), none, .mov (.tmp 60)⟩]

def f4b : ACode := (.seq (.ops f4r0)
  (.keep [2, 3, 4] (.seq (.seq (.ops f4r1)
  (.keep [2, 3, 4, 14] (.cond (.tmp 14) (.keep [] (.seq (.ops f4r2)
  (.keep [6] .ret))) .skip)))
  (.keep [2, 3, 4] (.seq (.ops f4r3)
  (.keep [2, 3, 4, 7, 8, 9] (.seq (.ops f4r4)
  (.keep [2, 7, 8, 9, 11, 12] (.seq (.seq (.ops f4r5)
  (.keep [2, 7, 8, 11, 12, 33] (.cond (.tmp 33) (.keep [7, 8] (.seq (.ops f4r6)
  (.keep [6] .ret))) .skip)))
  (.keep [2, 7, 8, 11, 12] (.seq (.ops f4r7)
  (.keep [6] .ret))))))))))))

def f4 : AFn := ⟨61, [.tmp 6], f4b⟩

theorem f4_ok : compFn Try.prog 4 = some f4.strip := by kernel_rfl

/- function 5: weirhouse/weirhousekeep.MeterStill; parameters 3; operations that are not compiled: 0 -/
def f5r0 : List AInstr := [
    ⟨(some 3), none, .box (.tmp 0)⟩,
    ⟨(some 4), none, .box (.tmp 1)⟩,
    ⟨(some 5), none, .box (.tmp 2)⟩,
    ⟨(some 6), none, .mov (.const (.bool false))⟩]

def f5r1 : List AInstr := [
    ⟨(some 16), none, .callF 7 []⟩,
    ⟨(some 17), none, .un .not (.tmp 16)⟩]

def f5r2 : List AInstr := [
    ⟨(some 6), none, .mov (.const (.bool false))⟩]

def f5r3 : List AInstr := [
    ⟨(some 19), none, .load (some 6) (.tmp 3)⟩,
    ⟨(some 20), none, .load (some 2) (.tmp 4)⟩,
    ⟨(some 21), none, .callF 9 [.tmp 19, .tmp 20, .const (.int .i64 1)]⟩,
    ⟨(some 18), none, .mov (.tmp 21)⟩,
    ⟨(some 22), none, .extract 0 (.tmp 18)⟩,
    ⟨(some 23), none, .extract 1 (.tmp 18)⟩,
    ⟨(some 24), none, .extract 2 (.tmp 18)⟩,
    ⟨(some 7), none, .alloc [.int .i64 0, .int .i64 0, .int .i64 0, .int .i64 0, .int .i64 0, .int .i64 0]⟩,
    ⟨none, none, .store 6 (.tmp 7) (.tmp 22)⟩,
    ⟨(some 8), none, .mov (.tmp 23)⟩,
    ⟨(some 9), none, .mov (.tmp 24)⟩]

def f5r4 : List AInstr := [
    ⟨(some 25), none, .mov (.tmp 9)⟩,
    ⟨(some 26), none, .ibin .neq (.tmp 25) (.const (.int .i64 0))⟩,
    ⟨(some 27), none, .mov (.tmp 26)⟩,
    ⟨(some 28), (some (27, false)), .mov (.tmp 8)⟩,
    ⟨(some 29), (some (27, false)), .ibin .neq (.tmp 28) (.const (.int .i64 3))⟩,
    ⟨(some 30), none, .pick (.tmp 27) (.const (.bool true)) (.tmp 29)⟩]

def f5r5 : List AInstr := [
    ⟨(some 6), none, .mov (.const (.bool true))⟩]

def f5r6 : List AInstr := [
    ⟨(some 32), none, .load (some 6) (.tmp 7)⟩,
    ⟨(some 33), none, .load (some 2) (.tmp 5)⟩,
    ⟨(some 34), none, .callF 9 [.tmp 32, .tmp 33, .const (.int .i64 1)]⟩,
    ⟨(some 31), none, .mov (.tmp 34)⟩,
    ⟨(some 35), none, .extract 0 (.tmp 31)⟩,
    ⟨(some 36), none, .extract 1 (.tmp 31)⟩,
    ⟨(some 37), none, .extract 2 (.tmp 31)⟩,
    ⟨(some 10), none, .alloc [.int .i64 0, .int .i64 0, .int .i64 0, .int .i64 0, .int .i64 0, .int .i64 0]⟩,
    ⟨none, none, .store 6 (.tmp 10) (.tmp 35)⟩,
    ⟨(some 11), none, .mov (.tmp 36)⟩,
    ⟨(some 12), none, .mov (.tmp 37)⟩]

def f5r7 : List AInstr := [
    ⟨(some 39), none, .load (some 6) (.tmp 3)⟩,
    ⟨(some 40), none, .load (some 2) (.tmp 5)⟩,
    ⟨(some 41), none, .callF 9 [.tmp 39, .tmp 40, .const (.int .i64 1)]⟩,
    ⟨(some 38), none, .mov (.tmp 41)⟩,
    ⟨(some 42), none, .extract 0 (.tmp 38)⟩,
    ⟨(some 43), none, .extract 1 (.tmp 38)⟩,
    ⟨(some 44), none, .extract 2 (.tmp 38)⟩,
    ⟨(some 13), none, .alloc [.int .i64 0, .int .i64 0, .int .i64 0, .int .i64 0, .int .i64 0, .int .i64 0]⟩,
    ⟨none, none, .store 6 (.tmp 13) (.tmp 42)⟩,
    ⟨(some 14), none, .mov (.tmp 43)⟩,
    ⟨(some 15), none, .mov (.tmp 44)⟩]

def f5r8 : List AInstr := [
    ⟨(some 45), none, .mov (.tmp 12)⟩,
    ⟨(some 46), none, .ibin .neq (.tmp 45) (.const (.int .i64 0))⟩,
    ⟨(some 47), none, .mov (.tmp 46)⟩,
    ⟨(some 48), (some (47, false)), .mov (.tmp 15)⟩,
    ⟨(some 49), (some (47, false)), .ibin .eql (.tmp 48) (.const (.int .i64 0))⟩,
    ⟨(some 50), (some (47, false)), .mov (.tmp 49)⟩,
    ⟨(some 51), (some (50, true)), .mov (.tmp 11)⟩,
    ⟨(some 52), (some (50, true)), .mov (.tmp 14)⟩,
    ⟨(some 53), (some (50, true)), .ibin .eql (.tmp 51) (.tmp 52)⟩,
    ⟨(some 54), (some (47, false)), .pick (.tmp 50) (.tmp 53) (.const (.bool false))⟩,
    ⟨(some 55), (some (47, false)), .mov (.tmp 54)⟩,
    ⟨(some 56), (some (55, true)), .load (some 6) (.tmp 10)⟩,
    ⟨(some 57), (some (55, true)), .load (some 6) (.tmp 13)⟩,
    ⟨(some 58), (some (55, true)), .eqA false [false, false, false, false, false, false] (.tmp 56) (.tmp 57)⟩,
    ⟨(some 59), (some (47, false)), .pick (.tmp 55) (.tmp 58) (.const (.bool false))⟩,
    ⟨(some 60), none, .pick (.tmp 47) (.const (.bool true)) (.tmp 59)⟩,
    ⟨(some 6), none, .mov (.tmp 60)⟩]

def f5b : ACode := (.seq (.ops f5r0)
  (.keep [3, 4, 5] (.seq (.seq (.ops f5r1)
  (.keep [3, 4, 5, 17] (.cond (.tmp 17) (.keep [] (.seq (.ops f5r2)
  (.keep [6] .ret))) .skip)))
  (.keep [3, 4, 5] (.seq (.ops f5r3)
  (.keep [3, 5, 7, 8, 9] (.seq (.seq (.ops f5r4)
  (.keep [3, 5, 7, 30] (.cond (.tmp 30) (.keep [] (.seq (.ops f5r5)
  (.keep [6] .ret))) .skip)))
  (.keep [3, 5, 7] (.seq (.ops f5r6)
  (.keep [3, 5, 10, 11, 12] (.seq (.ops f5r7)
  (.keep [10, 11, 12, 13, 14, 15] (.seq (.ops f5r8)
  (.keep [6] .ret))))))))))))))

def f5 : AFn := ⟨61, [.tmp 6], f5b⟩

theorem f5_ok : compFn Try.prog 5 = some f5.strip := by kernel_rfl

/- function 6: weirhouse/weirhousekeep.MeterSum; parameters 2; operations that are not compiled: 0 -/
def f6r0 : List AInstr := [
    ⟨(some 2), none, .box (.tmp 0)⟩,
    ⟨(some 4), none, .mov (.const (.bool false))⟩]

def f6r1 : List AInstr := [
    ⟨(some 8), none, .callF 7 []⟩,
    ⟨(some 9), none, .un .not (.tmp 8)⟩]

def f6r2 : List AInstr := [
    ⟨(some 4), none, .mov (.const (.bool false))⟩]

def f6r3 : List AInstr := [
    ⟨(some 11), none, .load (some 6) (.tmp 2)⟩,
    ⟨(some 12), none, .fieldAddr 5 (.tmp 2)⟩,
    ⟨(some 13), none, .load none (.tmp 12)⟩,
    ⟨(some 14), none, .mov (.tmp 1)⟩,
    ⟨(some 15), none, .build [.int .i64 0, .int .i64 0] [(0, 1, (.tmp 13)), (1, 1, (.tmp 14))]⟩,
    ⟨(some 16), none, .callF 9 [.tmp 11, .tmp 15, .const (.int .i64 1)]⟩,
    ⟨(some 10), none, .mov (.tmp 16)⟩,
    ⟨(some 17), none, .extract 0 (.tmp 10)⟩,
    ⟨(some 18), none, .extract 1 (.tmp 10)⟩,
    ⟨(some 19), none, .extract 2 (.tmp 10)⟩,
    ⟨(some 5), none, .alloc [.int .i64 0, .int .i64 0, .int .i64 0, .int .i64 0, .int .i64 0, .int .i64 0]⟩,
    ⟨none, none, .store 6 (.tmp 5) (.tmp 17)⟩,
    ⟨(some 6), none, .mov (.tmp 18)⟩,
    ⟨(some 7), none, .mov (.tmp 19)⟩]

def f6r4 : List AInstr := [
    ⟨(some 20), none, .mov (.tmp 7)⟩,
    ⟨(some 21), none, .ibin .neq (.tmp 20) (.const (.int .i64 0))⟩]

def f6r5 : List AInstr := [
    ⟨(some 4), none, .mov (.const (.bool true))⟩]

def f6r6 : List AInstr := [
    ⟨(some 22), none, .mov (.tmp 6)⟩]

def f6r7 : List AInstr := [
    ⟨(some 24), none, .ibin .eql (.tmp 22) (.const (.int .i64 1))⟩,
    ⟨(some 23), none, .mov (.tmp 24)⟩]

def f6r8 : List AInstr := [
    ⟨(some 25), none, .fieldAddr 3 (.tmp 5)⟩,
    ⟨(some 26), none, .load none (.tmp 25)⟩,
    ⟨(some 27), none, .fieldAddr 3 (.tmp 2)⟩,
    ⟨(some 28), none, .load none (.tmp 27)⟩,
    ⟨(some 29), none, .mov (.tmp 1)⟩,
    ⟨(some 30), none, .ibin .sub (.tmp 28) (.tmp 29)⟩,
    ⟨(some 31), none, .ibin .eql (.tmp 26) (.tmp 30)⟩,
    ⟨(some 32), none, .mov (.tmp 31)⟩,
    ⟨(some 33), (some (32, true)), .fieldAddr 4 (.tmp 5)⟩,
    ⟨(some 34), (some (32, true)), .load none (.tmp 33)⟩,
    ⟨(some 35), (some (32, true)), .fieldAddr 4 (.tmp 2)⟩,
    ⟨(some 36), (some (32, true)), .load none (.tmp 35)⟩,
    ⟨(some 37), (some (32, true)), .ibin .eql (.tmp 34) (.tmp 36)⟩,
    ⟨(some 38), none, .pick (.tmp 32) (.tmp 37) (.const (.bool false))⟩,
    ⟨(some 4), none, .mov (.tmp 38)⟩]

def f6r9 : List AInstr := [
    ⟨(some 40), none, .ibin .eql (.tmp 22) (.const (.int .i64 2))⟩,
    ⟨(some 39), none, .mov (.tmp 40)⟩]

def f6r10 : List AInstr := [
    ⟨(some 41), none, .fieldAddr 3 (.tmp 5)⟩,
    ⟨(some 42), none, .load none (.tmp 41)⟩,
    ⟨(some 43), none, .fieldAddr 3 (.tmp 2)⟩,
    ⟨(some 44), none, .load none (.tmp 43)⟩,
    ⟨(some 45), none, .ibin .eql (.tmp 42) (.tmp 44)⟩,
    ⟨(some 46), none, .mov (.tmp 45)⟩,
    ⟨(some 47), (some (46, true)), .fieldAddr 4 (.tmp 5)⟩,
    ⟨(some 48), (some (46, true)), .load none (.tmp 47)⟩,
    ⟨(some 49), (some (46, true)), .fieldAddr 4 (.tmp 2)⟩,
    ⟨(some 50), (some (46, true)), .load none (.tmp 49)⟩,
    ⟨(some 51), (some (46, true)), .mov (.tmp 1)⟩,
    ⟨(some 52), (some (46, true)), .ibin .sub (.tmp 50) (.tmp 51)⟩,
    ⟨(some 53), (some (46, true)), .ibin .eql (.tmp 48) (.tmp 52)⟩,
    ⟨(some 54), none, .pick (.tmp 46) (.tmp 53) (.const (.bool false))⟩,
    ⟨(some 55), none, .mov (.tmp 54)⟩,
    ⟨(some 56), (some (55, true)), .mov (.tmp 1)⟩,
    ⟨(some 57), (some (55, true)), .fieldAddr 3 (.tmp 2)⟩,
    ⟨(some 58), (some (55, true)), .load none (.tmp 57)⟩,
    ⟨(some 59), (some (55, true)), .ibin .gtr (.tmp 56) (.tmp 58)⟩,
    ⟨(some 60), none, .pick (.tmp 55) (.tmp 59) (.const (.bool false))⟩,
    ⟨(some 4), none, .mov (.tmp 60)⟩]

def f6r11 : List AInstr := [
    ⟨(some 61), none, .load (some 6) (.tmp 5)⟩,
    ⟨(some 62), none, .load (some 6) (.tmp 2)⟩,
    ⟨(some 63), none, .eqA false [false, false, false, false, false, false] (.tmp 61) (.tmp 62)⟩,
    ⟨(some 64), none, .mov (.tmp 63)⟩,
    ⟨(some 65), (some (64, true)), .mov (.tmp 1)⟩,
    ⟨(some 66), (some (64, true)), .fieldAddr 3 (.tmp 2)⟩,
    ⟨(some 67), (some (64, true)), .load none (.tmp 66)⟩,
    ⟨(some 68), (some (64, true)), .ibin .gtr (.tmp 65) (.tmp 67)⟩,
    ⟨(some 69), none, .pick (.tmp 64) (.tmp 68) (.const (.bool false))⟩,
    ⟨(some 70), none, .mov (.tmp 69)⟩,
    ⟨(some 71), (some (70, true)), .mov (.tmp 1)⟩,
    ⟨(some 72), (some (70, true)), .fieldAddr 4 (.tmp 2)⟩,
    ⟨(some 73), (some (70, true)), .load none (.tmp 72)⟩,
    ⟨(some 74), (some (70, true)), .ibin .gtr (.tmp 71) (.tmp 73)⟩,
    ⟨(some 75), none, .pick (.tmp 70) (.tmp 74) (.const (.bool false))⟩,
    ⟨(some 4), none, .mov (.tmp 75)⟩]

def f6b : ACode := (.seq (.ops f6r0)
  (.keep [1, 2] (.seq (.seq (.ops f6r1)
  (.keep [1, 2, 9] (.cond (.tmp 9) (.keep [] (.seq (.ops f6r2)
  (.keep [4] .ret))) .skip)))
  (.keep [1, 2] (.seq (.ops f6r3)
  (.keep [1, 2, 5, 6, 7] (.seq (.seq (.ops f6r4)
  (.keep [1, 2, 5, 6, 21] (.cond (.tmp 21) (.keep [] (.seq (.ops f6r5)
  (.keep [4] .ret))) .skip)))
  (.keep [1, 2, 5, 6] (.seq (.seq (.ops f6r6)
  (.keep [1, 2, 5, 22] (.block 0 (.seq (.ops f6r7)
  (.keep [1, 2, 5, 22, 23] (.cond (.tmp 23) (.keep [1, 2, 5] (.seq (.ops f6r8)
  (.keep [4] .ret))) (.keep [1, 2, 5, 22] (.seq (.ops f6r9)
  (.keep [1, 2, 5, 39] (.cond (.tmp 39) (.keep [1, 2, 5] (.seq (.ops f6r10)
  (.keep [4] .ret))) .skip))))))))))
  (.keep [1, 2, 5] (.seq (.ops f6r11)
  (.keep [4] .ret))))))))))))

def f6 : AFn := ⟨76, [.tmp 4], f6b⟩

theorem f6_ok : compFn Try.prog 6 = some f6.strip := by kernel_rfl

/- function 7: weirhouse/weirhousekeep.alive10; parameters 0; operations that are not compiled: 0 -/
def f7r0 : List AInstr := [
    ⟨(some 0), none, .mov (.const (.bool false))⟩]

def f7r1 : List AInstr := [
    ⟨(some 5), none, .build [.int .i64 0, .int .i64 0] [(1, 1, (.const (.int .i64 8)))]⟩,
    ⟨(some 6), none, .build [.int .i64 0, .int .i64 0] [(1, 1, (.const (.int .i64 4)))]⟩,
    ⟨(some 7), none, .build [.int .i64 0, .int .i64 0] [(1, 1, (.const (.int .i64 4)))]⟩,
    ⟨(some 8), none, .build [.int .i64 0, .int .i64 0] [(0, 1, (.const (.int .i64 3))), (1, 1, (.const (.int .i64 8)))]⟩,
    ⟨(some 9), none, .build [.int .i64 0, .int .i64 0] [(0, 1, (.const (.int .i64 9)))]⟩,
    ⟨(some 10), none, .buildSlice 2 5 [.int .i64 0, .int .i64 0, .int .i64 0, .int .i64 0, .int .i64 0, .int .i64 0, .int .i64 0, .int .i64 0, .int .i64 0, .int .i64 0] [(0, 2, (.tmp 5)), (2, 2, (.tmp 6)), (4, 2, (.tmp 7)), (6, 2, (.tmp 8)), (8, 2, (.tmp 9))]⟩,
    ⟨(some 11), none, .callF 8 [.const (.int .i64 2), .const (.int .i64 10), .const (.int .i64 5), .tmp 10]⟩,
    ⟨(some 4), none, .mov (.tmp 11)⟩,
    ⟨(some 12), none, .extract 0 (.tmp 4)⟩,
    ⟨(some 13), none, .extract 1 (.tmp 4)⟩,
    ⟨(some 14), none, .extract 2 (.tmp 4)⟩,
    ⟨(some 2), none, .alloc [.int .i64 0, .int .i64 0, .int .i64 0, .int .i64 0, .int .i64 0, .int .i64 0]⟩,
    ⟨(some 1), none, .mov (.tmp 12)⟩,
    ⟨none, none, .store 6 (.tmp 2) (.tmp 13)⟩,
    ⟨(some 3), none, .mov (.tmp 14)⟩]

def f7r2 : List AInstr := [
    ⟨(some 15), none, .mov (.tmp 3)⟩,
    ⟨(some 16), none, .ibin .eql (.tmp 15) (.const (.int .i64 0))⟩,
    ⟨(some 17), none, .mov (.tmp 16)⟩,
    ⟨(some 18), (some (17, true)), .mov (.tmp 1)⟩,
    ⟨(some 19), (some (17, true)), .buildSlice 1 5 [.int .i64 0, .int .i64 0, .int .i64 0, .int .i64 0, .int .i64 0] [(0, 1, (.const (.int .i64 1))), (1, 1, (.const (.int .i64 2))), (2, 1, (.const (.int .i64 3))), (3, 1, (.const (.int .i64 1))), (4, 1, (.const (.int .i64 1)))]⟩,
    ⟨(some 20), (some (17, true)), .callF 11 [.tmp 18, .tmp 19]⟩,
    ⟨(some 21), none, .pick (.tmp 17) (.tmp 20) (.const (.bool false))⟩,
    ⟨(some 22), none, .mov (.tmp 21)⟩,
    ⟨(some 23), (some (22, true)), .fieldAddr 3 (.tmp 2)⟩,
    ⟨(some 24), (some (22, true)), .load none (.tmp 23)⟩,
    ⟨(some 25), (some (22, true)), .ibin .eql (.tmp 24) (.const (.int .i64 10))⟩,
    ⟨(some 26), none, .pick (.tmp 22) (.tmp 25) (.const (.bool false))⟩,
    ⟨(some 27), none, .mov (.tmp 26)⟩,
    ⟨(some 28), (some (27, true)), .fieldAddr 4 (.tmp 2)⟩,
    ⟨(some 29), (some (27, true)), .load none (.tmp 28)⟩,
    ⟨(some 30), (some (27, true)), .ibin .eql (.tmp 29) (.const (.int .i64 3))⟩,
    ⟨(some 31), none, .pick (.tmp 27) (.tmp 30) (.const (.bool false))⟩,
    ⟨(some 0), none, .mov (.tmp 31)⟩]

def f7b : ACode := (.seq (.ops f7r0)
  (.keep [] (.seq (.ops f7r1)
  (.keep [1, 2, 3] (.seq (.ops f7r2)
  (.keep [0] .ret))))))

def f7 : AFn := ⟨32, [.tmp 0], f7b⟩

theorem f7_ok : compFn Try.prog 7 = some f7.strip := by kernel_rfl

/- function 8: weirhouse/meter.Play; parameters 4; operations that are not compiled: 0 -/
def f8r0 : List AInstr := [
    ⟨(some 8), none, .mov (.const (.slice none 0 0))⟩,
    ⟨(some 9), none, .alloc [.int .i64 0, .int .i64 0, .int .i64 0, .int .i64 0, .int .i64 0, .int .i64 0]⟩,
    ⟨(some 10), none, .mov (.const (.int .i64 0))⟩]

def f8r1 : List AInstr := [
    ⟨(some 18), none, .mov (.tmp 0)⟩,
    ⟨(some 19), none, .mov (.tmp 1)⟩,
    ⟨(some 20), none, .mov (.tmp 2)⟩,
    ⟨(some 21), none, .mov (.tmp 1)⟩,
    ⟨(some 22), none, .mov (.tmp 2)⟩,
    ⟨(some 23), none, .build [.int .i64 0, .int .i64 0, .int .i64 0, .int .i64 0, .int .i64 0, .int .i64 0] [(0, 1, (.tmp 18)), (1, 1, (.tmp 19)), (2, 1, (.tmp 20)), (3, 1, (.tmp 21)), (4, 1, (.tmp 22))]⟩,
    ⟨(some 11), none, .alloc [.int .i64 0, .int .i64 0, .int .i64 0, .int .i64 0, .int .i64 0, .int .i64 0]⟩,
    ⟨none, none, .store 6 (.tmp 11) (.tmp 23)⟩]

def f8r2 : List AInstr := [
    ⟨(some 24), none, .load (some 6) (.tmp 11)⟩,
    ⟨(some 25), none, .callF 10 [.tmp 24]⟩,
    ⟨(some 26), none, .un .not (.tmp 25)⟩]

def f8r3 : List AInstr := [
    ⟨(some 27), none, .build [.int .i64 0, .int .i64 0, .int .i64 0, .int .i64 0, .int .i64 0, .int .i64 0] []⟩,
    ⟨(some 8), none, .mov (.const (.slice none 0 0))⟩,
    ⟨none, none, .store 6 (.tmp 9) (.tmp 27)⟩,
    ⟨(some 10), none, .mov (.const (.int .i64 2))⟩]

def f8r4 : List AInstr := [
    ⟨(some 12), none, .mov (.const (.slice none 0 0))⟩]

def f8r5 : List AInstr := [
    ⟨(some 28), none, .mov (.tmp 3)⟩,
    ⟨(some 29), none, .len (.tmp 28)⟩,
    ⟨(some 30), none, .mov (.const (.int .i64 0))⟩]

def f8r6 : List AInstr := [
    ⟨(some 31), none, .ibin .lss (.tmp 30) (.tmp 29)⟩]

def f8r7 : List AInstr := [
    ⟨(some 32), none, .indexAddr 2 (.tmp 28) (.tmp 30)⟩,
    ⟨(some 33), none, .load (some 2) (.tmp 32)⟩,
    ⟨(some 14), none, .alloc [.int .i64 0, .int .i64 0]⟩,
    ⟨none, none, .store 2 (.tmp 14) (.tmp 33)⟩]

def f8r8 : List AInstr := [
    ⟨(some 35), none, .load (some 6) (.tmp 11)⟩,
    ⟨(some 36), none, .load (some 2) (.tmp 14)⟩,
    ⟨(some 37), none, .callF 9 [.tmp 35, .tmp 36, .const (.int .i64 1)]⟩,
    ⟨(some 34), none, .mov (.tmp 37)⟩,
    ⟨(some 38), none, .extract 0 (.tmp 34)⟩,
    ⟨(some 39), none, .extract 1 (.tmp 34)⟩,
    ⟨(some 40), none, .extract 2 (.tmp 34)⟩,
    ⟨(some 15), none, .alloc [.int .i64 0, .int .i64 0, .int .i64 0, .int .i64 0, .int .i64 0, .int .i64 0]⟩,
    ⟨none, none, .store 6 (.tmp 15) (.tmp 38)⟩,
    ⟨(some 16), none, .mov (.tmp 39)⟩,
    ⟨(some 17), none, .mov (.tmp 40)⟩]

def f8r9 : List AInstr := [
    ⟨(some 41), none, .mov (.tmp 17)⟩,
    ⟨(some 42), none, .ibin .neq (.tmp 41) (.const (.int .i64 0))⟩]

def f8r10 : List AInstr := [
    ⟨(some 43), none, .build [.int .i64 0, .int .i64 0, .int .i64 0, .int .i64 0, .int .i64 0, .int .i64 0] []⟩,
    ⟨(some 44), none, .mov (.tmp 17)⟩,
    ⟨(some 8), none, .mov (.const (.slice none 0 0))⟩,
    ⟨none, none, .store 6 (.tmp 9) (.tmp 43)⟩,
    ⟨(some 10), none, .mov (.tmp 44)⟩]

def f8r11 : List AInstr := [
    ⟨(some 45), none, .load (some 6) (.tmp 15)⟩,
    ⟨(some 46), none, .mov (.tmp 12)⟩,
    ⟨(some 47), none, .mov (.tmp 16)⟩,
    ⟨(some 48), none, .buildSlice 1 1 [.int .i64 0] [(0, 1, (.tmp 47))]⟩,
    ⟨(some 49), none, .append 1 8 (.tmp 46) (.tmp 48)⟩,
    ⟨none, none, .store 6 (.tmp 11) (.tmp 45)⟩,
    ⟨(some 12), none, .mov (.tmp 49)⟩]

def f8r12 : List AInstr := [
    ⟨(some 50), none, .ibin .add (.tmp 30) (.const (.int .i64 1))⟩,
    ⟨(some 30), none, .mov (.tmp 50)⟩]

/-- live: [9, 11, 12, 28, 29, 30] -/
def f8l0 : ACode := (.seq (.ops f8r6)
  (.keep [9, 11, 12, 28, 29, 30, 31] (.seq (.cond (.tmp 31) .skip (.exit 0))
  (.keep [9, 11, 12, 28, 29, 30] (.seq (.block 1 (.seq (.ops f8r7)
  (.keep [9, 11, 12, 14, 28, 29, 30] (.seq (.ops f8r8)
  (.keep [9, 11, 12, 15, 16, 17, 28, 29, 30] (.seq (.seq (.ops f8r9)
  (.keep [9, 11, 12, 15, 16, 17, 28, 29, 30, 42] (.cond (.tmp 42) (.keep [9, 17] (.seq (.ops f8r10)
  (.keep [8, 9, 10] .ret))) .skip)))
  (.keep [9, 11, 12, 15, 16, 28, 29, 30] (.draw f8r11 [(0, 2, false), (0, 1, false), (0, 0, false), (0, 1, true), (1, 2, true), (2, 3, true), (3, 3, false)]))))))))
  (.keep [9, 11, 12, 28, 29, 30] (.ops f8r12)))))))

def f8r14 : List AInstr := [
    ⟨(some 51), none, .mov (.tmp 12)⟩,
    ⟨(some 52), none, .load (some 6) (.tmp 11)⟩,
    ⟨(some 8), none, .mov (.tmp 51)⟩,
    ⟨none, none, .store 6 (.tmp 9) (.tmp 52)⟩,
    ⟨(some 10), none, .mov (.const (.int .i64 0))⟩]

def f8b : ACode := (.seq (.ops f8r0)
  (.keep [0, 1, 2, 3, 9] (.seq (.ops f8r1)
  (.keep [3, 9, 11] (.seq (.seq (.ops f8r2)
  (.keep [3, 9, 11, 26] (.cond (.tmp 26) (.keep [9] (.seq (.ops f8r3)
  (.keep [8, 9, 10] .ret))) .skip)))
  (.keep [3, 9, 11] (.seq (.ops f8r4)
  (.keep [3, 9, 11, 12] (.seq (.seq (.ops f8r5)
  (.keep [9, 11, 12, 28, 29, 30] (.block 0 (.loop f8l0))))
  (.keep [9, 11, 12] (.seq (.draw f8r14 [(0, 0, false), (0, 0, false), (0, 0, false), (0, 1, true), (1, 1, false)])
  (.keep [8, 9, 10] .ret))))))))))))

def f8 : AFn := ⟨53, [.tmp 8, .cell 9 (some 6), .tmp 10], f8b⟩

theorem f8_ok : compFn Try.prog 8 = some f8.strip := by kernel_rfl

/- function 9: weirhouse/meter.Colour; parameters 3; operations that are not compiled: 0 -/
def f9r0 : List AInstr := [
    ⟨(some 3), none, .box (.tmp 0)⟩,
    ⟨(some 4), none, .box (.tmp 1)⟩,
    ⟨(some 6), none, .alloc [.int .i64 0, .int .i64 0, .int .i64 0, .int .i64 0, .int .i64 0, .int .i64 0]⟩,
    ⟨(some 7), none, .mov (.const (.int .i64 0))⟩,
    ⟨(some 8), none, .mov (.const (.int .i64 0))⟩]

def f9r1 : List AInstr := [
    ⟨(some 9), none, .mov (.const (.func (.func 12) #[] #[]))⟩]

def f9r2 : List AInstr := [
    ⟨(some 15), none, .load (some 6) (.tmp 3)⟩,
    ⟨(some 16), none, .callF 10 [.tmp 15]⟩,
    ⟨(some 17), none, .un .not (.tmp 16)⟩,
    ⟨(some 14), none, .mov (.tmp 17)⟩]

def f9r3 : List AInstr := [
    ⟨(some 18), none, .mov (.tmp 9)⟩,
    ⟨(some 19), none, .callV (.tmp 18) [.const (.int .i64 1)]⟩,
    ⟨(some 20), none, .extract 0 (.tmp 19)⟩,
    ⟨(some 21), none, .extract 1 (.tmp 19)⟩,
    ⟨(some 22), none, .extract 2 (.tmp 19)⟩,
    ⟨none, none, .store 6 (.tmp 6) (.tmp 20)⟩,
    ⟨(some 7), none, .mov (.tmp 21)⟩,
    ⟨(some 8), none, .mov (.tmp 22)⟩]

def f9r4 : List AInstr := [
    ⟨(some 24), none, .mov (.tmp 2)⟩,
    ⟨(some 25), none, .ibin .lss (.tmp 24) (.const (.int .i64 1))⟩,
    ⟨(some 26), none, .mov (.tmp 25)⟩,
    ⟨(some 27), (some (26, false)), .mov (.tmp 2)⟩,
    ⟨(some 28), (some (26, false)), .ibin .gtr (.tmp 27) (.const (.int .i64 3))⟩,
    ⟨(some 29), none, .pick (.tmp 26) (.const (.bool true)) (.tmp 28)⟩,
    ⟨(some 23), none, .mov (.tmp 29)⟩]

def f9r5 : List AInstr := [
    ⟨(some 30), none, .mov (.tmp 9)⟩,
    ⟨(some 31), none, .callV (.tmp 30) [.const (.int .i64 5)]⟩,
    ⟨(some 32), none, .extract 0 (.tmp 31)⟩,
    ⟨(some 33), none, .extract 1 (.tmp 31)⟩,
    ⟨(some 34), none, .extract 2 (.tmp 31)⟩,
    ⟨none, none, .store 6 (.tmp 6) (.tmp 32)⟩,
    ⟨(some 7), none, .mov (.tmp 33)⟩,
    ⟨(some 8), none, .mov (.tmp 34)⟩]

def f9r6 : List AInstr := [
    ⟨(some 36), none, .fieldAddr 0 (.tmp 4)⟩,
    ⟨(some 37), none, .load none (.tmp 36)⟩,
    ⟨(some 38), none, .fieldAddr 5 (.tmp 3)⟩,
    ⟨(some 39), none, .load none (.tmp 38)⟩,
    ⟨(some 40), none, .ibin .lss (.tmp 37) (.tmp 39)⟩,
    ⟨(some 41), none, .mov (.tmp 40)⟩,
    ⟨(some 42), (some (41, false)), .fieldAddr 0 (.tmp 4)⟩,
    ⟨(some 43), (some (41, false)), .load none (.tmp 42)⟩,
    ⟨(some 44), (some (41, false)), .ibin .gtr (.tmp 43) (.const (.int .i64 1099511627776))⟩,
    ⟨(some 45), none, .pick (.tmp 41) (.const (.bool true)) (.tmp 44)⟩,
    ⟨(some 46), none, .mov (.tmp 45)⟩,
    ⟨(some 47), (some (46, false)), .fieldAddr 1 (.tmp 4)⟩,
    ⟨(some 48), (some (46, false)), .load none (.tmp 47)⟩,
    ⟨(some 49), (some (46, false)), .ibin .lss (.tmp 48) (.const (.int .i64 0))⟩,
    ⟨(some 50), none, .pick (.tmp 46) (.const (.bool true)) (.tmp 49)⟩,
    ⟨(some 51), none, .mov (.tmp 50)⟩,
    ⟨(some 52), (some (51, false)), .fieldAddr 1 (.tmp 4)⟩,
    ⟨(some 53), (some (51, false)), .load none (.tmp 52)⟩,
    ⟨(some 54), (some (51, false)), .ibin .gtr (.tmp 53) (.const (.int .i64 1048576))⟩,
    ⟨(some 55), none, .pick (.tmp 51) (.const (.bool true)) (.tmp 54)⟩,
    ⟨(some 35), none, .mov (.tmp 55)⟩]

def f9r7 : List AInstr := [
    ⟨(some 56), none, .mov (.tmp 9)⟩,
    ⟨(some 57), none, .callV (.tmp 56) [.const (.int .i64 2)]⟩,
    ⟨(some 58), none, .extract 0 (.tmp 57)⟩,
    ⟨(some 59), none, .extract 1 (.tmp 57)⟩,
    ⟨(some 60), none, .extract 2 (.tmp 57)⟩,
    ⟨none, none, .store 6 (.tmp 6) (.tmp 58)⟩,
    ⟨(some 7), none, .mov (.tmp 59)⟩,
    ⟨(some 8), none, .mov (.tmp 60)⟩]

def f9r8 : List AInstr := [
    ⟨(some 61), none, .fieldAddr 1 (.tmp 3)⟩,
    ⟨(some 62), none, .load none (.tmp 61)⟩,
    ⟨(some 63), none, .fieldAddr 3 (.tmp 3)⟩,
    ⟨(some 64), none, .load none (.tmp 63)⟩,
    ⟨(some 65), none, .ibin .sub (.tmp 62) (.tmp 64)⟩,
    ⟨(some 66), none, .fieldAddr 2 (.tmp 3)⟩,
    ⟨(some 67), none, .load none (.tmp 66)⟩,
    ⟨(some 68), none, .ibin .add (.tmp 65) (.tmp 67)⟩,
    ⟨(some 69), none, .fieldAddr 4 (.tmp 3)⟩,
    ⟨(some 70), none, .load none (.tmp 69)⟩,
    ⟨(some 71), none, .ibin .sub (.tmp 68) (.tmp 70)⟩,
    ⟨(some 10), none, .mov (.tmp 71)⟩]

def f9r9 : List AInstr := [
    ⟨(some 72), none, .mov (.tmp 10)⟩,
    ⟨(some 11), none, .mov (.tmp 72)⟩]

def f9r10 : List AInstr := [
    ⟨(some 73), none, .fieldAddr 0 (.tmp 4)⟩,
    ⟨(some 74), none, .load none (.tmp 73)⟩,
    ⟨(some 75), none, .fieldAddr 5 (.tmp 3)⟩,
    ⟨(some 76), none, .load none (.tmp 75)⟩,
    ⟨(some 77), none, .ibin .sub (.tmp 74) (.tmp 76)⟩,
    ⟨(some 12), none, .mov (.tmp 77)⟩]

def f9r11 : List AInstr := [
    ⟨(some 78), none, .fieldAddr 0 (.tmp 3)⟩,
    ⟨(some 79), none, .load none (.tmp 78)⟩,
    ⟨(some 80), none, .ibin .eql (.tmp 79) (.const (.int .i64 0))⟩,
    ⟨(some 81), none, .mov (.tmp 80)⟩,
    ⟨(some 82), (some (81, false)), .mov (.tmp 12)⟩,
    ⟨(some 83), (some (81, false)), .mov (.tmp 10)⟩,
    ⟨(some 84), (some (81, false)), .fieldAddr 0 (.tmp 3)⟩,
    ⟨(some 85), (some (81, false)), .load none (.tmp 84)⟩,
    ⟨(some 86), (some (81, false)), .ibin .quo (.tmp 83) (.tmp 85)⟩,
    ⟨(some 87), (some (81, false)), .ibin .leq (.tmp 82) (.tmp 86)⟩,
    ⟨(some 88), none, .pick (.tmp 81) (.const (.bool true)) (.tmp 87)⟩]

def f9r12 : List AInstr := [
    ⟨(some 89), none, .mov (.tmp 12)⟩,
    ⟨(some 90), none, .fieldAddr 0 (.tmp 3)⟩,
    ⟨(some 91), none, .load none (.tmp 90)⟩,
    ⟨(some 92), none, .ibin .mul (.tmp 89) (.tmp 91)⟩,
    ⟨(some 93), none, .mov (.tmp 10)⟩,
    ⟨(some 94), none, .minmax false [.tmp 92, .tmp 93]⟩,
    ⟨(some 11), none, .mov (.tmp 94)⟩]

def f9r13 : List AInstr := [
    ⟨(some 95), none, .mov (.tmp 11)⟩,
    ⟨(some 96), none, .fieldAddr 1 (.tmp 3)⟩,
    ⟨(some 97), none, .load none (.tmp 96)⟩,
    ⟨(some 98), none, .fieldAddr 3 (.tmp 3)⟩,
    ⟨(some 99), none, .load none (.tmp 98)⟩,
    ⟨(some 100), none, .ibin .sub (.tmp 97) (.tmp 99)⟩,
    ⟨(some 101), none, .minmax false [.tmp 95, .tmp 100]⟩,
    ⟨(some 13), none, .mov (.tmp 101)⟩]

def f9r14 : List AInstr := [
    ⟨(some 102), none, .fieldAddr 3 (.tmp 3)⟩,
    ⟨(some 103), none, .load none (.tmp 102)⟩,
    ⟨(some 104), none, .mov (.tmp 13)⟩,
    ⟨(some 105), none, .ibin .add (.tmp 103) (.tmp 104)⟩,
    ⟨(some 106), none, .fieldAddr 3 (.tmp 3)⟩,
    ⟨none, none, .store 1 (.tmp 106) (.tmp 105)⟩]

def f9r15 : List AInstr := [
    ⟨(some 107), none, .fieldAddr 4 (.tmp 3)⟩,
    ⟨(some 108), none, .load none (.tmp 107)⟩,
    ⟨(some 109), none, .mov (.tmp 11)⟩,
    ⟨(some 110), none, .mov (.tmp 13)⟩,
    ⟨(some 111), none, .ibin .sub (.tmp 109) (.tmp 110)⟩,
    ⟨(some 112), none, .ibin .add (.tmp 108) (.tmp 111)⟩,
    ⟨(some 113), none, .fieldAddr 4 (.tmp 3)⟩,
    ⟨none, none, .store 1 (.tmp 113) (.tmp 112)⟩]

def f9r16 : List AInstr := [
    ⟨(some 114), none, .fieldAddr 0 (.tmp 4)⟩,
    ⟨(some 115), none, .load none (.tmp 114)⟩,
    ⟨(some 116), none, .fieldAddr 5 (.tmp 3)⟩,
    ⟨none, none, .store 1 (.tmp 116) (.tmp 115)⟩]

def f9r17 : List AInstr := [
    ⟨(some 118), none, .mov (.tmp 2)⟩,
    ⟨(some 119), none, .ibin .eql (.tmp 118) (.const (.int .i64 1))⟩,
    ⟨(some 120), none, .mov (.tmp 119)⟩,
    ⟨(some 121), (some (120, true)), .fieldAddr 1 (.tmp 4)⟩,
    ⟨(some 122), (some (120, true)), .load none (.tmp 121)⟩,
    ⟨(some 123), (some (120, true)), .fieldAddr 3 (.tmp 3)⟩,
    ⟨(some 124), (some (120, true)), .load none (.tmp 123)⟩,
    ⟨(some 125), (some (120, true)), .ibin .leq (.tmp 122) (.tmp 124)⟩,
    ⟨(some 126), none, .pick (.tmp 120) (.tmp 125) (.const (.bool false))⟩,
    ⟨(some 117), none, .mov (.tmp 126)⟩]

def f9r18 : List AInstr := [
    ⟨(some 127), none, .fieldAddr 3 (.tmp 3)⟩,
    ⟨(some 128), none, .load none (.tmp 127)⟩,
    ⟨(some 129), none, .fieldAddr 1 (.tmp 4)⟩,
    ⟨(some 130), none, .load none (.tmp 129)⟩,
    ⟨(some 131), none, .ibin .sub (.tmp 128) (.tmp 130)⟩,
    ⟨(some 132), none, .fieldAddr 3 (.tmp 3)⟩,
    ⟨none, none, .store 1 (.tmp 132) (.tmp 131)⟩]

def f9r19 : List AInstr := [
    ⟨(some 133), none, .load (some 6) (.tmp 3)⟩,
    ⟨none, none, .store 6 (.tmp 6) (.tmp 133)⟩,
    ⟨(some 7), none, .mov (.const (.int .i64 1))⟩,
    ⟨(some 8), none, .mov (.const (.int .i64 0))⟩]

def f9r20 : List AInstr := [
    ⟨(some 135), none, .mov (.tmp 2)⟩,
    ⟨(some 136), none, .ibin .leq (.tmp 135) (.const (.int .i64 2))⟩,
    ⟨(some 137), none, .mov (.tmp 136)⟩,
    ⟨(some 138), (some (137, true)), .fieldAddr 1 (.tmp 4)⟩,
    ⟨(some 139), (some (137, true)), .load none (.tmp 138)⟩,
    ⟨(some 140), (some (137, true)), .fieldAddr 4 (.tmp 3)⟩,
    ⟨(some 141), (some (137, true)), .load none (.tmp 140)⟩,
    ⟨(some 142), (some (137, true)), .ibin .leq (.tmp 139) (.tmp 141)⟩,
    ⟨(some 143), none, .pick (.tmp 137) (.tmp 142) (.const (.bool false))⟩,
    ⟨(some 134), none, .mov (.tmp 143)⟩]

def f9r21 : List AInstr := [
    ⟨(some 144), none, .fieldAddr 4 (.tmp 3)⟩,
    ⟨(some 145), none, .load none (.tmp 144)⟩,
    ⟨(some 146), none, .fieldAddr 1 (.tmp 4)⟩,
    ⟨(some 147), none, .load none (.tmp 146)⟩,
    ⟨(some 148), none, .ibin .sub (.tmp 145) (.tmp 147)⟩,
    ⟨(some 149), none, .fieldAddr 4 (.tmp 3)⟩,
    ⟨none, none, .store 1 (.tmp 149) (.tmp 148)⟩]

def f9r22 : List AInstr := [
    ⟨(some 150), none, .load (some 6) (.tmp 3)⟩,
    ⟨none, none, .store 6 (.tmp 6) (.tmp 150)⟩,
    ⟨(some 7), none, .mov (.const (.int .i64 2))⟩,
    ⟨(some 8), none, .mov (.const (.int .i64 0))⟩]

def f9r23 : List AInstr := [
    ⟨(some 151), none, .load (some 6) (.tmp 3)⟩,
    ⟨none, none, .store 6 (.tmp 6) (.tmp 151)⟩,
    ⟨(some 7), none, .mov (.const (.int .i64 3))⟩,
    ⟨(some 8), none, .mov (.const (.int .i64 0))⟩]

def f9b : ACode := (.seq (.ops f9r0)
  (.keep [2, 3, 4, 6] (.seq (.ops f9r1)
  (.keep [2, 3, 4, 6, 9] (.seq (.block 0 (.seq (.ops f9r2)
  (.keep [2, 3, 4, 6, 9, 14] (.cond (.tmp 14) (.keep [6, 9] (.seq (.ops f9r3)
  (.keep [6, 7, 8] .ret))) (.keep [2, 3, 4, 6, 9] (.seq (.ops f9r4)
  (.keep [2, 3, 4, 6, 9, 23] (.cond (.tmp 23) (.keep [6, 9] (.seq (.ops f9r5)
  (.keep [6, 7, 8] .ret))) (.keep [2, 3, 4, 6, 9] (.seq (.ops f9r6)
  (.keep [2, 3, 4, 6, 9, 35] (.cond (.tmp 35) (.keep [6, 9] (.seq (.ops f9r7)
  (.keep [6, 7, 8] .ret))) .skip))))))))))))
  (.keep [2, 3, 4, 6] (.seq (.ops f9r8)
  (.keep [2, 3, 4, 6, 10] (.seq (.ops f9r9)
  (.keep [2, 3, 4, 6, 10, 11] (.seq (.seq (.ops f9r10)
  (.keep [2, 3, 4, 6, 10, 11, 12] (.seq (.ops f9r11)
  (.keep [2, 3, 4, 6, 10, 11, 12, 88] (.cond (.tmp 88) (.keep [2, 3, 4, 6, 10, 12] (.ops f9r12)) .skip)))))
  (.keep [2, 3, 4, 6, 11] (.seq (.ops f9r13)
  (.keep [2, 3, 4, 6, 11, 13] (.seq (.ops f9r14)
  (.keep [2, 3, 4, 6, 11, 13] (.seq (.ops f9r15)
  (.keep [2, 3, 4, 6] (.seq (.ops f9r16)
  (.keep [2, 3, 4, 6] (.seq (.block 1 (.seq (.ops f9r17)
  (.keep [2, 3, 4, 6, 117] (.cond (.tmp 117) (.keep [3, 4, 6] (.seq (.ops f9r18)
  (.keep [3, 6] (.seq (.ops f9r19)
  (.keep [6, 7, 8] .ret))))) (.keep [2, 3, 4, 6] (.seq (.ops f9r20)
  (.keep [3, 4, 6, 134] (.cond (.tmp 134) (.keep [3, 4, 6] (.seq (.ops f9r21)
  (.keep [3, 6] (.seq (.ops f9r22)
  (.keep [6, 7, 8] .ret))))) .skip))))))))
  (.keep [3, 6] (.seq (.ops f9r23)
  (.keep [6, 7, 8] .ret))))))))))))))))))))))))

def f9 : AFn := ⟨152, [.cell 6 (some 6), .tmp 7, .tmp 8], f9b⟩

theorem f9_ok : compFn Try.prog 9 = some f9.strip := by kernel_rfl

/- function 10: weirhouse/meter.Right; parameters 1; operations that are not compiled: 0 -/
def f10r0 : List AInstr := [
    ⟨(some 1), none, .box (.tmp 0)⟩,
    ⟨(some 2), none, .mov (.const (.bool false))⟩]

def f10r1 : List AInstr := [
    ⟨(some 3), none, .mov (.const (.func (.func 13) #[] #[]))⟩]

def f10r2 : List AInstr := [
    ⟨(some 4), none, .mov (.tmp 3)⟩,
    ⟨(some 5), none, .fieldAddr 0 (.tmp 1)⟩,
    ⟨(some 6), none, .load none (.tmp 5)⟩,
    ⟨(some 7), none, .callV (.tmp 4) [.tmp 6, .const (.int .i64 1048576)]⟩,
    ⟨(some 8), none, .mov (.tmp 7)⟩,
    ⟨(some 9), (some (8, true)), .mov (.tmp 3)⟩,
    ⟨(some 10), (some (8, true)), .fieldAddr 1 (.tmp 1)⟩,
    ⟨(some 11), (some (8, true)), .load none (.tmp 10)⟩,
    ⟨(some 12), (some (8, true)), .callV (.tmp 9) [.tmp 11, .const (.int .i64 1048576)]⟩,
    ⟨(some 13), none, .pick (.tmp 8) (.tmp 12) (.const (.bool false))⟩,
    ⟨(some 14), none, .mov (.tmp 13)⟩,
    ⟨(some 15), (some (14, true)), .mov (.tmp 3)⟩,
    ⟨(some 16), (some (14, true)), .fieldAddr 2 (.tmp 1)⟩,
    ⟨(some 17), (some (14, true)), .load none (.tmp 16)⟩,
    ⟨(some 18), (some (14, true)), .callV (.tmp 15) [.tmp 17, .const (.int .i64 1048576)]⟩,
    ⟨(some 19), none, .pick (.tmp 14) (.tmp 18) (.const (.bool false))⟩,
    ⟨(some 20), none, .mov (.tmp 19)⟩,
    ⟨(some 21), (some (20, true)), .mov (.tmp 3)⟩,
    ⟨(some 22), (some (20, true)), .fieldAddr 3 (.tmp 1)⟩,
    ⟨(some 23), (some (20, true)), .load none (.tmp 22)⟩,
    ⟨(some 24), (some (20, true)), .fieldAddr 1 (.tmp 1)⟩,
    ⟨(some 25), (some (20, true)), .load none (.tmp 24)⟩,
    ⟨(some 26), (some (20, true)), .callV (.tmp 21) [.tmp 23, .tmp 25]⟩,
    ⟨(some 27), none, .pick (.tmp 20) (.tmp 26) (.const (.bool false))⟩,
    ⟨(some 28), none, .mov (.tmp 27)⟩,
    ⟨(some 29), (some (28, true)), .mov (.tmp 3)⟩,
    ⟨(some 30), (some (28, true)), .fieldAddr 4 (.tmp 1)⟩,
    ⟨(some 31), (some (28, true)), .load none (.tmp 30)⟩,
    ⟨(some 32), (some (28, true)), .fieldAddr 2 (.tmp 1)⟩,
    ⟨(some 33), (some (28, true)), .load none (.tmp 32)⟩,
    ⟨(some 34), (some (28, true)), .callV (.tmp 29) [.tmp 31, .tmp 33]⟩,
    ⟨(some 35), none, .pick (.tmp 28) (.tmp 34) (.const (.bool false))⟩,
    ⟨(some 36), none, .mov (.tmp 35)⟩,
    ⟨(some 37), (some (36, true)), .mov (.tmp 3)⟩,
    ⟨(some 38), (some (36, true)), .fieldAddr 5 (.tmp 1)⟩,
    ⟨(some 39), (some (36, true)), .load none (.tmp 38)⟩,
    ⟨(some 40), (some (36, true)), .callV (.tmp 37) [.tmp 39, .const (.int .i64 1099511627776)]⟩,
    ⟨(some 41), none, .pick (.tmp 36) (.tmp 40) (.const (.bool false))⟩,
    ⟨(some 2), none, .mov (.tmp 41)⟩]

def f10b : ACode := (.seq (.ops f10r0)
  (.keep [1] (.seq (.ops f10r1)
  (.keep [1, 3] (.seq (.ops f10r2)
  (.keep [2] .ret))))))

def f10 : AFn := ⟨42, [.tmp 2], f10b⟩

theorem f10_ok : compFn Try.prog 10 = some f10.strip := by kernel_rfl

/- function 11: slices.Equal[[]int,int]; parameters 2; operations that are not compiled: 0 -/
def f11r0 : List AInstr := [
    ⟨(some 4), none, .mov (.const (.bool false))⟩]

def f11r1 : List AInstr := [
    ⟨(some 6), none, .mov (.tmp 0)⟩,
    ⟨(some 7), none, .len (.tmp 6)⟩,
    ⟨(some 8), none, .mov (.tmp 1)⟩,
    ⟨(some 9), none, .len (.tmp 8)⟩,
    ⟨(some 10), none, .ibin .neq (.tmp 7) (.tmp 9)⟩]

def f11r2 : List AInstr := [
    ⟨(some 4), none, .mov (.const (.bool false))⟩]

def f11r3 : List AInstr := [
    ⟨(some 11), none, .mov (.tmp 0)⟩,
    ⟨(some 12), none, .len (.tmp 11)⟩,
    ⟨(some 13), none, .mov (.const (.int .i64 0))⟩]

def f11r4 : List AInstr := [
    ⟨(some 14), none, .ibin .lss (.tmp 13) (.tmp 12)⟩]

def f11r5 : List AInstr := [
    ⟨(some 15), none, .mov (.tmp 13)⟩,
    ⟨(some 5), none, .mov (.tmp 15)⟩]

def f11r6 : List AInstr := [
    ⟨(some 16), none, .mov (.tmp 0)⟩,
    ⟨(some 17), none, .mov (.tmp 5)⟩,
    ⟨(some 18), none, .indexAddr 1 (.tmp 16) (.tmp 17)⟩,
    ⟨(some 19), none, .load none (.tmp 18)⟩,
    ⟨(some 20), none, .mov (.tmp 1)⟩,
    ⟨(some 21), none, .mov (.tmp 5)⟩,
    ⟨(some 22), none, .indexAddr 1 (.tmp 20) (.tmp 21)⟩,
    ⟨(some 23), none, .load none (.tmp 22)⟩,
    ⟨(some 24), none, .ibin .neq (.tmp 19) (.tmp 23)⟩]

def f11r7 : List AInstr := [
    ⟨(some 4), none, .mov (.const (.bool false))⟩]

def f11r8 : List AInstr := [
    ⟨(some 25), none, .ibin .add (.tmp 13) (.const (.int .i64 1))⟩,
    ⟨(some 13), none, .mov (.tmp 25)⟩]

/-- live: [0, 1, 12, 13] -/
def f11l0 : ACode := (.seq (.ops f11r4)
  (.keep [0, 1, 12, 13, 14] (.seq (.cond (.tmp 14) .skip (.exit 0))
  (.keep [0, 1, 12, 13] (.seq (.block 1 (.seq (.ops f11r5)
  (.keep [0, 1, 5, 12, 13] (.seq (.draw f11r6 [(0, 0, false), (0, 0, false), (0, 0, false), (0, 0, false), (0, 0, false), (0, 0, false), (0, 0, false), (0, 0, false), (0, 0, false)])
  (.keep [0, 1, 12, 13, 24] (.cond (.tmp 24) (.keep [] (.seq (.ops f11r7)
  (.keep [4] .ret))) .skip))))))
  (.keep [0, 1, 12, 13] (.ops f11r8)))))))

def f11r10 : List AInstr := [
    ⟨(some 4), none, .mov (.const (.bool true))⟩]

def f11b : ACode := (.seq (.ops f11r0)
  (.keep [0, 1] (.seq (.seq (.ops f11r1)
  (.keep [0, 1, 10] (.cond (.tmp 10) (.keep [] (.seq (.ops f11r2)
  (.keep [4] .ret))) .skip)))
  (.keep [0, 1] (.seq (.seq (.ops f11r3)
  (.keep [0, 1, 12, 13] (.block 0 (.loop f11l0))))
  (.keep [] (.seq (.ops f11r10)
  (.keep [4] .ret))))))))

def f11 : AFn := ⟨26, [.tmp 4], f11b⟩

theorem f11_ok : compFn Try.prog 11 = some f11.strip := by kernel_rfl

/- function 12: weirhouse/meter.Colour$1; parameters 1; operations that are not compiled: 0 -/
def f12r0 : List AInstr := [
    ⟨(some 2), none, .alloc [.int .i64 0, .int .i64 0, .int .i64 0, .int .i64 0, .int .i64 0, .int .i64 0]⟩,
    ⟨(some 3), none, .mov (.const (.int .i64 0))⟩,
    ⟨(some 4), none, .mov (.const (.int .i64 0))⟩]

def f12r1 : List AInstr := [
    ⟨(some 5), none, .build [.int .i64 0, .int .i64 0, .int .i64 0, .int .i64 0, .int .i64 0, .int .i64 0] []⟩,
    ⟨(some 6), none, .mov (.tmp 0)⟩,
    ⟨none, none, .store 6 (.tmp 2) (.tmp 5)⟩,
    ⟨(some 3), none, .mov (.const (.int .i64 0))⟩,
    ⟨(some 4), none, .mov (.tmp 6)⟩]

def f12b : ACode := (.seq (.ops f12r0)
  (.keep [0, 2] (.seq (.ops f12r1)
  (.keep [2, 3, 4] .ret))))

def f12 : AFn := ⟨7, [.cell 2 (some 6), .tmp 3, .tmp 4], f12b⟩

theorem f12_ok : compFn Try.prog 12 = some f12.strip := by kernel_rfl

/- function 13: weirhouse/meter.Right$1; parameters 2; operations that are not compiled: 0 -/
def f13r0 : List AInstr := [
    ⟨(some 4), none, .mov (.const (.bool false))⟩]

def f13r1 : List AInstr := [
    ⟨(some 5), none, .mov (.tmp 0)⟩,
    ⟨(some 6), none, .ibin .geq (.tmp 5) (.const (.int .i64 0))⟩,
    ⟨(some 7), none, .mov (.tmp 6)⟩,
    ⟨(some 8), (some (7, true)), .mov (.tmp 0)⟩,
    ⟨(some 9), (some (7, true)), .mov (.tmp 1)⟩,
    ⟨(some 10), (some (7, true)), .ibin .leq (.tmp 8) (.tmp 9)⟩,
    ⟨(some 11), none, .pick (.tmp 7) (.tmp 10) (.const (.bool false))⟩,
    ⟨(some 4), none, .mov (.tmp 11)⟩]

def f13b : ACode := (.seq (.ops f13r0)
  (.keep [0, 1] (.seq (.ops f13r1)
  (.keep [4] .ret))))

def f13 : AFn := ⟨12, [.tmp 4], f13b⟩

theorem f13_ok : compFn Try.prog 13 = some f13.strip := by kernel_rfl

end Go.Proofs.Yteopnmfdncjbhaa
