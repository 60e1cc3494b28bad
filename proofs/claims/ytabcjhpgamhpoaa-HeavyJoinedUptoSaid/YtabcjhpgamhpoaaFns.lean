/-
  The functions of this seat as abstract code. Printed by a program of this claim's writer.
-/
import Derived.Test.YtabcjhpgamhpoaaChecked
import Derived.Test.YtabcjhpgamhpoaaAmS
import Derived.KernelRfl
namespace Go.Proofs.Ytabcjhpgamhpoaa
open Go Go.Am

/- function 3: weirhouse/weirhousekeep.HeavyNear; parameters 3; operations that are not compiled: 0 -/
def f3r0 : List AInstr := [
    ⟨(some 6), none, .mov (.const (.bool false))⟩]

def f3r1 : List AInstr := [
    ⟨(some 11), none, .callF 7 []⟩,
    ⟨(some 12), none, .un .not (.tmp 11)⟩]

def f3r2 : List AInstr := [
    ⟨(some 6), none, .mov (.const (.bool false))⟩]

def f3r3 : List AInstr := [
    ⟨(some 14), none, .mov (.tmp 0)⟩,
    ⟨(some 15), none, .mov (.tmp 1)⟩,
    ⟨(some 16), none, .callF 8 [.tmp 14, .tmp 15]⟩,
    ⟨(some 13), none, .mov (.tmp 16)⟩,
    ⟨(some 17), none, .extract 0 (.tmp 13)⟩,
    ⟨(some 18), none, .extract 1 (.tmp 13)⟩,
    ⟨(some 7), none, .mov (.tmp 17)⟩,
    ⟨(some 8), none, .mov (.tmp 18)⟩]

def f3r4 : List AInstr := [
    ⟨(some 19), none, .mov (.tmp 8)⟩,
    ⟨(some 20), none, .ibin .neq (.tmp 19) (.const (.int .i64 0))⟩]

def f3r5 : List AInstr := [
    ⟨(some 21), none, .mov (.tmp 7)⟩,
    ⟨(some 22), none, .len (.tmp 21)⟩,
    ⟨(some 23), none, .ibin .eql (.tmp 22) (.const (.int .i64 0))⟩,
    ⟨(some 6), none, .mov (.tmp 23)⟩]

def f3r6 : List AInstr := [
    ⟨(some 24), none, .mov (.tmp 1)⟩,
    ⟨(some 25), none, .mov (.tmp 2)⟩,
    ⟨(some 26), none, .callF 9 [.tmp 24, .tmp 25]⟩,
    ⟨(some 27), none, .mov (.tmp 7)⟩,
    ⟨(some 28), none, .mov (.tmp 2)⟩,
    ⟨(some 29), none, .callF 10 [.tmp 27, .tmp 28]⟩,
    ⟨(some 9), none, .mov (.tmp 26)⟩,
    ⟨(some 10), none, .mov (.tmp 29)⟩]

def f3r7 : List AInstr := [
    ⟨(some 30), none, .mov (.tmp 10)⟩,
    ⟨(some 31), none, .mov (.tmp 9)⟩,
    ⟨(some 32), none, .ibin .leq (.tmp 30) (.tmp 31)⟩,
    ⟨(some 33), none, .mov (.tmp 32)⟩,
    ⟨(some 34), (some (33, true)), .mov (.tmp 9)⟩,
    ⟨(some 35), (some (33, true)), .mov (.tmp 10)⟩,
    ⟨(some 36), (some (33, true)), .ibin .sub (.tmp 34) (.tmp 35)⟩,
    ⟨(some 37), (some (33, true)), .mov (.tmp 0)⟩,
    ⟨(some 38), (some (33, true)), .ibin .add (.tmp 37) (.const (.int .i64 1))⟩,
    ⟨(some 39), (some (33, true)), .ibin .mul (.tmp 36) (.tmp 38)⟩,
    ⟨(some 40), (some (33, true)), .mov (.tmp 1)⟩,
    ⟨(some 41), (some (33, true)), .len (.tmp 40)⟩,
    ⟨(some 42), (some (33, true)), .ibin .leq (.tmp 39) (.tmp 41)⟩,
    ⟨(some 43), none, .pick (.tmp 33) (.tmp 42) (.const (.bool false))⟩,
    ⟨(some 44), none, .mov (.tmp 43)⟩,
    ⟨(some 45), (some (44, true)), .mov (.tmp 0)⟩,
    ⟨(some 46), (some (44, true)), .mov (.tmp 7)⟩,
    ⟨(some 47), (some (44, true)), .callF 11 [.tmp 45, .tmp 46]⟩,
    ⟨(some 48), none, .pick (.tmp 44) (.tmp 47) (.const (.bool false))⟩,
    ⟨(some 6), none, .mov (.tmp 48)⟩]

def f3b : ACode := (.seq (.ops f3r0)
  (.keep [0, 1, 2] (.seq (.seq (.ops f3r1)
  (.keep [0, 1, 2, 12] (.cond (.tmp 12) (.keep [] (.seq (.ops f3r2)
  (.keep [6] .ret))) .skip)))
  (.keep [0, 1, 2] (.seq (.ops f3r3)
  (.keep [0, 1, 2, 7, 8] (.seq (.seq (.ops f3r4)
  (.keep [0, 1, 2, 7, 20] (.cond (.tmp 20) (.keep [7] (.seq (.ops f3r5)
  (.keep [6] .ret))) .skip)))
  (.keep [0, 1, 2, 7] (.seq (.ops f3r6)
  (.keep [0, 1, 7, 9, 10] (.seq (.ops f3r7)
  (.keep [6] .ret))))))))))))

def f3 : AFn := ⟨49, [.tmp 6], f3b⟩

theorem f3_ok : compFn Try.prog 3 = some f3.strip := by kernel_rfl

/- function 4: weirhouse/weirhousekeep.HeavyJoined; parameters 4; operations that are not compiled: 0 -/
def f4r0 : List AInstr := [
    ⟨(some 8), none, .mov (.const (.bool false))⟩]

def f4r1 : List AInstr := [
    ⟨(some 19), none, .callF 7 []⟩,
    ⟨(some 20), none, .un .not (.tmp 19)⟩]

def f4r2 : List AInstr := [
    ⟨(some 8), none, .mov (.const (.bool false))⟩]

def f4r3 : List AInstr := [
    ⟨(some 22), none, .mov (.tmp 0)⟩,
    ⟨(some 23), none, .mov (.tmp 1)⟩,
    ⟨(some 24), none, .callF 8 [.tmp 22, .tmp 23]⟩,
    ⟨(some 21), none, .mov (.tmp 24)⟩,
    ⟨(some 25), none, .extract 0 (.tmp 21)⟩,
    ⟨(some 26), none, .extract 1 (.tmp 21)⟩,
    ⟨(some 9), none, .mov (.tmp 25)⟩,
    ⟨(some 10), none, .mov (.tmp 26)⟩]

def f4r4 : List AInstr := [
    ⟨(some 28), none, .mov (.tmp 0)⟩,
    ⟨(some 29), none, .mov (.tmp 2)⟩,
    ⟨(some 30), none, .callF 8 [.tmp 28, .tmp 29]⟩,
    ⟨(some 27), none, .mov (.tmp 30)⟩,
    ⟨(some 31), none, .extract 0 (.tmp 27)⟩,
    ⟨(some 32), none, .extract 1 (.tmp 27)⟩,
    ⟨(some 11), none, .mov (.tmp 31)⟩,
    ⟨(some 12), none, .mov (.tmp 32)⟩]

def f4r5 : List AInstr := [
    ⟨(some 33), none, .mov (.tmp 10)⟩,
    ⟨(some 34), none, .ibin .neq (.tmp 33) (.const (.int .i64 0))⟩,
    ⟨(some 35), none, .mov (.tmp 34)⟩,
    ⟨(some 36), (some (35, false)), .mov (.tmp 12)⟩,
    ⟨(some 37), (some (35, false)), .ibin .neq (.tmp 36) (.const (.int .i64 0))⟩,
    ⟨(some 38), none, .pick (.tmp 35) (.const (.bool true)) (.tmp 37)⟩]

def f4r6 : List AInstr := [
    ⟨(some 8), none, .mov (.const (.bool true))⟩]

def f4r7 : List AInstr := [
    ⟨(some 40), none, .mov (.tmp 0)⟩,
    ⟨(some 41), none, .mov (.tmp 9)⟩,
    ⟨(some 42), none, .mov (.tmp 11)⟩,
    ⟨(some 43), none, .callF 12 [.tmp 40, .tmp 41, .tmp 42]⟩,
    ⟨(some 39), none, .mov (.tmp 43)⟩,
    ⟨(some 44), none, .extract 0 (.tmp 39)⟩,
    ⟨(some 45), none, .extract 1 (.tmp 39)⟩,
    ⟨(some 13), none, .mov (.tmp 44)⟩,
    ⟨(some 14), none, .mov (.tmp 45)⟩]

def f4r8 : List AInstr := [
    ⟨(some 47), none, .mov (.tmp 0)⟩,
    ⟨(some 48), none, .mov (.tmp 11)⟩,
    ⟨(some 49), none, .mov (.tmp 9)⟩,
    ⟨(some 50), none, .callF 12 [.tmp 47, .tmp 48, .tmp 49]⟩,
    ⟨(some 46), none, .mov (.tmp 50)⟩,
    ⟨(some 51), none, .extract 0 (.tmp 46)⟩,
    ⟨(some 52), none, .extract 1 (.tmp 46)⟩,
    ⟨(some 15), none, .mov (.tmp 51)⟩,
    ⟨(some 16), none, .mov (.tmp 52)⟩]

def f4r9 : List AInstr := [
    ⟨(some 53), none, .mov (.tmp 1)⟩,
    ⟨(some 54), none, .mov (.tmp 3)⟩,
    ⟨(some 55), none, .callF 9 [.tmp 53, .tmp 54]⟩,
    ⟨(some 56), none, .mov (.tmp 2)⟩,
    ⟨(some 57), none, .mov (.tmp 3)⟩,
    ⟨(some 58), none, .callF 9 [.tmp 56, .tmp 57]⟩,
    ⟨(some 59), none, .ibin .add (.tmp 55) (.tmp 58)⟩,
    ⟨(some 60), none, .mov (.tmp 13)⟩,
    ⟨(some 61), none, .mov (.tmp 3)⟩,
    ⟨(some 62), none, .callF 10 [.tmp 60, .tmp 61]⟩,
    ⟨(some 17), none, .mov (.tmp 59)⟩,
    ⟨(some 18), none, .mov (.tmp 62)⟩]

def f4r10 : List AInstr := [
    ⟨(some 63), none, .mov (.tmp 14)⟩,
    ⟨(some 64), none, .ibin .eql (.tmp 63) (.const (.int .i64 0))⟩,
    ⟨(some 65), none, .mov (.tmp 64)⟩,
    ⟨(some 66), (some (65, true)), .mov (.tmp 16)⟩,
    ⟨(some 67), (some (65, true)), .ibin .eql (.tmp 66) (.const (.int .i64 0))⟩,
    ⟨(some 68), none, .pick (.tmp 65) (.tmp 67) (.const (.bool false))⟩,
    ⟨(some 69), none, .mov (.tmp 68)⟩,
    ⟨(some 70), (some (69, true)), .mov (.tmp 13)⟩,
    ⟨(some 71), (some (69, true)), .mov (.tmp 15)⟩,
    ⟨(some 72), (some (69, true)), .callF 13 [.tmp 70, .tmp 71]⟩,
    ⟨(some 73), none, .pick (.tmp 69) (.tmp 72) (.const (.bool false))⟩,
    ⟨(some 74), none, .mov (.tmp 73)⟩,
    ⟨(some 75), (some (74, true)), .mov (.tmp 18)⟩,
    ⟨(some 76), (some (74, true)), .mov (.tmp 17)⟩,
    ⟨(some 77), (some (74, true)), .ibin .leq (.tmp 75) (.tmp 76)⟩,
    ⟨(some 78), none, .pick (.tmp 74) (.tmp 77) (.const (.bool false))⟩,
    ⟨(some 79), none, .mov (.tmp 78)⟩,
    ⟨(some 80), (some (79, true)), .mov (.tmp 17)⟩,
    ⟨(some 81), (some (79, true)), .mov (.tmp 18)⟩,
    ⟨(some 82), (some (79, true)), .ibin .sub (.tmp 80) (.tmp 81)⟩,
    ⟨(some 83), (some (79, true)), .mov (.tmp 0)⟩,
    ⟨(some 84), (some (79, true)), .ibin .add (.tmp 83) (.const (.int .i64 1))⟩,
    ⟨(some 85), (some (79, true)), .ibin .mul (.tmp 82) (.tmp 84)⟩,
    ⟨(some 86), (some (79, true)), .mov (.tmp 1)⟩,
    ⟨(some 87), (some (79, true)), .len (.tmp 86)⟩,
    ⟨(some 88), (some (79, true)), .mov (.tmp 2)⟩,
    ⟨(some 89), (some (79, true)), .len (.tmp 88)⟩,
    ⟨(some 90), (some (79, true)), .ibin .add (.tmp 87) (.tmp 89)⟩,
    ⟨(some 91), (some (79, true)), .ibin .leq (.tmp 85) (.tmp 90)⟩,
    ⟨(some 92), none, .pick (.tmp 79) (.tmp 91) (.const (.bool false))⟩,
    ⟨(some 93), none, .mov (.tmp 92)⟩,
    ⟨(some 94), (some (93, true)), .mov (.tmp 0)⟩,
    ⟨(some 95), (some (93, true)), .mov (.tmp 13)⟩,
    ⟨(some 96), (some (93, true)), .callF 11 [.tmp 94, .tmp 95]⟩,
    ⟨(some 97), none, .pick (.tmp 93) (.tmp 96) (.const (.bool false))⟩,
    ⟨(some 8), none, .mov (.tmp 97)⟩]

def f4b : ACode := (.seq (.ops f4r0)
  (.keep [0, 1, 2, 3] (.seq (.seq (.ops f4r1)
  (.keep [0, 1, 2, 3, 20] (.cond (.tmp 20) (.keep [] (.seq (.ops f4r2)
  (.keep [8] .ret))) .skip)))
  (.keep [0, 1, 2, 3] (.seq (.ops f4r3)
  (.keep [0, 1, 2, 3, 9, 10] (.seq (.ops f4r4)
  (.keep [0, 1, 2, 3, 9, 10, 11, 12] (.seq (.seq (.ops f4r5)
  (.keep [0, 1, 2, 3, 9, 11, 38] (.cond (.tmp 38) (.keep [] (.seq (.ops f4r6)
  (.keep [8] .ret))) .skip)))
  (.keep [0, 1, 2, 3, 9, 11] (.seq (.ops f4r7)
  (.keep [0, 1, 2, 3, 9, 11, 13, 14] (.seq (.ops f4r8)
  (.keep [0, 1, 2, 3, 13, 14, 15, 16] (.seq (.ops f4r9)
  (.keep [0, 1, 2, 13, 14, 15, 16, 17, 18] (.seq (.ops f4r10)
  (.keep [8] .ret))))))))))))))))))

def f4 : AFn := ⟨98, [.tmp 8], f4b⟩

theorem f4_ok : compFn Try.prog 4 = some f4.strip := by kernel_rfl

/- function 5: weirhouse/weirhousekeep.HeavyMost; parameters 1; operations that are not compiled: 0 -/
def f5r0 : List AInstr := [
    ⟨(some 2), none, .mov (.const (.bool false))⟩]

def f5r1 : List AInstr := [
    ⟨(some 7), none, .callF 7 []⟩,
    ⟨(some 8), none, .un .not (.tmp 7)⟩]

def f5r2 : List AInstr := [
    ⟨(some 2), none, .mov (.const (.bool false))⟩]

def f5r3 : List AInstr := [
    ⟨(some 10), none, .mov (.tmp 0)⟩,
    ⟨(some 11), none, .callF 8 [.const (.int .i64 1), .tmp 10]⟩,
    ⟨(some 9), none, .mov (.tmp 11)⟩,
    ⟨(some 12), none, .extract 0 (.tmp 9)⟩,
    ⟨(some 13), none, .extract 1 (.tmp 9)⟩,
    ⟨(some 3), none, .mov (.tmp 12)⟩,
    ⟨(some 4), none, .mov (.tmp 13)⟩]

def f5r4 : List AInstr := [
    ⟨(some 14), none, .mov (.tmp 4)⟩,
    ⟨(some 15), none, .ibin .neq (.tmp 14) (.const (.int .i64 0))⟩,
    ⟨(some 16), none, .mov (.tmp 15)⟩,
    ⟨(some 17), (some (16, false)), .mov (.tmp 3)⟩,
    ⟨(some 18), (some (16, false)), .len (.tmp 17)⟩,
    ⟨(some 19), (some (16, false)), .ibin .gtr (.tmp 18) (.const (.int .i64 1))⟩,
    ⟨(some 20), none, .pick (.tmp 16) (.const (.bool true)) (.tmp 19)⟩]

def f5r5 : List AInstr := [
    ⟨(some 2), none, .mov (.const (.bool false))⟩]

def f5r6 : List AInstr := [
    ⟨(some 21), none, .mov (.tmp 0)⟩,
    ⟨(some 22), none, .len (.tmp 21)⟩,
    ⟨(some 23), none, .mov (.const (.int .i64 0))⟩]

def f5r7 : List AInstr := [
    ⟨(some 24), none, .ibin .lss (.tmp 23) (.tmp 22)⟩]

def f5r8 : List AInstr := [
    ⟨(some 25), none, .indexAddr 1 (.tmp 21) (.tmp 23)⟩,
    ⟨(some 26), none, .load none (.tmp 25)⟩,
    ⟨(some 6), none, .mov (.tmp 26)⟩]

def f5r9 : List AInstr := [
    ⟨(some 27), none, .mov (.tmp 0)⟩,
    ⟨(some 28), none, .mov (.tmp 6)⟩,
    ⟨(some 29), none, .callF 9 [.tmp 27, .tmp 28]⟩,
    ⟨(some 30), none, .ibin .mul (.const (.int .i64 2)) (.tmp 29)⟩,
    ⟨(some 31), none, .mov (.tmp 0)⟩,
    ⟨(some 32), none, .len (.tmp 31)⟩,
    ⟨(some 33), none, .ibin .gtr (.tmp 30) (.tmp 32)⟩,
    ⟨(some 34), none, .mov (.tmp 33)⟩,
    ⟨(some 35), (some (34, true)), .mov (.tmp 3)⟩,
    ⟨(some 36), (some (34, true)), .len (.tmp 35)⟩,
    ⟨(some 37), (some (34, true)), .ibin .neq (.tmp 36) (.const (.int .i64 1))⟩,
    ⟨(some 38), (some (34, true)), .mov (.tmp 37)⟩,
    ⟨(some 39), (some (38, false)), .mov (.tmp 3)⟩,
    ⟨(some 40), (some (38, false)), .indexAddr 2 (.tmp 39) (.const (.int .i64 0))⟩,
    ⟨(some 41), (some (38, false)), .fieldAddr 0 (.tmp 40)⟩,
    ⟨(some 42), (some (38, false)), .load none (.tmp 41)⟩,
    ⟨(some 43), (some (38, false)), .mov (.tmp 6)⟩,
    ⟨(some 44), (some (38, false)), .ibin .neq (.tmp 42) (.tmp 43)⟩,
    ⟨(some 45), (some (34, true)), .pick (.tmp 38) (.const (.bool true)) (.tmp 44)⟩,
    ⟨(some 46), none, .pick (.tmp 34) (.tmp 45) (.const (.bool false))⟩]

def f5r10 : List AInstr := [
    ⟨(some 2), none, .mov (.const (.bool false))⟩]

def f5r11 : List AInstr := [
    ⟨(some 47), none, .ibin .add (.tmp 23) (.const (.int .i64 1))⟩,
    ⟨(some 23), none, .mov (.tmp 47)⟩]

/-- live: [0, 3, 21, 22, 23] -/
def f5l0 : ACode := (.seq (.ops f5r7)
  (.keep [0, 3, 21, 22, 23, 24] (.seq (.cond (.tmp 24) .skip (.exit 0))
  (.keep [0, 3, 21, 22, 23] (.seq (.block 1 (.seq (.ops f5r8)
  (.keep [0, 3, 6, 21, 22, 23] (.seq (.ops f5r9)
  (.keep [0, 3, 21, 22, 23, 46] (.cond (.tmp 46) (.keep [] (.seq (.ops f5r10)
  (.keep [2] .ret))) .skip))))))
  (.keep [0, 3, 21, 22, 23] (.ops f5r11)))))))

def f5r13 : List AInstr := [
    ⟨(some 2), none, .mov (.const (.bool true))⟩]

def f5b : ACode := (.seq (.ops f5r0)
  (.keep [0] (.seq (.seq (.ops f5r1)
  (.keep [0, 8] (.cond (.tmp 8) (.keep [] (.seq (.ops f5r2)
  (.keep [2] .ret))) .skip)))
  (.keep [0] (.seq (.ops f5r3)
  (.keep [0, 3, 4] (.seq (.seq (.ops f5r4)
  (.keep [0, 3, 20] (.cond (.tmp 20) (.keep [] (.seq (.ops f5r5)
  (.keep [2] .ret))) .skip)))
  (.keep [0, 3] (.seq (.seq (.ops f5r6)
  (.keep [0, 3, 21, 22, 23] (.block 0 (.loop f5l0))))
  (.keep [] (.seq (.ops f5r13)
  (.keep [2] .ret))))))))))))

def f5 : AFn := ⟨48, [.tmp 2], f5b⟩

theorem f5_ok : compFn Try.prog 5 = some f5.strip := by kernel_rfl

/- function 6: weirhouse/weirhousekeep.HeavyFew; parameters 3; operations that are not compiled: 0 -/
def f6r0 : List AInstr := [
    ⟨(some 6), none, .mov (.const (.bool false))⟩]

def f6r1 : List AInstr := [
    ⟨(some 10), none, .callF 7 []⟩,
    ⟨(some 11), none, .un .not (.tmp 10)⟩]

def f6r2 : List AInstr := [
    ⟨(some 6), none, .mov (.const (.bool false))⟩]

def f6r3 : List AInstr := [
    ⟨(some 13), none, .mov (.tmp 0)⟩,
    ⟨(some 14), none, .mov (.tmp 1)⟩,
    ⟨(some 15), none, .callF 8 [.tmp 13, .tmp 14]⟩,
    ⟨(some 12), none, .mov (.tmp 15)⟩,
    ⟨(some 16), none, .extract 0 (.tmp 12)⟩,
    ⟨(some 17), none, .extract 1 (.tmp 12)⟩,
    ⟨(some 7), none, .mov (.tmp 16)⟩,
    ⟨(some 8), none, .mov (.tmp 17)⟩]

def f6r4 : List AInstr := [
    ⟨(some 18), none, .mov (.tmp 1)⟩,
    ⟨(some 19), none, .callF 16 [.tmp 18]⟩,
    ⟨(some 20), none, .callF 15 [.tmp 19]⟩,
    ⟨(some 21), none, .callF 14 [.tmp 20]⟩,
    ⟨(some 9), none, .mov (.tmp 21)⟩]

def f6r5 : List AInstr := [
    ⟨(some 22), none, .mov (.tmp 8)⟩,
    ⟨(some 23), none, .ibin .neq (.tmp 22) (.const (.int .i64 0))⟩,
    ⟨(some 24), none, .mov (.tmp 23)⟩,
    ⟨(some 25), (some (24, false)), .mov (.tmp 9)⟩,
    ⟨(some 26), (some (24, false)), .len (.tmp 25)⟩,
    ⟨(some 27), (some (24, false)), .mov (.tmp 0)⟩,
    ⟨(some 28), (some (24, false)), .ibin .gtr (.tmp 26) (.tmp 27)⟩,
    ⟨(some 29), none, .pick (.tmp 24) (.const (.bool true)) (.tmp 28)⟩]

def f6r6 : List AInstr := [
    ⟨(some 6), none, .mov (.const (.bool true))⟩]

def f6r7 : List AInstr := [
    ⟨(some 30), none, .mov (.tmp 7)⟩,
    ⟨(some 31), none, .len (.tmp 30)⟩,
    ⟨(some 32), none, .mov (.tmp 9)⟩,
    ⟨(some 33), none, .len (.tmp 32)⟩,
    ⟨(some 34), none, .ibin .eql (.tmp 31) (.tmp 33)⟩,
    ⟨(some 35), none, .mov (.tmp 34)⟩,
    ⟨(some 36), (some (35, true)), .mov (.tmp 7)⟩,
    ⟨(some 37), (some (35, true)), .mov (.tmp 2)⟩,
    ⟨(some 38), (some (35, true)), .callF 10 [.tmp 36, .tmp 37]⟩,
    ⟨(some 39), (some (35, true)), .mov (.tmp 1)⟩,
    ⟨(some 40), (some (35, true)), .mov (.tmp 2)⟩,
    ⟨(some 41), (some (35, true)), .callF 9 [.tmp 39, .tmp 40]⟩,
    ⟨(some 42), (some (35, true)), .ibin .eql (.tmp 38) (.tmp 41)⟩,
    ⟨(some 43), none, .pick (.tmp 35) (.tmp 42) (.const (.bool false))⟩,
    ⟨(some 6), none, .mov (.tmp 43)⟩]

def f6b : ACode := (.seq (.ops f6r0)
  (.keep [0, 1, 2] (.seq (.seq (.ops f6r1)
  (.keep [0, 1, 2, 11] (.cond (.tmp 11) (.keep [] (.seq (.ops f6r2)
  (.keep [6] .ret))) .skip)))
  (.keep [0, 1, 2] (.seq (.ops f6r3)
  (.keep [0, 1, 2, 7, 8] (.seq (.ops f6r4)
  (.keep [0, 1, 2, 7, 8, 9] (.seq (.seq (.ops f6r5)
  (.keep [1, 2, 7, 9, 29] (.cond (.tmp 29) (.keep [] (.seq (.ops f6r6)
  (.keep [6] .ret))) .skip)))
  (.keep [1, 2, 7, 9] (.seq (.ops f6r7)
  (.keep [6] .ret))))))))))))

def f6 : AFn := ⟨44, [.tmp 6], f6b⟩

theorem f6_ok : compFn Try.prog 6 = some f6.strip := by kernel_rfl

/- function 7: weirhouse/weirhousekeep.alive23; parameters 0; operations that are not compiled: 0 -/
def f7r0 : List AInstr := [
    ⟨(some 0), none, .mov (.const (.bool false))⟩]

def f7r1 : List AInstr := [
    ⟨(some 6), none, .buildSlice 1 6 [.int .i64 0, .int .i64 0, .int .i64 0, .int .i64 0, .int .i64 0, .int .i64 0] [(0, 1, (.const (.int .i64 1))), (1, 1, (.const (.int .i64 2))), (2, 1, (.const (.int .i64 1))), (3, 1, (.const (.int .i64 3))), (4, 1, (.const (.int .i64 1))), (5, 1, (.const (.int .i64 5)))]⟩,
    ⟨(some 7), none, .callF 8 [.const (.int .i64 2), .tmp 6]⟩,
    ⟨(some 5), none, .mov (.tmp 7)⟩,
    ⟨(some 8), none, .extract 0 (.tmp 5)⟩,
    ⟨(some 9), none, .extract 1 (.tmp 5)⟩,
    ⟨(some 1), none, .mov (.tmp 8)⟩,
    ⟨(some 2), none, .mov (.tmp 9)⟩]

def f7r2 : List AInstr := [
    ⟨(some 11), none, .build [.int .i64 0, .int .i64 0] [(0, 1, (.const (.int .i64 1))), (1, 1, (.const (.int .i64 5)))]⟩,
    ⟨(some 12), none, .buildSlice 2 1 [.int .i64 0, .int .i64 0] [(0, 2, (.tmp 11))]⟩,
    ⟨(some 13), none, .build [.int .i64 0, .int .i64 0] [(0, 1, (.const (.int .i64 2))), (1, 1, (.const (.int .i64 3)))]⟩,
    ⟨(some 14), none, .buildSlice 2 1 [.int .i64 0, .int .i64 0] [(0, 2, (.tmp 13))]⟩,
    ⟨(some 15), none, .callF 12 [.const (.int .i64 1), .tmp 12, .tmp 14]⟩,
    ⟨(some 10), none, .mov (.tmp 15)⟩,
    ⟨(some 16), none, .extract 0 (.tmp 10)⟩,
    ⟨(some 17), none, .extract 1 (.tmp 10)⟩,
    ⟨(some 3), none, .mov (.tmp 16)⟩,
    ⟨(some 4), none, .mov (.tmp 17)⟩]

def f7r3 : List AInstr := [
    ⟨(some 18), none, .mov (.tmp 2)⟩,
    ⟨(some 19), none, .ibin .eql (.tmp 18) (.const (.int .i64 0))⟩,
    ⟨(some 20), none, .mov (.tmp 19)⟩,
    ⟨(some 21), (some (20, true)), .mov (.tmp 4)⟩,
    ⟨(some 22), (some (20, true)), .ibin .eql (.tmp 21) (.const (.int .i64 0))⟩,
    ⟨(some 23), none, .pick (.tmp 20) (.tmp 22) (.const (.bool false))⟩,
    ⟨(some 24), none, .mov (.tmp 23)⟩,
    ⟨(some 25), (some (24, true)), .mov (.tmp 1)⟩,
    ⟨(some 26), (some (24, true)), .build [.int .i64 0, .int .i64 0] [(0, 1, (.const (.int .i64 1))), (1, 1, (.const (.int .i64 2)))]⟩,
    ⟨(some 27), (some (24, true)), .build [.int .i64 0, .int .i64 0] [(0, 1, (.const (.int .i64 5))), (1, 1, (.const (.int .i64 1)))]⟩,
    ⟨(some 28), (some (24, true)), .buildSlice 2 2 [.int .i64 0, .int .i64 0, .int .i64 0, .int .i64 0] [(0, 2, (.tmp 26)), (2, 2, (.tmp 27))]⟩,
    ⟨(some 29), (some (24, true)), .callF 13 [.tmp 25, .tmp 28]⟩,
    ⟨(some 30), none, .pick (.tmp 24) (.tmp 29) (.const (.bool false))⟩,
    ⟨(some 31), none, .mov (.tmp 30)⟩,
    ⟨(some 32), (some (31, true)), .mov (.tmp 3)⟩,
    ⟨(some 33), (some (31, true)), .build [.int .i64 0, .int .i64 0] [(0, 1, (.const (.int .i64 1))), (1, 1, (.const (.int .i64 2)))]⟩,
    ⟨(some 34), (some (31, true)), .buildSlice 2 1 [.int .i64 0, .int .i64 0] [(0, 2, (.tmp 33))]⟩,
    ⟨(some 35), (some (31, true)), .callF 13 [.tmp 32, .tmp 34]⟩,
    ⟨(some 36), none, .pick (.tmp 31) (.tmp 35) (.const (.bool false))⟩,
    ⟨(some 0), none, .mov (.tmp 36)⟩]

def f7b : ACode := (.seq (.ops f7r0)
  (.keep [] (.seq (.ops f7r1)
  (.keep [1, 2] (.seq (.ops f7r2)
  (.keep [1, 2, 3, 4] (.seq (.ops f7r3)
  (.keep [0] .ret))))))))

def f7 : AFn := ⟨37, [.tmp 0], f7b⟩

theorem f7_ok : compFn Try.prog 7 = some f7.strip := by kernel_rfl

/- function 8: weirhouse/heavy.All; parameters 2; operations that are not compiled: 0 -/
def f8r0 : List AInstr := [
    ⟨(some 4), none, .mov (.const (.slice none 0 0))⟩,
    ⟨(some 5), none, .mov (.const (.int .i64 0))⟩]

def f8r1 : List AInstr := [
    ⟨(some 11), none, .mov (.tmp 0)⟩,
    ⟨(some 12), none, .ibin .lss (.tmp 11) (.const (.int .i64 1))⟩,
    ⟨(some 13), none, .mov (.tmp 12)⟩,
    ⟨(some 14), (some (13, false)), .mov (.tmp 0)⟩,
    ⟨(some 15), (some (13, false)), .ibin .gtr (.tmp 14) (.const (.int .i64 400))⟩,
    ⟨(some 16), none, .pick (.tmp 13) (.const (.bool true)) (.tmp 15)⟩]

def f8r2 : List AInstr := [
    ⟨(some 4), none, .mov (.const (.slice none 0 0))⟩,
    ⟨(some 5), none, .mov (.const (.int .i64 2))⟩]

def f8r3 : List AInstr := [
    ⟨(some 6), none, .mov (.const (.slice none 0 0))⟩]

def f8r4 : List AInstr := [
    ⟨(some 17), none, .mov (.tmp 1)⟩,
    ⟨(some 18), none, .len (.tmp 17)⟩,
    ⟨(some 19), none, .mov (.const (.int .i64 0))⟩]

def f8r5 : List AInstr := [
    ⟨(some 20), none, .ibin .lss (.tmp 19) (.tmp 18)⟩]

def f8r6 : List AInstr := [
    ⟨(some 21), none, .indexAddr 1 (.tmp 17) (.tmp 19)⟩,
    ⟨(some 22), none, .load none (.tmp 21)⟩,
    ⟨(some 8), none, .mov (.tmp 22)⟩]

def f8r7 : List AInstr := [
    ⟨(some 24), none, .mov (.tmp 0)⟩,
    ⟨(some 25), none, .mov (.tmp 6)⟩,
    ⟨(some 26), none, .mov (.tmp 8)⟩,
    ⟨(some 27), none, .callF 17 [.tmp 24, .tmp 25, .tmp 26]⟩,
    ⟨(some 23), none, .mov (.tmp 27)⟩,
    ⟨(some 28), none, .extract 0 (.tmp 23)⟩,
    ⟨(some 29), none, .extract 1 (.tmp 23)⟩,
    ⟨(some 9), none, .mov (.tmp 28)⟩,
    ⟨(some 10), none, .mov (.tmp 29)⟩]

def f8r8 : List AInstr := [
    ⟨(some 30), none, .mov (.tmp 10)⟩,
    ⟨(some 31), none, .ibin .neq (.tmp 30) (.const (.int .i64 0))⟩]

def f8r9 : List AInstr := [
    ⟨(some 32), none, .mov (.tmp 10)⟩,
    ⟨(some 4), none, .mov (.const (.slice none 0 0))⟩,
    ⟨(some 5), none, .mov (.tmp 32)⟩]

def f8r10 : List AInstr := [
    ⟨(some 33), none, .mov (.tmp 9)⟩,
    ⟨(some 6), none, .mov (.tmp 33)⟩]

def f8r11 : List AInstr := [
    ⟨(some 34), none, .ibin .add (.tmp 19) (.const (.int .i64 1))⟩,
    ⟨(some 19), none, .mov (.tmp 34)⟩]

/-- live: [0, 6, 17, 18, 19] -/
def f8l0 : ACode := (.seq (.ops f8r5)
  (.keep [0, 6, 17, 18, 19, 20] (.seq (.cond (.tmp 20) .skip (.exit 0))
  (.keep [0, 6, 17, 18, 19] (.seq (.block 1 (.seq (.ops f8r6)
  (.keep [0, 6, 8, 17, 18, 19] (.seq (.ops f8r7)
  (.keep [0, 9, 10, 17, 18, 19] (.seq (.seq (.ops f8r8)
  (.keep [0, 9, 10, 17, 18, 19, 31] (.cond (.tmp 31) (.keep [10] (.seq (.ops f8r9)
  (.keep [4, 5] .ret))) .skip)))
  (.keep [0, 9, 17, 18, 19] (.ops f8r10))))))))
  (.keep [0, 6, 17, 18, 19] (.ops f8r11)))))))

def f8r13 : List AInstr := [
    ⟨(some 35), none, .mov (.tmp 6)⟩,
    ⟨(some 4), none, .mov (.tmp 35)⟩,
    ⟨(some 5), none, .mov (.const (.int .i64 0))⟩]

def f8b : ACode := (.seq (.ops f8r0)
  (.keep [0, 1] (.seq (.seq (.ops f8r1)
  (.keep [0, 1, 16] (.cond (.tmp 16) (.keep [] (.seq (.ops f8r2)
  (.keep [4, 5] .ret))) .skip)))
  (.keep [0, 1] (.seq (.ops f8r3)
  (.keep [0, 1, 6] (.seq (.seq (.ops f8r4)
  (.keep [0, 6, 17, 18, 19] (.block 0 (.loop f8l0))))
  (.keep [6] (.seq (.ops f8r13)
  (.keep [4, 5] .ret))))))))))

def f8 : AFn := ⟨36, [.tmp 4, .tmp 5], f8b⟩

theorem f8_ok : compFn Try.prog 8 = some f8.strip := by kernel_rfl

/- function 9: weirhouse/weirhousekeep.times; parameters 2; operations that are not compiled: 0 -/
def f9r0 : List AInstr := [
    ⟨(some 4), none, .mov (.const (.int .i64 0))⟩]

def f9r1 : List AInstr := [
    ⟨(some 5), none, .mov (.const (.int .i64 0))⟩]

def f9r2 : List AInstr := [
    ⟨(some 8), none, .mov (.tmp 0)⟩,
    ⟨(some 9), none, .len (.tmp 8)⟩,
    ⟨(some 10), none, .mov (.const (.int .i64 0))⟩]

def f9r3 : List AInstr := [
    ⟨(some 11), none, .ibin .lss (.tmp 10) (.tmp 9)⟩]

def f9r4 : List AInstr := [
    ⟨(some 12), none, .indexAddr 1 (.tmp 8) (.tmp 10)⟩,
    ⟨(some 13), none, .load none (.tmp 12)⟩,
    ⟨(some 7), none, .mov (.tmp 13)⟩]

def f9r5 : List AInstr := [
    ⟨(some 14), none, .mov (.tmp 7)⟩,
    ⟨(some 15), none, .mov (.tmp 1)⟩,
    ⟨(some 16), none, .ibin .eql (.tmp 14) (.tmp 15)⟩]

def f9r6 : List AInstr := [
    ⟨(some 17), none, .mov (.tmp 5)⟩,
    ⟨(some 18), none, .ibin .add (.tmp 17) (.const (.int .i64 1))⟩,
    ⟨(some 5), none, .mov (.tmp 18)⟩]

def f9r7 : List AInstr := [
    ⟨(some 19), none, .ibin .add (.tmp 10) (.const (.int .i64 1))⟩,
    ⟨(some 10), none, .mov (.tmp 19)⟩]

/-- live: [1, 5, 8, 9, 10] -/
def f9l0 : ACode := (.seq (.ops f9r3)
  (.keep [1, 5, 8, 9, 10, 11] (.seq (.cond (.tmp 11) .skip (.exit 0))
  (.keep [1, 5, 8, 9, 10] (.seq (.block 1 (.seq (.ops f9r4)
  (.keep [1, 5, 7, 8, 9, 10] (.seq (.ops f9r5)
  (.keep [1, 5, 8, 9, 10, 16] (.cond (.tmp 16) (.keep [1, 5, 8, 9, 10] (.ops f9r6)) .skip))))))
  (.keep [1, 5, 8, 9, 10] (.ops f9r7)))))))

def f9r9 : List AInstr := [
    ⟨(some 20), none, .mov (.tmp 5)⟩,
    ⟨(some 4), none, .mov (.tmp 20)⟩]

def f9b : ACode := (.seq (.ops f9r0)
  (.keep [0, 1] (.seq (.ops f9r1)
  (.keep [0, 1, 5] (.seq (.seq (.ops f9r2)
  (.keep [1, 5, 8, 9, 10] (.block 0 (.loop f9l0))))
  (.keep [5] (.seq (.ops f9r9)
  (.keep [4] .ret))))))))

def f9 : AFn := ⟨21, [.tmp 4], f9b⟩

theorem f9_ok : compFn Try.prog 9 = some f9.strip := by kernel_rfl

/- function 10: weirhouse/weirhousekeep.count; parameters 2; operations that are not compiled: 0 -/
def f10r0 : List AInstr := [
    ⟨(some 4), none, .mov (.const (.int .i64 0))⟩]

def f10r1 : List AInstr := [
    ⟨(some 7), none, .mov (.tmp 0)⟩,
    ⟨(some 8), none, .len (.tmp 7)⟩,
    ⟨(some 9), none, .mov (.const (.int .i64 0))⟩]

def f10r2 : List AInstr := [
    ⟨(some 10), none, .ibin .lss (.tmp 9) (.tmp 8)⟩]

def f10r3 : List AInstr := [
    ⟨(some 11), none, .indexAddr 2 (.tmp 7) (.tmp 9)⟩,
    ⟨(some 12), none, .load (some 2) (.tmp 11)⟩,
    ⟨(some 6), none, .alloc [.int .i64 0, .int .i64 0]⟩,
    ⟨none, none, .store 2 (.tmp 6) (.tmp 12)⟩]

def f10r4 : List AInstr := [
    ⟨(some 13), none, .fieldAddr 0 (.tmp 6)⟩,
    ⟨(some 14), none, .load none (.tmp 13)⟩,
    ⟨(some 15), none, .mov (.tmp 1)⟩,
    ⟨(some 16), none, .ibin .eql (.tmp 14) (.tmp 15)⟩]

def f10r5 : List AInstr := [
    ⟨(some 17), none, .fieldAddr 1 (.tmp 6)⟩,
    ⟨(some 18), none, .load none (.tmp 17)⟩,
    ⟨(some 4), none, .mov (.tmp 18)⟩]

def f10r6 : List AInstr := [
    ⟨(some 19), none, .ibin .add (.tmp 9) (.const (.int .i64 1))⟩,
    ⟨(some 9), none, .mov (.tmp 19)⟩]

/-- live: [1, 7, 8, 9] -/
def f10l0 : ACode := (.seq (.ops f10r2)
  (.keep [1, 7, 8, 9, 10] (.seq (.cond (.tmp 10) .skip (.exit 0))
  (.keep [1, 7, 8, 9] (.seq (.block 1 (.seq (.ops f10r3)
  (.keep [1, 6, 7, 8, 9] (.seq (.ops f10r4)
  (.keep [1, 6, 7, 8, 9, 16] (.cond (.tmp 16) (.keep [6] (.seq (.ops f10r5)
  (.keep [4] .ret))) .skip))))))
  (.keep [1, 7, 8, 9] (.ops f10r6)))))))

def f10r8 : List AInstr := [
    ⟨(some 4), none, .mov (.const (.int .i64 0))⟩]

def f10b : ACode := (.seq (.ops f10r0)
  (.keep [0, 1] (.seq (.seq (.ops f10r1)
  (.keep [1, 7, 8, 9] (.block 0 (.loop f10l0))))
  (.keep [] (.seq (.ops f10r8)
  (.keep [4] .ret))))))

def f10 : AFn := ⟨20, [.tmp 4], f10b⟩

theorem f10_ok : compFn Try.prog 10 = some f10.strip := by kernel_rfl

/- function 11: weirhouse/heavy.Right; parameters 2; operations that are not compiled: 0 -/
def f11r0 : List AInstr := [
    ⟨(some 4), none, .mov (.const (.bool false))⟩]

def f11r1 : List AInstr := [
    ⟨(some 7), none, .mov (.tmp 0)⟩,
    ⟨(some 8), none, .ibin .lss (.tmp 7) (.const (.int .i64 1))⟩,
    ⟨(some 9), none, .mov (.tmp 8)⟩,
    ⟨(some 10), (some (9, false)), .mov (.tmp 0)⟩,
    ⟨(some 11), (some (9, false)), .ibin .gtr (.tmp 10) (.const (.int .i64 400))⟩,
    ⟨(some 12), none, .pick (.tmp 9) (.const (.bool true)) (.tmp 11)⟩,
    ⟨(some 13), none, .mov (.tmp 12)⟩,
    ⟨(some 14), (some (13, false)), .mov (.tmp 1)⟩,
    ⟨(some 15), (some (13, false)), .len (.tmp 14)⟩,
    ⟨(some 16), (some (13, false)), .mov (.tmp 0)⟩,
    ⟨(some 17), (some (13, false)), .ibin .gtr (.tmp 15) (.tmp 16)⟩,
    ⟨(some 18), none, .pick (.tmp 13) (.const (.bool true)) (.tmp 17)⟩]

def f11r2 : List AInstr := [
    ⟨(some 4), none, .mov (.const (.bool false))⟩]

def f11r3 : List AInstr := [
    ⟨(some 19), none, .mov (.tmp 1)⟩,
    ⟨(some 20), none, .len (.tmp 19)⟩,
    ⟨(some 21), none, .mov (.const (.int .i64 0))⟩]

def f11r4 : List AInstr := [
    ⟨(some 22), none, .ibin .lss (.tmp 21) (.tmp 20)⟩]

def f11r5 : List AInstr := [
    ⟨(some 23), none, .mov (.tmp 21)⟩,
    ⟨(some 24), none, .indexAddr 2 (.tmp 19) (.tmp 21)⟩,
    ⟨(some 25), none, .load (some 2) (.tmp 24)⟩,
    ⟨(some 6), none, .alloc [.int .i64 0, .int .i64 0]⟩,
    ⟨(some 5), none, .mov (.tmp 23)⟩,
    ⟨none, none, .store 2 (.tmp 6) (.tmp 25)⟩]

def f11r6 : List AInstr := [
    ⟨(some 26), none, .fieldAddr 1 (.tmp 6)⟩,
    ⟨(some 27), none, .load none (.tmp 26)⟩,
    ⟨(some 28), none, .ibin .lss (.tmp 27) (.const (.int .i64 1))⟩,
    ⟨(some 29), none, .mov (.tmp 28)⟩,
    ⟨(some 30), (some (29, false)), .fieldAddr 1 (.tmp 6)⟩,
    ⟨(some 31), (some (29, false)), .load none (.tmp 30)⟩,
    ⟨(some 32), (some (29, false)), .ibin .gtr (.tmp 31) (.const (.int .i64 1099511627776))⟩,
    ⟨(some 33), none, .pick (.tmp 29) (.const (.bool true)) (.tmp 32)⟩,
    ⟨(some 34), none, .mov (.tmp 33)⟩,
    ⟨(some 35), (some (34, false)), .mov (.tmp 5)⟩,
    ⟨(some 36), (some (34, false)), .ibin .gtr (.tmp 35) (.const (.int .i64 0))⟩,
    ⟨(some 37), (some (34, false)), .mov (.tmp 36)⟩,
    ⟨(some 38), (some (37, true)), .fieldAddr 0 (.tmp 6)⟩,
    ⟨(some 39), (some (37, true)), .load none (.tmp 38)⟩,
    ⟨(some 40), (some (37, true)), .mov (.tmp 1)⟩,
    ⟨(some 41), (some (37, true)), .mov (.tmp 5)⟩,
    ⟨(some 42), (some (37, true)), .ibin .sub (.tmp 41) (.const (.int .i64 1))⟩,
    ⟨(some 43), (some (37, true)), .indexAddr 2 (.tmp 40) (.tmp 42)⟩,
    ⟨(some 44), (some (37, true)), .fieldAddr 0 (.tmp 43)⟩,
    ⟨(some 45), (some (37, true)), .load none (.tmp 44)⟩,
    ⟨(some 46), (some (37, true)), .ibin .leq (.tmp 39) (.tmp 45)⟩,
    ⟨(some 47), (some (34, false)), .pick (.tmp 37) (.tmp 46) (.const (.bool false))⟩,
    ⟨(some 48), none, .pick (.tmp 34) (.const (.bool true)) (.tmp 47)⟩]

def f11r7 : List AInstr := [
    ⟨(some 4), none, .mov (.const (.bool false))⟩]

def f11r8 : List AInstr := [
    ⟨(some 49), none, .ibin .add (.tmp 21) (.const (.int .i64 1))⟩,
    ⟨(some 21), none, .mov (.tmp 49)⟩]

/-- live: [1, 19, 20, 21] -/
def f11l0 : ACode := (.seq (.ops f11r4)
  (.keep [1, 19, 20, 21, 22] (.seq (.cond (.tmp 22) .skip (.exit 0))
  (.keep [1, 19, 20, 21] (.seq (.block 1 (.seq (.ops f11r5)
  (.keep [1, 5, 6, 19, 20, 21] (.seq (.draw f11r6 [(0, 0, false), (0, 0, false), (0, 0, false), (0, 0, false), (0, 0, false), (0, 0, false), (0, 0, false), (0, 0, false), (0, 0, false), (0, 0, false), (0, 0, false), (0, 0, false), (0, 0, false), (0, 0, false), (0, 0, false), (0, 0, false), (0, 0, false), (0, 0, false), (0, 0, false), (0, 0, false), (0, 0, false), (0, 0, false), (0, 0, false)])
  (.keep [1, 19, 20, 21, 48] (.cond (.tmp 48) (.keep [] (.seq (.ops f11r7)
  (.keep [4] .ret))) .skip))))))
  (.keep [1, 19, 20, 21] (.ops f11r8)))))))

def f11r10 : List AInstr := [
    ⟨(some 4), none, .mov (.const (.bool true))⟩]

def f11b : ACode := (.seq (.ops f11r0)
  (.keep [0, 1] (.seq (.seq (.ops f11r1)
  (.keep [1, 18] (.cond (.tmp 18) (.keep [] (.seq (.ops f11r2)
  (.keep [4] .ret))) .skip)))
  (.keep [1] (.seq (.seq (.ops f11r3)
  (.keep [1, 19, 20, 21] (.block 0 (.loop f11l0))))
  (.keep [] (.seq (.ops f11r10)
  (.keep [4] .ret))))))))

def f11 : AFn := ⟨50, [.tmp 4], f11b⟩

theorem f11_ok : compFn Try.prog 11 = some f11.strip := by kernel_rfl

/- function 12: weirhouse/heavy.Join; parameters 3; operations that are not compiled: 0 -/
def f12r0 : List AInstr := [
    ⟨(some 6), none, .mov (.const (.slice none 0 0))⟩,
    ⟨(some 7), none, .mov (.const (.int .i64 0))⟩]

def f12r1 : List AInstr := [
    ⟨(some 15), none, .mov (.tmp 0)⟩,
    ⟨(some 16), none, .mov (.tmp 1)⟩,
    ⟨(some 17), none, .callF 11 [.tmp 15, .tmp 16]⟩,
    ⟨(some 18), none, .un .not (.tmp 17)⟩,
    ⟨(some 19), none, .mov (.tmp 18)⟩,
    ⟨(some 20), (some (19, false)), .mov (.tmp 0)⟩,
    ⟨(some 21), (some (19, false)), .mov (.tmp 2)⟩,
    ⟨(some 22), (some (19, false)), .callF 11 [.tmp 20, .tmp 21]⟩,
    ⟨(some 23), (some (19, false)), .un .not (.tmp 22)⟩,
    ⟨(some 24), none, .pick (.tmp 19) (.const (.bool true)) (.tmp 23)⟩]

def f12r2 : List AInstr := [
    ⟨(some 6), none, .mov (.const (.slice none 0 0))⟩,
    ⟨(some 7), none, .mov (.const (.int .i64 1))⟩]

def f12r3 : List AInstr := [
    ⟨(some 25), none, .makeMap⟩,
    ⟨(some 8), none, .mov (.tmp 25)⟩]

def f12r4 : List AInstr := [
    ⟨(some 26), none, .mov (.tmp 1)⟩,
    ⟨(some 27), none, .mov (.tmp 2)⟩,
    ⟨(some 28), none, .buildSlice 1 2 [.slice none 0 0, .slice none 0 0] [(0, 1, (.tmp 26)), (1, 1, (.tmp 27))]⟩,
    ⟨(some 29), none, .callF 18 [.tmp 28]⟩,
    ⟨(some 30), none, .len (.tmp 29)⟩,
    ⟨(some 31), none, .mov (.const (.int .i64 0))⟩]

def f12r5 : List AInstr := [
    ⟨(some 32), none, .ibin .lss (.tmp 31) (.tmp 30)⟩]

def f12r6 : List AInstr := [
    ⟨(some 33), none, .indexAddr 2 (.tmp 29) (.tmp 31)⟩,
    ⟨(some 34), none, .load (some 2) (.tmp 33)⟩,
    ⟨(some 10), none, .alloc [.int .i64 0, .int .i64 0]⟩,
    ⟨none, none, .store 2 (.tmp 10) (.tmp 34)⟩]

def f12r7 : List AInstr := [
    ⟨(some 35), none, .mov (.tmp 8)⟩,
    ⟨(some 36), none, .fieldAddr 0 (.tmp 10)⟩,
    ⟨(some 37), none, .load none (.tmp 36)⟩,
    ⟨(some 38), none, .lookup (.int .i64 0) false (.tmp 35) (.tmp 37)⟩,
    ⟨(some 39), none, .fieldAddr 1 (.tmp 10)⟩,
    ⟨(some 40), none, .load none (.tmp 39)⟩,
    ⟨(some 41), none, .ibin .add (.tmp 38) (.tmp 40)⟩,
    ⟨none, none, .mapUpdate (.tmp 35) (.tmp 37) (.tmp 41)⟩]

def f12r8 : List AInstr := [
    ⟨(some 42), none, .ibin .add (.tmp 31) (.const (.int .i64 1))⟩,
    ⟨(some 31), none, .mov (.tmp 42)⟩]

/-- live: [0, 8, 29, 30, 31] -/
def f12l0 : ACode := (.seq (.ops f12r5)
  (.keep [0, 8, 29, 30, 31, 32] (.seq (.cond (.tmp 32) .skip (.exit 0))
  (.keep [0, 8, 29, 30, 31] (.seq (.block 1 (.seq (.ops f12r6)
  (.keep [0, 8, 10, 29, 30, 31] (.ops f12r7))))
  (.keep [0, 8, 29, 30, 31] (.ops f12r8)))))))

def f12r10 : List AInstr := [
    ⟨(some 11), none, .mov (.const (.slice none 0 0))⟩]

def f12r11 : List AInstr := [
    ⟨(some 12), none, .mov (.const (.slice none 0 0))⟩]

def f12r12 : List AInstr := [
    ⟨(some 43), none, .mov (.tmp 8)⟩,
    ⟨(some 44), none, .rangeMap (.tmp 43)⟩]

def f12r13 : List AInstr := [
    ⟨(some 45), none, .nextMap (.tmp 44)⟩,
    ⟨(some 46), none, .extract 0 (.tmp 45)⟩]

def f12r14 : List AInstr := [
    ⟨(some 47), none, .entryAt (.tmp 44)⟩,
    ⟨(some 48), none, .extract 0 (.tmp 47)⟩,
    ⟨(some 49), none, .extract 1 (.tmp 47)⟩,
    ⟨(some 13), none, .mov (.tmp 48)⟩,
    ⟨(some 14), none, .mov (.tmp 49)⟩]

def f12r15 : List AInstr := [
    ⟨(some 50), none, .mov (.tmp 14)⟩,
    ⟨(some 51), none, .ibin .gtr (.tmp 50) (.const (.int .i64 1099511627776))⟩]

def f12r16 : List AInstr := [
    ⟨(some 6), none, .mov (.const (.slice none 0 0))⟩,
    ⟨(some 7), none, .mov (.const (.int .i64 4))⟩]

def f12r17 : List AInstr := [
    ⟨(some 52), none, .mov (.tmp 11)⟩,
    ⟨(some 53), none, .mov (.tmp 13)⟩,
    ⟨(some 54), none, .mov (.tmp 14)⟩,
    ⟨(some 55), none, .build [.int .i64 0, .int .i64 0] [(0, 1, (.tmp 53)), (1, 1, (.tmp 54))]⟩,
    ⟨(some 56), none, .buildSlice 2 1 [.int .i64 0, .int .i64 0] [(0, 2, (.tmp 55))]⟩,
    ⟨(some 57), none, .append 2 16 (.tmp 52) (.tmp 56)⟩,
    ⟨(some 58), none, .mov (.tmp 12)⟩,
    ⟨(some 59), none, .mov (.tmp 14)⟩,
    ⟨(some 60), none, .buildSlice 1 1 [.int .i64 0] [(0, 1, (.tmp 59))]⟩,
    ⟨(some 61), none, .append 1 8 (.tmp 58) (.tmp 60)⟩,
    ⟨(some 11), none, .mov (.tmp 57)⟩,
    ⟨(some 12), none, .mov (.tmp 61)⟩]

/-- live: [0, 11, 12, 44] -/
def f12l1 : ACode := (.seq (.fork f12r13)
  (.keep [0, 11, 12, 44, 46] (.seq (.cond (.tmp 46) .skip (.exit 2))
  (.keep [0, 11, 12, 44] (.block 3 (.seq (.ops f12r14)
  (.keep [0, 11, 12, 13, 14, 44] (.seq (.seq (.ops f12r15)
  (.keep [0, 11, 12, 13, 14, 44, 51] (.cond (.tmp 51) (.keep [] (.seq (.ops f12r16)
  (.keep [6, 7] .ret))) .skip)))
  (.keep [0, 11, 12, 13, 14, 44] (.ops f12r17))))))))))

def f12r19 : List AInstr := [
    ⟨(some 62), none, .mov (.tmp 11)⟩,
    ⟨(some 63), none, .callF 19 [.tmp 62, .const (.func (.func 20) #[] #[])]⟩]

def f12r20 : List AInstr := [
    ⟨(some 64), none, .mov (.tmp 11)⟩,
    ⟨(some 65), none, .len (.tmp 64)⟩,
    ⟨(some 66), none, .mov (.tmp 0)⟩,
    ⟨(some 67), none, .ibin .leq (.tmp 65) (.tmp 66)⟩]

def f12r21 : List AInstr := [
    ⟨(some 68), none, .mov (.tmp 11)⟩,
    ⟨(some 6), none, .mov (.tmp 68)⟩,
    ⟨(some 7), none, .mov (.const (.int .i64 0))⟩]

def f12r22 : List AInstr := [
    ⟨(some 69), none, .mov (.tmp 12)⟩,
    ⟨(some 70), none, .callF 21 [.tmp 69]⟩]

def f12r23 : List AInstr := [
    ⟨(some 71), none, .mov (.tmp 11)⟩,
    ⟨(some 72), none, .mov (.tmp 12)⟩,
    ⟨(some 73), none, .mov (.tmp 12)⟩,
    ⟨(some 74), none, .len (.tmp 73)⟩,
    ⟨(some 75), none, .ibin .sub (.tmp 74) (.const (.int .i64 1))⟩,
    ⟨(some 76), none, .mov (.tmp 0)⟩,
    ⟨(some 77), none, .ibin .sub (.tmp 75) (.tmp 76)⟩,
    ⟨(some 78), none, .indexAddr 1 (.tmp 72) (.tmp 77)⟩,
    ⟨(some 79), none, .load none (.tmp 78)⟩,
    ⟨(some 80), none, .callF 22 [.tmp 71, .tmp 79]⟩,
    ⟨(some 6), none, .mov (.tmp 80)⟩,
    ⟨(some 7), none, .mov (.const (.int .i64 0))⟩]

def f12b : ACode := (.seq (.ops f12r0)
  (.keep [0, 1, 2] (.seq (.seq (.ops f12r1)
  (.keep [0, 1, 2, 24] (.cond (.tmp 24) (.keep [] (.seq (.ops f12r2)
  (.keep [6, 7] .ret))) .skip)))
  (.keep [0, 1, 2] (.seq (.ops f12r3)
  (.keep [0, 1, 2, 8] (.seq (.seq (.ops f12r4)
  (.keep [0, 8, 29, 30, 31] (.block 0 (.loop f12l0))))
  (.keep [0, 8] (.seq (.ops f12r10)
  (.keep [0, 8, 11] (.seq (.ops f12r11)
  (.keep [0, 8, 11, 12] (.seq (.seq (.ops f12r12)
  (.keep [0, 11, 12, 44] (.block 2 (.loop f12l1))))
  (.keep [0, 11, 12] (.seq (.ops f12r19)
  (.keep [0, 11, 12] (.seq (.seq (.ops f12r20)
  (.keep [0, 11, 12, 67] (.cond (.tmp 67) (.keep [11] (.seq (.ops f12r21)
  (.keep [6, 7] .ret))) .skip)))
  (.keep [0, 11, 12] (.seq (.ops f12r22)
  (.keep [0, 11, 12] (.seq (.ops f12r23)
  (.keep [6, 7] .ret))))))))))))))))))))))

def f12 : AFn := ⟨81, [.tmp 6, .tmp 7], f12b⟩

theorem f12_ok : compFn Try.prog 12 = some f12.strip := by kernel_rfl

/- function 13: slices.Equal[[]weirhouse/api.Count,weirhouse/api.Count]; parameters 2; operations that are not compiled: 0 -/
def f13r0 : List AInstr := [
    ⟨(some 4), none, .mov (.const (.bool false))⟩]

def f13r1 : List AInstr := [
    ⟨(some 6), none, .mov (.tmp 0)⟩,
    ⟨(some 7), none, .len (.tmp 6)⟩,
    ⟨(some 8), none, .mov (.tmp 1)⟩,
    ⟨(some 9), none, .len (.tmp 8)⟩,
    ⟨(some 10), none, .ibin .neq (.tmp 7) (.tmp 9)⟩]

def f13r2 : List AInstr := [
    ⟨(some 4), none, .mov (.const (.bool false))⟩]

def f13r3 : List AInstr := [
    ⟨(some 11), none, .mov (.tmp 0)⟩,
    ⟨(some 12), none, .len (.tmp 11)⟩,
    ⟨(some 13), none, .mov (.const (.int .i64 0))⟩]

def f13r4 : List AInstr := [
    ⟨(some 14), none, .ibin .lss (.tmp 13) (.tmp 12)⟩]

def f13r5 : List AInstr := [
    ⟨(some 15), none, .mov (.tmp 13)⟩,
    ⟨(some 5), none, .mov (.tmp 15)⟩]

def f13r6 : List AInstr := [
    ⟨(some 16), none, .mov (.tmp 0)⟩,
    ⟨(some 17), none, .mov (.tmp 5)⟩,
    ⟨(some 18), none, .indexAddr 2 (.tmp 16) (.tmp 17)⟩,
    ⟨(some 19), none, .load (some 2) (.tmp 18)⟩,
    ⟨(some 20), none, .mov (.tmp 1)⟩,
    ⟨(some 21), none, .mov (.tmp 5)⟩,
    ⟨(some 22), none, .indexAddr 2 (.tmp 20) (.tmp 21)⟩,
    ⟨(some 23), none, .load (some 2) (.tmp 22)⟩,
    ⟨(some 24), none, .eqA true [false, false] (.tmp 19) (.tmp 23)⟩]

def f13r7 : List AInstr := [
    ⟨(some 4), none, .mov (.const (.bool false))⟩]

def f13r8 : List AInstr := [
    ⟨(some 25), none, .ibin .add (.tmp 13) (.const (.int .i64 1))⟩,
    ⟨(some 13), none, .mov (.tmp 25)⟩]

/-- live: [0, 1, 12, 13] -/
def f13l0 : ACode := (.seq (.ops f13r4)
  (.keep [0, 1, 12, 13, 14] (.seq (.cond (.tmp 14) .skip (.exit 0))
  (.keep [0, 1, 12, 13] (.seq (.block 1 (.seq (.ops f13r5)
  (.keep [0, 1, 5, 12, 13] (.seq (.draw f13r6 [(0, 0, false), (0, 0, false), (0, 0, false), (0, 0, false), (0, 0, false), (0, 0, false), (0, 0, false), (0, 0, false), (0, 0, false)])
  (.keep [0, 1, 12, 13, 24] (.cond (.tmp 24) (.keep [] (.seq (.ops f13r7)
  (.keep [4] .ret))) .skip))))))
  (.keep [0, 1, 12, 13] (.ops f13r8)))))))

def f13r10 : List AInstr := [
    ⟨(some 4), none, .mov (.const (.bool true))⟩]

def f13b : ACode := (.seq (.ops f13r0)
  (.keep [0, 1] (.seq (.seq (.ops f13r1)
  (.keep [0, 1, 10] (.cond (.tmp 10) (.keep [] (.seq (.ops f13r2)
  (.keep [4] .ret))) .skip)))
  (.keep [0, 1] (.seq (.seq (.ops f13r3)
  (.keep [0, 1, 12, 13] (.block 0 (.loop f13l0))))
  (.keep [] (.seq (.ops f13r10)
  (.keep [4] .ret))))))))

def f13 : AFn := ⟨26, [.tmp 4], f13b⟩

theorem f13_ok : compFn Try.prog 13 = some f13.strip := by kernel_rfl

/- function 14: slices.Compact[[]int,int]; parameters 1; operations that are not compiled: 0 -/
def f14r0 : List AInstr := [
    ⟨(some 2), none, .mov (.const (.slice none 0 0))⟩]

def f14r1 : List AInstr := [
    ⟨(some 6), none, .mov (.tmp 0)⟩,
    ⟨(some 7), none, .len (.tmp 6)⟩,
    ⟨(some 8), none, .ibin .lss (.tmp 7) (.const (.int .i64 2))⟩]

def f14r2 : List AInstr := [
    ⟨(some 9), none, .mov (.tmp 0)⟩,
    ⟨(some 2), none, .mov (.tmp 9)⟩]

def f14r3 : List AInstr := [
    ⟨(some 3), none, .mov (.const (.int .i64 1))⟩]

def f14r4 : List AInstr := [
    ⟨(some 10), none, .mov (.tmp 3)⟩,
    ⟨(some 11), none, .mov (.tmp 0)⟩,
    ⟨(some 12), none, .len (.tmp 11)⟩,
    ⟨(some 13), none, .ibin .lss (.tmp 10) (.tmp 12)⟩]

def f14r5 : List AInstr := [
    ⟨(some 16), none, .mov (.tmp 0)⟩,
    ⟨(some 17), none, .mov (.tmp 3)⟩,
    ⟨(some 18), none, .indexAddr 1 (.tmp 16) (.tmp 17)⟩,
    ⟨(some 19), none, .load none (.tmp 18)⟩,
    ⟨(some 20), none, .mov (.tmp 0)⟩,
    ⟨(some 21), none, .mov (.tmp 3)⟩,
    ⟨(some 22), none, .ibin .sub (.tmp 21) (.const (.int .i64 1))⟩,
    ⟨(some 23), none, .indexAddr 1 (.tmp 20) (.tmp 22)⟩,
    ⟨(some 24), none, .load none (.tmp 23)⟩,
    ⟨(some 25), none, .ibin .eql (.tmp 19) (.tmp 24)⟩]

def f14r6 : List AInstr := [
    ⟨(some 26), none, .mov (.tmp 0)⟩,
    ⟨(some 27), none, .mov (.tmp 3)⟩,
    ⟨(some 28), none, .slice 1 (.tmp 26) (some (.tmp 27)) none none⟩,
    ⟨(some 4), none, .mov (.tmp 28)⟩]

def f14r7 : List AInstr := [
    ⟨(some 5), none, .mov (.const (.int .i64 1))⟩]

def f14r8 : List AInstr := [
    ⟨(some 29), none, .mov (.tmp 5)⟩,
    ⟨(some 30), none, .mov (.tmp 4)⟩,
    ⟨(some 31), none, .len (.tmp 30)⟩,
    ⟨(some 32), none, .ibin .lss (.tmp 29) (.tmp 31)⟩]

def f14r9 : List AInstr := [
    ⟨(some 35), none, .mov (.tmp 4)⟩,
    ⟨(some 36), none, .mov (.tmp 5)⟩,
    ⟨(some 37), none, .indexAddr 1 (.tmp 35) (.tmp 36)⟩,
    ⟨(some 38), none, .load none (.tmp 37)⟩,
    ⟨(some 39), none, .mov (.tmp 4)⟩,
    ⟨(some 40), none, .mov (.tmp 5)⟩,
    ⟨(some 41), none, .ibin .sub (.tmp 40) (.const (.int .i64 1))⟩,
    ⟨(some 42), none, .indexAddr 1 (.tmp 39) (.tmp 41)⟩,
    ⟨(some 43), none, .load none (.tmp 42)⟩,
    ⟨(some 44), none, .ibin .neq (.tmp 38) (.tmp 43)⟩]

def f14r10 : List AInstr := [
    ⟨(some 45), none, .mov (.tmp 0)⟩,
    ⟨(some 46), none, .mov (.tmp 3)⟩,
    ⟨(some 47), none, .mov (.tmp 4)⟩,
    ⟨(some 48), none, .mov (.tmp 5)⟩,
    ⟨(some 49), none, .indexAddr 1 (.tmp 47) (.tmp 48)⟩,
    ⟨(some 50), none, .load none (.tmp 49)⟩,
    ⟨(some 51), none, .indexAddr 1 (.tmp 45) (.tmp 46)⟩,
    ⟨none, none, .store 1 (.tmp 51) (.tmp 50)⟩]

def f14r11 : List AInstr := [
    ⟨(some 52), none, .mov (.tmp 3)⟩,
    ⟨(some 53), none, .ibin .add (.tmp 52) (.const (.int .i64 1))⟩,
    ⟨(some 3), none, .mov (.tmp 53)⟩]

def f14r12 : List AInstr := [
    ⟨(some 33), none, .mov (.tmp 5)⟩,
    ⟨(some 34), none, .ibin .add (.tmp 33) (.const (.int .i64 1))⟩,
    ⟨(some 5), none, .mov (.tmp 34)⟩]

/-- live: [0, 3, 4, 5] -/
def f14l0 : ACode := (.seq (.seq (.ops f14r8)
  (.keep [0, 3, 4, 5, 32] (.cond (.tmp 32) .skip (.exit 2))))
  (.keep [0, 3, 4, 5] (.seq (.block 3 (.seq (.draw f14r9 [(0, 0, false), (0, 0, false), (0, 0, false), (0, 0, false), (0, 0, false), (0, 0, false), (0, 0, false), (0, 0, false), (0, 0, false), (0, 0, false)])
  (.keep [0, 3, 4, 5, 44] (.cond (.tmp 44) (.keep [0, 3, 4, 5] (.seq (.ops f14r10)
  (.keep [0, 3, 4, 5] (.ops f14r11)))) .skip))))
  (.keep [0, 3, 4, 5] (.ops f14r12)))))

def f14r14 : List AInstr := [
    ⟨(some 54), none, .mov (.tmp 0)⟩,
    ⟨(some 55), none, .mov (.tmp 3)⟩,
    ⟨(some 56), none, .slice 1 (.tmp 54) (some (.tmp 55)) none none⟩,
    ⟨none, none, .clearS 1 [.int .i64 0] (.tmp 56)⟩]

def f14r15 : List AInstr := [
    ⟨(some 57), none, .mov (.tmp 0)⟩,
    ⟨(some 58), none, .mov (.tmp 3)⟩,
    ⟨(some 59), none, .slice 1 (.tmp 57) none (some (.tmp 58)) none⟩,
    ⟨(some 2), none, .mov (.tmp 59)⟩]

def f14r16 : List AInstr := [
    ⟨(some 14), none, .mov (.tmp 3)⟩,
    ⟨(some 15), none, .ibin .add (.tmp 14) (.const (.int .i64 1))⟩,
    ⟨(some 3), none, .mov (.tmp 15)⟩]

/-- live: [0, 3] -/
def f14l1 : ACode := (.seq (.seq (.ops f14r4)
  (.keep [0, 3, 13] (.cond (.tmp 13) .skip (.exit 0))))
  (.keep [0, 3] (.seq (.block 1 (.seq (.draw f14r5 [(0, 0, false), (0, 0, false), (0, 0, false), (0, 0, false), (0, 0, false), (0, 0, false), (0, 0, false), (0, 0, false), (0, 0, false), (0, 0, false)])
  (.keep [0, 3, 25] (.cond (.tmp 25) (.keep [0, 3] (.seq (.ops f14r6)
  (.keep [0, 3, 4] (.seq (.seq (.ops f14r7)
  (.keep [0, 3, 4, 5] (.block 2 (.loop f14l0))))
  (.keep [0, 3] (.seq (.ops f14r14)
  (.keep [0, 3] (.seq (.ops f14r15)
  (.keep [2] .ret))))))))) .skip))))
  (.keep [0, 3] (.ops f14r16)))))

def f14r18 : List AInstr := [
    ⟨(some 60), none, .mov (.tmp 0)⟩,
    ⟨(some 2), none, .mov (.tmp 60)⟩]

def f14b : ACode := (.seq (.ops f14r0)
  (.keep [0] (.seq (.seq (.ops f14r1)
  (.keep [0, 8] (.cond (.tmp 8) (.keep [0] (.seq (.ops f14r2)
  (.keep [2] .ret))) .skip)))
  (.keep [0] (.seq (.seq (.ops f14r3)
  (.keep [0, 3] (.block 0 (.loop f14l1))))
  (.keep [0] (.seq (.ops f14r18)
  (.keep [2] .ret))))))))

def f14 : AFn := ⟨61, [.tmp 2], f14b⟩

theorem f14_ok : compFn Try.prog 14 = some f14.strip := by kernel_rfl

/- function 15: slices.Sorted[int]; parameters 1; operations that are not compiled: 0 -/
def f15r0 : List AInstr := [
    ⟨(some 2), none, .mov (.const (.slice none 0 0))⟩]

def f15r1 : List AInstr := [
    ⟨(some 4), none, .mov (.tmp 0)⟩,
    ⟨(some 5), none, .callF 23 [.tmp 4]⟩,
    ⟨(some 3), none, .mov (.tmp 5)⟩]

def f15r2 : List AInstr := [
    ⟨(some 6), none, .mov (.tmp 3)⟩,
    ⟨(some 7), none, .callF 21 [.tmp 6]⟩]

def f15r3 : List AInstr := [
    ⟨(some 8), none, .mov (.tmp 3)⟩,
    ⟨(some 2), none, .mov (.tmp 8)⟩]

def f15b : ACode := (.seq (.ops f15r0)
  (.keep [0] (.seq (.ops f15r1)
  (.keep [3] (.seq (.ops f15r2)
  (.keep [3] (.seq (.ops f15r3)
  (.keep [2] .ret))))))))

def f15 : AFn := ⟨9, [.tmp 2], f15b⟩

theorem f15_ok : compFn Try.prog 15 = some f15.strip := by kernel_rfl

/- function 16: slices.Values[[]int,int]; parameters 1; operations that are not compiled: 0 -/
def f16r0 : List AInstr := [
    ⟨(some 1), none, .box (.tmp 0)⟩,
    ⟨(some 2), none, .mov (.const (.nilFunc))⟩]

def f16r1 : List AInstr := [
    ⟨(some 3), none, .func (.func 24) [] [.tmp 1]⟩,
    ⟨(some 2), none, .mov (.tmp 3)⟩]

def f16b : ACode := (.seq (.ops f16r0)
  (.keep [1] (.seq (.ops f16r1)
  (.keep [2] .ret))))

def f16 : AFn := ⟨4, [.tmp 2], f16b⟩

theorem f16_ok : compFn Try.prog 16 = some f16.strip := by kernel_rfl

/- function 17: weirhouse/heavy.Add; parameters 3; operations that are not compiled: 0 -/
def f17r0 : List AInstr := [
    ⟨(some 6), none, .mov (.const (.slice none 0 0))⟩,
    ⟨(some 7), none, .mov (.const (.int .i64 0))⟩]

def f17r1 : List AInstr := [
    ⟨(some 11), none, .mov (.tmp 0)⟩,
    ⟨(some 12), none, .mov (.tmp 1)⟩,
    ⟨(some 13), none, .callF 11 [.tmp 11, .tmp 12]⟩,
    ⟨(some 14), none, .un .not (.tmp 13)⟩]

def f17r2 : List AInstr := [
    ⟨(some 6), none, .mov (.const (.slice none 0 0))⟩,
    ⟨(some 7), none, .mov (.const (.int .i64 1))⟩]

def f17r3 : List AInstr := [
    ⟨(some 16), none, .mov (.tmp 1)⟩,
    ⟨(some 17), none, .mov (.tmp 2)⟩,
    ⟨(some 18), none, .callF 25 [.tmp 16, .tmp 17, .const (.func (.func 26) #[] #[])]⟩,
    ⟨(some 15), none, .mov (.tmp 18)⟩,
    ⟨(some 19), none, .extract 0 (.tmp 15)⟩,
    ⟨(some 20), none, .extract 1 (.tmp 15)⟩,
    ⟨(some 8), none, .mov (.tmp 19)⟩,
    ⟨(some 9), none, .mov (.tmp 20)⟩]

def f17r4 : List AInstr := [
    ⟨(some 22), none, .mov (.tmp 9)⟩,
    ⟨(some 23), none, .mov (.tmp 22)⟩,
    ⟨(some 24), (some (23, true)), .mov (.tmp 1)⟩,
    ⟨(some 25), (some (23, true)), .mov (.tmp 8)⟩,
    ⟨(some 26), (some (23, true)), .indexAddr 2 (.tmp 24) (.tmp 25)⟩,
    ⟨(some 27), (some (23, true)), .fieldAddr 1 (.tmp 26)⟩,
    ⟨(some 28), (some (23, true)), .load none (.tmp 27)⟩,
    ⟨(some 29), (some (23, true)), .ibin .eql (.tmp 28) (.const (.int .i64 1099511627776))⟩,
    ⟨(some 30), none, .pick (.tmp 23) (.tmp 29) (.const (.bool false))⟩,
    ⟨(some 21), none, .mov (.tmp 30)⟩]

def f17r5 : List AInstr := [
    ⟨(some 6), none, .mov (.const (.slice none 0 0))⟩,
    ⟨(some 7), none, .mov (.const (.int .i64 4))⟩]

def f17r6 : List AInstr := [
    ⟨(some 32), none, .mov (.tmp 9)⟩,
    ⟨(some 31), none, .mov (.tmp 32)⟩]

def f17r7 : List AInstr := [
    ⟨(some 33), none, .mov (.tmp 1)⟩,
    ⟨(some 34), none, .callF 27 [.tmp 33]⟩,
    ⟨(some 10), none, .mov (.tmp 34)⟩]

def f17r8 : List AInstr := [
    ⟨(some 35), none, .mov (.tmp 10)⟩,
    ⟨(some 36), none, .mov (.tmp 8)⟩,
    ⟨(some 37), none, .indexAddr 2 (.tmp 35) (.tmp 36)⟩,
    ⟨(some 38), none, .fieldAddr 1 (.tmp 37)⟩,
    ⟨(some 39), none, .load none (.tmp 38)⟩,
    ⟨(some 40), none, .ibin .add (.tmp 39) (.const (.int .i64 1))⟩,
    ⟨(some 41), none, .indexAddr 2 (.tmp 35) (.tmp 36)⟩,
    ⟨(some 42), none, .fieldAddr 1 (.tmp 41)⟩,
    ⟨none, none, .store 1 (.tmp 42) (.tmp 40)⟩]

def f17r9 : List AInstr := [
    ⟨(some 43), none, .mov (.tmp 10)⟩,
    ⟨(some 6), none, .mov (.tmp 43)⟩,
    ⟨(some 7), none, .mov (.const (.int .i64 0))⟩]

def f17r10 : List AInstr := [
    ⟨(some 45), none, .mov (.tmp 1)⟩,
    ⟨(some 46), none, .len (.tmp 45)⟩,
    ⟨(some 47), none, .mov (.tmp 0)⟩,
    ⟨(some 48), none, .ibin .lss (.tmp 46) (.tmp 47)⟩,
    ⟨(some 44), none, .mov (.tmp 48)⟩]

def f17r11 : List AInstr := [
    ⟨(some 49), none, .mov (.tmp 1)⟩,
    ⟨(some 50), none, .callF 27 [.tmp 49]⟩,
    ⟨(some 51), none, .mov (.tmp 8)⟩,
    ⟨(some 52), none, .mov (.tmp 2)⟩,
    ⟨(some 53), none, .build [.int .i64 0, .int .i64 0] [(0, 1, (.tmp 52)), (1, 1, (.const (.int .i64 1)))]⟩,
    ⟨(some 54), none, .buildSlice 2 1 [.int .i64 0, .int .i64 0] [(0, 2, (.tmp 53))]⟩,
    ⟨(some 55), none, .callF 28 [.tmp 50, .tmp 51, .tmp 54]⟩,
    ⟨(some 6), none, .mov (.tmp 55)⟩,
    ⟨(some 7), none, .mov (.const (.int .i64 0))⟩]

def f17r12 : List AInstr := [
    ⟨(some 56), none, .mov (.tmp 1)⟩,
    ⟨(some 57), none, .callF 22 [.tmp 56, .const (.int .i64 1)]⟩,
    ⟨(some 6), none, .mov (.tmp 57)⟩,
    ⟨(some 7), none, .mov (.const (.int .i64 0))⟩]

def f17b : ACode := (.seq (.ops f17r0)
  (.keep [0, 1, 2] (.seq (.seq (.ops f17r1)
  (.keep [0, 1, 2, 14] (.cond (.tmp 14) (.keep [] (.seq (.ops f17r2)
  (.keep [6, 7] .ret))) .skip)))
  (.keep [0, 1, 2] (.seq (.ops f17r3)
  (.keep [0, 1, 2, 8, 9] (.seq (.block 0 (.seq (.ops f17r4)
  (.keep [0, 1, 2, 8, 9, 21] (.cond (.tmp 21) (.keep [] (.seq (.ops f17r5)
  (.keep [6, 7] .ret))) (.keep [0, 1, 2, 8, 9] (.seq (.ops f17r6)
  (.keep [0, 1, 2, 8, 31] (.cond (.tmp 31) (.keep [1, 8] (.seq (.ops f17r7)
  (.keep [8, 10] (.seq (.ops f17r8)
  (.keep [10] (.seq (.ops f17r9)
  (.keep [6, 7] .ret))))))) (.keep [0, 1, 2, 8] (.seq (.ops f17r10)
  (.keep [1, 2, 8, 44] (.cond (.tmp 44) (.keep [1, 2, 8] (.seq (.ops f17r11)
  (.keep [6, 7] .ret))) .skip))))))))))))
  (.keep [1] (.seq (.ops f17r12)
  (.keep [6, 7] .ret))))))))))

def f17 : AFn := ⟨58, [.tmp 6, .tmp 7], f17b⟩

theorem f17_ok : compFn Try.prog 17 = some f17.strip := by kernel_rfl

/- function 18: slices.Concat[[]weirhouse/api.Count,weirhouse/api.Count]; parameters 1; operations that are not compiled: 2 -/
def f18r0 : List AInstr := [
    ⟨(some 2), none, .mov (.const (.slice none 0 0))⟩]

def f18r1 : List AInstr := [
    ⟨(some 3), none, .mov (.const (.int .i64 0))⟩]

def f18r2 : List AInstr := [
    ⟨(some 9), none, .mov (.tmp 0)⟩,
    ⟨(some 10), none, .len (.tmp 9)⟩,
    ⟨(some 11), none, .mov (.const (.int .i64 0))⟩]

def f18r3 : List AInstr := [
    ⟨(some 12), none, .ibin .lss (.tmp 11) (.tmp 10)⟩]

def f18r4 : List AInstr := [
    ⟨(some 13), none, .indexAddr 1 (.tmp 9) (.tmp 11)⟩,
    ⟨(some 14), none, .load none (.tmp 13)⟩,
    ⟨(some 5), none, .mov (.tmp 14)⟩]

def f18r5 : List AInstr := [
    ⟨(some 15), none, .mov (.tmp 3)⟩,
    ⟨(some 16), none, .mov (.tmp 5)⟩,
    ⟨(some 17), none, .len (.tmp 16)⟩,
    ⟨(some 18), none, .ibin .add (.tmp 15) (.tmp 17)⟩,
    ⟨(some 3), none, .mov (.tmp 18)⟩]

def f18r6 : List AInstr := [
    ⟨(some 19), none, .mov (.tmp 3)⟩,
    ⟨(some 20), none, .ibin .lss (.tmp 19) (.const (.int .i64 0))⟩]

def f18r7 : List AInstr := [
    ⟨(some 21), none, .bad⟩,
    ⟨none, none, .bad⟩]

def f18r8 : List AInstr := [
    ⟨(some 22), none, .ibin .add (.tmp 11) (.const (.int .i64 1))⟩,
    ⟨(some 11), none, .mov (.tmp 22)⟩]

/-- live: [0, 3, 9, 10, 11] -/
def f18l0 : ACode := (.seq (.ops f18r3)
  (.keep [0, 3, 9, 10, 11, 12] (.seq (.cond (.tmp 12) .skip (.exit 0))
  (.keep [0, 3, 9, 10, 11] (.seq (.block 1 (.seq (.ops f18r4)
  (.keep [0, 3, 5, 9, 10, 11] (.seq (.ops f18r5)
  (.keep [0, 3, 9, 10, 11] (.seq (.ops f18r6)
  (.keep [0, 3, 9, 10, 11, 20] (.cond (.tmp 20) (.keep [0, 3, 9, 10, 11] (.ops f18r7)) .skip))))))))
  (.keep [0, 3, 9, 10, 11] (.ops f18r8)))))))

def f18r10 : List AInstr := [
    ⟨(some 23), none, .mov (.tmp 3)⟩,
    ⟨(some 24), none, .callF 29 [.const (.slice none 0 0), .tmp 23]⟩,
    ⟨(some 6), none, .mov (.tmp 24)⟩]

def f18r11 : List AInstr := [
    ⟨(some 25), none, .mov (.tmp 0)⟩,
    ⟨(some 26), none, .len (.tmp 25)⟩,
    ⟨(some 27), none, .mov (.const (.int .i64 0))⟩]

def f18r12 : List AInstr := [
    ⟨(some 28), none, .ibin .lss (.tmp 27) (.tmp 26)⟩]

def f18r13 : List AInstr := [
    ⟨(some 29), none, .indexAddr 1 (.tmp 25) (.tmp 27)⟩,
    ⟨(some 30), none, .load none (.tmp 29)⟩,
    ⟨(some 8), none, .mov (.tmp 30)⟩]

def f18r14 : List AInstr := [
    ⟨(some 31), none, .mov (.tmp 6)⟩,
    ⟨(some 32), none, .mov (.tmp 8)⟩,
    ⟨(some 33), none, .append 2 16 (.tmp 31) (.tmp 32)⟩,
    ⟨(some 6), none, .mov (.tmp 33)⟩]

def f18r15 : List AInstr := [
    ⟨(some 34), none, .ibin .add (.tmp 27) (.const (.int .i64 1))⟩,
    ⟨(some 27), none, .mov (.tmp 34)⟩]

/-- live: [6, 25, 26, 27] -/
def f18l1 : ACode := (.seq (.ops f18r12)
  (.keep [6, 25, 26, 27, 28] (.seq (.cond (.tmp 28) .skip (.exit 2))
  (.keep [6, 25, 26, 27] (.seq (.block 3 (.seq (.ops f18r13)
  (.keep [6, 8, 25, 26, 27] (.ops f18r14))))
  (.keep [6, 25, 26, 27] (.ops f18r15)))))))

def f18r17 : List AInstr := [
    ⟨(some 35), none, .mov (.tmp 6)⟩,
    ⟨(some 2), none, .mov (.tmp 35)⟩]

def f18b : ACode := (.seq (.ops f18r0)
  (.keep [0] (.seq (.ops f18r1)
  (.keep [0, 3] (.seq (.seq (.ops f18r2)
  (.keep [0, 3, 9, 10, 11] (.block 0 (.loop f18l0))))
  (.keep [0, 3] (.seq (.ops f18r10)
  (.keep [0, 6] (.seq (.seq (.ops f18r11)
  (.keep [6, 25, 26, 27] (.block 2 (.loop f18l1))))
  (.keep [6] (.seq (.ops f18r17)
  (.keep [2] .ret))))))))))))

def f18 : AFn := ⟨36, [.tmp 2], f18b⟩

theorem f18_ok : compFn Try.prog 18 = some f18.strip := by kernel_rfl

/- function 19: slices.SortFunc[[]weirhouse/api.Count,weirhouse/api.Count]; parameters 2; operations that are not compiled: 0 -/
def f19r0 : List AInstr := [
    ⟨(some 5), none, .mov (.tmp 0)⟩,
    ⟨(some 6), none, .len (.tmp 5)⟩,
    ⟨(some 4), none, .mov (.tmp 6)⟩]

def f19r1 : List AInstr := [
    ⟨(some 7), none, .mov (.tmp 0)⟩,
    ⟨(some 8), none, .mov (.tmp 4)⟩,
    ⟨(some 9), none, .mov (.tmp 4)⟩,
    ⟨(some 10), none, .conv .u64 (.tmp 9)⟩,
    ⟨(some 11), none, .callF 31 [.tmp 10]⟩,
    ⟨(some 12), none, .mov (.tmp 1)⟩,
    ⟨(some 13), none, .callF 30 [.tmp 7, .const (.int .i64 0), .tmp 8, .tmp 11, .tmp 12]⟩]

def f19b : ACode := (.seq (.ops f19r0)
  (.keep [0, 1, 4] (.ops f19r1)))

def f19 : AFn := ⟨14, [], f19b⟩

theorem f19_ok : compFn Try.prog 19 = some f19.strip := by kernel_rfl

/- function 20: weirhouse/heavy.Join$1; parameters 2; operations that are not compiled: 0 -/
def f20r0 : List AInstr := [
    ⟨(some 2), none, .box (.tmp 0)⟩,
    ⟨(some 3), none, .box (.tmp 1)⟩,
    ⟨(some 4), none, .mov (.const (.int .i64 0))⟩]

def f20r1 : List AInstr := [
    ⟨(some 5), none, .fieldAddr 0 (.tmp 2)⟩,
    ⟨(some 6), none, .load none (.tmp 5)⟩,
    ⟨(some 7), none, .fieldAddr 0 (.tmp 3)⟩,
    ⟨(some 8), none, .load none (.tmp 7)⟩,
    ⟨(some 9), none, .ibin .lss (.tmp 6) (.tmp 8)⟩]

def f20r2 : List AInstr := [
    ⟨(some 4), none, .mov (.const (.int .i64 (-1)))⟩]

def f20r3 : List AInstr := [
    ⟨(some 4), none, .mov (.const (.int .i64 1))⟩]

def f20b : ACode := (.seq (.ops f20r0)
  (.keep [2, 3] (.seq (.seq (.ops f20r1)
  (.keep [9] (.cond (.tmp 9) (.keep [] (.seq (.ops f20r2)
  (.keep [4] .ret))) .skip)))
  (.keep [] (.seq (.ops f20r3)
  (.keep [4] .ret))))))

def f20 : AFn := ⟨10, [.tmp 4], f20b⟩

theorem f20_ok : compFn Try.prog 20 = some f20.strip := by kernel_rfl

/- function 21: slices.Sort[[]int,int]; parameters 1; operations that are not compiled: 0 -/
def f21r0 : List AInstr := [
    ⟨(some 3), none, .mov (.tmp 0)⟩,
    ⟨(some 4), none, .len (.tmp 3)⟩,
    ⟨(some 2), none, .mov (.tmp 4)⟩]

def f21r1 : List AInstr := [
    ⟨(some 5), none, .mov (.tmp 0)⟩,
    ⟨(some 6), none, .mov (.tmp 2)⟩,
    ⟨(some 7), none, .mov (.tmp 2)⟩,
    ⟨(some 8), none, .conv .u64 (.tmp 7)⟩,
    ⟨(some 9), none, .callF 31 [.tmp 8]⟩,
    ⟨(some 10), none, .callF 32 [.tmp 5, .const (.int .i64 0), .tmp 6, .tmp 9]⟩]

def f21b : ACode := (.seq (.ops f21r0)
  (.keep [0, 2] (.ops f21r1)))

def f21 : AFn := ⟨11, [], f21b⟩

theorem f21_ok : compFn Try.prog 21 = some f21.strip := by kernel_rfl

/- function 22: weirhouse/heavy.less; parameters 2; operations that are not compiled: 0 -/
def f22r0 : List AInstr := [
    ⟨(some 4), none, .mov (.const (.slice none 0 0))⟩]

def f22r1 : List AInstr := [
    ⟨(some 5), none, .mov (.const (.slice none 0 0))⟩]

def f22r2 : List AInstr := [
    ⟨(some 8), none, .mov (.tmp 0)⟩,
    ⟨(some 9), none, .len (.tmp 8)⟩,
    ⟨(some 10), none, .mov (.const (.int .i64 0))⟩]

def f22r3 : List AInstr := [
    ⟨(some 11), none, .ibin .lss (.tmp 10) (.tmp 9)⟩]

def f22r4 : List AInstr := [
    ⟨(some 12), none, .indexAddr 2 (.tmp 8) (.tmp 10)⟩,
    ⟨(some 13), none, .load (some 2) (.tmp 12)⟩,
    ⟨(some 7), none, .alloc [.int .i64 0, .int .i64 0]⟩,
    ⟨none, none, .store 2 (.tmp 7) (.tmp 13)⟩]

def f22r5 : List AInstr := [
    ⟨(some 14), none, .fieldAddr 1 (.tmp 7)⟩,
    ⟨(some 15), none, .load none (.tmp 14)⟩,
    ⟨(some 16), none, .mov (.tmp 1)⟩,
    ⟨(some 17), none, .ibin .gtr (.tmp 15) (.tmp 16)⟩]

def f22r6 : List AInstr := [
    ⟨(some 18), none, .mov (.tmp 5)⟩,
    ⟨(some 19), none, .fieldAddr 0 (.tmp 7)⟩,
    ⟨(some 20), none, .load none (.tmp 19)⟩,
    ⟨(some 21), none, .fieldAddr 1 (.tmp 7)⟩,
    ⟨(some 22), none, .load none (.tmp 21)⟩,
    ⟨(some 23), none, .mov (.tmp 1)⟩,
    ⟨(some 24), none, .ibin .sub (.tmp 22) (.tmp 23)⟩,
    ⟨(some 25), none, .build [.int .i64 0, .int .i64 0] [(0, 1, (.tmp 20)), (1, 1, (.tmp 24))]⟩,
    ⟨(some 26), none, .buildSlice 2 1 [.int .i64 0, .int .i64 0] [(0, 2, (.tmp 25))]⟩,
    ⟨(some 27), none, .append 2 16 (.tmp 18) (.tmp 26)⟩,
    ⟨(some 5), none, .mov (.tmp 27)⟩]

def f22r7 : List AInstr := [
    ⟨(some 28), none, .ibin .add (.tmp 10) (.const (.int .i64 1))⟩,
    ⟨(some 10), none, .mov (.tmp 28)⟩]

/-- live: [1, 5, 8, 9, 10] -/
def f22l0 : ACode := (.seq (.ops f22r3)
  (.keep [1, 5, 8, 9, 10, 11] (.seq (.cond (.tmp 11) .skip (.exit 0))
  (.keep [1, 5, 8, 9, 10] (.seq (.block 1 (.seq (.ops f22r4)
  (.keep [1, 5, 7, 8, 9, 10] (.seq (.ops f22r5)
  (.keep [1, 5, 7, 8, 9, 10, 17] (.cond (.tmp 17) (.keep [1, 5, 7, 8, 9, 10] (.ops f22r6)) .skip))))))
  (.keep [1, 5, 8, 9, 10] (.ops f22r7)))))))

def f22r9 : List AInstr := [
    ⟨(some 29), none, .mov (.tmp 5)⟩,
    ⟨(some 4), none, .mov (.tmp 29)⟩]

def f22b : ACode := (.seq (.ops f22r0)
  (.keep [0, 1] (.seq (.ops f22r1)
  (.keep [0, 1, 5] (.seq (.seq (.ops f22r2)
  (.keep [1, 5, 8, 9, 10] (.block 0 (.loop f22l0))))
  (.keep [5] (.seq (.ops f22r9)
  (.keep [4] .ret))))))))

def f22 : AFn := ⟨30, [.tmp 4], f22b⟩

theorem f22_ok : compFn Try.prog 22 = some f22.strip := by kernel_rfl

/- function 23: slices.Collect[int]; parameters 1; operations that are not compiled: 0 -/
def f23r0 : List AInstr := [
    ⟨(some 2), none, .mov (.const (.slice none 0 0))⟩]

def f23r1 : List AInstr := [
    ⟨(some 3), none, .mov (.tmp 0)⟩,
    ⟨(some 4), none, .callF 33 [.const (.slice none 0 0), .tmp 3]⟩,
    ⟨(some 2), none, .mov (.tmp 4)⟩]

def f23b : ACode := (.seq (.ops f23r0)
  (.keep [0] (.seq (.ops f23r1)
  (.keep [2] .ret))))

def f23 : AFn := ⟨5, [.tmp 2], f23b⟩

theorem f23_ok : compFn Try.prog 23 = some f23.strip := by kernel_rfl

/- function 24: slices.Values[[]int,int]$1; parameters 1; operations that are not compiled: 0 -/
def f24r0 : List AInstr := [
    ⟨(some 5), none, .load none (.tmp 1)⟩,
    ⟨(some 6), none, .len (.tmp 5)⟩,
    ⟨(some 7), none, .mov (.const (.int .i64 0))⟩]

def f24r1 : List AInstr := [
    ⟨(some 8), none, .ibin .lss (.tmp 7) (.tmp 6)⟩]

def f24r2 : List AInstr := [
    ⟨(some 9), none, .indexAddr 1 (.tmp 5) (.tmp 7)⟩,
    ⟨(some 10), none, .load none (.tmp 9)⟩,
    ⟨(some 4), none, .mov (.tmp 10)⟩]

def f24r3 : List AInstr := [
    ⟨(some 11), none, .mov (.tmp 0)⟩,
    ⟨(some 12), none, .mov (.tmp 4)⟩,
    ⟨(some 13), none, .callV (.tmp 11) [.tmp 12]⟩,
    ⟨(some 14), none, .un .not (.tmp 13)⟩]

def f24r4 : List AInstr := [
    ⟨(some 15), none, .ibin .add (.tmp 7) (.const (.int .i64 1))⟩,
    ⟨(some 7), none, .mov (.tmp 15)⟩]

/-- live: [0, 5, 6, 7] -/
def f24l0 : ACode := (.seq (.ops f24r1)
  (.keep [0, 5, 6, 7, 8] (.seq (.cond (.tmp 8) .skip (.exit 0))
  (.keep [0, 5, 6, 7] (.seq (.block 1 (.seq (.ops f24r2)
  (.keep [0, 4, 5, 6, 7] (.seq (.ops f24r3)
  (.keep [0, 5, 6, 7, 14] (.cond (.tmp 14) (.keep [] .ret) .skip))))))
  (.keep [0, 5, 6, 7] (.ops f24r4)))))))

def f24b : ACode := (.seq (.ops f24r0)
  (.keep [0, 5, 6, 7] (.block 0 (.loop f24l0))))

def f24 : AFn := ⟨16, [], f24b⟩

theorem f24_ok : compFn Try.prog 24 = some f24.strip := by kernel_rfl

/- function 25: slices.BinarySearchFunc[[]weirhouse/api.Count,weirhouse/api.Count,int]; parameters 3; operations that are not compiled: 0 -/
def f25r0 : List AInstr := [
    ⟨(some 6), none, .mov (.const (.int .i64 0))⟩,
    ⟨(some 7), none, .mov (.const (.bool false))⟩]

def f25r1 : List AInstr := [
    ⟨(some 12), none, .mov (.tmp 0)⟩,
    ⟨(some 13), none, .len (.tmp 12)⟩,
    ⟨(some 8), none, .mov (.tmp 13)⟩]

def f25r2 : List AInstr := [
    ⟨(some 14), none, .mov (.tmp 8)⟩,
    ⟨(some 9), none, .mov (.const (.int .i64 0))⟩,
    ⟨(some 10), none, .mov (.tmp 14)⟩]

def f25r3 : List AInstr := [
    ⟨(some 15), none, .mov (.tmp 9)⟩,
    ⟨(some 16), none, .mov (.tmp 10)⟩,
    ⟨(some 17), none, .ibin .lss (.tmp 15) (.tmp 16)⟩]

def f25r4 : List AInstr := [
    ⟨(some 18), none, .mov (.tmp 9)⟩,
    ⟨(some 19), none, .mov (.tmp 10)⟩,
    ⟨(some 20), none, .ibin .add (.tmp 18) (.tmp 19)⟩,
    ⟨(some 21), none, .conv .u64 (.tmp 20)⟩,
    ⟨(some 22), none, .ibin .shr (.tmp 21) (.const (.int .u64 1))⟩,
    ⟨(some 23), none, .conv .i64 (.tmp 22)⟩,
    ⟨(some 11), none, .mov (.tmp 23)⟩]

def f25r5 : List AInstr := [
    ⟨(some 24), none, .mov (.tmp 2)⟩,
    ⟨(some 25), none, .mov (.tmp 0)⟩,
    ⟨(some 26), none, .mov (.tmp 11)⟩,
    ⟨(some 27), none, .indexAddr 2 (.tmp 25) (.tmp 26)⟩,
    ⟨(some 28), none, .load (some 2) (.tmp 27)⟩,
    ⟨(some 29), none, .mov (.tmp 1)⟩,
    ⟨(some 30), none, .callV (.tmp 24) [.tmp 28, .tmp 29]⟩,
    ⟨(some 31), none, .ibin .lss (.tmp 30) (.const (.int .i64 0))⟩]

def f25r6 : List AInstr := [
    ⟨(some 32), none, .mov (.tmp 11)⟩,
    ⟨(some 33), none, .ibin .add (.tmp 32) (.const (.int .i64 1))⟩,
    ⟨(some 9), none, .mov (.tmp 33)⟩]

def f25r7 : List AInstr := [
    ⟨(some 34), none, .mov (.tmp 11)⟩,
    ⟨(some 10), none, .mov (.tmp 34)⟩]

/-- live: [0, 1, 2, 8, 9, 10] -/
def f25l0 : ACode := (.seq (.seq (.ops f25r3)
  (.keep [0, 1, 2, 8, 9, 10, 17] (.cond (.tmp 17) .skip (.exit 0))))
  (.keep [0, 1, 2, 8, 9, 10] (.block 1 (.seq (.ops f25r4)
  (.keep [0, 1, 2, 8, 9, 10, 11] (.seq (.ops f25r5)
  (.keep [0, 1, 2, 8, 9, 10, 11, 31] (.cond (.tmp 31) (.keep [0, 1, 2, 8, 10, 11] (.ops f25r6)) (.keep [0, 1, 2, 8, 9, 11] (.ops f25r7))))))))))

def f25r9 : List AInstr := [
    ⟨(some 35), none, .mov (.tmp 9)⟩,
    ⟨(some 36), none, .mov (.tmp 9)⟩,
    ⟨(some 37), none, .mov (.tmp 8)⟩,
    ⟨(some 38), none, .ibin .lss (.tmp 36) (.tmp 37)⟩,
    ⟨(some 39), none, .mov (.tmp 38)⟩,
    ⟨(some 40), (some (39, true)), .mov (.tmp 2)⟩,
    ⟨(some 41), (some (39, true)), .mov (.tmp 0)⟩,
    ⟨(some 42), (some (39, true)), .mov (.tmp 9)⟩,
    ⟨(some 43), (some (39, true)), .indexAddr 2 (.tmp 41) (.tmp 42)⟩,
    ⟨(some 44), (some (39, true)), .load (some 2) (.tmp 43)⟩,
    ⟨(some 45), (some (39, true)), .mov (.tmp 1)⟩,
    ⟨(some 46), (some (39, true)), .callV (.tmp 40) [.tmp 44, .tmp 45]⟩,
    ⟨(some 47), (some (39, true)), .ibin .eql (.tmp 46) (.const (.int .i64 0))⟩,
    ⟨(some 48), none, .pick (.tmp 39) (.tmp 47) (.const (.bool false))⟩,
    ⟨(some 6), none, .mov (.tmp 35)⟩,
    ⟨(some 7), none, .mov (.tmp 48)⟩]

def f25b : ACode := (.seq (.ops f25r0)
  (.keep [0, 1, 2] (.seq (.ops f25r1)
  (.keep [0, 1, 2, 8] (.seq (.ops f25r2)
  (.keep [0, 1, 2, 8, 9, 10] (.seq (.block 0 (.loop f25l0))
  (.keep [0, 1, 2, 8, 9] (.seq (.ops f25r9)
  (.keep [6, 7] .ret))))))))))

def f25 : AFn := ⟨49, [.tmp 6, .tmp 7], f25b⟩

theorem f25_ok : compFn Try.prog 25 = some f25.strip := by kernel_rfl

/- function 26: weirhouse/heavy.Add$1; parameters 2; operations that are not compiled: 0 -/
def f26r0 : List AInstr := [
    ⟨(some 2), none, .box (.tmp 0)⟩,
    ⟨(some 4), none, .mov (.const (.int .i64 0))⟩]

def f26r1 : List AInstr := [
    ⟨(some 6), none, .fieldAddr 0 (.tmp 2)⟩,
    ⟨(some 7), none, .load none (.tmp 6)⟩,
    ⟨(some 8), none, .mov (.tmp 1)⟩,
    ⟨(some 9), none, .ibin .lss (.tmp 7) (.tmp 8)⟩,
    ⟨(some 5), none, .mov (.tmp 9)⟩]

def f26r2 : List AInstr := [
    ⟨(some 4), none, .mov (.const (.int .i64 (-1)))⟩]

def f26r3 : List AInstr := [
    ⟨(some 11), none, .fieldAddr 0 (.tmp 2)⟩,
    ⟨(some 12), none, .load none (.tmp 11)⟩,
    ⟨(some 13), none, .mov (.tmp 1)⟩,
    ⟨(some 14), none, .ibin .gtr (.tmp 12) (.tmp 13)⟩,
    ⟨(some 10), none, .mov (.tmp 14)⟩]

def f26r4 : List AInstr := [
    ⟨(some 4), none, .mov (.const (.int .i64 1))⟩]

def f26r5 : List AInstr := [
    ⟨(some 4), none, .mov (.const (.int .i64 0))⟩]

def f26b : ACode := (.seq (.ops f26r0)
  (.keep [1, 2] (.seq (.block 0 (.seq (.ops f26r1)
  (.keep [1, 2, 5] (.cond (.tmp 5) (.keep [] (.seq (.ops f26r2)
  (.keep [4] .ret))) (.keep [1, 2] (.seq (.ops f26r3)
  (.keep [10] (.cond (.tmp 10) (.keep [] (.seq (.ops f26r4)
  (.keep [4] .ret))) .skip))))))))
  (.keep [] (.seq (.ops f26r5)
  (.keep [4] .ret))))))

def f26 : AFn := ⟨15, [.tmp 4], f26b⟩

theorem f26_ok : compFn Try.prog 26 = some f26.strip := by kernel_rfl

/- function 27: slices.Clone[[]weirhouse/api.Count,weirhouse/api.Count]; parameters 1; operations that are not compiled: 0 -/
def f27r0 : List AInstr := [
    ⟨(some 2), none, .mov (.const (.slice none 0 0))⟩]

def f27r1 : List AInstr := [
    ⟨(some 3), none, .mov (.tmp 0)⟩,
    ⟨(some 4), none, .eqS false (.tmp 3) (.const (.slice none 0 0))⟩]

def f27r2 : List AInstr := [
    ⟨(some 2), none, .mov (.const (.slice none 0 0))⟩]

def f27r3 : List AInstr := [
    ⟨(some 5), none, .buildSlice 2 0 [] []⟩,
    ⟨(some 6), none, .mov (.tmp 0)⟩,
    ⟨(some 7), none, .append 2 16 (.tmp 5) (.tmp 6)⟩,
    ⟨(some 2), none, .mov (.tmp 7)⟩]

def f27b : ACode := (.seq (.ops f27r0)
  (.keep [0] (.seq (.seq (.ops f27r1)
  (.keep [0, 4] (.cond (.tmp 4) (.keep [] (.seq (.ops f27r2)
  (.keep [2] .ret))) .skip)))
  (.keep [0] (.seq (.ops f27r3)
  (.keep [2] .ret))))))

def f27 : AFn := ⟨8, [.tmp 2], f27b⟩

theorem f27_ok : compFn Try.prog 27 = some f27.strip := by kernel_rfl

/- function 28: slices.Insert[[]weirhouse/api.Count,weirhouse/api.Count]; parameters 3; operations that are not compiled: 0 -/
def f28r0 : List AInstr := [
    ⟨(some 6), none, .mov (.const (.slice none 0 0))⟩]

def f28r1 : List AInstr := [
    ⟨(some 10), none, .mov (.tmp 0)⟩,
    ⟨(some 11), none, .mov (.tmp 1)⟩,
    ⟨(some 12), none, .slice 2 (.tmp 10) (some (.tmp 11)) none none⟩]

def f28r2 : List AInstr := [
    ⟨(some 13), none, .mov (.tmp 2)⟩,
    ⟨(some 14), none, .len (.tmp 13)⟩,
    ⟨(some 7), none, .mov (.tmp 14)⟩]

def f28r3 : List AInstr := [
    ⟨(some 15), none, .mov (.tmp 7)⟩,
    ⟨(some 16), none, .ibin .eql (.tmp 15) (.const (.int .i64 0))⟩]

def f28r4 : List AInstr := [
    ⟨(some 17), none, .mov (.tmp 0)⟩,
    ⟨(some 6), none, .mov (.tmp 17)⟩]

def f28r5 : List AInstr := [
    ⟨(some 18), none, .mov (.tmp 0)⟩,
    ⟨(some 19), none, .len (.tmp 18)⟩,
    ⟨(some 8), none, .mov (.tmp 19)⟩]

def f28r6 : List AInstr := [
    ⟨(some 20), none, .mov (.tmp 1)⟩,
    ⟨(some 21), none, .mov (.tmp 8)⟩,
    ⟨(some 22), none, .ibin .eql (.tmp 20) (.tmp 21)⟩]

def f28r7 : List AInstr := [
    ⟨(some 23), none, .mov (.tmp 0)⟩,
    ⟨(some 24), none, .mov (.tmp 2)⟩,
    ⟨(some 25), none, .append 2 16 (.tmp 23) (.tmp 24)⟩,
    ⟨(some 6), none, .mov (.tmp 25)⟩]

def f28r8 : List AInstr := [
    ⟨(some 26), none, .mov (.tmp 8)⟩,
    ⟨(some 27), none, .mov (.tmp 7)⟩,
    ⟨(some 28), none, .ibin .add (.tmp 26) (.tmp 27)⟩,
    ⟨(some 29), none, .mov (.tmp 0)⟩,
    ⟨(some 30), none, .cap (.tmp 29)⟩,
    ⟨(some 31), none, .ibin .gtr (.tmp 28) (.tmp 30)⟩]

def f28r9 : List AInstr := [
    ⟨(some 32), none, .mov (.tmp 0)⟩,
    ⟨(some 33), none, .mov (.tmp 1)⟩,
    ⟨(some 34), none, .slice 2 (.tmp 32) none (some (.tmp 33)) none⟩,
    ⟨(some 35), none, .mov (.tmp 8)⟩,
    ⟨(some 36), none, .mov (.tmp 7)⟩,
    ⟨(some 37), none, .ibin .add (.tmp 35) (.tmp 36)⟩,
    ⟨(some 38), none, .mov (.tmp 1)⟩,
    ⟨(some 39), none, .ibin .sub (.tmp 37) (.tmp 38)⟩,
    ⟨(some 40), none, .appendZ 2 16 [.int .i64 0, .int .i64 0] (.tmp 34) (.tmp 39)⟩,
    ⟨(some 9), none, .mov (.tmp 40)⟩]

def f28r10 : List AInstr := [
    ⟨(some 41), none, .mov (.tmp 9)⟩,
    ⟨(some 42), none, .mov (.tmp 1)⟩,
    ⟨(some 43), none, .slice 2 (.tmp 41) (some (.tmp 42)) none none⟩,
    ⟨(some 44), none, .mov (.tmp 2)⟩,
    ⟨(some 45), none, .copy 2 (.tmp 43) (.tmp 44)⟩]

def f28r11 : List AInstr := [
    ⟨(some 46), none, .mov (.tmp 9)⟩,
    ⟨(some 47), none, .mov (.tmp 1)⟩,
    ⟨(some 48), none, .mov (.tmp 7)⟩,
    ⟨(some 49), none, .ibin .add (.tmp 47) (.tmp 48)⟩,
    ⟨(some 50), none, .slice 2 (.tmp 46) (some (.tmp 49)) none none⟩,
    ⟨(some 51), none, .mov (.tmp 0)⟩,
    ⟨(some 52), none, .mov (.tmp 1)⟩,
    ⟨(some 53), none, .slice 2 (.tmp 51) (some (.tmp 52)) none none⟩,
    ⟨(some 54), none, .copy 2 (.tmp 50) (.tmp 53)⟩]

def f28r12 : List AInstr := [
    ⟨(some 55), none, .mov (.tmp 9)⟩,
    ⟨(some 6), none, .mov (.tmp 55)⟩]

def f28r13 : List AInstr := [
    ⟨(some 56), none, .mov (.tmp 0)⟩,
    ⟨(some 57), none, .mov (.tmp 8)⟩,
    ⟨(some 58), none, .mov (.tmp 7)⟩,
    ⟨(some 59), none, .ibin .add (.tmp 57) (.tmp 58)⟩,
    ⟨(some 60), none, .slice 2 (.tmp 56) none (some (.tmp 59)) none⟩,
    ⟨(some 0), none, .mov (.tmp 60)⟩]

def f28r14 : List AInstr := [
    ⟨(some 61), none, .mov (.tmp 2)⟩,
    ⟨(some 62), none, .mov (.tmp 0)⟩,
    ⟨(some 63), none, .mov (.tmp 1)⟩,
    ⟨(some 64), none, .mov (.tmp 7)⟩,
    ⟨(some 65), none, .ibin .add (.tmp 63) (.tmp 64)⟩,
    ⟨(some 66), none, .slice 2 (.tmp 62) (some (.tmp 65)) none none⟩,
    ⟨(some 67), none, .callF 34 [.tmp 61, .tmp 66]⟩,
    ⟨(some 68), none, .un .not (.tmp 67)⟩]

def f28r15 : List AInstr := [
    ⟨(some 69), none, .mov (.tmp 0)⟩,
    ⟨(some 70), none, .mov (.tmp 1)⟩,
    ⟨(some 71), none, .mov (.tmp 7)⟩,
    ⟨(some 72), none, .ibin .add (.tmp 70) (.tmp 71)⟩,
    ⟨(some 73), none, .slice 2 (.tmp 69) (some (.tmp 72)) none none⟩,
    ⟨(some 74), none, .mov (.tmp 0)⟩,
    ⟨(some 75), none, .mov (.tmp 1)⟩,
    ⟨(some 76), none, .slice 2 (.tmp 74) (some (.tmp 75)) none none⟩,
    ⟨(some 77), none, .copy 2 (.tmp 73) (.tmp 76)⟩]

def f28r16 : List AInstr := [
    ⟨(some 78), none, .mov (.tmp 0)⟩,
    ⟨(some 79), none, .mov (.tmp 1)⟩,
    ⟨(some 80), none, .slice 2 (.tmp 78) (some (.tmp 79)) none none⟩,
    ⟨(some 81), none, .mov (.tmp 2)⟩,
    ⟨(some 82), none, .copy 2 (.tmp 80) (.tmp 81)⟩]

def f28r17 : List AInstr := [
    ⟨(some 83), none, .mov (.tmp 0)⟩,
    ⟨(some 6), none, .mov (.tmp 83)⟩]

def f28r18 : List AInstr := [
    ⟨(some 84), none, .mov (.tmp 0)⟩,
    ⟨(some 85), none, .mov (.tmp 8)⟩,
    ⟨(some 86), none, .slice 2 (.tmp 84) (some (.tmp 85)) none none⟩,
    ⟨(some 87), none, .mov (.tmp 2)⟩,
    ⟨(some 88), none, .copy 2 (.tmp 86) (.tmp 87)⟩]

def f28r19 : List AInstr := [
    ⟨(some 89), none, .mov (.tmp 0)⟩,
    ⟨(some 90), none, .mov (.tmp 1)⟩,
    ⟨(some 91), none, .slice 2 (.tmp 89) (some (.tmp 90)) none none⟩,
    ⟨(some 92), none, .mov (.tmp 7)⟩,
    ⟨(some 93), none, .callF 35 [.tmp 91, .tmp 92]⟩]

def f28r20 : List AInstr := [
    ⟨(some 94), none, .mov (.tmp 0)⟩,
    ⟨(some 6), none, .mov (.tmp 94)⟩]

def f28b : ACode := (.seq (.ops f28r0)
  (.keep [0, 1, 2] (.seq (.ops f28r1)
  (.keep [0, 1, 2] (.seq (.ops f28r2)
  (.keep [0, 1, 2, 7] (.seq (.seq (.ops f28r3)
  (.keep [0, 1, 2, 7, 16] (.cond (.tmp 16) (.keep [0] (.seq (.ops f28r4)
  (.keep [6] .ret))) .skip)))
  (.keep [0, 1, 2, 7] (.seq (.ops f28r5)
  (.keep [0, 1, 2, 7, 8] (.seq (.seq (.ops f28r6)
  (.keep [0, 1, 2, 7, 8, 22] (.cond (.tmp 22) (.keep [0, 2] (.seq (.ops f28r7)
  (.keep [6] .ret))) .skip)))
  (.keep [0, 1, 2, 7, 8] (.seq (.seq (.ops f28r8)
  (.keep [0, 1, 2, 7, 8, 31] (.cond (.tmp 31) (.keep [0, 1, 2, 7, 8] (.seq (.ops f28r9)
  (.keep [0, 1, 2, 7, 9] (.seq (.ops f28r10)
  (.keep [0, 1, 7, 9] (.seq (.draw f28r11 [(0, 0, false), (0, 0, false), (0, 0, false), (0, 0, false), (0, 0, false), (0, 0, false), (0, 0, false), (0, 0, false), (0, 0, true)])
  (.keep [9] (.seq (.ops f28r12)
  (.keep [6] .ret))))))))) .skip)))
  (.keep [0, 1, 2, 7, 8] (.seq (.ops f28r13)
  (.keep [0, 1, 2, 7, 8] (.seq (.seq (.ops f28r14)
  (.keep [0, 1, 2, 7, 8, 68] (.cond (.tmp 68) (.keep [0, 1, 2, 7] (.seq (.draw f28r15 [(0, 0, false), (0, 0, false), (0, 0, false), (0, 0, false), (0, 0, false), (0, 0, false), (0, 0, false), (0, 0, false), (0, 0, true)])
  (.keep [0, 1, 2] (.seq (.ops f28r16)
  (.keep [0] (.seq (.ops f28r17)
  (.keep [6] .ret))))))) .skip)))
  (.keep [0, 1, 2, 7, 8] (.seq (.ops f28r18)
  (.keep [0, 1, 7] (.seq (.ops f28r19)
  (.keep [0] (.seq (.ops f28r20)
  (.keep [6] .ret))))))))))))))))))))))))

def f28 : AFn := ⟨95, [.tmp 6], f28b⟩

theorem f28_ok : compFn Try.prog 28 = some f28.strip := by kernel_rfl

/- function 29: slices.Grow[[]weirhouse/api.Count,weirhouse/api.Count]; parameters 2; operations that are not compiled: 2 -/
def f29r0 : List AInstr := [
    ⟨(some 4), none, .mov (.const (.slice none 0 0))⟩]

def f29r1 : List AInstr := [
    ⟨(some 5), none, .mov (.tmp 1)⟩,
    ⟨(some 6), none, .ibin .lss (.tmp 5) (.const (.int .i64 0))⟩]

def f29r2 : List AInstr := [
    ⟨(some 7), none, .bad⟩,
    ⟨none, none, .bad⟩]

def f29r3 : List AInstr := [
    ⟨(some 8), none, .mov (.tmp 1)⟩,
    ⟨(some 9), none, .mov (.tmp 0)⟩,
    ⟨(some 10), none, .cap (.tmp 9)⟩,
    ⟨(some 11), none, .mov (.tmp 0)⟩,
    ⟨(some 12), none, .len (.tmp 11)⟩,
    ⟨(some 13), none, .ibin .sub (.tmp 10) (.tmp 12)⟩,
    ⟨(some 14), none, .ibin .sub (.tmp 8) (.tmp 13)⟩,
    ⟨(some 1), none, .mov (.tmp 14)⟩]

def f29r4 : List AInstr := [
    ⟨(some 15), none, .mov (.tmp 1)⟩,
    ⟨(some 16), none, .ibin .gtr (.tmp 15) (.const (.int .i64 0))⟩]

def f29r5 : List AInstr := [
    ⟨(some 17), none, .mov (.tmp 0)⟩,
    ⟨(some 18), none, .mov (.tmp 0)⟩,
    ⟨(some 19), none, .cap (.tmp 18)⟩,
    ⟨(some 20), none, .slice 2 (.tmp 17) none (some (.tmp 19)) none⟩,
    ⟨(some 21), none, .mov (.tmp 1)⟩,
    ⟨(some 22), none, .appendZ 2 16 [.int .i64 0, .int .i64 0] (.tmp 20) (.tmp 21)⟩,
    ⟨(some 23), none, .mov (.tmp 0)⟩,
    ⟨(some 24), none, .len (.tmp 23)⟩,
    ⟨(some 25), none, .slice 2 (.tmp 22) none (some (.tmp 24)) none⟩,
    ⟨(some 0), none, .mov (.tmp 25)⟩]

def f29r6 : List AInstr := [
    ⟨(some 26), none, .mov (.tmp 0)⟩,
    ⟨(some 4), none, .mov (.tmp 26)⟩]

def f29b : ACode := (.seq (.ops f29r0)
  (.keep [0, 1] (.seq (.seq (.ops f29r1)
  (.keep [0, 1, 6] (.cond (.tmp 6) (.keep [0, 1] (.ops f29r2)) .skip)))
  (.keep [0, 1] (.seq (.seq (.ops f29r3)
  (.keep [0, 1] (.seq (.ops f29r4)
  (.keep [0, 1, 16] (.cond (.tmp 16) (.keep [0, 1] (.ops f29r5)) .skip)))))
  (.keep [0] (.seq (.ops f29r6)
  (.keep [4] .ret))))))))

def f29 : AFn := ⟨27, [.tmp 4], f29b⟩

theorem f29_ok : compFn Try.prog 29 = some f29.strip := by kernel_rfl

/- function 30: slices.pdqsortCmpFunc[weirhouse/api.Count]; parameters 5; operations that are not compiled: 0 -/
def f30r0 : List AInstr := [
    ⟨(some 10), none, .mov (.const (.bool true))⟩]

def f30r1 : List AInstr := [
    ⟨(some 11), none, .mov (.const (.bool true))⟩]

def f30r2 : List AInstr := [
    ⟨(some 21), none, .mov (.tmp 2)⟩,
    ⟨(some 22), none, .mov (.tmp 1)⟩,
    ⟨(some 23), none, .ibin .sub (.tmp 21) (.tmp 22)⟩,
    ⟨(some 12), none, .mov (.tmp 23)⟩]

def f30r3 : List AInstr := [
    ⟨(some 24), none, .mov (.tmp 12)⟩,
    ⟨(some 25), none, .ibin .leq (.tmp 24) (.const (.int .i64 12))⟩]

def f30r4 : List AInstr := [
    ⟨(some 26), none, .mov (.tmp 0)⟩,
    ⟨(some 27), none, .mov (.tmp 1)⟩,
    ⟨(some 28), none, .mov (.tmp 2)⟩,
    ⟨(some 29), none, .mov (.tmp 4)⟩,
    ⟨(some 30), none, .callF 36 [.tmp 26, .tmp 27, .tmp 28, .tmp 29]⟩]

def f30r5 : List AInstr := [
    ⟨(some 31), none, .mov (.tmp 3)⟩,
    ⟨(some 32), none, .ibin .eql (.tmp 31) (.const (.int .i64 0))⟩]

def f30r6 : List AInstr := [
    ⟨(some 33), none, .mov (.tmp 0)⟩,
    ⟨(some 34), none, .mov (.tmp 1)⟩,
    ⟨(some 35), none, .mov (.tmp 2)⟩,
    ⟨(some 36), none, .mov (.tmp 4)⟩,
    ⟨(some 37), none, .callF 37 [.tmp 33, .tmp 34, .tmp 35, .tmp 36]⟩]

def f30r7 : List AInstr := [
    ⟨(some 38), none, .mov (.tmp 10)⟩,
    ⟨(some 39), none, .un .not (.tmp 38)⟩]

def f30r8 : List AInstr := [
    ⟨(some 40), none, .mov (.tmp 0)⟩,
    ⟨(some 41), none, .mov (.tmp 1)⟩,
    ⟨(some 42), none, .mov (.tmp 2)⟩,
    ⟨(some 43), none, .mov (.tmp 4)⟩,
    ⟨(some 44), none, .callF 38 [.tmp 40, .tmp 41, .tmp 42, .tmp 43]⟩]

def f30r9 : List AInstr := [
    ⟨(some 45), none, .mov (.tmp 3)⟩,
    ⟨(some 46), none, .ibin .sub (.tmp 45) (.const (.int .i64 1))⟩,
    ⟨(some 3), none, .mov (.tmp 46)⟩]

def f30r10 : List AInstr := [
    ⟨(some 48), none, .mov (.tmp 0)⟩,
    ⟨(some 49), none, .mov (.tmp 1)⟩,
    ⟨(some 50), none, .mov (.tmp 2)⟩,
    ⟨(some 51), none, .mov (.tmp 4)⟩,
    ⟨(some 52), none, .callF 39 [.tmp 48, .tmp 49, .tmp 50, .tmp 51]⟩,
    ⟨(some 47), none, .mov (.tmp 52)⟩,
    ⟨(some 53), none, .extract 0 (.tmp 47)⟩,
    ⟨(some 54), none, .extract 1 (.tmp 47)⟩,
    ⟨(some 13), none, .mov (.tmp 53)⟩,
    ⟨(some 14), none, .mov (.tmp 54)⟩]

def f30r11 : List AInstr := [
    ⟨(some 55), none, .mov (.tmp 14)⟩,
    ⟨(some 56), none, .ibin .eql (.tmp 55) (.const (.int .i64 2))⟩]

def f30r12 : List AInstr := [
    ⟨(some 57), none, .mov (.tmp 0)⟩,
    ⟨(some 58), none, .mov (.tmp 1)⟩,
    ⟨(some 59), none, .mov (.tmp 2)⟩,
    ⟨(some 60), none, .mov (.tmp 4)⟩,
    ⟨(some 61), none, .callF 40 [.tmp 57, .tmp 58, .tmp 59, .tmp 60]⟩]

def f30r13 : List AInstr := [
    ⟨(some 62), none, .mov (.tmp 2)⟩,
    ⟨(some 63), none, .ibin .sub (.tmp 62) (.const (.int .i64 1))⟩,
    ⟨(some 64), none, .mov (.tmp 13)⟩,
    ⟨(some 65), none, .mov (.tmp 1)⟩,
    ⟨(some 66), none, .ibin .sub (.tmp 64) (.tmp 65)⟩,
    ⟨(some 67), none, .ibin .sub (.tmp 63) (.tmp 66)⟩,
    ⟨(some 13), none, .mov (.tmp 67)⟩]

def f30r14 : List AInstr := [
    ⟨(some 14), none, .mov (.const (.int .i64 1))⟩]

def f30r15 : List AInstr := [
    ⟨(some 68), none, .mov (.tmp 10)⟩,
    ⟨(some 69), none, .mov (.tmp 68)⟩,
    ⟨(some 70), (some (69, true)), .mov (.tmp 11)⟩,
    ⟨(some 71), none, .pick (.tmp 69) (.tmp 70) (.const (.bool false))⟩,
    ⟨(some 72), none, .mov (.tmp 71)⟩,
    ⟨(some 73), (some (72, true)), .mov (.tmp 14)⟩,
    ⟨(some 74), (some (72, true)), .ibin .eql (.tmp 73) (.const (.int .i64 1))⟩,
    ⟨(some 75), none, .pick (.tmp 72) (.tmp 74) (.const (.bool false))⟩]

def f30r16 : List AInstr := [
    ⟨(some 76), none, .mov (.tmp 0)⟩,
    ⟨(some 77), none, .mov (.tmp 1)⟩,
    ⟨(some 78), none, .mov (.tmp 2)⟩,
    ⟨(some 79), none, .mov (.tmp 4)⟩,
    ⟨(some 80), none, .callF 41 [.tmp 76, .tmp 77, .tmp 78, .tmp 79]⟩]

def f30r17 : List AInstr := [
    ⟨(some 81), none, .mov (.tmp 1)⟩,
    ⟨(some 82), none, .ibin .gtr (.tmp 81) (.const (.int .i64 0))⟩,
    ⟨(some 83), none, .mov (.tmp 82)⟩,
    ⟨(some 84), (some (83, true)), .mov (.tmp 4)⟩,
    ⟨(some 85), (some (83, true)), .mov (.tmp 0)⟩,
    ⟨(some 86), (some (83, true)), .mov (.tmp 1)⟩,
    ⟨(some 87), (some (83, true)), .ibin .sub (.tmp 86) (.const (.int .i64 1))⟩,
    ⟨(some 88), (some (83, true)), .indexAddr 2 (.tmp 85) (.tmp 87)⟩,
    ⟨(some 89), (some (83, true)), .load (some 2) (.tmp 88)⟩,
    ⟨(some 90), (some (83, true)), .mov (.tmp 0)⟩,
    ⟨(some 91), (some (83, true)), .mov (.tmp 13)⟩,
    ⟨(some 92), (some (83, true)), .indexAddr 2 (.tmp 90) (.tmp 91)⟩,
    ⟨(some 93), (some (83, true)), .load (some 2) (.tmp 92)⟩,
    ⟨(some 94), (some (83, true)), .callV (.tmp 84) [.tmp 89, .tmp 93]⟩,
    ⟨(some 95), (some (83, true)), .ibin .lss (.tmp 94) (.const (.int .i64 0))⟩,
    ⟨(some 96), (some (83, true)), .un .not (.tmp 95)⟩,
    ⟨(some 97), none, .pick (.tmp 83) (.tmp 96) (.const (.bool false))⟩]

def f30r18 : List AInstr := [
    ⟨(some 98), none, .mov (.tmp 0)⟩,
    ⟨(some 99), none, .mov (.tmp 1)⟩,
    ⟨(some 100), none, .mov (.tmp 2)⟩,
    ⟨(some 101), none, .mov (.tmp 13)⟩,
    ⟨(some 102), none, .mov (.tmp 4)⟩,
    ⟨(some 103), none, .callF 42 [.tmp 98, .tmp 99, .tmp 100, .tmp 101, .tmp 102]⟩,
    ⟨(some 15), none, .mov (.tmp 103)⟩]

def f30r19 : List AInstr := [
    ⟨(some 104), none, .mov (.tmp 15)⟩,
    ⟨(some 1), none, .mov (.tmp 104)⟩]

def f30r20 : List AInstr := [
    ⟨(some 106), none, .mov (.tmp 0)⟩,
    ⟨(some 107), none, .mov (.tmp 1)⟩,
    ⟨(some 108), none, .mov (.tmp 2)⟩,
    ⟨(some 109), none, .mov (.tmp 13)⟩,
    ⟨(some 110), none, .mov (.tmp 4)⟩,
    ⟨(some 111), none, .callF 43 [.tmp 106, .tmp 107, .tmp 108, .tmp 109, .tmp 110]⟩,
    ⟨(some 105), none, .mov (.tmp 111)⟩,
    ⟨(some 112), none, .extract 0 (.tmp 105)⟩,
    ⟨(some 113), none, .extract 1 (.tmp 105)⟩,
    ⟨(some 16), none, .mov (.tmp 112)⟩,
    ⟨(some 17), none, .mov (.tmp 113)⟩]

def f30r21 : List AInstr := [
    ⟨(some 114), none, .mov (.tmp 17)⟩,
    ⟨(some 11), none, .mov (.tmp 114)⟩]

def f30r22 : List AInstr := [
    ⟨(some 115), none, .mov (.tmp 16)⟩,
    ⟨(some 116), none, .mov (.tmp 1)⟩,
    ⟨(some 117), none, .ibin .sub (.tmp 115) (.tmp 116)⟩,
    ⟨(some 118), none, .mov (.tmp 2)⟩,
    ⟨(some 119), none, .mov (.tmp 16)⟩,
    ⟨(some 120), none, .ibin .sub (.tmp 118) (.tmp 119)⟩,
    ⟨(some 18), none, .mov (.tmp 117)⟩,
    ⟨(some 19), none, .mov (.tmp 120)⟩]

def f30r23 : List AInstr := [
    ⟨(some 121), none, .mov (.tmp 12)⟩,
    ⟨(some 122), none, .ibin .quo (.tmp 121) (.const (.int .i64 8))⟩,
    ⟨(some 20), none, .mov (.tmp 122)⟩]

def f30r24 : List AInstr := [
    ⟨(some 123), none, .mov (.tmp 18)⟩,
    ⟨(some 124), none, .mov (.tmp 19)⟩,
    ⟨(some 125), none, .ibin .lss (.tmp 123) (.tmp 124)⟩]

def f30r25 : List AInstr := [
    ⟨(some 126), none, .mov (.tmp 18)⟩,
    ⟨(some 127), none, .mov (.tmp 20)⟩,
    ⟨(some 128), none, .ibin .geq (.tmp 126) (.tmp 127)⟩,
    ⟨(some 10), none, .mov (.tmp 128)⟩]

def f30r26 : List AInstr := [
    ⟨(some 129), none, .mov (.tmp 0)⟩,
    ⟨(some 130), none, .mov (.tmp 1)⟩,
    ⟨(some 131), none, .mov (.tmp 16)⟩,
    ⟨(some 132), none, .mov (.tmp 3)⟩,
    ⟨(some 133), none, .mov (.tmp 4)⟩,
    ⟨(some 134), none, .callF 30 [.tmp 129, .tmp 130, .tmp 131, .tmp 132, .tmp 133]⟩]

def f30r27 : List AInstr := [
    ⟨(some 135), none, .mov (.tmp 16)⟩,
    ⟨(some 136), none, .ibin .add (.tmp 135) (.const (.int .i64 1))⟩,
    ⟨(some 1), none, .mov (.tmp 136)⟩]

def f30r28 : List AInstr := [
    ⟨(some 137), none, .mov (.tmp 19)⟩,
    ⟨(some 138), none, .mov (.tmp 20)⟩,
    ⟨(some 139), none, .ibin .geq (.tmp 137) (.tmp 138)⟩,
    ⟨(some 10), none, .mov (.tmp 139)⟩]

def f30r29 : List AInstr := [
    ⟨(some 140), none, .mov (.tmp 0)⟩,
    ⟨(some 141), none, .mov (.tmp 16)⟩,
    ⟨(some 142), none, .ibin .add (.tmp 141) (.const (.int .i64 1))⟩,
    ⟨(some 143), none, .mov (.tmp 2)⟩,
    ⟨(some 144), none, .mov (.tmp 3)⟩,
    ⟨(some 145), none, .mov (.tmp 4)⟩,
    ⟨(some 146), none, .callF 30 [.tmp 140, .tmp 142, .tmp 143, .tmp 144, .tmp 145]⟩]

def f30r30 : List AInstr := [
    ⟨(some 147), none, .mov (.tmp 16)⟩,
    ⟨(some 2), none, .mov (.tmp 147)⟩]

/-- live: [0, 1, 2, 3, 4, 10, 11] -/
def f30l0 : ACode := (.block 1 (.seq (.ops f30r2)
  (.keep [0, 1, 2, 3, 4, 10, 11, 12] (.seq (.seq (.ops f30r3)
  (.keep [0, 1, 2, 3, 4, 10, 11, 12, 25] (.cond (.tmp 25) (.keep [0, 1, 2, 4] (.seq (.ops f30r4)
  (.keep [] .ret))) .skip)))
  (.keep [0, 1, 2, 3, 4, 10, 11, 12] (.seq (.seq (.ops f30r5)
  (.keep [0, 1, 2, 3, 4, 10, 11, 12, 32] (.cond (.tmp 32) (.keep [0, 1, 2, 4] (.seq (.ops f30r6)
  (.keep [] .ret))) .skip)))
  (.keep [0, 1, 2, 3, 4, 10, 11, 12] (.seq (.seq (.ops f30r7)
  (.keep [0, 1, 2, 3, 4, 10, 11, 12, 39] (.cond (.tmp 39) (.keep [0, 1, 2, 3, 4, 10, 11, 12] (.seq (.ops f30r8)
  (.keep [0, 1, 2, 3, 4, 10, 11, 12] (.ops f30r9)))) .skip)))
  (.keep [0, 1, 2, 3, 4, 10, 11, 12] (.seq (.ops f30r10)
  (.keep [0, 1, 2, 3, 4, 10, 11, 12, 13, 14] (.seq (.seq (.ops f30r11)
  (.keep [0, 1, 2, 3, 4, 10, 11, 12, 13, 14, 56] (.cond (.tmp 56) (.keep [0, 1, 2, 3, 4, 10, 11, 12, 13] (.seq (.ops f30r12)
  (.keep [0, 1, 2, 3, 4, 10, 11, 12, 13] (.seq (.ops f30r13)
  (.keep [0, 1, 2, 3, 4, 10, 11, 12, 13] (.ops f30r14)))))) .skip)))
  (.keep [0, 1, 2, 3, 4, 10, 11, 12, 13, 14] (.seq (.seq (.ops f30r15)
  (.keep [0, 1, 2, 3, 4, 10, 11, 12, 13, 75] (.cond (.tmp 75) (.keep [0, 1, 2, 3, 4, 10, 11, 12, 13] (.seq (.ops f30r16)
  (.keep [0, 1, 2, 3, 4, 10, 11, 12, 13, 80] (.cond (.tmp 80) (.keep [] .ret) .skip)))) .skip)))
  (.keep [0, 1, 2, 3, 4, 10, 11, 12, 13] (.seq (.seq (.draw f30r17 [(0, 0, false), (0, 0, false), (0, 0, false), (0, 0, false), (0, 0, false), (0, 0, false), (0, 0, false), (0, 0, false), (0, 0, false), (0, 0, false), (0, 0, false), (0, 0, false), (0, 0, false), (0, 0, true), (1, 1, false), (1, 1, false), (1, 1, false)])
  (.keep [0, 1, 2, 3, 4, 10, 11, 12, 13, 97] (.cond (.tmp 97) (.keep [0, 1, 2, 3, 4, 10, 11, 13] (.seq (.ops f30r18)
  (.keep [0, 2, 3, 4, 10, 11, 15] (.seq (.ops f30r19)
  (.exit 1))))) .skip)))
  (.keep [0, 1, 2, 3, 4, 12, 13] (.seq (.ops f30r20)
  (.keep [0, 1, 2, 3, 4, 12, 16, 17] (.seq (.ops f30r21)
  (.keep [0, 1, 2, 3, 4, 11, 12, 16] (.seq (.ops f30r22)
  (.keep [0, 1, 2, 3, 4, 11, 12, 16, 18, 19] (.seq (.ops f30r23)
  (.keep [0, 1, 2, 3, 4, 11, 16, 18, 19, 20] (.seq (.ops f30r24)
  (.keep [0, 1, 2, 3, 4, 11, 16, 18, 19, 20, 125] (.cond (.tmp 125) (.keep [0, 1, 2, 3, 4, 11, 16, 18, 20] (.seq (.ops f30r25)
  (.keep [0, 1, 2, 3, 4, 10, 11, 16] (.seq (.ops f30r26)
  (.keep [0, 2, 3, 4, 10, 11, 16] (.ops f30r27)))))) (.keep [0, 1, 2, 3, 4, 11, 16, 19, 20] (.seq (.ops f30r28)
  (.keep [0, 1, 2, 3, 4, 10, 11, 16] (.seq (.ops f30r29)
  (.keep [0, 1, 3, 4, 10, 11, 16] (.ops f30r30))))))))))))))))))))))))))))))))))

def f30b : ACode := (.seq (.ops f30r0)
  (.keep [0, 1, 2, 3, 4, 10] (.seq (.ops f30r1)
  (.keep [0, 1, 2, 3, 4, 10, 11] (.block 0 (.loop f30l0))))))

def f30 : AFn := ⟨148, [], f30b⟩

theorem f30_ok : compFn Try.prog 30 = some f30.strip := by kernel_rfl

/- function 31: math/bits.Len; parameters 1; operations that are not compiled: 0 -/
def f31r0 : List AInstr := [
    ⟨(some 2), none, .mov (.const (.int .i64 0))⟩]

def f31r1 : List AInstr := [
    ⟨(some 3), none, .mov (.tmp 0)⟩,
    ⟨(some 4), none, .conv .u32 (.tmp 3)⟩,
    ⟨(some 5), none, .callF 44 [.tmp 4]⟩,
    ⟨(some 2), none, .mov (.tmp 5)⟩]

def f31r2 : List AInstr := [
    ⟨(some 6), none, .mov (.tmp 0)⟩,
    ⟨(some 7), none, .callF 45 [.tmp 6]⟩,
    ⟨(some 2), none, .mov (.tmp 7)⟩]

def f31b : ACode := (.seq (.ops f31r0)
  (.keep [0] (.seq (.cond (.const (.bool false)) (.keep [0] (.seq (.ops f31r1)
  (.keep [2] .ret))) .skip)
  (.keep [0] (.seq (.ops f31r2)
  (.keep [2] .ret))))))

def f31 : AFn := ⟨8, [.tmp 2], f31b⟩

theorem f31_ok : compFn Try.prog 31 = some f31.strip := by kernel_rfl

/- function 32: slices.pdqsortOrdered[int]; parameters 4; operations that are not compiled: 0 -/
def f32r0 : List AInstr := [
    ⟨(some 8), none, .mov (.const (.bool true))⟩]

def f32r1 : List AInstr := [
    ⟨(some 9), none, .mov (.const (.bool true))⟩]

def f32r2 : List AInstr := [
    ⟨(some 19), none, .mov (.tmp 2)⟩,
    ⟨(some 20), none, .mov (.tmp 1)⟩,
    ⟨(some 21), none, .ibin .sub (.tmp 19) (.tmp 20)⟩,
    ⟨(some 10), none, .mov (.tmp 21)⟩]

def f32r3 : List AInstr := [
    ⟨(some 22), none, .mov (.tmp 10)⟩,
    ⟨(some 23), none, .ibin .leq (.tmp 22) (.const (.int .i64 12))⟩]

def f32r4 : List AInstr := [
    ⟨(some 24), none, .mov (.tmp 0)⟩,
    ⟨(some 25), none, .mov (.tmp 1)⟩,
    ⟨(some 26), none, .mov (.tmp 2)⟩,
    ⟨(some 27), none, .callF 46 [.tmp 24, .tmp 25, .tmp 26]⟩]

def f32r5 : List AInstr := [
    ⟨(some 28), none, .mov (.tmp 3)⟩,
    ⟨(some 29), none, .ibin .eql (.tmp 28) (.const (.int .i64 0))⟩]

def f32r6 : List AInstr := [
    ⟨(some 30), none, .mov (.tmp 0)⟩,
    ⟨(some 31), none, .mov (.tmp 1)⟩,
    ⟨(some 32), none, .mov (.tmp 2)⟩,
    ⟨(some 33), none, .callF 47 [.tmp 30, .tmp 31, .tmp 32]⟩]

def f32r7 : List AInstr := [
    ⟨(some 34), none, .mov (.tmp 8)⟩,
    ⟨(some 35), none, .un .not (.tmp 34)⟩]

def f32r8 : List AInstr := [
    ⟨(some 36), none, .mov (.tmp 0)⟩,
    ⟨(some 37), none, .mov (.tmp 1)⟩,
    ⟨(some 38), none, .mov (.tmp 2)⟩,
    ⟨(some 39), none, .callF 48 [.tmp 36, .tmp 37, .tmp 38]⟩]

def f32r9 : List AInstr := [
    ⟨(some 40), none, .mov (.tmp 3)⟩,
    ⟨(some 41), none, .ibin .sub (.tmp 40) (.const (.int .i64 1))⟩,
    ⟨(some 3), none, .mov (.tmp 41)⟩]

def f32r10 : List AInstr := [
    ⟨(some 43), none, .mov (.tmp 0)⟩,
    ⟨(some 44), none, .mov (.tmp 1)⟩,
    ⟨(some 45), none, .mov (.tmp 2)⟩,
    ⟨(some 46), none, .callF 49 [.tmp 43, .tmp 44, .tmp 45]⟩,
    ⟨(some 42), none, .mov (.tmp 46)⟩,
    ⟨(some 47), none, .extract 0 (.tmp 42)⟩,
    ⟨(some 48), none, .extract 1 (.tmp 42)⟩,
    ⟨(some 11), none, .mov (.tmp 47)⟩,
    ⟨(some 12), none, .mov (.tmp 48)⟩]

def f32r11 : List AInstr := [
    ⟨(some 49), none, .mov (.tmp 12)⟩,
    ⟨(some 50), none, .ibin .eql (.tmp 49) (.const (.int .i64 2))⟩]

def f32r12 : List AInstr := [
    ⟨(some 51), none, .mov (.tmp 0)⟩,
    ⟨(some 52), none, .mov (.tmp 1)⟩,
    ⟨(some 53), none, .mov (.tmp 2)⟩,
    ⟨(some 54), none, .callF 50 [.tmp 51, .tmp 52, .tmp 53]⟩]

def f32r13 : List AInstr := [
    ⟨(some 55), none, .mov (.tmp 2)⟩,
    ⟨(some 56), none, .ibin .sub (.tmp 55) (.const (.int .i64 1))⟩,
    ⟨(some 57), none, .mov (.tmp 11)⟩,
    ⟨(some 58), none, .mov (.tmp 1)⟩,
    ⟨(some 59), none, .ibin .sub (.tmp 57) (.tmp 58)⟩,
    ⟨(some 60), none, .ibin .sub (.tmp 56) (.tmp 59)⟩,
    ⟨(some 11), none, .mov (.tmp 60)⟩]

def f32r14 : List AInstr := [
    ⟨(some 12), none, .mov (.const (.int .i64 1))⟩]

def f32r15 : List AInstr := [
    ⟨(some 61), none, .mov (.tmp 8)⟩,
    ⟨(some 62), none, .mov (.tmp 61)⟩,
    ⟨(some 63), (some (62, true)), .mov (.tmp 9)⟩,
    ⟨(some 64), none, .pick (.tmp 62) (.tmp 63) (.const (.bool false))⟩,
    ⟨(some 65), none, .mov (.tmp 64)⟩,
    ⟨(some 66), (some (65, true)), .mov (.tmp 12)⟩,
    ⟨(some 67), (some (65, true)), .ibin .eql (.tmp 66) (.const (.int .i64 1))⟩,
    ⟨(some 68), none, .pick (.tmp 65) (.tmp 67) (.const (.bool false))⟩]

def f32r16 : List AInstr := [
    ⟨(some 69), none, .mov (.tmp 0)⟩,
    ⟨(some 70), none, .mov (.tmp 1)⟩,
    ⟨(some 71), none, .mov (.tmp 2)⟩,
    ⟨(some 72), none, .callF 51 [.tmp 69, .tmp 70, .tmp 71]⟩]

def f32r17 : List AInstr := [
    ⟨(some 73), none, .mov (.tmp 1)⟩,
    ⟨(some 74), none, .ibin .gtr (.tmp 73) (.const (.int .i64 0))⟩,
    ⟨(some 75), none, .mov (.tmp 74)⟩,
    ⟨(some 76), (some (75, true)), .mov (.tmp 0)⟩,
    ⟨(some 77), (some (75, true)), .mov (.tmp 1)⟩,
    ⟨(some 78), (some (75, true)), .ibin .sub (.tmp 77) (.const (.int .i64 1))⟩,
    ⟨(some 79), (some (75, true)), .indexAddr 1 (.tmp 76) (.tmp 78)⟩,
    ⟨(some 80), (some (75, true)), .load none (.tmp 79)⟩,
    ⟨(some 81), (some (75, true)), .mov (.tmp 0)⟩,
    ⟨(some 82), (some (75, true)), .mov (.tmp 11)⟩,
    ⟨(some 83), (some (75, true)), .indexAddr 1 (.tmp 81) (.tmp 82)⟩,
    ⟨(some 84), (some (75, true)), .load none (.tmp 83)⟩,
    ⟨(some 85), (some (75, true)), .callF 52 [.tmp 80, .tmp 84]⟩,
    ⟨(some 86), (some (75, true)), .un .not (.tmp 85)⟩,
    ⟨(some 87), none, .pick (.tmp 75) (.tmp 86) (.const (.bool false))⟩]

def f32r18 : List AInstr := [
    ⟨(some 88), none, .mov (.tmp 0)⟩,
    ⟨(some 89), none, .mov (.tmp 1)⟩,
    ⟨(some 90), none, .mov (.tmp 2)⟩,
    ⟨(some 91), none, .mov (.tmp 11)⟩,
    ⟨(some 92), none, .callF 53 [.tmp 88, .tmp 89, .tmp 90, .tmp 91]⟩,
    ⟨(some 13), none, .mov (.tmp 92)⟩]

def f32r19 : List AInstr := [
    ⟨(some 93), none, .mov (.tmp 13)⟩,
    ⟨(some 1), none, .mov (.tmp 93)⟩]

def f32r20 : List AInstr := [
    ⟨(some 95), none, .mov (.tmp 0)⟩,
    ⟨(some 96), none, .mov (.tmp 1)⟩,
    ⟨(some 97), none, .mov (.tmp 2)⟩,
    ⟨(some 98), none, .mov (.tmp 11)⟩,
    ⟨(some 99), none, .callF 54 [.tmp 95, .tmp 96, .tmp 97, .tmp 98]⟩,
    ⟨(some 94), none, .mov (.tmp 99)⟩,
    ⟨(some 100), none, .extract 0 (.tmp 94)⟩,
    ⟨(some 101), none, .extract 1 (.tmp 94)⟩,
    ⟨(some 14), none, .mov (.tmp 100)⟩,
    ⟨(some 15), none, .mov (.tmp 101)⟩]

def f32r21 : List AInstr := [
    ⟨(some 102), none, .mov (.tmp 15)⟩,
    ⟨(some 9), none, .mov (.tmp 102)⟩]

def f32r22 : List AInstr := [
    ⟨(some 103), none, .mov (.tmp 14)⟩,
    ⟨(some 104), none, .mov (.tmp 1)⟩,
    ⟨(some 105), none, .ibin .sub (.tmp 103) (.tmp 104)⟩,
    ⟨(some 106), none, .mov (.tmp 2)⟩,
    ⟨(some 107), none, .mov (.tmp 14)⟩,
    ⟨(some 108), none, .ibin .sub (.tmp 106) (.tmp 107)⟩,
    ⟨(some 16), none, .mov (.tmp 105)⟩,
    ⟨(some 17), none, .mov (.tmp 108)⟩]

def f32r23 : List AInstr := [
    ⟨(some 109), none, .mov (.tmp 10)⟩,
    ⟨(some 110), none, .ibin .quo (.tmp 109) (.const (.int .i64 8))⟩,
    ⟨(some 18), none, .mov (.tmp 110)⟩]

def f32r24 : List AInstr := [
    ⟨(some 111), none, .mov (.tmp 16)⟩,
    ⟨(some 112), none, .mov (.tmp 17)⟩,
    ⟨(some 113), none, .ibin .lss (.tmp 111) (.tmp 112)⟩]

def f32r25 : List AInstr := [
    ⟨(some 114), none, .mov (.tmp 16)⟩,
    ⟨(some 115), none, .mov (.tmp 18)⟩,
    ⟨(some 116), none, .ibin .geq (.tmp 114) (.tmp 115)⟩,
    ⟨(some 8), none, .mov (.tmp 116)⟩]

def f32r26 : List AInstr := [
    ⟨(some 117), none, .mov (.tmp 0)⟩,
    ⟨(some 118), none, .mov (.tmp 1)⟩,
    ⟨(some 119), none, .mov (.tmp 14)⟩,
    ⟨(some 120), none, .mov (.tmp 3)⟩,
    ⟨(some 121), none, .callF 32 [.tmp 117, .tmp 118, .tmp 119, .tmp 120]⟩]

def f32r27 : List AInstr := [
    ⟨(some 122), none, .mov (.tmp 14)⟩,
    ⟨(some 123), none, .ibin .add (.tmp 122) (.const (.int .i64 1))⟩,
    ⟨(some 1), none, .mov (.tmp 123)⟩]

def f32r28 : List AInstr := [
    ⟨(some 124), none, .mov (.tmp 17)⟩,
    ⟨(some 125), none, .mov (.tmp 18)⟩,
    ⟨(some 126), none, .ibin .geq (.tmp 124) (.tmp 125)⟩,
    ⟨(some 8), none, .mov (.tmp 126)⟩]

def f32r29 : List AInstr := [
    ⟨(some 127), none, .mov (.tmp 0)⟩,
    ⟨(some 128), none, .mov (.tmp 14)⟩,
    ⟨(some 129), none, .ibin .add (.tmp 128) (.const (.int .i64 1))⟩,
    ⟨(some 130), none, .mov (.tmp 2)⟩,
    ⟨(some 131), none, .mov (.tmp 3)⟩,
    ⟨(some 132), none, .callF 32 [.tmp 127, .tmp 129, .tmp 130, .tmp 131]⟩]

def f32r30 : List AInstr := [
    ⟨(some 133), none, .mov (.tmp 14)⟩,
    ⟨(some 2), none, .mov (.tmp 133)⟩]

/-- live: [0, 1, 2, 3, 8, 9] -/
def f32l0 : ACode := (.block 1 (.seq (.ops f32r2)
  (.keep [0, 1, 2, 3, 8, 9, 10] (.seq (.seq (.ops f32r3)
  (.keep [0, 1, 2, 3, 8, 9, 10, 23] (.cond (.tmp 23) (.keep [0, 1, 2] (.seq (.ops f32r4)
  (.keep [] .ret))) .skip)))
  (.keep [0, 1, 2, 3, 8, 9, 10] (.seq (.seq (.ops f32r5)
  (.keep [0, 1, 2, 3, 8, 9, 10, 29] (.cond (.tmp 29) (.keep [0, 1, 2] (.seq (.ops f32r6)
  (.keep [] .ret))) .skip)))
  (.keep [0, 1, 2, 3, 8, 9, 10] (.seq (.seq (.ops f32r7)
  (.keep [0, 1, 2, 3, 8, 9, 10, 35] (.cond (.tmp 35) (.keep [0, 1, 2, 3, 8, 9, 10] (.seq (.ops f32r8)
  (.keep [0, 1, 2, 3, 8, 9, 10] (.ops f32r9)))) .skip)))
  (.keep [0, 1, 2, 3, 8, 9, 10] (.seq (.ops f32r10)
  (.keep [0, 1, 2, 3, 8, 9, 10, 11, 12] (.seq (.seq (.ops f32r11)
  (.keep [0, 1, 2, 3, 8, 9, 10, 11, 12, 50] (.cond (.tmp 50) (.keep [0, 1, 2, 3, 8, 9, 10, 11] (.seq (.ops f32r12)
  (.keep [0, 1, 2, 3, 8, 9, 10, 11] (.seq (.ops f32r13)
  (.keep [0, 1, 2, 3, 8, 9, 10, 11] (.ops f32r14)))))) .skip)))
  (.keep [0, 1, 2, 3, 8, 9, 10, 11, 12] (.seq (.seq (.ops f32r15)
  (.keep [0, 1, 2, 3, 8, 9, 10, 11, 68] (.cond (.tmp 68) (.keep [0, 1, 2, 3, 8, 9, 10, 11] (.seq (.ops f32r16)
  (.keep [0, 1, 2, 3, 8, 9, 10, 11, 72] (.cond (.tmp 72) (.keep [] .ret) .skip)))) .skip)))
  (.keep [0, 1, 2, 3, 8, 9, 10, 11] (.seq (.seq (.draw f32r17 [(0, 0, false), (0, 0, false), (0, 0, false), (0, 0, false), (0, 0, false), (0, 0, false), (0, 0, false), (0, 0, false), (0, 0, false), (0, 0, false), (0, 0, false), (0, 0, false), (0, 0, true), (1, 1, false), (1, 1, false)])
  (.keep [0, 1, 2, 3, 8, 9, 10, 11, 87] (.cond (.tmp 87) (.keep [0, 1, 2, 3, 8, 9, 11] (.seq (.ops f32r18)
  (.keep [0, 2, 3, 8, 9, 13] (.seq (.ops f32r19)
  (.exit 1))))) .skip)))
  (.keep [0, 1, 2, 3, 10, 11] (.seq (.ops f32r20)
  (.keep [0, 1, 2, 3, 10, 14, 15] (.seq (.ops f32r21)
  (.keep [0, 1, 2, 3, 9, 10, 14] (.seq (.ops f32r22)
  (.keep [0, 1, 2, 3, 9, 10, 14, 16, 17] (.seq (.ops f32r23)
  (.keep [0, 1, 2, 3, 9, 14, 16, 17, 18] (.seq (.ops f32r24)
  (.keep [0, 1, 2, 3, 9, 14, 16, 17, 18, 113] (.cond (.tmp 113) (.keep [0, 1, 2, 3, 9, 14, 16, 18] (.seq (.ops f32r25)
  (.keep [0, 1, 2, 3, 8, 9, 14] (.seq (.ops f32r26)
  (.keep [0, 2, 3, 8, 9, 14] (.ops f32r27)))))) (.keep [0, 1, 2, 3, 9, 14, 17, 18] (.seq (.ops f32r28)
  (.keep [0, 1, 2, 3, 8, 9, 14] (.seq (.ops f32r29)
  (.keep [0, 1, 3, 8, 9, 14] (.ops f32r30))))))))))))))))))))))))))))))))))

def f32b : ACode := (.seq (.ops f32r0)
  (.keep [0, 1, 2, 3, 8] (.seq (.ops f32r1)
  (.keep [0, 1, 2, 3, 8, 9] (.block 0 (.loop f32l0))))))

def f32 : AFn := ⟨134, [], f32b⟩

theorem f32_ok : compFn Try.prog 32 = some f32.strip := by kernel_rfl

/- function 33: slices.AppendSeq[[]int,int]; parameters 2; operations that are not compiled: 1 -/
def f33r0 : List AInstr := [
    ⟨(some 2), none, .box (.tmp 0)⟩,
    ⟨(some 4), none, .mov (.const (.slice none 0 0))⟩]

def f33r1 : List AInstr := [
    ⟨(some 6), none, .mov (.tmp 1)⟩]

def f33r2 : List AInstr := [
    ⟨(some 12), none, .load none (.tmp 2)⟩,
    ⟨(some 4), none, .mov (.tmp 12)⟩]

def f33b : ACode := (.seq (.ops f33r0)
  (.keep [1] (.seq (.seq (.ops f33r1)
  (.keep [] (.block 0 .bad)))
  (.keep [2] (.seq (.ops f33r2)
  (.keep [4] .ret))))))

def f33 : AFn := ⟨13, [.tmp 4], f33b⟩

theorem f33_ok : compFn Try.prog 33 = some f33.strip := by kernel_rfl

/- function 35: slices.rotateRight[weirhouse/api.Count]; parameters 2; operations that are not compiled: 0 -/
def f35r0 : List AInstr := [
    ⟨(some 4), none, .mov (.tmp 0)⟩,
    ⟨(some 5), none, .mov (.tmp 0)⟩,
    ⟨(some 6), none, .len (.tmp 5)⟩,
    ⟨(some 7), none, .mov (.tmp 1)⟩,
    ⟨(some 8), none, .ibin .sub (.tmp 6) (.tmp 7)⟩,
    ⟨(some 9), none, .callF 55 [.tmp 4, .tmp 8]⟩]

def f35b : ACode := (.ops f35r0)

def f35 : AFn := ⟨10, [], f35b⟩

theorem f35_ok : compFn Try.prog 35 = some f35.strip := by kernel_rfl

/- function 36: slices.insertionSortCmpFunc[weirhouse/api.Count]; parameters 4; operations that are not compiled: 0 -/
def f36r0 : List AInstr := [
    ⟨(some 10), none, .mov (.tmp 1)⟩,
    ⟨(some 11), none, .ibin .add (.tmp 10) (.const (.int .i64 1))⟩,
    ⟨(some 8), none, .mov (.tmp 11)⟩]

def f36r1 : List AInstr := [
    ⟨(some 12), none, .mov (.tmp 8)⟩,
    ⟨(some 13), none, .mov (.tmp 2)⟩,
    ⟨(some 14), none, .ibin .lss (.tmp 12) (.tmp 13)⟩]

def f36r2 : List AInstr := [
    ⟨(some 17), none, .mov (.tmp 8)⟩,
    ⟨(some 9), none, .mov (.tmp 17)⟩]

def f36r3 : List AInstr := [
    ⟨(some 18), none, .mov (.tmp 9)⟩,
    ⟨(some 19), none, .mov (.tmp 1)⟩,
    ⟨(some 20), none, .ibin .gtr (.tmp 18) (.tmp 19)⟩,
    ⟨(some 21), none, .mov (.tmp 20)⟩,
    ⟨(some 22), (some (21, true)), .mov (.tmp 3)⟩,
    ⟨(some 23), (some (21, true)), .mov (.tmp 0)⟩,
    ⟨(some 24), (some (21, true)), .mov (.tmp 9)⟩,
    ⟨(some 25), (some (21, true)), .indexAddr 2 (.tmp 23) (.tmp 24)⟩,
    ⟨(some 26), (some (21, true)), .load (some 2) (.tmp 25)⟩,
    ⟨(some 27), (some (21, true)), .mov (.tmp 0)⟩,
    ⟨(some 28), (some (21, true)), .mov (.tmp 9)⟩,
    ⟨(some 29), (some (21, true)), .ibin .sub (.tmp 28) (.const (.int .i64 1))⟩,
    ⟨(some 30), (some (21, true)), .indexAddr 2 (.tmp 27) (.tmp 29)⟩,
    ⟨(some 31), (some (21, true)), .load (some 2) (.tmp 30)⟩,
    ⟨(some 32), (some (21, true)), .callV (.tmp 22) [.tmp 26, .tmp 31]⟩,
    ⟨(some 33), (some (21, true)), .ibin .lss (.tmp 32) (.const (.int .i64 0))⟩,
    ⟨(some 34), none, .pick (.tmp 21) (.tmp 33) (.const (.bool false))⟩]

def f36r4 : List AInstr := [
    ⟨(some 37), none, .mov (.tmp 0)⟩,
    ⟨(some 38), none, .mov (.tmp 9)⟩,
    ⟨(some 39), none, .mov (.tmp 0)⟩,
    ⟨(some 40), none, .mov (.tmp 9)⟩,
    ⟨(some 41), none, .ibin .sub (.tmp 40) (.const (.int .i64 1))⟩,
    ⟨(some 42), none, .mov (.tmp 0)⟩,
    ⟨(some 43), none, .mov (.tmp 9)⟩,
    ⟨(some 44), none, .ibin .sub (.tmp 43) (.const (.int .i64 1))⟩,
    ⟨(some 45), none, .indexAddr 2 (.tmp 42) (.tmp 44)⟩,
    ⟨(some 46), none, .load (some 2) (.tmp 45)⟩,
    ⟨(some 47), none, .mov (.tmp 0)⟩,
    ⟨(some 48), none, .mov (.tmp 9)⟩,
    ⟨(some 49), none, .indexAddr 2 (.tmp 47) (.tmp 48)⟩,
    ⟨(some 50), none, .load (some 2) (.tmp 49)⟩,
    ⟨(some 51), none, .indexAddr 2 (.tmp 37) (.tmp 38)⟩,
    ⟨none, none, .store 2 (.tmp 51) (.tmp 46)⟩,
    ⟨(some 52), none, .indexAddr 2 (.tmp 39) (.tmp 41)⟩,
    ⟨none, none, .store 2 (.tmp 52) (.tmp 50)⟩]

def f36r5 : List AInstr := [
    ⟨(some 35), none, .mov (.tmp 9)⟩,
    ⟨(some 36), none, .ibin .sub (.tmp 35) (.const (.int .i64 1))⟩,
    ⟨(some 9), none, .mov (.tmp 36)⟩]

/-- live: [0, 1, 2, 3, 8, 9] -/
def f36l0 : ACode := (.seq (.seq (.draw f36r3 [(0, 0, false), (0, 0, false), (0, 0, false), (0, 0, false), (0, 0, false), (0, 0, false), (0, 0, false), (0, 0, false), (0, 0, false), (0, 0, false), (0, 0, false), (0, 0, false), (0, 0, false), (0, 0, false), (0, 0, true), (1, 1, false), (1, 1, false)])
  (.keep [0, 1, 2, 3, 8, 9, 34] (.cond (.tmp 34) .skip (.exit 2))))
  (.keep [0, 1, 2, 3, 8, 9] (.seq (.block 3 (.draw f36r4 [(0, 0, false), (0, 0, false), (0, 1, false), (0, 1, false), (0, 1, false), (0, 0, false), (0, 0, false), (0, 0, false), (0, 0, false), (0, 0, false), (0, 0, false), (0, 0, false), (0, 0, false), (0, 0, false), (0, 0, false), (0, 0, true), (1, 1, false), (1, 0, true)]))
  (.keep [0, 1, 2, 3, 8, 9] (.ops f36r5)))))

def f36r7 : List AInstr := [
    ⟨(some 15), none, .mov (.tmp 8)⟩,
    ⟨(some 16), none, .ibin .add (.tmp 15) (.const (.int .i64 1))⟩,
    ⟨(some 8), none, .mov (.tmp 16)⟩]

/-- live: [0, 1, 2, 3, 8] -/
def f36l1 : ACode := (.seq (.seq (.ops f36r1)
  (.keep [0, 1, 2, 3, 8, 14] (.cond (.tmp 14) .skip (.exit 0))))
  (.keep [0, 1, 2, 3, 8] (.seq (.block 1 (.seq (.ops f36r2)
  (.keep [0, 1, 2, 3, 8, 9] (.block 2 (.loop f36l0)))))
  (.keep [0, 1, 2, 3, 8] (.ops f36r7)))))

def f36b : ACode := (.seq (.ops f36r0)
  (.keep [0, 1, 2, 3, 8] (.block 0 (.loop f36l1))))

def f36 : AFn := ⟨53, [], f36b⟩

theorem f36_ok : compFn Try.prog 36 = some f36.strip := by kernel_rfl

/- function 37: slices.heapSortCmpFunc[weirhouse/api.Count]; parameters 4; operations that are not compiled: 0 -/
def f37r0 : List AInstr := [
    ⟨(some 13), none, .mov (.tmp 1)⟩,
    ⟨(some 8), none, .mov (.tmp 13)⟩]

def f37r1 : List AInstr := [
    ⟨(some 9), none, .mov (.const (.int .i64 0))⟩]

def f37r2 : List AInstr := [
    ⟨(some 14), none, .mov (.tmp 2)⟩,
    ⟨(some 15), none, .mov (.tmp 1)⟩,
    ⟨(some 16), none, .ibin .sub (.tmp 14) (.tmp 15)⟩,
    ⟨(some 10), none, .mov (.tmp 16)⟩]

def f37r3 : List AInstr := [
    ⟨(some 17), none, .mov (.tmp 10)⟩,
    ⟨(some 18), none, .ibin .sub (.tmp 17) (.const (.int .i64 1))⟩,
    ⟨(some 19), none, .ibin .quo (.tmp 18) (.const (.int .i64 2))⟩,
    ⟨(some 11), none, .mov (.tmp 19)⟩]

def f37r4 : List AInstr := [
    ⟨(some 20), none, .mov (.tmp 11)⟩,
    ⟨(some 21), none, .ibin .geq (.tmp 20) (.const (.int .i64 0))⟩]

def f37r5 : List AInstr := [
    ⟨(some 24), none, .mov (.tmp 0)⟩,
    ⟨(some 25), none, .mov (.tmp 11)⟩,
    ⟨(some 26), none, .mov (.tmp 10)⟩,
    ⟨(some 27), none, .mov (.tmp 8)⟩,
    ⟨(some 28), none, .mov (.tmp 3)⟩,
    ⟨(some 29), none, .callF 56 [.tmp 24, .tmp 25, .tmp 26, .tmp 27, .tmp 28]⟩]

def f37r6 : List AInstr := [
    ⟨(some 22), none, .mov (.tmp 11)⟩,
    ⟨(some 23), none, .ibin .sub (.tmp 22) (.const (.int .i64 1))⟩,
    ⟨(some 11), none, .mov (.tmp 23)⟩]

/-- live: [0, 3, 8, 9, 10, 11] -/
def f37l0 : ACode := (.seq (.seq (.ops f37r4)
  (.keep [0, 3, 8, 9, 10, 11, 21] (.cond (.tmp 21) .skip (.exit 0))))
  (.keep [0, 3, 8, 9, 10, 11] (.seq (.block 1 (.ops f37r5))
  (.keep [0, 3, 8, 9, 10, 11] (.ops f37r6)))))

def f37r8 : List AInstr := [
    ⟨(some 30), none, .mov (.tmp 10)⟩,
    ⟨(some 31), none, .ibin .sub (.tmp 30) (.const (.int .i64 1))⟩,
    ⟨(some 12), none, .mov (.tmp 31)⟩]

def f37r9 : List AInstr := [
    ⟨(some 32), none, .mov (.tmp 12)⟩,
    ⟨(some 33), none, .ibin .geq (.tmp 32) (.const (.int .i64 0))⟩]

def f37r10 : List AInstr := [
    ⟨(some 36), none, .mov (.tmp 0)⟩,
    ⟨(some 37), none, .mov (.tmp 8)⟩,
    ⟨(some 38), none, .mov (.tmp 0)⟩,
    ⟨(some 39), none, .mov (.tmp 8)⟩,
    ⟨(some 40), none, .mov (.tmp 12)⟩,
    ⟨(some 41), none, .ibin .add (.tmp 39) (.tmp 40)⟩,
    ⟨(some 42), none, .mov (.tmp 0)⟩,
    ⟨(some 43), none, .mov (.tmp 8)⟩,
    ⟨(some 44), none, .mov (.tmp 12)⟩,
    ⟨(some 45), none, .ibin .add (.tmp 43) (.tmp 44)⟩,
    ⟨(some 46), none, .indexAddr 2 (.tmp 42) (.tmp 45)⟩,
    ⟨(some 47), none, .load (some 2) (.tmp 46)⟩,
    ⟨(some 48), none, .mov (.tmp 0)⟩,
    ⟨(some 49), none, .mov (.tmp 8)⟩,
    ⟨(some 50), none, .indexAddr 2 (.tmp 48) (.tmp 49)⟩,
    ⟨(some 51), none, .load (some 2) (.tmp 50)⟩,
    ⟨(some 52), none, .indexAddr 2 (.tmp 36) (.tmp 37)⟩,
    ⟨none, none, .store 2 (.tmp 52) (.tmp 47)⟩,
    ⟨(some 53), none, .indexAddr 2 (.tmp 38) (.tmp 41)⟩,
    ⟨none, none, .store 2 (.tmp 53) (.tmp 51)⟩]

def f37r11 : List AInstr := [
    ⟨(some 54), none, .mov (.tmp 0)⟩,
    ⟨(some 55), none, .mov (.tmp 9)⟩,
    ⟨(some 56), none, .mov (.tmp 12)⟩,
    ⟨(some 57), none, .mov (.tmp 8)⟩,
    ⟨(some 58), none, .mov (.tmp 3)⟩,
    ⟨(some 59), none, .callF 56 [.tmp 54, .tmp 55, .tmp 56, .tmp 57, .tmp 58]⟩]

def f37r12 : List AInstr := [
    ⟨(some 34), none, .mov (.tmp 12)⟩,
    ⟨(some 35), none, .ibin .sub (.tmp 34) (.const (.int .i64 1))⟩,
    ⟨(some 12), none, .mov (.tmp 35)⟩]

/-- live: [0, 3, 8, 9, 12] -/
def f37l1 : ACode := (.seq (.seq (.ops f37r9)
  (.keep [0, 3, 8, 9, 12, 33] (.cond (.tmp 33) .skip (.exit 2))))
  (.keep [0, 3, 8, 9, 12] (.seq (.block 3 (.seq (.draw f37r10 [(0, 0, false), (0, 0, false), (0, 1, false), (0, 1, false), (0, 1, false), (0, 1, false), (0, 0, false), (0, 0, false), (0, 0, false), (0, 0, false), (0, 0, false), (0, 0, false), (0, 0, false), (0, 0, false), (0, 0, false), (0, 0, false), (0, 0, false), (0, 0, true), (1, 1, false), (1, 0, true)])
  (.keep [0, 3, 8, 9, 12] (.ops f37r11))))
  (.keep [0, 3, 8, 9, 12] (.ops f37r12)))))

def f37b : ACode := (.seq (.ops f37r0)
  (.keep [0, 1, 2, 3, 8] (.seq (.ops f37r1)
  (.keep [0, 1, 2, 3, 8, 9] (.seq (.ops f37r2)
  (.keep [0, 3, 8, 9, 10] (.seq (.seq (.ops f37r3)
  (.keep [0, 3, 8, 9, 10, 11] (.block 0 (.loop f37l0))))
  (.keep [0, 3, 8, 9, 10] (.seq (.ops f37r8)
  (.keep [0, 3, 8, 9, 12] (.block 2 (.loop f37l1))))))))))))

def f37 : AFn := ⟨60, [], f37b⟩

theorem f37_ok : compFn Try.prog 37 = some f37.strip := by kernel_rfl

/- function 38: slices.breakPatternsCmpFunc[weirhouse/api.Count]; parameters 4; operations that are not compiled: 0 -/
def f38r0 : List AInstr := [
    ⟨(some 13), none, .mov (.tmp 2)⟩,
    ⟨(some 14), none, .mov (.tmp 1)⟩,
    ⟨(some 15), none, .ibin .sub (.tmp 13) (.tmp 14)⟩,
    ⟨(some 8), none, .mov (.tmp 15)⟩]

def f38r1 : List AInstr := [
    ⟨(some 16), none, .mov (.tmp 8)⟩,
    ⟨(some 17), none, .ibin .geq (.tmp 16) (.const (.int .i64 8))⟩]

def f38r2 : List AInstr := [
    ⟨(some 18), none, .mov (.tmp 8)⟩,
    ⟨(some 19), none, .conv .u64 (.tmp 18)⟩,
    ⟨(some 9), none, .alloc [.int .u64 0]⟩,
    ⟨none, none, .store 1 (.tmp 9) (.tmp 19)⟩]

def f38r3 : List AInstr := [
    ⟨(some 20), none, .mov (.tmp 8)⟩,
    ⟨(some 21), none, .callF 57 [.tmp 20]⟩,
    ⟨(some 10), none, .mov (.tmp 21)⟩]

def f38r4 : List AInstr := [
    ⟨(some 22), none, .mov (.tmp 1)⟩,
    ⟨(some 23), none, .mov (.tmp 8)⟩,
    ⟨(some 24), none, .ibin .quo (.tmp 23) (.const (.int .i64 4))⟩,
    ⟨(some 25), none, .ibin .mul (.tmp 24) (.const (.int .i64 2))⟩,
    ⟨(some 26), none, .ibin .add (.tmp 22) (.tmp 25)⟩,
    ⟨(some 27), none, .ibin .sub (.tmp 26) (.const (.int .i64 1))⟩,
    ⟨(some 11), none, .mov (.tmp 27)⟩]

def f38r5 : List AInstr := [
    ⟨(some 28), none, .mov (.tmp 11)⟩,
    ⟨(some 29), none, .mov (.tmp 1)⟩,
    ⟨(some 30), none, .mov (.tmp 8)⟩,
    ⟨(some 31), none, .ibin .quo (.tmp 30) (.const (.int .i64 4))⟩,
    ⟨(some 32), none, .ibin .mul (.tmp 31) (.const (.int .i64 2))⟩,
    ⟨(some 33), none, .ibin .add (.tmp 29) (.tmp 32)⟩,
    ⟨(some 34), none, .ibin .add (.tmp 33) (.const (.int .i64 1))⟩,
    ⟨(some 35), none, .ibin .leq (.tmp 28) (.tmp 34)⟩]

def f38r6 : List AInstr := [
    ⟨(some 38), none, .callF 58 [.tmp 9]⟩,
    ⟨(some 39), none, .mov (.tmp 10)⟩,
    ⟨(some 40), none, .ibin .sub (.tmp 39) (.const (.int .u64 1))⟩,
    ⟨(some 41), none, .ibin .and (.tmp 38) (.tmp 40)⟩,
    ⟨(some 42), none, .conv .i64 (.tmp 41)⟩,
    ⟨(some 12), none, .mov (.tmp 42)⟩]

def f38r7 : List AInstr := [
    ⟨(some 43), none, .mov (.tmp 12)⟩,
    ⟨(some 44), none, .mov (.tmp 8)⟩,
    ⟨(some 45), none, .ibin .geq (.tmp 43) (.tmp 44)⟩]

def f38r8 : List AInstr := [
    ⟨(some 46), none, .mov (.tmp 12)⟩,
    ⟨(some 47), none, .mov (.tmp 8)⟩,
    ⟨(some 48), none, .ibin .sub (.tmp 46) (.tmp 47)⟩,
    ⟨(some 12), none, .mov (.tmp 48)⟩]

def f38r9 : List AInstr := [
    ⟨(some 49), none, .mov (.tmp 0)⟩,
    ⟨(some 50), none, .mov (.tmp 11)⟩,
    ⟨(some 51), none, .mov (.tmp 0)⟩,
    ⟨(some 52), none, .mov (.tmp 1)⟩,
    ⟨(some 53), none, .mov (.tmp 12)⟩,
    ⟨(some 54), none, .ibin .add (.tmp 52) (.tmp 53)⟩,
    ⟨(some 55), none, .mov (.tmp 0)⟩,
    ⟨(some 56), none, .mov (.tmp 1)⟩,
    ⟨(some 57), none, .mov (.tmp 12)⟩,
    ⟨(some 58), none, .ibin .add (.tmp 56) (.tmp 57)⟩,
    ⟨(some 59), none, .indexAddr 2 (.tmp 55) (.tmp 58)⟩,
    ⟨(some 60), none, .load (some 2) (.tmp 59)⟩,
    ⟨(some 61), none, .mov (.tmp 0)⟩,
    ⟨(some 62), none, .mov (.tmp 11)⟩,
    ⟨(some 63), none, .indexAddr 2 (.tmp 61) (.tmp 62)⟩,
    ⟨(some 64), none, .load (some 2) (.tmp 63)⟩,
    ⟨(some 65), none, .indexAddr 2 (.tmp 49) (.tmp 50)⟩,
    ⟨none, none, .store 2 (.tmp 65) (.tmp 60)⟩,
    ⟨(some 66), none, .indexAddr 2 (.tmp 51) (.tmp 54)⟩,
    ⟨none, none, .store 2 (.tmp 66) (.tmp 64)⟩]

def f38r10 : List AInstr := [
    ⟨(some 36), none, .mov (.tmp 11)⟩,
    ⟨(some 37), none, .ibin .add (.tmp 36) (.const (.int .i64 1))⟩,
    ⟨(some 11), none, .mov (.tmp 37)⟩]

/-- live: [0, 1, 8, 9, 10, 11] -/
def f38l0 : ACode := (.seq (.seq (.ops f38r5)
  (.keep [0, 1, 8, 9, 10, 11, 35] (.cond (.tmp 35) .skip (.exit 0))))
  (.keep [0, 1, 8, 9, 10, 11] (.seq (.block 1 (.seq (.ops f38r6)
  (.keep [0, 1, 8, 9, 10, 11, 12] (.seq (.seq (.ops f38r7)
  (.keep [0, 1, 8, 9, 10, 11, 12, 45] (.cond (.tmp 45) (.keep [0, 1, 8, 9, 10, 11, 12] (.ops f38r8)) .skip)))
  (.keep [0, 1, 8, 9, 10, 11, 12] (.draw f38r9 [(0, 0, false), (0, 0, false), (0, 1, false), (0, 1, false), (0, 1, false), (0, 1, false), (0, 0, false), (0, 0, false), (0, 0, false), (0, 0, false), (0, 0, false), (0, 0, false), (0, 0, false), (0, 0, false), (0, 0, false), (0, 0, false), (0, 0, false), (0, 0, true), (1, 1, false), (1, 0, true)]))))))
  (.keep [0, 1, 8, 9, 10, 11] (.ops f38r10)))))

def f38b : ACode := (.seq (.ops f38r0)
  (.keep [0, 1, 8] (.seq (.ops f38r1)
  (.keep [0, 1, 8, 17] (.cond (.tmp 17) (.keep [0, 1, 8] (.seq (.ops f38r2)
  (.keep [0, 1, 8, 9] (.seq (.ops f38r3)
  (.keep [0, 1, 8, 9, 10] (.seq (.ops f38r4)
  (.keep [0, 1, 8, 9, 10, 11] (.block 0 (.loop f38l0))))))))) .skip)))))

def f38 : AFn := ⟨67, [], f38b⟩

theorem f38_ok : compFn Try.prog 38 = some f38.strip := by kernel_rfl

/- function 39: slices.choosePivotCmpFunc[weirhouse/api.Count]; parameters 4; operations that are not compiled: 0 -/
def f39r0 : List AInstr := [
    ⟨(some 8), none, .mov (.const (.int .i64 0))⟩,
    ⟨(some 9), none, .mov (.const (.int .i64 0))⟩]

def f39r1 : List AInstr := [
    ⟨(some 15), none, .mov (.tmp 2)⟩,
    ⟨(some 16), none, .mov (.tmp 1)⟩,
    ⟨(some 17), none, .ibin .sub (.tmp 15) (.tmp 16)⟩,
    ⟨(some 10), none, .mov (.tmp 17)⟩]

def f39r2 : List AInstr := [
    ⟨(some 11), none, .alloc [.int .i64 0]⟩]

def f39r3 : List AInstr := [
    ⟨(some 18), none, .mov (.tmp 1)⟩,
    ⟨(some 19), none, .mov (.tmp 10)⟩,
    ⟨(some 20), none, .ibin .quo (.tmp 19) (.const (.int .i64 4))⟩,
    ⟨(some 21), none, .ibin .mul (.tmp 20) (.const (.int .i64 1))⟩,
    ⟨(some 22), none, .ibin .add (.tmp 18) (.tmp 21)⟩,
    ⟨(some 12), none, .mov (.tmp 22)⟩]

def f39r4 : List AInstr := [
    ⟨(some 23), none, .mov (.tmp 1)⟩,
    ⟨(some 24), none, .mov (.tmp 10)⟩,
    ⟨(some 25), none, .ibin .quo (.tmp 24) (.const (.int .i64 4))⟩,
    ⟨(some 26), none, .ibin .mul (.tmp 25) (.const (.int .i64 2))⟩,
    ⟨(some 27), none, .ibin .add (.tmp 23) (.tmp 26)⟩,
    ⟨(some 13), none, .mov (.tmp 27)⟩]

def f39r5 : List AInstr := [
    ⟨(some 28), none, .mov (.tmp 1)⟩,
    ⟨(some 29), none, .mov (.tmp 10)⟩,
    ⟨(some 30), none, .ibin .quo (.tmp 29) (.const (.int .i64 4))⟩,
    ⟨(some 31), none, .ibin .mul (.tmp 30) (.const (.int .i64 3))⟩,
    ⟨(some 32), none, .ibin .add (.tmp 28) (.tmp 31)⟩,
    ⟨(some 14), none, .mov (.tmp 32)⟩]

def f39r6 : List AInstr := [
    ⟨(some 33), none, .mov (.tmp 10)⟩,
    ⟨(some 34), none, .ibin .geq (.tmp 33) (.const (.int .i64 8))⟩]

def f39r7 : List AInstr := [
    ⟨(some 35), none, .mov (.tmp 10)⟩,
    ⟨(some 36), none, .ibin .geq (.tmp 35) (.const (.int .i64 50))⟩]

def f39r8 : List AInstr := [
    ⟨(some 37), none, .mov (.tmp 0)⟩,
    ⟨(some 38), none, .mov (.tmp 12)⟩,
    ⟨(some 39), none, .mov (.tmp 3)⟩,
    ⟨(some 40), none, .callF 59 [.tmp 37, .tmp 38, .tmp 11, .tmp 39]⟩,
    ⟨(some 12), none, .mov (.tmp 40)⟩]

def f39r9 : List AInstr := [
    ⟨(some 41), none, .mov (.tmp 0)⟩,
    ⟨(some 42), none, .mov (.tmp 13)⟩,
    ⟨(some 43), none, .mov (.tmp 3)⟩,
    ⟨(some 44), none, .callF 59 [.tmp 41, .tmp 42, .tmp 11, .tmp 43]⟩,
    ⟨(some 13), none, .mov (.tmp 44)⟩]

def f39r10 : List AInstr := [
    ⟨(some 45), none, .mov (.tmp 0)⟩,
    ⟨(some 46), none, .mov (.tmp 14)⟩,
    ⟨(some 47), none, .mov (.tmp 3)⟩,
    ⟨(some 48), none, .callF 59 [.tmp 45, .tmp 46, .tmp 11, .tmp 47]⟩,
    ⟨(some 14), none, .mov (.tmp 48)⟩]

def f39r11 : List AInstr := [
    ⟨(some 49), none, .mov (.tmp 0)⟩,
    ⟨(some 50), none, .mov (.tmp 12)⟩,
    ⟨(some 51), none, .mov (.tmp 13)⟩,
    ⟨(some 52), none, .mov (.tmp 14)⟩,
    ⟨(some 53), none, .mov (.tmp 3)⟩,
    ⟨(some 54), none, .callF 60 [.tmp 49, .tmp 50, .tmp 51, .tmp 52, .tmp 11, .tmp 53]⟩,
    ⟨(some 13), none, .mov (.tmp 54)⟩]

def f39r12 : List AInstr := [
    ⟨(some 55), none, .load none (.tmp 11)⟩]

def f39r13 : List AInstr := [
    ⟨(some 58), none, .ibin .eql (.tmp 55) (.const (.int .i64 0))⟩,
    ⟨(some 57), none, .mov (.tmp 58)⟩]

def f39r14 : List AInstr := [
    ⟨(some 59), none, .mov (.tmp 13)⟩,
    ⟨(some 8), none, .mov (.tmp 59)⟩,
    ⟨(some 9), none, .mov (.const (.int .i64 1))⟩]

def f39r15 : List AInstr := [
    ⟨(some 61), none, .ibin .eql (.tmp 55) (.const (.int .i64 12))⟩,
    ⟨(some 60), none, .mov (.tmp 61)⟩]

def f39r16 : List AInstr := [
    ⟨(some 62), none, .mov (.tmp 13)⟩,
    ⟨(some 8), none, .mov (.tmp 62)⟩,
    ⟨(some 9), none, .mov (.const (.int .i64 2))⟩]

def f39r17 : List AInstr := [
    ⟨(some 56), none, .mov (.tmp 13)⟩,
    ⟨(some 8), none, .mov (.tmp 56)⟩,
    ⟨(some 9), none, .mov (.const (.int .i64 0))⟩]

def f39b : ACode := (.seq (.ops f39r0)
  (.keep [0, 1, 2, 3] (.seq (.ops f39r1)
  (.keep [0, 1, 3, 10] (.seq (.ops f39r2)
  (.keep [0, 1, 3, 10, 11] (.seq (.ops f39r3)
  (.keep [0, 1, 3, 10, 11, 12] (.seq (.ops f39r4)
  (.keep [0, 1, 3, 10, 11, 12, 13] (.seq (.ops f39r5)
  (.keep [0, 3, 10, 11, 12, 13, 14] (.seq (.seq (.ops f39r6)
  (.keep [0, 3, 10, 11, 12, 13, 14, 34] (.cond (.tmp 34) (.keep [0, 3, 10, 11, 12, 13, 14] (.seq (.seq (.ops f39r7)
  (.keep [0, 3, 11, 12, 13, 14, 36] (.cond (.tmp 36) (.keep [0, 3, 11, 12, 13, 14] (.seq (.ops f39r8)
  (.keep [0, 3, 11, 12, 13, 14] (.seq (.ops f39r9)
  (.keep [0, 3, 11, 12, 13, 14] (.ops f39r10)))))) .skip)))
  (.keep [0, 3, 11, 12, 13, 14] (.ops f39r11)))) .skip)))
  (.keep [11, 13] (.seq (.ops f39r12)
  (.keep [13, 55] (.block 0 (.seq (.ops f39r13)
  (.keep [13, 55, 57] (.cond (.tmp 57) (.keep [13] (.seq (.ops f39r14)
  (.keep [8, 9] .ret))) (.keep [13, 55] (.seq (.ops f39r15)
  (.keep [13, 60] (.cond (.tmp 60) (.keep [13] (.seq (.ops f39r16)
  (.keep [8, 9] .ret))) (.keep [13] (.seq (.ops f39r17)
  (.keep [8, 9] .ret)))))))))))))))))))))))))))

def f39 : AFn := ⟨63, [.tmp 8, .tmp 9], f39b⟩

theorem f39_ok : compFn Try.prog 39 = some f39.strip := by kernel_rfl

/- function 40: slices.reverseRangeCmpFunc[weirhouse/api.Count]; parameters 4; operations that are not compiled: 0 -/
def f40r0 : List AInstr := [
    ⟨(some 10), none, .mov (.tmp 1)⟩,
    ⟨(some 8), none, .mov (.tmp 10)⟩]

def f40r1 : List AInstr := [
    ⟨(some 11), none, .mov (.tmp 2)⟩,
    ⟨(some 12), none, .ibin .sub (.tmp 11) (.const (.int .i64 1))⟩,
    ⟨(some 9), none, .mov (.tmp 12)⟩]

def f40r2 : List AInstr := [
    ⟨(some 13), none, .mov (.tmp 8)⟩,
    ⟨(some 14), none, .mov (.tmp 9)⟩,
    ⟨(some 15), none, .ibin .lss (.tmp 13) (.tmp 14)⟩]

def f40r3 : List AInstr := [
    ⟨(some 16), none, .mov (.tmp 0)⟩,
    ⟨(some 17), none, .mov (.tmp 8)⟩,
    ⟨(some 18), none, .mov (.tmp 0)⟩,
    ⟨(some 19), none, .mov (.tmp 9)⟩,
    ⟨(some 20), none, .mov (.tmp 0)⟩,
    ⟨(some 21), none, .mov (.tmp 9)⟩,
    ⟨(some 22), none, .indexAddr 2 (.tmp 20) (.tmp 21)⟩,
    ⟨(some 23), none, .load (some 2) (.tmp 22)⟩,
    ⟨(some 24), none, .mov (.tmp 0)⟩,
    ⟨(some 25), none, .mov (.tmp 8)⟩,
    ⟨(some 26), none, .indexAddr 2 (.tmp 24) (.tmp 25)⟩,
    ⟨(some 27), none, .load (some 2) (.tmp 26)⟩,
    ⟨(some 28), none, .indexAddr 2 (.tmp 16) (.tmp 17)⟩,
    ⟨none, none, .store 2 (.tmp 28) (.tmp 23)⟩,
    ⟨(some 29), none, .indexAddr 2 (.tmp 18) (.tmp 19)⟩,
    ⟨none, none, .store 2 (.tmp 29) (.tmp 27)⟩]

def f40r4 : List AInstr := [
    ⟨(some 30), none, .mov (.tmp 8)⟩,
    ⟨(some 31), none, .ibin .add (.tmp 30) (.const (.int .i64 1))⟩,
    ⟨(some 8), none, .mov (.tmp 31)⟩]

def f40r5 : List AInstr := [
    ⟨(some 32), none, .mov (.tmp 9)⟩,
    ⟨(some 33), none, .ibin .sub (.tmp 32) (.const (.int .i64 1))⟩,
    ⟨(some 9), none, .mov (.tmp 33)⟩]

/-- live: [0, 8, 9] -/
def f40l0 : ACode := (.seq (.seq (.ops f40r2)
  (.keep [0, 8, 9, 15] (.cond (.tmp 15) .skip (.exit 0))))
  (.keep [0, 8, 9] (.block 1 (.seq (.draw f40r3 [(0, 0, false), (0, 0, false), (0, 1, false), (0, 1, false), (0, 0, false), (0, 0, false), (0, 0, false), (0, 0, false), (0, 0, false), (0, 0, false), (0, 0, false), (0, 0, false), (0, 0, false), (0, 0, true), (1, 1, false), (1, 0, true)])
  (.keep [0, 8, 9] (.seq (.ops f40r4)
  (.keep [0, 8, 9] (.ops f40r5))))))))

def f40b : ACode := (.seq (.ops f40r0)
  (.keep [0, 2, 8] (.seq (.ops f40r1)
  (.keep [0, 8, 9] (.block 0 (.loop f40l0))))))

def f40 : AFn := ⟨34, [], f40b⟩

theorem f40_ok : compFn Try.prog 40 = some f40.strip := by kernel_rfl

/- function 41: slices.partialInsertionSortCmpFunc[weirhouse/api.Count]; parameters 4; operations that are not compiled: 0 -/
def f41r0 : List AInstr := [
    ⟨(some 8), none, .mov (.const (.bool false))⟩]

def f41r1 : List AInstr := [
    ⟨(some 13), none, .mov (.tmp 1)⟩,
    ⟨(some 14), none, .ibin .add (.tmp 13) (.const (.int .i64 1))⟩,
    ⟨(some 9), none, .mov (.tmp 14)⟩]

def f41r2 : List AInstr := [
    ⟨(some 10), none, .mov (.const (.int .i64 0))⟩]

def f41r3 : List AInstr := [
    ⟨(some 15), none, .mov (.tmp 10)⟩,
    ⟨(some 16), none, .ibin .lss (.tmp 15) (.const (.int .i64 5))⟩]

def f41r4 : List AInstr := [
    ⟨(some 19), none, .mov (.tmp 9)⟩,
    ⟨(some 20), none, .mov (.tmp 2)⟩,
    ⟨(some 21), none, .ibin .lss (.tmp 19) (.tmp 20)⟩,
    ⟨(some 22), none, .mov (.tmp 21)⟩,
    ⟨(some 23), (some (22, true)), .mov (.tmp 3)⟩,
    ⟨(some 24), (some (22, true)), .mov (.tmp 0)⟩,
    ⟨(some 25), (some (22, true)), .mov (.tmp 9)⟩,
    ⟨(some 26), (some (22, true)), .indexAddr 2 (.tmp 24) (.tmp 25)⟩,
    ⟨(some 27), (some (22, true)), .load (some 2) (.tmp 26)⟩,
    ⟨(some 28), (some (22, true)), .mov (.tmp 0)⟩,
    ⟨(some 29), (some (22, true)), .mov (.tmp 9)⟩,
    ⟨(some 30), (some (22, true)), .ibin .sub (.tmp 29) (.const (.int .i64 1))⟩,
    ⟨(some 31), (some (22, true)), .indexAddr 2 (.tmp 28) (.tmp 30)⟩,
    ⟨(some 32), (some (22, true)), .load (some 2) (.tmp 31)⟩,
    ⟨(some 33), (some (22, true)), .callV (.tmp 23) [.tmp 27, .tmp 32]⟩,
    ⟨(some 34), (some (22, true)), .ibin .lss (.tmp 33) (.const (.int .i64 0))⟩,
    ⟨(some 35), (some (22, true)), .un .not (.tmp 34)⟩,
    ⟨(some 36), none, .pick (.tmp 22) (.tmp 35) (.const (.bool false))⟩]

def f41r5 : List AInstr := [
    ⟨(some 37), none, .mov (.tmp 9)⟩,
    ⟨(some 38), none, .ibin .add (.tmp 37) (.const (.int .i64 1))⟩,
    ⟨(some 9), none, .mov (.tmp 38)⟩]

/-- live: [0, 1, 2, 3, 9, 10] -/
def f41l0 : ACode := (.seq (.seq (.draw f41r4 [(0, 0, false), (0, 0, false), (0, 0, false), (0, 0, false), (0, 0, false), (0, 0, false), (0, 0, false), (0, 0, false), (0, 0, false), (0, 0, false), (0, 0, false), (0, 0, false), (0, 0, false), (0, 0, false), (0, 0, true), (1, 1, false), (1, 1, false), (1, 1, false)])
  (.keep [0, 1, 2, 3, 9, 10, 36] (.cond (.tmp 36) .skip (.exit 2))))
  (.keep [0, 1, 2, 3, 9, 10] (.block 3 (.ops f41r5))))

def f41r7 : List AInstr := [
    ⟨(some 39), none, .mov (.tmp 9)⟩,
    ⟨(some 40), none, .mov (.tmp 2)⟩,
    ⟨(some 41), none, .ibin .eql (.tmp 39) (.tmp 40)⟩]

def f41r8 : List AInstr := [
    ⟨(some 8), none, .mov (.const (.bool true))⟩]

def f41r9 : List AInstr := [
    ⟨(some 42), none, .mov (.tmp 2)⟩,
    ⟨(some 43), none, .mov (.tmp 1)⟩,
    ⟨(some 44), none, .ibin .sub (.tmp 42) (.tmp 43)⟩,
    ⟨(some 45), none, .ibin .lss (.tmp 44) (.const (.int .i64 50))⟩]

def f41r10 : List AInstr := [
    ⟨(some 8), none, .mov (.const (.bool false))⟩]

def f41r11 : List AInstr := [
    ⟨(some 46), none, .mov (.tmp 0)⟩,
    ⟨(some 47), none, .mov (.tmp 9)⟩,
    ⟨(some 48), none, .mov (.tmp 0)⟩,
    ⟨(some 49), none, .mov (.tmp 9)⟩,
    ⟨(some 50), none, .ibin .sub (.tmp 49) (.const (.int .i64 1))⟩,
    ⟨(some 51), none, .mov (.tmp 0)⟩,
    ⟨(some 52), none, .mov (.tmp 9)⟩,
    ⟨(some 53), none, .ibin .sub (.tmp 52) (.const (.int .i64 1))⟩,
    ⟨(some 54), none, .indexAddr 2 (.tmp 51) (.tmp 53)⟩,
    ⟨(some 55), none, .load (some 2) (.tmp 54)⟩,
    ⟨(some 56), none, .mov (.tmp 0)⟩,
    ⟨(some 57), none, .mov (.tmp 9)⟩,
    ⟨(some 58), none, .indexAddr 2 (.tmp 56) (.tmp 57)⟩,
    ⟨(some 59), none, .load (some 2) (.tmp 58)⟩,
    ⟨(some 60), none, .indexAddr 2 (.tmp 46) (.tmp 47)⟩,
    ⟨none, none, .store 2 (.tmp 60) (.tmp 55)⟩,
    ⟨(some 61), none, .indexAddr 2 (.tmp 48) (.tmp 50)⟩,
    ⟨none, none, .store 2 (.tmp 61) (.tmp 59)⟩]

def f41r12 : List AInstr := [
    ⟨(some 62), none, .mov (.tmp 9)⟩,
    ⟨(some 63), none, .mov (.tmp 1)⟩,
    ⟨(some 64), none, .ibin .sub (.tmp 62) (.tmp 63)⟩,
    ⟨(some 65), none, .ibin .geq (.tmp 64) (.const (.int .i64 2))⟩]

def f41r13 : List AInstr := [
    ⟨(some 66), none, .mov (.tmp 9)⟩,
    ⟨(some 67), none, .ibin .sub (.tmp 66) (.const (.int .i64 1))⟩,
    ⟨(some 11), none, .mov (.tmp 67)⟩]

def f41r14 : List AInstr := [
    ⟨(some 68), none, .mov (.tmp 11)⟩,
    ⟨(some 69), none, .ibin .geq (.tmp 68) (.const (.int .i64 1))⟩]

def f41r15 : List AInstr := [
    ⟨(some 72), none, .mov (.tmp 3)⟩,
    ⟨(some 73), none, .mov (.tmp 0)⟩,
    ⟨(some 74), none, .mov (.tmp 11)⟩,
    ⟨(some 75), none, .indexAddr 2 (.tmp 73) (.tmp 74)⟩,
    ⟨(some 76), none, .load (some 2) (.tmp 75)⟩,
    ⟨(some 77), none, .mov (.tmp 0)⟩,
    ⟨(some 78), none, .mov (.tmp 11)⟩,
    ⟨(some 79), none, .ibin .sub (.tmp 78) (.const (.int .i64 1))⟩,
    ⟨(some 80), none, .indexAddr 2 (.tmp 77) (.tmp 79)⟩,
    ⟨(some 81), none, .load (some 2) (.tmp 80)⟩,
    ⟨(some 82), none, .callV (.tmp 72) [.tmp 76, .tmp 81]⟩,
    ⟨(some 83), none, .ibin .lss (.tmp 82) (.const (.int .i64 0))⟩,
    ⟨(some 84), none, .un .not (.tmp 83)⟩]

def f41r16 : List AInstr := [
    ⟨(some 85), none, .mov (.tmp 0)⟩,
    ⟨(some 86), none, .mov (.tmp 11)⟩,
    ⟨(some 87), none, .mov (.tmp 0)⟩,
    ⟨(some 88), none, .mov (.tmp 11)⟩,
    ⟨(some 89), none, .ibin .sub (.tmp 88) (.const (.int .i64 1))⟩,
    ⟨(some 90), none, .mov (.tmp 0)⟩,
    ⟨(some 91), none, .mov (.tmp 11)⟩,
    ⟨(some 92), none, .ibin .sub (.tmp 91) (.const (.int .i64 1))⟩,
    ⟨(some 93), none, .indexAddr 2 (.tmp 90) (.tmp 92)⟩,
    ⟨(some 94), none, .load (some 2) (.tmp 93)⟩,
    ⟨(some 95), none, .mov (.tmp 0)⟩,
    ⟨(some 96), none, .mov (.tmp 11)⟩,
    ⟨(some 97), none, .indexAddr 2 (.tmp 95) (.tmp 96)⟩,
    ⟨(some 98), none, .load (some 2) (.tmp 97)⟩,
    ⟨(some 99), none, .indexAddr 2 (.tmp 85) (.tmp 86)⟩,
    ⟨none, none, .store 2 (.tmp 99) (.tmp 94)⟩,
    ⟨(some 100), none, .indexAddr 2 (.tmp 87) (.tmp 89)⟩,
    ⟨none, none, .store 2 (.tmp 100) (.tmp 98)⟩]

def f41r17 : List AInstr := [
    ⟨(some 70), none, .mov (.tmp 11)⟩,
    ⟨(some 71), none, .ibin .sub (.tmp 70) (.const (.int .i64 1))⟩,
    ⟨(some 11), none, .mov (.tmp 71)⟩]

/-- live: [0, 1, 2, 3, 9, 10, 11] -/
def f41l1 : ACode := (.seq (.seq (.ops f41r14)
  (.keep [0, 1, 2, 3, 9, 10, 11, 69] (.cond (.tmp 69) .skip (.exit 4))))
  (.keep [0, 1, 2, 3, 9, 10, 11] (.seq (.block 5 (.seq (.seq (.draw f41r15 [(0, 0, false), (0, 0, false), (0, 0, false), (0, 0, false), (0, 0, false), (0, 0, false), (0, 0, false), (0, 0, false), (0, 0, false), (0, 0, false), (0, 0, true), (1, 1, false), (1, 1, false)])
  (.keep [0, 1, 2, 3, 9, 10, 11, 84] (.cond (.tmp 84) (.exit 4) .skip)))
  (.keep [0, 1, 2, 3, 9, 10, 11] (.draw f41r16 [(0, 0, false), (0, 0, false), (0, 1, false), (0, 1, false), (0, 1, false), (0, 0, false), (0, 0, false), (0, 0, false), (0, 0, false), (0, 0, false), (0, 0, false), (0, 0, false), (0, 0, false), (0, 0, false), (0, 0, false), (0, 0, true), (1, 1, false), (1, 0, true)]))))
  (.keep [0, 1, 2, 3, 9, 10, 11] (.ops f41r17)))))

def f41r19 : List AInstr := [
    ⟨(some 101), none, .mov (.tmp 2)⟩,
    ⟨(some 102), none, .mov (.tmp 9)⟩,
    ⟨(some 103), none, .ibin .sub (.tmp 101) (.tmp 102)⟩,
    ⟨(some 104), none, .ibin .geq (.tmp 103) (.const (.int .i64 2))⟩]

def f41r20 : List AInstr := [
    ⟨(some 105), none, .mov (.tmp 9)⟩,
    ⟨(some 106), none, .ibin .add (.tmp 105) (.const (.int .i64 1))⟩,
    ⟨(some 12), none, .mov (.tmp 106)⟩]

def f41r21 : List AInstr := [
    ⟨(some 107), none, .mov (.tmp 12)⟩,
    ⟨(some 108), none, .mov (.tmp 2)⟩,
    ⟨(some 109), none, .ibin .lss (.tmp 107) (.tmp 108)⟩]

def f41r22 : List AInstr := [
    ⟨(some 112), none, .mov (.tmp 3)⟩,
    ⟨(some 113), none, .mov (.tmp 0)⟩,
    ⟨(some 114), none, .mov (.tmp 12)⟩,
    ⟨(some 115), none, .indexAddr 2 (.tmp 113) (.tmp 114)⟩,
    ⟨(some 116), none, .load (some 2) (.tmp 115)⟩,
    ⟨(some 117), none, .mov (.tmp 0)⟩,
    ⟨(some 118), none, .mov (.tmp 12)⟩,
    ⟨(some 119), none, .ibin .sub (.tmp 118) (.const (.int .i64 1))⟩,
    ⟨(some 120), none, .indexAddr 2 (.tmp 117) (.tmp 119)⟩,
    ⟨(some 121), none, .load (some 2) (.tmp 120)⟩,
    ⟨(some 122), none, .callV (.tmp 112) [.tmp 116, .tmp 121]⟩,
    ⟨(some 123), none, .ibin .lss (.tmp 122) (.const (.int .i64 0))⟩,
    ⟨(some 124), none, .un .not (.tmp 123)⟩]

def f41r23 : List AInstr := [
    ⟨(some 125), none, .mov (.tmp 0)⟩,
    ⟨(some 126), none, .mov (.tmp 12)⟩,
    ⟨(some 127), none, .mov (.tmp 0)⟩,
    ⟨(some 128), none, .mov (.tmp 12)⟩,
    ⟨(some 129), none, .ibin .sub (.tmp 128) (.const (.int .i64 1))⟩,
    ⟨(some 130), none, .mov (.tmp 0)⟩,
    ⟨(some 131), none, .mov (.tmp 12)⟩,
    ⟨(some 132), none, .ibin .sub (.tmp 131) (.const (.int .i64 1))⟩,
    ⟨(some 133), none, .indexAddr 2 (.tmp 130) (.tmp 132)⟩,
    ⟨(some 134), none, .load (some 2) (.tmp 133)⟩,
    ⟨(some 135), none, .mov (.tmp 0)⟩,
    ⟨(some 136), none, .mov (.tmp 12)⟩,
    ⟨(some 137), none, .indexAddr 2 (.tmp 135) (.tmp 136)⟩,
    ⟨(some 138), none, .load (some 2) (.tmp 137)⟩,
    ⟨(some 139), none, .indexAddr 2 (.tmp 125) (.tmp 126)⟩,
    ⟨none, none, .store 2 (.tmp 139) (.tmp 134)⟩,
    ⟨(some 140), none, .indexAddr 2 (.tmp 127) (.tmp 129)⟩,
    ⟨none, none, .store 2 (.tmp 140) (.tmp 138)⟩]

def f41r24 : List AInstr := [
    ⟨(some 110), none, .mov (.tmp 12)⟩,
    ⟨(some 111), none, .ibin .add (.tmp 110) (.const (.int .i64 1))⟩,
    ⟨(some 12), none, .mov (.tmp 111)⟩]

/-- live: [0, 1, 2, 3, 9, 10, 12] -/
def f41l2 : ACode := (.seq (.seq (.ops f41r21)
  (.keep [0, 1, 2, 3, 9, 10, 12, 109] (.cond (.tmp 109) .skip (.exit 6))))
  (.keep [0, 1, 2, 3, 9, 10, 12] (.seq (.block 7 (.seq (.seq (.draw f41r22 [(0, 0, false), (0, 0, false), (0, 0, false), (0, 0, false), (0, 0, false), (0, 0, false), (0, 0, false), (0, 0, false), (0, 0, false), (0, 0, false), (0, 0, true), (1, 1, false), (1, 1, false)])
  (.keep [0, 1, 2, 3, 9, 10, 12, 124] (.cond (.tmp 124) (.exit 6) .skip)))
  (.keep [0, 1, 2, 3, 9, 10, 12] (.draw f41r23 [(0, 0, false), (0, 0, false), (0, 1, false), (0, 1, false), (0, 1, false), (0, 0, false), (0, 0, false), (0, 0, false), (0, 0, false), (0, 0, false), (0, 0, false), (0, 0, false), (0, 0, false), (0, 0, false), (0, 0, false), (0, 0, true), (1, 1, false), (1, 0, true)]))))
  (.keep [0, 1, 2, 3, 9, 10, 12] (.ops f41r24)))))

def f41r26 : List AInstr := [
    ⟨(some 17), none, .mov (.tmp 10)⟩,
    ⟨(some 18), none, .ibin .add (.tmp 17) (.const (.int .i64 1))⟩,
    ⟨(some 10), none, .mov (.tmp 18)⟩]

/-- live: [0, 1, 2, 3, 9, 10] -/
def f41l3 : ACode := (.seq (.seq (.ops f41r3)
  (.keep [0, 1, 2, 3, 9, 10, 16] (.cond (.tmp 16) .skip (.exit 0))))
  (.keep [0, 1, 2, 3, 9, 10] (.seq (.block 1 (.seq (.block 2 (.loop f41l0))
  (.keep [0, 1, 2, 3, 9, 10] (.seq (.seq (.ops f41r7)
  (.keep [0, 1, 2, 3, 9, 10, 41] (.cond (.tmp 41) (.keep [] (.seq (.ops f41r8)
  (.keep [8] .ret))) .skip)))
  (.keep [0, 1, 2, 3, 9, 10] (.seq (.seq (.ops f41r9)
  (.keep [0, 1, 2, 3, 9, 10, 45] (.cond (.tmp 45) (.keep [] (.seq (.ops f41r10)
  (.keep [8] .ret))) .skip)))
  (.keep [0, 1, 2, 3, 9, 10] (.seq (.draw f41r11 [(0, 0, false), (0, 0, false), (0, 1, false), (0, 1, false), (0, 1, false), (0, 0, false), (0, 0, false), (0, 0, false), (0, 0, false), (0, 0, false), (0, 0, false), (0, 0, false), (0, 0, false), (0, 0, false), (0, 0, false), (0, 0, true), (1, 1, false), (1, 0, true)])
  (.keep [0, 1, 2, 3, 9, 10] (.seq (.seq (.ops f41r12)
  (.keep [0, 1, 2, 3, 9, 10, 65] (.cond (.tmp 65) (.keep [0, 1, 2, 3, 9, 10] (.seq (.ops f41r13)
  (.keep [0, 1, 2, 3, 9, 10, 11] (.block 4 (.loop f41l1))))) .skip)))
  (.keep [0, 1, 2, 3, 9, 10] (.seq (.ops f41r19)
  (.keep [0, 1, 2, 3, 9, 10, 104] (.cond (.tmp 104) (.keep [0, 1, 2, 3, 9, 10] (.seq (.ops f41r20)
  (.keep [0, 1, 2, 3, 9, 10, 12] (.block 6 (.loop f41l2))))) .skip))))))))))))))
  (.keep [0, 1, 2, 3, 9, 10] (.ops f41r26)))))

def f41r28 : List AInstr := [
    ⟨(some 8), none, .mov (.const (.bool false))⟩]

def f41b : ACode := (.seq (.ops f41r0)
  (.keep [0, 1, 2, 3] (.seq (.ops f41r1)
  (.keep [0, 1, 2, 3, 9] (.seq (.seq (.ops f41r2)
  (.keep [0, 1, 2, 3, 9, 10] (.block 0 (.loop f41l3))))
  (.keep [] (.seq (.ops f41r28)
  (.keep [8] .ret))))))))

def f41 : AFn := ⟨141, [.tmp 8], f41b⟩

theorem f41_ok : compFn Try.prog 41 = some f41.strip := by kernel_rfl

/- function 42: slices.partitionEqualCmpFunc[weirhouse/api.Count]; parameters 5; operations that are not compiled: 0 -/
def f42r0 : List AInstr := [
    ⟨(some 10), none, .mov (.const (.int .i64 0))⟩]

def f42r1 : List AInstr := [
    ⟨(some 13), none, .mov (.tmp 0)⟩,
    ⟨(some 14), none, .mov (.tmp 1)⟩,
    ⟨(some 15), none, .mov (.tmp 0)⟩,
    ⟨(some 16), none, .mov (.tmp 3)⟩,
    ⟨(some 17), none, .mov (.tmp 0)⟩,
    ⟨(some 18), none, .mov (.tmp 3)⟩,
    ⟨(some 19), none, .indexAddr 2 (.tmp 17) (.tmp 18)⟩,
    ⟨(some 20), none, .load (some 2) (.tmp 19)⟩,
    ⟨(some 21), none, .mov (.tmp 0)⟩,
    ⟨(some 22), none, .mov (.tmp 1)⟩,
    ⟨(some 23), none, .indexAddr 2 (.tmp 21) (.tmp 22)⟩,
    ⟨(some 24), none, .load (some 2) (.tmp 23)⟩,
    ⟨(some 25), none, .indexAddr 2 (.tmp 13) (.tmp 14)⟩,
    ⟨none, none, .store 2 (.tmp 25) (.tmp 20)⟩,
    ⟨(some 26), none, .indexAddr 2 (.tmp 15) (.tmp 16)⟩,
    ⟨none, none, .store 2 (.tmp 26) (.tmp 24)⟩]

def f42r2 : List AInstr := [
    ⟨(some 27), none, .mov (.tmp 1)⟩,
    ⟨(some 28), none, .ibin .add (.tmp 27) (.const (.int .i64 1))⟩,
    ⟨(some 29), none, .mov (.tmp 2)⟩,
    ⟨(some 30), none, .ibin .sub (.tmp 29) (.const (.int .i64 1))⟩,
    ⟨(some 11), none, .mov (.tmp 28)⟩,
    ⟨(some 12), none, .mov (.tmp 30)⟩]

def f42r3 : List AInstr := [
    ⟨(some 31), none, .mov (.tmp 11)⟩,
    ⟨(some 32), none, .mov (.tmp 12)⟩,
    ⟨(some 33), none, .ibin .leq (.tmp 31) (.tmp 32)⟩,
    ⟨(some 34), none, .mov (.tmp 33)⟩,
    ⟨(some 35), (some (34, true)), .mov (.tmp 4)⟩,
    ⟨(some 36), (some (34, true)), .mov (.tmp 0)⟩,
    ⟨(some 37), (some (34, true)), .mov (.tmp 1)⟩,
    ⟨(some 38), (some (34, true)), .indexAddr 2 (.tmp 36) (.tmp 37)⟩,
    ⟨(some 39), (some (34, true)), .load (some 2) (.tmp 38)⟩,
    ⟨(some 40), (some (34, true)), .mov (.tmp 0)⟩,
    ⟨(some 41), (some (34, true)), .mov (.tmp 11)⟩,
    ⟨(some 42), (some (34, true)), .indexAddr 2 (.tmp 40) (.tmp 41)⟩,
    ⟨(some 43), (some (34, true)), .load (some 2) (.tmp 42)⟩,
    ⟨(some 44), (some (34, true)), .callV (.tmp 35) [.tmp 39, .tmp 43]⟩,
    ⟨(some 45), (some (34, true)), .ibin .lss (.tmp 44) (.const (.int .i64 0))⟩,
    ⟨(some 46), (some (34, true)), .un .not (.tmp 45)⟩,
    ⟨(some 47), none, .pick (.tmp 34) (.tmp 46) (.const (.bool false))⟩]

def f42r4 : List AInstr := [
    ⟨(some 48), none, .mov (.tmp 11)⟩,
    ⟨(some 49), none, .ibin .add (.tmp 48) (.const (.int .i64 1))⟩,
    ⟨(some 11), none, .mov (.tmp 49)⟩]

/-- live: [0, 1, 4, 11, 12] -/
def f42l0 : ACode := (.seq (.seq (.draw f42r3 [(0, 0, false), (0, 0, false), (0, 0, false), (0, 0, false), (0, 0, false), (0, 0, false), (0, 0, false), (0, 0, false), (0, 0, false), (0, 0, false), (0, 0, false), (0, 0, false), (0, 0, false), (0, 0, true), (1, 1, false), (1, 1, false), (1, 1, false)])
  (.keep [0, 1, 4, 11, 12, 47] (.cond (.tmp 47) .skip (.exit 2))))
  (.keep [0, 1, 4, 11, 12] (.block 3 (.ops f42r4))))

def f42r6 : List AInstr := [
    ⟨(some 50), none, .mov (.tmp 11)⟩,
    ⟨(some 51), none, .mov (.tmp 12)⟩,
    ⟨(some 52), none, .ibin .leq (.tmp 50) (.tmp 51)⟩,
    ⟨(some 53), none, .mov (.tmp 52)⟩,
    ⟨(some 54), (some (53, true)), .mov (.tmp 4)⟩,
    ⟨(some 55), (some (53, true)), .mov (.tmp 0)⟩,
    ⟨(some 56), (some (53, true)), .mov (.tmp 1)⟩,
    ⟨(some 57), (some (53, true)), .indexAddr 2 (.tmp 55) (.tmp 56)⟩,
    ⟨(some 58), (some (53, true)), .load (some 2) (.tmp 57)⟩,
    ⟨(some 59), (some (53, true)), .mov (.tmp 0)⟩,
    ⟨(some 60), (some (53, true)), .mov (.tmp 12)⟩,
    ⟨(some 61), (some (53, true)), .indexAddr 2 (.tmp 59) (.tmp 60)⟩,
    ⟨(some 62), (some (53, true)), .load (some 2) (.tmp 61)⟩,
    ⟨(some 63), (some (53, true)), .callV (.tmp 54) [.tmp 58, .tmp 62]⟩,
    ⟨(some 64), (some (53, true)), .ibin .lss (.tmp 63) (.const (.int .i64 0))⟩,
    ⟨(some 65), none, .pick (.tmp 53) (.tmp 64) (.const (.bool false))⟩]

def f42r7 : List AInstr := [
    ⟨(some 66), none, .mov (.tmp 12)⟩,
    ⟨(some 67), none, .ibin .sub (.tmp 66) (.const (.int .i64 1))⟩,
    ⟨(some 12), none, .mov (.tmp 67)⟩]

/-- live: [0, 1, 4, 11, 12] -/
def f42l1 : ACode := (.seq (.seq (.draw f42r6 [(0, 0, false), (0, 0, false), (0, 0, false), (0, 0, false), (0, 0, false), (0, 0, false), (0, 0, false), (0, 0, false), (0, 0, false), (0, 0, false), (0, 0, false), (0, 0, false), (0, 0, false), (0, 0, true), (1, 1, false), (1, 1, false)])
  (.keep [0, 1, 4, 11, 12, 65] (.cond (.tmp 65) .skip (.exit 4))))
  (.keep [0, 1, 4, 11, 12] (.block 5 (.ops f42r7))))

def f42r9 : List AInstr := [
    ⟨(some 68), none, .mov (.tmp 11)⟩,
    ⟨(some 69), none, .mov (.tmp 12)⟩,
    ⟨(some 70), none, .ibin .gtr (.tmp 68) (.tmp 69)⟩]

def f42r10 : List AInstr := [
    ⟨(some 71), none, .mov (.tmp 0)⟩,
    ⟨(some 72), none, .mov (.tmp 11)⟩,
    ⟨(some 73), none, .mov (.tmp 0)⟩,
    ⟨(some 74), none, .mov (.tmp 12)⟩,
    ⟨(some 75), none, .mov (.tmp 0)⟩,
    ⟨(some 76), none, .mov (.tmp 12)⟩,
    ⟨(some 77), none, .indexAddr 2 (.tmp 75) (.tmp 76)⟩,
    ⟨(some 78), none, .load (some 2) (.tmp 77)⟩,
    ⟨(some 79), none, .mov (.tmp 0)⟩,
    ⟨(some 80), none, .mov (.tmp 11)⟩,
    ⟨(some 81), none, .indexAddr 2 (.tmp 79) (.tmp 80)⟩,
    ⟨(some 82), none, .load (some 2) (.tmp 81)⟩,
    ⟨(some 83), none, .indexAddr 2 (.tmp 71) (.tmp 72)⟩,
    ⟨none, none, .store 2 (.tmp 83) (.tmp 78)⟩,
    ⟨(some 84), none, .indexAddr 2 (.tmp 73) (.tmp 74)⟩,
    ⟨none, none, .store 2 (.tmp 84) (.tmp 82)⟩]

def f42r11 : List AInstr := [
    ⟨(some 85), none, .mov (.tmp 11)⟩,
    ⟨(some 86), none, .ibin .add (.tmp 85) (.const (.int .i64 1))⟩,
    ⟨(some 11), none, .mov (.tmp 86)⟩]

def f42r12 : List AInstr := [
    ⟨(some 87), none, .mov (.tmp 12)⟩,
    ⟨(some 88), none, .ibin .sub (.tmp 87) (.const (.int .i64 1))⟩,
    ⟨(some 12), none, .mov (.tmp 88)⟩]

/-- live: [0, 1, 4, 11, 12] -/
def f42l2 : ACode := (.block 1 (.seq (.block 2 (.loop f42l0))
  (.keep [0, 1, 4, 11, 12] (.seq (.block 4 (.loop f42l1))
  (.keep [0, 1, 4, 11, 12] (.seq (.seq (.ops f42r9)
  (.keep [0, 1, 4, 11, 12, 70] (.cond (.tmp 70) (.exit 0) .skip)))
  (.keep [0, 1, 4, 11, 12] (.seq (.draw f42r10 [(0, 0, false), (0, 0, false), (0, 1, false), (0, 1, false), (0, 0, false), (0, 0, false), (0, 0, false), (0, 0, false), (0, 0, false), (0, 0, false), (0, 0, false), (0, 0, false), (0, 0, false), (0, 0, true), (1, 1, false), (1, 0, true)])
  (.keep [0, 1, 4, 11, 12] (.seq (.ops f42r11)
  (.keep [0, 1, 4, 11, 12] (.ops f42r12))))))))))))

def f42r14 : List AInstr := [
    ⟨(some 89), none, .mov (.tmp 11)⟩,
    ⟨(some 10), none, .mov (.tmp 89)⟩]

def f42b : ACode := (.seq (.ops f42r0)
  (.keep [0, 1, 2, 3, 4] (.seq (.draw f42r1 [(0, 0, false), (0, 0, false), (0, 1, false), (0, 1, false), (0, 0, false), (0, 0, false), (0, 0, false), (0, 0, false), (0, 0, false), (0, 0, false), (0, 0, false), (0, 0, false), (0, 0, false), (0, 0, true), (1, 1, false), (1, 0, true)])
  (.keep [0, 1, 2, 4] (.seq (.ops f42r2)
  (.keep [0, 1, 4, 11, 12] (.seq (.block 0 (.loop f42l2))
  (.keep [11] (.seq (.ops f42r14)
  (.keep [10] .ret))))))))))

def f42 : AFn := ⟨90, [.tmp 10], f42b⟩

theorem f42_ok : compFn Try.prog 42 = some f42.strip := by kernel_rfl

/- function 43: slices.partitionCmpFunc[weirhouse/api.Count]; parameters 5; operations that are not compiled: 0 -/
def f43r0 : List AInstr := [
    ⟨(some 10), none, .mov (.const (.int .i64 0))⟩,
    ⟨(some 11), none, .mov (.const (.bool false))⟩]

def f43r1 : List AInstr := [
    ⟨(some 14), none, .mov (.tmp 0)⟩,
    ⟨(some 15), none, .mov (.tmp 1)⟩,
    ⟨(some 16), none, .mov (.tmp 0)⟩,
    ⟨(some 17), none, .mov (.tmp 3)⟩,
    ⟨(some 18), none, .mov (.tmp 0)⟩,
    ⟨(some 19), none, .mov (.tmp 3)⟩,
    ⟨(some 20), none, .indexAddr 2 (.tmp 18) (.tmp 19)⟩,
    ⟨(some 21), none, .load (some 2) (.tmp 20)⟩,
    ⟨(some 22), none, .mov (.tmp 0)⟩,
    ⟨(some 23), none, .mov (.tmp 1)⟩,
    ⟨(some 24), none, .indexAddr 2 (.tmp 22) (.tmp 23)⟩,
    ⟨(some 25), none, .load (some 2) (.tmp 24)⟩,
    ⟨(some 26), none, .indexAddr 2 (.tmp 14) (.tmp 15)⟩,
    ⟨none, none, .store 2 (.tmp 26) (.tmp 21)⟩,
    ⟨(some 27), none, .indexAddr 2 (.tmp 16) (.tmp 17)⟩,
    ⟨none, none, .store 2 (.tmp 27) (.tmp 25)⟩]

def f43r2 : List AInstr := [
    ⟨(some 28), none, .mov (.tmp 1)⟩,
    ⟨(some 29), none, .ibin .add (.tmp 28) (.const (.int .i64 1))⟩,
    ⟨(some 30), none, .mov (.tmp 2)⟩,
    ⟨(some 31), none, .ibin .sub (.tmp 30) (.const (.int .i64 1))⟩,
    ⟨(some 12), none, .mov (.tmp 29)⟩,
    ⟨(some 13), none, .mov (.tmp 31)⟩]

def f43r3 : List AInstr := [
    ⟨(some 32), none, .mov (.tmp 12)⟩,
    ⟨(some 33), none, .mov (.tmp 13)⟩,
    ⟨(some 34), none, .ibin .leq (.tmp 32) (.tmp 33)⟩,
    ⟨(some 35), none, .mov (.tmp 34)⟩,
    ⟨(some 36), (some (35, true)), .mov (.tmp 4)⟩,
    ⟨(some 37), (some (35, true)), .mov (.tmp 0)⟩,
    ⟨(some 38), (some (35, true)), .mov (.tmp 12)⟩,
    ⟨(some 39), (some (35, true)), .indexAddr 2 (.tmp 37) (.tmp 38)⟩,
    ⟨(some 40), (some (35, true)), .load (some 2) (.tmp 39)⟩,
    ⟨(some 41), (some (35, true)), .mov (.tmp 0)⟩,
    ⟨(some 42), (some (35, true)), .mov (.tmp 1)⟩,
    ⟨(some 43), (some (35, true)), .indexAddr 2 (.tmp 41) (.tmp 42)⟩,
    ⟨(some 44), (some (35, true)), .load (some 2) (.tmp 43)⟩,
    ⟨(some 45), (some (35, true)), .callV (.tmp 36) [.tmp 40, .tmp 44]⟩,
    ⟨(some 46), (some (35, true)), .ibin .lss (.tmp 45) (.const (.int .i64 0))⟩,
    ⟨(some 47), none, .pick (.tmp 35) (.tmp 46) (.const (.bool false))⟩]

def f43r4 : List AInstr := [
    ⟨(some 48), none, .mov (.tmp 12)⟩,
    ⟨(some 49), none, .ibin .add (.tmp 48) (.const (.int .i64 1))⟩,
    ⟨(some 12), none, .mov (.tmp 49)⟩]

/-- live: [0, 1, 4, 12, 13] -/
def f43l0 : ACode := (.seq (.seq (.draw f43r3 [(0, 0, false), (0, 0, false), (0, 0, false), (0, 0, false), (0, 0, false), (0, 0, false), (0, 0, false), (0, 0, false), (0, 0, false), (0, 0, false), (0, 0, false), (0, 0, false), (0, 0, false), (0, 0, true), (1, 1, false), (1, 1, false)])
  (.keep [0, 1, 4, 12, 13, 47] (.cond (.tmp 47) .skip (.exit 0))))
  (.keep [0, 1, 4, 12, 13] (.block 1 (.ops f43r4))))

def f43r6 : List AInstr := [
    ⟨(some 50), none, .mov (.tmp 12)⟩,
    ⟨(some 51), none, .mov (.tmp 13)⟩,
    ⟨(some 52), none, .ibin .leq (.tmp 50) (.tmp 51)⟩,
    ⟨(some 53), none, .mov (.tmp 52)⟩,
    ⟨(some 54), (some (53, true)), .mov (.tmp 4)⟩,
    ⟨(some 55), (some (53, true)), .mov (.tmp 0)⟩,
    ⟨(some 56), (some (53, true)), .mov (.tmp 13)⟩,
    ⟨(some 57), (some (53, true)), .indexAddr 2 (.tmp 55) (.tmp 56)⟩,
    ⟨(some 58), (some (53, true)), .load (some 2) (.tmp 57)⟩,
    ⟨(some 59), (some (53, true)), .mov (.tmp 0)⟩,
    ⟨(some 60), (some (53, true)), .mov (.tmp 1)⟩,
    ⟨(some 61), (some (53, true)), .indexAddr 2 (.tmp 59) (.tmp 60)⟩,
    ⟨(some 62), (some (53, true)), .load (some 2) (.tmp 61)⟩,
    ⟨(some 63), (some (53, true)), .callV (.tmp 54) [.tmp 58, .tmp 62]⟩,
    ⟨(some 64), (some (53, true)), .ibin .lss (.tmp 63) (.const (.int .i64 0))⟩,
    ⟨(some 65), (some (53, true)), .un .not (.tmp 64)⟩,
    ⟨(some 66), none, .pick (.tmp 53) (.tmp 65) (.const (.bool false))⟩]

def f43r7 : List AInstr := [
    ⟨(some 67), none, .mov (.tmp 13)⟩,
    ⟨(some 68), none, .ibin .sub (.tmp 67) (.const (.int .i64 1))⟩,
    ⟨(some 13), none, .mov (.tmp 68)⟩]

/-- live: [0, 1, 4, 12, 13] -/
def f43l1 : ACode := (.seq (.seq (.draw f43r6 [(0, 0, false), (0, 0, false), (0, 0, false), (0, 0, false), (0, 0, false), (0, 0, false), (0, 0, false), (0, 0, false), (0, 0, false), (0, 0, false), (0, 0, false), (0, 0, false), (0, 0, false), (0, 0, true), (1, 1, false), (1, 1, false), (1, 1, false)])
  (.keep [0, 1, 4, 12, 13, 66] (.cond (.tmp 66) .skip (.exit 2))))
  (.keep [0, 1, 4, 12, 13] (.block 3 (.ops f43r7))))

def f43r9 : List AInstr := [
    ⟨(some 69), none, .mov (.tmp 12)⟩,
    ⟨(some 70), none, .mov (.tmp 13)⟩,
    ⟨(some 71), none, .ibin .gtr (.tmp 69) (.tmp 70)⟩]

def f43r10 : List AInstr := [
    ⟨(some 72), none, .mov (.tmp 0)⟩,
    ⟨(some 73), none, .mov (.tmp 13)⟩,
    ⟨(some 74), none, .mov (.tmp 0)⟩,
    ⟨(some 75), none, .mov (.tmp 1)⟩,
    ⟨(some 76), none, .mov (.tmp 0)⟩,
    ⟨(some 77), none, .mov (.tmp 1)⟩,
    ⟨(some 78), none, .indexAddr 2 (.tmp 76) (.tmp 77)⟩,
    ⟨(some 79), none, .load (some 2) (.tmp 78)⟩,
    ⟨(some 80), none, .mov (.tmp 0)⟩,
    ⟨(some 81), none, .mov (.tmp 13)⟩,
    ⟨(some 82), none, .indexAddr 2 (.tmp 80) (.tmp 81)⟩,
    ⟨(some 83), none, .load (some 2) (.tmp 82)⟩,
    ⟨(some 84), none, .indexAddr 2 (.tmp 72) (.tmp 73)⟩,
    ⟨none, none, .store 2 (.tmp 84) (.tmp 79)⟩,
    ⟨(some 85), none, .indexAddr 2 (.tmp 74) (.tmp 75)⟩,
    ⟨none, none, .store 2 (.tmp 85) (.tmp 83)⟩]

def f43r11 : List AInstr := [
    ⟨(some 86), none, .mov (.tmp 13)⟩,
    ⟨(some 10), none, .mov (.tmp 86)⟩,
    ⟨(some 11), none, .mov (.const (.bool true))⟩]

def f43r12 : List AInstr := [
    ⟨(some 87), none, .mov (.tmp 0)⟩,
    ⟨(some 88), none, .mov (.tmp 12)⟩,
    ⟨(some 89), none, .mov (.tmp 0)⟩,
    ⟨(some 90), none, .mov (.tmp 13)⟩,
    ⟨(some 91), none, .mov (.tmp 0)⟩,
    ⟨(some 92), none, .mov (.tmp 13)⟩,
    ⟨(some 93), none, .indexAddr 2 (.tmp 91) (.tmp 92)⟩,
    ⟨(some 94), none, .load (some 2) (.tmp 93)⟩,
    ⟨(some 95), none, .mov (.tmp 0)⟩,
    ⟨(some 96), none, .mov (.tmp 12)⟩,
    ⟨(some 97), none, .indexAddr 2 (.tmp 95) (.tmp 96)⟩,
    ⟨(some 98), none, .load (some 2) (.tmp 97)⟩,
    ⟨(some 99), none, .indexAddr 2 (.tmp 87) (.tmp 88)⟩,
    ⟨none, none, .store 2 (.tmp 99) (.tmp 94)⟩,
    ⟨(some 100), none, .indexAddr 2 (.tmp 89) (.tmp 90)⟩,
    ⟨none, none, .store 2 (.tmp 100) (.tmp 98)⟩]

def f43r13 : List AInstr := [
    ⟨(some 101), none, .mov (.tmp 12)⟩,
    ⟨(some 102), none, .ibin .add (.tmp 101) (.const (.int .i64 1))⟩,
    ⟨(some 12), none, .mov (.tmp 102)⟩]

def f43r14 : List AInstr := [
    ⟨(some 103), none, .mov (.tmp 13)⟩,
    ⟨(some 104), none, .ibin .sub (.tmp 103) (.const (.int .i64 1))⟩,
    ⟨(some 13), none, .mov (.tmp 104)⟩]

def f43r15 : List AInstr := [
    ⟨(some 105), none, .mov (.tmp 12)⟩,
    ⟨(some 106), none, .mov (.tmp 13)⟩,
    ⟨(some 107), none, .ibin .leq (.tmp 105) (.tmp 106)⟩,
    ⟨(some 108), none, .mov (.tmp 107)⟩,
    ⟨(some 109), (some (108, true)), .mov (.tmp 4)⟩,
    ⟨(some 110), (some (108, true)), .mov (.tmp 0)⟩,
    ⟨(some 111), (some (108, true)), .mov (.tmp 12)⟩,
    ⟨(some 112), (some (108, true)), .indexAddr 2 (.tmp 110) (.tmp 111)⟩,
    ⟨(some 113), (some (108, true)), .load (some 2) (.tmp 112)⟩,
    ⟨(some 114), (some (108, true)), .mov (.tmp 0)⟩,
    ⟨(some 115), (some (108, true)), .mov (.tmp 1)⟩,
    ⟨(some 116), (some (108, true)), .indexAddr 2 (.tmp 114) (.tmp 115)⟩,
    ⟨(some 117), (some (108, true)), .load (some 2) (.tmp 116)⟩,
    ⟨(some 118), (some (108, true)), .callV (.tmp 109) [.tmp 113, .tmp 117]⟩,
    ⟨(some 119), (some (108, true)), .ibin .lss (.tmp 118) (.const (.int .i64 0))⟩,
    ⟨(some 120), none, .pick (.tmp 108) (.tmp 119) (.const (.bool false))⟩]

def f43r16 : List AInstr := [
    ⟨(some 121), none, .mov (.tmp 12)⟩,
    ⟨(some 122), none, .ibin .add (.tmp 121) (.const (.int .i64 1))⟩,
    ⟨(some 12), none, .mov (.tmp 122)⟩]

/-- live: [0, 1, 4, 12, 13] -/
def f43l2 : ACode := (.seq (.seq (.draw f43r15 [(0, 0, false), (0, 0, false), (0, 0, false), (0, 0, false), (0, 0, false), (0, 0, false), (0, 0, false), (0, 0, false), (0, 0, false), (0, 0, false), (0, 0, false), (0, 0, false), (0, 0, false), (0, 0, true), (1, 1, false), (1, 1, false)])
  (.keep [0, 1, 4, 12, 13, 120] (.cond (.tmp 120) .skip (.exit 6))))
  (.keep [0, 1, 4, 12, 13] (.block 7 (.ops f43r16))))

def f43r18 : List AInstr := [
    ⟨(some 123), none, .mov (.tmp 12)⟩,
    ⟨(some 124), none, .mov (.tmp 13)⟩,
    ⟨(some 125), none, .ibin .leq (.tmp 123) (.tmp 124)⟩,
    ⟨(some 126), none, .mov (.tmp 125)⟩,
    ⟨(some 127), (some (126, true)), .mov (.tmp 4)⟩,
    ⟨(some 128), (some (126, true)), .mov (.tmp 0)⟩,
    ⟨(some 129), (some (126, true)), .mov (.tmp 13)⟩,
    ⟨(some 130), (some (126, true)), .indexAddr 2 (.tmp 128) (.tmp 129)⟩,
    ⟨(some 131), (some (126, true)), .load (some 2) (.tmp 130)⟩,
    ⟨(some 132), (some (126, true)), .mov (.tmp 0)⟩,
    ⟨(some 133), (some (126, true)), .mov (.tmp 1)⟩,
    ⟨(some 134), (some (126, true)), .indexAddr 2 (.tmp 132) (.tmp 133)⟩,
    ⟨(some 135), (some (126, true)), .load (some 2) (.tmp 134)⟩,
    ⟨(some 136), (some (126, true)), .callV (.tmp 127) [.tmp 131, .tmp 135]⟩,
    ⟨(some 137), (some (126, true)), .ibin .lss (.tmp 136) (.const (.int .i64 0))⟩,
    ⟨(some 138), (some (126, true)), .un .not (.tmp 137)⟩,
    ⟨(some 139), none, .pick (.tmp 126) (.tmp 138) (.const (.bool false))⟩]

def f43r19 : List AInstr := [
    ⟨(some 140), none, .mov (.tmp 13)⟩,
    ⟨(some 141), none, .ibin .sub (.tmp 140) (.const (.int .i64 1))⟩,
    ⟨(some 13), none, .mov (.tmp 141)⟩]

/-- live: [0, 1, 4, 12, 13] -/
def f43l3 : ACode := (.seq (.seq (.draw f43r18 [(0, 0, false), (0, 0, false), (0, 0, false), (0, 0, false), (0, 0, false), (0, 0, false), (0, 0, false), (0, 0, false), (0, 0, false), (0, 0, false), (0, 0, false), (0, 0, false), (0, 0, false), (0, 0, true), (1, 1, false), (1, 1, false), (1, 1, false)])
  (.keep [0, 1, 4, 12, 13, 139] (.cond (.tmp 139) .skip (.exit 8))))
  (.keep [0, 1, 4, 12, 13] (.block 9 (.ops f43r19))))

def f43r21 : List AInstr := [
    ⟨(some 142), none, .mov (.tmp 12)⟩,
    ⟨(some 143), none, .mov (.tmp 13)⟩,
    ⟨(some 144), none, .ibin .gtr (.tmp 142) (.tmp 143)⟩]

def f43r22 : List AInstr := [
    ⟨(some 145), none, .mov (.tmp 0)⟩,
    ⟨(some 146), none, .mov (.tmp 12)⟩,
    ⟨(some 147), none, .mov (.tmp 0)⟩,
    ⟨(some 148), none, .mov (.tmp 13)⟩,
    ⟨(some 149), none, .mov (.tmp 0)⟩,
    ⟨(some 150), none, .mov (.tmp 13)⟩,
    ⟨(some 151), none, .indexAddr 2 (.tmp 149) (.tmp 150)⟩,
    ⟨(some 152), none, .load (some 2) (.tmp 151)⟩,
    ⟨(some 153), none, .mov (.tmp 0)⟩,
    ⟨(some 154), none, .mov (.tmp 12)⟩,
    ⟨(some 155), none, .indexAddr 2 (.tmp 153) (.tmp 154)⟩,
    ⟨(some 156), none, .load (some 2) (.tmp 155)⟩,
    ⟨(some 157), none, .indexAddr 2 (.tmp 145) (.tmp 146)⟩,
    ⟨none, none, .store 2 (.tmp 157) (.tmp 152)⟩,
    ⟨(some 158), none, .indexAddr 2 (.tmp 147) (.tmp 148)⟩,
    ⟨none, none, .store 2 (.tmp 158) (.tmp 156)⟩]

def f43r23 : List AInstr := [
    ⟨(some 159), none, .mov (.tmp 12)⟩,
    ⟨(some 160), none, .ibin .add (.tmp 159) (.const (.int .i64 1))⟩,
    ⟨(some 12), none, .mov (.tmp 160)⟩]

def f43r24 : List AInstr := [
    ⟨(some 161), none, .mov (.tmp 13)⟩,
    ⟨(some 162), none, .ibin .sub (.tmp 161) (.const (.int .i64 1))⟩,
    ⟨(some 13), none, .mov (.tmp 162)⟩]

/-- live: [0, 1, 4, 12, 13] -/
def f43l4 : ACode := (.block 5 (.seq (.block 6 (.loop f43l2))
  (.keep [0, 1, 4, 12, 13] (.seq (.block 8 (.loop f43l3))
  (.keep [0, 1, 4, 12, 13] (.seq (.seq (.ops f43r21)
  (.keep [0, 1, 4, 12, 13, 144] (.cond (.tmp 144) (.exit 4) .skip)))
  (.keep [0, 1, 4, 12, 13] (.seq (.draw f43r22 [(0, 0, false), (0, 0, false), (0, 1, false), (0, 1, false), (0, 0, false), (0, 0, false), (0, 0, false), (0, 0, false), (0, 0, false), (0, 0, false), (0, 0, false), (0, 0, false), (0, 0, false), (0, 0, true), (1, 1, false), (1, 0, true)])
  (.keep [0, 1, 4, 12, 13] (.seq (.ops f43r23)
  (.keep [0, 1, 4, 12, 13] (.ops f43r24))))))))))))

def f43r26 : List AInstr := [
    ⟨(some 163), none, .mov (.tmp 0)⟩,
    ⟨(some 164), none, .mov (.tmp 13)⟩,
    ⟨(some 165), none, .mov (.tmp 0)⟩,
    ⟨(some 166), none, .mov (.tmp 1)⟩,
    ⟨(some 167), none, .mov (.tmp 0)⟩,
    ⟨(some 168), none, .mov (.tmp 1)⟩,
    ⟨(some 169), none, .indexAddr 2 (.tmp 167) (.tmp 168)⟩,
    ⟨(some 170), none, .load (some 2) (.tmp 169)⟩,
    ⟨(some 171), none, .mov (.tmp 0)⟩,
    ⟨(some 172), none, .mov (.tmp 13)⟩,
    ⟨(some 173), none, .indexAddr 2 (.tmp 171) (.tmp 172)⟩,
    ⟨(some 174), none, .load (some 2) (.tmp 173)⟩,
    ⟨(some 175), none, .indexAddr 2 (.tmp 163) (.tmp 164)⟩,
    ⟨none, none, .store 2 (.tmp 175) (.tmp 170)⟩,
    ⟨(some 176), none, .indexAddr 2 (.tmp 165) (.tmp 166)⟩,
    ⟨none, none, .store 2 (.tmp 176) (.tmp 174)⟩]

def f43r27 : List AInstr := [
    ⟨(some 177), none, .mov (.tmp 13)⟩,
    ⟨(some 10), none, .mov (.tmp 177)⟩,
    ⟨(some 11), none, .mov (.const (.bool false))⟩]

def f43b : ACode := (.seq (.ops f43r0)
  (.keep [0, 1, 2, 3, 4] (.seq (.draw f43r1 [(0, 0, false), (0, 0, false), (0, 1, false), (0, 1, false), (0, 0, false), (0, 0, false), (0, 0, false), (0, 0, false), (0, 0, false), (0, 0, false), (0, 0, false), (0, 0, false), (0, 0, false), (0, 0, true), (1, 1, false), (1, 0, true)])
  (.keep [0, 1, 2, 4] (.seq (.ops f43r2)
  (.keep [0, 1, 4, 12, 13] (.seq (.block 0 (.loop f43l0))
  (.keep [0, 1, 4, 12, 13] (.seq (.block 2 (.loop f43l1))
  (.keep [0, 1, 4, 12, 13] (.seq (.seq (.ops f43r9)
  (.keep [0, 1, 4, 12, 13, 71] (.cond (.tmp 71) (.keep [0, 1, 13] (.seq (.draw f43r10 [(0, 0, false), (0, 0, false), (0, 1, false), (0, 1, false), (0, 0, false), (0, 0, false), (0, 0, false), (0, 0, false), (0, 0, false), (0, 0, false), (0, 0, false), (0, 0, false), (0, 0, false), (0, 0, true), (1, 1, false), (1, 0, true)])
  (.keep [13] (.seq (.ops f43r11)
  (.keep [10, 11] .ret))))) .skip)))
  (.keep [0, 1, 4, 12, 13] (.seq (.draw f43r12 [(0, 0, false), (0, 0, false), (0, 1, false), (0, 1, false), (0, 0, false), (0, 0, false), (0, 0, false), (0, 0, false), (0, 0, false), (0, 0, false), (0, 0, false), (0, 0, false), (0, 0, false), (0, 0, true), (1, 1, false), (1, 0, true)])
  (.keep [0, 1, 4, 12, 13] (.seq (.ops f43r13)
  (.keep [0, 1, 4, 12, 13] (.seq (.ops f43r14)
  (.keep [0, 1, 4, 12, 13] (.seq (.block 4 (.loop f43l4))
  (.keep [0, 1, 13] (.seq (.draw f43r26 [(0, 0, false), (0, 0, false), (0, 1, false), (0, 1, false), (0, 0, false), (0, 0, false), (0, 0, false), (0, 0, false), (0, 0, false), (0, 0, false), (0, 0, false), (0, 0, false), (0, 0, false), (0, 0, true), (1, 1, false), (1, 0, true)])
  (.keep [13] (.seq (.ops f43r27)
  (.keep [10, 11] .ret))))))))))))))))))))))))

def f43 : AFn := ⟨178, [.tmp 10, .tmp 11], f43b⟩

theorem f43_ok : compFn Try.prog 43 = some f43.strip := by kernel_rfl

/- function 44: math/bits.Len32; parameters 1; operations that are not compiled: 0 -/
def f44r0 : List AInstr := [
    ⟨(some 2), none, .mov (.const (.int .i64 0))⟩]

def f44r1 : List AInstr := [
    ⟨(some 3), none, .mov (.tmp 0)⟩,
    ⟨(some 4), none, .ibin .geq (.tmp 3) (.const (.int .u32 65536))⟩]

def f44r2 : List AInstr := [
    ⟨(some 5), none, .mov (.tmp 0)⟩,
    ⟨(some 6), none, .ibin .shr (.tmp 5) (.const (.int .u64 16))⟩,
    ⟨(some 0), none, .mov (.tmp 6)⟩]

def f44r3 : List AInstr := [
    ⟨(some 2), none, .mov (.const (.int .i64 16))⟩]

def f44r4 : List AInstr := [
    ⟨(some 7), none, .mov (.tmp 0)⟩,
    ⟨(some 8), none, .ibin .geq (.tmp 7) (.const (.int .u32 256))⟩]

def f44r5 : List AInstr := [
    ⟨(some 9), none, .mov (.tmp 0)⟩,
    ⟨(some 10), none, .ibin .shr (.tmp 9) (.const (.int .u64 8))⟩,
    ⟨(some 0), none, .mov (.tmp 10)⟩]

def f44r6 : List AInstr := [
    ⟨(some 11), none, .mov (.tmp 2)⟩,
    ⟨(some 12), none, .ibin .add (.tmp 11) (.const (.int .i64 8))⟩,
    ⟨(some 2), none, .mov (.tmp 12)⟩]

def f44r7s0 : ByteArray := ⟨#[0, 1, 2, 2, 3, 3, 3, 3, 4, 4, 4, 4, 4, 4, 4, 4, 5, 5, 5, 5, 5, 5, 5, 5, 5, 5, 5, 5, 5, 5, 5, 5, 6, 6, 6, 6, 6, 6, 6, 6, 6, 6, 6, 6, 6, 6, 6, 6, 6, 6, 6, 6, 6, 6, 6, 6, 6, 6, 6, 6, 6, 6, 6, 6, 7, 7, 7, 7, 7, 7, 7, 7, 7, 7, 7, 7, 7, 7, 7, 7, 7, 7, 7, 7, 7, 7, 7, 7, 7, 7, 7, 7, 7, 7, 7, 7, 7, 7, 7, 7, 7, 7, 7, 7, 7, 7, 7, 7, 7, 7, 7, 7, 7, 7, 7, 7, 7, 7, 7, 7, 7, 7, 7, 7, 7, 7, 7, 7, 8, 8, 8, 8, 8, 8, 8, 8, 8, 8, 8, 8, 8, 8, 8, 8, 8, 8, 8, 8, 8, 8, 8, 8, 8, 8, 8, 8, 8, 8, 8, 8, 8, 8, 8, 8, 8, 8, 8, 8, 8, 8, 8, 8, 8, 8, 8, 8, 8, 8, 8, 8, 8, 8, 8, 8, 8, 8, 8, 8, 8, 8, 8, 8, 8, 8, 8, 8, 8, 8, 8, 8, 8, 8, 8, 8, 8, 8, 8, 8, 8, 8, 8, 8, 8, 8, 8, 8, 8, 8, 8, 8, 8, 8, 8, 8, 8, 8, 8, 8, 8, 8, 8, 8, 8, 8, 8, 8, 8, 8, 8, 8, 8, 8, 8, 8, 8, 8, 8, 8, 8, 8, 8, 8, 8, 8, 8, 8]⟩

def f44r7 : List AInstr := [
    ⟨(some 13), none, .mov (.tmp 2)⟩,
    ⟨(some 14), none, .mov (.tmp 0)⟩,
    ⟨(some 15), none, .conv .u8 (.tmp 14)⟩,
    ⟨(some 16), none, .indexStr (.const (.string f44r7s0)) (.tmp 15)⟩,
    ⟨(some 17), none, .conv .i64 (.tmp 16)⟩,
    ⟨(some 18), none, .ibin .add (.tmp 13) (.tmp 17)⟩,
    ⟨(some 2), none, .mov (.tmp 18)⟩]

def f44b : ACode := (.seq (.ops f44r0)
  (.keep [0, 2] (.seq (.seq (.ops f44r1)
  (.keep [0, 2, 4] (.cond (.tmp 4) (.keep [0] (.seq (.ops f44r2)
  (.keep [0] (.ops f44r3)))) .skip)))
  (.keep [0, 2] (.seq (.seq (.ops f44r4)
  (.keep [0, 2, 8] (.cond (.tmp 8) (.keep [0, 2] (.seq (.ops f44r5)
  (.keep [0, 2] (.ops f44r6)))) .skip)))
  (.keep [0, 2] (.seq (.ops f44r7)
  (.keep [2] .ret))))))))

def f44 : AFn := ⟨19, [.tmp 2], f44b⟩

theorem f44_ok : compFn Try.prog 44 = some f44.strip := by kernel_rfl

/- function 45: math/bits.Len64; parameters 1; operations that are not compiled: 0 -/
def f45r0 : List AInstr := [
    ⟨(some 2), none, .mov (.const (.int .i64 0))⟩]

def f45r1 : List AInstr := [
    ⟨(some 3), none, .mov (.tmp 0)⟩,
    ⟨(some 4), none, .ibin .geq (.tmp 3) (.const (.int .u64 4294967296))⟩]

def f45r2 : List AInstr := [
    ⟨(some 5), none, .mov (.tmp 0)⟩,
    ⟨(some 6), none, .ibin .shr (.tmp 5) (.const (.int .u64 32))⟩,
    ⟨(some 0), none, .mov (.tmp 6)⟩]

def f45r3 : List AInstr := [
    ⟨(some 2), none, .mov (.const (.int .i64 32))⟩]

def f45r4 : List AInstr := [
    ⟨(some 7), none, .mov (.tmp 0)⟩,
    ⟨(some 8), none, .ibin .geq (.tmp 7) (.const (.int .u64 65536))⟩]

def f45r5 : List AInstr := [
    ⟨(some 9), none, .mov (.tmp 0)⟩,
    ⟨(some 10), none, .ibin .shr (.tmp 9) (.const (.int .u64 16))⟩,
    ⟨(some 0), none, .mov (.tmp 10)⟩]

def f45r6 : List AInstr := [
    ⟨(some 11), none, .mov (.tmp 2)⟩,
    ⟨(some 12), none, .ibin .add (.tmp 11) (.const (.int .i64 16))⟩,
    ⟨(some 2), none, .mov (.tmp 12)⟩]

def f45r7 : List AInstr := [
    ⟨(some 13), none, .mov (.tmp 0)⟩,
    ⟨(some 14), none, .ibin .geq (.tmp 13) (.const (.int .u64 256))⟩]

def f45r8 : List AInstr := [
    ⟨(some 15), none, .mov (.tmp 0)⟩,
    ⟨(some 16), none, .ibin .shr (.tmp 15) (.const (.int .u64 8))⟩,
    ⟨(some 0), none, .mov (.tmp 16)⟩]

def f45r9 : List AInstr := [
    ⟨(some 17), none, .mov (.tmp 2)⟩,
    ⟨(some 18), none, .ibin .add (.tmp 17) (.const (.int .i64 8))⟩,
    ⟨(some 2), none, .mov (.tmp 18)⟩]

def f45r10s0 : ByteArray := ⟨#[0, 1, 2, 2, 3, 3, 3, 3, 4, 4, 4, 4, 4, 4, 4, 4, 5, 5, 5, 5, 5, 5, 5, 5, 5, 5, 5, 5, 5, 5, 5, 5, 6, 6, 6, 6, 6, 6, 6, 6, 6, 6, 6, 6, 6, 6, 6, 6, 6, 6, 6, 6, 6, 6, 6, 6, 6, 6, 6, 6, 6, 6, 6, 6, 7, 7, 7, 7, 7, 7, 7, 7, 7, 7, 7, 7, 7, 7, 7, 7, 7, 7, 7, 7, 7, 7, 7, 7, 7, 7, 7, 7, 7, 7, 7, 7, 7, 7, 7, 7, 7, 7, 7, 7, 7, 7, 7, 7, 7, 7, 7, 7, 7, 7, 7, 7, 7, 7, 7, 7, 7, 7, 7, 7, 7, 7, 7, 7, 8, 8, 8, 8, 8, 8, 8, 8, 8, 8, 8, 8, 8, 8, 8, 8, 8, 8, 8, 8, 8, 8, 8, 8, 8, 8, 8, 8, 8, 8, 8, 8, 8, 8, 8, 8, 8, 8, 8, 8, 8, 8, 8, 8, 8, 8, 8, 8, 8, 8, 8, 8, 8, 8, 8, 8, 8, 8, 8, 8, 8, 8, 8, 8, 8, 8, 8, 8, 8, 8, 8, 8, 8, 8, 8, 8, 8, 8, 8, 8, 8, 8, 8, 8, 8, 8, 8, 8, 8, 8, 8, 8, 8, 8, 8, 8, 8, 8, 8, 8, 8, 8, 8, 8, 8, 8, 8, 8, 8, 8, 8, 8, 8, 8, 8, 8, 8, 8, 8, 8, 8, 8, 8, 8, 8, 8, 8, 8]⟩

def f45r10 : List AInstr := [
    ⟨(some 19), none, .mov (.tmp 2)⟩,
    ⟨(some 20), none, .mov (.tmp 0)⟩,
    ⟨(some 21), none, .conv .u8 (.tmp 20)⟩,
    ⟨(some 22), none, .indexStr (.const (.string f45r10s0)) (.tmp 21)⟩,
    ⟨(some 23), none, .conv .i64 (.tmp 22)⟩,
    ⟨(some 24), none, .ibin .add (.tmp 19) (.tmp 23)⟩,
    ⟨(some 2), none, .mov (.tmp 24)⟩]

def f45b : ACode := (.seq (.ops f45r0)
  (.keep [0, 2] (.seq (.seq (.ops f45r1)
  (.keep [0, 2, 4] (.cond (.tmp 4) (.keep [0] (.seq (.ops f45r2)
  (.keep [0] (.ops f45r3)))) .skip)))
  (.keep [0, 2] (.seq (.seq (.ops f45r4)
  (.keep [0, 2, 8] (.cond (.tmp 8) (.keep [0, 2] (.seq (.ops f45r5)
  (.keep [0, 2] (.ops f45r6)))) .skip)))
  (.keep [0, 2] (.seq (.seq (.ops f45r7)
  (.keep [0, 2, 14] (.cond (.tmp 14) (.keep [0, 2] (.seq (.ops f45r8)
  (.keep [0, 2] (.ops f45r9)))) .skip)))
  (.keep [0, 2] (.seq (.ops f45r10)
  (.keep [2] .ret))))))))))

def f45 : AFn := ⟨25, [.tmp 2], f45b⟩

theorem f45_ok : compFn Try.prog 45 = some f45.strip := by kernel_rfl

/- function 46: slices.insertionSortOrdered[int]; parameters 3; operations that are not compiled: 0 -/
def f46r0 : List AInstr := [
    ⟨(some 8), none, .mov (.tmp 1)⟩,
    ⟨(some 9), none, .ibin .add (.tmp 8) (.const (.int .i64 1))⟩,
    ⟨(some 6), none, .mov (.tmp 9)⟩]

def f46r1 : List AInstr := [
    ⟨(some 10), none, .mov (.tmp 6)⟩,
    ⟨(some 11), none, .mov (.tmp 2)⟩,
    ⟨(some 12), none, .ibin .lss (.tmp 10) (.tmp 11)⟩]

def f46r2 : List AInstr := [
    ⟨(some 15), none, .mov (.tmp 6)⟩,
    ⟨(some 7), none, .mov (.tmp 15)⟩]

def f46r3 : List AInstr := [
    ⟨(some 16), none, .mov (.tmp 7)⟩,
    ⟨(some 17), none, .mov (.tmp 1)⟩,
    ⟨(some 18), none, .ibin .gtr (.tmp 16) (.tmp 17)⟩,
    ⟨(some 19), none, .mov (.tmp 18)⟩,
    ⟨(some 20), (some (19, true)), .mov (.tmp 0)⟩,
    ⟨(some 21), (some (19, true)), .mov (.tmp 7)⟩,
    ⟨(some 22), (some (19, true)), .indexAddr 1 (.tmp 20) (.tmp 21)⟩,
    ⟨(some 23), (some (19, true)), .load none (.tmp 22)⟩,
    ⟨(some 24), (some (19, true)), .mov (.tmp 0)⟩,
    ⟨(some 25), (some (19, true)), .mov (.tmp 7)⟩,
    ⟨(some 26), (some (19, true)), .ibin .sub (.tmp 25) (.const (.int .i64 1))⟩,
    ⟨(some 27), (some (19, true)), .indexAddr 1 (.tmp 24) (.tmp 26)⟩,
    ⟨(some 28), (some (19, true)), .load none (.tmp 27)⟩,
    ⟨(some 29), (some (19, true)), .callF 52 [.tmp 23, .tmp 28]⟩,
    ⟨(some 30), none, .pick (.tmp 19) (.tmp 29) (.const (.bool false))⟩]

def f46r4 : List AInstr := [
    ⟨(some 33), none, .mov (.tmp 0)⟩,
    ⟨(some 34), none, .mov (.tmp 7)⟩,
    ⟨(some 35), none, .mov (.tmp 0)⟩,
    ⟨(some 36), none, .mov (.tmp 7)⟩,
    ⟨(some 37), none, .ibin .sub (.tmp 36) (.const (.int .i64 1))⟩,
    ⟨(some 38), none, .mov (.tmp 0)⟩,
    ⟨(some 39), none, .mov (.tmp 7)⟩,
    ⟨(some 40), none, .ibin .sub (.tmp 39) (.const (.int .i64 1))⟩,
    ⟨(some 41), none, .indexAddr 1 (.tmp 38) (.tmp 40)⟩,
    ⟨(some 42), none, .load none (.tmp 41)⟩,
    ⟨(some 43), none, .mov (.tmp 0)⟩,
    ⟨(some 44), none, .mov (.tmp 7)⟩,
    ⟨(some 45), none, .indexAddr 1 (.tmp 43) (.tmp 44)⟩,
    ⟨(some 46), none, .load none (.tmp 45)⟩,
    ⟨(some 47), none, .indexAddr 1 (.tmp 33) (.tmp 34)⟩,
    ⟨none, none, .store 1 (.tmp 47) (.tmp 42)⟩,
    ⟨(some 48), none, .indexAddr 1 (.tmp 35) (.tmp 37)⟩,
    ⟨none, none, .store 1 (.tmp 48) (.tmp 46)⟩]

def f46r5 : List AInstr := [
    ⟨(some 31), none, .mov (.tmp 7)⟩,
    ⟨(some 32), none, .ibin .sub (.tmp 31) (.const (.int .i64 1))⟩,
    ⟨(some 7), none, .mov (.tmp 32)⟩]

/-- live: [0, 1, 2, 6, 7] -/
def f46l0 : ACode := (.seq (.seq (.draw f46r3 [(0, 0, false), (0, 0, false), (0, 0, false), (0, 0, false), (0, 0, false), (0, 0, false), (0, 0, false), (0, 0, false), (0, 0, false), (0, 0, false), (0, 0, false), (0, 0, false), (0, 0, false), (0, 0, true), (1, 1, false)])
  (.keep [0, 1, 2, 6, 7, 30] (.cond (.tmp 30) .skip (.exit 2))))
  (.keep [0, 1, 2, 6, 7] (.seq (.block 3 (.draw f46r4 [(0, 0, false), (0, 0, false), (0, 1, false), (0, 1, false), (0, 1, false), (0, 0, false), (0, 0, false), (0, 0, false), (0, 0, false), (0, 0, false), (0, 0, false), (0, 0, false), (0, 0, false), (0, 0, false), (0, 0, false), (0, 0, true), (1, 1, false), (1, 0, true)]))
  (.keep [0, 1, 2, 6, 7] (.ops f46r5)))))

def f46r7 : List AInstr := [
    ⟨(some 13), none, .mov (.tmp 6)⟩,
    ⟨(some 14), none, .ibin .add (.tmp 13) (.const (.int .i64 1))⟩,
    ⟨(some 6), none, .mov (.tmp 14)⟩]

/-- live: [0, 1, 2, 6] -/
def f46l1 : ACode := (.seq (.seq (.ops f46r1)
  (.keep [0, 1, 2, 6, 12] (.cond (.tmp 12) .skip (.exit 0))))
  (.keep [0, 1, 2, 6] (.seq (.block 1 (.seq (.ops f46r2)
  (.keep [0, 1, 2, 6, 7] (.block 2 (.loop f46l0)))))
  (.keep [0, 1, 2, 6] (.ops f46r7)))))

def f46b : ACode := (.seq (.ops f46r0)
  (.keep [0, 1, 2, 6] (.block 0 (.loop f46l1))))

def f46 : AFn := ⟨49, [], f46b⟩

theorem f46_ok : compFn Try.prog 46 = some f46.strip := by kernel_rfl

/- function 47: slices.heapSortOrdered[int]; parameters 3; operations that are not compiled: 0 -/
def f47r0 : List AInstr := [
    ⟨(some 11), none, .mov (.tmp 1)⟩,
    ⟨(some 6), none, .mov (.tmp 11)⟩]

def f47r1 : List AInstr := [
    ⟨(some 7), none, .mov (.const (.int .i64 0))⟩]

def f47r2 : List AInstr := [
    ⟨(some 12), none, .mov (.tmp 2)⟩,
    ⟨(some 13), none, .mov (.tmp 1)⟩,
    ⟨(some 14), none, .ibin .sub (.tmp 12) (.tmp 13)⟩,
    ⟨(some 8), none, .mov (.tmp 14)⟩]

def f47r3 : List AInstr := [
    ⟨(some 15), none, .mov (.tmp 8)⟩,
    ⟨(some 16), none, .ibin .sub (.tmp 15) (.const (.int .i64 1))⟩,
    ⟨(some 17), none, .ibin .quo (.tmp 16) (.const (.int .i64 2))⟩,
    ⟨(some 9), none, .mov (.tmp 17)⟩]

def f47r4 : List AInstr := [
    ⟨(some 18), none, .mov (.tmp 9)⟩,
    ⟨(some 19), none, .ibin .geq (.tmp 18) (.const (.int .i64 0))⟩]

def f47r5 : List AInstr := [
    ⟨(some 22), none, .mov (.tmp 0)⟩,
    ⟨(some 23), none, .mov (.tmp 9)⟩,
    ⟨(some 24), none, .mov (.tmp 8)⟩,
    ⟨(some 25), none, .mov (.tmp 6)⟩,
    ⟨(some 26), none, .callF 61 [.tmp 22, .tmp 23, .tmp 24, .tmp 25]⟩]

def f47r6 : List AInstr := [
    ⟨(some 20), none, .mov (.tmp 9)⟩,
    ⟨(some 21), none, .ibin .sub (.tmp 20) (.const (.int .i64 1))⟩,
    ⟨(some 9), none, .mov (.tmp 21)⟩]

/-- live: [0, 6, 7, 8, 9] -/
def f47l0 : ACode := (.seq (.seq (.ops f47r4)
  (.keep [0, 6, 7, 8, 9, 19] (.cond (.tmp 19) .skip (.exit 0))))
  (.keep [0, 6, 7, 8, 9] (.seq (.block 1 (.ops f47r5))
  (.keep [0, 6, 7, 8, 9] (.ops f47r6)))))

def f47r8 : List AInstr := [
    ⟨(some 27), none, .mov (.tmp 8)⟩,
    ⟨(some 28), none, .ibin .sub (.tmp 27) (.const (.int .i64 1))⟩,
    ⟨(some 10), none, .mov (.tmp 28)⟩]

def f47r9 : List AInstr := [
    ⟨(some 29), none, .mov (.tmp 10)⟩,
    ⟨(some 30), none, .ibin .geq (.tmp 29) (.const (.int .i64 0))⟩]

def f47r10 : List AInstr := [
    ⟨(some 33), none, .mov (.tmp 0)⟩,
    ⟨(some 34), none, .mov (.tmp 6)⟩,
    ⟨(some 35), none, .mov (.tmp 0)⟩,
    ⟨(some 36), none, .mov (.tmp 6)⟩,
    ⟨(some 37), none, .mov (.tmp 10)⟩,
    ⟨(some 38), none, .ibin .add (.tmp 36) (.tmp 37)⟩,
    ⟨(some 39), none, .mov (.tmp 0)⟩,
    ⟨(some 40), none, .mov (.tmp 6)⟩,
    ⟨(some 41), none, .mov (.tmp 10)⟩,
    ⟨(some 42), none, .ibin .add (.tmp 40) (.tmp 41)⟩,
    ⟨(some 43), none, .indexAddr 1 (.tmp 39) (.tmp 42)⟩,
    ⟨(some 44), none, .load none (.tmp 43)⟩,
    ⟨(some 45), none, .mov (.tmp 0)⟩,
    ⟨(some 46), none, .mov (.tmp 6)⟩,
    ⟨(some 47), none, .indexAddr 1 (.tmp 45) (.tmp 46)⟩,
    ⟨(some 48), none, .load none (.tmp 47)⟩,
    ⟨(some 49), none, .indexAddr 1 (.tmp 33) (.tmp 34)⟩,
    ⟨none, none, .store 1 (.tmp 49) (.tmp 44)⟩,
    ⟨(some 50), none, .indexAddr 1 (.tmp 35) (.tmp 38)⟩,
    ⟨none, none, .store 1 (.tmp 50) (.tmp 48)⟩]

def f47r11 : List AInstr := [
    ⟨(some 51), none, .mov (.tmp 0)⟩,
    ⟨(some 52), none, .mov (.tmp 7)⟩,
    ⟨(some 53), none, .mov (.tmp 10)⟩,
    ⟨(some 54), none, .mov (.tmp 6)⟩,
    ⟨(some 55), none, .callF 61 [.tmp 51, .tmp 52, .tmp 53, .tmp 54]⟩]

def f47r12 : List AInstr := [
    ⟨(some 31), none, .mov (.tmp 10)⟩,
    ⟨(some 32), none, .ibin .sub (.tmp 31) (.const (.int .i64 1))⟩,
    ⟨(some 10), none, .mov (.tmp 32)⟩]

/-- live: [0, 6, 7, 10] -/
def f47l1 : ACode := (.seq (.seq (.ops f47r9)
  (.keep [0, 6, 7, 10, 30] (.cond (.tmp 30) .skip (.exit 2))))
  (.keep [0, 6, 7, 10] (.seq (.block 3 (.seq (.draw f47r10 [(0, 0, false), (0, 0, false), (0, 1, false), (0, 1, false), (0, 1, false), (0, 1, false), (0, 0, false), (0, 0, false), (0, 0, false), (0, 0, false), (0, 0, false), (0, 0, false), (0, 0, false), (0, 0, false), (0, 0, false), (0, 0, false), (0, 0, false), (0, 0, true), (1, 1, false), (1, 0, true)])
  (.keep [0, 6, 7, 10] (.ops f47r11))))
  (.keep [0, 6, 7, 10] (.ops f47r12)))))

def f47b : ACode := (.seq (.ops f47r0)
  (.keep [0, 1, 2, 6] (.seq (.ops f47r1)
  (.keep [0, 1, 2, 6, 7] (.seq (.ops f47r2)
  (.keep [0, 6, 7, 8] (.seq (.seq (.ops f47r3)
  (.keep [0, 6, 7, 8, 9] (.block 0 (.loop f47l0))))
  (.keep [0, 6, 7, 8] (.seq (.ops f47r8)
  (.keep [0, 6, 7, 10] (.block 2 (.loop f47l1))))))))))))

def f47 : AFn := ⟨56, [], f47b⟩

theorem f47_ok : compFn Try.prog 47 = some f47.strip := by kernel_rfl

/- function 48: slices.breakPatternsOrdered[int]; parameters 3; operations that are not compiled: 0 -/
def f48r0 : List AInstr := [
    ⟨(some 11), none, .mov (.tmp 2)⟩,
    ⟨(some 12), none, .mov (.tmp 1)⟩,
    ⟨(some 13), none, .ibin .sub (.tmp 11) (.tmp 12)⟩,
    ⟨(some 6), none, .mov (.tmp 13)⟩]

def f48r1 : List AInstr := [
    ⟨(some 14), none, .mov (.tmp 6)⟩,
    ⟨(some 15), none, .ibin .geq (.tmp 14) (.const (.int .i64 8))⟩]

def f48r2 : List AInstr := [
    ⟨(some 16), none, .mov (.tmp 6)⟩,
    ⟨(some 17), none, .conv .u64 (.tmp 16)⟩,
    ⟨(some 7), none, .alloc [.int .u64 0]⟩,
    ⟨none, none, .store 1 (.tmp 7) (.tmp 17)⟩]

def f48r3 : List AInstr := [
    ⟨(some 18), none, .mov (.tmp 6)⟩,
    ⟨(some 19), none, .callF 57 [.tmp 18]⟩,
    ⟨(some 8), none, .mov (.tmp 19)⟩]

def f48r4 : List AInstr := [
    ⟨(some 20), none, .mov (.tmp 1)⟩,
    ⟨(some 21), none, .mov (.tmp 6)⟩,
    ⟨(some 22), none, .ibin .quo (.tmp 21) (.const (.int .i64 4))⟩,
    ⟨(some 23), none, .ibin .mul (.tmp 22) (.const (.int .i64 2))⟩,
    ⟨(some 24), none, .ibin .add (.tmp 20) (.tmp 23)⟩,
    ⟨(some 25), none, .ibin .sub (.tmp 24) (.const (.int .i64 1))⟩,
    ⟨(some 9), none, .mov (.tmp 25)⟩]

def f48r5 : List AInstr := [
    ⟨(some 26), none, .mov (.tmp 9)⟩,
    ⟨(some 27), none, .mov (.tmp 1)⟩,
    ⟨(some 28), none, .mov (.tmp 6)⟩,
    ⟨(some 29), none, .ibin .quo (.tmp 28) (.const (.int .i64 4))⟩,
    ⟨(some 30), none, .ibin .mul (.tmp 29) (.const (.int .i64 2))⟩,
    ⟨(some 31), none, .ibin .add (.tmp 27) (.tmp 30)⟩,
    ⟨(some 32), none, .ibin .add (.tmp 31) (.const (.int .i64 1))⟩,
    ⟨(some 33), none, .ibin .leq (.tmp 26) (.tmp 32)⟩]

def f48r6 : List AInstr := [
    ⟨(some 36), none, .callF 58 [.tmp 7]⟩,
    ⟨(some 37), none, .mov (.tmp 8)⟩,
    ⟨(some 38), none, .ibin .sub (.tmp 37) (.const (.int .u64 1))⟩,
    ⟨(some 39), none, .ibin .and (.tmp 36) (.tmp 38)⟩,
    ⟨(some 40), none, .conv .i64 (.tmp 39)⟩,
    ⟨(some 10), none, .mov (.tmp 40)⟩]

def f48r7 : List AInstr := [
    ⟨(some 41), none, .mov (.tmp 10)⟩,
    ⟨(some 42), none, .mov (.tmp 6)⟩,
    ⟨(some 43), none, .ibin .geq (.tmp 41) (.tmp 42)⟩]

def f48r8 : List AInstr := [
    ⟨(some 44), none, .mov (.tmp 10)⟩,
    ⟨(some 45), none, .mov (.tmp 6)⟩,
    ⟨(some 46), none, .ibin .sub (.tmp 44) (.tmp 45)⟩,
    ⟨(some 10), none, .mov (.tmp 46)⟩]

def f48r9 : List AInstr := [
    ⟨(some 47), none, .mov (.tmp 0)⟩,
    ⟨(some 48), none, .mov (.tmp 9)⟩,
    ⟨(some 49), none, .mov (.tmp 0)⟩,
    ⟨(some 50), none, .mov (.tmp 1)⟩,
    ⟨(some 51), none, .mov (.tmp 10)⟩,
    ⟨(some 52), none, .ibin .add (.tmp 50) (.tmp 51)⟩,
    ⟨(some 53), none, .mov (.tmp 0)⟩,
    ⟨(some 54), none, .mov (.tmp 1)⟩,
    ⟨(some 55), none, .mov (.tmp 10)⟩,
    ⟨(some 56), none, .ibin .add (.tmp 54) (.tmp 55)⟩,
    ⟨(some 57), none, .indexAddr 1 (.tmp 53) (.tmp 56)⟩,
    ⟨(some 58), none, .load none (.tmp 57)⟩,
    ⟨(some 59), none, .mov (.tmp 0)⟩,
    ⟨(some 60), none, .mov (.tmp 9)⟩,
    ⟨(some 61), none, .indexAddr 1 (.tmp 59) (.tmp 60)⟩,
    ⟨(some 62), none, .load none (.tmp 61)⟩,
    ⟨(some 63), none, .indexAddr 1 (.tmp 47) (.tmp 48)⟩,
    ⟨none, none, .store 1 (.tmp 63) (.tmp 58)⟩,
    ⟨(some 64), none, .indexAddr 1 (.tmp 49) (.tmp 52)⟩,
    ⟨none, none, .store 1 (.tmp 64) (.tmp 62)⟩]

def f48r10 : List AInstr := [
    ⟨(some 34), none, .mov (.tmp 9)⟩,
    ⟨(some 35), none, .ibin .add (.tmp 34) (.const (.int .i64 1))⟩,
    ⟨(some 9), none, .mov (.tmp 35)⟩]

/-- live: [0, 1, 6, 7, 8, 9] -/
def f48l0 : ACode := (.seq (.seq (.ops f48r5)
  (.keep [0, 1, 6, 7, 8, 9, 33] (.cond (.tmp 33) .skip (.exit 0))))
  (.keep [0, 1, 6, 7, 8, 9] (.seq (.block 1 (.seq (.ops f48r6)
  (.keep [0, 1, 6, 7, 8, 9, 10] (.seq (.seq (.ops f48r7)
  (.keep [0, 1, 6, 7, 8, 9, 10, 43] (.cond (.tmp 43) (.keep [0, 1, 6, 7, 8, 9, 10] (.ops f48r8)) .skip)))
  (.keep [0, 1, 6, 7, 8, 9, 10] (.draw f48r9 [(0, 0, false), (0, 0, false), (0, 1, false), (0, 1, false), (0, 1, false), (0, 1, false), (0, 0, false), (0, 0, false), (0, 0, false), (0, 0, false), (0, 0, false), (0, 0, false), (0, 0, false), (0, 0, false), (0, 0, false), (0, 0, false), (0, 0, false), (0, 0, true), (1, 1, false), (1, 0, true)]))))))
  (.keep [0, 1, 6, 7, 8, 9] (.ops f48r10)))))

def f48b : ACode := (.seq (.ops f48r0)
  (.keep [0, 1, 6] (.seq (.ops f48r1)
  (.keep [0, 1, 6, 15] (.cond (.tmp 15) (.keep [0, 1, 6] (.seq (.ops f48r2)
  (.keep [0, 1, 6, 7] (.seq (.ops f48r3)
  (.keep [0, 1, 6, 7, 8] (.seq (.ops f48r4)
  (.keep [0, 1, 6, 7, 8, 9] (.block 0 (.loop f48l0))))))))) .skip)))))

def f48 : AFn := ⟨65, [], f48b⟩

theorem f48_ok : compFn Try.prog 48 = some f48.strip := by kernel_rfl

/- function 49: slices.choosePivotOrdered[int]; parameters 3; operations that are not compiled: 0 -/
def f49r0 : List AInstr := [
    ⟨(some 6), none, .mov (.const (.int .i64 0))⟩,
    ⟨(some 7), none, .mov (.const (.int .i64 0))⟩]

def f49r1 : List AInstr := [
    ⟨(some 13), none, .mov (.tmp 2)⟩,
    ⟨(some 14), none, .mov (.tmp 1)⟩,
    ⟨(some 15), none, .ibin .sub (.tmp 13) (.tmp 14)⟩,
    ⟨(some 8), none, .mov (.tmp 15)⟩]

def f49r2 : List AInstr := [
    ⟨(some 9), none, .alloc [.int .i64 0]⟩]

def f49r3 : List AInstr := [
    ⟨(some 16), none, .mov (.tmp 1)⟩,
    ⟨(some 17), none, .mov (.tmp 8)⟩,
    ⟨(some 18), none, .ibin .quo (.tmp 17) (.const (.int .i64 4))⟩,
    ⟨(some 19), none, .ibin .mul (.tmp 18) (.const (.int .i64 1))⟩,
    ⟨(some 20), none, .ibin .add (.tmp 16) (.tmp 19)⟩,
    ⟨(some 10), none, .mov (.tmp 20)⟩]

def f49r4 : List AInstr := [
    ⟨(some 21), none, .mov (.tmp 1)⟩,
    ⟨(some 22), none, .mov (.tmp 8)⟩,
    ⟨(some 23), none, .ibin .quo (.tmp 22) (.const (.int .i64 4))⟩,
    ⟨(some 24), none, .ibin .mul (.tmp 23) (.const (.int .i64 2))⟩,
    ⟨(some 25), none, .ibin .add (.tmp 21) (.tmp 24)⟩,
    ⟨(some 11), none, .mov (.tmp 25)⟩]

def f49r5 : List AInstr := [
    ⟨(some 26), none, .mov (.tmp 1)⟩,
    ⟨(some 27), none, .mov (.tmp 8)⟩,
    ⟨(some 28), none, .ibin .quo (.tmp 27) (.const (.int .i64 4))⟩,
    ⟨(some 29), none, .ibin .mul (.tmp 28) (.const (.int .i64 3))⟩,
    ⟨(some 30), none, .ibin .add (.tmp 26) (.tmp 29)⟩,
    ⟨(some 12), none, .mov (.tmp 30)⟩]

def f49r6 : List AInstr := [
    ⟨(some 31), none, .mov (.tmp 8)⟩,
    ⟨(some 32), none, .ibin .geq (.tmp 31) (.const (.int .i64 8))⟩]

def f49r7 : List AInstr := [
    ⟨(some 33), none, .mov (.tmp 8)⟩,
    ⟨(some 34), none, .ibin .geq (.tmp 33) (.const (.int .i64 50))⟩]

def f49r8 : List AInstr := [
    ⟨(some 35), none, .mov (.tmp 0)⟩,
    ⟨(some 36), none, .mov (.tmp 10)⟩,
    ⟨(some 37), none, .callF 62 [.tmp 35, .tmp 36, .tmp 9]⟩,
    ⟨(some 10), none, .mov (.tmp 37)⟩]

def f49r9 : List AInstr := [
    ⟨(some 38), none, .mov (.tmp 0)⟩,
    ⟨(some 39), none, .mov (.tmp 11)⟩,
    ⟨(some 40), none, .callF 62 [.tmp 38, .tmp 39, .tmp 9]⟩,
    ⟨(some 11), none, .mov (.tmp 40)⟩]

def f49r10 : List AInstr := [
    ⟨(some 41), none, .mov (.tmp 0)⟩,
    ⟨(some 42), none, .mov (.tmp 12)⟩,
    ⟨(some 43), none, .callF 62 [.tmp 41, .tmp 42, .tmp 9]⟩,
    ⟨(some 12), none, .mov (.tmp 43)⟩]

def f49r11 : List AInstr := [
    ⟨(some 44), none, .mov (.tmp 0)⟩,
    ⟨(some 45), none, .mov (.tmp 10)⟩,
    ⟨(some 46), none, .mov (.tmp 11)⟩,
    ⟨(some 47), none, .mov (.tmp 12)⟩,
    ⟨(some 48), none, .callF 63 [.tmp 44, .tmp 45, .tmp 46, .tmp 47, .tmp 9]⟩,
    ⟨(some 11), none, .mov (.tmp 48)⟩]

def f49r12 : List AInstr := [
    ⟨(some 49), none, .load none (.tmp 9)⟩]

def f49r13 : List AInstr := [
    ⟨(some 52), none, .ibin .eql (.tmp 49) (.const (.int .i64 0))⟩,
    ⟨(some 51), none, .mov (.tmp 52)⟩]

def f49r14 : List AInstr := [
    ⟨(some 53), none, .mov (.tmp 11)⟩,
    ⟨(some 6), none, .mov (.tmp 53)⟩,
    ⟨(some 7), none, .mov (.const (.int .i64 1))⟩]

def f49r15 : List AInstr := [
    ⟨(some 55), none, .ibin .eql (.tmp 49) (.const (.int .i64 12))⟩,
    ⟨(some 54), none, .mov (.tmp 55)⟩]

def f49r16 : List AInstr := [
    ⟨(some 56), none, .mov (.tmp 11)⟩,
    ⟨(some 6), none, .mov (.tmp 56)⟩,
    ⟨(some 7), none, .mov (.const (.int .i64 2))⟩]

def f49r17 : List AInstr := [
    ⟨(some 50), none, .mov (.tmp 11)⟩,
    ⟨(some 6), none, .mov (.tmp 50)⟩,
    ⟨(some 7), none, .mov (.const (.int .i64 0))⟩]

def f49b : ACode := (.seq (.ops f49r0)
  (.keep [0, 1, 2] (.seq (.ops f49r1)
  (.keep [0, 1, 8] (.seq (.ops f49r2)
  (.keep [0, 1, 8, 9] (.seq (.ops f49r3)
  (.keep [0, 1, 8, 9, 10] (.seq (.ops f49r4)
  (.keep [0, 1, 8, 9, 10, 11] (.seq (.ops f49r5)
  (.keep [0, 8, 9, 10, 11, 12] (.seq (.seq (.ops f49r6)
  (.keep [0, 8, 9, 10, 11, 12, 32] (.cond (.tmp 32) (.keep [0, 8, 9, 10, 11, 12] (.seq (.seq (.ops f49r7)
  (.keep [0, 9, 10, 11, 12, 34] (.cond (.tmp 34) (.keep [0, 9, 10, 11, 12] (.seq (.ops f49r8)
  (.keep [0, 9, 10, 11, 12] (.seq (.ops f49r9)
  (.keep [0, 9, 10, 11, 12] (.ops f49r10)))))) .skip)))
  (.keep [0, 9, 10, 11, 12] (.ops f49r11)))) .skip)))
  (.keep [9, 11] (.seq (.ops f49r12)
  (.keep [11, 49] (.block 0 (.seq (.ops f49r13)
  (.keep [11, 49, 51] (.cond (.tmp 51) (.keep [11] (.seq (.ops f49r14)
  (.keep [6, 7] .ret))) (.keep [11, 49] (.seq (.ops f49r15)
  (.keep [11, 54] (.cond (.tmp 54) (.keep [11] (.seq (.ops f49r16)
  (.keep [6, 7] .ret))) (.keep [11] (.seq (.ops f49r17)
  (.keep [6, 7] .ret)))))))))))))))))))))))))))

def f49 : AFn := ⟨57, [.tmp 6, .tmp 7], f49b⟩

theorem f49_ok : compFn Try.prog 49 = some f49.strip := by kernel_rfl

/- function 50: slices.reverseRangeOrdered[int]; parameters 3; operations that are not compiled: 0 -/
def f50r0 : List AInstr := [
    ⟨(some 8), none, .mov (.tmp 1)⟩,
    ⟨(some 6), none, .mov (.tmp 8)⟩]

def f50r1 : List AInstr := [
    ⟨(some 9), none, .mov (.tmp 2)⟩,
    ⟨(some 10), none, .ibin .sub (.tmp 9) (.const (.int .i64 1))⟩,
    ⟨(some 7), none, .mov (.tmp 10)⟩]

def f50r2 : List AInstr := [
    ⟨(some 11), none, .mov (.tmp 6)⟩,
    ⟨(some 12), none, .mov (.tmp 7)⟩,
    ⟨(some 13), none, .ibin .lss (.tmp 11) (.tmp 12)⟩]

def f50r3 : List AInstr := [
    ⟨(some 14), none, .mov (.tmp 0)⟩,
    ⟨(some 15), none, .mov (.tmp 6)⟩,
    ⟨(some 16), none, .mov (.tmp 0)⟩,
    ⟨(some 17), none, .mov (.tmp 7)⟩,
    ⟨(some 18), none, .mov (.tmp 0)⟩,
    ⟨(some 19), none, .mov (.tmp 7)⟩,
    ⟨(some 20), none, .indexAddr 1 (.tmp 18) (.tmp 19)⟩,
    ⟨(some 21), none, .load none (.tmp 20)⟩,
    ⟨(some 22), none, .mov (.tmp 0)⟩,
    ⟨(some 23), none, .mov (.tmp 6)⟩,
    ⟨(some 24), none, .indexAddr 1 (.tmp 22) (.tmp 23)⟩,
    ⟨(some 25), none, .load none (.tmp 24)⟩,
    ⟨(some 26), none, .indexAddr 1 (.tmp 14) (.tmp 15)⟩,
    ⟨none, none, .store 1 (.tmp 26) (.tmp 21)⟩,
    ⟨(some 27), none, .indexAddr 1 (.tmp 16) (.tmp 17)⟩,
    ⟨none, none, .store 1 (.tmp 27) (.tmp 25)⟩]

def f50r4 : List AInstr := [
    ⟨(some 28), none, .mov (.tmp 6)⟩,
    ⟨(some 29), none, .ibin .add (.tmp 28) (.const (.int .i64 1))⟩,
    ⟨(some 6), none, .mov (.tmp 29)⟩]

def f50r5 : List AInstr := [
    ⟨(some 30), none, .mov (.tmp 7)⟩,
    ⟨(some 31), none, .ibin .sub (.tmp 30) (.const (.int .i64 1))⟩,
    ⟨(some 7), none, .mov (.tmp 31)⟩]

/-- live: [0, 6, 7] -/
def f50l0 : ACode := (.seq (.seq (.ops f50r2)
  (.keep [0, 6, 7, 13] (.cond (.tmp 13) .skip (.exit 0))))
  (.keep [0, 6, 7] (.block 1 (.seq (.draw f50r3 [(0, 0, false), (0, 0, false), (0, 1, false), (0, 1, false), (0, 0, false), (0, 0, false), (0, 0, false), (0, 0, false), (0, 0, false), (0, 0, false), (0, 0, false), (0, 0, false), (0, 0, false), (0, 0, true), (1, 1, false), (1, 0, true)])
  (.keep [0, 6, 7] (.seq (.ops f50r4)
  (.keep [0, 6, 7] (.ops f50r5))))))))

def f50b : ACode := (.seq (.ops f50r0)
  (.keep [0, 2, 6] (.seq (.ops f50r1)
  (.keep [0, 6, 7] (.block 0 (.loop f50l0))))))

def f50 : AFn := ⟨32, [], f50b⟩

theorem f50_ok : compFn Try.prog 50 = some f50.strip := by kernel_rfl

/- function 51: slices.partialInsertionSortOrdered[int]; parameters 3; operations that are not compiled: 0 -/
def f51r0 : List AInstr := [
    ⟨(some 6), none, .mov (.const (.bool false))⟩]

def f51r1 : List AInstr := [
    ⟨(some 11), none, .mov (.tmp 1)⟩,
    ⟨(some 12), none, .ibin .add (.tmp 11) (.const (.int .i64 1))⟩,
    ⟨(some 7), none, .mov (.tmp 12)⟩]

def f51r2 : List AInstr := [
    ⟨(some 8), none, .mov (.const (.int .i64 0))⟩]

def f51r3 : List AInstr := [
    ⟨(some 13), none, .mov (.tmp 8)⟩,
    ⟨(some 14), none, .ibin .lss (.tmp 13) (.const (.int .i64 5))⟩]

def f51r4 : List AInstr := [
    ⟨(some 17), none, .mov (.tmp 7)⟩,
    ⟨(some 18), none, .mov (.tmp 2)⟩,
    ⟨(some 19), none, .ibin .lss (.tmp 17) (.tmp 18)⟩,
    ⟨(some 20), none, .mov (.tmp 19)⟩,
    ⟨(some 21), (some (20, true)), .mov (.tmp 0)⟩,
    ⟨(some 22), (some (20, true)), .mov (.tmp 7)⟩,
    ⟨(some 23), (some (20, true)), .indexAddr 1 (.tmp 21) (.tmp 22)⟩,
    ⟨(some 24), (some (20, true)), .load none (.tmp 23)⟩,
    ⟨(some 25), (some (20, true)), .mov (.tmp 0)⟩,
    ⟨(some 26), (some (20, true)), .mov (.tmp 7)⟩,
    ⟨(some 27), (some (20, true)), .ibin .sub (.tmp 26) (.const (.int .i64 1))⟩,
    ⟨(some 28), (some (20, true)), .indexAddr 1 (.tmp 25) (.tmp 27)⟩,
    ⟨(some 29), (some (20, true)), .load none (.tmp 28)⟩,
    ⟨(some 30), (some (20, true)), .callF 52 [.tmp 24, .tmp 29]⟩,
    ⟨(some 31), (some (20, true)), .un .not (.tmp 30)⟩,
    ⟨(some 32), none, .pick (.tmp 20) (.tmp 31) (.const (.bool false))⟩]

def f51r5 : List AInstr := [
    ⟨(some 33), none, .mov (.tmp 7)⟩,
    ⟨(some 34), none, .ibin .add (.tmp 33) (.const (.int .i64 1))⟩,
    ⟨(some 7), none, .mov (.tmp 34)⟩]

/-- live: [0, 1, 2, 7, 8] -/
def f51l0 : ACode := (.seq (.seq (.draw f51r4 [(0, 0, false), (0, 0, false), (0, 0, false), (0, 0, false), (0, 0, false), (0, 0, false), (0, 0, false), (0, 0, false), (0, 0, false), (0, 0, false), (0, 0, false), (0, 0, false), (0, 0, false), (0, 0, true), (1, 1, false), (1, 1, false)])
  (.keep [0, 1, 2, 7, 8, 32] (.cond (.tmp 32) .skip (.exit 2))))
  (.keep [0, 1, 2, 7, 8] (.block 3 (.ops f51r5))))

def f51r7 : List AInstr := [
    ⟨(some 35), none, .mov (.tmp 7)⟩,
    ⟨(some 36), none, .mov (.tmp 2)⟩,
    ⟨(some 37), none, .ibin .eql (.tmp 35) (.tmp 36)⟩]

def f51r8 : List AInstr := [
    ⟨(some 6), none, .mov (.const (.bool true))⟩]

def f51r9 : List AInstr := [
    ⟨(some 38), none, .mov (.tmp 2)⟩,
    ⟨(some 39), none, .mov (.tmp 1)⟩,
    ⟨(some 40), none, .ibin .sub (.tmp 38) (.tmp 39)⟩,
    ⟨(some 41), none, .ibin .lss (.tmp 40) (.const (.int .i64 50))⟩]

def f51r10 : List AInstr := [
    ⟨(some 6), none, .mov (.const (.bool false))⟩]

def f51r11 : List AInstr := [
    ⟨(some 42), none, .mov (.tmp 0)⟩,
    ⟨(some 43), none, .mov (.tmp 7)⟩,
    ⟨(some 44), none, .mov (.tmp 0)⟩,
    ⟨(some 45), none, .mov (.tmp 7)⟩,
    ⟨(some 46), none, .ibin .sub (.tmp 45) (.const (.int .i64 1))⟩,
    ⟨(some 47), none, .mov (.tmp 0)⟩,
    ⟨(some 48), none, .mov (.tmp 7)⟩,
    ⟨(some 49), none, .ibin .sub (.tmp 48) (.const (.int .i64 1))⟩,
    ⟨(some 50), none, .indexAddr 1 (.tmp 47) (.tmp 49)⟩,
    ⟨(some 51), none, .load none (.tmp 50)⟩,
    ⟨(some 52), none, .mov (.tmp 0)⟩,
    ⟨(some 53), none, .mov (.tmp 7)⟩,
    ⟨(some 54), none, .indexAddr 1 (.tmp 52) (.tmp 53)⟩,
    ⟨(some 55), none, .load none (.tmp 54)⟩,
    ⟨(some 56), none, .indexAddr 1 (.tmp 42) (.tmp 43)⟩,
    ⟨none, none, .store 1 (.tmp 56) (.tmp 51)⟩,
    ⟨(some 57), none, .indexAddr 1 (.tmp 44) (.tmp 46)⟩,
    ⟨none, none, .store 1 (.tmp 57) (.tmp 55)⟩]

def f51r12 : List AInstr := [
    ⟨(some 58), none, .mov (.tmp 7)⟩,
    ⟨(some 59), none, .mov (.tmp 1)⟩,
    ⟨(some 60), none, .ibin .sub (.tmp 58) (.tmp 59)⟩,
    ⟨(some 61), none, .ibin .geq (.tmp 60) (.const (.int .i64 2))⟩]

def f51r13 : List AInstr := [
    ⟨(some 62), none, .mov (.tmp 7)⟩,
    ⟨(some 63), none, .ibin .sub (.tmp 62) (.const (.int .i64 1))⟩,
    ⟨(some 9), none, .mov (.tmp 63)⟩]

def f51r14 : List AInstr := [
    ⟨(some 64), none, .mov (.tmp 9)⟩,
    ⟨(some 65), none, .ibin .geq (.tmp 64) (.const (.int .i64 1))⟩]

def f51r15 : List AInstr := [
    ⟨(some 68), none, .mov (.tmp 0)⟩,
    ⟨(some 69), none, .mov (.tmp 9)⟩,
    ⟨(some 70), none, .indexAddr 1 (.tmp 68) (.tmp 69)⟩,
    ⟨(some 71), none, .load none (.tmp 70)⟩,
    ⟨(some 72), none, .mov (.tmp 0)⟩,
    ⟨(some 73), none, .mov (.tmp 9)⟩,
    ⟨(some 74), none, .ibin .sub (.tmp 73) (.const (.int .i64 1))⟩,
    ⟨(some 75), none, .indexAddr 1 (.tmp 72) (.tmp 74)⟩,
    ⟨(some 76), none, .load none (.tmp 75)⟩,
    ⟨(some 77), none, .callF 52 [.tmp 71, .tmp 76]⟩,
    ⟨(some 78), none, .un .not (.tmp 77)⟩]

def f51r16 : List AInstr := [
    ⟨(some 79), none, .mov (.tmp 0)⟩,
    ⟨(some 80), none, .mov (.tmp 9)⟩,
    ⟨(some 81), none, .mov (.tmp 0)⟩,
    ⟨(some 82), none, .mov (.tmp 9)⟩,
    ⟨(some 83), none, .ibin .sub (.tmp 82) (.const (.int .i64 1))⟩,
    ⟨(some 84), none, .mov (.tmp 0)⟩,
    ⟨(some 85), none, .mov (.tmp 9)⟩,
    ⟨(some 86), none, .ibin .sub (.tmp 85) (.const (.int .i64 1))⟩,
    ⟨(some 87), none, .indexAddr 1 (.tmp 84) (.tmp 86)⟩,
    ⟨(some 88), none, .load none (.tmp 87)⟩,
    ⟨(some 89), none, .mov (.tmp 0)⟩,
    ⟨(some 90), none, .mov (.tmp 9)⟩,
    ⟨(some 91), none, .indexAddr 1 (.tmp 89) (.tmp 90)⟩,
    ⟨(some 92), none, .load none (.tmp 91)⟩,
    ⟨(some 93), none, .indexAddr 1 (.tmp 79) (.tmp 80)⟩,
    ⟨none, none, .store 1 (.tmp 93) (.tmp 88)⟩,
    ⟨(some 94), none, .indexAddr 1 (.tmp 81) (.tmp 83)⟩,
    ⟨none, none, .store 1 (.tmp 94) (.tmp 92)⟩]

def f51r17 : List AInstr := [
    ⟨(some 66), none, .mov (.tmp 9)⟩,
    ⟨(some 67), none, .ibin .sub (.tmp 66) (.const (.int .i64 1))⟩,
    ⟨(some 9), none, .mov (.tmp 67)⟩]

/-- live: [0, 1, 2, 7, 8, 9] -/
def f51l1 : ACode := (.seq (.seq (.ops f51r14)
  (.keep [0, 1, 2, 7, 8, 9, 65] (.cond (.tmp 65) .skip (.exit 4))))
  (.keep [0, 1, 2, 7, 8, 9] (.seq (.block 5 (.seq (.seq (.draw f51r15 [(0, 0, false), (0, 0, false), (0, 0, false), (0, 0, false), (0, 0, false), (0, 0, false), (0, 0, false), (0, 0, false), (0, 0, false), (0, 0, true), (1, 1, false)])
  (.keep [0, 1, 2, 7, 8, 9, 78] (.cond (.tmp 78) (.exit 4) .skip)))
  (.keep [0, 1, 2, 7, 8, 9] (.draw f51r16 [(0, 0, false), (0, 0, false), (0, 1, false), (0, 1, false), (0, 1, false), (0, 0, false), (0, 0, false), (0, 0, false), (0, 0, false), (0, 0, false), (0, 0, false), (0, 0, false), (0, 0, false), (0, 0, false), (0, 0, false), (0, 0, true), (1, 1, false), (1, 0, true)]))))
  (.keep [0, 1, 2, 7, 8, 9] (.ops f51r17)))))

def f51r19 : List AInstr := [
    ⟨(some 95), none, .mov (.tmp 2)⟩,
    ⟨(some 96), none, .mov (.tmp 7)⟩,
    ⟨(some 97), none, .ibin .sub (.tmp 95) (.tmp 96)⟩,
    ⟨(some 98), none, .ibin .geq (.tmp 97) (.const (.int .i64 2))⟩]

def f51r20 : List AInstr := [
    ⟨(some 99), none, .mov (.tmp 7)⟩,
    ⟨(some 100), none, .ibin .add (.tmp 99) (.const (.int .i64 1))⟩,
    ⟨(some 10), none, .mov (.tmp 100)⟩]

def f51r21 : List AInstr := [
    ⟨(some 101), none, .mov (.tmp 10)⟩,
    ⟨(some 102), none, .mov (.tmp 2)⟩,
    ⟨(some 103), none, .ibin .lss (.tmp 101) (.tmp 102)⟩]

def f51r22 : List AInstr := [
    ⟨(some 106), none, .mov (.tmp 0)⟩,
    ⟨(some 107), none, .mov (.tmp 10)⟩,
    ⟨(some 108), none, .indexAddr 1 (.tmp 106) (.tmp 107)⟩,
    ⟨(some 109), none, .load none (.tmp 108)⟩,
    ⟨(some 110), none, .mov (.tmp 0)⟩,
    ⟨(some 111), none, .mov (.tmp 10)⟩,
    ⟨(some 112), none, .ibin .sub (.tmp 111) (.const (.int .i64 1))⟩,
    ⟨(some 113), none, .indexAddr 1 (.tmp 110) (.tmp 112)⟩,
    ⟨(some 114), none, .load none (.tmp 113)⟩,
    ⟨(some 115), none, .callF 52 [.tmp 109, .tmp 114]⟩,
    ⟨(some 116), none, .un .not (.tmp 115)⟩]

def f51r23 : List AInstr := [
    ⟨(some 117), none, .mov (.tmp 0)⟩,
    ⟨(some 118), none, .mov (.tmp 10)⟩,
    ⟨(some 119), none, .mov (.tmp 0)⟩,
    ⟨(some 120), none, .mov (.tmp 10)⟩,
    ⟨(some 121), none, .ibin .sub (.tmp 120) (.const (.int .i64 1))⟩,
    ⟨(some 122), none, .mov (.tmp 0)⟩,
    ⟨(some 123), none, .mov (.tmp 10)⟩,
    ⟨(some 124), none, .ibin .sub (.tmp 123) (.const (.int .i64 1))⟩,
    ⟨(some 125), none, .indexAddr 1 (.tmp 122) (.tmp 124)⟩,
    ⟨(some 126), none, .load none (.tmp 125)⟩,
    ⟨(some 127), none, .mov (.tmp 0)⟩,
    ⟨(some 128), none, .mov (.tmp 10)⟩,
    ⟨(some 129), none, .indexAddr 1 (.tmp 127) (.tmp 128)⟩,
    ⟨(some 130), none, .load none (.tmp 129)⟩,
    ⟨(some 131), none, .indexAddr 1 (.tmp 117) (.tmp 118)⟩,
    ⟨none, none, .store 1 (.tmp 131) (.tmp 126)⟩,
    ⟨(some 132), none, .indexAddr 1 (.tmp 119) (.tmp 121)⟩,
    ⟨none, none, .store 1 (.tmp 132) (.tmp 130)⟩]

def f51r24 : List AInstr := [
    ⟨(some 104), none, .mov (.tmp 10)⟩,
    ⟨(some 105), none, .ibin .add (.tmp 104) (.const (.int .i64 1))⟩,
    ⟨(some 10), none, .mov (.tmp 105)⟩]

/-- live: [0, 1, 2, 7, 8, 10] -/
def f51l2 : ACode := (.seq (.seq (.ops f51r21)
  (.keep [0, 1, 2, 7, 8, 10, 103] (.cond (.tmp 103) .skip (.exit 6))))
  (.keep [0, 1, 2, 7, 8, 10] (.seq (.block 7 (.seq (.seq (.draw f51r22 [(0, 0, false), (0, 0, false), (0, 0, false), (0, 0, false), (0, 0, false), (0, 0, false), (0, 0, false), (0, 0, false), (0, 0, false), (0, 0, true), (1, 1, false)])
  (.keep [0, 1, 2, 7, 8, 10, 116] (.cond (.tmp 116) (.exit 6) .skip)))
  (.keep [0, 1, 2, 7, 8, 10] (.draw f51r23 [(0, 0, false), (0, 0, false), (0, 1, false), (0, 1, false), (0, 1, false), (0, 0, false), (0, 0, false), (0, 0, false), (0, 0, false), (0, 0, false), (0, 0, false), (0, 0, false), (0, 0, false), (0, 0, false), (0, 0, false), (0, 0, true), (1, 1, false), (1, 0, true)]))))
  (.keep [0, 1, 2, 7, 8, 10] (.ops f51r24)))))

def f51r26 : List AInstr := [
    ⟨(some 15), none, .mov (.tmp 8)⟩,
    ⟨(some 16), none, .ibin .add (.tmp 15) (.const (.int .i64 1))⟩,
    ⟨(some 8), none, .mov (.tmp 16)⟩]

/-- live: [0, 1, 2, 7, 8] -/
def f51l3 : ACode := (.seq (.seq (.ops f51r3)
  (.keep [0, 1, 2, 7, 8, 14] (.cond (.tmp 14) .skip (.exit 0))))
  (.keep [0, 1, 2, 7, 8] (.seq (.block 1 (.seq (.block 2 (.loop f51l0))
  (.keep [0, 1, 2, 7, 8] (.seq (.seq (.ops f51r7)
  (.keep [0, 1, 2, 7, 8, 37] (.cond (.tmp 37) (.keep [] (.seq (.ops f51r8)
  (.keep [6] .ret))) .skip)))
  (.keep [0, 1, 2, 7, 8] (.seq (.seq (.ops f51r9)
  (.keep [0, 1, 2, 7, 8, 41] (.cond (.tmp 41) (.keep [] (.seq (.ops f51r10)
  (.keep [6] .ret))) .skip)))
  (.keep [0, 1, 2, 7, 8] (.seq (.draw f51r11 [(0, 0, false), (0, 0, false), (0, 1, false), (0, 1, false), (0, 1, false), (0, 0, false), (0, 0, false), (0, 0, false), (0, 0, false), (0, 0, false), (0, 0, false), (0, 0, false), (0, 0, false), (0, 0, false), (0, 0, false), (0, 0, true), (1, 1, false), (1, 0, true)])
  (.keep [0, 1, 2, 7, 8] (.seq (.seq (.ops f51r12)
  (.keep [0, 1, 2, 7, 8, 61] (.cond (.tmp 61) (.keep [0, 1, 2, 7, 8] (.seq (.ops f51r13)
  (.keep [0, 1, 2, 7, 8, 9] (.block 4 (.loop f51l1))))) .skip)))
  (.keep [0, 1, 2, 7, 8] (.seq (.ops f51r19)
  (.keep [0, 1, 2, 7, 8, 98] (.cond (.tmp 98) (.keep [0, 1, 2, 7, 8] (.seq (.ops f51r20)
  (.keep [0, 1, 2, 7, 8, 10] (.block 6 (.loop f51l2))))) .skip))))))))))))))
  (.keep [0, 1, 2, 7, 8] (.ops f51r26)))))

def f51r28 : List AInstr := [
    ⟨(some 6), none, .mov (.const (.bool false))⟩]

def f51b : ACode := (.seq (.ops f51r0)
  (.keep [0, 1, 2] (.seq (.ops f51r1)
  (.keep [0, 1, 2, 7] (.seq (.seq (.ops f51r2)
  (.keep [0, 1, 2, 7, 8] (.block 0 (.loop f51l3))))
  (.keep [] (.seq (.ops f51r28)
  (.keep [6] .ret))))))))

def f51 : AFn := ⟨133, [.tmp 6], f51b⟩

theorem f51_ok : compFn Try.prog 51 = some f51.strip := by kernel_rfl

/- function 52: cmp.Less[int]; parameters 2; operations that are not compiled: 0 -/
def f52r0 : List AInstr := [
    ⟨(some 4), none, .mov (.const (.bool false))⟩]

def f52r1 : List AInstr := [
    ⟨(some 5), none, .mov (.tmp 0)⟩,
    ⟨(some 6), none, .callF 64 [.tmp 5]⟩,
    ⟨(some 7), none, .mov (.tmp 6)⟩,
    ⟨(some 8), (some (7, true)), .mov (.tmp 1)⟩,
    ⟨(some 9), (some (7, true)), .callF 64 [.tmp 8]⟩,
    ⟨(some 10), (some (7, true)), .un .not (.tmp 9)⟩,
    ⟨(some 11), none, .pick (.tmp 7) (.tmp 10) (.const (.bool false))⟩,
    ⟨(some 12), none, .mov (.tmp 11)⟩,
    ⟨(some 13), (some (12, false)), .mov (.tmp 0)⟩,
    ⟨(some 14), (some (12, false)), .mov (.tmp 1)⟩,
    ⟨(some 15), (some (12, false)), .ibin .lss (.tmp 13) (.tmp 14)⟩,
    ⟨(some 16), none, .pick (.tmp 12) (.const (.bool true)) (.tmp 15)⟩,
    ⟨(some 4), none, .mov (.tmp 16)⟩]

def f52b : ACode := (.seq (.ops f52r0)
  (.keep [0, 1] (.seq (.ops f52r1)
  (.keep [4] .ret))))

def f52 : AFn := ⟨17, [.tmp 4], f52b⟩

theorem f52_ok : compFn Try.prog 52 = some f52.strip := by kernel_rfl

/- function 53: slices.partitionEqualOrdered[int]; parameters 4; operations that are not compiled: 0 -/
def f53r0 : List AInstr := [
    ⟨(some 8), none, .mov (.const (.int .i64 0))⟩]

def f53r1 : List AInstr := [
    ⟨(some 11), none, .mov (.tmp 0)⟩,
    ⟨(some 12), none, .mov (.tmp 1)⟩,
    ⟨(some 13), none, .mov (.tmp 0)⟩,
    ⟨(some 14), none, .mov (.tmp 3)⟩,
    ⟨(some 15), none, .mov (.tmp 0)⟩,
    ⟨(some 16), none, .mov (.tmp 3)⟩,
    ⟨(some 17), none, .indexAddr 1 (.tmp 15) (.tmp 16)⟩,
    ⟨(some 18), none, .load none (.tmp 17)⟩,
    ⟨(some 19), none, .mov (.tmp 0)⟩,
    ⟨(some 20), none, .mov (.tmp 1)⟩,
    ⟨(some 21), none, .indexAddr 1 (.tmp 19) (.tmp 20)⟩,
    ⟨(some 22), none, .load none (.tmp 21)⟩,
    ⟨(some 23), none, .indexAddr 1 (.tmp 11) (.tmp 12)⟩,
    ⟨none, none, .store 1 (.tmp 23) (.tmp 18)⟩,
    ⟨(some 24), none, .indexAddr 1 (.tmp 13) (.tmp 14)⟩,
    ⟨none, none, .store 1 (.tmp 24) (.tmp 22)⟩]

def f53r2 : List AInstr := [
    ⟨(some 25), none, .mov (.tmp 1)⟩,
    ⟨(some 26), none, .ibin .add (.tmp 25) (.const (.int .i64 1))⟩,
    ⟨(some 27), none, .mov (.tmp 2)⟩,
    ⟨(some 28), none, .ibin .sub (.tmp 27) (.const (.int .i64 1))⟩,
    ⟨(some 9), none, .mov (.tmp 26)⟩,
    ⟨(some 10), none, .mov (.tmp 28)⟩]

def f53r3 : List AInstr := [
    ⟨(some 29), none, .mov (.tmp 9)⟩,
    ⟨(some 30), none, .mov (.tmp 10)⟩,
    ⟨(some 31), none, .ibin .leq (.tmp 29) (.tmp 30)⟩,
    ⟨(some 32), none, .mov (.tmp 31)⟩,
    ⟨(some 33), (some (32, true)), .mov (.tmp 0)⟩,
    ⟨(some 34), (some (32, true)), .mov (.tmp 1)⟩,
    ⟨(some 35), (some (32, true)), .indexAddr 1 (.tmp 33) (.tmp 34)⟩,
    ⟨(some 36), (some (32, true)), .load none (.tmp 35)⟩,
    ⟨(some 37), (some (32, true)), .mov (.tmp 0)⟩,
    ⟨(some 38), (some (32, true)), .mov (.tmp 9)⟩,
    ⟨(some 39), (some (32, true)), .indexAddr 1 (.tmp 37) (.tmp 38)⟩,
    ⟨(some 40), (some (32, true)), .load none (.tmp 39)⟩,
    ⟨(some 41), (some (32, true)), .callF 52 [.tmp 36, .tmp 40]⟩,
    ⟨(some 42), (some (32, true)), .un .not (.tmp 41)⟩,
    ⟨(some 43), none, .pick (.tmp 32) (.tmp 42) (.const (.bool false))⟩]

def f53r4 : List AInstr := [
    ⟨(some 44), none, .mov (.tmp 9)⟩,
    ⟨(some 45), none, .ibin .add (.tmp 44) (.const (.int .i64 1))⟩,
    ⟨(some 9), none, .mov (.tmp 45)⟩]

/-- live: [0, 1, 9, 10] -/
def f53l0 : ACode := (.seq (.seq (.draw f53r3 [(0, 0, false), (0, 0, false), (0, 0, false), (0, 0, false), (0, 0, false), (0, 0, false), (0, 0, false), (0, 0, false), (0, 0, false), (0, 0, false), (0, 0, false), (0, 0, false), (0, 0, true), (1, 1, false), (1, 1, false)])
  (.keep [0, 1, 9, 10, 43] (.cond (.tmp 43) .skip (.exit 2))))
  (.keep [0, 1, 9, 10] (.block 3 (.ops f53r4))))

def f53r6 : List AInstr := [
    ⟨(some 46), none, .mov (.tmp 9)⟩,
    ⟨(some 47), none, .mov (.tmp 10)⟩,
    ⟨(some 48), none, .ibin .leq (.tmp 46) (.tmp 47)⟩,
    ⟨(some 49), none, .mov (.tmp 48)⟩,
    ⟨(some 50), (some (49, true)), .mov (.tmp 0)⟩,
    ⟨(some 51), (some (49, true)), .mov (.tmp 1)⟩,
    ⟨(some 52), (some (49, true)), .indexAddr 1 (.tmp 50) (.tmp 51)⟩,
    ⟨(some 53), (some (49, true)), .load none (.tmp 52)⟩,
    ⟨(some 54), (some (49, true)), .mov (.tmp 0)⟩,
    ⟨(some 55), (some (49, true)), .mov (.tmp 10)⟩,
    ⟨(some 56), (some (49, true)), .indexAddr 1 (.tmp 54) (.tmp 55)⟩,
    ⟨(some 57), (some (49, true)), .load none (.tmp 56)⟩,
    ⟨(some 58), (some (49, true)), .callF 52 [.tmp 53, .tmp 57]⟩,
    ⟨(some 59), none, .pick (.tmp 49) (.tmp 58) (.const (.bool false))⟩]

def f53r7 : List AInstr := [
    ⟨(some 60), none, .mov (.tmp 10)⟩,
    ⟨(some 61), none, .ibin .sub (.tmp 60) (.const (.int .i64 1))⟩,
    ⟨(some 10), none, .mov (.tmp 61)⟩]

/-- live: [0, 1, 9, 10] -/
def f53l1 : ACode := (.seq (.seq (.draw f53r6 [(0, 0, false), (0, 0, false), (0, 0, false), (0, 0, false), (0, 0, false), (0, 0, false), (0, 0, false), (0, 0, false), (0, 0, false), (0, 0, false), (0, 0, false), (0, 0, false), (0, 0, true), (1, 1, false)])
  (.keep [0, 1, 9, 10, 59] (.cond (.tmp 59) .skip (.exit 4))))
  (.keep [0, 1, 9, 10] (.block 5 (.ops f53r7))))

def f53r9 : List AInstr := [
    ⟨(some 62), none, .mov (.tmp 9)⟩,
    ⟨(some 63), none, .mov (.tmp 10)⟩,
    ⟨(some 64), none, .ibin .gtr (.tmp 62) (.tmp 63)⟩]

def f53r10 : List AInstr := [
    ⟨(some 65), none, .mov (.tmp 0)⟩,
    ⟨(some 66), none, .mov (.tmp 9)⟩,
    ⟨(some 67), none, .mov (.tmp 0)⟩,
    ⟨(some 68), none, .mov (.tmp 10)⟩,
    ⟨(some 69), none, .mov (.tmp 0)⟩,
    ⟨(some 70), none, .mov (.tmp 10)⟩,
    ⟨(some 71), none, .indexAddr 1 (.tmp 69) (.tmp 70)⟩,
    ⟨(some 72), none, .load none (.tmp 71)⟩,
    ⟨(some 73), none, .mov (.tmp 0)⟩,
    ⟨(some 74), none, .mov (.tmp 9)⟩,
    ⟨(some 75), none, .indexAddr 1 (.tmp 73) (.tmp 74)⟩,
    ⟨(some 76), none, .load none (.tmp 75)⟩,
    ⟨(some 77), none, .indexAddr 1 (.tmp 65) (.tmp 66)⟩,
    ⟨none, none, .store 1 (.tmp 77) (.tmp 72)⟩,
    ⟨(some 78), none, .indexAddr 1 (.tmp 67) (.tmp 68)⟩,
    ⟨none, none, .store 1 (.tmp 78) (.tmp 76)⟩]

def f53r11 : List AInstr := [
    ⟨(some 79), none, .mov (.tmp 9)⟩,
    ⟨(some 80), none, .ibin .add (.tmp 79) (.const (.int .i64 1))⟩,
    ⟨(some 9), none, .mov (.tmp 80)⟩]

def f53r12 : List AInstr := [
    ⟨(some 81), none, .mov (.tmp 10)⟩,
    ⟨(some 82), none, .ibin .sub (.tmp 81) (.const (.int .i64 1))⟩,
    ⟨(some 10), none, .mov (.tmp 82)⟩]

/-- live: [0, 1, 9, 10] -/
def f53l2 : ACode := (.block 1 (.seq (.block 2 (.loop f53l0))
  (.keep [0, 1, 9, 10] (.seq (.block 4 (.loop f53l1))
  (.keep [0, 1, 9, 10] (.seq (.seq (.ops f53r9)
  (.keep [0, 1, 9, 10, 64] (.cond (.tmp 64) (.exit 0) .skip)))
  (.keep [0, 1, 9, 10] (.seq (.draw f53r10 [(0, 0, false), (0, 0, false), (0, 1, false), (0, 1, false), (0, 0, false), (0, 0, false), (0, 0, false), (0, 0, false), (0, 0, false), (0, 0, false), (0, 0, false), (0, 0, false), (0, 0, false), (0, 0, true), (1, 1, false), (1, 0, true)])
  (.keep [0, 1, 9, 10] (.seq (.ops f53r11)
  (.keep [0, 1, 9, 10] (.ops f53r12))))))))))))

def f53r14 : List AInstr := [
    ⟨(some 83), none, .mov (.tmp 9)⟩,
    ⟨(some 8), none, .mov (.tmp 83)⟩]

def f53b : ACode := (.seq (.ops f53r0)
  (.keep [0, 1, 2, 3] (.seq (.draw f53r1 [(0, 0, false), (0, 0, false), (0, 1, false), (0, 1, false), (0, 0, false), (0, 0, false), (0, 0, false), (0, 0, false), (0, 0, false), (0, 0, false), (0, 0, false), (0, 0, false), (0, 0, false), (0, 0, true), (1, 1, false), (1, 0, true)])
  (.keep [0, 1, 2] (.seq (.ops f53r2)
  (.keep [0, 1, 9, 10] (.seq (.block 0 (.loop f53l2))
  (.keep [9] (.seq (.ops f53r14)
  (.keep [8] .ret))))))))))

def f53 : AFn := ⟨84, [.tmp 8], f53b⟩

theorem f53_ok : compFn Try.prog 53 = some f53.strip := by kernel_rfl

/- function 54: slices.partitionOrdered[int]; parameters 4; operations that are not compiled: 0 -/
def f54r0 : List AInstr := [
    ⟨(some 8), none, .mov (.const (.int .i64 0))⟩,
    ⟨(some 9), none, .mov (.const (.bool false))⟩]

def f54r1 : List AInstr := [
    ⟨(some 12), none, .mov (.tmp 0)⟩,
    ⟨(some 13), none, .mov (.tmp 1)⟩,
    ⟨(some 14), none, .mov (.tmp 0)⟩,
    ⟨(some 15), none, .mov (.tmp 3)⟩,
    ⟨(some 16), none, .mov (.tmp 0)⟩,
    ⟨(some 17), none, .mov (.tmp 3)⟩,
    ⟨(some 18), none, .indexAddr 1 (.tmp 16) (.tmp 17)⟩,
    ⟨(some 19), none, .load none (.tmp 18)⟩,
    ⟨(some 20), none, .mov (.tmp 0)⟩,
    ⟨(some 21), none, .mov (.tmp 1)⟩,
    ⟨(some 22), none, .indexAddr 1 (.tmp 20) (.tmp 21)⟩,
    ⟨(some 23), none, .load none (.tmp 22)⟩,
    ⟨(some 24), none, .indexAddr 1 (.tmp 12) (.tmp 13)⟩,
    ⟨none, none, .store 1 (.tmp 24) (.tmp 19)⟩,
    ⟨(some 25), none, .indexAddr 1 (.tmp 14) (.tmp 15)⟩,
    ⟨none, none, .store 1 (.tmp 25) (.tmp 23)⟩]

def f54r2 : List AInstr := [
    ⟨(some 26), none, .mov (.tmp 1)⟩,
    ⟨(some 27), none, .ibin .add (.tmp 26) (.const (.int .i64 1))⟩,
    ⟨(some 28), none, .mov (.tmp 2)⟩,
    ⟨(some 29), none, .ibin .sub (.tmp 28) (.const (.int .i64 1))⟩,
    ⟨(some 10), none, .mov (.tmp 27)⟩,
    ⟨(some 11), none, .mov (.tmp 29)⟩]

def f54r3 : List AInstr := [
    ⟨(some 30), none, .mov (.tmp 10)⟩,
    ⟨(some 31), none, .mov (.tmp 11)⟩,
    ⟨(some 32), none, .ibin .leq (.tmp 30) (.tmp 31)⟩,
    ⟨(some 33), none, .mov (.tmp 32)⟩,
    ⟨(some 34), (some (33, true)), .mov (.tmp 0)⟩,
    ⟨(some 35), (some (33, true)), .mov (.tmp 10)⟩,
    ⟨(some 36), (some (33, true)), .indexAddr 1 (.tmp 34) (.tmp 35)⟩,
    ⟨(some 37), (some (33, true)), .load none (.tmp 36)⟩,
    ⟨(some 38), (some (33, true)), .mov (.tmp 0)⟩,
    ⟨(some 39), (some (33, true)), .mov (.tmp 1)⟩,
    ⟨(some 40), (some (33, true)), .indexAddr 1 (.tmp 38) (.tmp 39)⟩,
    ⟨(some 41), (some (33, true)), .load none (.tmp 40)⟩,
    ⟨(some 42), (some (33, true)), .callF 52 [.tmp 37, .tmp 41]⟩,
    ⟨(some 43), none, .pick (.tmp 33) (.tmp 42) (.const (.bool false))⟩]

def f54r4 : List AInstr := [
    ⟨(some 44), none, .mov (.tmp 10)⟩,
    ⟨(some 45), none, .ibin .add (.tmp 44) (.const (.int .i64 1))⟩,
    ⟨(some 10), none, .mov (.tmp 45)⟩]

/-- live: [0, 1, 10, 11] -/
def f54l0 : ACode := (.seq (.seq (.draw f54r3 [(0, 0, false), (0, 0, false), (0, 0, false), (0, 0, false), (0, 0, false), (0, 0, false), (0, 0, false), (0, 0, false), (0, 0, false), (0, 0, false), (0, 0, false), (0, 0, false), (0, 0, true), (1, 1, false)])
  (.keep [0, 1, 10, 11, 43] (.cond (.tmp 43) .skip (.exit 0))))
  (.keep [0, 1, 10, 11] (.block 1 (.ops f54r4))))

def f54r6 : List AInstr := [
    ⟨(some 46), none, .mov (.tmp 10)⟩,
    ⟨(some 47), none, .mov (.tmp 11)⟩,
    ⟨(some 48), none, .ibin .leq (.tmp 46) (.tmp 47)⟩,
    ⟨(some 49), none, .mov (.tmp 48)⟩,
    ⟨(some 50), (some (49, true)), .mov (.tmp 0)⟩,
    ⟨(some 51), (some (49, true)), .mov (.tmp 11)⟩,
    ⟨(some 52), (some (49, true)), .indexAddr 1 (.tmp 50) (.tmp 51)⟩,
    ⟨(some 53), (some (49, true)), .load none (.tmp 52)⟩,
    ⟨(some 54), (some (49, true)), .mov (.tmp 0)⟩,
    ⟨(some 55), (some (49, true)), .mov (.tmp 1)⟩,
    ⟨(some 56), (some (49, true)), .indexAddr 1 (.tmp 54) (.tmp 55)⟩,
    ⟨(some 57), (some (49, true)), .load none (.tmp 56)⟩,
    ⟨(some 58), (some (49, true)), .callF 52 [.tmp 53, .tmp 57]⟩,
    ⟨(some 59), (some (49, true)), .un .not (.tmp 58)⟩,
    ⟨(some 60), none, .pick (.tmp 49) (.tmp 59) (.const (.bool false))⟩]

def f54r7 : List AInstr := [
    ⟨(some 61), none, .mov (.tmp 11)⟩,
    ⟨(some 62), none, .ibin .sub (.tmp 61) (.const (.int .i64 1))⟩,
    ⟨(some 11), none, .mov (.tmp 62)⟩]

/-- live: [0, 1, 10, 11] -/
def f54l1 : ACode := (.seq (.seq (.draw f54r6 [(0, 0, false), (0, 0, false), (0, 0, false), (0, 0, false), (0, 0, false), (0, 0, false), (0, 0, false), (0, 0, false), (0, 0, false), (0, 0, false), (0, 0, false), (0, 0, false), (0, 0, true), (1, 1, false), (1, 1, false)])
  (.keep [0, 1, 10, 11, 60] (.cond (.tmp 60) .skip (.exit 2))))
  (.keep [0, 1, 10, 11] (.block 3 (.ops f54r7))))

def f54r9 : List AInstr := [
    ⟨(some 63), none, .mov (.tmp 10)⟩,
    ⟨(some 64), none, .mov (.tmp 11)⟩,
    ⟨(some 65), none, .ibin .gtr (.tmp 63) (.tmp 64)⟩]

def f54r10 : List AInstr := [
    ⟨(some 66), none, .mov (.tmp 0)⟩,
    ⟨(some 67), none, .mov (.tmp 11)⟩,
    ⟨(some 68), none, .mov (.tmp 0)⟩,
    ⟨(some 69), none, .mov (.tmp 1)⟩,
    ⟨(some 70), none, .mov (.tmp 0)⟩,
    ⟨(some 71), none, .mov (.tmp 1)⟩,
    ⟨(some 72), none, .indexAddr 1 (.tmp 70) (.tmp 71)⟩,
    ⟨(some 73), none, .load none (.tmp 72)⟩,
    ⟨(some 74), none, .mov (.tmp 0)⟩,
    ⟨(some 75), none, .mov (.tmp 11)⟩,
    ⟨(some 76), none, .indexAddr 1 (.tmp 74) (.tmp 75)⟩,
    ⟨(some 77), none, .load none (.tmp 76)⟩,
    ⟨(some 78), none, .indexAddr 1 (.tmp 66) (.tmp 67)⟩,
    ⟨none, none, .store 1 (.tmp 78) (.tmp 73)⟩,
    ⟨(some 79), none, .indexAddr 1 (.tmp 68) (.tmp 69)⟩,
    ⟨none, none, .store 1 (.tmp 79) (.tmp 77)⟩]

def f54r11 : List AInstr := [
    ⟨(some 80), none, .mov (.tmp 11)⟩,
    ⟨(some 8), none, .mov (.tmp 80)⟩,
    ⟨(some 9), none, .mov (.const (.bool true))⟩]

def f54r12 : List AInstr := [
    ⟨(some 81), none, .mov (.tmp 0)⟩,
    ⟨(some 82), none, .mov (.tmp 10)⟩,
    ⟨(some 83), none, .mov (.tmp 0)⟩,
    ⟨(some 84), none, .mov (.tmp 11)⟩,
    ⟨(some 85), none, .mov (.tmp 0)⟩,
    ⟨(some 86), none, .mov (.tmp 11)⟩,
    ⟨(some 87), none, .indexAddr 1 (.tmp 85) (.tmp 86)⟩,
    ⟨(some 88), none, .load none (.tmp 87)⟩,
    ⟨(some 89), none, .mov (.tmp 0)⟩,
    ⟨(some 90), none, .mov (.tmp 10)⟩,
    ⟨(some 91), none, .indexAddr 1 (.tmp 89) (.tmp 90)⟩,
    ⟨(some 92), none, .load none (.tmp 91)⟩,
    ⟨(some 93), none, .indexAddr 1 (.tmp 81) (.tmp 82)⟩,
    ⟨none, none, .store 1 (.tmp 93) (.tmp 88)⟩,
    ⟨(some 94), none, .indexAddr 1 (.tmp 83) (.tmp 84)⟩,
    ⟨none, none, .store 1 (.tmp 94) (.tmp 92)⟩]

def f54r13 : List AInstr := [
    ⟨(some 95), none, .mov (.tmp 10)⟩,
    ⟨(some 96), none, .ibin .add (.tmp 95) (.const (.int .i64 1))⟩,
    ⟨(some 10), none, .mov (.tmp 96)⟩]

def f54r14 : List AInstr := [
    ⟨(some 97), none, .mov (.tmp 11)⟩,
    ⟨(some 98), none, .ibin .sub (.tmp 97) (.const (.int .i64 1))⟩,
    ⟨(some 11), none, .mov (.tmp 98)⟩]

def f54r15 : List AInstr := [
    ⟨(some 99), none, .mov (.tmp 10)⟩,
    ⟨(some 100), none, .mov (.tmp 11)⟩,
    ⟨(some 101), none, .ibin .leq (.tmp 99) (.tmp 100)⟩,
    ⟨(some 102), none, .mov (.tmp 101)⟩,
    ⟨(some 103), (some (102, true)), .mov (.tmp 0)⟩,
    ⟨(some 104), (some (102, true)), .mov (.tmp 10)⟩,
    ⟨(some 105), (some (102, true)), .indexAddr 1 (.tmp 103) (.tmp 104)⟩,
    ⟨(some 106), (some (102, true)), .load none (.tmp 105)⟩,
    ⟨(some 107), (some (102, true)), .mov (.tmp 0)⟩,
    ⟨(some 108), (some (102, true)), .mov (.tmp 1)⟩,
    ⟨(some 109), (some (102, true)), .indexAddr 1 (.tmp 107) (.tmp 108)⟩,
    ⟨(some 110), (some (102, true)), .load none (.tmp 109)⟩,
    ⟨(some 111), (some (102, true)), .callF 52 [.tmp 106, .tmp 110]⟩,
    ⟨(some 112), none, .pick (.tmp 102) (.tmp 111) (.const (.bool false))⟩]

def f54r16 : List AInstr := [
    ⟨(some 113), none, .mov (.tmp 10)⟩,
    ⟨(some 114), none, .ibin .add (.tmp 113) (.const (.int .i64 1))⟩,
    ⟨(some 10), none, .mov (.tmp 114)⟩]

/-- live: [0, 1, 10, 11] -/
def f54l2 : ACode := (.seq (.seq (.draw f54r15 [(0, 0, false), (0, 0, false), (0, 0, false), (0, 0, false), (0, 0, false), (0, 0, false), (0, 0, false), (0, 0, false), (0, 0, false), (0, 0, false), (0, 0, false), (0, 0, false), (0, 0, true), (1, 1, false)])
  (.keep [0, 1, 10, 11, 112] (.cond (.tmp 112) .skip (.exit 6))))
  (.keep [0, 1, 10, 11] (.block 7 (.ops f54r16))))

def f54r18 : List AInstr := [
    ⟨(some 115), none, .mov (.tmp 10)⟩,
    ⟨(some 116), none, .mov (.tmp 11)⟩,
    ⟨(some 117), none, .ibin .leq (.tmp 115) (.tmp 116)⟩,
    ⟨(some 118), none, .mov (.tmp 117)⟩,
    ⟨(some 119), (some (118, true)), .mov (.tmp 0)⟩,
    ⟨(some 120), (some (118, true)), .mov (.tmp 11)⟩,
    ⟨(some 121), (some (118, true)), .indexAddr 1 (.tmp 119) (.tmp 120)⟩,
    ⟨(some 122), (some (118, true)), .load none (.tmp 121)⟩,
    ⟨(some 123), (some (118, true)), .mov (.tmp 0)⟩,
    ⟨(some 124), (some (118, true)), .mov (.tmp 1)⟩,
    ⟨(some 125), (some (118, true)), .indexAddr 1 (.tmp 123) (.tmp 124)⟩,
    ⟨(some 126), (some (118, true)), .load none (.tmp 125)⟩,
    ⟨(some 127), (some (118, true)), .callF 52 [.tmp 122, .tmp 126]⟩,
    ⟨(some 128), (some (118, true)), .un .not (.tmp 127)⟩,
    ⟨(some 129), none, .pick (.tmp 118) (.tmp 128) (.const (.bool false))⟩]

def f54r19 : List AInstr := [
    ⟨(some 130), none, .mov (.tmp 11)⟩,
    ⟨(some 131), none, .ibin .sub (.tmp 130) (.const (.int .i64 1))⟩,
    ⟨(some 11), none, .mov (.tmp 131)⟩]

/-- live: [0, 1, 10, 11] -/
def f54l3 : ACode := (.seq (.seq (.draw f54r18 [(0, 0, false), (0, 0, false), (0, 0, false), (0, 0, false), (0, 0, false), (0, 0, false), (0, 0, false), (0, 0, false), (0, 0, false), (0, 0, false), (0, 0, false), (0, 0, false), (0, 0, true), (1, 1, false), (1, 1, false)])
  (.keep [0, 1, 10, 11, 129] (.cond (.tmp 129) .skip (.exit 8))))
  (.keep [0, 1, 10, 11] (.block 9 (.ops f54r19))))

def f54r21 : List AInstr := [
    ⟨(some 132), none, .mov (.tmp 10)⟩,
    ⟨(some 133), none, .mov (.tmp 11)⟩,
    ⟨(some 134), none, .ibin .gtr (.tmp 132) (.tmp 133)⟩]

def f54r22 : List AInstr := [
    ⟨(some 135), none, .mov (.tmp 0)⟩,
    ⟨(some 136), none, .mov (.tmp 10)⟩,
    ⟨(some 137), none, .mov (.tmp 0)⟩,
    ⟨(some 138), none, .mov (.tmp 11)⟩,
    ⟨(some 139), none, .mov (.tmp 0)⟩,
    ⟨(some 140), none, .mov (.tmp 11)⟩,
    ⟨(some 141), none, .indexAddr 1 (.tmp 139) (.tmp 140)⟩,
    ⟨(some 142), none, .load none (.tmp 141)⟩,
    ⟨(some 143), none, .mov (.tmp 0)⟩,
    ⟨(some 144), none, .mov (.tmp 10)⟩,
    ⟨(some 145), none, .indexAddr 1 (.tmp 143) (.tmp 144)⟩,
    ⟨(some 146), none, .load none (.tmp 145)⟩,
    ⟨(some 147), none, .indexAddr 1 (.tmp 135) (.tmp 136)⟩,
    ⟨none, none, .store 1 (.tmp 147) (.tmp 142)⟩,
    ⟨(some 148), none, .indexAddr 1 (.tmp 137) (.tmp 138)⟩,
    ⟨none, none, .store 1 (.tmp 148) (.tmp 146)⟩]

def f54r23 : List AInstr := [
    ⟨(some 149), none, .mov (.tmp 10)⟩,
    ⟨(some 150), none, .ibin .add (.tmp 149) (.const (.int .i64 1))⟩,
    ⟨(some 10), none, .mov (.tmp 150)⟩]

def f54r24 : List AInstr := [
    ⟨(some 151), none, .mov (.tmp 11)⟩,
    ⟨(some 152), none, .ibin .sub (.tmp 151) (.const (.int .i64 1))⟩,
    ⟨(some 11), none, .mov (.tmp 152)⟩]

/-- live: [0, 1, 10, 11] -/
def f54l4 : ACode := (.block 5 (.seq (.block 6 (.loop f54l2))
  (.keep [0, 1, 10, 11] (.seq (.block 8 (.loop f54l3))
  (.keep [0, 1, 10, 11] (.seq (.seq (.ops f54r21)
  (.keep [0, 1, 10, 11, 134] (.cond (.tmp 134) (.exit 4) .skip)))
  (.keep [0, 1, 10, 11] (.seq (.draw f54r22 [(0, 0, false), (0, 0, false), (0, 1, false), (0, 1, false), (0, 0, false), (0, 0, false), (0, 0, false), (0, 0, false), (0, 0, false), (0, 0, false), (0, 0, false), (0, 0, false), (0, 0, false), (0, 0, true), (1, 1, false), (1, 0, true)])
  (.keep [0, 1, 10, 11] (.seq (.ops f54r23)
  (.keep [0, 1, 10, 11] (.ops f54r24))))))))))))

def f54r26 : List AInstr := [
    ⟨(some 153), none, .mov (.tmp 0)⟩,
    ⟨(some 154), none, .mov (.tmp 11)⟩,
    ⟨(some 155), none, .mov (.tmp 0)⟩,
    ⟨(some 156), none, .mov (.tmp 1)⟩,
    ⟨(some 157), none, .mov (.tmp 0)⟩,
    ⟨(some 158), none, .mov (.tmp 1)⟩,
    ⟨(some 159), none, .indexAddr 1 (.tmp 157) (.tmp 158)⟩,
    ⟨(some 160), none, .load none (.tmp 159)⟩,
    ⟨(some 161), none, .mov (.tmp 0)⟩,
    ⟨(some 162), none, .mov (.tmp 11)⟩,
    ⟨(some 163), none, .indexAddr 1 (.tmp 161) (.tmp 162)⟩,
    ⟨(some 164), none, .load none (.tmp 163)⟩,
    ⟨(some 165), none, .indexAddr 1 (.tmp 153) (.tmp 154)⟩,
    ⟨none, none, .store 1 (.tmp 165) (.tmp 160)⟩,
    ⟨(some 166), none, .indexAddr 1 (.tmp 155) (.tmp 156)⟩,
    ⟨none, none, .store 1 (.tmp 166) (.tmp 164)⟩]

def f54r27 : List AInstr := [
    ⟨(some 167), none, .mov (.tmp 11)⟩,
    ⟨(some 8), none, .mov (.tmp 167)⟩,
    ⟨(some 9), none, .mov (.const (.bool false))⟩]

def f54b : ACode := (.seq (.ops f54r0)
  (.keep [0, 1, 2, 3] (.seq (.draw f54r1 [(0, 0, false), (0, 0, false), (0, 1, false), (0, 1, false), (0, 0, false), (0, 0, false), (0, 0, false), (0, 0, false), (0, 0, false), (0, 0, false), (0, 0, false), (0, 0, false), (0, 0, false), (0, 0, true), (1, 1, false), (1, 0, true)])
  (.keep [0, 1, 2] (.seq (.ops f54r2)
  (.keep [0, 1, 10, 11] (.seq (.block 0 (.loop f54l0))
  (.keep [0, 1, 10, 11] (.seq (.block 2 (.loop f54l1))
  (.keep [0, 1, 10, 11] (.seq (.seq (.ops f54r9)
  (.keep [0, 1, 10, 11, 65] (.cond (.tmp 65) (.keep [0, 1, 11] (.seq (.draw f54r10 [(0, 0, false), (0, 0, false), (0, 1, false), (0, 1, false), (0, 0, false), (0, 0, false), (0, 0, false), (0, 0, false), (0, 0, false), (0, 0, false), (0, 0, false), (0, 0, false), (0, 0, false), (0, 0, true), (1, 1, false), (1, 0, true)])
  (.keep [11] (.seq (.ops f54r11)
  (.keep [8, 9] .ret))))) .skip)))
  (.keep [0, 1, 10, 11] (.seq (.draw f54r12 [(0, 0, false), (0, 0, false), (0, 1, false), (0, 1, false), (0, 0, false), (0, 0, false), (0, 0, false), (0, 0, false), (0, 0, false), (0, 0, false), (0, 0, false), (0, 0, false), (0, 0, false), (0, 0, true), (1, 1, false), (1, 0, true)])
  (.keep [0, 1, 10, 11] (.seq (.ops f54r13)
  (.keep [0, 1, 10, 11] (.seq (.ops f54r14)
  (.keep [0, 1, 10, 11] (.seq (.block 4 (.loop f54l4))
  (.keep [0, 1, 11] (.seq (.draw f54r26 [(0, 0, false), (0, 0, false), (0, 1, false), (0, 1, false), (0, 0, false), (0, 0, false), (0, 0, false), (0, 0, false), (0, 0, false), (0, 0, false), (0, 0, false), (0, 0, false), (0, 0, false), (0, 0, true), (1, 1, false), (1, 0, true)])
  (.keep [11] (.seq (.ops f54r27)
  (.keep [8, 9] .ret))))))))))))))))))))))))

def f54 : AFn := ⟨168, [.tmp 8, .tmp 9], f54b⟩

theorem f54_ok : compFn Try.prog 54 = some f54.strip := by kernel_rfl

/- function 55: slices.rotateLeft[weirhouse/api.Count]; parameters 2; operations that are not compiled: 0 -/
def f55r0 : List AInstr := [
    ⟨(some 4), none, .mov (.tmp 0)⟩,
    ⟨(some 5), none, .mov (.tmp 1)⟩,
    ⟨(some 6), none, .slice 2 (.tmp 4) none (some (.tmp 5)) none⟩,
    ⟨(some 7), none, .callF 65 [.tmp 6]⟩]

def f55r1 : List AInstr := [
    ⟨(some 8), none, .mov (.tmp 0)⟩,
    ⟨(some 9), none, .mov (.tmp 1)⟩,
    ⟨(some 10), none, .slice 2 (.tmp 8) (some (.tmp 9)) none none⟩,
    ⟨(some 11), none, .callF 65 [.tmp 10]⟩]

def f55r2 : List AInstr := [
    ⟨(some 12), none, .mov (.tmp 0)⟩,
    ⟨(some 13), none, .callF 65 [.tmp 12]⟩]

def f55b : ACode := (.seq (.ops f55r0)
  (.keep [0, 1] (.seq (.ops f55r1)
  (.keep [0] (.ops f55r2)))))

def f55 : AFn := ⟨14, [], f55b⟩

theorem f55_ok : compFn Try.prog 55 = some f55.strip := by kernel_rfl

/- function 56: slices.siftDownCmpFunc[weirhouse/api.Count]; parameters 5; operations that are not compiled: 0 -/
def f56r0 : List AInstr := [
    ⟨(some 12), none, .mov (.tmp 1)⟩,
    ⟨(some 10), none, .mov (.tmp 12)⟩]

def f56r1 : List AInstr := [
    ⟨(some 13), none, .mov (.tmp 10)⟩,
    ⟨(some 14), none, .ibin .mul (.const (.int .i64 2)) (.tmp 13)⟩,
    ⟨(some 15), none, .ibin .add (.tmp 14) (.const (.int .i64 1))⟩,
    ⟨(some 11), none, .mov (.tmp 15)⟩]

def f56r2 : List AInstr := [
    ⟨(some 16), none, .mov (.tmp 11)⟩,
    ⟨(some 17), none, .mov (.tmp 2)⟩,
    ⟨(some 18), none, .ibin .geq (.tmp 16) (.tmp 17)⟩]

def f56r3 : List AInstr := [
    ⟨(some 19), none, .mov (.tmp 11)⟩,
    ⟨(some 20), none, .ibin .add (.tmp 19) (.const (.int .i64 1))⟩,
    ⟨(some 21), none, .mov (.tmp 2)⟩,
    ⟨(some 22), none, .ibin .lss (.tmp 20) (.tmp 21)⟩,
    ⟨(some 23), none, .mov (.tmp 22)⟩,
    ⟨(some 24), (some (23, true)), .mov (.tmp 4)⟩,
    ⟨(some 25), (some (23, true)), .mov (.tmp 0)⟩,
    ⟨(some 26), (some (23, true)), .mov (.tmp 3)⟩,
    ⟨(some 27), (some (23, true)), .mov (.tmp 11)⟩,
    ⟨(some 28), (some (23, true)), .ibin .add (.tmp 26) (.tmp 27)⟩,
    ⟨(some 29), (some (23, true)), .indexAddr 2 (.tmp 25) (.tmp 28)⟩,
    ⟨(some 30), (some (23, true)), .load (some 2) (.tmp 29)⟩,
    ⟨(some 31), (some (23, true)), .mov (.tmp 0)⟩,
    ⟨(some 32), (some (23, true)), .mov (.tmp 3)⟩,
    ⟨(some 33), (some (23, true)), .mov (.tmp 11)⟩,
    ⟨(some 34), (some (23, true)), .ibin .add (.tmp 32) (.tmp 33)⟩,
    ⟨(some 35), (some (23, true)), .ibin .add (.tmp 34) (.const (.int .i64 1))⟩,
    ⟨(some 36), (some (23, true)), .indexAddr 2 (.tmp 31) (.tmp 35)⟩,
    ⟨(some 37), (some (23, true)), .load (some 2) (.tmp 36)⟩,
    ⟨(some 38), (some (23, true)), .callV (.tmp 24) [.tmp 30, .tmp 37]⟩,
    ⟨(some 39), (some (23, true)), .ibin .lss (.tmp 38) (.const (.int .i64 0))⟩,
    ⟨(some 40), none, .pick (.tmp 23) (.tmp 39) (.const (.bool false))⟩]

def f56r4 : List AInstr := [
    ⟨(some 41), none, .mov (.tmp 11)⟩,
    ⟨(some 42), none, .ibin .add (.tmp 41) (.const (.int .i64 1))⟩,
    ⟨(some 11), none, .mov (.tmp 42)⟩]

def f56r5 : List AInstr := [
    ⟨(some 43), none, .mov (.tmp 4)⟩,
    ⟨(some 44), none, .mov (.tmp 0)⟩,
    ⟨(some 45), none, .mov (.tmp 3)⟩,
    ⟨(some 46), none, .mov (.tmp 10)⟩,
    ⟨(some 47), none, .ibin .add (.tmp 45) (.tmp 46)⟩,
    ⟨(some 48), none, .indexAddr 2 (.tmp 44) (.tmp 47)⟩,
    ⟨(some 49), none, .load (some 2) (.tmp 48)⟩,
    ⟨(some 50), none, .mov (.tmp 0)⟩,
    ⟨(some 51), none, .mov (.tmp 3)⟩,
    ⟨(some 52), none, .mov (.tmp 11)⟩,
    ⟨(some 53), none, .ibin .add (.tmp 51) (.tmp 52)⟩,
    ⟨(some 54), none, .indexAddr 2 (.tmp 50) (.tmp 53)⟩,
    ⟨(some 55), none, .load (some 2) (.tmp 54)⟩,
    ⟨(some 56), none, .callV (.tmp 43) [.tmp 49, .tmp 55]⟩,
    ⟨(some 57), none, .ibin .lss (.tmp 56) (.const (.int .i64 0))⟩,
    ⟨(some 58), none, .un .not (.tmp 57)⟩]

def f56r6 : List AInstr := [
    ⟨(some 59), none, .mov (.tmp 0)⟩,
    ⟨(some 60), none, .mov (.tmp 3)⟩,
    ⟨(some 61), none, .mov (.tmp 10)⟩,
    ⟨(some 62), none, .ibin .add (.tmp 60) (.tmp 61)⟩,
    ⟨(some 63), none, .mov (.tmp 0)⟩,
    ⟨(some 64), none, .mov (.tmp 3)⟩,
    ⟨(some 65), none, .mov (.tmp 11)⟩,
    ⟨(some 66), none, .ibin .add (.tmp 64) (.tmp 65)⟩,
    ⟨(some 67), none, .mov (.tmp 0)⟩,
    ⟨(some 68), none, .mov (.tmp 3)⟩,
    ⟨(some 69), none, .mov (.tmp 11)⟩,
    ⟨(some 70), none, .ibin .add (.tmp 68) (.tmp 69)⟩,
    ⟨(some 71), none, .indexAddr 2 (.tmp 67) (.tmp 70)⟩,
    ⟨(some 72), none, .load (some 2) (.tmp 71)⟩,
    ⟨(some 73), none, .mov (.tmp 0)⟩,
    ⟨(some 74), none, .mov (.tmp 3)⟩,
    ⟨(some 75), none, .mov (.tmp 10)⟩,
    ⟨(some 76), none, .ibin .add (.tmp 74) (.tmp 75)⟩,
    ⟨(some 77), none, .indexAddr 2 (.tmp 73) (.tmp 76)⟩,
    ⟨(some 78), none, .load (some 2) (.tmp 77)⟩,
    ⟨(some 79), none, .indexAddr 2 (.tmp 59) (.tmp 62)⟩,
    ⟨none, none, .store 2 (.tmp 79) (.tmp 72)⟩,
    ⟨(some 80), none, .indexAddr 2 (.tmp 63) (.tmp 66)⟩,
    ⟨none, none, .store 2 (.tmp 80) (.tmp 78)⟩]

def f56r7 : List AInstr := [
    ⟨(some 81), none, .mov (.tmp 11)⟩,
    ⟨(some 10), none, .mov (.tmp 81)⟩]

/-- live: [0, 2, 3, 4, 10] -/
def f56l0 : ACode := (.block 1 (.seq (.ops f56r1)
  (.keep [0, 2, 3, 4, 10, 11] (.seq (.seq (.ops f56r2)
  (.keep [0, 2, 3, 4, 10, 11, 18] (.cond (.tmp 18) (.exit 0) .skip)))
  (.keep [0, 2, 3, 4, 10, 11] (.seq (.seq (.draw f56r3 [(0, 0, false), (0, 0, false), (0, 0, false), (0, 0, false), (0, 0, false), (0, 0, false), (0, 0, false), (0, 0, false), (0, 0, false), (0, 0, false), (0, 0, false), (0, 0, false), (0, 0, false), (0, 0, false), (0, 0, false), (0, 0, false), (0, 0, false), (0, 0, false), (0, 0, false), (0, 0, true), (1, 1, false), (1, 1, false)])
  (.keep [0, 2, 3, 4, 10, 11, 40] (.cond (.tmp 40) (.keep [0, 2, 3, 4, 10, 11] (.ops f56r4)) .skip)))
  (.keep [0, 2, 3, 4, 10, 11] (.seq (.seq (.draw f56r5 [(0, 0, false), (0, 0, false), (0, 0, false), (0, 0, false), (0, 0, false), (0, 0, false), (0, 0, false), (0, 0, false), (0, 0, false), (0, 0, false), (0, 0, false), (0, 0, false), (0, 0, false), (0, 0, true), (1, 1, false), (1, 1, false)])
  (.keep [0, 2, 3, 4, 10, 11, 58] (.cond (.tmp 58) (.keep [] .ret) .skip)))
  (.keep [0, 2, 3, 4, 10, 11] (.seq (.draw f56r6 [(0, 0, false), (0, 0, false), (0, 0, false), (0, 0, false), (0, 1, false), (0, 1, false), (0, 1, false), (0, 1, false), (0, 0, false), (0, 0, false), (0, 0, false), (0, 0, false), (0, 0, false), (0, 0, false), (0, 0, false), (0, 0, false), (0, 0, false), (0, 0, false), (0, 0, false), (0, 0, false), (0, 0, false), (0, 0, true), (1, 1, false), (1, 0, true)])
  (.keep [0, 2, 3, 4, 11] (.ops f56r7))))))))))))

def f56b : ACode := (.seq (.ops f56r0)
  (.keep [0, 2, 3, 4, 10] (.block 0 (.loop f56l0))))

def f56 : AFn := ⟨82, [], f56b⟩

theorem f56_ok : compFn Try.prog 56 = some f56.strip := by kernel_rfl

/- function 57: slices.nextPowerOfTwo; parameters 1; operations that are not compiled: 0 -/
def f57r0 : List AInstr := [
    ⟨(some 2), none, .mov (.const (.int .u64 0))⟩]

def f57r1 : List AInstr := [
    ⟨(some 3), none, .mov (.tmp 0)⟩,
    ⟨(some 4), none, .conv .u64 (.tmp 3)⟩,
    ⟨(some 5), none, .callF 31 [.tmp 4]⟩,
    ⟨(some 6), none, .ibin .shl (.const (.int .u64 1)) (.tmp 5)⟩,
    ⟨(some 2), none, .mov (.tmp 6)⟩]

def f57b : ACode := (.seq (.ops f57r0)
  (.keep [0] (.seq (.ops f57r1)
  (.keep [2] .ret))))

def f57 : AFn := ⟨7, [.tmp 2], f57b⟩

theorem f57_ok : compFn Try.prog 57 = some f57.strip := by kernel_rfl

/- function 58: (*slices.xorshift).Next; parameters 1; operations that are not compiled: 0 -/
def f58r0 : List AInstr := [
    ⟨(some 2), none, .mov (.const (.int .u64 0))⟩]

def f58r1 : List AInstr := [
    ⟨(some 3), none, .mov (.tmp 0)⟩,
    ⟨(some 4), none, .nilCheck (.tmp 3)⟩,
    ⟨(some 5), none, .load none (.tmp 4)⟩,
    ⟨(some 6), none, .mov (.tmp 0)⟩,
    ⟨(some 7), none, .nilCheck (.tmp 6)⟩,
    ⟨(some 8), none, .load none (.tmp 7)⟩,
    ⟨(some 9), none, .ibin .shl (.tmp 8) (.const (.int .u64 13))⟩,
    ⟨(some 10), none, .ibin .xor (.tmp 5) (.tmp 9)⟩,
    ⟨(some 11), none, .nilCheck (.tmp 3)⟩,
    ⟨none, none, .store 1 (.tmp 11) (.tmp 10)⟩]

def f58r2 : List AInstr := [
    ⟨(some 12), none, .mov (.tmp 0)⟩,
    ⟨(some 13), none, .nilCheck (.tmp 12)⟩,
    ⟨(some 14), none, .load none (.tmp 13)⟩,
    ⟨(some 15), none, .mov (.tmp 0)⟩,
    ⟨(some 16), none, .nilCheck (.tmp 15)⟩,
    ⟨(some 17), none, .load none (.tmp 16)⟩,
    ⟨(some 18), none, .ibin .shr (.tmp 17) (.const (.int .u64 7))⟩,
    ⟨(some 19), none, .ibin .xor (.tmp 14) (.tmp 18)⟩,
    ⟨(some 20), none, .nilCheck (.tmp 12)⟩,
    ⟨none, none, .store 1 (.tmp 20) (.tmp 19)⟩]

def f58r3 : List AInstr := [
    ⟨(some 21), none, .mov (.tmp 0)⟩,
    ⟨(some 22), none, .nilCheck (.tmp 21)⟩,
    ⟨(some 23), none, .load none (.tmp 22)⟩,
    ⟨(some 24), none, .mov (.tmp 0)⟩,
    ⟨(some 25), none, .nilCheck (.tmp 24)⟩,
    ⟨(some 26), none, .load none (.tmp 25)⟩,
    ⟨(some 27), none, .ibin .shl (.tmp 26) (.const (.int .u64 17))⟩,
    ⟨(some 28), none, .ibin .xor (.tmp 23) (.tmp 27)⟩,
    ⟨(some 29), none, .nilCheck (.tmp 21)⟩,
    ⟨none, none, .store 1 (.tmp 29) (.tmp 28)⟩]

def f58r4 : List AInstr := [
    ⟨(some 30), none, .mov (.tmp 0)⟩,
    ⟨(some 31), none, .nilCheck (.tmp 30)⟩,
    ⟨(some 32), none, .load none (.tmp 31)⟩,
    ⟨(some 2), none, .mov (.tmp 32)⟩]

def f58b : ACode := (.seq (.ops f58r0)
  (.keep [0] (.seq (.draw f58r1 [(0, 0, false), (0, 0, false), (0, 0, false), (0, 0, false), (0, 0, false), (0, 0, false), (0, 0, false), (0, 0, false), (0, 0, false), (0, 0, true)])
  (.keep [0] (.seq (.draw f58r2 [(0, 0, false), (0, 0, false), (0, 0, false), (0, 0, false), (0, 0, false), (0, 0, false), (0, 0, false), (0, 0, false), (0, 0, false), (0, 0, true)])
  (.keep [0] (.seq (.draw f58r3 [(0, 0, false), (0, 0, false), (0, 0, false), (0, 0, false), (0, 0, false), (0, 0, false), (0, 0, false), (0, 0, false), (0, 0, false), (0, 0, true)])
  (.keep [0] (.seq (.ops f58r4)
  (.keep [2] .ret))))))))))

def f58 : AFn := ⟨33, [.tmp 2], f58b⟩

theorem f58_ok : compFn Try.prog 58 = some f58.strip := by kernel_rfl

/- function 59: slices.medianAdjacentCmpFunc[weirhouse/api.Count]; parameters 4; operations that are not compiled: 0 -/
def f59r0 : List AInstr := [
    ⟨(some 8), none, .mov (.const (.int .i64 0))⟩]

def f59r1 : List AInstr := [
    ⟨(some 9), none, .mov (.tmp 0)⟩,
    ⟨(some 10), none, .mov (.tmp 1)⟩,
    ⟨(some 11), none, .ibin .sub (.tmp 10) (.const (.int .i64 1))⟩,
    ⟨(some 12), none, .mov (.tmp 1)⟩,
    ⟨(some 13), none, .mov (.tmp 1)⟩,
    ⟨(some 14), none, .ibin .add (.tmp 13) (.const (.int .i64 1))⟩,
    ⟨(some 15), none, .mov (.tmp 2)⟩,
    ⟨(some 16), none, .mov (.tmp 3)⟩,
    ⟨(some 17), none, .callF 60 [.tmp 9, .tmp 11, .tmp 12, .tmp 14, .tmp 15, .tmp 16]⟩,
    ⟨(some 8), none, .mov (.tmp 17)⟩]

def f59b : ACode := (.seq (.ops f59r0)
  (.keep [0, 1, 2, 3] (.seq (.ops f59r1)
  (.keep [8] .ret))))

def f59 : AFn := ⟨18, [.tmp 8], f59b⟩

theorem f59_ok : compFn Try.prog 59 = some f59.strip := by kernel_rfl

/- function 60: slices.medianCmpFunc[weirhouse/api.Count]; parameters 6; operations that are not compiled: 0 -/
def f60r0 : List AInstr := [
    ⟨(some 12), none, .mov (.const (.int .i64 0))⟩]

def f60r1 : List AInstr := [
    ⟨(some 14), none, .mov (.tmp 0)⟩,
    ⟨(some 15), none, .mov (.tmp 1)⟩,
    ⟨(some 16), none, .mov (.tmp 2)⟩,
    ⟨(some 17), none, .mov (.tmp 4)⟩,
    ⟨(some 18), none, .mov (.tmp 5)⟩,
    ⟨(some 19), none, .callF 66 [.tmp 14, .tmp 15, .tmp 16, .tmp 17, .tmp 18]⟩,
    ⟨(some 13), none, .mov (.tmp 19)⟩,
    ⟨(some 20), none, .extract 0 (.tmp 13)⟩,
    ⟨(some 21), none, .extract 1 (.tmp 13)⟩,
    ⟨(some 1), none, .mov (.tmp 20)⟩,
    ⟨(some 2), none, .mov (.tmp 21)⟩]

def f60r2 : List AInstr := [
    ⟨(some 23), none, .mov (.tmp 0)⟩,
    ⟨(some 24), none, .mov (.tmp 2)⟩,
    ⟨(some 25), none, .mov (.tmp 3)⟩,
    ⟨(some 26), none, .mov (.tmp 4)⟩,
    ⟨(some 27), none, .mov (.tmp 5)⟩,
    ⟨(some 28), none, .callF 66 [.tmp 23, .tmp 24, .tmp 25, .tmp 26, .tmp 27]⟩,
    ⟨(some 22), none, .mov (.tmp 28)⟩,
    ⟨(some 29), none, .extract 0 (.tmp 22)⟩,
    ⟨(some 30), none, .extract 1 (.tmp 22)⟩,
    ⟨(some 2), none, .mov (.tmp 29)⟩,
    ⟨(some 3), none, .mov (.tmp 30)⟩]

def f60r3 : List AInstr := [
    ⟨(some 32), none, .mov (.tmp 0)⟩,
    ⟨(some 33), none, .mov (.tmp 1)⟩,
    ⟨(some 34), none, .mov (.tmp 2)⟩,
    ⟨(some 35), none, .mov (.tmp 4)⟩,
    ⟨(some 36), none, .mov (.tmp 5)⟩,
    ⟨(some 37), none, .callF 66 [.tmp 32, .tmp 33, .tmp 34, .tmp 35, .tmp 36]⟩,
    ⟨(some 31), none, .mov (.tmp 37)⟩,
    ⟨(some 38), none, .extract 0 (.tmp 31)⟩,
    ⟨(some 39), none, .extract 1 (.tmp 31)⟩,
    ⟨(some 1), none, .mov (.tmp 38)⟩,
    ⟨(some 2), none, .mov (.tmp 39)⟩]

def f60r4 : List AInstr := [
    ⟨(some 40), none, .mov (.tmp 2)⟩,
    ⟨(some 12), none, .mov (.tmp 40)⟩]

def f60b : ACode := (.seq (.ops f60r0)
  (.keep [0, 1, 2, 3, 4, 5] (.seq (.ops f60r1)
  (.keep [0, 1, 2, 3, 4, 5] (.seq (.ops f60r2)
  (.keep [0, 1, 2, 4, 5] (.seq (.ops f60r3)
  (.keep [2] (.seq (.ops f60r4)
  (.keep [12] .ret))))))))))

def f60 : AFn := ⟨41, [.tmp 12], f60b⟩

theorem f60_ok : compFn Try.prog 60 = some f60.strip := by kernel_rfl

/- function 61: slices.siftDownOrdered[int]; parameters 4; operations that are not compiled: 0 -/
def f61r0 : List AInstr := [
    ⟨(some 10), none, .mov (.tmp 1)⟩,
    ⟨(some 8), none, .mov (.tmp 10)⟩]

def f61r1 : List AInstr := [
    ⟨(some 11), none, .mov (.tmp 8)⟩,
    ⟨(some 12), none, .ibin .mul (.const (.int .i64 2)) (.tmp 11)⟩,
    ⟨(some 13), none, .ibin .add (.tmp 12) (.const (.int .i64 1))⟩,
    ⟨(some 9), none, .mov (.tmp 13)⟩]

def f61r2 : List AInstr := [
    ⟨(some 14), none, .mov (.tmp 9)⟩,
    ⟨(some 15), none, .mov (.tmp 2)⟩,
    ⟨(some 16), none, .ibin .geq (.tmp 14) (.tmp 15)⟩]

def f61r3 : List AInstr := [
    ⟨(some 17), none, .mov (.tmp 9)⟩,
    ⟨(some 18), none, .ibin .add (.tmp 17) (.const (.int .i64 1))⟩,
    ⟨(some 19), none, .mov (.tmp 2)⟩,
    ⟨(some 20), none, .ibin .lss (.tmp 18) (.tmp 19)⟩,
    ⟨(some 21), none, .mov (.tmp 20)⟩,
    ⟨(some 22), (some (21, true)), .mov (.tmp 0)⟩,
    ⟨(some 23), (some (21, true)), .mov (.tmp 3)⟩,
    ⟨(some 24), (some (21, true)), .mov (.tmp 9)⟩,
    ⟨(some 25), (some (21, true)), .ibin .add (.tmp 23) (.tmp 24)⟩,
    ⟨(some 26), (some (21, true)), .indexAddr 1 (.tmp 22) (.tmp 25)⟩,
    ⟨(some 27), (some (21, true)), .load none (.tmp 26)⟩,
    ⟨(some 28), (some (21, true)), .mov (.tmp 0)⟩,
    ⟨(some 29), (some (21, true)), .mov (.tmp 3)⟩,
    ⟨(some 30), (some (21, true)), .mov (.tmp 9)⟩,
    ⟨(some 31), (some (21, true)), .ibin .add (.tmp 29) (.tmp 30)⟩,
    ⟨(some 32), (some (21, true)), .ibin .add (.tmp 31) (.const (.int .i64 1))⟩,
    ⟨(some 33), (some (21, true)), .indexAddr 1 (.tmp 28) (.tmp 32)⟩,
    ⟨(some 34), (some (21, true)), .load none (.tmp 33)⟩,
    ⟨(some 35), (some (21, true)), .callF 52 [.tmp 27, .tmp 34]⟩,
    ⟨(some 36), none, .pick (.tmp 21) (.tmp 35) (.const (.bool false))⟩]

def f61r4 : List AInstr := [
    ⟨(some 37), none, .mov (.tmp 9)⟩,
    ⟨(some 38), none, .ibin .add (.tmp 37) (.const (.int .i64 1))⟩,
    ⟨(some 9), none, .mov (.tmp 38)⟩]

def f61r5 : List AInstr := [
    ⟨(some 39), none, .mov (.tmp 0)⟩,
    ⟨(some 40), none, .mov (.tmp 3)⟩,
    ⟨(some 41), none, .mov (.tmp 8)⟩,
    ⟨(some 42), none, .ibin .add (.tmp 40) (.tmp 41)⟩,
    ⟨(some 43), none, .indexAddr 1 (.tmp 39) (.tmp 42)⟩,
    ⟨(some 44), none, .load none (.tmp 43)⟩,
    ⟨(some 45), none, .mov (.tmp 0)⟩,
    ⟨(some 46), none, .mov (.tmp 3)⟩,
    ⟨(some 47), none, .mov (.tmp 9)⟩,
    ⟨(some 48), none, .ibin .add (.tmp 46) (.tmp 47)⟩,
    ⟨(some 49), none, .indexAddr 1 (.tmp 45) (.tmp 48)⟩,
    ⟨(some 50), none, .load none (.tmp 49)⟩,
    ⟨(some 51), none, .callF 52 [.tmp 44, .tmp 50]⟩,
    ⟨(some 52), none, .un .not (.tmp 51)⟩]

def f61r6 : List AInstr := [
    ⟨(some 53), none, .mov (.tmp 0)⟩,
    ⟨(some 54), none, .mov (.tmp 3)⟩,
    ⟨(some 55), none, .mov (.tmp 8)⟩,
    ⟨(some 56), none, .ibin .add (.tmp 54) (.tmp 55)⟩,
    ⟨(some 57), none, .mov (.tmp 0)⟩,
    ⟨(some 58), none, .mov (.tmp 3)⟩,
    ⟨(some 59), none, .mov (.tmp 9)⟩,
    ⟨(some 60), none, .ibin .add (.tmp 58) (.tmp 59)⟩,
    ⟨(some 61), none, .mov (.tmp 0)⟩,
    ⟨(some 62), none, .mov (.tmp 3)⟩,
    ⟨(some 63), none, .mov (.tmp 9)⟩,
    ⟨(some 64), none, .ibin .add (.tmp 62) (.tmp 63)⟩,
    ⟨(some 65), none, .indexAddr 1 (.tmp 61) (.tmp 64)⟩,
    ⟨(some 66), none, .load none (.tmp 65)⟩,
    ⟨(some 67), none, .mov (.tmp 0)⟩,
    ⟨(some 68), none, .mov (.tmp 3)⟩,
    ⟨(some 69), none, .mov (.tmp 8)⟩,
    ⟨(some 70), none, .ibin .add (.tmp 68) (.tmp 69)⟩,
    ⟨(some 71), none, .indexAddr 1 (.tmp 67) (.tmp 70)⟩,
    ⟨(some 72), none, .load none (.tmp 71)⟩,
    ⟨(some 73), none, .indexAddr 1 (.tmp 53) (.tmp 56)⟩,
    ⟨none, none, .store 1 (.tmp 73) (.tmp 66)⟩,
    ⟨(some 74), none, .indexAddr 1 (.tmp 57) (.tmp 60)⟩,
    ⟨none, none, .store 1 (.tmp 74) (.tmp 72)⟩]

def f61r7 : List AInstr := [
    ⟨(some 75), none, .mov (.tmp 9)⟩,
    ⟨(some 8), none, .mov (.tmp 75)⟩]

/-- live: [0, 2, 3, 8] -/
def f61l0 : ACode := (.block 1 (.seq (.ops f61r1)
  (.keep [0, 2, 3, 8, 9] (.seq (.seq (.ops f61r2)
  (.keep [0, 2, 3, 8, 9, 16] (.cond (.tmp 16) (.exit 0) .skip)))
  (.keep [0, 2, 3, 8, 9] (.seq (.seq (.draw f61r3 [(0, 0, false), (0, 0, false), (0, 0, false), (0, 0, false), (0, 0, false), (0, 0, false), (0, 0, false), (0, 0, false), (0, 0, false), (0, 0, false), (0, 0, false), (0, 0, false), (0, 0, false), (0, 0, false), (0, 0, false), (0, 0, false), (0, 0, false), (0, 0, false), (0, 0, true), (1, 1, false)])
  (.keep [0, 2, 3, 8, 9, 36] (.cond (.tmp 36) (.keep [0, 2, 3, 8, 9] (.ops f61r4)) .skip)))
  (.keep [0, 2, 3, 8, 9] (.seq (.seq (.draw f61r5 [(0, 0, false), (0, 0, false), (0, 0, false), (0, 0, false), (0, 0, false), (0, 0, false), (0, 0, false), (0, 0, false), (0, 0, false), (0, 0, false), (0, 0, false), (0, 0, false), (0, 0, true), (1, 1, false)])
  (.keep [0, 2, 3, 8, 9, 52] (.cond (.tmp 52) (.keep [] .ret) .skip)))
  (.keep [0, 2, 3, 8, 9] (.seq (.draw f61r6 [(0, 0, false), (0, 0, false), (0, 0, false), (0, 0, false), (0, 1, false), (0, 1, false), (0, 1, false), (0, 1, false), (0, 0, false), (0, 0, false), (0, 0, false), (0, 0, false), (0, 0, false), (0, 0, false), (0, 0, false), (0, 0, false), (0, 0, false), (0, 0, false), (0, 0, false), (0, 0, false), (0, 0, false), (0, 0, true), (1, 1, false), (1, 0, true)])
  (.keep [0, 2, 3, 9] (.ops f61r7))))))))))))

def f61b : ACode := (.seq (.ops f61r0)
  (.keep [0, 2, 3, 8] (.block 0 (.loop f61l0))))

def f61 : AFn := ⟨76, [], f61b⟩

theorem f61_ok : compFn Try.prog 61 = some f61.strip := by kernel_rfl

/- function 62: slices.medianAdjacentOrdered[int]; parameters 3; operations that are not compiled: 0 -/
def f62r0 : List AInstr := [
    ⟨(some 6), none, .mov (.const (.int .i64 0))⟩]

def f62r1 : List AInstr := [
    ⟨(some 7), none, .mov (.tmp 0)⟩,
    ⟨(some 8), none, .mov (.tmp 1)⟩,
    ⟨(some 9), none, .ibin .sub (.tmp 8) (.const (.int .i64 1))⟩,
    ⟨(some 10), none, .mov (.tmp 1)⟩,
    ⟨(some 11), none, .mov (.tmp 1)⟩,
    ⟨(some 12), none, .ibin .add (.tmp 11) (.const (.int .i64 1))⟩,
    ⟨(some 13), none, .mov (.tmp 2)⟩,
    ⟨(some 14), none, .callF 63 [.tmp 7, .tmp 9, .tmp 10, .tmp 12, .tmp 13]⟩,
    ⟨(some 6), none, .mov (.tmp 14)⟩]

def f62b : ACode := (.seq (.ops f62r0)
  (.keep [0, 1, 2] (.seq (.ops f62r1)
  (.keep [6] .ret))))

def f62 : AFn := ⟨15, [.tmp 6], f62b⟩

theorem f62_ok : compFn Try.prog 62 = some f62.strip := by kernel_rfl

/- function 63: slices.medianOrdered[int]; parameters 5; operations that are not compiled: 0 -/
def f63r0 : List AInstr := [
    ⟨(some 10), none, .mov (.const (.int .i64 0))⟩]

def f63r1 : List AInstr := [
    ⟨(some 12), none, .mov (.tmp 0)⟩,
    ⟨(some 13), none, .mov (.tmp 1)⟩,
    ⟨(some 14), none, .mov (.tmp 2)⟩,
    ⟨(some 15), none, .mov (.tmp 4)⟩,
    ⟨(some 16), none, .callF 67 [.tmp 12, .tmp 13, .tmp 14, .tmp 15]⟩,
    ⟨(some 11), none, .mov (.tmp 16)⟩,
    ⟨(some 17), none, .extract 0 (.tmp 11)⟩,
    ⟨(some 18), none, .extract 1 (.tmp 11)⟩,
    ⟨(some 1), none, .mov (.tmp 17)⟩,
    ⟨(some 2), none, .mov (.tmp 18)⟩]

def f63r2 : List AInstr := [
    ⟨(some 20), none, .mov (.tmp 0)⟩,
    ⟨(some 21), none, .mov (.tmp 2)⟩,
    ⟨(some 22), none, .mov (.tmp 3)⟩,
    ⟨(some 23), none, .mov (.tmp 4)⟩,
    ⟨(some 24), none, .callF 67 [.tmp 20, .tmp 21, .tmp 22, .tmp 23]⟩,
    ⟨(some 19), none, .mov (.tmp 24)⟩,
    ⟨(some 25), none, .extract 0 (.tmp 19)⟩,
    ⟨(some 26), none, .extract 1 (.tmp 19)⟩,
    ⟨(some 2), none, .mov (.tmp 25)⟩,
    ⟨(some 3), none, .mov (.tmp 26)⟩]

def f63r3 : List AInstr := [
    ⟨(some 28), none, .mov (.tmp 0)⟩,
    ⟨(some 29), none, .mov (.tmp 1)⟩,
    ⟨(some 30), none, .mov (.tmp 2)⟩,
    ⟨(some 31), none, .mov (.tmp 4)⟩,
    ⟨(some 32), none, .callF 67 [.tmp 28, .tmp 29, .tmp 30, .tmp 31]⟩,
    ⟨(some 27), none, .mov (.tmp 32)⟩,
    ⟨(some 33), none, .extract 0 (.tmp 27)⟩,
    ⟨(some 34), none, .extract 1 (.tmp 27)⟩,
    ⟨(some 1), none, .mov (.tmp 33)⟩,
    ⟨(some 2), none, .mov (.tmp 34)⟩]

def f63r4 : List AInstr := [
    ⟨(some 35), none, .mov (.tmp 2)⟩,
    ⟨(some 10), none, .mov (.tmp 35)⟩]

def f63b : ACode := (.seq (.ops f63r0)
  (.keep [0, 1, 2, 3, 4] (.seq (.ops f63r1)
  (.keep [0, 1, 2, 3, 4] (.seq (.ops f63r2)
  (.keep [0, 1, 2, 4] (.seq (.ops f63r3)
  (.keep [2] (.seq (.ops f63r4)
  (.keep [10] .ret))))))))))

def f63 : AFn := ⟨36, [.tmp 10], f63b⟩

theorem f63_ok : compFn Try.prog 63 = some f63.strip := by kernel_rfl

/- function 64: cmp.isNaN[int]; parameters 1; operations that are not compiled: 0 -/
def f64r0 : List AInstr := [
    ⟨(some 2), none, .mov (.const (.bool false))⟩]

def f64r1 : List AInstr := [
    ⟨(some 3), none, .mov (.tmp 0)⟩,
    ⟨(some 4), none, .mov (.tmp 0)⟩,
    ⟨(some 5), none, .ibin .neq (.tmp 3) (.tmp 4)⟩,
    ⟨(some 2), none, .mov (.tmp 5)⟩]

def f64b : ACode := (.seq (.ops f64r0)
  (.keep [0] (.seq (.ops f64r1)
  (.keep [2] .ret))))

def f64 : AFn := ⟨6, [.tmp 2], f64b⟩

theorem f64_ok : compFn Try.prog 64 = some f64.strip := by kernel_rfl

/- function 65: slices.Reverse[[]weirhouse/api.Count,weirhouse/api.Count]; parameters 1; operations that are not compiled: 0 -/
def f65r0 : List AInstr := [
    ⟨(some 4), none, .mov (.tmp 0)⟩,
    ⟨(some 5), none, .len (.tmp 4)⟩,
    ⟨(some 6), none, .ibin .sub (.tmp 5) (.const (.int .i64 1))⟩,
    ⟨(some 2), none, .mov (.const (.int .i64 0))⟩,
    ⟨(some 3), none, .mov (.tmp 6)⟩]

def f65r1 : List AInstr := [
    ⟨(some 7), none, .mov (.tmp 2)⟩,
    ⟨(some 8), none, .mov (.tmp 3)⟩,
    ⟨(some 9), none, .ibin .lss (.tmp 7) (.tmp 8)⟩]

def f65r2 : List AInstr := [
    ⟨(some 14), none, .mov (.tmp 0)⟩,
    ⟨(some 15), none, .mov (.tmp 2)⟩,
    ⟨(some 16), none, .mov (.tmp 0)⟩,
    ⟨(some 17), none, .mov (.tmp 3)⟩,
    ⟨(some 18), none, .mov (.tmp 0)⟩,
    ⟨(some 19), none, .mov (.tmp 3)⟩,
    ⟨(some 20), none, .indexAddr 2 (.tmp 18) (.tmp 19)⟩,
    ⟨(some 21), none, .load (some 2) (.tmp 20)⟩,
    ⟨(some 22), none, .mov (.tmp 0)⟩,
    ⟨(some 23), none, .mov (.tmp 2)⟩,
    ⟨(some 24), none, .indexAddr 2 (.tmp 22) (.tmp 23)⟩,
    ⟨(some 25), none, .load (some 2) (.tmp 24)⟩,
    ⟨(some 26), none, .indexAddr 2 (.tmp 14) (.tmp 15)⟩,
    ⟨none, none, .store 2 (.tmp 26) (.tmp 21)⟩,
    ⟨(some 27), none, .indexAddr 2 (.tmp 16) (.tmp 17)⟩,
    ⟨none, none, .store 2 (.tmp 27) (.tmp 25)⟩]

def f65r3 : List AInstr := [
    ⟨(some 10), none, .mov (.tmp 2)⟩,
    ⟨(some 11), none, .ibin .add (.tmp 10) (.const (.int .i64 1))⟩,
    ⟨(some 12), none, .mov (.tmp 3)⟩,
    ⟨(some 13), none, .ibin .sub (.tmp 12) (.const (.int .i64 1))⟩,
    ⟨(some 2), none, .mov (.tmp 11)⟩,
    ⟨(some 3), none, .mov (.tmp 13)⟩]

/-- live: [0, 2, 3] -/
def f65l0 : ACode := (.seq (.seq (.ops f65r1)
  (.keep [0, 2, 3, 9] (.cond (.tmp 9) .skip (.exit 0))))
  (.keep [0, 2, 3] (.seq (.block 1 (.draw f65r2 [(0, 0, false), (0, 0, false), (0, 1, false), (0, 1, false), (0, 0, false), (0, 0, false), (0, 0, false), (0, 0, false), (0, 0, false), (0, 0, false), (0, 0, false), (0, 0, false), (0, 0, false), (0, 0, true), (1, 1, false), (1, 0, true)]))
  (.keep [0, 2, 3] (.ops f65r3)))))

def f65b : ACode := (.seq (.ops f65r0)
  (.keep [0, 2, 3] (.block 0 (.loop f65l0))))

def f65 : AFn := ⟨28, [], f65b⟩

theorem f65_ok : compFn Try.prog 65 = some f65.strip := by kernel_rfl

/- function 66: slices.order2CmpFunc[weirhouse/api.Count]; parameters 5; operations that are not compiled: 0 -/
def f66r0 : List AInstr := [
    ⟨(some 10), none, .mov (.const (.int .i64 0))⟩,
    ⟨(some 11), none, .mov (.const (.int .i64 0))⟩]

def f66r1 : List AInstr := [
    ⟨(some 12), none, .mov (.tmp 4)⟩,
    ⟨(some 13), none, .mov (.tmp 0)⟩,
    ⟨(some 14), none, .mov (.tmp 2)⟩,
    ⟨(some 15), none, .indexAddr 2 (.tmp 13) (.tmp 14)⟩,
    ⟨(some 16), none, .load (some 2) (.tmp 15)⟩,
    ⟨(some 17), none, .mov (.tmp 0)⟩,
    ⟨(some 18), none, .mov (.tmp 1)⟩,
    ⟨(some 19), none, .indexAddr 2 (.tmp 17) (.tmp 18)⟩,
    ⟨(some 20), none, .load (some 2) (.tmp 19)⟩,
    ⟨(some 21), none, .callV (.tmp 12) [.tmp 16, .tmp 20]⟩,
    ⟨(some 22), none, .ibin .lss (.tmp 21) (.const (.int .i64 0))⟩]

def f66r2 : List AInstr := [
    ⟨(some 23), none, .mov (.tmp 3)⟩,
    ⟨(some 24), none, .nilCheck (.tmp 23)⟩,
    ⟨(some 25), none, .load none (.tmp 24)⟩,
    ⟨(some 26), none, .ibin .add (.tmp 25) (.const (.int .i64 1))⟩,
    ⟨(some 27), none, .nilCheck (.tmp 23)⟩,
    ⟨none, none, .store 1 (.tmp 27) (.tmp 26)⟩]

def f66r3 : List AInstr := [
    ⟨(some 28), none, .mov (.tmp 2)⟩,
    ⟨(some 29), none, .mov (.tmp 1)⟩,
    ⟨(some 10), none, .mov (.tmp 28)⟩,
    ⟨(some 11), none, .mov (.tmp 29)⟩]

def f66r4 : List AInstr := [
    ⟨(some 30), none, .mov (.tmp 1)⟩,
    ⟨(some 31), none, .mov (.tmp 2)⟩,
    ⟨(some 10), none, .mov (.tmp 30)⟩,
    ⟨(some 11), none, .mov (.tmp 31)⟩]

def f66b : ACode := (.seq (.ops f66r0)
  (.keep [0, 1, 2, 3, 4] (.seq (.seq (.draw f66r1 [(0, 0, false), (0, 0, false), (0, 0, false), (0, 0, false), (0, 0, false), (0, 0, false), (0, 0, false), (0, 0, false), (0, 0, false), (0, 0, true), (1, 1, false)])
  (.keep [1, 2, 3, 22] (.cond (.tmp 22) (.keep [1, 2, 3] (.seq (.ops f66r2)
  (.keep [1, 2] (.seq (.ops f66r3)
  (.keep [10, 11] .ret))))) .skip)))
  (.keep [1, 2] (.seq (.ops f66r4)
  (.keep [10, 11] .ret))))))

def f66 : AFn := ⟨32, [.tmp 10, .tmp 11], f66b⟩

theorem f66_ok : compFn Try.prog 66 = some f66.strip := by kernel_rfl

/- function 67: slices.order2Ordered[int]; parameters 4; operations that are not compiled: 0 -/
def f67r0 : List AInstr := [
    ⟨(some 8), none, .mov (.const (.int .i64 0))⟩,
    ⟨(some 9), none, .mov (.const (.int .i64 0))⟩]

def f67r1 : List AInstr := [
    ⟨(some 10), none, .mov (.tmp 0)⟩,
    ⟨(some 11), none, .mov (.tmp 2)⟩,
    ⟨(some 12), none, .indexAddr 1 (.tmp 10) (.tmp 11)⟩,
    ⟨(some 13), none, .load none (.tmp 12)⟩,
    ⟨(some 14), none, .mov (.tmp 0)⟩,
    ⟨(some 15), none, .mov (.tmp 1)⟩,
    ⟨(some 16), none, .indexAddr 1 (.tmp 14) (.tmp 15)⟩,
    ⟨(some 17), none, .load none (.tmp 16)⟩,
    ⟨(some 18), none, .callF 52 [.tmp 13, .tmp 17]⟩]

def f67r2 : List AInstr := [
    ⟨(some 19), none, .mov (.tmp 3)⟩,
    ⟨(some 20), none, .nilCheck (.tmp 19)⟩,
    ⟨(some 21), none, .load none (.tmp 20)⟩,
    ⟨(some 22), none, .ibin .add (.tmp 21) (.const (.int .i64 1))⟩,
    ⟨(some 23), none, .nilCheck (.tmp 19)⟩,
    ⟨none, none, .store 1 (.tmp 23) (.tmp 22)⟩]

def f67r3 : List AInstr := [
    ⟨(some 24), none, .mov (.tmp 2)⟩,
    ⟨(some 25), none, .mov (.tmp 1)⟩,
    ⟨(some 8), none, .mov (.tmp 24)⟩,
    ⟨(some 9), none, .mov (.tmp 25)⟩]

def f67r4 : List AInstr := [
    ⟨(some 26), none, .mov (.tmp 1)⟩,
    ⟨(some 27), none, .mov (.tmp 2)⟩,
    ⟨(some 8), none, .mov (.tmp 26)⟩,
    ⟨(some 9), none, .mov (.tmp 27)⟩]

def f67b : ACode := (.seq (.ops f67r0)
  (.keep [0, 1, 2, 3] (.seq (.seq (.draw f67r1 [(0, 0, false), (0, 0, false), (0, 0, false), (0, 0, false), (0, 0, false), (0, 0, false), (0, 0, false), (0, 0, false), (0, 0, true)])
  (.keep [1, 2, 3, 18] (.cond (.tmp 18) (.keep [1, 2, 3] (.seq (.ops f67r2)
  (.keep [1, 2] (.seq (.ops f67r3)
  (.keep [8, 9] .ret))))) .skip)))
  (.keep [1, 2] (.seq (.ops f67r4)
  (.keep [8, 9] .ret))))))

def f67 : AFn := ⟨28, [.tmp 8, .tmp 9], f67b⟩

theorem f67_ok : compFn Try.prog 67 = some f67.strip := by kernel_rfl

end Go.Proofs.Ytabcjhpgamhpoaa
