/-
  The functions of this seat as abstract code. Printed by a program of this claim's writer.
-/
import Derived.Test.YtlnocgfblheehaaChecked
import Derived.Test.YtlnocgfblheehaaAmS
import Derived.KernelRfl
namespace Go.Proofs.Ytlnocgfblheehaa
open Go Go.Am

/- function 3: weirhouse/weirhousekeep.TreePath; parameters 2; operations that are not compiled: 0 -/
def f3r0 : List AInstr := [
    ⟨(some 4), none, .mov (.const (.bool false))⟩]

def f3r1 : List AInstr := [
    ⟨(some 8), none, .callF 7 []⟩,
    ⟨(some 9), none, .un .not (.tmp 8)⟩]

def f3r2 : List AInstr := [
    ⟨(some 4), none, .mov (.const (.bool false))⟩]

def f3r3 : List AInstr := [
    ⟨(some 11), none, .mov (.tmp 0)⟩,
    ⟨(some 12), none, .mov (.tmp 1)⟩,
    ⟨(some 13), none, .callF 8 [.tmp 11, .tmp 12]⟩,
    ⟨(some 10), none, .mov (.tmp 13)⟩,
    ⟨(some 14), none, .extract 0 (.tmp 10)⟩,
    ⟨(some 15), none, .extract 1 (.tmp 10)⟩,
    ⟨(some 5), none, .mov (.tmp 14)⟩,
    ⟨(some 6), none, .mov (.tmp 15)⟩]

def f3r4 : List AInstr := [
    ⟨(some 16), none, .mov (.tmp 6)⟩,
    ⟨(some 17), none, .ibin .neq (.tmp 16) (.const (.int .i64 0))⟩]

def f3r5 : List AInstr := [
    ⟨(some 18), none, .mov (.tmp 5)⟩,
    ⟨(some 19), none, .len (.tmp 18)⟩,
    ⟨(some 20), none, .ibin .eql (.tmp 19) (.const (.int .i64 0))⟩,
    ⟨(some 4), none, .mov (.tmp 20)⟩]

def f3r6 : List AInstr := [
    ⟨(some 7), none, .mov (.const (.int .i64 1))⟩]

def f3r7 : List AInstr := [
    ⟨(some 21), none, .mov (.tmp 7)⟩,
    ⟨(some 22), none, .mov (.tmp 5)⟩,
    ⟨(some 23), none, .len (.tmp 22)⟩,
    ⟨(some 24), none, .ibin .lss (.tmp 21) (.tmp 23)⟩]

def f3r8 : List AInstr := [
    ⟨(some 27), none, .mov (.tmp 5)⟩,
    ⟨(some 28), none, .mov (.tmp 7)⟩,
    ⟨(some 29), none, .indexAddr 1 (.tmp 27) (.tmp 28)⟩,
    ⟨(some 30), none, .load none (.tmp 29)⟩,
    ⟨(some 31), none, .ibin .lss (.tmp 30) (.const (.int .i64 0))⟩,
    ⟨(some 32), none, .mov (.tmp 31)⟩,
    ⟨(some 33), (some (32, false)), .mov (.tmp 5)⟩,
    ⟨(some 34), (some (32, false)), .mov (.tmp 7)⟩,
    ⟨(some 35), (some (32, false)), .indexAddr 1 (.tmp 33) (.tmp 34)⟩,
    ⟨(some 36), (some (32, false)), .load none (.tmp 35)⟩,
    ⟨(some 37), (some (32, false)), .mov (.tmp 0)⟩,
    ⟨(some 38), (some (32, false)), .len (.tmp 37)⟩,
    ⟨(some 39), (some (32, false)), .ibin .geq (.tmp 36) (.tmp 38)⟩,
    ⟨(some 40), none, .pick (.tmp 32) (.const (.bool true)) (.tmp 39)⟩,
    ⟨(some 41), none, .mov (.tmp 40)⟩,
    ⟨(some 42), (some (41, false)), .mov (.tmp 0)⟩,
    ⟨(some 43), (some (41, false)), .mov (.tmp 5)⟩,
    ⟨(some 44), (some (41, false)), .mov (.tmp 7)⟩,
    ⟨(some 45), (some (41, false)), .indexAddr 1 (.tmp 43) (.tmp 44)⟩,
    ⟨(some 46), (some (41, false)), .load none (.tmp 45)⟩,
    ⟨(some 47), (some (41, false)), .indexAddr 2 (.tmp 42) (.tmp 46)⟩,
    ⟨(some 48), (some (41, false)), .fieldAddr 0 (.tmp 47)⟩,
    ⟨(some 49), (some (41, false)), .load none (.tmp 48)⟩,
    ⟨(some 50), (some (41, false)), .mov (.tmp 5)⟩,
    ⟨(some 51), (some (41, false)), .mov (.tmp 7)⟩,
    ⟨(some 52), (some (41, false)), .ibin .sub (.tmp 51) (.const (.int .i64 1))⟩,
    ⟨(some 53), (some (41, false)), .indexAddr 1 (.tmp 50) (.tmp 52)⟩,
    ⟨(some 54), (some (41, false)), .load none (.tmp 53)⟩,
    ⟨(some 55), (some (41, false)), .ibin .neq (.tmp 49) (.tmp 54)⟩,
    ⟨(some 56), none, .pick (.tmp 41) (.const (.bool true)) (.tmp 55)⟩,
    ⟨(some 57), none, .mov (.tmp 56)⟩,
    ⟨(some 58), (some (57, false)), .mov (.tmp 5)⟩,
    ⟨(some 59), (some (57, false)), .mov (.tmp 7)⟩,
    ⟨(some 60), (some (57, false)), .indexAddr 1 (.tmp 58) (.tmp 59)⟩,
    ⟨(some 61), (some (57, false)), .load none (.tmp 60)⟩,
    ⟨(some 62), (some (57, false)), .mov (.tmp 5)⟩,
    ⟨(some 63), (some (57, false)), .mov (.tmp 7)⟩,
    ⟨(some 64), (some (57, false)), .ibin .sub (.tmp 63) (.const (.int .i64 1))⟩,
    ⟨(some 65), (some (57, false)), .indexAddr 1 (.tmp 62) (.tmp 64)⟩,
    ⟨(some 66), (some (57, false)), .load none (.tmp 65)⟩,
    ⟨(some 67), (some (57, false)), .ibin .leq (.tmp 61) (.tmp 66)⟩,
    ⟨(some 68), none, .pick (.tmp 57) (.const (.bool true)) (.tmp 67)⟩]

def f3r9 : List AInstr := [
    ⟨(some 4), none, .mov (.const (.bool false))⟩]

def f3r10 : List AInstr := [
    ⟨(some 25), none, .mov (.tmp 7)⟩,
    ⟨(some 26), none, .ibin .add (.tmp 25) (.const (.int .i64 1))⟩,
    ⟨(some 7), none, .mov (.tmp 26)⟩]

/-- live: [0, 1, 5, 7] -/
def f3l0 : ACode := (.seq (.seq (.ops f3r7)
  (.keep [0, 1, 5, 7, 24] (.cond (.tmp 24) .skip (.exit 0))))
  (.keep [0, 1, 5, 7] (.seq (.block 1 (.seq (.draw f3r8 [(0, 0, false), (0, 0, false), (0, 0, false), (0, 0, false), (0, 0, false), (0, 0, false), (0, 0, false), (0, 0, false), (0, 0, false), (0, 0, false), (0, 0, false), (0, 0, false), (0, 0, false), (0, 0, false), (0, 0, false), (0, 0, false), (0, 0, false), (0, 0, false), (0, 0, false), (0, 0, false), (0, 0, false), (0, 0, false), (0, 0, false), (0, 0, false), (0, 0, false), (0, 0, false), (0, 0, false), (0, 0, false), (0, 0, false), (0, 0, false), (0, 0, false), (0, 0, false), (0, 0, false), (0, 0, false), (0, 0, false), (0, 0, false), (0, 0, false), (0, 0, false), (0, 0, false), (0, 0, false), (0, 0, false), (0, 0, false)])
  (.keep [0, 1, 5, 7, 68] (.cond (.tmp 68) (.keep [] (.seq (.ops f3r9)
  (.keep [4] .ret))) .skip))))
  (.keep [0, 1, 5, 7] (.ops f3r10)))))

def f3r12 : List AInstr := [
    ⟨(some 69), none, .mov (.tmp 5)⟩,
    ⟨(some 70), none, .len (.tmp 69)⟩,
    ⟨(some 71), none, .ibin .gtr (.tmp 70) (.const (.int .i64 0))⟩,
    ⟨(some 72), none, .mov (.tmp 71)⟩,
    ⟨(some 73), (some (72, true)), .mov (.tmp 5)⟩,
    ⟨(some 74), (some (72, true)), .indexAddr 1 (.tmp 73) (.const (.int .i64 0))⟩,
    ⟨(some 75), (some (72, true)), .load none (.tmp 74)⟩,
    ⟨(some 76), (some (72, true)), .ibin .eql (.tmp 75) (.const (.int .i64 0))⟩,
    ⟨(some 77), none, .pick (.tmp 72) (.tmp 76) (.const (.bool false))⟩,
    ⟨(some 78), none, .mov (.tmp 77)⟩,
    ⟨(some 79), (some (78, true)), .mov (.tmp 5)⟩,
    ⟨(some 80), (some (78, true)), .mov (.tmp 5)⟩,
    ⟨(some 81), (some (78, true)), .len (.tmp 80)⟩,
    ⟨(some 82), (some (78, true)), .ibin .sub (.tmp 81) (.const (.int .i64 1))⟩,
    ⟨(some 83), (some (78, true)), .indexAddr 1 (.tmp 79) (.tmp 82)⟩,
    ⟨(some 84), (some (78, true)), .load none (.tmp 83)⟩,
    ⟨(some 85), (some (78, true)), .mov (.tmp 1)⟩,
    ⟨(some 86), (some (78, true)), .ibin .eql (.tmp 84) (.tmp 85)⟩,
    ⟨(some 87), none, .pick (.tmp 78) (.tmp 86) (.const (.bool false))⟩,
    ⟨(some 4), none, .mov (.tmp 87)⟩]

def f3b : ACode := (.seq (.ops f3r0)
  (.keep [0, 1] (.seq (.seq (.ops f3r1)
  (.keep [0, 1, 9] (.cond (.tmp 9) (.keep [] (.seq (.ops f3r2)
  (.keep [4] .ret))) .skip)))
  (.keep [0, 1] (.seq (.ops f3r3)
  (.keep [0, 1, 5, 6] (.seq (.seq (.ops f3r4)
  (.keep [0, 1, 5, 17] (.cond (.tmp 17) (.keep [5] (.seq (.ops f3r5)
  (.keep [4] .ret))) .skip)))
  (.keep [0, 1, 5] (.seq (.seq (.ops f3r6)
  (.keep [0, 1, 5, 7] (.block 0 (.loop f3l0))))
  (.keep [1, 5] (.seq (.ops f3r12)
  (.keep [4] .ret))))))))))))

def f3 : AFn := ⟨88, [.tmp 4], f3b⟩

theorem f3_ok : compFn Try.prog 3 = some f3.strip := by kernel_rfl

/- function 4: weirhouse/weirhousekeep.TreeMeet; parameters 4; operations that are not compiled: 0 -/
def f4r0 : List AInstr := [
    ⟨(some 8), none, .mov (.const (.bool false))⟩]

def f4r1 : List AInstr := [
    ⟨(some 22), none, .callF 7 []⟩,
    ⟨(some 23), none, .un .not (.tmp 22)⟩]

def f4r2 : List AInstr := [
    ⟨(some 8), none, .mov (.const (.bool false))⟩]

def f4r3 : List AInstr := [
    ⟨(some 25), none, .mov (.tmp 0)⟩,
    ⟨(some 26), none, .mov (.tmp 1)⟩,
    ⟨(some 27), none, .mov (.tmp 2)⟩,
    ⟨(some 28), none, .callF 9 [.tmp 25, .tmp 26, .tmp 27]⟩,
    ⟨(some 24), none, .mov (.tmp 28)⟩,
    ⟨(some 29), none, .extract 0 (.tmp 24)⟩,
    ⟨(some 30), none, .extract 1 (.tmp 24)⟩,
    ⟨(some 9), none, .mov (.tmp 29)⟩,
    ⟨(some 10), none, .mov (.tmp 30)⟩]

def f4r4 : List AInstr := [
    ⟨(some 32), none, .mov (.tmp 0)⟩,
    ⟨(some 33), none, .mov (.tmp 2)⟩,
    ⟨(some 34), none, .mov (.tmp 1)⟩,
    ⟨(some 35), none, .callF 9 [.tmp 32, .tmp 33, .tmp 34]⟩,
    ⟨(some 31), none, .mov (.tmp 35)⟩,
    ⟨(some 36), none, .extract 0 (.tmp 31)⟩,
    ⟨(some 37), none, .extract 1 (.tmp 31)⟩,
    ⟨(some 11), none, .mov (.tmp 36)⟩,
    ⟨(some 12), none, .mov (.tmp 37)⟩]

def f4r5 : List AInstr := [
    ⟨(some 38), none, .mov (.tmp 10)⟩,
    ⟨(some 39), none, .ibin .neq (.tmp 38) (.const (.int .i64 0))⟩,
    ⟨(some 40), none, .mov (.tmp 39)⟩,
    ⟨(some 41), (some (40, false)), .mov (.tmp 12)⟩,
    ⟨(some 42), (some (40, false)), .ibin .neq (.tmp 41) (.const (.int .i64 0))⟩,
    ⟨(some 43), none, .pick (.tmp 40) (.const (.bool true)) (.tmp 42)⟩]

def f4r6 : List AInstr := [
    ⟨(some 44), none, .mov (.tmp 10)⟩,
    ⟨(some 45), none, .ibin .neq (.tmp 44) (.const (.int .i64 0))⟩,
    ⟨(some 46), none, .mov (.tmp 45)⟩,
    ⟨(some 47), (some (46, true)), .mov (.tmp 12)⟩,
    ⟨(some 48), (some (46, true)), .ibin .neq (.tmp 47) (.const (.int .i64 0))⟩,
    ⟨(some 49), none, .pick (.tmp 46) (.tmp 48) (.const (.bool false))⟩,
    ⟨(some 8), none, .mov (.tmp 49)⟩]

def f4r7 : List AInstr := [
    ⟨(some 51), none, .mov (.tmp 0)⟩,
    ⟨(some 52), none, .mov (.tmp 1)⟩,
    ⟨(some 53), none, .callF 8 [.tmp 51, .tmp 52]⟩,
    ⟨(some 50), none, .mov (.tmp 53)⟩,
    ⟨(some 54), none, .extract 0 (.tmp 50)⟩,
    ⟨(some 55), none, .extract 1 (.tmp 50)⟩,
    ⟨(some 13), none, .mov (.tmp 54)⟩,
    ⟨(some 14), none, .mov (.tmp 55)⟩]

def f4r8 : List AInstr := [
    ⟨(some 57), none, .mov (.tmp 0)⟩,
    ⟨(some 58), none, .mov (.tmp 2)⟩,
    ⟨(some 59), none, .callF 8 [.tmp 57, .tmp 58]⟩,
    ⟨(some 56), none, .mov (.tmp 59)⟩,
    ⟨(some 60), none, .extract 0 (.tmp 56)⟩,
    ⟨(some 61), none, .extract 1 (.tmp 56)⟩,
    ⟨(some 15), none, .mov (.tmp 60)⟩,
    ⟨(some 16), none, .mov (.tmp 61)⟩]

def f4r9 : List AInstr := [
    ⟨(some 63), none, .mov (.tmp 0)⟩,
    ⟨(some 64), none, .mov (.tmp 3)⟩,
    ⟨(some 65), none, .callF 8 [.tmp 63, .tmp 64]⟩,
    ⟨(some 62), none, .mov (.tmp 65)⟩,
    ⟨(some 66), none, .extract 0 (.tmp 62)⟩,
    ⟨(some 67), none, .extract 1 (.tmp 62)⟩,
    ⟨(some 17), none, .mov (.tmp 66)⟩,
    ⟨(some 18), none, .mov (.tmp 67)⟩]

def f4r10 : List AInstr := [
    ⟨(some 69), none, .mov (.tmp 0)⟩,
    ⟨(some 70), none, .mov (.tmp 1)⟩,
    ⟨(some 71), none, .mov (.tmp 1)⟩,
    ⟨(some 72), none, .callF 9 [.tmp 69, .tmp 70, .tmp 71]⟩,
    ⟨(some 68), none, .mov (.tmp 72)⟩,
    ⟨(some 73), none, .extract 0 (.tmp 68)⟩,
    ⟨(some 74), none, .extract 1 (.tmp 68)⟩,
    ⟨(some 19), none, .mov (.tmp 73)⟩,
    ⟨(some 20), none, .mov (.tmp 74)⟩]

def f4r11 : List AInstr := [
    ⟨(some 75), none, .mov (.tmp 18)⟩,
    ⟨(some 76), none, .ibin .neq (.tmp 75) (.const (.int .i64 0))⟩,
    ⟨(some 77), none, .mov (.tmp 76)⟩,
    ⟨(some 78), (some (77, false)), .mov (.tmp 13)⟩,
    ⟨(some 79), (some (77, false)), .mov (.tmp 3)⟩,
    ⟨(some 80), (some (77, false)), .callF 10 [.tmp 78, .tmp 79]⟩,
    ⟨(some 81), (some (77, false)), .un .not (.tmp 80)⟩,
    ⟨(some 82), none, .pick (.tmp 77) (.const (.bool true)) (.tmp 81)⟩,
    ⟨(some 83), none, .mov (.tmp 82)⟩,
    ⟨(some 84), (some (83, false)), .mov (.tmp 15)⟩,
    ⟨(some 85), (some (83, false)), .mov (.tmp 3)⟩,
    ⟨(some 86), (some (83, false)), .callF 10 [.tmp 84, .tmp 85]⟩,
    ⟨(some 87), (some (83, false)), .un .not (.tmp 86)⟩,
    ⟨(some 88), none, .pick (.tmp 83) (.const (.bool true)) (.tmp 87)⟩,
    ⟨(some 89), none, .mov (.tmp 88)⟩,
    ⟨(some 90), (some (89, false)), .mov (.tmp 3)⟩,
    ⟨(some 91), (some (89, false)), .mov (.tmp 9)⟩,
    ⟨(some 92), (some (89, false)), .ibin .leq (.tmp 90) (.tmp 91)⟩,
    ⟨(some 93), (some (89, false)), .mov (.tmp 92)⟩,
    ⟨(some 94), (some (93, true)), .mov (.tmp 17)⟩,
    ⟨(some 95), (some (93, true)), .len (.tmp 94)⟩,
    ⟨(some 96), (some (93, true)), .ibin .gtr (.tmp 95) (.const (.int .i64 0))⟩,
    ⟨(some 97), (some (89, false)), .pick (.tmp 93) (.tmp 96) (.const (.bool false))⟩,
    ⟨(some 98), none, .pick (.tmp 89) (.const (.bool true)) (.tmp 97)⟩,
    ⟨(some 21), none, .mov (.tmp 98)⟩]

def f4r12 : List AInstr := [
    ⟨(some 99), none, .mov (.tmp 9)⟩,
    ⟨(some 100), none, .mov (.tmp 11)⟩,
    ⟨(some 101), none, .ibin .eql (.tmp 99) (.tmp 100)⟩,
    ⟨(some 102), none, .mov (.tmp 101)⟩,
    ⟨(some 103), (some (102, true)), .mov (.tmp 13)⟩,
    ⟨(some 104), (some (102, true)), .mov (.tmp 9)⟩,
    ⟨(some 105), (some (102, true)), .callF 10 [.tmp 103, .tmp 104]⟩,
    ⟨(some 106), none, .pick (.tmp 102) (.tmp 105) (.const (.bool false))⟩,
    ⟨(some 107), none, .mov (.tmp 106)⟩,
    ⟨(some 108), (some (107, true)), .mov (.tmp 15)⟩,
    ⟨(some 109), (some (107, true)), .mov (.tmp 9)⟩,
    ⟨(some 110), (some (107, true)), .callF 10 [.tmp 108, .tmp 109]⟩,
    ⟨(some 111), none, .pick (.tmp 107) (.tmp 110) (.const (.bool false))⟩,
    ⟨(some 112), none, .mov (.tmp 111)⟩,
    ⟨(some 113), (some (112, true)), .mov (.tmp 20)⟩,
    ⟨(some 114), (some (112, true)), .ibin .eql (.tmp 113) (.const (.int .i64 0))⟩,
    ⟨(some 115), none, .pick (.tmp 112) (.tmp 114) (.const (.bool false))⟩,
    ⟨(some 116), none, .mov (.tmp 115)⟩,
    ⟨(some 117), (some (116, true)), .mov (.tmp 19)⟩,
    ⟨(some 118), (some (116, true)), .mov (.tmp 1)⟩,
    ⟨(some 119), (some (116, true)), .ibin .eql (.tmp 117) (.tmp 118)⟩,
    ⟨(some 120), none, .pick (.tmp 116) (.tmp 119) (.const (.bool false))⟩,
    ⟨(some 121), none, .mov (.tmp 120)⟩,
    ⟨(some 122), (some (121, true)), .mov (.tmp 21)⟩,
    ⟨(some 123), none, .pick (.tmp 121) (.tmp 122) (.const (.bool false))⟩,
    ⟨(some 8), none, .mov (.tmp 123)⟩]

def f4b : ACode := (.seq (.ops f4r0)
  (.keep [0, 1, 2, 3] (.seq (.seq (.ops f4r1)
  (.keep [0, 1, 2, 3, 23] (.cond (.tmp 23) (.keep [] (.seq (.ops f4r2)
  (.keep [8] .ret))) .skip)))
  (.keep [0, 1, 2, 3] (.seq (.ops f4r3)
  (.keep [0, 1, 2, 3, 9, 10] (.seq (.ops f4r4)
  (.keep [0, 1, 2, 3, 9, 10, 11, 12] (.seq (.seq (.ops f4r5)
  (.keep [0, 1, 2, 3, 9, 10, 11, 12, 43] (.cond (.tmp 43) (.keep [10, 12] (.seq (.ops f4r6)
  (.keep [8] .ret))) .skip)))
  (.keep [0, 1, 2, 3, 9, 11] (.seq (.ops f4r7)
  (.keep [0, 1, 2, 3, 9, 11, 13] (.seq (.ops f4r8)
  (.keep [0, 1, 3, 9, 11, 13, 15] (.seq (.ops f4r9)
  (.keep [0, 1, 3, 9, 11, 13, 15, 17, 18] (.seq (.ops f4r10)
  (.keep [1, 3, 9, 11, 13, 15, 17, 18, 19, 20] (.seq (.ops f4r11)
  (.keep [1, 9, 11, 13, 15, 19, 20, 21] (.seq (.ops f4r12)
  (.keep [8] .ret))))))))))))))))))))))

def f4 : AFn := ⟨124, [.tmp 8], f4b⟩

theorem f4_ok : compFn Try.prog 4 = some f4.strip := by kernel_rfl

/- function 5: weirhouse/weirhousekeep.TreeOne; parameters 1; operations that are not compiled: 0 -/
def f5r0 : List AInstr := [
    ⟨(some 2), none, .mov (.const (.bool false))⟩]

def f5r1 : List AInstr := [
    ⟨(some 22), none, .callF 7 []⟩,
    ⟨(some 23), none, .un .not (.tmp 22)⟩]

def f5r2 : List AInstr := [
    ⟨(some 2), none, .mov (.const (.bool false))⟩]

def f5r3 : List AInstr := [
    ⟨(some 25), none, .mov (.tmp 0)⟩,
    ⟨(some 26), none, .callF 11 [.tmp 25]⟩,
    ⟨(some 24), none, .mov (.tmp 26)⟩,
    ⟨(some 27), none, .extract 0 (.tmp 24)⟩,
    ⟨(some 28), none, .extract 1 (.tmp 24)⟩,
    ⟨(some 3), none, .mov (.tmp 27)⟩,
    ⟨(some 4), none, .mov (.tmp 28)⟩]

def f5r4 : List AInstr := [
    ⟨(some 29), none, .mov (.tmp 4)⟩,
    ⟨(some 30), none, .ibin .neq (.tmp 29) (.const (.int .i64 0))⟩]

def f5r5 : List AInstr := [
    ⟨(some 31), none, .mov (.tmp 3)⟩,
    ⟨(some 32), none, .len (.tmp 31)⟩,
    ⟨(some 33), none, .ibin .eql (.tmp 32) (.const (.int .i64 0))⟩,
    ⟨(some 2), none, .mov (.tmp 33)⟩]

def f5r6 : List AInstr := [
    ⟨(some 34), none, .build [.int .i64 0, .int .i64 0] [(0, 1, (.const (.int .i64 0))), (1, 1, (.const (.int .i64 1)))]⟩,
    ⟨(some 5), none, .alloc [.int .i64 0, .int .i64 0]⟩,
    ⟨none, none, .store 2 (.tmp 5) (.tmp 34)⟩]

def f5r7 : List AInstr := [
    ⟨(some 35), none, .mov (.tmp 3)⟩,
    ⟨(some 36), none, .len (.tmp 35)⟩,
    ⟨(some 37), none, .mov (.const (.int .i64 0))⟩]

def f5r8 : List AInstr := [
    ⟨(some 38), none, .ibin .lss (.tmp 37) (.tmp 36)⟩]

def f5r9 : List AInstr := [
    ⟨(some 39), none, .indexAddr 1 (.tmp 35) (.tmp 37)⟩,
    ⟨(some 40), none, .load none (.tmp 39)⟩,
    ⟨(some 7), none, .mov (.tmp 40)⟩]

def f5r10 : List AInstr := [
    ⟨(some 42), none, .mov (.tmp 0)⟩,
    ⟨(some 43), none, .mov (.tmp 7)⟩,
    ⟨(some 44), none, .callF 12 [.tmp 42, .tmp 43]⟩,
    ⟨(some 41), none, .mov (.tmp 44)⟩,
    ⟨(some 45), none, .extract 0 (.tmp 41)⟩,
    ⟨(some 46), none, .extract 1 (.tmp 41)⟩,
    ⟨(some 8), none, .alloc [.int .i64 0, .int .i64 0]⟩,
    ⟨none, none, .store 2 (.tmp 8) (.tmp 45)⟩,
    ⟨(some 9), none, .mov (.tmp 46)⟩]

def f5r11 : List AInstr := [
    ⟨(some 47), none, .mov (.tmp 9)⟩,
    ⟨(some 48), none, .ibin .neq (.tmp 47) (.const (.int .i64 0))⟩]

def f5r12 : List AInstr := [
    ⟨(some 49), none, .mov (.tmp 9)⟩,
    ⟨(some 50), none, .ibin .eql (.tmp 49) (.const (.int .i64 4))⟩,
    ⟨(some 2), none, .mov (.tmp 50)⟩]

def f5r13 : List AInstr := [
    ⟨(some 52), none, .load (some 2) (.tmp 5)⟩,
    ⟨(some 53), none, .load (some 2) (.tmp 8)⟩,
    ⟨(some 54), none, .callF 13 [.tmp 52, .tmp 53]⟩,
    ⟨(some 51), none, .mov (.tmp 54)⟩,
    ⟨(some 55), none, .extract 0 (.tmp 51)⟩,
    ⟨(some 56), none, .extract 1 (.tmp 51)⟩,
    ⟨(some 10), none, .alloc [.int .i64 0, .int .i64 0]⟩,
    ⟨none, none, .store 2 (.tmp 10) (.tmp 55)⟩,
    ⟨(some 11), none, .mov (.tmp 56)⟩]

def f5r14 : List AInstr := [
    ⟨(some 57), none, .mov (.tmp 11)⟩,
    ⟨(some 58), none, .ibin .neq (.tmp 57) (.const (.int .i64 0))⟩]

def f5r15 : List AInstr := [
    ⟨(some 2), none, .mov (.const (.bool true))⟩]

def f5r16 : List AInstr := [
    ⟨(some 59), none, .load (some 2) (.tmp 10)⟩,
    ⟨none, none, .store 2 (.tmp 5) (.tmp 59)⟩]

def f5r17 : List AInstr := [
    ⟨(some 60), none, .ibin .add (.tmp 37) (.const (.int .i64 1))⟩,
    ⟨(some 37), none, .mov (.tmp 60)⟩]

/-- live: [0, 3, 5, 35, 36, 37] -/
def f5l0 : ACode := (.seq (.ops f5r8)
  (.keep [0, 3, 5, 35, 36, 37, 38] (.seq (.cond (.tmp 38) .skip (.exit 0))
  (.keep [0, 3, 5, 35, 36, 37] (.seq (.block 1 (.seq (.ops f5r9)
  (.keep [0, 3, 5, 7, 35, 36, 37] (.seq (.ops f5r10)
  (.keep [0, 3, 5, 8, 9, 35, 36, 37] (.seq (.seq (.ops f5r11)
  (.keep [0, 3, 5, 8, 9, 35, 36, 37, 48] (.cond (.tmp 48) (.keep [9] (.seq (.ops f5r12)
  (.keep [2] .ret))) .skip)))
  (.keep [0, 3, 5, 8, 35, 36, 37] (.seq (.ops f5r13)
  (.keep [0, 3, 5, 10, 11, 35, 36, 37] (.seq (.seq (.ops f5r14)
  (.keep [0, 3, 5, 10, 35, 36, 37, 58] (.cond (.tmp 58) (.keep [] (.seq (.ops f5r15)
  (.keep [2] .ret))) .skip)))
  (.keep [0, 3, 5, 10, 35, 36, 37] (.ops f5r16))))))))))))
  (.keep [0, 3, 5, 35, 36, 37] (.ops f5r17)))))))

def f5r19 : List AInstr := [
    ⟨(some 61), none, .mov (.tmp 0)⟩,
    ⟨(some 62), none, .len (.tmp 61)⟩,
    ⟨(some 63), none, .mov (.const (.int .i64 0))⟩]

def f5r20 : List AInstr := [
    ⟨(some 64), none, .ibin .lss (.tmp 63) (.tmp 62)⟩]

def f5r21 : List AInstr := [
    ⟨(some 65), none, .mov (.tmp 63)⟩,
    ⟨(some 12), none, .mov (.tmp 65)⟩]

def f5r22 : List AInstr := [
    ⟨(some 66), none, .mov (.tmp 3)⟩,
    ⟨(some 67), none, .mov (.tmp 12)⟩,
    ⟨(some 68), none, .callF 10 [.tmp 66, .tmp 67]⟩]

def f5r23 : List AInstr := [
    ⟨(some 69), none, .build [.int .i64 0, .int .i64 0] [(0, 1, (.const (.int .i64 0))), (1, 1, (.const (.int .i64 1)))]⟩,
    ⟨(some 13), none, .alloc [.int .i64 0, .int .i64 0]⟩,
    ⟨none, none, .store 2 (.tmp 13) (.tmp 69)⟩]

def f5r24 : List AInstr := [
    ⟨(some 70), none, .mov (.tmp 0)⟩,
    ⟨(some 71), none, .len (.tmp 70)⟩,
    ⟨(some 72), none, .mov (.const (.int .i64 0))⟩]

def f5r25 : List AInstr := [
    ⟨(some 73), none, .ibin .lss (.tmp 72) (.tmp 71)⟩]

def f5r26 : List AInstr := [
    ⟨(some 74), none, .mov (.tmp 72)⟩,
    ⟨(some 75), none, .indexAddr 2 (.tmp 70) (.tmp 72)⟩,
    ⟨(some 76), none, .load (some 2) (.tmp 75)⟩,
    ⟨(some 15), none, .alloc [.int .i64 0, .int .i64 0]⟩,
    ⟨(some 14), none, .mov (.tmp 74)⟩,
    ⟨none, none, .store 2 (.tmp 15) (.tmp 76)⟩]

def f5r27 : List AInstr := [
    ⟨(some 77), none, .fieldAddr 0 (.tmp 15)⟩,
    ⟨(some 78), none, .load none (.tmp 77)⟩,
    ⟨(some 79), none, .mov (.tmp 12)⟩,
    ⟨(some 80), none, .ibin .neq (.tmp 78) (.tmp 79)⟩]

def f5r28 : List AInstr := [
    ⟨(some 82), none, .mov (.tmp 0)⟩,
    ⟨(some 83), none, .mov (.tmp 14)⟩,
    ⟨(some 84), none, .callF 12 [.tmp 82, .tmp 83]⟩,
    ⟨(some 81), none, .mov (.tmp 84)⟩,
    ⟨(some 85), none, .extract 0 (.tmp 81)⟩,
    ⟨(some 86), none, .extract 1 (.tmp 81)⟩,
    ⟨(some 16), none, .alloc [.int .i64 0, .int .i64 0]⟩,
    ⟨none, none, .store 2 (.tmp 16) (.tmp 85)⟩,
    ⟨(some 17), none, .mov (.tmp 86)⟩]

def f5r29 : List AInstr := [
    ⟨(some 88), none, .load (some 2) (.tmp 13)⟩,
    ⟨(some 89), none, .load (some 2) (.tmp 16)⟩,
    ⟨(some 90), none, .callF 13 [.tmp 88, .tmp 89]⟩,
    ⟨(some 87), none, .mov (.tmp 90)⟩,
    ⟨(some 91), none, .extract 0 (.tmp 87)⟩,
    ⟨(some 92), none, .extract 1 (.tmp 87)⟩,
    ⟨(some 18), none, .alloc [.int .i64 0, .int .i64 0]⟩,
    ⟨none, none, .store 2 (.tmp 18) (.tmp 91)⟩,
    ⟨(some 19), none, .mov (.tmp 92)⟩]

def f5r30 : List AInstr := [
    ⟨(some 93), none, .mov (.tmp 17)⟩,
    ⟨(some 94), none, .ibin .neq (.tmp 93) (.const (.int .i64 0))⟩,
    ⟨(some 95), none, .mov (.tmp 94)⟩,
    ⟨(some 96), (some (95, false)), .mov (.tmp 19)⟩,
    ⟨(some 97), (some (95, false)), .ibin .neq (.tmp 96) (.const (.int .i64 0))⟩,
    ⟨(some 98), none, .pick (.tmp 95) (.const (.bool true)) (.tmp 97)⟩]

def f5r31 : List AInstr := [
    ⟨(some 99), none, .mov (.tmp 17)⟩,
    ⟨(some 100), none, .ibin .eql (.tmp 99) (.const (.int .i64 0))⟩,
    ⟨(some 101), none, .mov (.tmp 100)⟩,
    ⟨(some 102), (some (101, false)), .mov (.tmp 17)⟩,
    ⟨(some 103), (some (101, false)), .ibin .eql (.tmp 102) (.const (.int .i64 4))⟩,
    ⟨(some 104), none, .pick (.tmp 101) (.const (.bool true)) (.tmp 103)⟩,
    ⟨(some 2), none, .mov (.tmp 104)⟩]

def f5r32 : List AInstr := [
    ⟨(some 105), none, .load (some 2) (.tmp 18)⟩,
    ⟨none, none, .store 2 (.tmp 13) (.tmp 105)⟩]

def f5r33 : List AInstr := [
    ⟨(some 106), none, .ibin .add (.tmp 72) (.const (.int .i64 1))⟩,
    ⟨(some 72), none, .mov (.tmp 106)⟩]

/-- live: [0, 3, 5, 12, 13, 62, 63, 70, 71, 72] -/
def f5l1 : ACode := (.seq (.ops f5r25)
  (.keep [0, 3, 5, 12, 13, 62, 63, 70, 71, 72, 73] (.seq (.cond (.tmp 73) .skip (.exit 4))
  (.keep [0, 3, 5, 12, 13, 62, 63, 70, 71, 72] (.seq (.block 5 (.seq (.ops f5r26)
  (.keep [0, 3, 5, 12, 13, 14, 15, 62, 63, 70, 71, 72] (.seq (.seq (.ops f5r27)
  (.keep [0, 3, 5, 12, 13, 14, 62, 63, 70, 71, 72, 80] (.cond (.tmp 80) (.exit 5) .skip)))
  (.keep [0, 3, 5, 12, 13, 14, 62, 63, 70, 71, 72] (.seq (.ops f5r28)
  (.keep [0, 3, 5, 12, 13, 16, 17, 62, 63, 70, 71, 72] (.seq (.ops f5r29)
  (.keep [0, 3, 5, 12, 13, 17, 18, 19, 62, 63, 70, 71, 72] (.seq (.seq (.ops f5r30)
  (.keep [0, 3, 5, 12, 13, 17, 18, 62, 63, 70, 71, 72, 98] (.cond (.tmp 98) (.keep [17] (.seq (.ops f5r31)
  (.keep [2] .ret))) .skip)))
  (.keep [0, 3, 5, 12, 13, 18, 62, 63, 70, 71, 72] (.ops f5r32))))))))))))
  (.keep [0, 3, 5, 12, 13, 62, 63, 70, 71, 72] (.ops f5r33)))))))

def f5r35 : List AInstr := [
    ⟨(some 108), none, .mov (.tmp 0)⟩,
    ⟨(some 109), none, .mov (.tmp 12)⟩,
    ⟨(some 110), none, .callF 12 [.tmp 108, .tmp 109]⟩,
    ⟨(some 107), none, .mov (.tmp 110)⟩,
    ⟨(some 111), none, .extract 0 (.tmp 107)⟩,
    ⟨(some 112), none, .extract 1 (.tmp 107)⟩,
    ⟨(some 20), none, .alloc [.int .i64 0, .int .i64 0]⟩,
    ⟨none, none, .store 2 (.tmp 20) (.tmp 111)⟩,
    ⟨(some 21), none, .mov (.tmp 112)⟩]

def f5r36 : List AInstr := [
    ⟨(some 113), none, .mov (.tmp 21)⟩,
    ⟨(some 114), none, .ibin .neq (.tmp 113) (.const (.int .i64 0))⟩,
    ⟨(some 115), none, .mov (.tmp 114)⟩,
    ⟨(some 116), (some (115, false)), .load (some 2) (.tmp 20)⟩,
    ⟨(some 117), (some (115, false)), .load (some 2) (.tmp 13)⟩,
    ⟨(some 118), (some (115, false)), .eqA true [false, false] (.tmp 116) (.tmp 117)⟩,
    ⟨(some 119), none, .pick (.tmp 115) (.const (.bool true)) (.tmp 118)⟩]

def f5r37 : List AInstr := [
    ⟨(some 2), none, .mov (.const (.bool false))⟩]

def f5r38 : List AInstr := [
    ⟨(some 120), none, .ibin .add (.tmp 63) (.const (.int .i64 1))⟩,
    ⟨(some 63), none, .mov (.tmp 120)⟩]

/-- live: [0, 3, 5, 62, 63] -/
def f5l2 : ACode := (.seq (.ops f5r20)
  (.keep [0, 3, 5, 62, 63, 64] (.seq (.cond (.tmp 64) .skip (.exit 2))
  (.keep [0, 3, 5, 62, 63] (.seq (.block 3 (.seq (.ops f5r21)
  (.keep [0, 3, 5, 12, 62, 63] (.seq (.seq (.ops f5r22)
  (.keep [0, 3, 5, 12, 62, 63, 68] (.cond (.tmp 68) (.exit 3) .skip)))
  (.keep [0, 3, 5, 12, 62, 63] (.seq (.ops f5r23)
  (.keep [0, 3, 5, 12, 13, 62, 63] (.seq (.seq (.ops f5r24)
  (.keep [0, 3, 5, 12, 13, 62, 63, 70, 71, 72] (.block 4 (.loop f5l1))))
  (.keep [0, 3, 5, 12, 13, 62, 63] (.seq (.ops f5r35)
  (.keep [0, 3, 5, 13, 20, 21, 62, 63] (.seq (.ops f5r36)
  (.keep [0, 3, 5, 62, 63, 119] (.cond (.tmp 119) (.keep [] (.seq (.ops f5r37)
  (.keep [2] .ret))) .skip))))))))))))))
  (.keep [0, 3, 5, 62, 63] (.ops f5r38)))))))

def f5r40 : List AInstr := [
    ⟨(some 121), none, .load (some 2) (.tmp 5)⟩,
    ⟨(some 122), none, .build [.int .i64 0, .int .i64 0] [(0, 1, (.const (.int .i64 1))), (1, 1, (.const (.int .i64 1)))]⟩,
    ⟨(some 123), none, .eqA false [false, false] (.tmp 121) (.tmp 122)⟩,
    ⟨(some 2), none, .mov (.tmp 123)⟩]

def f5b : ACode := (.seq (.ops f5r0)
  (.keep [0] (.seq (.seq (.ops f5r1)
  (.keep [0, 23] (.cond (.tmp 23) (.keep [] (.seq (.ops f5r2)
  (.keep [2] .ret))) .skip)))
  (.keep [0] (.seq (.ops f5r3)
  (.keep [0, 3, 4] (.seq (.seq (.ops f5r4)
  (.keep [0, 3, 30] (.cond (.tmp 30) (.keep [3] (.seq (.ops f5r5)
  (.keep [2] .ret))) .skip)))
  (.keep [0, 3] (.seq (.ops f5r6)
  (.keep [0, 3, 5] (.seq (.seq (.ops f5r7)
  (.keep [0, 3, 5, 35, 36, 37] (.block 0 (.loop f5l0))))
  (.keep [0, 3, 5] (.seq (.seq (.ops f5r19)
  (.keep [0, 3, 5, 62, 63] (.block 2 (.loop f5l2))))
  (.keep [5] (.seq (.ops f5r40)
  (.keep [2] .ret))))))))))))))))

def f5 : AFn := ⟨124, [.tmp 2], f5b⟩

theorem f5_ok : compFn Try.prog 5 = some f5.strip := by kernel_rfl

/- function 6: weirhouse/weirhousekeep.TreeMore; parameters 3; operations that are not compiled: 0 -/
def f6r0 : List AInstr := [
    ⟨(some 6), none, .mov (.const (.bool false))⟩]

def f6r1 : List AInstr := [
    ⟨(some 15), none, .callF 7 []⟩,
    ⟨(some 16), none, .un .not (.tmp 15)⟩]

def f6r2 : List AInstr := [
    ⟨(some 6), none, .mov (.const (.bool false))⟩]

def f6r3 : List AInstr := [
    ⟨(some 17), none, .mov (.tmp 0)⟩,
    ⟨(some 18), none, .callF 14 [.tmp 17]⟩,
    ⟨(some 19), none, .ibin .neq (.tmp 18) (.const (.int .i64 0))⟩,
    ⟨(some 20), none, .mov (.tmp 19)⟩,
    ⟨(some 21), (some (20, false)), .mov (.tmp 1)⟩,
    ⟨(some 22), (some (20, false)), .ibin .lss (.tmp 21) (.const (.int .i64 0))⟩,
    ⟨(some 23), none, .pick (.tmp 20) (.const (.bool true)) (.tmp 22)⟩,
    ⟨(some 24), none, .mov (.tmp 23)⟩,
    ⟨(some 25), (some (24, false)), .mov (.tmp 1)⟩,
    ⟨(some 26), (some (24, false)), .mov (.tmp 0)⟩,
    ⟨(some 27), (some (24, false)), .len (.tmp 26)⟩,
    ⟨(some 28), (some (24, false)), .ibin .geq (.tmp 25) (.tmp 27)⟩,
    ⟨(some 29), none, .pick (.tmp 24) (.const (.bool true)) (.tmp 28)⟩,
    ⟨(some 30), none, .mov (.tmp 29)⟩,
    ⟨(some 31), (some (30, false)), .mov (.tmp 2)⟩,
    ⟨(some 32), (some (30, false)), .ibin .lss (.tmp 31) (.const (.int .i64 0))⟩,
    ⟨(some 33), none, .pick (.tmp 30) (.const (.bool true)) (.tmp 32)⟩,
    ⟨(some 34), none, .mov (.tmp 33)⟩,
    ⟨(some 35), (some (34, false)), .mov (.tmp 2)⟩,
    ⟨(some 36), (some (34, false)), .ibin .gtr (.tmp 35) (.const (.int .i64 12))⟩,
    ⟨(some 37), none, .pick (.tmp 34) (.const (.bool true)) (.tmp 36)⟩]

def f6r4 : List AInstr := [
    ⟨(some 6), none, .mov (.const (.bool true))⟩]

def f6r5 : List AInstr := [
    ⟨(some 38), none, .mov (.tmp 0)⟩,
    ⟨(some 39), none, .callF 15 [.tmp 38]⟩,
    ⟨(some 7), none, .mov (.tmp 39)⟩]

def f6r6 : List AInstr := [
    ⟨(some 40), none, .mov (.tmp 7)⟩,
    ⟨(some 41), none, .mov (.tmp 1)⟩,
    ⟨(some 42), none, .indexAddr 2 (.tmp 40) (.tmp 41)⟩,
    ⟨(some 43), none, .fieldAddr 1 (.tmp 42)⟩,
    ⟨(some 44), none, .load none (.tmp 43)⟩,
    ⟨(some 45), none, .mov (.tmp 2)⟩,
    ⟨(some 46), none, .ibin .add (.tmp 44) (.tmp 45)⟩,
    ⟨(some 47), none, .indexAddr 2 (.tmp 40) (.tmp 41)⟩,
    ⟨(some 48), none, .fieldAddr 1 (.tmp 47)⟩,
    ⟨none, none, .store 1 (.tmp 48) (.tmp 46)⟩]

def f6r7 : List AInstr := [
    ⟨(some 49), none, .mov (.tmp 7)⟩,
    ⟨(some 50), none, .callF 14 [.tmp 49]⟩,
    ⟨(some 51), none, .ibin .neq (.tmp 50) (.const (.int .i64 0))⟩]

def f6r8 : List AInstr := [
    ⟨(some 6), none, .mov (.const (.bool true))⟩]

def f6r9 : List AInstr := [
    ⟨(some 52), none, .mov (.tmp 0)⟩,
    ⟨(some 53), none, .len (.tmp 52)⟩,
    ⟨(some 54), none, .mov (.const (.int .i64 0))⟩]

def f6r10 : List AInstr := [
    ⟨(some 55), none, .ibin .lss (.tmp 54) (.tmp 53)⟩]

def f6r11 : List AInstr := [
    ⟨(some 56), none, .mov (.tmp 54)⟩,
    ⟨(some 8), none, .mov (.tmp 56)⟩]

def f6r12 : List AInstr := [
    ⟨(some 58), none, .mov (.tmp 0)⟩,
    ⟨(some 59), none, .mov (.tmp 8)⟩,
    ⟨(some 60), none, .callF 12 [.tmp 58, .tmp 59]⟩,
    ⟨(some 57), none, .mov (.tmp 60)⟩,
    ⟨(some 61), none, .extract 0 (.tmp 57)⟩,
    ⟨(some 62), none, .extract 1 (.tmp 57)⟩,
    ⟨(some 9), none, .alloc [.int .i64 0, .int .i64 0]⟩,
    ⟨none, none, .store 2 (.tmp 9) (.tmp 61)⟩,
    ⟨(some 10), none, .mov (.tmp 62)⟩]

def f6r13 : List AInstr := [
    ⟨(some 64), none, .mov (.tmp 7)⟩,
    ⟨(some 65), none, .mov (.tmp 8)⟩,
    ⟨(some 66), none, .callF 12 [.tmp 64, .tmp 65]⟩,
    ⟨(some 63), none, .mov (.tmp 66)⟩,
    ⟨(some 67), none, .extract 0 (.tmp 63)⟩,
    ⟨(some 68), none, .extract 1 (.tmp 63)⟩,
    ⟨(some 11), none, .alloc [.int .i64 0, .int .i64 0]⟩,
    ⟨none, none, .store 2 (.tmp 11) (.tmp 67)⟩,
    ⟨(some 12), none, .mov (.tmp 68)⟩]

def f6r14 : List AInstr := [
    ⟨(some 69), none, .mov (.tmp 10)⟩,
    ⟨(some 70), none, .ibin .eql (.tmp 69) (.const (.int .i64 4))⟩,
    ⟨(some 71), none, .mov (.tmp 70)⟩,
    ⟨(some 72), (some (71, false)), .mov (.tmp 12)⟩,
    ⟨(some 73), (some (71, false)), .ibin .eql (.tmp 72) (.const (.int .i64 4))⟩,
    ⟨(some 74), none, .pick (.tmp 71) (.const (.bool true)) (.tmp 73)⟩]

def f6r15 : List AInstr := [
    ⟨(some 76), none, .load (some 2) (.tmp 11)⟩,
    ⟨(some 77), none, .load (some 2) (.tmp 9)⟩,
    ⟨(some 78), none, .callF 16 [.tmp 76, .tmp 77]⟩,
    ⟨(some 75), none, .mov (.tmp 78)⟩,
    ⟨(some 79), none, .extract 0 (.tmp 75)⟩,
    ⟨(some 80), none, .extract 1 (.tmp 75)⟩,
    ⟨(some 13), none, .mov (.tmp 79)⟩,
    ⟨(some 14), none, .mov (.tmp 80)⟩]

def f6r16 : List AInstr := [
    ⟨(some 81), none, .mov (.tmp 10)⟩,
    ⟨(some 82), none, .ibin .neq (.tmp 81) (.const (.int .i64 0))⟩,
    ⟨(some 83), none, .mov (.tmp 82)⟩,
    ⟨(some 84), (some (83, false)), .mov (.tmp 12)⟩,
    ⟨(some 85), (some (83, false)), .ibin .neq (.tmp 84) (.const (.int .i64 0))⟩,
    ⟨(some 86), none, .pick (.tmp 83) (.const (.bool true)) (.tmp 85)⟩,
    ⟨(some 87), none, .mov (.tmp 86)⟩,
    ⟨(some 88), (some (87, false)), .mov (.tmp 14)⟩,
    ⟨(some 89), (some (87, false)), .ibin .neq (.tmp 88) (.const (.int .i64 0))⟩,
    ⟨(some 90), none, .pick (.tmp 87) (.const (.bool true)) (.tmp 89)⟩]

def f6r17 : List AInstr := [
    ⟨(some 6), none, .mov (.const (.bool false))⟩]

def f6r18 : List AInstr := [
    ⟨(some 91), none, .mov (.tmp 8)⟩,
    ⟨(some 92), none, .mov (.tmp 1)⟩,
    ⟨(some 93), none, .ibin .eql (.tmp 91) (.tmp 92)⟩,
    ⟨(some 94), none, .mov (.tmp 93)⟩,
    ⟨(some 95), (some (94, true)), .mov (.tmp 13)⟩,
    ⟨(some 96), (some (94, true)), .ibin .lss (.tmp 95) (.const (.int .i64 0))⟩,
    ⟨(some 97), none, .pick (.tmp 94) (.tmp 96) (.const (.bool false))⟩,
    ⟨(some 98), none, .mov (.tmp 97)⟩,
    ⟨(some 99), (some (98, false)), .mov (.tmp 8)⟩,
    ⟨(some 100), (some (98, false)), .mov (.tmp 1)⟩,
    ⟨(some 101), (some (98, false)), .ibin .neq (.tmp 99) (.tmp 100)⟩,
    ⟨(some 102), (some (98, false)), .mov (.tmp 101)⟩,
    ⟨(some 103), (some (102, true)), .mov (.tmp 0)⟩,
    ⟨(some 104), (some (102, true)), .mov (.tmp 8)⟩,
    ⟨(some 105), (some (102, true)), .indexAddr 2 (.tmp 103) (.tmp 104)⟩,
    ⟨(some 106), (some (102, true)), .fieldAddr 0 (.tmp 105)⟩,
    ⟨(some 107), (some (102, true)), .load none (.tmp 106)⟩,
    ⟨(some 108), (some (102, true)), .mov (.tmp 0)⟩,
    ⟨(some 109), (some (102, true)), .mov (.tmp 1)⟩,
    ⟨(some 110), (some (102, true)), .indexAddr 2 (.tmp 108) (.tmp 109)⟩,
    ⟨(some 111), (some (102, true)), .fieldAddr 0 (.tmp 110)⟩,
    ⟨(some 112), (some (102, true)), .load none (.tmp 111)⟩,
    ⟨(some 113), (some (102, true)), .ibin .eql (.tmp 107) (.tmp 112)⟩,
    ⟨(some 114), (some (98, false)), .pick (.tmp 102) (.tmp 113) (.const (.bool false))⟩,
    ⟨(some 115), (some (98, false)), .mov (.tmp 114)⟩,
    ⟨(some 116), (some (115, true)), .mov (.tmp 13)⟩,
    ⟨(some 117), (some (115, true)), .ibin .gtr (.tmp 116) (.const (.int .i64 0))⟩,
    ⟨(some 118), (some (98, false)), .pick (.tmp 115) (.tmp 117) (.const (.bool false))⟩,
    ⟨(some 119), none, .pick (.tmp 98) (.const (.bool true)) (.tmp 118)⟩]

def f6r19 : List AInstr := [
    ⟨(some 6), none, .mov (.const (.bool false))⟩]

def f6r20 : List AInstr := [
    ⟨(some 120), none, .ibin .add (.tmp 54) (.const (.int .i64 1))⟩,
    ⟨(some 54), none, .mov (.tmp 120)⟩]

/-- live: [0, 1, 7, 53, 54] -/
def f6l0 : ACode := (.seq (.ops f6r10)
  (.keep [0, 1, 7, 53, 54, 55] (.seq (.cond (.tmp 55) .skip (.exit 0))
  (.keep [0, 1, 7, 53, 54] (.seq (.block 1 (.seq (.ops f6r11)
  (.keep [0, 1, 7, 8, 53, 54] (.seq (.ops f6r12)
  (.keep [0, 1, 7, 8, 9, 10, 53, 54] (.seq (.ops f6r13)
  (.keep [0, 1, 7, 8, 9, 10, 11, 12, 53, 54] (.seq (.seq (.ops f6r14)
  (.keep [0, 1, 7, 8, 9, 10, 11, 12, 53, 54, 74] (.cond (.tmp 74) (.exit 1) .skip)))
  (.keep [0, 1, 7, 8, 9, 10, 11, 12, 53, 54] (.seq (.ops f6r15)
  (.keep [0, 1, 7, 8, 10, 12, 13, 14, 53, 54] (.seq (.seq (.ops f6r16)
  (.keep [0, 1, 7, 8, 13, 53, 54, 90] (.cond (.tmp 90) (.keep [] (.seq (.ops f6r17)
  (.keep [6] .ret))) .skip)))
  (.keep [0, 1, 7, 8, 13, 53, 54] (.seq (.draw f6r18 [(0, 0, false), (0, 0, false), (0, 0, false), (0, 0, false), (0, 0, false), (0, 0, false), (0, 0, false), (0, 0, false), (0, 0, false), (0, 0, false), (0, 0, false), (0, 0, false), (0, 0, false), (0, 0, false), (0, 0, false), (0, 0, false), (0, 0, false), (0, 0, false), (0, 0, false), (0, 0, false), (0, 0, false), (0, 0, false), (0, 0, false), (0, 0, false), (0, 0, false), (0, 0, false), (0, 0, false), (0, 0, false), (0, 0, false)])
  (.keep [0, 1, 7, 53, 54, 119] (.cond (.tmp 119) (.keep [] (.seq (.ops f6r19)
  (.keep [6] .ret))) .skip))))))))))))))))
  (.keep [0, 1, 7, 53, 54] (.ops f6r20)))))))

def f6r22 : List AInstr := [
    ⟨(some 6), none, .mov (.const (.bool true))⟩]

def f6b : ACode := (.seq (.ops f6r0)
  (.keep [0, 1, 2] (.seq (.seq (.ops f6r1)
  (.keep [0, 1, 2, 16] (.cond (.tmp 16) (.keep [] (.seq (.ops f6r2)
  (.keep [6] .ret))) .skip)))
  (.keep [0, 1, 2] (.seq (.seq (.ops f6r3)
  (.keep [0, 1, 2, 37] (.cond (.tmp 37) (.keep [] (.seq (.ops f6r4)
  (.keep [6] .ret))) .skip)))
  (.keep [0, 1, 2] (.seq (.ops f6r5)
  (.keep [0, 1, 2, 7] (.seq (.ops f6r6)
  (.keep [0, 1, 7] (.seq (.seq (.ops f6r7)
  (.keep [0, 1, 7, 51] (.cond (.tmp 51) (.keep [] (.seq (.ops f6r8)
  (.keep [6] .ret))) .skip)))
  (.keep [0, 1, 7] (.seq (.seq (.ops f6r9)
  (.keep [0, 1, 7, 53, 54] (.block 0 (.loop f6l0))))
  (.keep [] (.seq (.ops f6r22)
  (.keep [6] .ret))))))))))))))))

def f6 : AFn := ⟨121, [.tmp 6], f6b⟩

theorem f6_ok : compFn Try.prog 6 = some f6.strip := by kernel_rfl

/- function 7: weirhouse/weirhousekeep.alive17; parameters 0; operations that are not compiled: 0 -/
def f7r0 : List AInstr := [
    ⟨(some 0), none, .mov (.const (.bool false))⟩]

def f7r1 : List AInstr := [
    ⟨(some 8), none, .build [.int .i64 0, .int .i64 0] [(0, 1, (.const (.int .i64 (-1)))), (1, 1, (.const (.int .i64 1)))]⟩,
    ⟨(some 9), none, .build [.int .i64 0, .int .i64 0] [(0, 1, (.const (.int .i64 0))), (1, 1, (.const (.int .i64 1)))]⟩,
    ⟨(some 10), none, .build [.int .i64 0, .int .i64 0] [(0, 1, (.const (.int .i64 0))), (1, 1, (.const (.int .i64 3)))]⟩,
    ⟨(some 11), none, .build [.int .i64 0, .int .i64 0] [(0, 1, (.const (.int .i64 2))), (1, 1, (.const (.int .i64 2)))]⟩,
    ⟨(some 12), none, .build [.int .i64 0, .int .i64 0] [(0, 1, (.const (.int .i64 2))), (1, 1, (.const (.int .i64 2)))]⟩,
    ⟨(some 13), none, .buildSlice 2 5 [.int .i64 0, .int .i64 0, .int .i64 0, .int .i64 0, .int .i64 0, .int .i64 0, .int .i64 0, .int .i64 0, .int .i64 0, .int .i64 0] [(0, 2, (.tmp 8)), (2, 2, (.tmp 9)), (4, 2, (.tmp 10)), (6, 2, (.tmp 11)), (8, 2, (.tmp 12))]⟩,
    ⟨(some 1), none, .mov (.tmp 13)⟩]

def f7r2 : List AInstr := [
    ⟨(some 15), none, .mov (.tmp 1)⟩,
    ⟨(some 16), none, .callF 11 [.tmp 15]⟩,
    ⟨(some 14), none, .mov (.tmp 16)⟩,
    ⟨(some 17), none, .extract 0 (.tmp 14)⟩,
    ⟨(some 18), none, .extract 1 (.tmp 14)⟩,
    ⟨(some 2), none, .mov (.tmp 17)⟩,
    ⟨(some 3), none, .mov (.tmp 18)⟩]

def f7r3 : List AInstr := [
    ⟨(some 20), none, .mov (.tmp 1)⟩,
    ⟨(some 21), none, .callF 12 [.tmp 20, .const (.int .i64 3)]⟩,
    ⟨(some 19), none, .mov (.tmp 21)⟩,
    ⟨(some 22), none, .extract 0 (.tmp 19)⟩,
    ⟨(some 23), none, .extract 1 (.tmp 19)⟩,
    ⟨(some 4), none, .alloc [.int .i64 0, .int .i64 0]⟩,
    ⟨none, none, .store 2 (.tmp 4) (.tmp 22)⟩,
    ⟨(some 5), none, .mov (.tmp 23)⟩]

def f7r4 : List AInstr := [
    ⟨(some 25), none, .mov (.tmp 1)⟩,
    ⟨(some 26), none, .callF 9 [.tmp 25, .const (.int .i64 3), .const (.int .i64 4)]⟩,
    ⟨(some 24), none, .mov (.tmp 26)⟩,
    ⟨(some 27), none, .extract 0 (.tmp 24)⟩,
    ⟨(some 28), none, .extract 1 (.tmp 24)⟩,
    ⟨(some 6), none, .mov (.tmp 27)⟩,
    ⟨(some 7), none, .mov (.tmp 28)⟩]

def f7r5 : List AInstr := [
    ⟨(some 29), none, .mov (.tmp 3)⟩,
    ⟨(some 30), none, .ibin .eql (.tmp 29) (.const (.int .i64 0))⟩,
    ⟨(some 31), none, .mov (.tmp 30)⟩,
    ⟨(some 32), (some (31, true)), .mov (.tmp 5)⟩,
    ⟨(some 33), (some (31, true)), .ibin .eql (.tmp 32) (.const (.int .i64 0))⟩,
    ⟨(some 34), none, .pick (.tmp 31) (.tmp 33) (.const (.bool false))⟩,
    ⟨(some 35), none, .mov (.tmp 34)⟩,
    ⟨(some 36), (some (35, true)), .mov (.tmp 7)⟩,
    ⟨(some 37), (some (35, true)), .ibin .eql (.tmp 36) (.const (.int .i64 0))⟩,
    ⟨(some 38), none, .pick (.tmp 35) (.tmp 37) (.const (.bool false))⟩,
    ⟨(some 39), none, .mov (.tmp 38)⟩,
    ⟨(some 40), (some (39, true)), .mov (.tmp 2)⟩,
    ⟨(some 41), (some (39, true)), .buildSlice 1 3 [.int .i64 0, .int .i64 0, .int .i64 0] [(0, 1, (.const (.int .i64 1))), (1, 1, (.const (.int .i64 3))), (2, 1, (.const (.int .i64 4)))]⟩,
    ⟨(some 42), (some (39, true)), .callF 17 [.tmp 40, .tmp 41]⟩,
    ⟨(some 43), none, .pick (.tmp 39) (.tmp 42) (.const (.bool false))⟩,
    ⟨(some 44), none, .mov (.tmp 43)⟩,
    ⟨(some 45), (some (44, true)), .load (some 2) (.tmp 4)⟩,
    ⟨(some 46), (some (44, true)), .build [.int .i64 0, .int .i64 0] [(0, 1, (.const (.int .i64 3))), (1, 1, (.const (.int .i64 8)))]⟩,
    ⟨(some 47), (some (44, true)), .eqA false [false, false] (.tmp 45) (.tmp 46)⟩,
    ⟨(some 48), none, .pick (.tmp 44) (.tmp 47) (.const (.bool false))⟩,
    ⟨(some 49), none, .mov (.tmp 48)⟩,
    ⟨(some 50), (some (49, true)), .mov (.tmp 6)⟩,
    ⟨(some 51), (some (49, true)), .ibin .eql (.tmp 50) (.const (.int .i64 2))⟩,
    ⟨(some 52), none, .pick (.tmp 49) (.tmp 51) (.const (.bool false))⟩,
    ⟨(some 0), none, .mov (.tmp 52)⟩]

def f7b : ACode := (.seq (.ops f7r0)
  (.keep [] (.seq (.ops f7r1)
  (.keep [1] (.seq (.ops f7r2)
  (.keep [1, 2, 3] (.seq (.ops f7r3)
  (.keep [1, 2, 3, 4, 5] (.seq (.ops f7r4)
  (.keep [2, 3, 4, 5, 6, 7] (.seq (.ops f7r5)
  (.keep [0] .ret))))))))))))

def f7 : AFn := ⟨53, [.tmp 0], f7b⟩

theorem f7_ok : compFn Try.prog 7 = some f7.strip := by kernel_rfl

/- function 8: weirhouse/tree.Path; parameters 2; operations that are not compiled: 0 -/
def f8r0 : List AInstr := [
    ⟨(some 4), none, .mov (.const (.slice none 0 0))⟩,
    ⟨(some 5), none, .mov (.const (.int .i64 0))⟩]

def f8r1 : List AInstr := [
    ⟨(some 8), none, .mov (.tmp 0)⟩,
    ⟨(some 9), none, .callF 14 [.tmp 8]⟩,
    ⟨(some 6), none, .mov (.tmp 9)⟩]

def f8r2 : List AInstr := [
    ⟨(some 10), none, .mov (.tmp 6)⟩,
    ⟨(some 11), none, .ibin .neq (.tmp 10) (.const (.int .i64 0))⟩]

def f8r3 : List AInstr := [
    ⟨(some 12), none, .mov (.tmp 6)⟩,
    ⟨(some 4), none, .mov (.const (.slice none 0 0))⟩,
    ⟨(some 5), none, .mov (.tmp 12)⟩]

def f8r4 : List AInstr := [
    ⟨(some 13), none, .mov (.tmp 1)⟩,
    ⟨(some 14), none, .ibin .lss (.tmp 13) (.const (.int .i64 0))⟩,
    ⟨(some 15), none, .mov (.tmp 14)⟩,
    ⟨(some 16), (some (15, false)), .mov (.tmp 1)⟩,
    ⟨(some 17), (some (15, false)), .mov (.tmp 0)⟩,
    ⟨(some 18), (some (15, false)), .len (.tmp 17)⟩,
    ⟨(some 19), (some (15, false)), .ibin .geq (.tmp 16) (.tmp 18)⟩,
    ⟨(some 20), none, .pick (.tmp 15) (.const (.bool true)) (.tmp 19)⟩]

def f8r5 : List AInstr := [
    ⟨(some 4), none, .mov (.const (.slice none 0 0))⟩,
    ⟨(some 5), none, .mov (.const (.int .i64 3))⟩]

def f8r6 : List AInstr := [
    ⟨(some 7), none, .mov (.const (.slice none 0 0))⟩]

def f8r7 : List AInstr := [
    ⟨(some 21), none, .mov (.tmp 1)⟩,
    ⟨(some 22), none, .ibin .geq (.tmp 21) (.const (.int .i64 0))⟩]

def f8r8 : List AInstr := [
    ⟨(some 28), none, .mov (.tmp 7)⟩,
    ⟨(some 29), none, .mov (.tmp 1)⟩,
    ⟨(some 30), none, .buildSlice 1 1 [.int .i64 0] [(0, 1, (.tmp 29))]⟩,
    ⟨(some 31), none, .callF 18 [.tmp 28, .const (.int .i64 0), .tmp 30]⟩,
    ⟨(some 7), none, .mov (.tmp 31)⟩]

def f8r9 : List AInstr := [
    ⟨(some 23), none, .mov (.tmp 0)⟩,
    ⟨(some 24), none, .mov (.tmp 1)⟩,
    ⟨(some 25), none, .indexAddr 2 (.tmp 23) (.tmp 24)⟩,
    ⟨(some 26), none, .fieldAddr 0 (.tmp 25)⟩,
    ⟨(some 27), none, .load none (.tmp 26)⟩,
    ⟨(some 1), none, .mov (.tmp 27)⟩]

/-- live: [0, 1, 7] -/
def f8l0 : ACode := (.seq (.seq (.ops f8r7)
  (.keep [0, 1, 7, 22] (.cond (.tmp 22) .skip (.exit 0))))
  (.keep [0, 1, 7] (.seq (.block 1 (.ops f8r8))
  (.keep [0, 1, 7] (.ops f8r9)))))

def f8r11 : List AInstr := [
    ⟨(some 32), none, .mov (.tmp 7)⟩,
    ⟨(some 4), none, .mov (.tmp 32)⟩,
    ⟨(some 5), none, .mov (.const (.int .i64 0))⟩]

def f8b : ACode := (.seq (.ops f8r0)
  (.keep [0, 1] (.seq (.seq (.ops f8r1)
  (.keep [0, 1, 6] (.seq (.ops f8r2)
  (.keep [0, 1, 6, 11] (.cond (.tmp 11) (.keep [6] (.seq (.ops f8r3)
  (.keep [4, 5] .ret))) .skip)))))
  (.keep [0, 1] (.seq (.seq (.ops f8r4)
  (.keep [0, 1, 20] (.cond (.tmp 20) (.keep [] (.seq (.ops f8r5)
  (.keep [4, 5] .ret))) .skip)))
  (.keep [0, 1] (.seq (.ops f8r6)
  (.keep [0, 1, 7] (.seq (.block 0 (.loop f8l0))
  (.keep [7] (.seq (.ops f8r11)
  (.keep [4, 5] .ret))))))))))))

def f8 : AFn := ⟨33, [.tmp 4, .tmp 5], f8b⟩

theorem f8_ok : compFn Try.prog 8 = some f8.strip := by kernel_rfl

/- function 9: weirhouse/tree.Meet; parameters 3; operations that are not compiled: 0 -/
def f9r0 : List AInstr := [
    ⟨(some 6), none, .mov (.const (.int .i64 0))⟩,
    ⟨(some 7), none, .mov (.const (.int .i64 0))⟩]

def f9r1 : List AInstr := [
    ⟨(some 13), none, .mov (.tmp 0)⟩,
    ⟨(some 14), none, .mov (.tmp 1)⟩,
    ⟨(some 15), none, .callF 8 [.tmp 13, .tmp 14]⟩,
    ⟨(some 12), none, .mov (.tmp 15)⟩,
    ⟨(some 16), none, .extract 0 (.tmp 12)⟩,
    ⟨(some 17), none, .extract 1 (.tmp 12)⟩,
    ⟨(some 8), none, .mov (.tmp 16)⟩,
    ⟨(some 9), none, .mov (.tmp 17)⟩]

def f9r2 : List AInstr := [
    ⟨(some 18), none, .mov (.tmp 9)⟩,
    ⟨(some 19), none, .ibin .neq (.tmp 18) (.const (.int .i64 0))⟩]

def f9r3 : List AInstr := [
    ⟨(some 20), none, .mov (.tmp 9)⟩,
    ⟨(some 6), none, .mov (.const (.int .i64 0))⟩,
    ⟨(some 7), none, .mov (.tmp 20)⟩]

def f9r4 : List AInstr := [
    ⟨(some 22), none, .mov (.tmp 0)⟩,
    ⟨(some 23), none, .mov (.tmp 2)⟩,
    ⟨(some 24), none, .callF 8 [.tmp 22, .tmp 23]⟩,
    ⟨(some 21), none, .mov (.tmp 24)⟩,
    ⟨(some 25), none, .extract 0 (.tmp 21)⟩,
    ⟨(some 26), none, .extract 1 (.tmp 21)⟩,
    ⟨(some 10), none, .mov (.tmp 25)⟩,
    ⟨(some 9), none, .mov (.tmp 26)⟩]

def f9r5 : List AInstr := [
    ⟨(some 27), none, .mov (.tmp 9)⟩,
    ⟨(some 28), none, .ibin .neq (.tmp 27) (.const (.int .i64 0))⟩]

def f9r6 : List AInstr := [
    ⟨(some 29), none, .mov (.tmp 9)⟩,
    ⟨(some 6), none, .mov (.const (.int .i64 0))⟩,
    ⟨(some 7), none, .mov (.tmp 29)⟩]

def f9r7 : List AInstr := [
    ⟨(some 11), none, .mov (.const (.int .i64 0))⟩]

def f9r8 : List AInstr := [
    ⟨(some 30), none, .mov (.tmp 11)⟩,
    ⟨(some 31), none, .mov (.tmp 8)⟩,
    ⟨(some 32), none, .len (.tmp 31)⟩,
    ⟨(some 33), none, .mov (.tmp 10)⟩,
    ⟨(some 34), none, .len (.tmp 33)⟩,
    ⟨(some 35), none, .minmax false [.tmp 32, .tmp 34]⟩,
    ⟨(some 36), none, .ibin .lss (.tmp 30) (.tmp 35)⟩,
    ⟨(some 37), none, .mov (.tmp 36)⟩,
    ⟨(some 38), (some (37, true)), .mov (.tmp 8)⟩,
    ⟨(some 39), (some (37, true)), .mov (.tmp 11)⟩,
    ⟨(some 40), (some (37, true)), .indexAddr 1 (.tmp 38) (.tmp 39)⟩,
    ⟨(some 41), (some (37, true)), .load none (.tmp 40)⟩,
    ⟨(some 42), (some (37, true)), .mov (.tmp 10)⟩,
    ⟨(some 43), (some (37, true)), .mov (.tmp 11)⟩,
    ⟨(some 44), (some (37, true)), .indexAddr 1 (.tmp 42) (.tmp 43)⟩,
    ⟨(some 45), (some (37, true)), .load none (.tmp 44)⟩,
    ⟨(some 46), (some (37, true)), .ibin .eql (.tmp 41) (.tmp 45)⟩,
    ⟨(some 47), none, .pick (.tmp 37) (.tmp 46) (.const (.bool false))⟩]

def f9r9 : List AInstr := [
    ⟨(some 48), none, .mov (.tmp 11)⟩,
    ⟨(some 49), none, .ibin .add (.tmp 48) (.const (.int .i64 1))⟩,
    ⟨(some 11), none, .mov (.tmp 49)⟩]

/-- live: [8, 10, 11] -/
def f9l0 : ACode := (.seq (.seq (.draw f9r8 [(0, 0, false), (0, 0, false), (0, 0, false), (0, 0, false), (0, 0, false), (0, 0, false), (0, 0, false), (0, 0, false), (0, 0, false), (0, 0, false), (0, 0, false), (0, 0, false), (0, 0, false), (0, 0, false), (0, 0, false), (0, 0, false), (0, 0, false), (0, 0, false)])
  (.keep [8, 10, 11, 47] (.cond (.tmp 47) .skip (.exit 0))))
  (.keep [8, 10, 11] (.block 1 (.ops f9r9))))

def f9r11 : List AInstr := [
    ⟨(some 50), none, .mov (.tmp 8)⟩,
    ⟨(some 51), none, .mov (.tmp 11)⟩,
    ⟨(some 52), none, .ibin .sub (.tmp 51) (.const (.int .i64 1))⟩,
    ⟨(some 53), none, .indexAddr 1 (.tmp 50) (.tmp 52)⟩,
    ⟨(some 54), none, .load none (.tmp 53)⟩,
    ⟨(some 6), none, .mov (.tmp 54)⟩,
    ⟨(some 7), none, .mov (.const (.int .i64 0))⟩]

def f9b : ACode := (.seq (.ops f9r0)
  (.keep [0, 1, 2] (.seq (.ops f9r1)
  (.keep [0, 2, 8, 9] (.seq (.seq (.ops f9r2)
  (.keep [0, 2, 8, 9, 19] (.cond (.tmp 19) (.keep [9] (.seq (.ops f9r3)
  (.keep [6, 7] .ret))) .skip)))
  (.keep [0, 2, 8] (.seq (.ops f9r4)
  (.keep [8, 9, 10] (.seq (.seq (.ops f9r5)
  (.keep [8, 9, 10, 28] (.cond (.tmp 28) (.keep [9] (.seq (.ops f9r6)
  (.keep [6, 7] .ret))) .skip)))
  (.keep [8, 10] (.seq (.ops f9r7)
  (.keep [8, 10, 11] (.seq (.block 0 (.loop f9l0))
  (.keep [8, 11] (.seq (.ops f9r11)
  (.keep [6, 7] .ret))))))))))))))))

def f9 : AFn := ⟨55, [.tmp 6, .tmp 7], f9b⟩

theorem f9_ok : compFn Try.prog 9 = some f9.strip := by kernel_rfl

/- function 10: slices.Contains[[]int,int]; parameters 2; operations that are not compiled: 0 -/
def f10r0 : List AInstr := [
    ⟨(some 4), none, .mov (.const (.bool false))⟩]

def f10r1 : List AInstr := [
    ⟨(some 5), none, .mov (.tmp 0)⟩,
    ⟨(some 6), none, .mov (.tmp 1)⟩,
    ⟨(some 7), none, .callF 19 [.tmp 5, .tmp 6]⟩,
    ⟨(some 8), none, .ibin .geq (.tmp 7) (.const (.int .i64 0))⟩,
    ⟨(some 4), none, .mov (.tmp 8)⟩]

def f10b : ACode := (.seq (.ops f10r0)
  (.keep [0, 1] (.seq (.ops f10r1)
  (.keep [4] .ret))))

def f10 : AFn := ⟨9, [.tmp 4], f10b⟩

theorem f10_ok : compFn Try.prog 10 = some f10.strip := by kernel_rfl

/- function 11: weirhouse/tree.Leaves; parameters 1; operations that are not compiled: 0 -/
def f11r0 : List AInstr := [
    ⟨(some 2), none, .mov (.const (.slice none 0 0))⟩,
    ⟨(some 3), none, .mov (.const (.int .i64 0))⟩]

def f11r1 : List AInstr := [
    ⟨(some 7), none, .mov (.tmp 0)⟩,
    ⟨(some 8), none, .callF 14 [.tmp 7]⟩,
    ⟨(some 4), none, .mov (.tmp 8)⟩]

def f11r2 : List AInstr := [
    ⟨(some 9), none, .mov (.tmp 4)⟩,
    ⟨(some 10), none, .ibin .neq (.tmp 9) (.const (.int .i64 0))⟩]

def f11r3 : List AInstr := [
    ⟨(some 11), none, .mov (.tmp 4)⟩,
    ⟨(some 2), none, .mov (.const (.slice none 0 0))⟩,
    ⟨(some 3), none, .mov (.tmp 11)⟩]

def f11r4 : List AInstr := [
    ⟨(some 5), none, .mov (.const (.slice none 0 0))⟩]

def f11r5 : List AInstr := [
    ⟨(some 12), none, .mov (.tmp 0)⟩,
    ⟨(some 13), none, .len (.tmp 12)⟩,
    ⟨(some 14), none, .mov (.const (.int .i64 0))⟩]

def f11r6 : List AInstr := [
    ⟨(some 15), none, .ibin .lss (.tmp 14) (.tmp 13)⟩]

def f11r7 : List AInstr := [
    ⟨(some 16), none, .mov (.tmp 14)⟩,
    ⟨(some 6), none, .alloc [.int .i64 0]⟩,
    ⟨none, none, .store 1 (.tmp 6) (.tmp 16)⟩]

def f11r8 : List AInstr := [
    ⟨(some 17), none, .mov (.tmp 0)⟩,
    ⟨(some 18), none, .func (.func 21) [] [.tmp 6]⟩,
    ⟨(some 19), none, .callF 20 [.tmp 17, .tmp 18]⟩,
    ⟨(some 20), none, .un .not (.tmp 19)⟩]

def f11r9 : List AInstr := [
    ⟨(some 21), none, .mov (.tmp 5)⟩,
    ⟨(some 22), none, .load none (.tmp 6)⟩,
    ⟨(some 23), none, .buildSlice 1 1 [.int .i64 0] [(0, 1, (.tmp 22))]⟩,
    ⟨(some 24), none, .append 1 8 (.tmp 21) (.tmp 23)⟩,
    ⟨(some 5), none, .mov (.tmp 24)⟩]

def f11r10 : List AInstr := [
    ⟨(some 25), none, .ibin .add (.tmp 14) (.const (.int .i64 1))⟩,
    ⟨(some 14), none, .mov (.tmp 25)⟩]

/-- live: [0, 5, 13, 14] -/
def f11l0 : ACode := (.seq (.ops f11r6)
  (.keep [0, 5, 13, 14, 15] (.seq (.cond (.tmp 15) .skip (.exit 0))
  (.keep [0, 5, 13, 14] (.seq (.block 1 (.seq (.ops f11r7)
  (.keep [0, 5, 6, 13, 14] (.seq (.ops f11r8)
  (.keep [0, 5, 6, 13, 14, 20] (.cond (.tmp 20) (.keep [0, 5, 6, 13, 14] (.ops f11r9)) .skip))))))
  (.keep [0, 5, 13, 14] (.ops f11r10)))))))

def f11r12 : List AInstr := [
    ⟨(some 26), none, .mov (.tmp 5)⟩,
    ⟨(some 2), none, .mov (.tmp 26)⟩,
    ⟨(some 3), none, .mov (.const (.int .i64 0))⟩]

def f11b : ACode := (.seq (.ops f11r0)
  (.keep [0] (.seq (.seq (.ops f11r1)
  (.keep [0, 4] (.seq (.ops f11r2)
  (.keep [0, 4, 10] (.cond (.tmp 10) (.keep [4] (.seq (.ops f11r3)
  (.keep [2, 3] .ret))) .skip)))))
  (.keep [0] (.seq (.ops f11r4)
  (.keep [0, 5] (.seq (.seq (.ops f11r5)
  (.keep [0, 5, 13, 14] (.block 0 (.loop f11l0))))
  (.keep [5] (.seq (.ops f11r12)
  (.keep [2, 3] .ret))))))))))

def f11 : AFn := ⟨27, [.tmp 2, .tmp 3], f11b⟩

theorem f11_ok : compFn Try.prog 11 = some f11.strip := by kernel_rfl

/- function 12: weirhouse/tree.Share; parameters 2; operations that are not compiled: 0 -/
def f12r0 : List AInstr := [
    ⟨(some 4), none, .alloc [.int .i64 0, .int .i64 0]⟩,
    ⟨(some 5), none, .mov (.const (.int .i64 0))⟩]

def f12r1 : List AInstr := [
    ⟨(some 14), none, .mov (.tmp 0)⟩,
    ⟨(some 15), none, .mov (.tmp 1)⟩,
    ⟨(some 16), none, .callF 8 [.tmp 14, .tmp 15]⟩,
    ⟨(some 13), none, .mov (.tmp 16)⟩,
    ⟨(some 17), none, .extract 0 (.tmp 13)⟩,
    ⟨(some 18), none, .extract 1 (.tmp 13)⟩,
    ⟨(some 6), none, .mov (.tmp 17)⟩,
    ⟨(some 7), none, .mov (.tmp 18)⟩]

def f12r2 : List AInstr := [
    ⟨(some 19), none, .mov (.tmp 7)⟩,
    ⟨(some 20), none, .ibin .neq (.tmp 19) (.const (.int .i64 0))⟩]

def f12r3 : List AInstr := [
    ⟨(some 21), none, .build [.int .i64 0, .int .i64 0] []⟩,
    ⟨(some 22), none, .mov (.tmp 7)⟩,
    ⟨none, none, .store 2 (.tmp 4) (.tmp 21)⟩,
    ⟨(some 5), none, .mov (.tmp 22)⟩]

def f12r4 : List AInstr := [
    ⟨(some 23), none, .build [.int .i64 0, .int .i64 0] [(0, 1, (.const (.int .i64 1))), (1, 1, (.const (.int .i64 1)))]⟩,
    ⟨(some 8), none, .alloc [.int .i64 0, .int .i64 0]⟩,
    ⟨none, none, .store 2 (.tmp 8) (.tmp 23)⟩]

def f12r5 : List AInstr := [
    ⟨(some 24), none, .mov (.tmp 6)⟩,
    ⟨(some 25), none, .len (.tmp 24)⟩,
    ⟨(some 26), none, .mov (.const (.int .i64 0))⟩]

def f12r6 : List AInstr := [
    ⟨(some 27), none, .ibin .lss (.tmp 26) (.tmp 25)⟩]

def f12r7 : List AInstr := [
    ⟨(some 28), none, .indexAddr 1 (.tmp 24) (.tmp 26)⟩,
    ⟨(some 29), none, .load none (.tmp 28)⟩,
    ⟨(some 10), none, .mov (.tmp 29)⟩]

def f12r8 : List AInstr := [
    ⟨(some 31), none, .load (some 2) (.tmp 8)⟩,
    ⟨(some 32), none, .mov (.tmp 0)⟩,
    ⟨(some 33), none, .mov (.tmp 10)⟩,
    ⟨(some 34), none, .callF 23 [.tmp 32, .tmp 33]⟩,
    ⟨(some 35), none, .callF 22 [.tmp 31, .tmp 34]⟩,
    ⟨(some 30), none, .mov (.tmp 35)⟩,
    ⟨(some 36), none, .extract 0 (.tmp 30)⟩,
    ⟨(some 37), none, .extract 1 (.tmp 30)⟩,
    ⟨(some 11), none, .alloc [.int .i64 0, .int .i64 0]⟩,
    ⟨none, none, .store 2 (.tmp 11) (.tmp 36)⟩,
    ⟨(some 12), none, .mov (.tmp 37)⟩]

def f12r9 : List AInstr := [
    ⟨(some 31), none, .load (some 2) (.tmp 8)⟩,
    ⟨(some 32), none, .mov (.tmp 0)⟩,
    ⟨(some 33), none, .mov (.tmp 10)⟩,
    ⟨(some 34), none, .callF 23 [.tmp 32, .tmp 33]⟩,
    ⟨(some 11), none, .alloc [.int .i64 0, .int .i64 0]⟩,
    ⟨(some 35), none, .callF 22 [.tmp 31, .tmp 34]⟩,
    ⟨(some 30), none, .mov (.tmp 35)⟩,
    ⟨(some 36), none, .extract 0 (.tmp 30)⟩,
    ⟨(some 37), none, .extract 1 (.tmp 30)⟩,
    ⟨none, none, .store 2 (.tmp 11) (.tmp 36)⟩,
    ⟨(some 12), none, .mov (.tmp 37)⟩]

def f12r10 : List AInstr := [
    ⟨(some 31), none, .load (some 2) (.tmp 8)⟩,
    ⟨(some 32), none, .mov (.tmp 0)⟩,
    ⟨(some 33), none, .mov (.tmp 10)⟩,
    ⟨(some 11), none, .alloc [.int .i64 0, .int .i64 0]⟩,
    ⟨(some 34), none, .callF 23 [.tmp 32, .tmp 33]⟩,
    ⟨(some 35), none, .callF 22 [.tmp 31, .tmp 34]⟩,
    ⟨(some 30), none, .mov (.tmp 35)⟩,
    ⟨(some 36), none, .extract 0 (.tmp 30)⟩,
    ⟨(some 37), none, .extract 1 (.tmp 30)⟩,
    ⟨none, none, .store 2 (.tmp 11) (.tmp 36)⟩,
    ⟨(some 12), none, .mov (.tmp 37)⟩]

def f12r11 : List AInstr := [
    ⟨(some 38), none, .mov (.tmp 12)⟩,
    ⟨(some 39), none, .ibin .neq (.tmp 38) (.const (.int .i64 0))⟩]

def f12r12 : List AInstr := [
    ⟨(some 40), none, .build [.int .i64 0, .int .i64 0] []⟩,
    ⟨(some 41), none, .mov (.tmp 12)⟩,
    ⟨none, none, .store 2 (.tmp 4) (.tmp 40)⟩,
    ⟨(some 5), none, .mov (.tmp 41)⟩]

def f12r13 : List AInstr := [
    ⟨(some 42), none, .load (some 2) (.tmp 11)⟩,
    ⟨none, none, .store 2 (.tmp 8) (.tmp 42)⟩]

def f12r14 : List AInstr := [
    ⟨(some 43), none, .ibin .add (.tmp 26) (.const (.int .i64 1))⟩,
    ⟨(some 26), none, .mov (.tmp 43)⟩]

/-- live: [0, 4, 8, 24, 25, 26] -/
def f12l0 : ACode := (.seq (.ops f12r6)
  (.keep [0, 4, 8, 24, 25, 26, 27] (.seq (.cond (.tmp 27) .skip (.exit 0))
  (.keep [0, 4, 8, 24, 25, 26] (.seq (.block 1 (.seq (.ops f12r7)
  (.keep [0, 4, 8, 10, 24, 25, 26] (.seq (.alt [(f12r8, [(0, 1, false), (0, 0, false), (0, 0, false), (0, 0, true), (1, 0, true), (2, 3, false), (2, 3, false), (2, 4, false), (2, 0, true), (3, 0, true), (4, 4, false)]), (f12r9, [(0, 2, false), (0, 0, false), (0, 0, false), (0, 0, true), (1, 0, true), (2, 0, true), (3, 3, false), (3, 3, false), (3, 4, false), (3, 0, true), (4, 4, false)]), (f12r10, [(0, 2, false), (0, 1, false), (0, 1, false), (0, 0, true), (1, 0, true), (2, 0, true), (3, 3, false), (3, 3, false), (3, 4, false), (3, 0, true), (4, 4, false)])])
  (.keep [0, 4, 8, 11, 12, 24, 25, 26] (.seq (.seq (.ops f12r11)
  (.keep [0, 4, 8, 11, 12, 24, 25, 26, 39] (.cond (.tmp 39) (.keep [4, 12] (.seq (.ops f12r12)
  (.keep [4, 5] .ret))) .skip)))
  (.keep [0, 4, 8, 11, 24, 25, 26] (.ops f12r13))))))))
  (.keep [0, 4, 8, 24, 25, 26] (.ops f12r14)))))))

def f12r16 : List AInstr := [
    ⟨(some 44), none, .load (some 2) (.tmp 8)⟩,
    ⟨none, none, .store 2 (.tmp 4) (.tmp 44)⟩,
    ⟨(some 5), none, .mov (.const (.int .i64 0))⟩]

def f12b : ACode := (.seq (.ops f12r0)
  (.keep [0, 1, 4] (.seq (.ops f12r1)
  (.keep [0, 4, 6, 7] (.seq (.seq (.ops f12r2)
  (.keep [0, 4, 6, 7, 20] (.cond (.tmp 20) (.keep [4, 7] (.seq (.ops f12r3)
  (.keep [4, 5] .ret))) .skip)))
  (.keep [0, 4, 6] (.seq (.ops f12r4)
  (.keep [0, 4, 6, 8] (.seq (.seq (.ops f12r5)
  (.keep [0, 4, 8, 24, 25, 26] (.block 0 (.loop f12l0))))
  (.keep [4, 8] (.seq (.ops f12r16)
  (.keep [4, 5] .ret))))))))))))

def f12 : AFn := ⟨45, [.cell 4 (some 2), .tmp 5], f12b⟩

theorem f12_ok : compFn Try.prog 12 = some f12.strip := by kernel_rfl

/- function 13: weirhouse/frac.Add; parameters 2; operations that are not compiled: 0 -/
def f13r0 : List AInstr := [
    ⟨(some 2), none, .box (.tmp 0)⟩,
    ⟨(some 3), none, .box (.tmp 1)⟩,
    ⟨(some 4), none, .alloc [.int .i64 0, .int .i64 0]⟩,
    ⟨(some 5), none, .mov (.const (.int .i64 0))⟩]

def f13r1 : List AInstr := [
    ⟨(some 6), none, .load (some 2) (.tmp 2)⟩,
    ⟨(some 7), none, .callF 24 [.tmp 6]⟩,
    ⟨(some 8), none, .un .not (.tmp 7)⟩,
    ⟨(some 9), none, .mov (.tmp 8)⟩,
    ⟨(some 10), (some (9, false)), .load (some 2) (.tmp 3)⟩,
    ⟨(some 11), (some (9, false)), .callF 24 [.tmp 10]⟩,
    ⟨(some 12), (some (9, false)), .un .not (.tmp 11)⟩,
    ⟨(some 13), none, .pick (.tmp 9) (.const (.bool true)) (.tmp 12)⟩]

def f13r2 : List AInstr := [
    ⟨(some 14), none, .build [.int .i64 0, .int .i64 0] []⟩,
    ⟨none, none, .store 2 (.tmp 4) (.tmp 14)⟩,
    ⟨(some 5), none, .mov (.const (.int .i64 2))⟩]

def f13r3 : List AInstr := [
    ⟨(some 15), none, .fieldAddr 0 (.tmp 2)⟩,
    ⟨(some 16), none, .load none (.tmp 15)⟩,
    ⟨(some 17), none, .fieldAddr 1 (.tmp 3)⟩,
    ⟨(some 18), none, .load none (.tmp 17)⟩,
    ⟨(some 19), none, .ibin .mul (.tmp 16) (.tmp 18)⟩,
    ⟨(some 20), none, .fieldAddr 0 (.tmp 3)⟩,
    ⟨(some 21), none, .load none (.tmp 20)⟩,
    ⟨(some 22), none, .fieldAddr 1 (.tmp 2)⟩,
    ⟨(some 23), none, .load none (.tmp 22)⟩,
    ⟨(some 24), none, .ibin .mul (.tmp 21) (.tmp 23)⟩,
    ⟨(some 25), none, .ibin .add (.tmp 19) (.tmp 24)⟩,
    ⟨(some 26), none, .fieldAddr 1 (.tmp 2)⟩,
    ⟨(some 27), none, .load none (.tmp 26)⟩,
    ⟨(some 28), none, .fieldAddr 1 (.tmp 3)⟩,
    ⟨(some 29), none, .load none (.tmp 28)⟩,
    ⟨(some 30), none, .ibin .mul (.tmp 27) (.tmp 29)⟩,
    ⟨(some 31), none, .callF 25 [.tmp 25, .tmp 30]⟩,
    ⟨(some 32), none, .extract 0 (.tmp 31)⟩,
    ⟨(some 33), none, .extract 1 (.tmp 31)⟩,
    ⟨none, none, .store 2 (.tmp 4) (.tmp 32)⟩,
    ⟨(some 5), none, .mov (.tmp 33)⟩]

def f13b : ACode := (.seq (.ops f13r0)
  (.keep [2, 3, 4] (.seq (.seq (.ops f13r1)
  (.keep [2, 3, 4, 13] (.cond (.tmp 13) (.keep [4] (.seq (.ops f13r2)
  (.keep [4, 5] .ret))) .skip)))
  (.keep [2, 3, 4] (.seq (.ops f13r3)
  (.keep [4, 5] .ret))))))

def f13 : AFn := ⟨34, [.cell 4 (some 2), .tmp 5], f13b⟩

theorem f13_ok : compFn Try.prog 13 = some f13.strip := by kernel_rfl

/- function 14: weirhouse/tree.Wrong; parameters 1; operations that are not compiled: 0 -/
def f14r0 : List AInstr := [
    ⟨(some 2), none, .mov (.const (.int .i64 0))⟩]

def f14r1 : List AInstr := [
    ⟨(some 5), none, .mov (.tmp 0)⟩,
    ⟨(some 6), none, .len (.tmp 5)⟩,
    ⟨(some 7), none, .ibin .lss (.tmp 6) (.const (.int .i64 1))⟩,
    ⟨(some 8), none, .mov (.tmp 7)⟩,
    ⟨(some 9), (some (8, false)), .mov (.tmp 0)⟩,
    ⟨(some 10), (some (8, false)), .len (.tmp 9)⟩,
    ⟨(some 11), (some (8, false)), .ibin .gtr (.tmp 10) (.const (.int .i64 16))⟩,
    ⟨(some 12), none, .pick (.tmp 8) (.const (.bool true)) (.tmp 11)⟩]

def f14r2 : List AInstr := [
    ⟨(some 2), none, .mov (.const (.int .i64 2))⟩]

def f14r3 : List AInstr := [
    ⟨(some 13), none, .mov (.tmp 0)⟩,
    ⟨(some 14), none, .len (.tmp 13)⟩,
    ⟨(some 15), none, .mov (.const (.int .i64 0))⟩]

def f14r4 : List AInstr := [
    ⟨(some 16), none, .ibin .lss (.tmp 15) (.tmp 14)⟩]

def f14r5 : List AInstr := [
    ⟨(some 17), none, .mov (.tmp 15)⟩,
    ⟨(some 18), none, .indexAddr 2 (.tmp 13) (.tmp 15)⟩,
    ⟨(some 19), none, .load (some 2) (.tmp 18)⟩,
    ⟨(some 4), none, .alloc [.int .i64 0, .int .i64 0]⟩,
    ⟨(some 3), none, .mov (.tmp 17)⟩,
    ⟨none, none, .store 2 (.tmp 4) (.tmp 19)⟩]

def f14r6 : List AInstr := [
    ⟨(some 20), none, .fieldAddr 1 (.tmp 4)⟩,
    ⟨(some 21), none, .load none (.tmp 20)⟩,
    ⟨(some 22), none, .ibin .lss (.tmp 21) (.const (.int .i64 1))⟩,
    ⟨(some 23), none, .mov (.tmp 22)⟩,
    ⟨(some 24), (some (23, false)), .fieldAddr 1 (.tmp 4)⟩,
    ⟨(some 25), (some (23, false)), .load none (.tmp 24)⟩,
    ⟨(some 26), (some (23, false)), .ibin .gtr (.tmp 25) (.const (.int .i64 12))⟩,
    ⟨(some 27), none, .pick (.tmp 23) (.const (.bool true)) (.tmp 26)⟩]

def f14r7 : List AInstr := [
    ⟨(some 2), none, .mov (.const (.int .i64 2))⟩]

def f14r8 : List AInstr := [
    ⟨(some 28), none, .mov (.tmp 3)⟩,
    ⟨(some 29), none, .ibin .eql (.tmp 28) (.const (.int .i64 0))⟩,
    ⟨(some 30), none, .mov (.tmp 29)⟩,
    ⟨(some 31), (some (30, true)), .fieldAddr 0 (.tmp 4)⟩,
    ⟨(some 32), (some (30, true)), .load none (.tmp 31)⟩,
    ⟨(some 33), (some (30, true)), .ibin .neq (.tmp 32) (.const (.int .i64 (-1)))⟩,
    ⟨(some 34), none, .pick (.tmp 30) (.tmp 33) (.const (.bool false))⟩,
    ⟨(some 35), none, .mov (.tmp 34)⟩,
    ⟨(some 36), (some (35, false)), .mov (.tmp 3)⟩,
    ⟨(some 37), (some (35, false)), .ibin .gtr (.tmp 36) (.const (.int .i64 0))⟩,
    ⟨(some 38), (some (35, false)), .mov (.tmp 37)⟩,
    ⟨(some 39), (some (38, true)), .fieldAddr 0 (.tmp 4)⟩,
    ⟨(some 40), (some (38, true)), .load none (.tmp 39)⟩,
    ⟨(some 41), (some (38, true)), .ibin .lss (.tmp 40) (.const (.int .i64 0))⟩,
    ⟨(some 42), (some (38, true)), .mov (.tmp 41)⟩,
    ⟨(some 43), (some (42, false)), .fieldAddr 0 (.tmp 4)⟩,
    ⟨(some 44), (some (42, false)), .load none (.tmp 43)⟩,
    ⟨(some 45), (some (42, false)), .mov (.tmp 3)⟩,
    ⟨(some 46), (some (42, false)), .ibin .geq (.tmp 44) (.tmp 45)⟩,
    ⟨(some 47), (some (38, true)), .pick (.tmp 42) (.const (.bool true)) (.tmp 46)⟩,
    ⟨(some 48), (some (35, false)), .pick (.tmp 38) (.tmp 47) (.const (.bool false))⟩,
    ⟨(some 49), none, .pick (.tmp 35) (.const (.bool true)) (.tmp 48)⟩]

def f14r9 : List AInstr := [
    ⟨(some 2), none, .mov (.const (.int .i64 1))⟩]

def f14r10 : List AInstr := [
    ⟨(some 50), none, .ibin .add (.tmp 15) (.const (.int .i64 1))⟩,
    ⟨(some 15), none, .mov (.tmp 50)⟩]

/-- live: [13, 14, 15] -/
def f14l0 : ACode := (.seq (.ops f14r4)
  (.keep [13, 14, 15, 16] (.seq (.cond (.tmp 16) .skip (.exit 0))
  (.keep [13, 14, 15] (.seq (.block 1 (.seq (.ops f14r5)
  (.keep [3, 4, 13, 14, 15] (.seq (.seq (.ops f14r6)
  (.keep [3, 4, 13, 14, 15, 27] (.cond (.tmp 27) (.keep [] (.seq (.ops f14r7)
  (.keep [2] .ret))) .skip)))
  (.keep [3, 4, 13, 14, 15] (.seq (.ops f14r8)
  (.keep [13, 14, 15, 49] (.cond (.tmp 49) (.keep [] (.seq (.ops f14r9)
  (.keep [2] .ret))) .skip))))))))
  (.keep [13, 14, 15] (.ops f14r10)))))))

def f14r12 : List AInstr := [
    ⟨(some 2), none, .mov (.const (.int .i64 0))⟩]

def f14b : ACode := (.seq (.ops f14r0)
  (.keep [0] (.seq (.seq (.ops f14r1)
  (.keep [0, 12] (.cond (.tmp 12) (.keep [] (.seq (.ops f14r2)
  (.keep [2] .ret))) .skip)))
  (.keep [0] (.seq (.seq (.ops f14r3)
  (.keep [13, 14, 15] (.block 0 (.loop f14l0))))
  (.keep [] (.seq (.ops f14r12)
  (.keep [2] .ret))))))))

def f14 : AFn := ⟨51, [.tmp 2], f14b⟩

theorem f14_ok : compFn Try.prog 14 = some f14.strip := by kernel_rfl

/- function 15: slices.Clone[[]weirhouse/api.Node,weirhouse/api.Node]; parameters 1; operations that are not compiled: 0 -/
def f15r0 : List AInstr := [
    ⟨(some 2), none, .mov (.const (.slice none 0 0))⟩]

def f15r1 : List AInstr := [
    ⟨(some 3), none, .mov (.tmp 0)⟩,
    ⟨(some 4), none, .eqS false (.tmp 3) (.const (.slice none 0 0))⟩]

def f15r2 : List AInstr := [
    ⟨(some 2), none, .mov (.const (.slice none 0 0))⟩]

def f15r3 : List AInstr := [
    ⟨(some 5), none, .buildSlice 2 0 [] []⟩,
    ⟨(some 6), none, .mov (.tmp 0)⟩,
    ⟨(some 7), none, .append 2 16 (.tmp 5) (.tmp 6)⟩,
    ⟨(some 2), none, .mov (.tmp 7)⟩]

def f15b : ACode := (.seq (.ops f15r0)
  (.keep [0] (.seq (.seq (.ops f15r1)
  (.keep [0, 4] (.cond (.tmp 4) (.keep [] (.seq (.ops f15r2)
  (.keep [2] .ret))) .skip)))
  (.keep [0] (.seq (.ops f15r3)
  (.keep [2] .ret))))))

def f15 : AFn := ⟨8, [.tmp 2], f15b⟩

theorem f15_ok : compFn Try.prog 15 = some f15.strip := by kernel_rfl

/- function 16: weirhouse/frac.Cmp; parameters 2; operations that are not compiled: 0 -/
def f16r0 : List AInstr := [
    ⟨(some 2), none, .box (.tmp 0)⟩,
    ⟨(some 3), none, .box (.tmp 1)⟩,
    ⟨(some 4), none, .mov (.const (.int .i64 0))⟩,
    ⟨(some 5), none, .mov (.const (.int .i64 0))⟩]

def f16r1 : List AInstr := [
    ⟨(some 8), none, .load (some 2) (.tmp 2)⟩,
    ⟨(some 9), none, .callF 24 [.tmp 8]⟩,
    ⟨(some 10), none, .un .not (.tmp 9)⟩,
    ⟨(some 11), none, .mov (.tmp 10)⟩,
    ⟨(some 12), (some (11, false)), .load (some 2) (.tmp 3)⟩,
    ⟨(some 13), (some (11, false)), .callF 24 [.tmp 12]⟩,
    ⟨(some 14), (some (11, false)), .un .not (.tmp 13)⟩,
    ⟨(some 15), none, .pick (.tmp 11) (.const (.bool true)) (.tmp 14)⟩]

def f16r2 : List AInstr := [
    ⟨(some 4), none, .mov (.const (.int .i64 0))⟩,
    ⟨(some 5), none, .mov (.const (.int .i64 2))⟩]

def f16r3 : List AInstr := [
    ⟨(some 16), none, .fieldAddr 0 (.tmp 2)⟩,
    ⟨(some 17), none, .load none (.tmp 16)⟩,
    ⟨(some 18), none, .fieldAddr 1 (.tmp 3)⟩,
    ⟨(some 19), none, .load none (.tmp 18)⟩,
    ⟨(some 20), none, .ibin .mul (.tmp 17) (.tmp 19)⟩,
    ⟨(some 21), none, .fieldAddr 0 (.tmp 3)⟩,
    ⟨(some 22), none, .load none (.tmp 21)⟩,
    ⟨(some 23), none, .fieldAddr 1 (.tmp 2)⟩,
    ⟨(some 24), none, .load none (.tmp 23)⟩,
    ⟨(some 25), none, .ibin .mul (.tmp 22) (.tmp 24)⟩,
    ⟨(some 6), none, .mov (.tmp 20)⟩,
    ⟨(some 7), none, .mov (.tmp 25)⟩]

def f16r4 : List AInstr := [
    ⟨(some 27), none, .mov (.tmp 6)⟩,
    ⟨(some 28), none, .mov (.tmp 7)⟩,
    ⟨(some 29), none, .ibin .lss (.tmp 27) (.tmp 28)⟩,
    ⟨(some 26), none, .mov (.tmp 29)⟩]

def f16r5 : List AInstr := [
    ⟨(some 4), none, .mov (.const (.int .i64 (-1)))⟩,
    ⟨(some 5), none, .mov (.const (.int .i64 0))⟩]

def f16r6 : List AInstr := [
    ⟨(some 31), none, .mov (.tmp 6)⟩,
    ⟨(some 32), none, .mov (.tmp 7)⟩,
    ⟨(some 33), none, .ibin .gtr (.tmp 31) (.tmp 32)⟩,
    ⟨(some 30), none, .mov (.tmp 33)⟩]

def f16r7 : List AInstr := [
    ⟨(some 4), none, .mov (.const (.int .i64 1))⟩,
    ⟨(some 5), none, .mov (.const (.int .i64 0))⟩]

def f16r8 : List AInstr := [
    ⟨(some 4), none, .mov (.const (.int .i64 0))⟩,
    ⟨(some 5), none, .mov (.const (.int .i64 0))⟩]

def f16b : ACode := (.seq (.ops f16r0)
  (.keep [2, 3] (.seq (.seq (.ops f16r1)
  (.keep [2, 3, 15] (.cond (.tmp 15) (.keep [] (.seq (.ops f16r2)
  (.keep [4, 5] .ret))) .skip)))
  (.keep [2, 3] (.seq (.draw f16r3 [(0, 0, false), (0, 0, false), (0, 0, false), (0, 0, false), (0, 0, false), (0, 0, false), (0, 0, false), (0, 0, false), (0, 0, false), (0, 0, false), (0, 0, false), (0, 0, false)])
  (.keep [6, 7] (.seq (.block 0 (.seq (.ops f16r4)
  (.keep [6, 7, 26] (.cond (.tmp 26) (.keep [] (.seq (.ops f16r5)
  (.keep [4, 5] .ret))) (.keep [6, 7] (.seq (.ops f16r6)
  (.keep [30] (.cond (.tmp 30) (.keep [] (.seq (.ops f16r7)
  (.keep [4, 5] .ret))) .skip))))))))
  (.keep [] (.seq (.ops f16r8)
  (.keep [4, 5] .ret))))))))))

def f16 : AFn := ⟨34, [.tmp 4, .tmp 5], f16b⟩

theorem f16_ok : compFn Try.prog 16 = some f16.strip := by kernel_rfl

/- function 17: slices.Equal[[]int,int]; parameters 2; operations that are not compiled: 0 -/
def f17r0 : List AInstr := [
    ⟨(some 4), none, .mov (.const (.bool false))⟩]

def f17r1 : List AInstr := [
    ⟨(some 6), none, .mov (.tmp 0)⟩,
    ⟨(some 7), none, .len (.tmp 6)⟩,
    ⟨(some 8), none, .mov (.tmp 1)⟩,
    ⟨(some 9), none, .len (.tmp 8)⟩,
    ⟨(some 10), none, .ibin .neq (.tmp 7) (.tmp 9)⟩]

def f17r2 : List AInstr := [
    ⟨(some 4), none, .mov (.const (.bool false))⟩]

def f17r3 : List AInstr := [
    ⟨(some 11), none, .mov (.tmp 0)⟩,
    ⟨(some 12), none, .len (.tmp 11)⟩,
    ⟨(some 13), none, .mov (.const (.int .i64 0))⟩]

def f17r4 : List AInstr := [
    ⟨(some 14), none, .ibin .lss (.tmp 13) (.tmp 12)⟩]

def f17r5 : List AInstr := [
    ⟨(some 15), none, .mov (.tmp 13)⟩,
    ⟨(some 5), none, .mov (.tmp 15)⟩]

def f17r6 : List AInstr := [
    ⟨(some 16), none, .mov (.tmp 0)⟩,
    ⟨(some 17), none, .mov (.tmp 5)⟩,
    ⟨(some 18), none, .indexAddr 1 (.tmp 16) (.tmp 17)⟩,
    ⟨(some 19), none, .load none (.tmp 18)⟩,
    ⟨(some 20), none, .mov (.tmp 1)⟩,
    ⟨(some 21), none, .mov (.tmp 5)⟩,
    ⟨(some 22), none, .indexAddr 1 (.tmp 20) (.tmp 21)⟩,
    ⟨(some 23), none, .load none (.tmp 22)⟩,
    ⟨(some 24), none, .ibin .neq (.tmp 19) (.tmp 23)⟩]

def f17r7 : List AInstr := [
    ⟨(some 4), none, .mov (.const (.bool false))⟩]

def f17r8 : List AInstr := [
    ⟨(some 25), none, .ibin .add (.tmp 13) (.const (.int .i64 1))⟩,
    ⟨(some 13), none, .mov (.tmp 25)⟩]

/-- live: [0, 1, 12, 13] -/
def f17l0 : ACode := (.seq (.ops f17r4)
  (.keep [0, 1, 12, 13, 14] (.seq (.cond (.tmp 14) .skip (.exit 0))
  (.keep [0, 1, 12, 13] (.seq (.block 1 (.seq (.ops f17r5)
  (.keep [0, 1, 5, 12, 13] (.seq (.draw f17r6 [(0, 0, false), (0, 0, false), (0, 0, false), (0, 0, false), (0, 0, false), (0, 0, false), (0, 0, false), (0, 0, false), (0, 0, false)])
  (.keep [0, 1, 12, 13, 24] (.cond (.tmp 24) (.keep [] (.seq (.ops f17r7)
  (.keep [4] .ret))) .skip))))))
  (.keep [0, 1, 12, 13] (.ops f17r8)))))))

def f17r10 : List AInstr := [
    ⟨(some 4), none, .mov (.const (.bool true))⟩]

def f17b : ACode := (.seq (.ops f17r0)
  (.keep [0, 1] (.seq (.seq (.ops f17r1)
  (.keep [0, 1, 10] (.cond (.tmp 10) (.keep [] (.seq (.ops f17r2)
  (.keep [4] .ret))) .skip)))
  (.keep [0, 1] (.seq (.seq (.ops f17r3)
  (.keep [0, 1, 12, 13] (.block 0 (.loop f17l0))))
  (.keep [] (.seq (.ops f17r10)
  (.keep [4] .ret))))))))

def f17 : AFn := ⟨26, [.tmp 4], f17b⟩

theorem f17_ok : compFn Try.prog 17 = some f17.strip := by kernel_rfl

/- function 18: slices.Insert[[]int,int]; parameters 3; operations that are not compiled: 0 -/
def f18r0 : List AInstr := [
    ⟨(some 6), none, .mov (.const (.slice none 0 0))⟩]

def f18r1 : List AInstr := [
    ⟨(some 10), none, .mov (.tmp 0)⟩,
    ⟨(some 11), none, .mov (.tmp 1)⟩,
    ⟨(some 12), none, .slice 1 (.tmp 10) (some (.tmp 11)) none none⟩]

def f18r2 : List AInstr := [
    ⟨(some 13), none, .mov (.tmp 2)⟩,
    ⟨(some 14), none, .len (.tmp 13)⟩,
    ⟨(some 7), none, .mov (.tmp 14)⟩]

def f18r3 : List AInstr := [
    ⟨(some 15), none, .mov (.tmp 7)⟩,
    ⟨(some 16), none, .ibin .eql (.tmp 15) (.const (.int .i64 0))⟩]

def f18r4 : List AInstr := [
    ⟨(some 17), none, .mov (.tmp 0)⟩,
    ⟨(some 6), none, .mov (.tmp 17)⟩]

def f18r5 : List AInstr := [
    ⟨(some 18), none, .mov (.tmp 0)⟩,
    ⟨(some 19), none, .len (.tmp 18)⟩,
    ⟨(some 8), none, .mov (.tmp 19)⟩]

def f18r6 : List AInstr := [
    ⟨(some 20), none, .mov (.tmp 1)⟩,
    ⟨(some 21), none, .mov (.tmp 8)⟩,
    ⟨(some 22), none, .ibin .eql (.tmp 20) (.tmp 21)⟩]

def f18r7 : List AInstr := [
    ⟨(some 23), none, .mov (.tmp 0)⟩,
    ⟨(some 24), none, .mov (.tmp 2)⟩,
    ⟨(some 25), none, .append 1 8 (.tmp 23) (.tmp 24)⟩,
    ⟨(some 6), none, .mov (.tmp 25)⟩]

def f18r8 : List AInstr := [
    ⟨(some 26), none, .mov (.tmp 8)⟩,
    ⟨(some 27), none, .mov (.tmp 7)⟩,
    ⟨(some 28), none, .ibin .add (.tmp 26) (.tmp 27)⟩,
    ⟨(some 29), none, .mov (.tmp 0)⟩,
    ⟨(some 30), none, .cap (.tmp 29)⟩,
    ⟨(some 31), none, .ibin .gtr (.tmp 28) (.tmp 30)⟩]

def f18r9 : List AInstr := [
    ⟨(some 32), none, .mov (.tmp 0)⟩,
    ⟨(some 33), none, .mov (.tmp 1)⟩,
    ⟨(some 34), none, .slice 1 (.tmp 32) none (some (.tmp 33)) none⟩,
    ⟨(some 35), none, .mov (.tmp 8)⟩,
    ⟨(some 36), none, .mov (.tmp 7)⟩,
    ⟨(some 37), none, .ibin .add (.tmp 35) (.tmp 36)⟩,
    ⟨(some 38), none, .mov (.tmp 1)⟩,
    ⟨(some 39), none, .ibin .sub (.tmp 37) (.tmp 38)⟩,
    ⟨(some 40), none, .appendZ 1 8 [.int .i64 0] (.tmp 34) (.tmp 39)⟩,
    ⟨(some 9), none, .mov (.tmp 40)⟩]

def f18r10 : List AInstr := [
    ⟨(some 41), none, .mov (.tmp 9)⟩,
    ⟨(some 42), none, .mov (.tmp 1)⟩,
    ⟨(some 43), none, .slice 1 (.tmp 41) (some (.tmp 42)) none none⟩,
    ⟨(some 44), none, .mov (.tmp 2)⟩,
    ⟨(some 45), none, .copy 1 (.tmp 43) (.tmp 44)⟩]

def f18r11 : List AInstr := [
    ⟨(some 46), none, .mov (.tmp 9)⟩,
    ⟨(some 47), none, .mov (.tmp 1)⟩,
    ⟨(some 48), none, .mov (.tmp 7)⟩,
    ⟨(some 49), none, .ibin .add (.tmp 47) (.tmp 48)⟩,
    ⟨(some 50), none, .slice 1 (.tmp 46) (some (.tmp 49)) none none⟩,
    ⟨(some 51), none, .mov (.tmp 0)⟩,
    ⟨(some 52), none, .mov (.tmp 1)⟩,
    ⟨(some 53), none, .slice 1 (.tmp 51) (some (.tmp 52)) none none⟩,
    ⟨(some 54), none, .copy 1 (.tmp 50) (.tmp 53)⟩]

def f18r12 : List AInstr := [
    ⟨(some 55), none, .mov (.tmp 9)⟩,
    ⟨(some 6), none, .mov (.tmp 55)⟩]

def f18r13 : List AInstr := [
    ⟨(some 56), none, .mov (.tmp 0)⟩,
    ⟨(some 57), none, .mov (.tmp 8)⟩,
    ⟨(some 58), none, .mov (.tmp 7)⟩,
    ⟨(some 59), none, .ibin .add (.tmp 57) (.tmp 58)⟩,
    ⟨(some 60), none, .slice 1 (.tmp 56) none (some (.tmp 59)) none⟩,
    ⟨(some 0), none, .mov (.tmp 60)⟩]

def f18r14 : List AInstr := [
    ⟨(some 61), none, .mov (.tmp 2)⟩,
    ⟨(some 62), none, .mov (.tmp 0)⟩,
    ⟨(some 63), none, .mov (.tmp 1)⟩,
    ⟨(some 64), none, .mov (.tmp 7)⟩,
    ⟨(some 65), none, .ibin .add (.tmp 63) (.tmp 64)⟩,
    ⟨(some 66), none, .slice 1 (.tmp 62) (some (.tmp 65)) none none⟩,
    ⟨(some 67), none, .callF 26 [.tmp 61, .tmp 66]⟩,
    ⟨(some 68), none, .un .not (.tmp 67)⟩]

def f18r15 : List AInstr := [
    ⟨(some 69), none, .mov (.tmp 0)⟩,
    ⟨(some 70), none, .mov (.tmp 1)⟩,
    ⟨(some 71), none, .mov (.tmp 7)⟩,
    ⟨(some 72), none, .ibin .add (.tmp 70) (.tmp 71)⟩,
    ⟨(some 73), none, .slice 1 (.tmp 69) (some (.tmp 72)) none none⟩,
    ⟨(some 74), none, .mov (.tmp 0)⟩,
    ⟨(some 75), none, .mov (.tmp 1)⟩,
    ⟨(some 76), none, .slice 1 (.tmp 74) (some (.tmp 75)) none none⟩,
    ⟨(some 77), none, .copy 1 (.tmp 73) (.tmp 76)⟩]

def f18r16 : List AInstr := [
    ⟨(some 78), none, .mov (.tmp 0)⟩,
    ⟨(some 79), none, .mov (.tmp 1)⟩,
    ⟨(some 80), none, .slice 1 (.tmp 78) (some (.tmp 79)) none none⟩,
    ⟨(some 81), none, .mov (.tmp 2)⟩,
    ⟨(some 82), none, .copy 1 (.tmp 80) (.tmp 81)⟩]

def f18r17 : List AInstr := [
    ⟨(some 83), none, .mov (.tmp 0)⟩,
    ⟨(some 6), none, .mov (.tmp 83)⟩]

def f18r18 : List AInstr := [
    ⟨(some 84), none, .mov (.tmp 0)⟩,
    ⟨(some 85), none, .mov (.tmp 8)⟩,
    ⟨(some 86), none, .slice 1 (.tmp 84) (some (.tmp 85)) none none⟩,
    ⟨(some 87), none, .mov (.tmp 2)⟩,
    ⟨(some 88), none, .copy 1 (.tmp 86) (.tmp 87)⟩]

def f18r19 : List AInstr := [
    ⟨(some 89), none, .mov (.tmp 0)⟩,
    ⟨(some 90), none, .mov (.tmp 1)⟩,
    ⟨(some 91), none, .slice 1 (.tmp 89) (some (.tmp 90)) none none⟩,
    ⟨(some 92), none, .mov (.tmp 7)⟩,
    ⟨(some 93), none, .callF 27 [.tmp 91, .tmp 92]⟩]

def f18r20 : List AInstr := [
    ⟨(some 94), none, .mov (.tmp 0)⟩,
    ⟨(some 6), none, .mov (.tmp 94)⟩]

def f18b : ACode := (.seq (.ops f18r0)
  (.keep [0, 1, 2] (.seq (.ops f18r1)
  (.keep [0, 1, 2] (.seq (.ops f18r2)
  (.keep [0, 1, 2, 7] (.seq (.seq (.ops f18r3)
  (.keep [0, 1, 2, 7, 16] (.cond (.tmp 16) (.keep [0] (.seq (.ops f18r4)
  (.keep [6] .ret))) .skip)))
  (.keep [0, 1, 2, 7] (.seq (.ops f18r5)
  (.keep [0, 1, 2, 7, 8] (.seq (.seq (.ops f18r6)
  (.keep [0, 1, 2, 7, 8, 22] (.cond (.tmp 22) (.keep [0, 2] (.seq (.ops f18r7)
  (.keep [6] .ret))) .skip)))
  (.keep [0, 1, 2, 7, 8] (.seq (.seq (.ops f18r8)
  (.keep [0, 1, 2, 7, 8, 31] (.cond (.tmp 31) (.keep [0, 1, 2, 7, 8] (.seq (.ops f18r9)
  (.keep [0, 1, 2, 7, 9] (.seq (.ops f18r10)
  (.keep [0, 1, 7, 9] (.seq (.draw f18r11 [(0, 0, false), (0, 0, false), (0, 0, false), (0, 0, false), (0, 0, false), (0, 0, false), (0, 0, false), (0, 0, false), (0, 0, true)])
  (.keep [9] (.seq (.ops f18r12)
  (.keep [6] .ret))))))))) .skip)))
  (.keep [0, 1, 2, 7, 8] (.seq (.ops f18r13)
  (.keep [0, 1, 2, 7, 8] (.seq (.seq (.ops f18r14)
  (.keep [0, 1, 2, 7, 8, 68] (.cond (.tmp 68) (.keep [0, 1, 2, 7] (.seq (.draw f18r15 [(0, 0, false), (0, 0, false), (0, 0, false), (0, 0, false), (0, 0, false), (0, 0, false), (0, 0, false), (0, 0, false), (0, 0, true)])
  (.keep [0, 1, 2] (.seq (.ops f18r16)
  (.keep [0] (.seq (.ops f18r17)
  (.keep [6] .ret))))))) .skip)))
  (.keep [0, 1, 2, 7, 8] (.seq (.ops f18r18)
  (.keep [0, 1, 7] (.seq (.ops f18r19)
  (.keep [0] (.seq (.ops f18r20)
  (.keep [6] .ret))))))))))))))))))))))))

def f18 : AFn := ⟨95, [.tmp 6], f18b⟩

theorem f18_ok : compFn Try.prog 18 = some f18.strip := by kernel_rfl

/- function 19: slices.Index[[]int,int]; parameters 2; operations that are not compiled: 0 -/
def f19r0 : List AInstr := [
    ⟨(some 4), none, .mov (.const (.int .i64 0))⟩]

def f19r1 : List AInstr := [
    ⟨(some 6), none, .mov (.tmp 0)⟩,
    ⟨(some 7), none, .len (.tmp 6)⟩,
    ⟨(some 8), none, .mov (.const (.int .i64 0))⟩]

def f19r2 : List AInstr := [
    ⟨(some 9), none, .ibin .lss (.tmp 8) (.tmp 7)⟩]

def f19r3 : List AInstr := [
    ⟨(some 10), none, .mov (.tmp 8)⟩,
    ⟨(some 5), none, .mov (.tmp 10)⟩]

def f19r4 : List AInstr := [
    ⟨(some 11), none, .mov (.tmp 1)⟩,
    ⟨(some 12), none, .mov (.tmp 0)⟩,
    ⟨(some 13), none, .mov (.tmp 5)⟩,
    ⟨(some 14), none, .indexAddr 1 (.tmp 12) (.tmp 13)⟩,
    ⟨(some 15), none, .load none (.tmp 14)⟩,
    ⟨(some 16), none, .ibin .eql (.tmp 11) (.tmp 15)⟩]

def f19r5 : List AInstr := [
    ⟨(some 17), none, .mov (.tmp 5)⟩,
    ⟨(some 4), none, .mov (.tmp 17)⟩]

def f19r6 : List AInstr := [
    ⟨(some 18), none, .ibin .add (.tmp 8) (.const (.int .i64 1))⟩,
    ⟨(some 8), none, .mov (.tmp 18)⟩]

/-- live: [0, 1, 7, 8] -/
def f19l0 : ACode := (.seq (.ops f19r2)
  (.keep [0, 1, 7, 8, 9] (.seq (.cond (.tmp 9) .skip (.exit 0))
  (.keep [0, 1, 7, 8] (.seq (.block 1 (.seq (.ops f19r3)
  (.keep [0, 1, 5, 7, 8] (.seq (.ops f19r4)
  (.keep [0, 1, 5, 7, 8, 16] (.cond (.tmp 16) (.keep [5] (.seq (.ops f19r5)
  (.keep [4] .ret))) .skip))))))
  (.keep [0, 1, 7, 8] (.ops f19r6)))))))

def f19r8 : List AInstr := [
    ⟨(some 4), none, .mov (.const (.int .i64 (-1)))⟩]

def f19b : ACode := (.seq (.ops f19r0)
  (.keep [0, 1] (.seq (.seq (.ops f19r1)
  (.keep [0, 1, 7, 8] (.block 0 (.loop f19l0))))
  (.keep [] (.seq (.ops f19r8)
  (.keep [4] .ret))))))

def f19 : AFn := ⟨19, [.tmp 4], f19b⟩

theorem f19_ok : compFn Try.prog 19 = some f19.strip := by kernel_rfl

/- function 20: slices.ContainsFunc[[]weirhouse/api.Node,weirhouse/api.Node]; parameters 2; operations that are not compiled: 0 -/
def f20r0 : List AInstr := [
    ⟨(some 4), none, .mov (.const (.bool false))⟩]

def f20r1 : List AInstr := [
    ⟨(some 5), none, .mov (.tmp 0)⟩,
    ⟨(some 6), none, .mov (.tmp 1)⟩,
    ⟨(some 7), none, .callF 28 [.tmp 5, .tmp 6]⟩,
    ⟨(some 8), none, .ibin .geq (.tmp 7) (.const (.int .i64 0))⟩,
    ⟨(some 4), none, .mov (.tmp 8)⟩]

def f20b : ACode := (.seq (.ops f20r0)
  (.keep [0, 1] (.seq (.ops f20r1)
  (.keep [4] .ret))))

def f20 : AFn := ⟨9, [.tmp 4], f20b⟩

theorem f20_ok : compFn Try.prog 20 = some f20.strip := by kernel_rfl

/- function 21: weirhouse/tree.Leaves$1; parameters 1; operations that are not compiled: 0 -/
def f21r0 : List AInstr := [
    ⟨(some 2), none, .box (.tmp 0)⟩,
    ⟨(some 3), none, .mov (.const (.bool false))⟩]

def f21r1 : List AInstr := [
    ⟨(some 4), none, .fieldAddr 0 (.tmp 2)⟩,
    ⟨(some 5), none, .load none (.tmp 4)⟩,
    ⟨(some 6), none, .load none (.tmp 1)⟩,
    ⟨(some 7), none, .ibin .eql (.tmp 5) (.tmp 6)⟩,
    ⟨(some 3), none, .mov (.tmp 7)⟩]

def f21b : ACode := (.seq (.ops f21r0)
  (.keep [1, 2] (.seq (.ops f21r1)
  (.keep [3] .ret))))

def f21 : AFn := ⟨8, [.tmp 3], f21b⟩

theorem f21_ok : compFn Try.prog 21 = some f21.strip := by kernel_rfl

/- function 22: weirhouse/frac.Mul; parameters 2; operations that are not compiled: 0 -/
def f22r0 : List AInstr := [
    ⟨(some 2), none, .box (.tmp 0)⟩,
    ⟨(some 3), none, .box (.tmp 1)⟩,
    ⟨(some 4), none, .alloc [.int .i64 0, .int .i64 0]⟩,
    ⟨(some 5), none, .mov (.const (.int .i64 0))⟩]

def f22r1 : List AInstr := [
    ⟨(some 6), none, .load (some 2) (.tmp 2)⟩,
    ⟨(some 7), none, .callF 24 [.tmp 6]⟩,
    ⟨(some 8), none, .un .not (.tmp 7)⟩,
    ⟨(some 9), none, .mov (.tmp 8)⟩,
    ⟨(some 10), (some (9, false)), .load (some 2) (.tmp 3)⟩,
    ⟨(some 11), (some (9, false)), .callF 24 [.tmp 10]⟩,
    ⟨(some 12), (some (9, false)), .un .not (.tmp 11)⟩,
    ⟨(some 13), none, .pick (.tmp 9) (.const (.bool true)) (.tmp 12)⟩]

def f22r2 : List AInstr := [
    ⟨(some 14), none, .build [.int .i64 0, .int .i64 0] []⟩,
    ⟨none, none, .store 2 (.tmp 4) (.tmp 14)⟩,
    ⟨(some 5), none, .mov (.const (.int .i64 2))⟩]

def f22r3 : List AInstr := [
    ⟨(some 15), none, .fieldAddr 0 (.tmp 2)⟩,
    ⟨(some 16), none, .load none (.tmp 15)⟩,
    ⟨(some 17), none, .fieldAddr 0 (.tmp 3)⟩,
    ⟨(some 18), none, .load none (.tmp 17)⟩,
    ⟨(some 19), none, .ibin .mul (.tmp 16) (.tmp 18)⟩,
    ⟨(some 20), none, .fieldAddr 1 (.tmp 2)⟩,
    ⟨(some 21), none, .load none (.tmp 20)⟩,
    ⟨(some 22), none, .fieldAddr 1 (.tmp 3)⟩,
    ⟨(some 23), none, .load none (.tmp 22)⟩,
    ⟨(some 24), none, .ibin .mul (.tmp 21) (.tmp 23)⟩,
    ⟨(some 25), none, .callF 25 [.tmp 19, .tmp 24]⟩,
    ⟨(some 26), none, .extract 0 (.tmp 25)⟩,
    ⟨(some 27), none, .extract 1 (.tmp 25)⟩,
    ⟨none, none, .store 2 (.tmp 4) (.tmp 26)⟩,
    ⟨(some 5), none, .mov (.tmp 27)⟩]

def f22b : ACode := (.seq (.ops f22r0)
  (.keep [2, 3, 4] (.seq (.seq (.ops f22r1)
  (.keep [2, 3, 4, 13] (.cond (.tmp 13) (.keep [4] (.seq (.ops f22r2)
  (.keep [4, 5] .ret))) .skip)))
  (.keep [2, 3, 4] (.seq (.ops f22r3)
  (.keep [4, 5] .ret))))))

def f22 : AFn := ⟨28, [.cell 4 (some 2), .tmp 5], f22b⟩

theorem f22_ok : compFn Try.prog 22 = some f22.strip := by kernel_rfl

/- function 23: weirhouse/tree.part; parameters 2; operations that are not compiled: 0 -/
def f23r0 : List AInstr := [
    ⟨(some 4), none, .alloc [.int .i64 0, .int .i64 0]⟩]

def f23r1 : List AInstr := [
    ⟨(some 8), none, .mov (.tmp 0)⟩,
    ⟨(some 9), none, .mov (.tmp 1)⟩,
    ⟨(some 10), none, .indexAddr 2 (.tmp 8) (.tmp 9)⟩,
    ⟨(some 11), none, .fieldAddr 0 (.tmp 10)⟩,
    ⟨(some 12), none, .load none (.tmp 11)⟩,
    ⟨(some 13), none, .ibin .lss (.tmp 12) (.const (.int .i64 0))⟩]

def f23r2 : List AInstr := [
    ⟨(some 14), none, .build [.int .i64 0, .int .i64 0] [(0, 1, (.const (.int .i64 1))), (1, 1, (.const (.int .i64 1)))]⟩,
    ⟨none, none, .store 2 (.tmp 4) (.tmp 14)⟩]

def f23r3 : List AInstr := [
    ⟨(some 5), none, .mov (.const (.int .i64 0))⟩]

def f23r4 : List AInstr := [
    ⟨(some 15), none, .mov (.tmp 0)⟩,
    ⟨(some 16), none, .len (.tmp 15)⟩,
    ⟨(some 17), none, .mov (.const (.int .i64 0))⟩]

def f23r5 : List AInstr := [
    ⟨(some 18), none, .ibin .lss (.tmp 17) (.tmp 16)⟩]

def f23r6 : List AInstr := [
    ⟨(some 19), none, .indexAddr 2 (.tmp 15) (.tmp 17)⟩,
    ⟨(some 20), none, .load (some 2) (.tmp 19)⟩,
    ⟨(some 7), none, .alloc [.int .i64 0, .int .i64 0]⟩,
    ⟨none, none, .store 2 (.tmp 7) (.tmp 20)⟩]

def f23r7 : List AInstr := [
    ⟨(some 21), none, .fieldAddr 0 (.tmp 7)⟩,
    ⟨(some 22), none, .load none (.tmp 21)⟩,
    ⟨(some 23), none, .mov (.tmp 0)⟩,
    ⟨(some 24), none, .mov (.tmp 1)⟩,
    ⟨(some 25), none, .indexAddr 2 (.tmp 23) (.tmp 24)⟩,
    ⟨(some 26), none, .fieldAddr 0 (.tmp 25)⟩,
    ⟨(some 27), none, .load none (.tmp 26)⟩,
    ⟨(some 28), none, .ibin .eql (.tmp 22) (.tmp 27)⟩]

def f23r8 : List AInstr := [
    ⟨(some 29), none, .mov (.tmp 5)⟩,
    ⟨(some 30), none, .fieldAddr 1 (.tmp 7)⟩,
    ⟨(some 31), none, .load none (.tmp 30)⟩,
    ⟨(some 32), none, .ibin .add (.tmp 29) (.tmp 31)⟩,
    ⟨(some 5), none, .mov (.tmp 32)⟩]

def f23r9 : List AInstr := [
    ⟨(some 33), none, .ibin .add (.tmp 17) (.const (.int .i64 1))⟩,
    ⟨(some 17), none, .mov (.tmp 33)⟩]

/-- live: [0, 1, 4, 5, 15, 16, 17] -/
def f23l0 : ACode := (.seq (.ops f23r5)
  (.keep [0, 1, 4, 5, 15, 16, 17, 18] (.seq (.cond (.tmp 18) .skip (.exit 0))
  (.keep [0, 1, 4, 5, 15, 16, 17] (.seq (.block 1 (.seq (.ops f23r6)
  (.keep [0, 1, 4, 5, 7, 15, 16, 17] (.seq (.draw f23r7 [(0, 0, false), (0, 0, false), (0, 0, false), (0, 0, false), (0, 0, false), (0, 0, false), (0, 0, false), (0, 0, false)])
  (.keep [0, 1, 4, 5, 7, 15, 16, 17, 28] (.cond (.tmp 28) (.keep [0, 1, 4, 5, 7, 15, 16, 17] (.ops f23r8)) .skip))))))
  (.keep [0, 1, 4, 5, 15, 16, 17] (.ops f23r9)))))))

def f23r11 : List AInstr := [
    ⟨(some 34), none, .mov (.tmp 0)⟩,
    ⟨(some 35), none, .mov (.tmp 1)⟩,
    ⟨(some 36), none, .indexAddr 2 (.tmp 34) (.tmp 35)⟩,
    ⟨(some 37), none, .fieldAddr 1 (.tmp 36)⟩,
    ⟨(some 38), none, .load none (.tmp 37)⟩,
    ⟨(some 39), none, .mov (.tmp 5)⟩,
    ⟨(some 40), none, .build [.int .i64 0, .int .i64 0] [(0, 1, (.tmp 38)), (1, 1, (.tmp 39))]⟩,
    ⟨none, none, .store 2 (.tmp 4) (.tmp 40)⟩]

def f23b : ACode := (.seq (.ops f23r0)
  (.keep [0, 1, 4] (.seq (.seq (.ops f23r1)
  (.keep [0, 1, 4, 13] (.cond (.tmp 13) (.keep [4] (.seq (.ops f23r2)
  (.keep [4] .ret))) .skip)))
  (.keep [0, 1, 4] (.seq (.ops f23r3)
  (.keep [0, 1, 4, 5] (.seq (.seq (.ops f23r4)
  (.keep [0, 1, 4, 5, 15, 16, 17] (.block 0 (.loop f23l0))))
  (.keep [0, 1, 4, 5] (.seq (.ops f23r11)
  (.keep [4] .ret))))))))))

def f23 : AFn := ⟨41, [.cell 4 (some 2)], f23b⟩

theorem f23_ok : compFn Try.prog 23 = some f23.strip := by kernel_rfl

/- function 24: weirhouse/frac.Right; parameters 1; operations that are not compiled: 0 -/
def f24r0 : List AInstr := [
    ⟨(some 1), none, .box (.tmp 0)⟩,
    ⟨(some 2), none, .mov (.const (.bool false))⟩]

def f24r1 : List AInstr := [
    ⟨(some 3), none, .fieldAddr 1 (.tmp 1)⟩,
    ⟨(some 4), none, .load none (.tmp 3)⟩,
    ⟨(some 5), none, .ibin .geq (.tmp 4) (.const (.int .i64 1))⟩,
    ⟨(some 6), none, .mov (.tmp 5)⟩,
    ⟨(some 7), (some (6, true)), .fieldAddr 1 (.tmp 1)⟩,
    ⟨(some 8), (some (6, true)), .load none (.tmp 7)⟩,
    ⟨(some 9), (some (6, true)), .ibin .leq (.tmp 8) (.const (.int .i64 1073741824))⟩,
    ⟨(some 10), none, .pick (.tmp 6) (.tmp 9) (.const (.bool false))⟩,
    ⟨(some 11), none, .mov (.tmp 10)⟩,
    ⟨(some 12), (some (11, true)), .fieldAddr 0 (.tmp 1)⟩,
    ⟨(some 13), (some (11, true)), .load none (.tmp 12)⟩,
    ⟨(some 14), (some (11, true)), .ibin .geq (.tmp 13) (.const (.int .i64 (-1073741824)))⟩,
    ⟨(some 15), none, .pick (.tmp 11) (.tmp 14) (.const (.bool false))⟩,
    ⟨(some 16), none, .mov (.tmp 15)⟩,
    ⟨(some 17), (some (16, true)), .fieldAddr 0 (.tmp 1)⟩,
    ⟨(some 18), (some (16, true)), .load none (.tmp 17)⟩,
    ⟨(some 19), (some (16, true)), .ibin .leq (.tmp 18) (.const (.int .i64 1073741824))⟩,
    ⟨(some 20), none, .pick (.tmp 16) (.tmp 19) (.const (.bool false))⟩,
    ⟨(some 2), none, .mov (.tmp 20)⟩]

def f24b : ACode := (.seq (.ops f24r0)
  (.keep [1] (.seq (.ops f24r1)
  (.keep [2] .ret))))

def f24 : AFn := ⟨21, [.tmp 2], f24b⟩

theorem f24_ok : compFn Try.prog 24 = some f24.strip := by kernel_rfl

/- function 25: weirhouse/frac.lowest; parameters 2; operations that are not compiled: 0 -/
def f25r0 : List AInstr := [
    ⟨(some 4), none, .alloc [.int .i64 0, .int .i64 0]⟩,
    ⟨(some 5), none, .mov (.const (.int .i64 0))⟩]

def f25r1 : List AInstr := [
    ⟨(some 8), none, .mov (.tmp 0)⟩,
    ⟨(some 9), none, .mov (.tmp 1)⟩,
    ⟨(some 10), none, .callF 29 [.tmp 8, .tmp 9]⟩,
    ⟨(some 6), none, .mov (.tmp 10)⟩]

def f25r2 : List AInstr := [
    ⟨(some 11), none, .mov (.tmp 0)⟩,
    ⟨(some 12), none, .mov (.tmp 6)⟩,
    ⟨(some 13), none, .ibin .quo (.tmp 11) (.tmp 12)⟩,
    ⟨(some 14), none, .mov (.tmp 1)⟩,
    ⟨(some 15), none, .mov (.tmp 6)⟩,
    ⟨(some 16), none, .ibin .quo (.tmp 14) (.tmp 15)⟩,
    ⟨(some 17), none, .build [.int .i64 0, .int .i64 0] [(0, 1, (.tmp 13)), (1, 1, (.tmp 16))]⟩,
    ⟨(some 7), none, .alloc [.int .i64 0, .int .i64 0]⟩,
    ⟨none, none, .store 2 (.tmp 7) (.tmp 17)⟩]

def f25r3 : List AInstr := [
    ⟨(some 18), none, .load (some 2) (.tmp 7)⟩,
    ⟨(some 19), none, .callF 24 [.tmp 18]⟩,
    ⟨(some 20), none, .un .not (.tmp 19)⟩]

def f25r4 : List AInstr := [
    ⟨(some 21), none, .build [.int .i64 0, .int .i64 0] []⟩,
    ⟨none, none, .store 2 (.tmp 4) (.tmp 21)⟩,
    ⟨(some 5), none, .mov (.const (.int .i64 4))⟩]

def f25r5 : List AInstr := [
    ⟨(some 22), none, .load (some 2) (.tmp 7)⟩,
    ⟨none, none, .store 2 (.tmp 4) (.tmp 22)⟩,
    ⟨(some 5), none, .mov (.const (.int .i64 0))⟩]

def f25b : ACode := (.seq (.ops f25r0)
  (.keep [0, 1, 4] (.seq (.ops f25r1)
  (.keep [0, 1, 4, 6] (.seq (.draw f25r2 [(0, 1, false), (0, 1, false), (0, 1, false), (0, 1, false), (0, 1, false), (0, 1, false), (0, 1, false), (0, 0, true), (1, 0, true)])
  (.keep [4, 7] (.seq (.seq (.ops f25r3)
  (.keep [4, 7, 20] (.cond (.tmp 20) (.keep [4] (.seq (.ops f25r4)
  (.keep [4, 5] .ret))) .skip)))
  (.keep [4, 7] (.seq (.ops f25r5)
  (.keep [4, 5] .ret))))))))))

def f25 : AFn := ⟨23, [.cell 4 (some 2), .tmp 5], f25b⟩

theorem f25_ok : compFn Try.prog 25 = some f25.strip := by kernel_rfl

/- function 27: slices.rotateRight[int]; parameters 2; operations that are not compiled: 0 -/
def f27r0 : List AInstr := [
    ⟨(some 4), none, .mov (.tmp 0)⟩,
    ⟨(some 5), none, .mov (.tmp 0)⟩,
    ⟨(some 6), none, .len (.tmp 5)⟩,
    ⟨(some 7), none, .mov (.tmp 1)⟩,
    ⟨(some 8), none, .ibin .sub (.tmp 6) (.tmp 7)⟩,
    ⟨(some 9), none, .callF 30 [.tmp 4, .tmp 8]⟩]

def f27b : ACode := (.ops f27r0)

def f27 : AFn := ⟨10, [], f27b⟩

theorem f27_ok : compFn Try.prog 27 = some f27.strip := by kernel_rfl

/- function 28: slices.IndexFunc[[]weirhouse/api.Node,weirhouse/api.Node]; parameters 2; operations that are not compiled: 0 -/
def f28r0 : List AInstr := [
    ⟨(some 4), none, .mov (.const (.int .i64 0))⟩]

def f28r1 : List AInstr := [
    ⟨(some 6), none, .mov (.tmp 0)⟩,
    ⟨(some 7), none, .len (.tmp 6)⟩,
    ⟨(some 8), none, .mov (.const (.int .i64 0))⟩]

def f28r2 : List AInstr := [
    ⟨(some 9), none, .ibin .lss (.tmp 8) (.tmp 7)⟩]

def f28r3 : List AInstr := [
    ⟨(some 10), none, .mov (.tmp 8)⟩,
    ⟨(some 5), none, .mov (.tmp 10)⟩]

def f28r4 : List AInstr := [
    ⟨(some 11), none, .mov (.tmp 1)⟩,
    ⟨(some 12), none, .mov (.tmp 0)⟩,
    ⟨(some 13), none, .mov (.tmp 5)⟩,
    ⟨(some 14), none, .indexAddr 2 (.tmp 12) (.tmp 13)⟩,
    ⟨(some 15), none, .load (some 2) (.tmp 14)⟩,
    ⟨(some 16), none, .callV (.tmp 11) [.tmp 15]⟩]

def f28r5 : List AInstr := [
    ⟨(some 17), none, .mov (.tmp 5)⟩,
    ⟨(some 4), none, .mov (.tmp 17)⟩]

def f28r6 : List AInstr := [
    ⟨(some 18), none, .ibin .add (.tmp 8) (.const (.int .i64 1))⟩,
    ⟨(some 8), none, .mov (.tmp 18)⟩]

/-- live: [0, 1, 7, 8] -/
def f28l0 : ACode := (.seq (.ops f28r2)
  (.keep [0, 1, 7, 8, 9] (.seq (.cond (.tmp 9) .skip (.exit 0))
  (.keep [0, 1, 7, 8] (.seq (.block 1 (.seq (.ops f28r3)
  (.keep [0, 1, 5, 7, 8] (.seq (.ops f28r4)
  (.keep [0, 1, 5, 7, 8, 16] (.cond (.tmp 16) (.keep [5] (.seq (.ops f28r5)
  (.keep [4] .ret))) .skip))))))
  (.keep [0, 1, 7, 8] (.ops f28r6)))))))

def f28r8 : List AInstr := [
    ⟨(some 4), none, .mov (.const (.int .i64 (-1)))⟩]

def f28b : ACode := (.seq (.ops f28r0)
  (.keep [0, 1] (.seq (.seq (.ops f28r1)
  (.keep [0, 1, 7, 8] (.block 0 (.loop f28l0))))
  (.keep [] (.seq (.ops f28r8)
  (.keep [4] .ret))))))

def f28 : AFn := ⟨19, [.tmp 4], f28b⟩

theorem f28_ok : compFn Try.prog 28 = some f28.strip := by kernel_rfl

/- function 29: weirhouse/frac.gcd; parameters 2; operations that are not compiled: 0 -/
def f29r0 : List AInstr := [
    ⟨(some 4), none, .mov (.const (.int .i64 0))⟩]

def f29r1 : List AInstr := [
    ⟨(some 5), none, .mov (.tmp 1)⟩,
    ⟨(some 6), none, .ibin .neq (.tmp 5) (.const (.int .i64 0))⟩]

def f29r2 : List AInstr := [
    ⟨(some 7), none, .mov (.tmp 1)⟩,
    ⟨(some 8), none, .mov (.tmp 0)⟩,
    ⟨(some 9), none, .mov (.tmp 1)⟩,
    ⟨(some 10), none, .ibin .rem (.tmp 8) (.tmp 9)⟩,
    ⟨(some 0), none, .mov (.tmp 7)⟩,
    ⟨(some 1), none, .mov (.tmp 10)⟩]

/-- live: [0, 1] -/
def f29l0 : ACode := (.seq (.seq (.ops f29r1)
  (.keep [0, 1, 6] (.cond (.tmp 6) .skip (.exit 0))))
  (.keep [0, 1] (.block 1 (.draw f29r2 [(0, 0, false), (0, 0, false), (0, 0, false), (0, 0, false), (0, 0, false), (0, 0, false)]))))

def f29r4 : List AInstr := [
    ⟨(some 11), none, .mov (.tmp 0)⟩,
    ⟨(some 12), none, .mov (.tmp 0)⟩,
    ⟨(some 13), none, .un .neg (.tmp 12)⟩,
    ⟨(some 14), none, .minmax true [.tmp 11, .tmp 13]⟩,
    ⟨(some 4), none, .mov (.tmp 14)⟩]

def f29b : ACode := (.seq (.ops f29r0)
  (.keep [0, 1] (.seq (.block 0 (.loop f29l0))
  (.keep [0] (.seq (.ops f29r4)
  (.keep [4] .ret))))))

def f29 : AFn := ⟨15, [.tmp 4], f29b⟩

theorem f29_ok : compFn Try.prog 29 = some f29.strip := by kernel_rfl

/- function 30: slices.rotateLeft[int]; parameters 2; operations that are not compiled: 0 -/
def f30r0 : List AInstr := [
    ⟨(some 4), none, .mov (.tmp 0)⟩,
    ⟨(some 5), none, .mov (.tmp 1)⟩,
    ⟨(some 6), none, .slice 1 (.tmp 4) none (some (.tmp 5)) none⟩,
    ⟨(some 7), none, .callF 31 [.tmp 6]⟩]

def f30r1 : List AInstr := [
    ⟨(some 8), none, .mov (.tmp 0)⟩,
    ⟨(some 9), none, .mov (.tmp 1)⟩,
    ⟨(some 10), none, .slice 1 (.tmp 8) (some (.tmp 9)) none none⟩,
    ⟨(some 11), none, .callF 31 [.tmp 10]⟩]

def f30r2 : List AInstr := [
    ⟨(some 12), none, .mov (.tmp 0)⟩,
    ⟨(some 13), none, .callF 31 [.tmp 12]⟩]

def f30b : ACode := (.seq (.ops f30r0)
  (.keep [0, 1] (.seq (.ops f30r1)
  (.keep [0] (.ops f30r2)))))

def f30 : AFn := ⟨14, [], f30b⟩

theorem f30_ok : compFn Try.prog 30 = some f30.strip := by kernel_rfl

/- function 31: slices.Reverse[[]int,int]; parameters 1; operations that are not compiled: 0 -/
def f31r0 : List AInstr := [
    ⟨(some 4), none, .mov (.tmp 0)⟩,
    ⟨(some 5), none, .len (.tmp 4)⟩,
    ⟨(some 6), none, .ibin .sub (.tmp 5) (.const (.int .i64 1))⟩,
    ⟨(some 2), none, .mov (.const (.int .i64 0))⟩,
    ⟨(some 3), none, .mov (.tmp 6)⟩]

def f31r1 : List AInstr := [
    ⟨(some 7), none, .mov (.tmp 2)⟩,
    ⟨(some 8), none, .mov (.tmp 3)⟩,
    ⟨(some 9), none, .ibin .lss (.tmp 7) (.tmp 8)⟩]

def f31r2 : List AInstr := [
    ⟨(some 14), none, .mov (.tmp 0)⟩,
    ⟨(some 15), none, .mov (.tmp 2)⟩,
    ⟨(some 16), none, .mov (.tmp 0)⟩,
    ⟨(some 17), none, .mov (.tmp 3)⟩,
    ⟨(some 18), none, .mov (.tmp 0)⟩,
    ⟨(some 19), none, .mov (.tmp 3)⟩,
    ⟨(some 20), none, .indexAddr 1 (.tmp 18) (.tmp 19)⟩,
    ⟨(some 21), none, .load none (.tmp 20)⟩,
    ⟨(some 22), none, .mov (.tmp 0)⟩,
    ⟨(some 23), none, .mov (.tmp 2)⟩,
    ⟨(some 24), none, .indexAddr 1 (.tmp 22) (.tmp 23)⟩,
    ⟨(some 25), none, .load none (.tmp 24)⟩,
    ⟨(some 26), none, .indexAddr 1 (.tmp 14) (.tmp 15)⟩,
    ⟨none, none, .store 1 (.tmp 26) (.tmp 21)⟩,
    ⟨(some 27), none, .indexAddr 1 (.tmp 16) (.tmp 17)⟩,
    ⟨none, none, .store 1 (.tmp 27) (.tmp 25)⟩]

def f31r3 : List AInstr := [
    ⟨(some 10), none, .mov (.tmp 2)⟩,
    ⟨(some 11), none, .ibin .add (.tmp 10) (.const (.int .i64 1))⟩,
    ⟨(some 12), none, .mov (.tmp 3)⟩,
    ⟨(some 13), none, .ibin .sub (.tmp 12) (.const (.int .i64 1))⟩,
    ⟨(some 2), none, .mov (.tmp 11)⟩,
    ⟨(some 3), none, .mov (.tmp 13)⟩]

/-- live: [0, 2, 3] -/
def f31l0 : ACode := (.seq (.seq (.ops f31r1)
  (.keep [0, 2, 3, 9] (.cond (.tmp 9) .skip (.exit 0))))
  (.keep [0, 2, 3] (.seq (.block 1 (.draw f31r2 [(0, 0, false), (0, 0, false), (0, 1, false), (0, 1, false), (0, 0, false), (0, 0, false), (0, 0, false), (0, 0, false), (0, 0, false), (0, 0, false), (0, 0, false), (0, 0, false), (0, 0, false), (0, 0, true), (1, 1, false), (1, 0, true)]))
  (.keep [0, 2, 3] (.ops f31r3)))))

def f31b : ACode := (.seq (.ops f31r0)
  (.keep [0, 2, 3] (.block 0 (.loop f31l0))))

def f31 : AFn := ⟨28, [], f31b⟩

theorem f31_ok : compFn Try.prog 31 = some f31.strip := by kernel_rfl

end Go.Proofs.Ytlnocgfblheehaa
