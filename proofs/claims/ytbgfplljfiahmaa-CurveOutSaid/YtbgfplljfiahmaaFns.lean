/-
  The functions of this seat as abstract code. Printed by a program of this claim's writer.
-/
import Derived.Test.YtbgfplljfiahmaaChecked
import Derived.Test.YtbgfplljfiahmaaAmS
import Derived.KernelRfl
namespace Go.Proofs.Ytbgfplljfiahmaa
open Go Go.Am

/- function 3: weirhouse/weirhousekeep.CurveBacklog; parameters 3; operations that are not compiled: 0 -/
def f3r0 : List AInstr := [
    ⟨(some 3), none, .box (.tmp 0)⟩,
    ⟨(some 4), none, .box (.tmp 1)⟩,
    ⟨(some 6), none, .mov (.const (.bool false))⟩]

def f3r1 : List AInstr := [
    ⟨(some 16), none, .callF 8 []⟩,
    ⟨(some 17), none, .un .not (.tmp 16)⟩]

def f3r2 : List AInstr := [
    ⟨(some 6), none, .mov (.const (.bool false))⟩]

def f3r3 : List AInstr := [
    ⟨(some 19), none, .load (some 2) (.tmp 3)⟩,
    ⟨(some 20), none, .load (some 2) (.tmp 4)⟩,
    ⟨(some 21), none, .callF 9 [.tmp 19, .tmp 20]⟩,
    ⟨(some 18), none, .mov (.tmp 21)⟩,
    ⟨(some 22), none, .extract 0 (.tmp 18)⟩,
    ⟨(some 23), none, .extract 1 (.tmp 18)⟩,
    ⟨(some 7), none, .mov (.tmp 22)⟩,
    ⟨(some 8), none, .mov (.tmp 23)⟩]

def f3r4 : List AInstr := [
    ⟨(some 25), none, .load (some 2) (.tmp 3)⟩,
    ⟨(some 26), none, .mov (.tmp 2)⟩,
    ⟨(some 27), none, .callF 10 [.tmp 25, .tmp 26]⟩,
    ⟨(some 24), none, .mov (.tmp 27)⟩,
    ⟨(some 28), none, .extract 0 (.tmp 24)⟩,
    ⟨(some 29), none, .extract 1 (.tmp 24)⟩,
    ⟨(some 9), none, .mov (.tmp 28)⟩,
    ⟨(some 10), none, .mov (.tmp 29)⟩]

def f3r5 : List AInstr := [
    ⟨(some 31), none, .load (some 2) (.tmp 4)⟩,
    ⟨(some 32), none, .mov (.tmp 2)⟩,
    ⟨(some 33), none, .callF 11 [.tmp 31, .tmp 32]⟩,
    ⟨(some 30), none, .mov (.tmp 33)⟩,
    ⟨(some 34), none, .extract 0 (.tmp 30)⟩,
    ⟨(some 35), none, .extract 1 (.tmp 30)⟩,
    ⟨(some 11), none, .mov (.tmp 34)⟩,
    ⟨(some 12), none, .mov (.tmp 35)⟩]

def f3r6 : List AInstr := [
    ⟨(some 36), none, .mov (.tmp 8)⟩,
    ⟨(some 37), none, .ibin .neq (.tmp 36) (.const (.int .i64 0))⟩,
    ⟨(some 38), none, .mov (.tmp 37)⟩,
    ⟨(some 39), (some (38, false)), .mov (.tmp 10)⟩,
    ⟨(some 40), (some (38, false)), .ibin .neq (.tmp 39) (.const (.int .i64 0))⟩,
    ⟨(some 41), none, .pick (.tmp 38) (.const (.bool true)) (.tmp 40)⟩,
    ⟨(some 42), none, .mov (.tmp 41)⟩,
    ⟨(some 43), (some (42, false)), .mov (.tmp 12)⟩,
    ⟨(some 44), (some (42, false)), .ibin .neq (.tmp 43) (.const (.int .i64 0))⟩,
    ⟨(some 45), none, .pick (.tmp 42) (.const (.bool true)) (.tmp 44)⟩,
    ⟨(some 46), none, .mov (.tmp 45)⟩,
    ⟨(some 47), (some (46, false)), .mov (.tmp 9)⟩,
    ⟨(some 48), (some (46, false)), .un .not (.tmp 47)⟩,
    ⟨(some 49), none, .pick (.tmp 46) (.const (.bool true)) (.tmp 48)⟩]

def f3r7 : List AInstr := [
    ⟨(some 6), none, .mov (.const (.bool true))⟩]

def f3r8 : List AInstr := [
    ⟨(some 13), none, .mov (.const (.int .i64 0))⟩]

def f3r9 : List AInstr := [
    ⟨(some 50), none, .mov (.tmp 2)⟩,
    ⟨(some 51), none, .len (.tmp 50)⟩,
    ⟨(some 52), none, .mov (.const (.int .i64 0))⟩]

def f3r10 : List AInstr := [
    ⟨(some 53), none, .ibin .lss (.tmp 52) (.tmp 51)⟩]

def f3r11 : List AInstr := [
    ⟨(some 54), none, .mov (.tmp 52)⟩,
    ⟨(some 55), none, .indexAddr 1 (.tmp 50) (.tmp 52)⟩,
    ⟨(some 56), none, .load none (.tmp 55)⟩,
    ⟨(some 14), none, .mov (.tmp 54)⟩,
    ⟨(some 15), none, .mov (.tmp 56)⟩]

def f3r12 : List AInstr := [
    ⟨(some 57), none, .mov (.tmp 14)⟩,
    ⟨(some 58), none, .mov (.tmp 11)⟩,
    ⟨(some 59), none, .len (.tmp 58)⟩,
    ⟨(some 60), none, .ibin .geq (.tmp 57) (.tmp 59)⟩]

def f3r13 : List AInstr := [
    ⟨(some 6), none, .mov (.const (.bool false))⟩]

def f3r14 : List AInstr := [
    ⟨(some 61), none, .mov (.tmp 13)⟩,
    ⟨(some 62), none, .mov (.tmp 15)⟩,
    ⟨(some 63), none, .mov (.tmp 11)⟩,
    ⟨(some 64), none, .mov (.tmp 14)⟩,
    ⟨(some 65), none, .indexAddr 1 (.tmp 63) (.tmp 64)⟩,
    ⟨(some 66), none, .load none (.tmp 65)⟩,
    ⟨(some 67), none, .ibin .sub (.tmp 62) (.tmp 66)⟩,
    ⟨(some 68), none, .ibin .add (.tmp 61) (.tmp 67)⟩,
    ⟨(some 13), none, .mov (.tmp 68)⟩]

def f3r15 : List AInstr := [
    ⟨(some 69), none, .mov (.tmp 13)⟩,
    ⟨(some 70), none, .mov (.tmp 7)⟩,
    ⟨(some 71), none, .ibin .gtr (.tmp 69) (.tmp 70)⟩,
    ⟨(some 72), none, .mov (.tmp 71)⟩,
    ⟨(some 73), (some (72, false)), .mov (.tmp 13)⟩,
    ⟨(some 74), (some (72, false)), .ibin .lss (.tmp 73) (.const (.int .i64 0))⟩,
    ⟨(some 75), none, .pick (.tmp 72) (.const (.bool true)) (.tmp 74)⟩]

def f3r16 : List AInstr := [
    ⟨(some 6), none, .mov (.const (.bool false))⟩]

def f3r17 : List AInstr := [
    ⟨(some 76), none, .ibin .add (.tmp 52) (.const (.int .i64 1))⟩,
    ⟨(some 52), none, .mov (.tmp 76)⟩]

/-- live: [7, 11, 13, 50, 51, 52] -/
def f3l0 : ACode := (.seq (.ops f3r10)
  (.keep [7, 11, 13, 50, 51, 52, 53] (.seq (.cond (.tmp 53) .skip (.exit 0))
  (.keep [7, 11, 13, 50, 51, 52] (.seq (.block 1 (.seq (.ops f3r11)
  (.keep [7, 11, 13, 14, 15, 50, 51, 52] (.seq (.seq (.ops f3r12)
  (.keep [7, 11, 13, 14, 15, 50, 51, 52, 60] (.cond (.tmp 60) (.keep [] (.seq (.ops f3r13)
  (.keep [6] .ret))) .skip)))
  (.keep [7, 11, 13, 14, 15, 50, 51, 52] (.seq (.ops f3r14)
  (.keep [7, 11, 13, 50, 51, 52] (.seq (.ops f3r15)
  (.keep [7, 11, 13, 50, 51, 52, 75] (.cond (.tmp 75) (.keep [] (.seq (.ops f3r16)
  (.keep [6] .ret))) .skip))))))))))
  (.keep [7, 11, 13, 50, 51, 52] (.ops f3r17)))))))

def f3r19 : List AInstr := [
    ⟨(some 6), none, .mov (.const (.bool true))⟩]

def f3b : ACode := (.seq (.ops f3r0)
  (.keep [2, 3, 4] (.seq (.seq (.ops f3r1)
  (.keep [2, 3, 4, 17] (.cond (.tmp 17) (.keep [] (.seq (.ops f3r2)
  (.keep [6] .ret))) .skip)))
  (.keep [2, 3, 4] (.seq (.ops f3r3)
  (.keep [2, 3, 4, 7, 8] (.seq (.ops f3r4)
  (.keep [2, 4, 7, 8, 9, 10] (.seq (.ops f3r5)
  (.keep [2, 7, 8, 9, 10, 11, 12] (.seq (.seq (.ops f3r6)
  (.keep [2, 7, 11, 49] (.cond (.tmp 49) (.keep [] (.seq (.ops f3r7)
  (.keep [6] .ret))) .skip)))
  (.keep [2, 7, 11] (.seq (.ops f3r8)
  (.keep [2, 7, 11, 13] (.seq (.seq (.ops f3r9)
  (.keep [7, 11, 13, 50, 51, 52] (.block 0 (.loop f3l0))))
  (.keep [] (.seq (.ops f3r19)
  (.keep [6] .ret))))))))))))))))))

def f3 : AFn := ⟨77, [.tmp 6], f3b⟩

theorem f3_ok : compFn Try.prog 3 = some f3.strip := by kernel_rfl

/- function 4: weirhouse/weirhousekeep.CurveDelay; parameters 3; operations that are not compiled: 0 -/
def f4r0 : List AInstr := [
    ⟨(some 3), none, .box (.tmp 0)⟩,
    ⟨(some 4), none, .box (.tmp 1)⟩,
    ⟨(some 6), none, .mov (.const (.bool false))⟩]

def f4r1 : List AInstr := [
    ⟨(some 19), none, .callF 8 []⟩,
    ⟨(some 20), none, .un .not (.tmp 19)⟩]

def f4r2 : List AInstr := [
    ⟨(some 6), none, .mov (.const (.bool false))⟩]

def f4r3 : List AInstr := [
    ⟨(some 22), none, .load (some 2) (.tmp 3)⟩,
    ⟨(some 23), none, .load (some 2) (.tmp 4)⟩,
    ⟨(some 24), none, .callF 12 [.tmp 22, .tmp 23]⟩,
    ⟨(some 21), none, .mov (.tmp 24)⟩,
    ⟨(some 25), none, .extract 0 (.tmp 21)⟩,
    ⟨(some 26), none, .extract 1 (.tmp 21)⟩,
    ⟨(some 7), none, .mov (.tmp 25)⟩,
    ⟨(some 8), none, .mov (.tmp 26)⟩]

def f4r4 : List AInstr := [
    ⟨(some 28), none, .load (some 2) (.tmp 3)⟩,
    ⟨(some 29), none, .mov (.tmp 2)⟩,
    ⟨(some 30), none, .callF 10 [.tmp 28, .tmp 29]⟩,
    ⟨(some 27), none, .mov (.tmp 30)⟩,
    ⟨(some 31), none, .extract 0 (.tmp 27)⟩,
    ⟨(some 32), none, .extract 1 (.tmp 27)⟩,
    ⟨(some 9), none, .mov (.tmp 31)⟩,
    ⟨(some 10), none, .mov (.tmp 32)⟩]

def f4r5 : List AInstr := [
    ⟨(some 34), none, .load (some 2) (.tmp 4)⟩,
    ⟨(some 35), none, .mov (.tmp 2)⟩,
    ⟨(some 36), none, .callF 11 [.tmp 34, .tmp 35]⟩,
    ⟨(some 33), none, .mov (.tmp 36)⟩,
    ⟨(some 37), none, .extract 0 (.tmp 33)⟩,
    ⟨(some 38), none, .extract 1 (.tmp 33)⟩,
    ⟨(some 11), none, .mov (.tmp 37)⟩,
    ⟨(some 12), none, .mov (.tmp 38)⟩]

def f4r6 : List AInstr := [
    ⟨(some 39), none, .mov (.tmp 8)⟩,
    ⟨(some 40), none, .ibin .neq (.tmp 39) (.const (.int .i64 0))⟩,
    ⟨(some 41), none, .mov (.tmp 40)⟩,
    ⟨(some 42), (some (41, false)), .mov (.tmp 10)⟩,
    ⟨(some 43), (some (41, false)), .ibin .neq (.tmp 42) (.const (.int .i64 0))⟩,
    ⟨(some 44), none, .pick (.tmp 41) (.const (.bool true)) (.tmp 43)⟩,
    ⟨(some 45), none, .mov (.tmp 44)⟩,
    ⟨(some 46), (some (45, false)), .mov (.tmp 12)⟩,
    ⟨(some 47), (some (45, false)), .ibin .neq (.tmp 46) (.const (.int .i64 0))⟩,
    ⟨(some 48), none, .pick (.tmp 45) (.const (.bool true)) (.tmp 47)⟩,
    ⟨(some 49), none, .mov (.tmp 48)⟩,
    ⟨(some 50), (some (49, false)), .mov (.tmp 9)⟩,
    ⟨(some 51), (some (49, false)), .un .not (.tmp 50)⟩,
    ⟨(some 52), none, .pick (.tmp 49) (.const (.bool true)) (.tmp 51)⟩,
    ⟨(some 53), none, .mov (.tmp 52)⟩,
    ⟨(some 54), (some (53, false)), .mov (.tmp 11)⟩,
    ⟨(some 55), (some (53, false)), .len (.tmp 54)⟩,
    ⟨(some 56), (some (53, false)), .mov (.tmp 2)⟩,
    ⟨(some 57), (some (53, false)), .len (.tmp 56)⟩,
    ⟨(some 58), (some (53, false)), .ibin .neq (.tmp 55) (.tmp 57)⟩,
    ⟨(some 59), none, .pick (.tmp 53) (.const (.bool true)) (.tmp 58)⟩]

def f4r7 : List AInstr := [
    ⟨(some 60), none, .mov (.tmp 8)⟩,
    ⟨(some 61), none, .ibin .neq (.tmp 60) (.const (.int .i64 0))⟩,
    ⟨(some 62), none, .mov (.tmp 61)⟩,
    ⟨(some 63), (some (62, false)), .mov (.tmp 10)⟩,
    ⟨(some 64), (some (62, false)), .ibin .neq (.tmp 63) (.const (.int .i64 0))⟩,
    ⟨(some 65), none, .pick (.tmp 62) (.const (.bool true)) (.tmp 64)⟩,
    ⟨(some 66), none, .mov (.tmp 65)⟩,
    ⟨(some 67), (some (66, false)), .mov (.tmp 12)⟩,
    ⟨(some 68), (some (66, false)), .ibin .neq (.tmp 67) (.const (.int .i64 0))⟩,
    ⟨(some 69), none, .pick (.tmp 66) (.const (.bool true)) (.tmp 68)⟩,
    ⟨(some 70), none, .mov (.tmp 69)⟩,
    ⟨(some 71), (some (70, false)), .mov (.tmp 9)⟩,
    ⟨(some 72), (some (70, false)), .un .not (.tmp 71)⟩,
    ⟨(some 73), none, .pick (.tmp 70) (.const (.bool true)) (.tmp 72)⟩,
    ⟨(some 6), none, .mov (.tmp 73)⟩]

def f4r8 : List AInstr := [
    ⟨(some 13), none, .mov (.const (.int .i64 0))⟩]

def f4r9 : List AInstr := [
    ⟨(some 74), none, .mov (.tmp 2)⟩,
    ⟨(some 75), none, .len (.tmp 74)⟩,
    ⟨(some 76), none, .mov (.const (.int .i64 0))⟩]

def f4r10 : List AInstr := [
    ⟨(some 77), none, .ibin .lss (.tmp 76) (.tmp 75)⟩]

def f4r11 : List AInstr := [
    ⟨(some 78), none, .mov (.tmp 76)⟩,
    ⟨(some 79), none, .indexAddr 1 (.tmp 74) (.tmp 76)⟩,
    ⟨(some 80), none, .load none (.tmp 79)⟩,
    ⟨(some 14), none, .mov (.tmp 78)⟩,
    ⟨(some 15), none, .mov (.tmp 80)⟩]

def f4r12 : List AInstr := [
    ⟨(some 81), none, .mov (.tmp 13)⟩,
    ⟨(some 82), none, .mov (.tmp 15)⟩,
    ⟨(some 83), none, .ibin .add (.tmp 81) (.tmp 82)⟩,
    ⟨(some 13), none, .mov (.tmp 83)⟩]

def f4r13 : List AInstr := [
    ⟨(some 16), none, .mov (.const (.int .i64 0))⟩]

def f4r14 : List AInstr := [
    ⟨(some 84), none, .mov (.tmp 11)⟩,
    ⟨(some 85), none, .mov (.tmp 14)⟩,
    ⟨(some 86), none, .mov (.tmp 7)⟩,
    ⟨(some 87), none, .ibin .add (.tmp 85) (.tmp 86)⟩,
    ⟨(some 88), none, .ibin .add (.tmp 87) (.const (.int .i64 1))⟩,
    ⟨(some 89), none, .minmax true [.tmp 88, .const (.int .i64 0)]⟩,
    ⟨(some 90), none, .mov (.tmp 11)⟩,
    ⟨(some 91), none, .len (.tmp 90)⟩,
    ⟨(some 92), none, .minmax false [.tmp 89, .tmp 91]⟩,
    ⟨(some 93), none, .slice 1 (.tmp 84) none (some (.tmp 92)) none⟩,
    ⟨(some 94), none, .len (.tmp 93)⟩,
    ⟨(some 95), none, .mov (.const (.int .i64 0))⟩]

def f4r15 : List AInstr := [
    ⟨(some 96), none, .ibin .lss (.tmp 95) (.tmp 94)⟩]

def f4r16 : List AInstr := [
    ⟨(some 97), none, .indexAddr 1 (.tmp 93) (.tmp 95)⟩,
    ⟨(some 98), none, .load none (.tmp 97)⟩,
    ⟨(some 18), none, .mov (.tmp 98)⟩]

def f4r17 : List AInstr := [
    ⟨(some 99), none, .mov (.tmp 16)⟩,
    ⟨(some 100), none, .mov (.tmp 18)⟩,
    ⟨(some 101), none, .ibin .add (.tmp 99) (.tmp 100)⟩,
    ⟨(some 16), none, .mov (.tmp 101)⟩]

def f4r18 : List AInstr := [
    ⟨(some 102), none, .ibin .add (.tmp 95) (.const (.int .i64 1))⟩,
    ⟨(some 95), none, .mov (.tmp 102)⟩]

/-- live: [7, 11, 13, 14, 16, 74, 75, 76, 93, 94, 95] -/
def f4l0 : ACode := (.seq (.ops f4r15)
  (.keep [7, 11, 13, 14, 16, 74, 75, 76, 93, 94, 95, 96] (.seq (.cond (.tmp 96) .skip (.exit 2))
  (.keep [7, 11, 13, 14, 16, 74, 75, 76, 93, 94, 95] (.seq (.block 3 (.seq (.ops f4r16)
  (.keep [7, 11, 13, 14, 16, 18, 74, 75, 76, 93, 94, 95] (.ops f4r17))))
  (.keep [7, 11, 13, 14, 16, 74, 75, 76, 93, 94, 95] (.ops f4r18)))))))

def f4r20 : List AInstr := [
    ⟨(some 103), none, .mov (.tmp 14)⟩,
    ⟨(some 104), none, .mov (.tmp 7)⟩,
    ⟨(some 105), none, .ibin .add (.tmp 103) (.tmp 104)⟩,
    ⟨(some 106), none, .mov (.tmp 11)⟩,
    ⟨(some 107), none, .len (.tmp 106)⟩,
    ⟨(some 108), none, .ibin .lss (.tmp 105) (.tmp 107)⟩,
    ⟨(some 109), none, .mov (.tmp 108)⟩,
    ⟨(some 110), (some (109, true)), .mov (.tmp 16)⟩,
    ⟨(some 111), (some (109, true)), .mov (.tmp 13)⟩,
    ⟨(some 112), (some (109, true)), .ibin .lss (.tmp 110) (.tmp 111)⟩,
    ⟨(some 113), none, .pick (.tmp 109) (.tmp 112) (.const (.bool false))⟩]

def f4r21 : List AInstr := [
    ⟨(some 6), none, .mov (.const (.bool false))⟩]

def f4r22 : List AInstr := [
    ⟨(some 114), none, .ibin .add (.tmp 76) (.const (.int .i64 1))⟩,
    ⟨(some 76), none, .mov (.tmp 114)⟩]

/-- live: [7, 11, 13, 74, 75, 76] -/
def f4l1 : ACode := (.seq (.ops f4r10)
  (.keep [7, 11, 13, 74, 75, 76, 77] (.seq (.cond (.tmp 77) .skip (.exit 0))
  (.keep [7, 11, 13, 74, 75, 76] (.seq (.block 1 (.seq (.ops f4r11)
  (.keep [7, 11, 13, 14, 15, 74, 75, 76] (.seq (.ops f4r12)
  (.keep [7, 11, 13, 14, 74, 75, 76] (.seq (.ops f4r13)
  (.keep [7, 11, 13, 14, 16, 74, 75, 76] (.seq (.seq (.ops f4r14)
  (.keep [7, 11, 13, 14, 16, 74, 75, 76, 93, 94, 95] (.block 2 (.loop f4l0))))
  (.keep [7, 11, 13, 14, 16, 74, 75, 76] (.seq (.ops f4r20)
  (.keep [7, 11, 13, 74, 75, 76, 113] (.cond (.tmp 113) (.keep [] (.seq (.ops f4r21)
  (.keep [6] .ret))) .skip))))))))))))
  (.keep [7, 11, 13, 74, 75, 76] (.ops f4r22)))))))

def f4r24 : List AInstr := [
    ⟨(some 6), none, .mov (.const (.bool true))⟩]

def f4b : ACode := (.seq (.ops f4r0)
  (.keep [2, 3, 4] (.seq (.seq (.ops f4r1)
  (.keep [2, 3, 4, 20] (.cond (.tmp 20) (.keep [] (.seq (.ops f4r2)
  (.keep [6] .ret))) .skip)))
  (.keep [2, 3, 4] (.seq (.ops f4r3)
  (.keep [2, 3, 4, 7, 8] (.seq (.ops f4r4)
  (.keep [2, 4, 7, 8, 9, 10] (.seq (.ops f4r5)
  (.keep [2, 7, 8, 9, 10, 11, 12] (.seq (.seq (.ops f4r6)
  (.keep [2, 7, 8, 9, 10, 11, 12, 59] (.cond (.tmp 59) (.keep [8, 9, 10, 12] (.seq (.ops f4r7)
  (.keep [6] .ret))) .skip)))
  (.keep [2, 7, 11] (.seq (.ops f4r8)
  (.keep [2, 7, 11, 13] (.seq (.seq (.ops f4r9)
  (.keep [7, 11, 13, 74, 75, 76] (.block 0 (.loop f4l1))))
  (.keep [] (.seq (.ops f4r24)
  (.keep [6] .ret))))))))))))))))))

def f4 : AFn := ⟨115, [.tmp 6], f4b⟩

theorem f4_ok : compFn Try.prog 4 = some f4.strip := by kernel_rfl

/- function 5: weirhouse/weirhousekeep.CurveOut; parameters 3; operations that are not compiled: 0 -/
def f5r0 : List AInstr := [
    ⟨(some 3), none, .box (.tmp 0)⟩,
    ⟨(some 4), none, .box (.tmp 1)⟩,
    ⟨(some 6), none, .mov (.const (.bool false))⟩]

def f5r1 : List AInstr := [
    ⟨(some 15), none, .callF 8 []⟩,
    ⟨(some 16), none, .un .not (.tmp 15)⟩]

def f5r2 : List AInstr := [
    ⟨(some 6), none, .mov (.const (.bool false))⟩]

def f5r3 : List AInstr := [
    ⟨(some 18), none, .load (some 2) (.tmp 3)⟩,
    ⟨(some 19), none, .load (some 2) (.tmp 4)⟩,
    ⟨(some 20), none, .callF 9 [.tmp 18, .tmp 19]⟩,
    ⟨(some 17), none, .mov (.tmp 20)⟩,
    ⟨(some 21), none, .extract 0 (.tmp 17)⟩,
    ⟨(some 22), none, .extract 1 (.tmp 17)⟩,
    ⟨(some 7), none, .mov (.tmp 21)⟩,
    ⟨(some 8), none, .mov (.tmp 22)⟩]

def f5r4 : List AInstr := [
    ⟨(some 24), none, .load (some 2) (.tmp 3)⟩,
    ⟨(some 25), none, .mov (.tmp 2)⟩,
    ⟨(some 26), none, .callF 10 [.tmp 24, .tmp 25]⟩,
    ⟨(some 23), none, .mov (.tmp 26)⟩,
    ⟨(some 27), none, .extract 0 (.tmp 23)⟩,
    ⟨(some 28), none, .extract 1 (.tmp 23)⟩,
    ⟨(some 9), none, .mov (.tmp 27)⟩,
    ⟨(some 10), none, .mov (.tmp 28)⟩]

def f5r5 : List AInstr := [
    ⟨(some 30), none, .load (some 2) (.tmp 4)⟩,
    ⟨(some 31), none, .mov (.tmp 2)⟩,
    ⟨(some 32), none, .callF 11 [.tmp 30, .tmp 31]⟩,
    ⟨(some 29), none, .mov (.tmp 32)⟩,
    ⟨(some 33), none, .extract 0 (.tmp 29)⟩,
    ⟨(some 34), none, .extract 1 (.tmp 29)⟩,
    ⟨(some 11), none, .mov (.tmp 33)⟩,
    ⟨(some 12), none, .mov (.tmp 34)⟩]

def f5r6 : List AInstr := [
    ⟨(some 35), none, .mov (.tmp 8)⟩,
    ⟨(some 36), none, .ibin .neq (.tmp 35) (.const (.int .i64 0))⟩,
    ⟨(some 37), none, .mov (.tmp 36)⟩,
    ⟨(some 38), (some (37, false)), .mov (.tmp 10)⟩,
    ⟨(some 39), (some (37, false)), .ibin .neq (.tmp 38) (.const (.int .i64 0))⟩,
    ⟨(some 40), none, .pick (.tmp 37) (.const (.bool true)) (.tmp 39)⟩,
    ⟨(some 41), none, .mov (.tmp 40)⟩,
    ⟨(some 42), (some (41, false)), .mov (.tmp 12)⟩,
    ⟨(some 43), (some (41, false)), .ibin .neq (.tmp 42) (.const (.int .i64 0))⟩,
    ⟨(some 44), none, .pick (.tmp 41) (.const (.bool true)) (.tmp 43)⟩,
    ⟨(some 45), none, .mov (.tmp 44)⟩,
    ⟨(some 46), (some (45, false)), .mov (.tmp 9)⟩,
    ⟨(some 47), (some (45, false)), .un .not (.tmp 46)⟩,
    ⟨(some 48), none, .pick (.tmp 45) (.const (.bool true)) (.tmp 47)⟩]

def f5r7 : List AInstr := [
    ⟨(some 6), none, .mov (.const (.bool true))⟩]

def f5r8 : List AInstr := [
    ⟨(some 50), none, .mov (.tmp 7)⟩,
    ⟨(some 51), none, .fieldAddr 1 (.tmp 3)⟩,
    ⟨(some 52), none, .load none (.tmp 51)⟩,
    ⟨(some 53), none, .build [.int .i64 0, .int .i64 0] [(0, 1, (.tmp 50)), (1, 1, (.tmp 52))]⟩,
    ⟨(some 54), none, .mov (.tmp 11)⟩,
    ⟨(some 55), none, .callF 10 [.tmp 53, .tmp 54]⟩,
    ⟨(some 49), none, .mov (.tmp 55)⟩,
    ⟨(some 56), none, .extract 0 (.tmp 49)⟩,
    ⟨(some 57), none, .extract 1 (.tmp 49)⟩,
    ⟨(some 13), none, .mov (.tmp 56)⟩,
    ⟨(some 14), none, .mov (.tmp 57)⟩]

def f5r9 : List AInstr := [
    ⟨(some 58), none, .mov (.tmp 7)⟩,
    ⟨(some 59), none, .ibin .gtr (.tmp 58) (.const (.int .i64 1048576))⟩,
    ⟨(some 60), none, .mov (.tmp 59)⟩,
    ⟨(some 61), (some (60, false)), .mov (.tmp 14)⟩,
    ⟨(some 62), (some (60, false)), .ibin .eql (.tmp 61) (.const (.int .i64 0))⟩,
    ⟨(some 63), (some (60, false)), .mov (.tmp 62)⟩,
    ⟨(some 64), (some (63, true)), .mov (.tmp 13)⟩,
    ⟨(some 65), (some (60, false)), .pick (.tmp 63) (.tmp 64) (.const (.bool false))⟩,
    ⟨(some 66), none, .pick (.tmp 60) (.const (.bool true)) (.tmp 65)⟩,
    ⟨(some 6), none, .mov (.tmp 66)⟩]

def f5b : ACode := (.seq (.ops f5r0)
  (.keep [2, 3, 4] (.seq (.seq (.ops f5r1)
  (.keep [2, 3, 4, 16] (.cond (.tmp 16) (.keep [] (.seq (.ops f5r2)
  (.keep [6] .ret))) .skip)))
  (.keep [2, 3, 4] (.seq (.ops f5r3)
  (.keep [2, 3, 4, 7, 8] (.seq (.ops f5r4)
  (.keep [2, 3, 4, 7, 8, 9, 10] (.seq (.ops f5r5)
  (.keep [3, 7, 8, 9, 10, 11, 12] (.seq (.seq (.ops f5r6)
  (.keep [3, 7, 11, 48] (.cond (.tmp 48) (.keep [] (.seq (.ops f5r7)
  (.keep [6] .ret))) .skip)))
  (.keep [3, 7, 11] (.seq (.ops f5r8)
  (.keep [7, 13, 14] (.seq (.ops f5r9)
  (.keep [6] .ret))))))))))))))))

def f5 : AFn := ⟨67, [.tmp 6], f5b⟩

theorem f5_ok : compFn Try.prog 5 = some f5.strip := by kernel_rfl

/- function 6: weirhouse/weirhousekeep.CurveMore; parameters 5; operations that are not compiled: 0 -/
def f6r0 : List AInstr := [
    ⟨(some 5), none, .box (.tmp 0)⟩,
    ⟨(some 6), none, .box (.tmp 1)⟩,
    ⟨(some 10), none, .mov (.const (.bool false))⟩]

def f6r1 : List AInstr := [
    ⟨(some 15), none, .callF 8 []⟩,
    ⟨(some 16), none, .un .not (.tmp 15)⟩]

def f6r2 : List AInstr := [
    ⟨(some 10), none, .mov (.const (.bool false))⟩]

def f6r3 : List AInstr := [
    ⟨(some 17), none, .mov (.tmp 2)⟩,
    ⟨(some 18), none, .mov (.tmp 3)⟩,
    ⟨(some 19), none, .mov (.tmp 4)⟩,
    ⟨(some 20), none, .minmax false [.tmp 17, .tmp 18, .tmp 19]⟩,
    ⟨(some 21), none, .ibin .lss (.tmp 20) (.const (.int .i64 0))⟩,
    ⟨(some 22), none, .mov (.tmp 21)⟩,
    ⟨(some 23), (some (22, false)), .mov (.tmp 2)⟩,
    ⟨(some 24), (some (22, false)), .mov (.tmp 3)⟩,
    ⟨(some 25), (some (22, false)), .mov (.tmp 4)⟩,
    ⟨(some 26), (some (22, false)), .minmax true [.tmp 23, .tmp 24, .tmp 25]⟩,
    ⟨(some 27), (some (22, false)), .ibin .gtr (.tmp 26) (.const (.int .i64 1000))⟩,
    ⟨(some 28), none, .pick (.tmp 22) (.const (.bool true)) (.tmp 27)⟩]

def f6r4 : List AInstr := [
    ⟨(some 10), none, .mov (.const (.bool true))⟩]

def f6r5 : List AInstr := [
    ⟨(some 30), none, .load (some 2) (.tmp 5)⟩,
    ⟨(some 31), none, .load (some 2) (.tmp 6)⟩,
    ⟨(some 32), none, .callF 12 [.tmp 30, .tmp 31]⟩,
    ⟨(some 29), none, .mov (.tmp 32)⟩,
    ⟨(some 33), none, .extract 0 (.tmp 29)⟩,
    ⟨(some 34), none, .extract 1 (.tmp 29)⟩,
    ⟨(some 11), none, .mov (.tmp 33)⟩,
    ⟨(some 12), none, .mov (.tmp 34)⟩]

def f6r6 : List AInstr := [
    ⟨(some 36), none, .fieldAddr 0 (.tmp 5)⟩,
    ⟨(some 37), none, .load none (.tmp 36)⟩,
    ⟨(some 38), none, .mov (.tmp 2)⟩,
    ⟨(some 39), none, .ibin .add (.tmp 37) (.tmp 38)⟩,
    ⟨(some 40), none, .fieldAddr 1 (.tmp 5)⟩,
    ⟨(some 41), none, .load none (.tmp 40)⟩,
    ⟨(some 42), none, .mov (.tmp 3)⟩,
    ⟨(some 43), none, .ibin .add (.tmp 41) (.tmp 42)⟩,
    ⟨(some 44), none, .build [.int .i64 0, .int .i64 0] [(0, 1, (.tmp 39)), (1, 1, (.tmp 43))]⟩,
    ⟨(some 45), none, .fieldAddr 0 (.tmp 6)⟩,
    ⟨(some 46), none, .load none (.tmp 45)⟩,
    ⟨(some 47), none, .mov (.tmp 4)⟩,
    ⟨(some 48), none, .ibin .add (.tmp 46) (.tmp 47)⟩,
    ⟨(some 49), none, .fieldAddr 1 (.tmp 6)⟩,
    ⟨(some 50), none, .load none (.tmp 49)⟩,
    ⟨(some 51), none, .build [.int .i64 0, .int .i64 0] [(0, 1, (.tmp 48)), (1, 1, (.tmp 50))]⟩,
    ⟨(some 52), none, .callF 12 [.tmp 44, .tmp 51]⟩,
    ⟨(some 35), none, .mov (.tmp 52)⟩,
    ⟨(some 53), none, .extract 0 (.tmp 35)⟩,
    ⟨(some 54), none, .extract 1 (.tmp 35)⟩,
    ⟨(some 13), none, .mov (.tmp 53)⟩,
    ⟨(some 14), none, .mov (.tmp 54)⟩]

def f6r7 : List AInstr := [
    ⟨(some 55), none, .mov (.tmp 12)⟩,
    ⟨(some 56), none, .ibin .neq (.tmp 55) (.const (.int .i64 0))⟩,
    ⟨(some 57), none, .mov (.tmp 56)⟩,
    ⟨(some 58), (some (57, false)), .mov (.tmp 14)⟩,
    ⟨(some 59), (some (57, false)), .ibin .neq (.tmp 58) (.const (.int .i64 0))⟩,
    ⟨(some 60), none, .pick (.tmp 57) (.const (.bool true)) (.tmp 59)⟩,
    ⟨(some 61), none, .mov (.tmp 60)⟩,
    ⟨(some 62), (some (61, false)), .mov (.tmp 13)⟩,
    ⟨(some 63), (some (61, false)), .mov (.tmp 11)⟩,
    ⟨(some 64), (some (61, false)), .ibin .geq (.tmp 62) (.tmp 63)⟩,
    ⟨(some 65), none, .pick (.tmp 61) (.const (.bool true)) (.tmp 64)⟩,
    ⟨(some 10), none, .mov (.tmp 65)⟩]

def f6b : ACode := (.seq (.ops f6r0)
  (.keep [2, 3, 4, 5, 6] (.seq (.seq (.ops f6r1)
  (.keep [2, 3, 4, 5, 6, 16] (.cond (.tmp 16) (.keep [] (.seq (.ops f6r2)
  (.keep [10] .ret))) .skip)))
  (.keep [2, 3, 4, 5, 6] (.seq (.seq (.ops f6r3)
  (.keep [2, 3, 4, 5, 6, 28] (.cond (.tmp 28) (.keep [] (.seq (.ops f6r4)
  (.keep [10] .ret))) .skip)))
  (.keep [2, 3, 4, 5, 6] (.seq (.ops f6r5)
  (.keep [2, 3, 4, 5, 6, 11, 12] (.seq (.ops f6r6)
  (.keep [11, 12, 13, 14] (.seq (.ops f6r7)
  (.keep [10] .ret))))))))))))

def f6 : AFn := ⟨66, [.tmp 10], f6b⟩

theorem f6_ok : compFn Try.prog 6 = some f6.strip := by kernel_rfl

/- function 7: weirhouse/weirhousekeep.CurveChain; parameters 3; operations that are not compiled: 0 -/
def f7r0 : List AInstr := [
    ⟨(some 3), none, .box (.tmp 0)⟩,
    ⟨(some 4), none, .box (.tmp 1)⟩,
    ⟨(some 5), none, .box (.tmp 2)⟩,
    ⟨(some 6), none, .mov (.const (.bool false))⟩]

def f7r1 : List AInstr := [
    ⟨(some 19), none, .callF 8 []⟩,
    ⟨(some 20), none, .un .not (.tmp 19)⟩]

def f7r2 : List AInstr := [
    ⟨(some 6), none, .mov (.const (.bool false))⟩]

def f7r3 : List AInstr := [
    ⟨(some 22), none, .load (some 2) (.tmp 4)⟩,
    ⟨(some 23), none, .load (some 2) (.tmp 5)⟩,
    ⟨(some 24), none, .callF 13 [.tmp 22, .tmp 23]⟩,
    ⟨(some 21), none, .mov (.tmp 24)⟩,
    ⟨(some 25), none, .extract 0 (.tmp 21)⟩,
    ⟨(some 26), none, .extract 1 (.tmp 21)⟩,
    ⟨(some 7), none, .alloc [.int .i64 0, .int .i64 0]⟩,
    ⟨none, none, .store 2 (.tmp 7) (.tmp 25)⟩,
    ⟨(some 8), none, .mov (.tmp 26)⟩]

def f7r4 : List AInstr := [
    ⟨(some 28), none, .load (some 2) (.tmp 5)⟩,
    ⟨(some 29), none, .load (some 2) (.tmp 4)⟩,
    ⟨(some 30), none, .callF 13 [.tmp 28, .tmp 29]⟩,
    ⟨(some 27), none, .mov (.tmp 30)⟩,
    ⟨(some 31), none, .extract 0 (.tmp 27)⟩,
    ⟨(some 32), none, .extract 1 (.tmp 27)⟩,
    ⟨(some 9), none, .alloc [.int .i64 0, .int .i64 0]⟩,
    ⟨none, none, .store 2 (.tmp 9) (.tmp 31)⟩,
    ⟨(some 10), none, .mov (.tmp 32)⟩]

def f7r5 : List AInstr := [
    ⟨(some 34), none, .load (some 2) (.tmp 3)⟩,
    ⟨(some 35), none, .load (some 2) (.tmp 4)⟩,
    ⟨(some 36), none, .callF 12 [.tmp 34, .tmp 35]⟩,
    ⟨(some 33), none, .mov (.tmp 36)⟩,
    ⟨(some 37), none, .extract 0 (.tmp 33)⟩,
    ⟨(some 38), none, .extract 1 (.tmp 33)⟩,
    ⟨(some 11), none, .mov (.tmp 37)⟩,
    ⟨(some 12), none, .mov (.tmp 38)⟩]

def f7r6 : List AInstr := [
    ⟨(some 40), none, .load (some 2) (.tmp 3)⟩,
    ⟨(some 41), none, .load (some 2) (.tmp 4)⟩,
    ⟨(some 42), none, .callF 9 [.tmp 40, .tmp 41]⟩,
    ⟨(some 39), none, .mov (.tmp 42)⟩,
    ⟨(some 43), none, .extract 0 (.tmp 39)⟩,
    ⟨(some 44), none, .extract 1 (.tmp 39)⟩,
    ⟨(some 13), none, .mov (.tmp 43)⟩,
    ⟨(some 14), none, .mov (.tmp 44)⟩]

def f7r7 : List AInstr := [
    ⟨(some 46), none, .mov (.tmp 13)⟩,
    ⟨(some 47), none, .fieldAddr 1 (.tmp 3)⟩,
    ⟨(some 48), none, .load none (.tmp 47)⟩,
    ⟨(some 49), none, .build [.int .i64 0, .int .i64 0] [(0, 1, (.tmp 46)), (1, 1, (.tmp 48))]⟩,
    ⟨(some 50), none, .load (some 2) (.tmp 5)⟩,
    ⟨(some 51), none, .callF 12 [.tmp 49, .tmp 50]⟩,
    ⟨(some 45), none, .mov (.tmp 51)⟩,
    ⟨(some 52), none, .extract 0 (.tmp 45)⟩,
    ⟨(some 53), none, .extract 1 (.tmp 45)⟩,
    ⟨(some 15), none, .mov (.tmp 52)⟩,
    ⟨(some 16), none, .mov (.tmp 53)⟩]

def f7r8 : List AInstr := [
    ⟨(some 55), none, .load (some 2) (.tmp 3)⟩,
    ⟨(some 56), none, .load (some 2) (.tmp 7)⟩,
    ⟨(some 57), none, .callF 12 [.tmp 55, .tmp 56]⟩,
    ⟨(some 54), none, .mov (.tmp 57)⟩,
    ⟨(some 58), none, .extract 0 (.tmp 54)⟩,
    ⟨(some 59), none, .extract 1 (.tmp 54)⟩,
    ⟨(some 17), none, .mov (.tmp 58)⟩,
    ⟨(some 18), none, .mov (.tmp 59)⟩]

def f7r9 : List AInstr := [
    ⟨(some 60), none, .mov (.tmp 8)⟩,
    ⟨(some 61), none, .ibin .neq (.tmp 60) (.const (.int .i64 0))⟩,
    ⟨(some 62), none, .mov (.tmp 61)⟩,
    ⟨(some 63), (some (62, false)), .mov (.tmp 12)⟩,
    ⟨(some 64), (some (62, false)), .ibin .neq (.tmp 63) (.const (.int .i64 0))⟩,
    ⟨(some 65), none, .pick (.tmp 62) (.const (.bool true)) (.tmp 64)⟩,
    ⟨(some 66), none, .mov (.tmp 65)⟩,
    ⟨(some 67), (some (66, false)), .mov (.tmp 14)⟩,
    ⟨(some 68), (some (66, false)), .ibin .neq (.tmp 67) (.const (.int .i64 0))⟩,
    ⟨(some 69), none, .pick (.tmp 66) (.const (.bool true)) (.tmp 68)⟩,
    ⟨(some 70), none, .mov (.tmp 69)⟩,
    ⟨(some 71), (some (70, false)), .mov (.tmp 16)⟩,
    ⟨(some 72), (some (70, false)), .ibin .neq (.tmp 71) (.const (.int .i64 0))⟩,
    ⟨(some 73), none, .pick (.tmp 70) (.const (.bool true)) (.tmp 72)⟩]

def f7r10 : List AInstr := [
    ⟨(some 74), none, .mov (.tmp 8)⟩,
    ⟨(some 75), none, .mov (.tmp 10)⟩,
    ⟨(some 76), none, .ibin .eql (.tmp 74) (.tmp 75)⟩,
    ⟨(some 77), none, .mov (.tmp 76)⟩,
    ⟨(some 78), (some (77, false)), .mov (.tmp 8)⟩,
    ⟨(some 79), (some (77, false)), .ibin .neq (.tmp 78) (.const (.int .i64 0))⟩,
    ⟨(some 80), none, .pick (.tmp 77) (.const (.bool true)) (.tmp 79)⟩,
    ⟨(some 6), none, .mov (.tmp 80)⟩]

def f7r11 : List AInstr := [
    ⟨(some 81), none, .mov (.tmp 10)⟩,
    ⟨(some 82), none, .ibin .eql (.tmp 81) (.const (.int .i64 0))⟩,
    ⟨(some 83), none, .mov (.tmp 82)⟩,
    ⟨(some 84), (some (83, true)), .load (some 2) (.tmp 7)⟩,
    ⟨(some 85), (some (83, true)), .load (some 2) (.tmp 9)⟩,
    ⟨(some 86), (some (83, true)), .eqA false [false, false] (.tmp 84) (.tmp 85)⟩,
    ⟨(some 87), none, .pick (.tmp 83) (.tmp 86) (.const (.bool false))⟩,
    ⟨(some 88), none, .mov (.tmp 87)⟩,
    ⟨(some 89), (some (88, true)), .mov (.tmp 18)⟩,
    ⟨(some 90), (some (88, true)), .ibin .eql (.tmp 89) (.const (.int .i64 0))⟩,
    ⟨(some 91), none, .pick (.tmp 88) (.tmp 90) (.const (.bool false))⟩,
    ⟨(some 92), none, .mov (.tmp 91)⟩,
    ⟨(some 93), (some (92, true)), .mov (.tmp 17)⟩,
    ⟨(some 94), (some (92, true)), .mov (.tmp 11)⟩,
    ⟨(some 95), (some (92, true)), .mov (.tmp 15)⟩,
    ⟨(some 96), (some (92, true)), .ibin .add (.tmp 94) (.tmp 95)⟩,
    ⟨(some 97), (some (92, true)), .ibin .leq (.tmp 93) (.tmp 96)⟩,
    ⟨(some 98), none, .pick (.tmp 92) (.tmp 97) (.const (.bool false))⟩,
    ⟨(some 6), none, .mov (.tmp 98)⟩]

def f7b : ACode := (.seq (.ops f7r0)
  (.keep [3, 4, 5] (.seq (.seq (.ops f7r1)
  (.keep [3, 4, 5, 20] (.cond (.tmp 20) (.keep [] (.seq (.ops f7r2)
  (.keep [6] .ret))) .skip)))
  (.keep [3, 4, 5] (.seq (.ops f7r3)
  (.keep [3, 4, 5, 7, 8] (.seq (.ops f7r4)
  (.keep [3, 4, 5, 7, 8, 9, 10] (.seq (.ops f7r5)
  (.keep [3, 4, 5, 7, 8, 9, 10, 11, 12] (.seq (.ops f7r6)
  (.keep [3, 5, 7, 8, 9, 10, 11, 12, 13, 14] (.seq (.ops f7r7)
  (.keep [3, 7, 8, 9, 10, 11, 12, 14, 15, 16] (.seq (.ops f7r8)
  (.keep [7, 8, 9, 10, 11, 12, 14, 15, 16, 17, 18] (.seq (.seq (.ops f7r9)
  (.keep [7, 8, 9, 10, 11, 15, 17, 18, 73] (.cond (.tmp 73) (.keep [8, 10] (.seq (.ops f7r10)
  (.keep [6] .ret))) .skip)))
  (.keep [7, 9, 10, 11, 15, 17, 18] (.seq (.ops f7r11)
  (.keep [6] .ret))))))))))))))))))))

def f7 : AFn := ⟨99, [.tmp 6], f7b⟩

theorem f7_ok : compFn Try.prog 7 = some f7.strip := by kernel_rfl

/- function 8: weirhouse/weirhousekeep.alive11; parameters 0; operations that are not compiled: 0 -/
def f8r0 : List AInstr := [
    ⟨(some 0), none, .mov (.const (.bool false))⟩]

def f8r1 : List AInstr := [
    ⟨(some 10), none, .build [.int .i64 0, .int .i64 0] [(0, 1, (.const (.int .i64 10))), (1, 1, (.const (.int .i64 2)))]⟩,
    ⟨(some 11), none, .build [.int .i64 0, .int .i64 0] [(0, 1, (.const (.int .i64 3))), (1, 1, (.const (.int .i64 4)))]⟩,
    ⟨(some 12), none, .callF 12 [.tmp 10, .tmp 11]⟩,
    ⟨(some 9), none, .mov (.tmp 12)⟩,
    ⟨(some 13), none, .extract 0 (.tmp 9)⟩,
    ⟨(some 14), none, .extract 1 (.tmp 9)⟩,
    ⟨(some 1), none, .mov (.tmp 13)⟩,
    ⟨(some 2), none, .mov (.tmp 14)⟩]

def f8r2 : List AInstr := [
    ⟨(some 16), none, .build [.int .i64 0, .int .i64 0] [(0, 1, (.const (.int .i64 10))), (1, 1, (.const (.int .i64 2)))]⟩,
    ⟨(some 17), none, .build [.int .i64 0, .int .i64 0] [(0, 1, (.const (.int .i64 3))), (1, 1, (.const (.int .i64 4)))]⟩,
    ⟨(some 18), none, .callF 9 [.tmp 16, .tmp 17]⟩,
    ⟨(some 15), none, .mov (.tmp 18)⟩,
    ⟨(some 19), none, .extract 0 (.tmp 15)⟩,
    ⟨(some 20), none, .extract 1 (.tmp 15)⟩,
    ⟨(some 3), none, .mov (.tmp 19)⟩,
    ⟨(some 4), none, .mov (.tmp 20)⟩]

def f8r3 : List AInstr := [
    ⟨(some 22), none, .build [.int .i64 0, .int .i64 0] [(0, 1, (.const (.int .i64 1))), (1, 1, (.const (.int .i64 4)))]⟩,
    ⟨(some 23), none, .buildSlice 1 5 [.int .i64 0, .int .i64 0, .int .i64 0, .int .i64 0, .int .i64 0] [(0, 1, (.const (.int .i64 6))), (1, 1, (.const (.int .i64 0))), (2, 1, (.const (.int .i64 0))), (3, 1, (.const (.int .i64 5))), (4, 1, (.const (.int .i64 0)))]⟩,
    ⟨(some 24), none, .callF 11 [.tmp 22, .tmp 23]⟩,
    ⟨(some 21), none, .mov (.tmp 24)⟩,
    ⟨(some 25), none, .extract 0 (.tmp 21)⟩,
    ⟨(some 26), none, .extract 1 (.tmp 21)⟩,
    ⟨(some 5), none, .mov (.tmp 25)⟩,
    ⟨(some 6), none, .mov (.tmp 26)⟩]

def f8r4 : List AInstr := [
    ⟨(some 28), none, .build [.int .i64 0, .int .i64 0] [(0, 1, (.const (.int .i64 3))), (1, 1, (.const (.int .i64 1)))]⟩,
    ⟨(some 29), none, .buildSlice 1 3 [.int .i64 0, .int .i64 0, .int .i64 0] [(0, 1, (.const (.int .i64 4))), (1, 1, (.const (.int .i64 1))), (2, 1, (.const (.int .i64 2)))]⟩,
    ⟨(some 30), none, .callF 10 [.tmp 28, .tmp 29]⟩,
    ⟨(some 27), none, .mov (.tmp 30)⟩,
    ⟨(some 31), none, .extract 0 (.tmp 27)⟩,
    ⟨(some 32), none, .extract 1 (.tmp 27)⟩,
    ⟨(some 7), none, .mov (.tmp 31)⟩,
    ⟨(some 8), none, .mov (.tmp 32)⟩]

def f8r5 : List AInstr := [
    ⟨(some 33), none, .mov (.tmp 2)⟩,
    ⟨(some 34), none, .ibin .eql (.tmp 33) (.const (.int .i64 0))⟩,
    ⟨(some 35), none, .mov (.tmp 34)⟩,
    ⟨(some 36), (some (35, true)), .mov (.tmp 4)⟩,
    ⟨(some 37), (some (35, true)), .ibin .eql (.tmp 36) (.const (.int .i64 0))⟩,
    ⟨(some 38), none, .pick (.tmp 35) (.tmp 37) (.const (.bool false))⟩,
    ⟨(some 39), none, .mov (.tmp 38)⟩,
    ⟨(some 40), (some (39, true)), .mov (.tmp 6)⟩,
    ⟨(some 41), (some (39, true)), .ibin .eql (.tmp 40) (.const (.int .i64 0))⟩,
    ⟨(some 42), none, .pick (.tmp 39) (.tmp 41) (.const (.bool false))⟩,
    ⟨(some 43), none, .mov (.tmp 42)⟩,
    ⟨(some 44), (some (43, true)), .mov (.tmp 8)⟩,
    ⟨(some 45), (some (43, true)), .ibin .eql (.tmp 44) (.const (.int .i64 0))⟩,
    ⟨(some 46), none, .pick (.tmp 43) (.tmp 45) (.const (.bool false))⟩,
    ⟨(some 47), none, .mov (.tmp 46)⟩,
    ⟨(some 48), (some (47, true)), .mov (.tmp 1)⟩,
    ⟨(some 49), (some (47, true)), .ibin .eql (.tmp 48) (.const (.int .i64 5))⟩,
    ⟨(some 50), none, .pick (.tmp 47) (.tmp 49) (.const (.bool false))⟩,
    ⟨(some 51), none, .mov (.tmp 50)⟩,
    ⟨(some 52), (some (51, true)), .mov (.tmp 3)⟩,
    ⟨(some 53), (some (51, true)), .ibin .eql (.tmp 52) (.const (.int .i64 16))⟩,
    ⟨(some 54), none, .pick (.tmp 51) (.tmp 53) (.const (.bool false))⟩,
    ⟨(some 55), none, .mov (.tmp 54)⟩,
    ⟨(some 56), (some (55, true)), .mov (.tmp 5)⟩,
    ⟨(some 57), (some (55, true)), .buildSlice 1 5 [.int .i64 0, .int .i64 0, .int .i64 0, .int .i64 0, .int .i64 0] [(0, 1, (.const (.int .i64 0))), (1, 1, (.const (.int .i64 4))), (2, 1, (.const (.int .i64 2))), (3, 1, (.const (.int .i64 0))), (4, 1, (.const (.int .i64 4)))]⟩,
    ⟨(some 58), (some (55, true)), .callF 14 [.tmp 56, .tmp 57]⟩,
    ⟨(some 59), none, .pick (.tmp 55) (.tmp 58) (.const (.bool false))⟩,
    ⟨(some 60), none, .mov (.tmp 59)⟩,
    ⟨(some 61), (some (60, true)), .mov (.tmp 7)⟩,
    ⟨(some 62), (some (60, true)), .un .not (.tmp 61)⟩,
    ⟨(some 63), none, .pick (.tmp 60) (.tmp 62) (.const (.bool false))⟩,
    ⟨(some 0), none, .mov (.tmp 63)⟩]

def f8b : ACode := (.seq (.ops f8r0)
  (.keep [] (.seq (.ops f8r1)
  (.keep [1, 2] (.seq (.ops f8r2)
  (.keep [1, 2, 3, 4] (.seq (.ops f8r3)
  (.keep [1, 2, 3, 4, 5, 6] (.seq (.ops f8r4)
  (.keep [1, 2, 3, 4, 5, 6, 7, 8] (.seq (.ops f8r5)
  (.keep [0] .ret))))))))))))

def f8 : AFn := ⟨64, [.tmp 0], f8b⟩

theorem f8_ok : compFn Try.prog 8 = some f8.strip := by kernel_rfl

/- function 9: weirhouse/curve.Backlog; parameters 2; operations that are not compiled: 0 -/
def f9r0 : List AInstr := [
    ⟨(some 2), none, .box (.tmp 0)⟩,
    ⟨(some 3), none, .box (.tmp 1)⟩,
    ⟨(some 4), none, .mov (.const (.int .i64 0))⟩,
    ⟨(some 5), none, .mov (.const (.int .i64 0))⟩]

def f9r1 : List AInstr := [
    ⟨(some 9), none, .load (some 2) (.tmp 2)⟩,
    ⟨(some 10), none, .load (some 2) (.tmp 3)⟩,
    ⟨(some 11), none, .callF 12 [.tmp 9, .tmp 10]⟩,
    ⟨(some 8), none, .mov (.tmp 11)⟩,
    ⟨(some 12), none, .extract 0 (.tmp 8)⟩,
    ⟨(some 13), none, .extract 1 (.tmp 8)⟩,
    ⟨(some 6), none, .mov (.tmp 12)⟩,
    ⟨(some 7), none, .mov (.tmp 13)⟩]

def f9r2 : List AInstr := [
    ⟨(some 14), none, .mov (.tmp 7)⟩,
    ⟨(some 15), none, .ibin .neq (.tmp 14) (.const (.int .i64 0))⟩]

def f9r3 : List AInstr := [
    ⟨(some 16), none, .mov (.tmp 7)⟩,
    ⟨(some 4), none, .mov (.const (.int .i64 0))⟩,
    ⟨(some 5), none, .mov (.tmp 16)⟩]

def f9r4 : List AInstr := [
    ⟨(some 17), none, .fieldAddr 0 (.tmp 2)⟩,
    ⟨(some 18), none, .load none (.tmp 17)⟩,
    ⟨(some 19), none, .fieldAddr 1 (.tmp 2)⟩,
    ⟨(some 20), none, .load none (.tmp 19)⟩,
    ⟨(some 21), none, .fieldAddr 0 (.tmp 3)⟩,
    ⟨(some 22), none, .load none (.tmp 21)⟩,
    ⟨(some 23), none, .ibin .mul (.tmp 20) (.tmp 22)⟩,
    ⟨(some 24), none, .ibin .add (.tmp 18) (.tmp 23)⟩,
    ⟨(some 4), none, .mov (.tmp 24)⟩,
    ⟨(some 5), none, .mov (.const (.int .i64 0))⟩]

def f9b : ACode := (.seq (.ops f9r0)
  (.keep [2, 3] (.seq (.seq (.ops f9r1)
  (.keep [2, 3, 7] (.seq (.ops f9r2)
  (.keep [2, 3, 7, 15] (.cond (.tmp 15) (.keep [7] (.seq (.ops f9r3)
  (.keep [4, 5] .ret))) .skip)))))
  (.keep [2, 3] (.seq (.ops f9r4)
  (.keep [4, 5] .ret))))))

def f9 : AFn := ⟨25, [.tmp 4, .tmp 5], f9b⟩

theorem f9_ok : compFn Try.prog 9 = some f9.strip := by kernel_rfl

/- function 10: weirhouse/curve.Keeps; parameters 2; operations that are not compiled: 0 -/
def f10r0 : List AInstr := [
    ⟨(some 2), none, .box (.tmp 0)⟩,
    ⟨(some 4), none, .mov (.const (.bool false))⟩,
    ⟨(some 5), none, .mov (.const (.int .i64 0))⟩]

def f10r1 : List AInstr := [
    ⟨(some 9), none, .load (some 2) (.tmp 2)⟩,
    ⟨(some 10), none, .build [.int .i64 0, .int .i64 0] []⟩,
    ⟨(some 11), none, .callF 15 [.tmp 9, .tmp 10]⟩,
    ⟨(some 12), none, .ibin .neq (.tmp 11) (.const (.int .i64 0))⟩,
    ⟨(some 13), none, .mov (.tmp 12)⟩,
    ⟨(some 14), (some (13, false)), .mov (.tmp 1)⟩,
    ⟨(some 15), (some (13, false)), .callF 16 [.tmp 14]⟩,
    ⟨(some 16), none, .pick (.tmp 13) (.const (.bool true)) (.tmp 15)⟩]

def f10r2 : List AInstr := [
    ⟨(some 4), none, .mov (.const (.bool false))⟩,
    ⟨(some 5), none, .mov (.const (.int .i64 2))⟩]

def f10r3 : List AInstr := [
    ⟨(some 17), none, .fieldAddr 0 (.tmp 2)⟩,
    ⟨(some 18), none, .load none (.tmp 17)⟩,
    ⟨(some 6), none, .mov (.tmp 18)⟩]

def f10r4 : List AInstr := [
    ⟨(some 19), none, .mov (.tmp 1)⟩,
    ⟨(some 20), none, .len (.tmp 19)⟩,
    ⟨(some 21), none, .mov (.const (.int .i64 0))⟩]

def f10r5 : List AInstr := [
    ⟨(some 22), none, .ibin .lss (.tmp 21) (.tmp 20)⟩]

def f10r6 : List AInstr := [
    ⟨(some 23), none, .indexAddr 1 (.tmp 19) (.tmp 21)⟩,
    ⟨(some 24), none, .load none (.tmp 23)⟩,
    ⟨(some 8), none, .mov (.tmp 24)⟩]

def f10r7 : List AInstr := [
    ⟨(some 25), none, .mov (.tmp 6)⟩,
    ⟨(some 26), none, .fieldAddr 0 (.tmp 2)⟩,
    ⟨(some 27), none, .load none (.tmp 26)⟩,
    ⟨(some 28), none, .minmax false [.tmp 25, .tmp 27]⟩,
    ⟨(some 29), none, .fieldAddr 1 (.tmp 2)⟩,
    ⟨(some 30), none, .load none (.tmp 29)⟩,
    ⟨(some 31), none, .ibin .add (.tmp 28) (.tmp 30)⟩,
    ⟨(some 32), none, .mov (.tmp 8)⟩,
    ⟨(some 33), none, .ibin .sub (.tmp 31) (.tmp 32)⟩,
    ⟨(some 6), none, .mov (.tmp 33)⟩]

def f10r8 : List AInstr := [
    ⟨(some 34), none, .mov (.tmp 6)⟩,
    ⟨(some 35), none, .ibin .lss (.tmp 34) (.const (.int .i64 0))⟩]

def f10r9 : List AInstr := [
    ⟨(some 4), none, .mov (.const (.bool false))⟩,
    ⟨(some 5), none, .mov (.const (.int .i64 0))⟩]

def f10r10 : List AInstr := [
    ⟨(some 36), none, .ibin .add (.tmp 21) (.const (.int .i64 1))⟩,
    ⟨(some 21), none, .mov (.tmp 36)⟩]

/-- live: [2, 6, 19, 20, 21] -/
def f10l0 : ACode := (.seq (.ops f10r5)
  (.keep [2, 6, 19, 20, 21, 22] (.seq (.cond (.tmp 22) .skip (.exit 0))
  (.keep [2, 6, 19, 20, 21] (.seq (.block 1 (.seq (.ops f10r6)
  (.keep [2, 6, 8, 19, 20, 21] (.seq (.ops f10r7)
  (.keep [2, 6, 19, 20, 21] (.seq (.ops f10r8)
  (.keep [2, 6, 19, 20, 21, 35] (.cond (.tmp 35) (.keep [] (.seq (.ops f10r9)
  (.keep [4, 5] .ret))) .skip))))))))
  (.keep [2, 6, 19, 20, 21] (.ops f10r10)))))))

def f10r12 : List AInstr := [
    ⟨(some 4), none, .mov (.const (.bool true))⟩,
    ⟨(some 5), none, .mov (.const (.int .i64 0))⟩]

def f10b : ACode := (.seq (.ops f10r0)
  (.keep [1, 2] (.seq (.seq (.ops f10r1)
  (.keep [1, 2, 16] (.cond (.tmp 16) (.keep [] (.seq (.ops f10r2)
  (.keep [4, 5] .ret))) .skip)))
  (.keep [1, 2] (.seq (.ops f10r3)
  (.keep [1, 2, 6] (.seq (.seq (.ops f10r4)
  (.keep [2, 6, 19, 20, 21] (.block 0 (.loop f10l0))))
  (.keep [] (.seq (.ops f10r12)
  (.keep [4, 5] .ret))))))))))

def f10 : AFn := ⟨37, [.tmp 4, .tmp 5], f10b⟩

theorem f10_ok : compFn Try.prog 10 = some f10.strip := by kernel_rfl

/- function 11: weirhouse/curve.Serve; parameters 2; operations that are not compiled: 0 -/
def f11r0 : List AInstr := [
    ⟨(some 2), none, .box (.tmp 0)⟩,
    ⟨(some 4), none, .mov (.const (.slice none 0 0))⟩,
    ⟨(some 5), none, .mov (.const (.int .i64 0))⟩]

def f11r1 : List AInstr := [
    ⟨(some 12), none, .build [.int .i64 0, .int .i64 0] []⟩,
    ⟨(some 13), none, .load (some 2) (.tmp 2)⟩,
    ⟨(some 14), none, .callF 15 [.tmp 12, .tmp 13]⟩,
    ⟨(some 15), none, .ibin .neq (.tmp 14) (.const (.int .i64 0))⟩,
    ⟨(some 16), none, .mov (.tmp 15)⟩,
    ⟨(some 17), (some (16, false)), .mov (.tmp 1)⟩,
    ⟨(some 18), (some (16, false)), .callF 16 [.tmp 17]⟩,
    ⟨(some 19), none, .pick (.tmp 16) (.const (.bool true)) (.tmp 18)⟩]

def f11r2 : List AInstr := [
    ⟨(some 4), none, .mov (.const (.slice none 0 0))⟩,
    ⟨(some 5), none, .mov (.const (.int .i64 2))⟩]

def f11r3 : List AInstr := [
    ⟨(some 6), none, .mov (.const (.int .i64 0))⟩,
    ⟨(some 7), none, .mov (.const (.int .i64 0))⟩]

def f11r4 : List AInstr := [
    ⟨(some 8), none, .mov (.const (.slice none 0 0))⟩]

def f11r5 : List AInstr := [
    ⟨(some 20), none, .mov (.tmp 1)⟩,
    ⟨(some 21), none, .len (.tmp 20)⟩,
    ⟨(some 22), none, .mov (.const (.int .i64 0))⟩]

def f11r6 : List AInstr := [
    ⟨(some 23), none, .ibin .lss (.tmp 22) (.tmp 21)⟩]

def f11r7 : List AInstr := [
    ⟨(some 24), none, .indexAddr 1 (.tmp 20) (.tmp 22)⟩,
    ⟨(some 25), none, .load none (.tmp 24)⟩,
    ⟨(some 10), none, .mov (.tmp 25)⟩]

def f11r8 : List AInstr := [
    ⟨(some 26), none, .mov (.tmp 6)⟩,
    ⟨(some 27), none, .mov (.tmp 10)⟩,
    ⟨(some 28), none, .ibin .add (.tmp 26) (.tmp 27)⟩,
    ⟨(some 6), none, .mov (.tmp 28)⟩]

def f11r9 : List AInstr := [
    ⟨(some 11), none, .mov (.const (.int .i64 0))⟩]

def f11r10 : List AInstr := [
    ⟨(some 29), none, .mov (.tmp 6)⟩,
    ⟨(some 30), none, .ibin .gtr (.tmp 29) (.const (.int .i64 0))⟩]

def f11r11 : List AInstr := [
    ⟨(some 31), none, .mov (.tmp 7)⟩,
    ⟨(some 32), none, .fieldAddr 0 (.tmp 2)⟩,
    ⟨(some 33), none, .load none (.tmp 32)⟩,
    ⟨(some 34), none, .ibin .geq (.tmp 31) (.tmp 33)⟩]

def f11r12 : List AInstr := [
    ⟨(some 35), none, .mov (.tmp 6)⟩,
    ⟨(some 36), none, .fieldAddr 1 (.tmp 2)⟩,
    ⟨(some 37), none, .load none (.tmp 36)⟩,
    ⟨(some 38), none, .minmax false [.tmp 35, .tmp 37]⟩,
    ⟨(some 11), none, .mov (.tmp 38)⟩]

def f11r13 : List AInstr := [
    ⟨(some 39), none, .mov (.tmp 7)⟩,
    ⟨(some 40), none, .ibin .add (.tmp 39) (.const (.int .i64 1))⟩,
    ⟨(some 7), none, .mov (.tmp 40)⟩]

def f11r14 : List AInstr := [
    ⟨(some 41), none, .mov (.tmp 6)⟩,
    ⟨(some 42), none, .mov (.tmp 11)⟩,
    ⟨(some 43), none, .ibin .sub (.tmp 41) (.tmp 42)⟩,
    ⟨(some 6), none, .mov (.tmp 43)⟩]

def f11r15 : List AInstr := [
    ⟨(some 44), none, .mov (.tmp 6)⟩,
    ⟨(some 45), none, .ibin .eql (.tmp 44) (.const (.int .i64 0))⟩]

def f11r16 : List AInstr := [
    ⟨(some 7), none, .mov (.const (.int .i64 0))⟩]

def f11r17 : List AInstr := [
    ⟨(some 46), none, .mov (.tmp 8)⟩,
    ⟨(some 47), none, .mov (.tmp 11)⟩,
    ⟨(some 48), none, .buildSlice 1 1 [.int .i64 0] [(0, 1, (.tmp 47))]⟩,
    ⟨(some 49), none, .append 1 8 (.tmp 46) (.tmp 48)⟩,
    ⟨(some 8), none, .mov (.tmp 49)⟩]

def f11r18 : List AInstr := [
    ⟨(some 50), none, .ibin .add (.tmp 22) (.const (.int .i64 1))⟩,
    ⟨(some 22), none, .mov (.tmp 50)⟩]

/-- live: [2, 6, 7, 8, 20, 21, 22] -/
def f11l0 : ACode := (.seq (.ops f11r6)
  (.keep [2, 6, 7, 8, 20, 21, 22, 23] (.seq (.cond (.tmp 23) .skip (.exit 0))
  (.keep [2, 6, 7, 8, 20, 21, 22] (.seq (.block 1 (.seq (.ops f11r7)
  (.keep [2, 6, 7, 8, 10, 20, 21, 22] (.seq (.ops f11r8)
  (.keep [2, 6, 7, 8, 20, 21, 22] (.seq (.ops f11r9)
  (.keep [2, 6, 7, 8, 11, 20, 21, 22] (.seq (.seq (.ops f11r10)
  (.keep [2, 6, 7, 8, 11, 20, 21, 22, 30] (.cond (.tmp 30) (.keep [2, 6, 7, 8, 11, 20, 21, 22] (.seq (.seq (.ops f11r11)
  (.keep [2, 6, 7, 8, 11, 20, 21, 22, 34] (.cond (.tmp 34) (.keep [2, 6, 7, 8, 20, 21, 22] (.ops f11r12)) .skip)))
  (.keep [2, 6, 7, 8, 11, 20, 21, 22] (.ops f11r13)))) .skip)))
  (.keep [2, 6, 7, 8, 11, 20, 21, 22] (.seq (.ops f11r14)
  (.keep [2, 6, 7, 8, 11, 20, 21, 22] (.seq (.seq (.ops f11r15)
  (.keep [2, 6, 7, 8, 11, 20, 21, 22, 45] (.cond (.tmp 45) (.keep [2, 6, 8, 11, 20, 21, 22] (.ops f11r16)) .skip)))
  (.keep [2, 6, 7, 8, 11, 20, 21, 22] (.ops f11r17))))))))))))))
  (.keep [2, 6, 7, 8, 20, 21, 22] (.ops f11r18)))))))

def f11r20 : List AInstr := [
    ⟨(some 51), none, .mov (.tmp 8)⟩,
    ⟨(some 4), none, .mov (.tmp 51)⟩,
    ⟨(some 5), none, .mov (.const (.int .i64 0))⟩]

def f11b : ACode := (.seq (.ops f11r0)
  (.keep [1, 2] (.seq (.seq (.ops f11r1)
  (.keep [1, 2, 19] (.cond (.tmp 19) (.keep [] (.seq (.ops f11r2)
  (.keep [4, 5] .ret))) .skip)))
  (.keep [1, 2] (.seq (.ops f11r3)
  (.keep [1, 2, 6, 7] (.seq (.ops f11r4)
  (.keep [1, 2, 6, 7, 8] (.seq (.seq (.ops f11r5)
  (.keep [2, 6, 7, 8, 20, 21, 22] (.block 0 (.loop f11l0))))
  (.keep [8] (.seq (.ops f11r20)
  (.keep [4, 5] .ret))))))))))))

def f11 : AFn := ⟨52, [.tmp 4, .tmp 5], f11b⟩

theorem f11_ok : compFn Try.prog 11 = some f11.strip := by kernel_rfl

/- function 12: weirhouse/curve.Delay; parameters 2; operations that are not compiled: 0 -/
def f12r0 : List AInstr := [
    ⟨(some 2), none, .box (.tmp 0)⟩,
    ⟨(some 3), none, .box (.tmp 1)⟩,
    ⟨(some 4), none, .mov (.const (.int .i64 0))⟩,
    ⟨(some 5), none, .mov (.const (.int .i64 0))⟩]

def f12r1 : List AInstr := [
    ⟨(some 8), none, .load (some 2) (.tmp 2)⟩,
    ⟨(some 9), none, .load (some 2) (.tmp 3)⟩,
    ⟨(some 10), none, .callF 15 [.tmp 8, .tmp 9]⟩,
    ⟨(some 6), none, .mov (.tmp 10)⟩]

def f12r2 : List AInstr := [
    ⟨(some 11), none, .mov (.tmp 6)⟩,
    ⟨(some 12), none, .ibin .neq (.tmp 11) (.const (.int .i64 0))⟩]

def f12r3 : List AInstr := [
    ⟨(some 13), none, .mov (.tmp 6)⟩,
    ⟨(some 4), none, .mov (.const (.int .i64 0))⟩,
    ⟨(some 5), none, .mov (.tmp 13)⟩]

def f12r4 : List AInstr := [
    ⟨(some 14), none, .fieldAddr 0 (.tmp 2)⟩,
    ⟨(some 15), none, .load none (.tmp 14)⟩,
    ⟨(some 16), none, .fieldAddr 1 (.tmp 2)⟩,
    ⟨(some 17), none, .load none (.tmp 16)⟩,
    ⟨(some 18), none, .ibin .add (.tmp 15) (.tmp 17)⟩,
    ⟨(some 7), none, .mov (.tmp 18)⟩]

def f12r5 : List AInstr := [
    ⟨(some 20), none, .mov (.tmp 7)⟩,
    ⟨(some 21), none, .ibin .eql (.tmp 20) (.const (.int .i64 0))⟩,
    ⟨(some 19), none, .mov (.tmp 21)⟩]

def f12r6 : List AInstr := [
    ⟨(some 4), none, .mov (.const (.int .i64 0))⟩,
    ⟨(some 5), none, .mov (.const (.int .i64 0))⟩]

def f12r7 : List AInstr := [
    ⟨(some 23), none, .fieldAddr 1 (.tmp 2)⟩,
    ⟨(some 24), none, .load none (.tmp 23)⟩,
    ⟨(some 25), none, .fieldAddr 1 (.tmp 3)⟩,
    ⟨(some 26), none, .load none (.tmp 25)⟩,
    ⟨(some 27), none, .ibin .gtr (.tmp 24) (.tmp 26)⟩,
    ⟨(some 28), none, .mov (.tmp 27)⟩,
    ⟨(some 29), (some (28, false)), .fieldAddr 1 (.tmp 3)⟩,
    ⟨(some 30), (some (28, false)), .load none (.tmp 29)⟩,
    ⟨(some 31), (some (28, false)), .ibin .eql (.tmp 30) (.const (.int .i64 0))⟩,
    ⟨(some 32), none, .pick (.tmp 28) (.const (.bool true)) (.tmp 31)⟩,
    ⟨(some 22), none, .mov (.tmp 32)⟩]

def f12r8 : List AInstr := [
    ⟨(some 4), none, .mov (.const (.int .i64 0))⟩,
    ⟨(some 5), none, .mov (.const (.int .i64 3))⟩]

def f12r9 : List AInstr := [
    ⟨(some 33), none, .fieldAddr 0 (.tmp 3)⟩,
    ⟨(some 34), none, .load none (.tmp 33)⟩,
    ⟨(some 35), none, .mov (.tmp 7)⟩,
    ⟨(some 36), none, .fieldAddr 1 (.tmp 3)⟩,
    ⟨(some 37), none, .load none (.tmp 36)⟩,
    ⟨(some 38), none, .ibin .add (.tmp 35) (.tmp 37)⟩,
    ⟨(some 39), none, .ibin .sub (.tmp 38) (.const (.int .i64 1))⟩,
    ⟨(some 40), none, .fieldAddr 1 (.tmp 3)⟩,
    ⟨(some 41), none, .load none (.tmp 40)⟩,
    ⟨(some 42), none, .ibin .quo (.tmp 39) (.tmp 41)⟩,
    ⟨(some 43), none, .ibin .add (.tmp 34) (.tmp 42)⟩,
    ⟨(some 44), none, .ibin .sub (.tmp 43) (.const (.int .i64 1))⟩,
    ⟨(some 4), none, .mov (.tmp 44)⟩,
    ⟨(some 5), none, .mov (.const (.int .i64 0))⟩]

def f12b : ACode := (.seq (.ops f12r0)
  (.keep [2, 3] (.seq (.seq (.ops f12r1)
  (.keep [2, 3, 6] (.seq (.ops f12r2)
  (.keep [2, 3, 6, 12] (.cond (.tmp 12) (.keep [6] (.seq (.ops f12r3)
  (.keep [4, 5] .ret))) .skip)))))
  (.keep [2, 3] (.seq (.ops f12r4)
  (.keep [2, 3, 7] (.seq (.block 0 (.seq (.ops f12r5)
  (.keep [2, 3, 7, 19] (.cond (.tmp 19) (.keep [] (.seq (.ops f12r6)
  (.keep [4, 5] .ret))) (.keep [2, 3, 7] (.seq (.ops f12r7)
  (.keep [3, 7, 22] (.cond (.tmp 22) (.keep [] (.seq (.ops f12r8)
  (.keep [4, 5] .ret))) .skip))))))))
  (.keep [3, 7] (.seq (.draw f12r9 [(0, 0, false), (0, 0, false), (0, 0, false), (0, 0, false), (0, 0, false), (0, 0, false), (0, 0, false), (0, 0, false), (0, 0, false), (0, 0, false), (0, 0, false), (0, 0, false), (0, 0, false), (0, 0, false)])
  (.keep [4, 5] .ret))))))))))

def f12 : AFn := ⟨45, [.tmp 4, .tmp 5], f12b⟩

theorem f12_ok : compFn Try.prog 12 = some f12.strip := by kernel_rfl

/- function 13: weirhouse/curve.Chain; parameters 2; operations that are not compiled: 0 -/
def f13r0 : List AInstr := [
    ⟨(some 2), none, .box (.tmp 0)⟩,
    ⟨(some 3), none, .box (.tmp 1)⟩,
    ⟨(some 4), none, .alloc [.int .i64 0, .int .i64 0]⟩,
    ⟨(some 5), none, .mov (.const (.int .i64 0))⟩]

def f13r1 : List AInstr := [
    ⟨(some 7), none, .build [.int .i64 0, .int .i64 0] []⟩,
    ⟨(some 8), none, .load (some 2) (.tmp 2)⟩,
    ⟨(some 9), none, .callF 15 [.tmp 7, .tmp 8]⟩,
    ⟨(some 10), none, .ibin .neq (.tmp 9) (.const (.int .i64 0))⟩,
    ⟨(some 11), none, .mov (.tmp 10)⟩,
    ⟨(some 12), (some (11, false)), .build [.int .i64 0, .int .i64 0] []⟩,
    ⟨(some 13), (some (11, false)), .load (some 2) (.tmp 3)⟩,
    ⟨(some 14), (some (11, false)), .callF 15 [.tmp 12, .tmp 13]⟩,
    ⟨(some 15), (some (11, false)), .ibin .neq (.tmp 14) (.const (.int .i64 0))⟩,
    ⟨(some 16), none, .pick (.tmp 11) (.const (.bool true)) (.tmp 15)⟩]

def f13r2 : List AInstr := [
    ⟨(some 17), none, .build [.int .i64 0, .int .i64 0] []⟩,
    ⟨none, none, .store 2 (.tmp 4) (.tmp 17)⟩,
    ⟨(some 5), none, .mov (.const (.int .i64 2))⟩]

def f13r3 : List AInstr := [
    ⟨(some 18), none, .fieldAddr 0 (.tmp 2)⟩,
    ⟨(some 19), none, .load none (.tmp 18)⟩,
    ⟨(some 20), none, .fieldAddr 0 (.tmp 3)⟩,
    ⟨(some 21), none, .load none (.tmp 20)⟩,
    ⟨(some 22), none, .ibin .add (.tmp 19) (.tmp 21)⟩,
    ⟨(some 23), none, .fieldAddr 1 (.tmp 2)⟩,
    ⟨(some 24), none, .load none (.tmp 23)⟩,
    ⟨(some 25), none, .fieldAddr 1 (.tmp 3)⟩,
    ⟨(some 26), none, .load none (.tmp 25)⟩,
    ⟨(some 27), none, .minmax false [.tmp 24, .tmp 26]⟩,
    ⟨(some 28), none, .build [.int .i64 0, .int .i64 0] [(0, 1, (.tmp 22)), (1, 1, (.tmp 27))]⟩,
    ⟨(some 6), none, .alloc [.int .i64 0, .int .i64 0]⟩,
    ⟨none, none, .store 2 (.tmp 6) (.tmp 28)⟩]

def f13r4 : List AInstr := [
    ⟨(some 29), none, .fieldAddr 0 (.tmp 6)⟩,
    ⟨(some 30), none, .load none (.tmp 29)⟩,
    ⟨(some 31), none, .ibin .gtr (.tmp 30) (.const (.int .i64 1048576))⟩]

def f13r5 : List AInstr := [
    ⟨(some 32), none, .build [.int .i64 0, .int .i64 0] []⟩,
    ⟨none, none, .store 2 (.tmp 4) (.tmp 32)⟩,
    ⟨(some 5), none, .mov (.const (.int .i64 4))⟩]

def f13r6 : List AInstr := [
    ⟨(some 33), none, .load (some 2) (.tmp 6)⟩,
    ⟨none, none, .store 2 (.tmp 4) (.tmp 33)⟩,
    ⟨(some 5), none, .mov (.const (.int .i64 0))⟩]

def f13b : ACode := (.seq (.ops f13r0)
  (.keep [2, 3, 4] (.seq (.seq (.ops f13r1)
  (.keep [2, 3, 4, 16] (.cond (.tmp 16) (.keep [4] (.seq (.ops f13r2)
  (.keep [4, 5] .ret))) .skip)))
  (.keep [2, 3, 4] (.seq (.ops f13r3)
  (.keep [4, 6] (.seq (.seq (.ops f13r4)
  (.keep [4, 6, 31] (.cond (.tmp 31) (.keep [4] (.seq (.ops f13r5)
  (.keep [4, 5] .ret))) .skip)))
  (.keep [4, 6] (.seq (.ops f13r6)
  (.keep [4, 5] .ret))))))))))

def f13 : AFn := ⟨34, [.cell 4 (some 2), .tmp 5], f13b⟩

theorem f13_ok : compFn Try.prog 13 = some f13.strip := by kernel_rfl

/- function 14: slices.Equal[[]int,int]; parameters 2; operations that are not compiled: 0 -/
def f14r0 : List AInstr := [
    ⟨(some 4), none, .mov (.const (.bool false))⟩]

def f14r1 : List AInstr := [
    ⟨(some 6), none, .mov (.tmp 0)⟩,
    ⟨(some 7), none, .len (.tmp 6)⟩,
    ⟨(some 8), none, .mov (.tmp 1)⟩,
    ⟨(some 9), none, .len (.tmp 8)⟩,
    ⟨(some 10), none, .ibin .neq (.tmp 7) (.tmp 9)⟩]

def f14r2 : List AInstr := [
    ⟨(some 4), none, .mov (.const (.bool false))⟩]

def f14r3 : List AInstr := [
    ⟨(some 11), none, .mov (.tmp 0)⟩,
    ⟨(some 12), none, .len (.tmp 11)⟩,
    ⟨(some 13), none, .mov (.const (.int .i64 0))⟩]

def f14r4 : List AInstr := [
    ⟨(some 14), none, .ibin .lss (.tmp 13) (.tmp 12)⟩]

def f14r5 : List AInstr := [
    ⟨(some 15), none, .mov (.tmp 13)⟩,
    ⟨(some 5), none, .mov (.tmp 15)⟩]

def f14r6 : List AInstr := [
    ⟨(some 16), none, .mov (.tmp 0)⟩,
    ⟨(some 17), none, .mov (.tmp 5)⟩,
    ⟨(some 18), none, .indexAddr 1 (.tmp 16) (.tmp 17)⟩,
    ⟨(some 19), none, .load none (.tmp 18)⟩,
    ⟨(some 20), none, .mov (.tmp 1)⟩,
    ⟨(some 21), none, .mov (.tmp 5)⟩,
    ⟨(some 22), none, .indexAddr 1 (.tmp 20) (.tmp 21)⟩,
    ⟨(some 23), none, .load none (.tmp 22)⟩,
    ⟨(some 24), none, .ibin .neq (.tmp 19) (.tmp 23)⟩]

def f14r7 : List AInstr := [
    ⟨(some 4), none, .mov (.const (.bool false))⟩]

def f14r8 : List AInstr := [
    ⟨(some 25), none, .ibin .add (.tmp 13) (.const (.int .i64 1))⟩,
    ⟨(some 13), none, .mov (.tmp 25)⟩]

/-- live: [0, 1, 12, 13] -/
def f14l0 : ACode := (.seq (.ops f14r4)
  (.keep [0, 1, 12, 13, 14] (.seq (.cond (.tmp 14) .skip (.exit 0))
  (.keep [0, 1, 12, 13] (.seq (.block 1 (.seq (.ops f14r5)
  (.keep [0, 1, 5, 12, 13] (.seq (.draw f14r6 [(0, 0, false), (0, 0, false), (0, 0, false), (0, 0, false), (0, 0, false), (0, 0, false), (0, 0, false), (0, 0, false), (0, 0, false)])
  (.keep [0, 1, 12, 13, 24] (.cond (.tmp 24) (.keep [] (.seq (.ops f14r7)
  (.keep [4] .ret))) .skip))))))
  (.keep [0, 1, 12, 13] (.ops f14r8)))))))

def f14r10 : List AInstr := [
    ⟨(some 4), none, .mov (.const (.bool true))⟩]

def f14b : ACode := (.seq (.ops f14r0)
  (.keep [0, 1] (.seq (.seq (.ops f14r1)
  (.keep [0, 1, 10] (.cond (.tmp 10) (.keep [] (.seq (.ops f14r2)
  (.keep [4] .ret))) .skip)))
  (.keep [0, 1] (.seq (.seq (.ops f14r3)
  (.keep [0, 1, 12, 13] (.block 0 (.loop f14l0))))
  (.keep [] (.seq (.ops f14r10)
  (.keep [4] .ret))))))))

def f14 : AFn := ⟨26, [.tmp 4], f14b⟩

theorem f14_ok : compFn Try.prog 14 = some f14.strip := by kernel_rfl

/- function 15: weirhouse/curve.Wrong; parameters 2; operations that are not compiled: 0 -/
def f15r0 : List AInstr := [
    ⟨(some 2), none, .box (.tmp 0)⟩,
    ⟨(some 3), none, .box (.tmp 1)⟩,
    ⟨(some 4), none, .mov (.const (.int .i64 0))⟩]

def f15r1 : List AInstr := [
    ⟨(some 5), none, .fieldAddr 0 (.tmp 2)⟩,
    ⟨(some 6), none, .load none (.tmp 5)⟩,
    ⟨(some 7), none, .callF 17 [.tmp 6]⟩,
    ⟨(some 8), none, .un .not (.tmp 7)⟩,
    ⟨(some 9), none, .mov (.tmp 8)⟩,
    ⟨(some 10), (some (9, false)), .fieldAddr 1 (.tmp 2)⟩,
    ⟨(some 11), (some (9, false)), .load none (.tmp 10)⟩,
    ⟨(some 12), (some (9, false)), .callF 17 [.tmp 11]⟩,
    ⟨(some 13), (some (9, false)), .un .not (.tmp 12)⟩,
    ⟨(some 14), none, .pick (.tmp 9) (.const (.bool true)) (.tmp 13)⟩,
    ⟨(some 15), none, .mov (.tmp 14)⟩,
    ⟨(some 16), (some (15, false)), .fieldAddr 0 (.tmp 3)⟩,
    ⟨(some 17), (some (15, false)), .load none (.tmp 16)⟩,
    ⟨(some 18), (some (15, false)), .callF 17 [.tmp 17]⟩,
    ⟨(some 19), (some (15, false)), .un .not (.tmp 18)⟩,
    ⟨(some 20), none, .pick (.tmp 15) (.const (.bool true)) (.tmp 19)⟩,
    ⟨(some 21), none, .mov (.tmp 20)⟩,
    ⟨(some 22), (some (21, false)), .fieldAddr 1 (.tmp 3)⟩,
    ⟨(some 23), (some (21, false)), .load none (.tmp 22)⟩,
    ⟨(some 24), (some (21, false)), .callF 17 [.tmp 23]⟩,
    ⟨(some 25), (some (21, false)), .un .not (.tmp 24)⟩,
    ⟨(some 26), none, .pick (.tmp 21) (.const (.bool true)) (.tmp 25)⟩]

def f15r2 : List AInstr := [
    ⟨(some 4), none, .mov (.const (.int .i64 2))⟩]

def f15r3 : List AInstr := [
    ⟨(some 4), none, .mov (.const (.int .i64 0))⟩]

def f15b : ACode := (.seq (.ops f15r0)
  (.keep [2, 3] (.seq (.seq (.ops f15r1)
  (.keep [26] (.cond (.tmp 26) (.keep [] (.seq (.ops f15r2)
  (.keep [4] .ret))) .skip)))
  (.keep [] (.seq (.ops f15r3)
  (.keep [4] .ret))))))

def f15 : AFn := ⟨27, [.tmp 4], f15b⟩

theorem f15_ok : compFn Try.prog 15 = some f15.strip := by kernel_rfl

/- function 16: weirhouse/curve.bad; parameters 1; operations that are not compiled: 0 -/
def f16r0 : List AInstr := [
    ⟨(some 2), none, .mov (.const (.bool false))⟩]

def f16r1 : List AInstr := [
    ⟨(some 5), none, .mov (.tmp 0)⟩,
    ⟨(some 6), none, .len (.tmp 5)⟩,
    ⟨(some 7), none, .ibin .gtr (.tmp 6) (.const (.int .i64 400))⟩]

def f16r2 : List AInstr := [
    ⟨(some 2), none, .mov (.const (.bool true))⟩]

def f16r3 : List AInstr := [
    ⟨(some 8), none, .mov (.tmp 0)⟩,
    ⟨(some 9), none, .len (.tmp 8)⟩,
    ⟨(some 10), none, .mov (.const (.int .i64 0))⟩]

def f16r4 : List AInstr := [
    ⟨(some 11), none, .ibin .lss (.tmp 10) (.tmp 9)⟩]

def f16r5 : List AInstr := [
    ⟨(some 12), none, .indexAddr 1 (.tmp 8) (.tmp 10)⟩,
    ⟨(some 13), none, .load none (.tmp 12)⟩,
    ⟨(some 4), none, .mov (.tmp 13)⟩]

def f16r6 : List AInstr := [
    ⟨(some 14), none, .mov (.tmp 4)⟩,
    ⟨(some 15), none, .callF 17 [.tmp 14]⟩,
    ⟨(some 16), none, .un .not (.tmp 15)⟩]

def f16r7 : List AInstr := [
    ⟨(some 2), none, .mov (.const (.bool true))⟩]

def f16r8 : List AInstr := [
    ⟨(some 17), none, .ibin .add (.tmp 10) (.const (.int .i64 1))⟩,
    ⟨(some 10), none, .mov (.tmp 17)⟩]

/-- live: [8, 9, 10] -/
def f16l0 : ACode := (.seq (.ops f16r4)
  (.keep [8, 9, 10, 11] (.seq (.cond (.tmp 11) .skip (.exit 0))
  (.keep [8, 9, 10] (.seq (.block 1 (.seq (.ops f16r5)
  (.keep [4, 8, 9, 10] (.seq (.ops f16r6)
  (.keep [8, 9, 10, 16] (.cond (.tmp 16) (.keep [] (.seq (.ops f16r7)
  (.keep [2] .ret))) .skip))))))
  (.keep [8, 9, 10] (.ops f16r8)))))))

def f16r10 : List AInstr := [
    ⟨(some 2), none, .mov (.const (.bool false))⟩]

def f16b : ACode := (.seq (.ops f16r0)
  (.keep [0] (.seq (.seq (.ops f16r1)
  (.keep [0, 7] (.cond (.tmp 7) (.keep [] (.seq (.ops f16r2)
  (.keep [2] .ret))) .skip)))
  (.keep [0] (.seq (.seq (.ops f16r3)
  (.keep [8, 9, 10] (.block 0 (.loop f16l0))))
  (.keep [] (.seq (.ops f16r10)
  (.keep [2] .ret))))))))

def f16 : AFn := ⟨18, [.tmp 2], f16b⟩

theorem f16_ok : compFn Try.prog 16 = some f16.strip := by kernel_rfl

/- function 17: weirhouse/curve.fits; parameters 1; operations that are not compiled: 0 -/
def f17r0 : List AInstr := [
    ⟨(some 2), none, .mov (.const (.bool false))⟩]

def f17r1 : List AInstr := [
    ⟨(some 3), none, .mov (.tmp 0)⟩,
    ⟨(some 4), none, .ibin .geq (.tmp 3) (.const (.int .i64 0))⟩,
    ⟨(some 5), none, .mov (.tmp 4)⟩,
    ⟨(some 6), (some (5, true)), .mov (.tmp 0)⟩,
    ⟨(some 7), (some (5, true)), .ibin .leq (.tmp 6) (.const (.int .i64 1048576))⟩,
    ⟨(some 8), none, .pick (.tmp 5) (.tmp 7) (.const (.bool false))⟩,
    ⟨(some 2), none, .mov (.tmp 8)⟩]

def f17b : ACode := (.seq (.ops f17r0)
  (.keep [0] (.seq (.ops f17r1)
  (.keep [2] .ret))))

def f17 : AFn := ⟨9, [.tmp 2], f17b⟩

theorem f17_ok : compFn Try.prog 17 = some f17.strip := by kernel_rfl

end Go.Proofs.Ytbgfplljfiahmaa
