/-
  The functions of this seat as abstract code. Printed by a program of this claim's writer.
-/
import Derived.Test.YtadogoahnpakbaaChecked
import Derived.Test.YtadogoahnpakbaaAmS
import Derived.KernelRfl
namespace Go.Proofs.Ytadogoahnpakbaa
open Go Go.Am

/- function 3: weirhouse/weirhousekeep.SketchNever; parameters 4; operations that are not compiled: 0 -/
def f3r0 : List AInstr := [
    ⟨(some 8), none, .mov (.const (.bool false))⟩]

def f3r1 : List AInstr := [
    ⟨(some 21), none, .callF 7 []⟩,
    ⟨(some 22), none, .un .not (.tmp 21)⟩]

def f3r2 : List AInstr := [
    ⟨(some 8), none, .mov (.const (.bool false))⟩]

def f3r3 : List AInstr := [
    ⟨(some 24), none, .mov (.tmp 0)⟩,
    ⟨(some 25), none, .mov (.tmp 1)⟩,
    ⟨(some 26), none, .mov (.tmp 2)⟩,
    ⟨(some 27), none, .callF 8 [.tmp 24, .tmp 25, .tmp 26, .const (.bool false)]⟩,
    ⟨(some 23), none, .mov (.tmp 27)⟩,
    ⟨(some 28), none, .extract 0 (.tmp 23)⟩,
    ⟨(some 29), none, .extract 1 (.tmp 23)⟩,
    ⟨(some 9), none, .alloc [.int .i64 0, .int .i64 0, .slice none 0 0]⟩,
    ⟨none, none, .store 3 (.tmp 9) (.tmp 28)⟩,
    ⟨(some 10), none, .mov (.tmp 29)⟩]

def f3r4 : List AInstr := [
    ⟨(some 31), none, .mov (.tmp 0)⟩,
    ⟨(some 32), none, .mov (.tmp 1)⟩,
    ⟨(some 33), none, .mov (.tmp 2)⟩,
    ⟨(some 34), none, .callF 8 [.tmp 31, .tmp 32, .tmp 33, .const (.bool true)]⟩,
    ⟨(some 30), none, .mov (.tmp 34)⟩,
    ⟨(some 35), none, .extract 0 (.tmp 30)⟩,
    ⟨(some 36), none, .extract 1 (.tmp 30)⟩,
    ⟨(some 11), none, .alloc [.int .i64 0, .int .i64 0, .slice none 0 0]⟩,
    ⟨none, none, .store 3 (.tmp 11) (.tmp 35)⟩,
    ⟨(some 12), none, .mov (.tmp 36)⟩]

def f3r5 : List AInstr := [
    ⟨(some 37), none, .mov (.tmp 10)⟩,
    ⟨(some 38), none, .un .not (.tmp 37)⟩,
    ⟨(some 39), none, .mov (.tmp 38)⟩,
    ⟨(some 40), (some (39, false)), .mov (.tmp 12)⟩,
    ⟨(some 41), (some (39, false)), .un .not (.tmp 40)⟩,
    ⟨(some 42), none, .pick (.tmp 39) (.const (.bool true)) (.tmp 41)⟩]

def f3r6 : List AInstr := [
    ⟨(some 8), none, .mov (.const (.bool true))⟩]

def f3r7 : List AInstr := [
    ⟨(some 13), none, .mov (.const (.int .i64 0))⟩,
    ⟨(some 14), none, .mov (.const (.int .i64 0))⟩]

def f3r8 : List AInstr := [
    ⟨(some 43), none, .mov (.tmp 2)⟩,
    ⟨(some 44), none, .len (.tmp 43)⟩,
    ⟨(some 45), none, .mov (.const (.int .i64 0))⟩]

def f3r9 : List AInstr := [
    ⟨(some 46), none, .ibin .lss (.tmp 45) (.tmp 44)⟩]

def f3r10 : List AInstr := [
    ⟨(some 47), none, .indexAddr 2 (.tmp 43) (.tmp 45)⟩,
    ⟨(some 48), none, .load (some 2) (.tmp 47)⟩,
    ⟨(some 16), none, .alloc [.int .i64 0, .int .i64 0]⟩,
    ⟨none, none, .store 2 (.tmp 16) (.tmp 48)⟩]

def f3r11 : List AInstr := [
    ⟨(some 49), none, .mov (.tmp 14)⟩,
    ⟨(some 50), none, .fieldAddr 1 (.tmp 16)⟩,
    ⟨(some 51), none, .load none (.tmp 50)⟩,
    ⟨(some 52), none, .ibin .add (.tmp 49) (.tmp 51)⟩,
    ⟨(some 14), none, .mov (.tmp 52)⟩]

def f3r12 : List AInstr := [
    ⟨(some 53), none, .fieldAddr 0 (.tmp 16)⟩,
    ⟨(some 54), none, .load none (.tmp 53)⟩,
    ⟨(some 55), none, .conv .u64 (.tmp 54)⟩,
    ⟨(some 56), none, .mov (.tmp 3)⟩,
    ⟨(some 57), none, .ibin .eql (.tmp 55) (.tmp 56)⟩]

def f3r13 : List AInstr := [
    ⟨(some 58), none, .mov (.tmp 13)⟩,
    ⟨(some 59), none, .fieldAddr 1 (.tmp 16)⟩,
    ⟨(some 60), none, .load none (.tmp 59)⟩,
    ⟨(some 61), none, .ibin .add (.tmp 58) (.tmp 60)⟩,
    ⟨(some 13), none, .mov (.tmp 61)⟩]

def f3r14 : List AInstr := [
    ⟨(some 62), none, .ibin .add (.tmp 45) (.const (.int .i64 1))⟩,
    ⟨(some 45), none, .mov (.tmp 62)⟩]

/-- live: [3, 9, 11, 13, 14, 43, 44, 45] -/
def f3l0 : ACode := (.seq (.ops f3r9)
  (.keep [3, 9, 11, 13, 14, 43, 44, 45, 46] (.seq (.cond (.tmp 46) .skip (.exit 0))
  (.keep [3, 9, 11, 13, 14, 43, 44, 45] (.seq (.block 1 (.seq (.ops f3r10)
  (.keep [3, 9, 11, 13, 14, 16, 43, 44, 45] (.seq (.ops f3r11)
  (.keep [3, 9, 11, 13, 14, 16, 43, 44, 45] (.seq (.ops f3r12)
  (.keep [3, 9, 11, 13, 14, 16, 43, 44, 45, 57] (.cond (.tmp 57) (.keep [3, 9, 11, 13, 14, 16, 43, 44, 45] (.ops f3r13)) .skip))))))))
  (.keep [3, 9, 11, 13, 14, 43, 44, 45] (.ops f3r14)))))))

def f3r16 : List AInstr := [
    ⟨(some 64), none, .load (some 3) (.tmp 9)⟩,
    ⟨(some 65), none, .mov (.tmp 3)⟩,
    ⟨(some 66), none, .callF 9 [.tmp 64, .tmp 65]⟩,
    ⟨(some 63), none, .mov (.tmp 66)⟩,
    ⟨(some 67), none, .extract 0 (.tmp 63)⟩,
    ⟨(some 68), none, .extract 1 (.tmp 63)⟩,
    ⟨(some 17), none, .mov (.tmp 67)⟩,
    ⟨(some 18), none, .mov (.tmp 68)⟩]

def f3r17 : List AInstr := [
    ⟨(some 70), none, .load (some 3) (.tmp 11)⟩,
    ⟨(some 71), none, .mov (.tmp 3)⟩,
    ⟨(some 72), none, .callF 9 [.tmp 70, .tmp 71]⟩,
    ⟨(some 69), none, .mov (.tmp 72)⟩,
    ⟨(some 73), none, .extract 0 (.tmp 69)⟩,
    ⟨(some 74), none, .extract 1 (.tmp 69)⟩,
    ⟨(some 19), none, .mov (.tmp 73)⟩,
    ⟨(some 20), none, .mov (.tmp 74)⟩]

def f3r18 : List AInstr := [
    ⟨(some 75), none, .mov (.tmp 18)⟩,
    ⟨(some 76), none, .ibin .eql (.tmp 75) (.const (.int .i64 0))⟩,
    ⟨(some 77), none, .mov (.tmp 76)⟩,
    ⟨(some 78), (some (77, true)), .mov (.tmp 20)⟩,
    ⟨(some 79), (some (77, true)), .ibin .eql (.tmp 78) (.const (.int .i64 0))⟩,
    ⟨(some 80), none, .pick (.tmp 77) (.tmp 79) (.const (.bool false))⟩,
    ⟨(some 81), none, .mov (.tmp 80)⟩,
    ⟨(some 82), (some (81, true)), .mov (.tmp 13)⟩,
    ⟨(some 83), (some (81, true)), .mov (.tmp 19)⟩,
    ⟨(some 84), (some (81, true)), .ibin .leq (.tmp 82) (.tmp 83)⟩,
    ⟨(some 85), none, .pick (.tmp 81) (.tmp 84) (.const (.bool false))⟩,
    ⟨(some 86), none, .mov (.tmp 85)⟩,
    ⟨(some 87), (some (86, true)), .mov (.tmp 19)⟩,
    ⟨(some 88), (some (86, true)), .mov (.tmp 17)⟩,
    ⟨(some 89), (some (86, true)), .ibin .leq (.tmp 87) (.tmp 88)⟩,
    ⟨(some 90), none, .pick (.tmp 86) (.tmp 89) (.const (.bool false))⟩,
    ⟨(some 91), none, .mov (.tmp 90)⟩,
    ⟨(some 92), (some (91, true)), .mov (.tmp 17)⟩,
    ⟨(some 93), (some (91, true)), .mov (.tmp 14)⟩,
    ⟨(some 94), (some (91, true)), .ibin .leq (.tmp 92) (.tmp 93)⟩,
    ⟨(some 95), none, .pick (.tmp 91) (.tmp 94) (.const (.bool false))⟩,
    ⟨(some 8), none, .mov (.tmp 95)⟩]

def f3b : ACode := (.seq (.ops f3r0)
  (.keep [0, 1, 2, 3] (.seq (.seq (.ops f3r1)
  (.keep [0, 1, 2, 3, 22] (.cond (.tmp 22) (.keep [] (.seq (.ops f3r2)
  (.keep [8] .ret))) .skip)))
  (.keep [0, 1, 2, 3] (.seq (.ops f3r3)
  (.keep [0, 1, 2, 3, 9, 10] (.seq (.ops f3r4)
  (.keep [2, 3, 9, 10, 11, 12] (.seq (.seq (.ops f3r5)
  (.keep [2, 3, 9, 11, 42] (.cond (.tmp 42) (.keep [] (.seq (.ops f3r6)
  (.keep [8] .ret))) .skip)))
  (.keep [2, 3, 9, 11] (.seq (.ops f3r7)
  (.keep [2, 3, 9, 11, 13, 14] (.seq (.seq (.ops f3r8)
  (.keep [3, 9, 11, 13, 14, 43, 44, 45] (.block 0 (.loop f3l0))))
  (.keep [3, 9, 11, 13, 14] (.seq (.ops f3r16)
  (.keep [3, 11, 13, 14, 17, 18] (.seq (.ops f3r17)
  (.keep [13, 14, 17, 18, 19, 20] (.seq (.ops f3r18)
  (.keep [8] .ret))))))))))))))))))))

def f3 : AFn := ⟨96, [.tmp 8], f3b⟩

theorem f3_ok : compFn Try.prog 3 = some f3.strip := by kernel_rfl

/- function 4: weirhouse/weirhousekeep.SketchRows; parameters 3; operations that are not compiled: 0 -/
def f4r0 : List AInstr := [
    ⟨(some 6), none, .mov (.const (.bool false))⟩]

def f4r1 : List AInstr := [
    ⟨(some 16), none, .callF 7 []⟩,
    ⟨(some 17), none, .un .not (.tmp 16)⟩]

def f4r2 : List AInstr := [
    ⟨(some 6), none, .mov (.const (.bool false))⟩]

def f4r3 : List AInstr := [
    ⟨(some 19), none, .mov (.tmp 0)⟩,
    ⟨(some 20), none, .mov (.tmp 1)⟩,
    ⟨(some 21), none, .mov (.tmp 2)⟩,
    ⟨(some 22), none, .callF 8 [.tmp 19, .tmp 20, .tmp 21, .const (.bool false)]⟩,
    ⟨(some 18), none, .mov (.tmp 22)⟩,
    ⟨(some 23), none, .extract 0 (.tmp 18)⟩,
    ⟨(some 24), none, .extract 1 (.tmp 18)⟩,
    ⟨(some 7), none, .alloc [.int .i64 0, .int .i64 0, .slice none 0 0]⟩,
    ⟨none, none, .store 3 (.tmp 7) (.tmp 23)⟩,
    ⟨(some 8), none, .mov (.tmp 24)⟩]

def f4r4 : List AInstr := [
    ⟨(some 25), none, .mov (.tmp 8)⟩,
    ⟨(some 26), none, .un .not (.tmp 25)⟩,
    ⟨(some 27), none, .mov (.tmp 26)⟩,
    ⟨(some 28), (some (27, false)), .fieldAddr 2 (.tmp 7)⟩,
    ⟨(some 29), (some (27, false)), .load none (.tmp 28)⟩,
    ⟨(some 30), (some (27, false)), .len (.tmp 29)⟩,
    ⟨(some 31), (some (27, false)), .mov (.tmp 0)⟩,
    ⟨(some 32), (some (27, false)), .mov (.tmp 1)⟩,
    ⟨(some 33), (some (27, false)), .ibin .mul (.tmp 31) (.tmp 32)⟩,
    ⟨(some 34), (some (27, false)), .ibin .neq (.tmp 30) (.tmp 33)⟩,
    ⟨(some 35), none, .pick (.tmp 27) (.const (.bool true)) (.tmp 34)⟩]

def f4r5 : List AInstr := [
    ⟨(some 36), none, .mov (.tmp 8)⟩,
    ⟨(some 37), none, .un .not (.tmp 36)⟩,
    ⟨(some 6), none, .mov (.tmp 37)⟩]

def f4r6 : List AInstr := [
    ⟨(some 9), none, .mov (.const (.int .i64 0))⟩]

def f4r7 : List AInstr := [
    ⟨(some 38), none, .mov (.tmp 2)⟩,
    ⟨(some 39), none, .len (.tmp 38)⟩,
    ⟨(some 40), none, .mov (.const (.int .i64 0))⟩]

def f4r8 : List AInstr := [
    ⟨(some 41), none, .ibin .lss (.tmp 40) (.tmp 39)⟩]

def f4r9 : List AInstr := [
    ⟨(some 42), none, .indexAddr 2 (.tmp 38) (.tmp 40)⟩,
    ⟨(some 43), none, .load (some 2) (.tmp 42)⟩,
    ⟨(some 11), none, .alloc [.int .i64 0, .int .i64 0]⟩,
    ⟨none, none, .store 2 (.tmp 11) (.tmp 43)⟩]

def f4r10 : List AInstr := [
    ⟨(some 44), none, .mov (.tmp 9)⟩,
    ⟨(some 45), none, .fieldAddr 1 (.tmp 11)⟩,
    ⟨(some 46), none, .load none (.tmp 45)⟩,
    ⟨(some 47), none, .ibin .add (.tmp 44) (.tmp 46)⟩,
    ⟨(some 9), none, .mov (.tmp 47)⟩]

def f4r11 : List AInstr := [
    ⟨(some 48), none, .ibin .add (.tmp 40) (.const (.int .i64 1))⟩,
    ⟨(some 40), none, .mov (.tmp 48)⟩]

/-- live: [0, 1, 7, 9, 38, 39, 40] -/
def f4l0 : ACode := (.seq (.ops f4r8)
  (.keep [0, 1, 7, 9, 38, 39, 40, 41] (.seq (.cond (.tmp 41) .skip (.exit 0))
  (.keep [0, 1, 7, 9, 38, 39, 40] (.seq (.block 1 (.seq (.ops f4r9)
  (.keep [0, 1, 7, 9, 11, 38, 39, 40] (.ops f4r10))))
  (.keep [0, 1, 7, 9, 38, 39, 40] (.ops f4r11)))))))

def f4r13 : List AInstr := [
    ⟨(some 49), none, .mov (.tmp 0)⟩,
    ⟨(some 50), none, .mov (.const (.int .i64 0))⟩]

def f4r14 : List AInstr := [
    ⟨(some 51), none, .ibin .lss (.tmp 50) (.tmp 49)⟩]

def f4r15 : List AInstr := [
    ⟨(some 52), none, .mov (.tmp 50)⟩,
    ⟨(some 12), none, .mov (.tmp 52)⟩]

def f4r16 : List AInstr := [
    ⟨(some 13), none, .mov (.const (.int .i64 0))⟩]

def f4r17 : List AInstr := [
    ⟨(some 53), none, .fieldAddr 2 (.tmp 7)⟩,
    ⟨(some 54), none, .load none (.tmp 53)⟩,
    ⟨(some 55), none, .mov (.tmp 12)⟩,
    ⟨(some 56), none, .mov (.tmp 1)⟩,
    ⟨(some 57), none, .ibin .mul (.tmp 55) (.tmp 56)⟩,
    ⟨(some 58), none, .mov (.tmp 12)⟩,
    ⟨(some 59), none, .ibin .add (.tmp 58) (.const (.int .i64 1))⟩,
    ⟨(some 60), none, .mov (.tmp 1)⟩,
    ⟨(some 61), none, .ibin .mul (.tmp 59) (.tmp 60)⟩,
    ⟨(some 62), none, .slice 1 (.tmp 54) (some (.tmp 57)) (some (.tmp 61)) none⟩,
    ⟨(some 63), none, .len (.tmp 62)⟩,
    ⟨(some 64), none, .mov (.const (.int .i64 0))⟩]

def f4r18 : List AInstr := [
    ⟨(some 65), none, .ibin .lss (.tmp 64) (.tmp 63)⟩]

def f4r19 : List AInstr := [
    ⟨(some 66), none, .indexAddr 1 (.tmp 62) (.tmp 64)⟩,
    ⟨(some 67), none, .load none (.tmp 66)⟩,
    ⟨(some 15), none, .mov (.tmp 67)⟩]

def f4r20 : List AInstr := [
    ⟨(some 68), none, .mov (.tmp 13)⟩,
    ⟨(some 69), none, .mov (.tmp 15)⟩,
    ⟨(some 70), none, .ibin .add (.tmp 68) (.tmp 69)⟩,
    ⟨(some 13), none, .mov (.tmp 70)⟩]

def f4r21 : List AInstr := [
    ⟨(some 71), none, .ibin .add (.tmp 64) (.const (.int .i64 1))⟩,
    ⟨(some 64), none, .mov (.tmp 71)⟩]

/-- live: [1, 7, 9, 13, 49, 50, 62, 63, 64] -/
def f4l1 : ACode := (.seq (.ops f4r18)
  (.keep [1, 7, 9, 13, 49, 50, 62, 63, 64, 65] (.seq (.cond (.tmp 65) .skip (.exit 4))
  (.keep [1, 7, 9, 13, 49, 50, 62, 63, 64] (.seq (.block 5 (.seq (.ops f4r19)
  (.keep [1, 7, 9, 13, 15, 49, 50, 62, 63, 64] (.ops f4r20))))
  (.keep [1, 7, 9, 13, 49, 50, 62, 63, 64] (.ops f4r21)))))))

def f4r23 : List AInstr := [
    ⟨(some 72), none, .mov (.tmp 13)⟩,
    ⟨(some 73), none, .mov (.tmp 9)⟩,
    ⟨(some 74), none, .ibin .neq (.tmp 72) (.tmp 73)⟩]

def f4r24 : List AInstr := [
    ⟨(some 6), none, .mov (.const (.bool false))⟩]

def f4r25 : List AInstr := [
    ⟨(some 75), none, .ibin .add (.tmp 50) (.const (.int .i64 1))⟩,
    ⟨(some 50), none, .mov (.tmp 75)⟩]

/-- live: [1, 7, 9, 49, 50] -/
def f4l2 : ACode := (.seq (.ops f4r14)
  (.keep [1, 7, 9, 49, 50, 51] (.seq (.cond (.tmp 51) .skip (.exit 2))
  (.keep [1, 7, 9, 49, 50] (.seq (.block 3 (.seq (.ops f4r15)
  (.keep [1, 7, 9, 12, 49, 50] (.seq (.ops f4r16)
  (.keep [1, 7, 9, 12, 13, 49, 50] (.seq (.seq (.ops f4r17)
  (.keep [1, 7, 9, 13, 49, 50, 62, 63, 64] (.block 4 (.loop f4l1))))
  (.keep [1, 7, 9, 13, 49, 50] (.seq (.ops f4r23)
  (.keep [1, 7, 9, 49, 50, 74] (.cond (.tmp 74) (.keep [] (.seq (.ops f4r24)
  (.keep [6] .ret))) .skip))))))))))
  (.keep [1, 7, 9, 49, 50] (.ops f4r25)))))))

def f4r27 : List AInstr := [
    ⟨(some 6), none, .mov (.const (.bool true))⟩]

def f4b : ACode := (.seq (.ops f4r0)
  (.keep [0, 1, 2] (.seq (.seq (.ops f4r1)
  (.keep [0, 1, 2, 17] (.cond (.tmp 17) (.keep [] (.seq (.ops f4r2)
  (.keep [6] .ret))) .skip)))
  (.keep [0, 1, 2] (.seq (.ops f4r3)
  (.keep [0, 1, 2, 7, 8] (.seq (.seq (.ops f4r4)
  (.keep [0, 1, 2, 7, 8, 35] (.cond (.tmp 35) (.keep [8] (.seq (.ops f4r5)
  (.keep [6] .ret))) .skip)))
  (.keep [0, 1, 2, 7] (.seq (.ops f4r6)
  (.keep [0, 1, 2, 7, 9] (.seq (.seq (.ops f4r7)
  (.keep [0, 1, 7, 9, 38, 39, 40] (.block 0 (.loop f4l0))))
  (.keep [0, 1, 7, 9] (.seq (.seq (.ops f4r13)
  (.keep [1, 7, 9, 49, 50] (.block 2 (.loop f4l2))))
  (.keep [] (.seq (.ops f4r27)
  (.keep [6] .ret))))))))))))))))

def f4 : AFn := ⟨76, [.tmp 6], f4b⟩

theorem f4_ok : compFn Try.prog 4 = some f4.strip := by kernel_rfl

/- function 5: weirhouse/weirhousekeep.SketchAlone; parameters 4; operations that are not compiled: 0 -/
def f5r0 : List AInstr := [
    ⟨(some 8), none, .mov (.const (.bool false))⟩]

def f5r1 : List AInstr := [
    ⟨(some 24), none, .callF 7 []⟩,
    ⟨(some 25), none, .un .not (.tmp 24)⟩]

def f5r2 : List AInstr := [
    ⟨(some 8), none, .mov (.const (.bool false))⟩]

def f5r3 : List AInstr := [
    ⟨(some 27), none, .mov (.tmp 0)⟩,
    ⟨(some 28), none, .mov (.tmp 1)⟩,
    ⟨(some 29), none, .mov (.tmp 2)⟩,
    ⟨(some 30), none, .callF 8 [.tmp 27, .tmp 28, .tmp 29, .const (.bool false)]⟩,
    ⟨(some 26), none, .mov (.tmp 30)⟩,
    ⟨(some 31), none, .extract 0 (.tmp 26)⟩,
    ⟨(some 32), none, .extract 1 (.tmp 26)⟩,
    ⟨(some 9), none, .alloc [.int .i64 0, .int .i64 0, .slice none 0 0]⟩,
    ⟨none, none, .store 3 (.tmp 9) (.tmp 31)⟩,
    ⟨(some 10), none, .mov (.tmp 32)⟩]

def f5r4 : List AInstr := [
    ⟨(some 33), none, .mov (.tmp 10)⟩,
    ⟨(some 34), none, .un .not (.tmp 33)⟩]

def f5r5 : List AInstr := [
    ⟨(some 8), none, .mov (.const (.bool true))⟩]

def f5r6 : List AInstr := [
    ⟨(some 11), none, .mov (.const (.int .i64 0))⟩]

def f5r7 : List AInstr := [
    ⟨(some 35), none, .mov (.tmp 2)⟩,
    ⟨(some 36), none, .len (.tmp 35)⟩,
    ⟨(some 37), none, .mov (.const (.int .i64 0))⟩]

def f5r8 : List AInstr := [
    ⟨(some 38), none, .ibin .lss (.tmp 37) (.tmp 36)⟩]

def f5r9 : List AInstr := [
    ⟨(some 39), none, .indexAddr 2 (.tmp 35) (.tmp 37)⟩,
    ⟨(some 40), none, .load (some 2) (.tmp 39)⟩,
    ⟨(some 13), none, .alloc [.int .i64 0, .int .i64 0]⟩,
    ⟨none, none, .store 2 (.tmp 13) (.tmp 40)⟩]

def f5r10 : List AInstr := [
    ⟨(some 41), none, .fieldAddr 0 (.tmp 13)⟩,
    ⟨(some 42), none, .load none (.tmp 41)⟩,
    ⟨(some 43), none, .conv .u64 (.tmp 42)⟩,
    ⟨(some 44), none, .mov (.tmp 3)⟩,
    ⟨(some 45), none, .ibin .eql (.tmp 43) (.tmp 44)⟩]

def f5r11 : List AInstr := [
    ⟨(some 46), none, .mov (.tmp 11)⟩,
    ⟨(some 47), none, .fieldAddr 1 (.tmp 13)⟩,
    ⟨(some 48), none, .load none (.tmp 47)⟩,
    ⟨(some 49), none, .ibin .add (.tmp 46) (.tmp 48)⟩,
    ⟨(some 11), none, .mov (.tmp 49)⟩]

def f5r12 : List AInstr := [
    ⟨(some 50), none, .ibin .add (.tmp 37) (.const (.int .i64 1))⟩,
    ⟨(some 37), none, .mov (.tmp 50)⟩]

/-- live: [0, 1, 2, 3, 9, 11, 35, 36, 37] -/
def f5l0 : ACode := (.seq (.ops f5r8)
  (.keep [0, 1, 2, 3, 9, 11, 35, 36, 37, 38] (.seq (.cond (.tmp 38) .skip (.exit 0))
  (.keep [0, 1, 2, 3, 9, 11, 35, 36, 37] (.seq (.block 1 (.seq (.ops f5r9)
  (.keep [0, 1, 2, 3, 9, 11, 13, 35, 36, 37] (.seq (.ops f5r10)
  (.keep [0, 1, 2, 3, 9, 11, 13, 35, 36, 37, 45] (.cond (.tmp 45) (.keep [0, 1, 2, 3, 9, 11, 13, 35, 36, 37] (.ops f5r11)) .skip))))))
  (.keep [0, 1, 2, 3, 9, 11, 35, 36, 37] (.ops f5r12)))))))

def f5r14 : List AInstr := [
    ⟨(some 52), none, .load (some 3) (.tmp 9)⟩,
    ⟨(some 53), none, .mov (.tmp 3)⟩,
    ⟨(some 54), none, .callF 9 [.tmp 52, .tmp 53]⟩,
    ⟨(some 51), none, .mov (.tmp 54)⟩,
    ⟨(some 55), none, .extract 0 (.tmp 51)⟩,
    ⟨(some 56), none, .extract 1 (.tmp 51)⟩,
    ⟨(some 14), none, .mov (.tmp 55)⟩,
    ⟨(some 15), none, .mov (.tmp 56)⟩]

def f5r15 : List AInstr := [
    ⟨(some 57), none, .mov (.tmp 0)⟩,
    ⟨(some 58), none, .mov (.const (.int .i64 0))⟩]

def f5r16 : List AInstr := [
    ⟨(some 59), none, .ibin .lss (.tmp 58) (.tmp 57)⟩]

def f5r17 : List AInstr := [
    ⟨(some 60), none, .mov (.tmp 58)⟩,
    ⟨(some 16), none, .mov (.tmp 60)⟩]

def f5r18 : List AInstr := [
    ⟨(some 62), none, .mov (.tmp 16)⟩,
    ⟨(some 63), none, .mov (.tmp 1)⟩,
    ⟨(some 64), none, .mov (.tmp 3)⟩,
    ⟨(some 65), none, .callF 10 [.tmp 62, .tmp 63, .tmp 64]⟩,
    ⟨(some 61), none, .mov (.tmp 65)⟩,
    ⟨(some 66), none, .extract 0 (.tmp 61)⟩,
    ⟨(some 67), none, .extract 1 (.tmp 61)⟩,
    ⟨(some 17), none, .mov (.tmp 66)⟩,
    ⟨(some 18), none, .mov (.tmp 67)⟩]

def f5r19 : List AInstr := [
    ⟨(some 68), none, .mov (.tmp 18)⟩,
    ⟨(some 69), none, .ibin .eql (.tmp 68) (.const (.int .i64 0))⟩,
    ⟨(some 19), none, .mov (.tmp 69)⟩]

def f5r20 : List AInstr := [
    ⟨(some 70), none, .mov (.tmp 2)⟩,
    ⟨(some 71), none, .len (.tmp 70)⟩,
    ⟨(some 72), none, .mov (.const (.int .i64 0))⟩]

def f5r21 : List AInstr := [
    ⟨(some 73), none, .ibin .lss (.tmp 72) (.tmp 71)⟩]

def f5r22 : List AInstr := [
    ⟨(some 74), none, .indexAddr 2 (.tmp 70) (.tmp 72)⟩,
    ⟨(some 75), none, .load (some 2) (.tmp 74)⟩,
    ⟨(some 21), none, .alloc [.int .i64 0, .int .i64 0]⟩,
    ⟨none, none, .store 2 (.tmp 21) (.tmp 75)⟩]

def f5r23 : List AInstr := [
    ⟨(some 77), none, .mov (.tmp 16)⟩,
    ⟨(some 78), none, .mov (.tmp 1)⟩,
    ⟨(some 79), none, .fieldAddr 0 (.tmp 21)⟩,
    ⟨(some 80), none, .load none (.tmp 79)⟩,
    ⟨(some 81), none, .conv .u64 (.tmp 80)⟩,
    ⟨(some 82), none, .callF 10 [.tmp 77, .tmp 78, .tmp 81]⟩,
    ⟨(some 76), none, .mov (.tmp 82)⟩,
    ⟨(some 83), none, .extract 0 (.tmp 76)⟩,
    ⟨(some 84), none, .extract 1 (.tmp 76)⟩,
    ⟨(some 22), none, .mov (.tmp 83)⟩,
    ⟨(some 23), none, .mov (.tmp 84)⟩]

def f5r24 : List AInstr := [
    ⟨(some 85), none, .mov (.tmp 19)⟩,
    ⟨(some 86), none, .mov (.tmp 85)⟩,
    ⟨(some 87), (some (86, true)), .mov (.tmp 23)⟩,
    ⟨(some 88), (some (86, true)), .ibin .eql (.tmp 87) (.const (.int .i64 0))⟩,
    ⟨(some 89), none, .pick (.tmp 86) (.tmp 88) (.const (.bool false))⟩,
    ⟨(some 90), none, .mov (.tmp 89)⟩,
    ⟨(some 91), (some (90, true)), .fieldAddr 0 (.tmp 21)⟩,
    ⟨(some 92), (some (90, true)), .load none (.tmp 91)⟩,
    ⟨(some 93), (some (90, true)), .conv .u64 (.tmp 92)⟩,
    ⟨(some 94), (some (90, true)), .mov (.tmp 3)⟩,
    ⟨(some 95), (some (90, true)), .ibin .eql (.tmp 93) (.tmp 94)⟩,
    ⟨(some 96), (some (90, true)), .mov (.tmp 95)⟩,
    ⟨(some 97), (some (96, false)), .mov (.tmp 17)⟩,
    ⟨(some 98), (some (96, false)), .mov (.tmp 22)⟩,
    ⟨(some 99), (some (96, false)), .ibin .neq (.tmp 97) (.tmp 98)⟩,
    ⟨(some 100), (some (90, true)), .pick (.tmp 96) (.const (.bool true)) (.tmp 99)⟩,
    ⟨(some 101), (some (90, true)), .mov (.tmp 100)⟩,
    ⟨(some 102), (some (101, false)), .fieldAddr 1 (.tmp 21)⟩,
    ⟨(some 103), (some (101, false)), .load none (.tmp 102)⟩,
    ⟨(some 104), (some (101, false)), .ibin .eql (.tmp 103) (.const (.int .i64 0))⟩,
    ⟨(some 105), (some (90, true)), .pick (.tmp 101) (.const (.bool true)) (.tmp 104)⟩,
    ⟨(some 106), none, .pick (.tmp 90) (.tmp 105) (.const (.bool false))⟩,
    ⟨(some 19), none, .mov (.tmp 106)⟩]

def f5r25 : List AInstr := [
    ⟨(some 107), none, .ibin .add (.tmp 72) (.const (.int .i64 1))⟩,
    ⟨(some 72), none, .mov (.tmp 107)⟩]

/-- live: [1, 2, 3, 11, 14, 15, 16, 17, 19, 57, 58, 70, 71, 72] -/
def f5l1 : ACode := (.seq (.ops f5r21)
  (.keep [1, 2, 3, 11, 14, 15, 16, 17, 19, 57, 58, 70, 71, 72, 73] (.seq (.cond (.tmp 73) .skip (.exit 4))
  (.keep [1, 2, 3, 11, 14, 15, 16, 17, 19, 57, 58, 70, 71, 72] (.seq (.block 5 (.seq (.ops f5r22)
  (.keep [1, 2, 3, 11, 14, 15, 16, 17, 19, 21, 57, 58, 70, 71, 72] (.seq (.ops f5r23)
  (.keep [1, 2, 3, 11, 14, 15, 16, 17, 19, 21, 22, 23, 57, 58, 70, 71, 72] (.ops f5r24))))))
  (.keep [1, 2, 3, 11, 14, 15, 16, 17, 19, 57, 58, 70, 71, 72] (.ops f5r25)))))))

def f5r27 : List AInstr := [
    ⟨(some 108), none, .mov (.tmp 19)⟩,
    ⟨(some 109), none, .mov (.tmp 108)⟩,
    ⟨(some 110), (some (109, true)), .mov (.tmp 15)⟩,
    ⟨(some 111), (some (109, true)), .ibin .neq (.tmp 110) (.const (.int .i64 0))⟩,
    ⟨(some 112), (some (109, true)), .mov (.tmp 111)⟩,
    ⟨(some 113), (some (112, false)), .mov (.tmp 14)⟩,
    ⟨(some 114), (some (112, false)), .mov (.tmp 11)⟩,
    ⟨(some 115), (some (112, false)), .ibin .neq (.tmp 113) (.tmp 114)⟩,
    ⟨(some 116), (some (109, true)), .pick (.tmp 112) (.const (.bool true)) (.tmp 115)⟩,
    ⟨(some 117), none, .pick (.tmp 109) (.tmp 116) (.const (.bool false))⟩]

def f5r28 : List AInstr := [
    ⟨(some 8), none, .mov (.const (.bool false))⟩]

def f5r29 : List AInstr := [
    ⟨(some 118), none, .ibin .add (.tmp 58) (.const (.int .i64 1))⟩,
    ⟨(some 58), none, .mov (.tmp 118)⟩]

/-- live: [1, 2, 3, 11, 14, 15, 57, 58] -/
def f5l2 : ACode := (.seq (.ops f5r16)
  (.keep [1, 2, 3, 11, 14, 15, 57, 58, 59] (.seq (.cond (.tmp 59) .skip (.exit 2))
  (.keep [1, 2, 3, 11, 14, 15, 57, 58] (.seq (.block 3 (.seq (.ops f5r17)
  (.keep [1, 2, 3, 11, 14, 15, 16, 57, 58] (.seq (.ops f5r18)
  (.keep [1, 2, 3, 11, 14, 15, 16, 17, 18, 57, 58] (.seq (.ops f5r19)
  (.keep [1, 2, 3, 11, 14, 15, 16, 17, 19, 57, 58] (.seq (.seq (.ops f5r20)
  (.keep [1, 2, 3, 11, 14, 15, 16, 17, 19, 57, 58, 70, 71, 72] (.block 4 (.loop f5l1))))
  (.keep [1, 2, 3, 11, 14, 15, 19, 57, 58] (.seq (.ops f5r27)
  (.keep [1, 2, 3, 11, 14, 15, 57, 58, 117] (.cond (.tmp 117) (.keep [] (.seq (.ops f5r28)
  (.keep [8] .ret))) .skip))))))))))))
  (.keep [1, 2, 3, 11, 14, 15, 57, 58] (.ops f5r29)))))))

def f5r31 : List AInstr := [
    ⟨(some 119), none, .mov (.tmp 15)⟩,
    ⟨(some 120), none, .ibin .eql (.tmp 119) (.const (.int .i64 0))⟩,
    ⟨(some 8), none, .mov (.tmp 120)⟩]

def f5b : ACode := (.seq (.ops f5r0)
  (.keep [0, 1, 2, 3] (.seq (.seq (.ops f5r1)
  (.keep [0, 1, 2, 3, 25] (.cond (.tmp 25) (.keep [] (.seq (.ops f5r2)
  (.keep [8] .ret))) .skip)))
  (.keep [0, 1, 2, 3] (.seq (.ops f5r3)
  (.keep [0, 1, 2, 3, 9, 10] (.seq (.seq (.ops f5r4)
  (.keep [0, 1, 2, 3, 9, 34] (.cond (.tmp 34) (.keep [] (.seq (.ops f5r5)
  (.keep [8] .ret))) .skip)))
  (.keep [0, 1, 2, 3, 9] (.seq (.ops f5r6)
  (.keep [0, 1, 2, 3, 9, 11] (.seq (.seq (.ops f5r7)
  (.keep [0, 1, 2, 3, 9, 11, 35, 36, 37] (.block 0 (.loop f5l0))))
  (.keep [0, 1, 2, 3, 9, 11] (.seq (.ops f5r14)
  (.keep [0, 1, 2, 3, 11, 14, 15] (.seq (.seq (.ops f5r15)
  (.keep [1, 2, 3, 11, 14, 15, 57, 58] (.block 2 (.loop f5l2))))
  (.keep [15] (.seq (.ops f5r31)
  (.keep [8] .ret))))))))))))))))))

def f5 : AFn := ⟨121, [.tmp 8], f5b⟩

theorem f5_ok : compFn Try.prog 5 = some f5.strip := by kernel_rfl

/- function 6: weirhouse/weirhousekeep.SketchJoin; parameters 4; operations that are not compiled: 0 -/
def f6r0 : List AInstr := [
    ⟨(some 8), none, .mov (.const (.bool false))⟩]

def f6r1 : List AInstr := [
    ⟨(some 19), none, .callF 7 []⟩,
    ⟨(some 20), none, .un .not (.tmp 19)⟩]

def f6r2 : List AInstr := [
    ⟨(some 8), none, .mov (.const (.bool false))⟩]

def f6r3 : List AInstr := [
    ⟨(some 22), none, .mov (.tmp 0)⟩,
    ⟨(some 23), none, .mov (.tmp 1)⟩,
    ⟨(some 24), none, .mov (.tmp 2)⟩,
    ⟨(some 25), none, .callF 8 [.tmp 22, .tmp 23, .tmp 24, .const (.bool false)]⟩,
    ⟨(some 21), none, .mov (.tmp 25)⟩,
    ⟨(some 26), none, .extract 0 (.tmp 21)⟩,
    ⟨(some 27), none, .extract 1 (.tmp 21)⟩,
    ⟨(some 9), none, .alloc [.int .i64 0, .int .i64 0, .slice none 0 0]⟩,
    ⟨none, none, .store 3 (.tmp 9) (.tmp 26)⟩,
    ⟨(some 10), none, .mov (.tmp 27)⟩]

def f6r4 : List AInstr := [
    ⟨(some 29), none, .mov (.tmp 0)⟩,
    ⟨(some 30), none, .mov (.tmp 1)⟩,
    ⟨(some 31), none, .mov (.tmp 3)⟩,
    ⟨(some 32), none, .callF 8 [.tmp 29, .tmp 30, .tmp 31, .const (.bool false)]⟩,
    ⟨(some 28), none, .mov (.tmp 32)⟩,
    ⟨(some 33), none, .extract 0 (.tmp 28)⟩,
    ⟨(some 34), none, .extract 1 (.tmp 28)⟩,
    ⟨(some 11), none, .alloc [.int .i64 0, .int .i64 0, .slice none 0 0]⟩,
    ⟨none, none, .store 3 (.tmp 11) (.tmp 33)⟩,
    ⟨(some 12), none, .mov (.tmp 34)⟩]

def f6r5 : List AInstr := [
    ⟨(some 36), none, .mov (.tmp 0)⟩,
    ⟨(some 37), none, .mov (.tmp 1)⟩,
    ⟨(some 38), none, .buildSlice 2 0 [] []⟩,
    ⟨(some 39), none, .mov (.tmp 3)⟩,
    ⟨(some 40), none, .append 2 16 (.tmp 38) (.tmp 39)⟩,
    ⟨(some 41), none, .mov (.tmp 2)⟩,
    ⟨(some 42), none, .append 2 16 (.tmp 40) (.tmp 41)⟩,
    ⟨(some 43), none, .callF 8 [.tmp 36, .tmp 37, .tmp 42, .const (.bool false)]⟩,
    ⟨(some 35), none, .mov (.tmp 43)⟩,
    ⟨(some 44), none, .extract 0 (.tmp 35)⟩,
    ⟨(some 45), none, .extract 1 (.tmp 35)⟩,
    ⟨(some 13), none, .alloc [.int .i64 0, .int .i64 0, .slice none 0 0]⟩,
    ⟨none, none, .store 3 (.tmp 13) (.tmp 44)⟩,
    ⟨(some 14), none, .mov (.tmp 45)⟩]

def f6r6 : List AInstr := [
    ⟨(some 46), none, .mov (.tmp 10)⟩,
    ⟨(some 47), none, .un .not (.tmp 46)⟩,
    ⟨(some 48), none, .mov (.tmp 47)⟩,
    ⟨(some 49), (some (48, false)), .mov (.tmp 12)⟩,
    ⟨(some 50), (some (48, false)), .un .not (.tmp 49)⟩,
    ⟨(some 51), none, .pick (.tmp 48) (.const (.bool true)) (.tmp 50)⟩,
    ⟨(some 52), none, .mov (.tmp 51)⟩,
    ⟨(some 53), (some (52, false)), .mov (.tmp 14)⟩,
    ⟨(some 54), (some (52, false)), .un .not (.tmp 53)⟩,
    ⟨(some 55), none, .pick (.tmp 52) (.const (.bool true)) (.tmp 54)⟩]

def f6r7 : List AInstr := [
    ⟨(some 8), none, .mov (.const (.bool true))⟩]

def f6r8 : List AInstr := [
    ⟨(some 57), none, .load (some 3) (.tmp 9)⟩,
    ⟨(some 58), none, .load (some 3) (.tmp 11)⟩,
    ⟨(some 59), none, .callF 11 [.tmp 57, .tmp 58]⟩,
    ⟨(some 56), none, .mov (.tmp 59)⟩,
    ⟨(some 60), none, .extract 0 (.tmp 56)⟩,
    ⟨(some 61), none, .extract 1 (.tmp 56)⟩,
    ⟨(some 15), none, .alloc [.int .i64 0, .int .i64 0, .slice none 0 0]⟩,
    ⟨none, none, .store 3 (.tmp 15) (.tmp 60)⟩,
    ⟨(some 16), none, .mov (.tmp 61)⟩]

def f6r9 : List AInstr := [
    ⟨(some 63), none, .load (some 3) (.tmp 11)⟩,
    ⟨(some 64), none, .load (some 3) (.tmp 9)⟩,
    ⟨(some 65), none, .callF 11 [.tmp 63, .tmp 64]⟩,
    ⟨(some 62), none, .mov (.tmp 65)⟩,
    ⟨(some 66), none, .extract 0 (.tmp 62)⟩,
    ⟨(some 67), none, .extract 1 (.tmp 62)⟩,
    ⟨(some 17), none, .alloc [.int .i64 0, .int .i64 0, .slice none 0 0]⟩,
    ⟨none, none, .store 3 (.tmp 17) (.tmp 66)⟩,
    ⟨(some 18), none, .mov (.tmp 67)⟩]

def f6r10 : List AInstr := [
    ⟨(some 68), none, .mov (.tmp 16)⟩,
    ⟨(some 69), none, .ibin .eql (.tmp 68) (.const (.int .i64 0))⟩,
    ⟨(some 70), none, .mov (.tmp 69)⟩,
    ⟨(some 71), (some (70, true)), .mov (.tmp 18)⟩,
    ⟨(some 72), (some (70, true)), .ibin .eql (.tmp 71) (.const (.int .i64 0))⟩,
    ⟨(some 73), none, .pick (.tmp 70) (.tmp 72) (.const (.bool false))⟩,
    ⟨(some 74), none, .mov (.tmp 73)⟩,
    ⟨(some 75), (some (74, true)), .load (some 3) (.tmp 13)⟩,
    ⟨(some 76), (some (74, true)), .load (some 3) (.tmp 15)⟩,
    ⟨(some 77), (some (74, true)), .callF 12 [.tmp 75, .tmp 76]⟩,
    ⟨(some 78), none, .pick (.tmp 74) (.tmp 77) (.const (.bool false))⟩,
    ⟨(some 79), none, .mov (.tmp 78)⟩,
    ⟨(some 80), (some (79, true)), .load (some 3) (.tmp 15)⟩,
    ⟨(some 81), (some (79, true)), .load (some 3) (.tmp 17)⟩,
    ⟨(some 82), (some (79, true)), .callF 12 [.tmp 80, .tmp 81]⟩,
    ⟨(some 83), none, .pick (.tmp 79) (.tmp 82) (.const (.bool false))⟩,
    ⟨(some 8), none, .mov (.tmp 83)⟩]

def f6b : ACode := (.seq (.ops f6r0)
  (.keep [0, 1, 2, 3] (.seq (.seq (.ops f6r1)
  (.keep [0, 1, 2, 3, 20] (.cond (.tmp 20) (.keep [] (.seq (.ops f6r2)
  (.keep [8] .ret))) .skip)))
  (.keep [0, 1, 2, 3] (.seq (.ops f6r3)
  (.keep [0, 1, 2, 3, 9, 10] (.seq (.ops f6r4)
  (.keep [0, 1, 2, 3, 9, 10, 11, 12] (.seq (.ops f6r5)
  (.keep [9, 10, 11, 12, 13, 14] (.seq (.seq (.ops f6r6)
  (.keep [9, 11, 13, 55] (.cond (.tmp 55) (.keep [] (.seq (.ops f6r7)
  (.keep [8] .ret))) .skip)))
  (.keep [9, 11, 13] (.seq (.ops f6r8)
  (.keep [9, 11, 13, 15, 16] (.seq (.ops f6r9)
  (.keep [13, 15, 16, 17, 18] (.seq (.ops f6r10)
  (.keep [8] .ret))))))))))))))))))

def f6 : AFn := ⟨84, [.tmp 8], f6b⟩

theorem f6_ok : compFn Try.prog 6 = some f6.strip := by kernel_rfl

/- function 7: weirhouse/weirhousekeep.alive22; parameters 0; operations that are not compiled: 0 -/
def f7r0 : List AInstr := [
    ⟨(some 0), none, .mov (.const (.bool false))⟩]

def f7r1 : List AInstr := [
    ⟨(some 10), none, .callF 13 [.const (.int .i64 2), .const (.int .i64 3)]⟩,
    ⟨(some 9), none, .mov (.tmp 10)⟩,
    ⟨(some 11), none, .extract 0 (.tmp 9)⟩,
    ⟨(some 12), none, .extract 1 (.tmp 9)⟩,
    ⟨(some 1), none, .alloc [.int .i64 0, .int .i64 0, .slice none 0 0]⟩,
    ⟨none, none, .store 3 (.tmp 1) (.tmp 11)⟩,
    ⟨(some 2), none, .mov (.tmp 12)⟩]

def f7r2 : List AInstr := [
    ⟨(some 14), none, .load (some 3) (.tmp 1)⟩,
    ⟨(some 15), none, .callF 14 [.tmp 14, .const (.int .u64 7), .const (.int .i64 5), .const (.bool false)]⟩,
    ⟨(some 13), none, .mov (.tmp 15)⟩,
    ⟨(some 16), none, .extract 0 (.tmp 13)⟩,
    ⟨(some 17), none, .extract 1 (.tmp 13)⟩,
    ⟨(some 3), none, .alloc [.int .i64 0, .int .i64 0, .slice none 0 0]⟩,
    ⟨none, none, .store 3 (.tmp 3) (.tmp 16)⟩,
    ⟨(some 4), none, .mov (.tmp 17)⟩]

def f7r3 : List AInstr := [
    ⟨(some 19), none, .load (some 3) (.tmp 3)⟩,
    ⟨(some 20), none, .callF 14 [.tmp 19, .const (.int .u64 7), .const (.int .i64 2), .const (.bool true)]⟩,
    ⟨(some 18), none, .mov (.tmp 20)⟩,
    ⟨(some 21), none, .extract 0 (.tmp 18)⟩,
    ⟨(some 22), none, .extract 1 (.tmp 18)⟩,
    ⟨(some 5), none, .alloc [.int .i64 0, .int .i64 0, .slice none 0 0]⟩,
    ⟨none, none, .store 3 (.tmp 5) (.tmp 21)⟩,
    ⟨(some 6), none, .mov (.tmp 22)⟩]

def f7r4 : List AInstr := [
    ⟨(some 24), none, .load (some 3) (.tmp 5)⟩,
    ⟨(some 25), none, .callF 9 [.tmp 24, .const (.int .u64 7)]⟩,
    ⟨(some 23), none, .mov (.tmp 25)⟩,
    ⟨(some 26), none, .extract 0 (.tmp 23)⟩,
    ⟨(some 27), none, .extract 1 (.tmp 23)⟩,
    ⟨(some 7), none, .mov (.tmp 26)⟩,
    ⟨(some 8), none, .mov (.tmp 27)⟩]

def f7r5 : List AInstr := [
    ⟨(some 28), none, .mov (.tmp 2)⟩,
    ⟨(some 29), none, .ibin .eql (.tmp 28) (.const (.int .i64 0))⟩,
    ⟨(some 30), none, .mov (.tmp 29)⟩,
    ⟨(some 31), (some (30, true)), .mov (.tmp 4)⟩,
    ⟨(some 32), (some (30, true)), .ibin .eql (.tmp 31) (.const (.int .i64 0))⟩,
    ⟨(some 33), none, .pick (.tmp 30) (.tmp 32) (.const (.bool false))⟩,
    ⟨(some 34), none, .mov (.tmp 33)⟩,
    ⟨(some 35), (some (34, true)), .mov (.tmp 6)⟩,
    ⟨(some 36), (some (34, true)), .ibin .eql (.tmp 35) (.const (.int .i64 0))⟩,
    ⟨(some 37), none, .pick (.tmp 34) (.tmp 36) (.const (.bool false))⟩,
    ⟨(some 38), none, .mov (.tmp 37)⟩,
    ⟨(some 39), (some (38, true)), .mov (.tmp 8)⟩,
    ⟨(some 40), (some (38, true)), .ibin .eql (.tmp 39) (.const (.int .i64 0))⟩,
    ⟨(some 41), none, .pick (.tmp 38) (.tmp 40) (.const (.bool false))⟩,
    ⟨(some 42), none, .mov (.tmp 41)⟩,
    ⟨(some 43), (some (42, true)), .mov (.tmp 7)⟩,
    ⟨(some 44), (some (42, true)), .ibin .eql (.tmp 43) (.const (.int .i64 7))⟩,
    ⟨(some 45), none, .pick (.tmp 42) (.tmp 44) (.const (.bool false))⟩,
    ⟨(some 46), none, .mov (.tmp 45)⟩,
    ⟨(some 47), (some (46, true)), .fieldAddr 2 (.tmp 1)⟩,
    ⟨(some 48), (some (46, true)), .load none (.tmp 47)⟩,
    ⟨(some 49), (some (46, true)), .len (.tmp 48)⟩,
    ⟨(some 50), (some (46, true)), .ibin .eql (.tmp 49) (.const (.int .i64 6))⟩,
    ⟨(some 51), none, .pick (.tmp 46) (.tmp 50) (.const (.bool false))⟩,
    ⟨(some 0), none, .mov (.tmp 51)⟩]

def f7b : ACode := (.seq (.ops f7r0)
  (.keep [] (.seq (.ops f7r1)
  (.keep [1, 2] (.seq (.ops f7r2)
  (.keep [1, 2, 3, 4] (.seq (.ops f7r3)
  (.keep [1, 2, 4, 5, 6] (.seq (.ops f7r4)
  (.keep [1, 2, 4, 6, 7, 8] (.seq (.ops f7r5)
  (.keep [0] .ret))))))))))))

def f7 : AFn := ⟨52, [.tmp 0], f7b⟩

theorem f7_ok : compFn Try.prog 7 = some f7.strip := by kernel_rfl

/- function 8: weirhouse/weirhousekeep.counted; parameters 4; operations that are not compiled: 0 -/
def f8r0 : List AInstr := [
    ⟨(some 8), none, .alloc [.int .i64 0, .int .i64 0, .slice none 0 0]⟩,
    ⟨(some 9), none, .mov (.const (.bool false))⟩]

def f8r1 : List AInstr := [
    ⟨(some 18), none, .mov (.tmp 0)⟩,
    ⟨(some 19), none, .mov (.tmp 1)⟩,
    ⟨(some 20), none, .callF 13 [.tmp 18, .tmp 19]⟩,
    ⟨(some 17), none, .mov (.tmp 20)⟩,
    ⟨(some 21), none, .extract 0 (.tmp 17)⟩,
    ⟨(some 22), none, .extract 1 (.tmp 17)⟩,
    ⟨(some 10), none, .alloc [.int .i64 0, .int .i64 0, .slice none 0 0]⟩,
    ⟨none, none, .store 3 (.tmp 10) (.tmp 21)⟩,
    ⟨(some 11), none, .mov (.tmp 22)⟩]

def f8r2 : List AInstr := [
    ⟨(some 23), none, .mov (.tmp 11)⟩,
    ⟨(some 24), none, .ibin .eql (.tmp 23) (.const (.int .i64 0))⟩,
    ⟨(some 12), none, .mov (.tmp 24)⟩]

def f8r3 : List AInstr := [
    ⟨(some 25), none, .mov (.tmp 2)⟩,
    ⟨(some 26), none, .len (.tmp 25)⟩,
    ⟨(some 27), none, .mov (.const (.int .i64 0))⟩]

def f8r4 : List AInstr := [
    ⟨(some 28), none, .ibin .lss (.tmp 27) (.tmp 26)⟩]

def f8r5 : List AInstr := [
    ⟨(some 29), none, .indexAddr 2 (.tmp 25) (.tmp 27)⟩,
    ⟨(some 30), none, .load (some 2) (.tmp 29)⟩,
    ⟨(some 14), none, .alloc [.int .i64 0, .int .i64 0]⟩,
    ⟨none, none, .store 2 (.tmp 14) (.tmp 30)⟩]

def f8r6 : List AInstr := [
    ⟨(some 32), none, .load (some 3) (.tmp 10)⟩,
    ⟨(some 33), none, .fieldAddr 0 (.tmp 14)⟩,
    ⟨(some 34), none, .load none (.tmp 33)⟩,
    ⟨(some 35), none, .conv .u64 (.tmp 34)⟩,
    ⟨(some 36), none, .fieldAddr 1 (.tmp 14)⟩,
    ⟨(some 37), none, .load none (.tmp 36)⟩,
    ⟨(some 38), none, .mov (.tmp 3)⟩,
    ⟨(some 39), none, .callF 14 [.tmp 32, .tmp 35, .tmp 37, .tmp 38]⟩,
    ⟨(some 31), none, .mov (.tmp 39)⟩,
    ⟨(some 40), none, .extract 0 (.tmp 31)⟩,
    ⟨(some 41), none, .extract 1 (.tmp 31)⟩,
    ⟨(some 15), none, .alloc [.int .i64 0, .int .i64 0, .slice none 0 0]⟩,
    ⟨none, none, .store 3 (.tmp 15) (.tmp 40)⟩,
    ⟨(some 16), none, .mov (.tmp 41)⟩]

def f8r7 : List AInstr := [
    ⟨(some 42), none, .mov (.tmp 16)⟩,
    ⟨(some 43), none, .ibin .eql (.tmp 42) (.const (.int .i64 0))⟩]

def f8r8 : List AInstr := [
    ⟨(some 44), none, .load (some 3) (.tmp 15)⟩,
    ⟨none, none, .store 3 (.tmp 10) (.tmp 44)⟩]

def f8r9 : List AInstr := [
    ⟨(some 45), none, .mov (.tmp 12)⟩,
    ⟨(some 46), none, .mov (.tmp 45)⟩,
    ⟨(some 47), (some (46, true)), .mov (.tmp 16)⟩,
    ⟨(some 48), (some (46, true)), .ibin .eql (.tmp 47) (.const (.int .i64 0))⟩,
    ⟨(some 49), none, .pick (.tmp 46) (.tmp 48) (.const (.bool false))⟩,
    ⟨(some 12), none, .mov (.tmp 49)⟩]

def f8r10 : List AInstr := [
    ⟨(some 50), none, .ibin .add (.tmp 27) (.const (.int .i64 1))⟩,
    ⟨(some 27), none, .mov (.tmp 50)⟩]

/-- live: [3, 8, 10, 12, 25, 26, 27] -/
def f8l0 : ACode := (.seq (.ops f8r4)
  (.keep [3, 8, 10, 12, 25, 26, 27, 28] (.seq (.cond (.tmp 28) .skip (.exit 0))
  (.keep [3, 8, 10, 12, 25, 26, 27] (.seq (.block 1 (.seq (.ops f8r5)
  (.keep [3, 8, 10, 12, 14, 25, 26, 27] (.seq (.ops f8r6)
  (.keep [3, 8, 10, 12, 15, 16, 25, 26, 27] (.seq (.seq (.ops f8r7)
  (.keep [3, 8, 10, 12, 15, 16, 25, 26, 27, 43] (.cond (.tmp 43) (.keep [3, 8, 10, 12, 15, 16, 25, 26, 27] (.ops f8r8)) .skip)))
  (.keep [3, 8, 10, 12, 16, 25, 26, 27] (.ops f8r9))))))))
  (.keep [3, 8, 10, 12, 25, 26, 27] (.ops f8r10)))))))

def f8r12 : List AInstr := [
    ⟨(some 51), none, .load (some 3) (.tmp 10)⟩,
    ⟨(some 52), none, .mov (.tmp 12)⟩,
    ⟨none, none, .store 3 (.tmp 8) (.tmp 51)⟩,
    ⟨(some 9), none, .mov (.tmp 52)⟩]

def f8b : ACode := (.seq (.ops f8r0)
  (.keep [0, 1, 2, 3, 8] (.seq (.ops f8r1)
  (.keep [2, 3, 8, 10, 11] (.seq (.ops f8r2)
  (.keep [2, 3, 8, 10, 12] (.seq (.seq (.ops f8r3)
  (.keep [3, 8, 10, 12, 25, 26, 27] (.block 0 (.loop f8l0))))
  (.keep [8, 10, 12] (.seq (.ops f8r12)
  (.keep [8, 9] .ret))))))))))

def f8 : AFn := ⟨53, [.cell 8 (some 3), .tmp 9], f8b⟩

theorem f8_ok : compFn Try.prog 8 = some f8.strip := by kernel_rfl

/- function 9: weirhouse/sketch.Count; parameters 2; operations that are not compiled: 0 -/
def f9r0 : List AInstr := [
    ⟨(some 2), none, .box (.tmp 0)⟩,
    ⟨(some 4), none, .mov (.const (.int .i64 0))⟩,
    ⟨(some 5), none, .mov (.const (.int .i64 0))⟩]

def f9r1 : List AInstr := [
    ⟨(some 9), none, .load (some 3) (.tmp 2)⟩,
    ⟨(some 10), none, .callF 15 [.tmp 9]⟩,
    ⟨(some 11), none, .un .not (.tmp 10)⟩]

def f9r2 : List AInstr := [
    ⟨(some 4), none, .mov (.const (.int .i64 0))⟩,
    ⟨(some 5), none, .mov (.const (.int .i64 1))⟩]

def f9r3 : List AInstr := [
    ⟨(some 6), none, .mov (.const (.int .i64 (-1)))⟩]

def f9r4 : List AInstr := [
    ⟨(some 12), none, .load (some 3) (.tmp 2)⟩,
    ⟨(some 13), none, .mov (.tmp 1)⟩,
    ⟨(some 14), none, .callF 16 [.tmp 12, .tmp 13]⟩,
    ⟨(some 15), none, .len (.tmp 14)⟩,
    ⟨(some 16), none, .mov (.const (.int .i64 0))⟩]

def f9r5 : List AInstr := [
    ⟨(some 17), none, .ibin .lss (.tmp 16) (.tmp 15)⟩]

def f9r6 : List AInstr := [
    ⟨(some 18), none, .indexAddr 1 (.tmp 14) (.tmp 16)⟩,
    ⟨(some 19), none, .load none (.tmp 18)⟩,
    ⟨(some 8), none, .mov (.tmp 19)⟩]

def f9r7 : List AInstr := [
    ⟨(some 20), none, .mov (.tmp 6)⟩,
    ⟨(some 21), none, .ibin .lss (.tmp 20) (.const (.int .i64 0))⟩,
    ⟨(some 22), none, .mov (.tmp 21)⟩,
    ⟨(some 23), (some (22, false)), .fieldAddr 2 (.tmp 2)⟩,
    ⟨(some 24), (some (22, false)), .load none (.tmp 23)⟩,
    ⟨(some 25), (some (22, false)), .mov (.tmp 8)⟩,
    ⟨(some 26), (some (22, false)), .indexAddr 1 (.tmp 24) (.tmp 25)⟩,
    ⟨(some 27), (some (22, false)), .load none (.tmp 26)⟩,
    ⟨(some 28), (some (22, false)), .mov (.tmp 6)⟩,
    ⟨(some 29), (some (22, false)), .ibin .lss (.tmp 27) (.tmp 28)⟩,
    ⟨(some 30), none, .pick (.tmp 22) (.const (.bool true)) (.tmp 29)⟩]

def f9r8 : List AInstr := [
    ⟨(some 31), none, .fieldAddr 2 (.tmp 2)⟩,
    ⟨(some 32), none, .load none (.tmp 31)⟩,
    ⟨(some 33), none, .mov (.tmp 8)⟩,
    ⟨(some 34), none, .indexAddr 1 (.tmp 32) (.tmp 33)⟩,
    ⟨(some 35), none, .load none (.tmp 34)⟩,
    ⟨(some 6), none, .mov (.tmp 35)⟩]

def f9r9 : List AInstr := [
    ⟨(some 36), none, .ibin .add (.tmp 16) (.const (.int .i64 1))⟩,
    ⟨(some 16), none, .mov (.tmp 36)⟩]

/-- live: [2, 6, 14, 15, 16] -/
def f9l0 : ACode := (.seq (.ops f9r5)
  (.keep [2, 6, 14, 15, 16, 17] (.seq (.cond (.tmp 17) .skip (.exit 0))
  (.keep [2, 6, 14, 15, 16] (.seq (.block 1 (.seq (.ops f9r6)
  (.keep [2, 6, 8, 14, 15, 16] (.seq (.ops f9r7)
  (.keep [2, 6, 8, 14, 15, 16, 30] (.cond (.tmp 30) (.keep [2, 8, 14, 15, 16] (.ops f9r8)) .skip))))))
  (.keep [2, 6, 14, 15, 16] (.ops f9r9)))))))

def f9r11 : List AInstr := [
    ⟨(some 37), none, .mov (.tmp 6)⟩,
    ⟨(some 4), none, .mov (.tmp 37)⟩,
    ⟨(some 5), none, .mov (.const (.int .i64 0))⟩]

def f9b : ACode := (.seq (.ops f9r0)
  (.keep [1, 2] (.seq (.seq (.ops f9r1)
  (.keep [1, 2, 11] (.cond (.tmp 11) (.keep [] (.seq (.ops f9r2)
  (.keep [4, 5] .ret))) .skip)))
  (.keep [1, 2] (.seq (.ops f9r3)
  (.keep [1, 2, 6] (.seq (.seq (.ops f9r4)
  (.keep [2, 6, 14, 15, 16] (.block 0 (.loop f9l0))))
  (.keep [6] (.seq (.ops f9r11)
  (.keep [4, 5] .ret))))))))))

def f9 : AFn := ⟨38, [.tmp 4, .tmp 5], f9b⟩

theorem f9_ok : compFn Try.prog 9 = some f9.strip := by kernel_rfl

/- function 10: weirhouse/sketch.Place; parameters 3; operations that are not compiled: 0 -/
def f10r0 : List AInstr := [
    ⟨(some 6), none, .mov (.const (.int .i64 0))⟩,
    ⟨(some 7), none, .mov (.const (.int .i64 0))⟩]

def f10r1 : List AInstr := [
    ⟨(some 9), none, .mov (.tmp 0)⟩,
    ⟨(some 10), none, .ibin .lss (.tmp 9) (.const (.int .i64 0))⟩,
    ⟨(some 11), none, .mov (.tmp 10)⟩,
    ⟨(some 12), (some (11, false)), .mov (.tmp 0)⟩,
    ⟨(some 13), (some (11, false)), .ibin .gtr (.tmp 12) (.const (.int .i64 7))⟩,
    ⟨(some 14), none, .pick (.tmp 11) (.const (.bool true)) (.tmp 13)⟩,
    ⟨(some 15), none, .mov (.tmp 14)⟩,
    ⟨(some 16), (some (15, false)), .mov (.tmp 1)⟩,
    ⟨(some 17), (some (15, false)), .ibin .lss (.tmp 16) (.const (.int .i64 1))⟩,
    ⟨(some 18), none, .pick (.tmp 15) (.const (.bool true)) (.tmp 17)⟩,
    ⟨(some 19), none, .mov (.tmp 18)⟩,
    ⟨(some 20), (some (19, false)), .mov (.tmp 1)⟩,
    ⟨(some 21), (some (19, false)), .ibin .gtr (.tmp 20) (.const (.int .i64 64))⟩,
    ⟨(some 22), none, .pick (.tmp 19) (.const (.bool true)) (.tmp 21)⟩]

def f10r2 : List AInstr := [
    ⟨(some 6), none, .mov (.const (.int .i64 0))⟩,
    ⟨(some 7), none, .mov (.const (.int .i64 2))⟩]

def f10r3 : List AInstr := [
    ⟨(some 23), none, .mov (.tmp 2)⟩,
    ⟨(some 24), none, .mov (.tmp 0)⟩,
    ⟨(some 25), none, .conv .u64 (.tmp 24)⟩,
    ⟨(some 26), none, .ibin .mul (.const (.int .u64 2)) (.tmp 25)⟩,
    ⟨(some 27), none, .ibin .add (.tmp 26) (.const (.int .u64 11400714819323198485))⟩,
    ⟨(some 28), none, .ibin .mul (.tmp 23) (.tmp 27)⟩,
    ⟨(some 8), none, .mov (.tmp 28)⟩]

def f10r4 : List AInstr := [
    ⟨(some 29), none, .mov (.tmp 8)⟩,
    ⟨(some 30), none, .mov (.tmp 8)⟩,
    ⟨(some 31), none, .ibin .shr (.tmp 30) (.const (.int .u64 29))⟩,
    ⟨(some 32), none, .ibin .xor (.tmp 29) (.tmp 31)⟩,
    ⟨(some 8), none, .mov (.tmp 32)⟩]

def f10r5 : List AInstr := [
    ⟨(some 33), none, .mov (.tmp 8)⟩,
    ⟨(some 34), none, .ibin .mul (.tmp 33) (.const (.int .u64 13787848793156543929))⟩,
    ⟨(some 8), none, .mov (.tmp 34)⟩]

def f10r6 : List AInstr := [
    ⟨(some 35), none, .mov (.tmp 8)⟩,
    ⟨(some 36), none, .ibin .shr (.tmp 35) (.const (.int .u64 33))⟩,
    ⟨(some 37), none, .conv .i64 (.tmp 36)⟩,
    ⟨(some 38), none, .mov (.tmp 1)⟩,
    ⟨(some 39), none, .ibin .rem (.tmp 37) (.tmp 38)⟩,
    ⟨(some 6), none, .mov (.tmp 39)⟩,
    ⟨(some 7), none, .mov (.const (.int .i64 0))⟩]

def f10b : ACode := (.seq (.ops f10r0)
  (.keep [0, 1, 2] (.seq (.seq (.ops f10r1)
  (.keep [0, 1, 2, 22] (.cond (.tmp 22) (.keep [] (.seq (.ops f10r2)
  (.keep [6, 7] .ret))) .skip)))
  (.keep [0, 1, 2] (.seq (.ops f10r3)
  (.keep [1, 8] (.seq (.ops f10r4)
  (.keep [1, 8] (.seq (.ops f10r5)
  (.keep [1, 8] (.seq (.ops f10r6)
  (.keep [6, 7] .ret))))))))))))

def f10 : AFn := ⟨40, [.tmp 6, .tmp 7], f10b⟩

theorem f10_ok : compFn Try.prog 10 = some f10.strip := by kernel_rfl

/- function 11: weirhouse/sketch.Join; parameters 2; operations that are not compiled: 0 -/
def f11r0 : List AInstr := [
    ⟨(some 2), none, .box (.tmp 0)⟩,
    ⟨(some 3), none, .box (.tmp 1)⟩,
    ⟨(some 4), none, .alloc [.int .i64 0, .int .i64 0, .slice none 0 0]⟩,
    ⟨(some 5), none, .mov (.const (.int .i64 0))⟩]

def f11r1 : List AInstr := [
    ⟨(some 8), none, .load (some 3) (.tmp 2)⟩,
    ⟨(some 9), none, .callF 15 [.tmp 8]⟩,
    ⟨(some 10), none, .un .not (.tmp 9)⟩,
    ⟨(some 11), none, .mov (.tmp 10)⟩,
    ⟨(some 12), (some (11, false)), .load (some 3) (.tmp 3)⟩,
    ⟨(some 13), (some (11, false)), .callF 15 [.tmp 12]⟩,
    ⟨(some 14), (some (11, false)), .un .not (.tmp 13)⟩,
    ⟨(some 15), none, .pick (.tmp 11) (.const (.bool true)) (.tmp 14)⟩,
    ⟨(some 16), none, .mov (.tmp 15)⟩,
    ⟨(some 17), (some (16, false)), .fieldAddr 0 (.tmp 2)⟩,
    ⟨(some 18), (some (16, false)), .load none (.tmp 17)⟩,
    ⟨(some 19), (some (16, false)), .fieldAddr 0 (.tmp 3)⟩,
    ⟨(some 20), (some (16, false)), .load none (.tmp 19)⟩,
    ⟨(some 21), (some (16, false)), .ibin .neq (.tmp 18) (.tmp 20)⟩,
    ⟨(some 22), none, .pick (.tmp 16) (.const (.bool true)) (.tmp 21)⟩,
    ⟨(some 23), none, .mov (.tmp 22)⟩,
    ⟨(some 24), (some (23, false)), .fieldAddr 1 (.tmp 2)⟩,
    ⟨(some 25), (some (23, false)), .load none (.tmp 24)⟩,
    ⟨(some 26), (some (23, false)), .fieldAddr 1 (.tmp 3)⟩,
    ⟨(some 27), (some (23, false)), .load none (.tmp 26)⟩,
    ⟨(some 28), (some (23, false)), .ibin .neq (.tmp 25) (.tmp 27)⟩,
    ⟨(some 29), none, .pick (.tmp 23) (.const (.bool true)) (.tmp 28)⟩]

def f11r2 : List AInstr := [
    ⟨(some 30), none, .build [.int .i64 0, .int .i64 0, .slice none 0 0] []⟩,
    ⟨none, none, .store 3 (.tmp 4) (.tmp 30)⟩,
    ⟨(some 5), none, .mov (.const (.int .i64 1))⟩]

def f11r3 : List AInstr := [
    ⟨(some 31), none, .fieldAddr 2 (.tmp 2)⟩,
    ⟨(some 32), none, .load none (.tmp 31)⟩,
    ⟨(some 33), none, .callF 17 [.tmp 32]⟩,
    ⟨(some 34), none, .fieldAddr 2 (.tmp 2)⟩,
    ⟨none, none, .store 1 (.tmp 34) (.tmp 33)⟩]

def f11r4 : List AInstr := [
    ⟨(some 35), none, .fieldAddr 2 (.tmp 3)⟩,
    ⟨(some 36), none, .load none (.tmp 35)⟩,
    ⟨(some 37), none, .len (.tmp 36)⟩,
    ⟨(some 38), none, .mov (.const (.int .i64 0))⟩]

def f11r5 : List AInstr := [
    ⟨(some 39), none, .ibin .lss (.tmp 38) (.tmp 37)⟩]

def f11r6 : List AInstr := [
    ⟨(some 40), none, .mov (.tmp 38)⟩,
    ⟨(some 41), none, .indexAddr 1 (.tmp 36) (.tmp 38)⟩,
    ⟨(some 42), none, .load none (.tmp 41)⟩,
    ⟨(some 6), none, .mov (.tmp 40)⟩,
    ⟨(some 7), none, .mov (.tmp 42)⟩]

def f11r7 : List AInstr := [
    ⟨(some 43), none, .fieldAddr 2 (.tmp 2)⟩,
    ⟨(some 44), none, .load none (.tmp 43)⟩,
    ⟨(some 45), none, .mov (.tmp 6)⟩,
    ⟨(some 46), none, .indexAddr 1 (.tmp 44) (.tmp 45)⟩,
    ⟨(some 47), none, .load none (.tmp 46)⟩,
    ⟨(some 48), none, .mov (.tmp 7)⟩,
    ⟨(some 49), none, .ibin .add (.tmp 47) (.tmp 48)⟩,
    ⟨(some 50), none, .indexAddr 1 (.tmp 44) (.tmp 45)⟩,
    ⟨none, none, .store 1 (.tmp 50) (.tmp 49)⟩]

def f11r8 : List AInstr := [
    ⟨(some 51), none, .fieldAddr 2 (.tmp 2)⟩,
    ⟨(some 52), none, .load none (.tmp 51)⟩,
    ⟨(some 53), none, .mov (.tmp 6)⟩,
    ⟨(some 54), none, .indexAddr 1 (.tmp 52) (.tmp 53)⟩,
    ⟨(some 55), none, .load none (.tmp 54)⟩,
    ⟨(some 56), none, .ibin .gtr (.tmp 55) (.const (.int .i64 1099511627776))⟩]

def f11r9 : List AInstr := [
    ⟨(some 57), none, .build [.int .i64 0, .int .i64 0, .slice none 0 0] []⟩,
    ⟨none, none, .store 3 (.tmp 4) (.tmp 57)⟩,
    ⟨(some 5), none, .mov (.const (.int .i64 4))⟩]

def f11r10 : List AInstr := [
    ⟨(some 58), none, .ibin .add (.tmp 38) (.const (.int .i64 1))⟩,
    ⟨(some 38), none, .mov (.tmp 58)⟩]

/-- live: [2, 4, 36, 37, 38] -/
def f11l0 : ACode := (.seq (.ops f11r5)
  (.keep [2, 4, 36, 37, 38, 39] (.seq (.cond (.tmp 39) .skip (.exit 0))
  (.keep [2, 4, 36, 37, 38] (.seq (.block 1 (.seq (.ops f11r6)
  (.keep [2, 4, 6, 7, 36, 37, 38] (.seq (.ops f11r7)
  (.keep [2, 4, 6, 36, 37, 38] (.seq (.ops f11r8)
  (.keep [2, 4, 36, 37, 38, 56] (.cond (.tmp 56) (.keep [4] (.seq (.ops f11r9)
  (.keep [4, 5] .ret))) .skip))))))))
  (.keep [2, 4, 36, 37, 38] (.ops f11r10)))))))

def f11r12 : List AInstr := [
    ⟨(some 59), none, .load (some 3) (.tmp 2)⟩,
    ⟨none, none, .store 3 (.tmp 4) (.tmp 59)⟩,
    ⟨(some 5), none, .mov (.const (.int .i64 0))⟩]

def f11b : ACode := (.seq (.ops f11r0)
  (.keep [2, 3, 4] (.seq (.seq (.ops f11r1)
  (.keep [2, 3, 4, 29] (.cond (.tmp 29) (.keep [4] (.seq (.ops f11r2)
  (.keep [4, 5] .ret))) .skip)))
  (.keep [2, 3, 4] (.seq (.ops f11r3)
  (.keep [2, 3, 4] (.seq (.seq (.ops f11r4)
  (.keep [2, 4, 36, 37, 38] (.block 0 (.loop f11l0))))
  (.keep [2, 4] (.seq (.ops f11r12)
  (.keep [4, 5] .ret))))))))))

def f11 : AFn := ⟨60, [.cell 4 (some 3), .tmp 5], f11b⟩

theorem f11_ok : compFn Try.prog 11 = some f11.strip := by kernel_rfl

/- function 12: weirhouse/weirhouseref.SameSketch; parameters 2; operations that are not compiled: 0 -/
def f12r0 : List AInstr := [
    ⟨(some 2), none, .box (.tmp 0)⟩,
    ⟨(some 3), none, .box (.tmp 1)⟩,
    ⟨(some 4), none, .mov (.const (.bool false))⟩]

def f12r1 : List AInstr := [
    ⟨(some 6), none, .fieldAddr 0 (.tmp 2)⟩,
    ⟨(some 7), none, .load none (.tmp 6)⟩,
    ⟨(some 8), none, .fieldAddr 0 (.tmp 3)⟩,
    ⟨(some 9), none, .load none (.tmp 8)⟩,
    ⟨(some 10), none, .ibin .neq (.tmp 7) (.tmp 9)⟩,
    ⟨(some 11), none, .mov (.tmp 10)⟩,
    ⟨(some 12), (some (11, false)), .fieldAddr 1 (.tmp 2)⟩,
    ⟨(some 13), (some (11, false)), .load none (.tmp 12)⟩,
    ⟨(some 14), (some (11, false)), .fieldAddr 1 (.tmp 3)⟩,
    ⟨(some 15), (some (11, false)), .load none (.tmp 14)⟩,
    ⟨(some 16), (some (11, false)), .ibin .neq (.tmp 13) (.tmp 15)⟩,
    ⟨(some 17), none, .pick (.tmp 11) (.const (.bool true)) (.tmp 16)⟩,
    ⟨(some 18), none, .mov (.tmp 17)⟩,
    ⟨(some 19), (some (18, false)), .fieldAddr 2 (.tmp 2)⟩,
    ⟨(some 20), (some (18, false)), .load none (.tmp 19)⟩,
    ⟨(some 21), (some (18, false)), .len (.tmp 20)⟩,
    ⟨(some 22), (some (18, false)), .fieldAddr 2 (.tmp 3)⟩,
    ⟨(some 23), (some (18, false)), .load none (.tmp 22)⟩,
    ⟨(some 24), (some (18, false)), .len (.tmp 23)⟩,
    ⟨(some 25), (some (18, false)), .ibin .neq (.tmp 21) (.tmp 24)⟩,
    ⟨(some 26), none, .pick (.tmp 18) (.const (.bool true)) (.tmp 25)⟩]

def f12r2 : List AInstr := [
    ⟨(some 4), none, .mov (.const (.bool false))⟩]

def f12r3 : List AInstr := [
    ⟨(some 27), none, .fieldAddr 2 (.tmp 2)⟩,
    ⟨(some 28), none, .load none (.tmp 27)⟩,
    ⟨(some 29), none, .len (.tmp 28)⟩,
    ⟨(some 30), none, .mov (.const (.int .i64 0))⟩]

def f12r4 : List AInstr := [
    ⟨(some 31), none, .ibin .lss (.tmp 30) (.tmp 29)⟩]

def f12r5 : List AInstr := [
    ⟨(some 32), none, .mov (.tmp 30)⟩,
    ⟨(some 5), none, .mov (.tmp 32)⟩]

def f12r6 : List AInstr := [
    ⟨(some 33), none, .fieldAddr 2 (.tmp 2)⟩,
    ⟨(some 34), none, .load none (.tmp 33)⟩,
    ⟨(some 35), none, .mov (.tmp 5)⟩,
    ⟨(some 36), none, .indexAddr 1 (.tmp 34) (.tmp 35)⟩,
    ⟨(some 37), none, .load none (.tmp 36)⟩,
    ⟨(some 38), none, .fieldAddr 2 (.tmp 3)⟩,
    ⟨(some 39), none, .load none (.tmp 38)⟩,
    ⟨(some 40), none, .mov (.tmp 5)⟩,
    ⟨(some 41), none, .indexAddr 1 (.tmp 39) (.tmp 40)⟩,
    ⟨(some 42), none, .load none (.tmp 41)⟩,
    ⟨(some 43), none, .ibin .neq (.tmp 37) (.tmp 42)⟩]

def f12r7 : List AInstr := [
    ⟨(some 4), none, .mov (.const (.bool false))⟩]

def f12r8 : List AInstr := [
    ⟨(some 44), none, .ibin .add (.tmp 30) (.const (.int .i64 1))⟩,
    ⟨(some 30), none, .mov (.tmp 44)⟩]

/-- live: [2, 3, 29, 30] -/
def f12l0 : ACode := (.seq (.ops f12r4)
  (.keep [2, 3, 29, 30, 31] (.seq (.cond (.tmp 31) .skip (.exit 0))
  (.keep [2, 3, 29, 30] (.seq (.block 1 (.seq (.ops f12r5)
  (.keep [2, 3, 5, 29, 30] (.seq (.draw f12r6 [(0, 0, false), (0, 0, false), (0, 0, false), (0, 0, false), (0, 0, false), (0, 0, false), (0, 0, false), (0, 0, false), (0, 0, false), (0, 0, false), (0, 0, false)])
  (.keep [2, 3, 29, 30, 43] (.cond (.tmp 43) (.keep [] (.seq (.ops f12r7)
  (.keep [4] .ret))) .skip))))))
  (.keep [2, 3, 29, 30] (.ops f12r8)))))))

def f12r10 : List AInstr := [
    ⟨(some 4), none, .mov (.const (.bool true))⟩]

def f12b : ACode := (.seq (.ops f12r0)
  (.keep [2, 3] (.seq (.seq (.ops f12r1)
  (.keep [2, 3, 26] (.cond (.tmp 26) (.keep [] (.seq (.ops f12r2)
  (.keep [4] .ret))) .skip)))
  (.keep [2, 3] (.seq (.seq (.ops f12r3)
  (.keep [2, 3, 29, 30] (.block 0 (.loop f12l0))))
  (.keep [] (.seq (.ops f12r10)
  (.keep [4] .ret))))))))

def f12 : AFn := ⟨45, [.tmp 4], f12b⟩

theorem f12_ok : compFn Try.prog 12 = some f12.strip := by kernel_rfl

/- function 13: weirhouse/sketch.New; parameters 2; operations that are not compiled: 0 -/
def f13r0 : List AInstr := [
    ⟨(some 4), none, .alloc [.int .i64 0, .int .i64 0, .slice none 0 0]⟩,
    ⟨(some 5), none, .mov (.const (.int .i64 0))⟩]

def f13r1 : List AInstr := [
    ⟨(some 6), none, .mov (.tmp 0)⟩,
    ⟨(some 7), none, .ibin .lss (.tmp 6) (.const (.int .i64 1))⟩,
    ⟨(some 8), none, .mov (.tmp 7)⟩,
    ⟨(some 9), (some (8, false)), .mov (.tmp 0)⟩,
    ⟨(some 10), (some (8, false)), .ibin .gtr (.tmp 9) (.const (.int .i64 8))⟩,
    ⟨(some 11), none, .pick (.tmp 8) (.const (.bool true)) (.tmp 10)⟩,
    ⟨(some 12), none, .mov (.tmp 11)⟩,
    ⟨(some 13), (some (12, false)), .mov (.tmp 1)⟩,
    ⟨(some 14), (some (12, false)), .ibin .lss (.tmp 13) (.const (.int .i64 1))⟩,
    ⟨(some 15), none, .pick (.tmp 12) (.const (.bool true)) (.tmp 14)⟩,
    ⟨(some 16), none, .mov (.tmp 15)⟩,
    ⟨(some 17), (some (16, false)), .mov (.tmp 1)⟩,
    ⟨(some 18), (some (16, false)), .ibin .gtr (.tmp 17) (.const (.int .i64 64))⟩,
    ⟨(some 19), none, .pick (.tmp 16) (.const (.bool true)) (.tmp 18)⟩]

def f13r2 : List AInstr := [
    ⟨(some 20), none, .build [.int .i64 0, .int .i64 0, .slice none 0 0] []⟩,
    ⟨none, none, .store 3 (.tmp 4) (.tmp 20)⟩,
    ⟨(some 5), none, .mov (.const (.int .i64 2))⟩]

def f13r3 : List AInstr := [
    ⟨(some 21), none, .mov (.tmp 0)⟩,
    ⟨(some 22), none, .mov (.tmp 1)⟩,
    ⟨(some 23), none, .mov (.tmp 0)⟩,
    ⟨(some 24), none, .mov (.tmp 1)⟩,
    ⟨(some 25), none, .ibin .mul (.tmp 23) (.tmp 24)⟩,
    ⟨(some 26), none, .makeSlice 1 8 [.int .i64 0] (.tmp 25) (.tmp 25)⟩,
    ⟨(some 27), none, .build [.int .i64 0, .int .i64 0, .slice none 0 0] [(0, 1, (.tmp 21)), (1, 1, (.tmp 22)), (2, 1, (.tmp 26))]⟩,
    ⟨none, none, .store 3 (.tmp 4) (.tmp 27)⟩,
    ⟨(some 5), none, .mov (.const (.int .i64 0))⟩]

def f13b : ACode := (.seq (.ops f13r0)
  (.keep [0, 1, 4] (.seq (.seq (.ops f13r1)
  (.keep [0, 1, 4, 19] (.cond (.tmp 19) (.keep [4] (.seq (.ops f13r2)
  (.keep [4, 5] .ret))) .skip)))
  (.keep [0, 1, 4] (.seq (.ops f13r3)
  (.keep [4, 5] .ret))))))

def f13 : AFn := ⟨28, [.cell 4 (some 3), .tmp 5], f13b⟩

theorem f13_ok : compFn Try.prog 13 = some f13.strip := by kernel_rfl

/- function 14: weirhouse/sketch.Add; parameters 4; operations that are not compiled: 0 -/
def f14r0 : List AInstr := [
    ⟨(some 4), none, .box (.tmp 0)⟩,
    ⟨(some 8), none, .alloc [.int .i64 0, .int .i64 0, .slice none 0 0]⟩,
    ⟨(some 9), none, .mov (.const (.int .i64 0))⟩]

def f14r1 : List AInstr := [
    ⟨(some 15), none, .load (some 3) (.tmp 4)⟩,
    ⟨(some 16), none, .callF 15 [.tmp 15]⟩,
    ⟨(some 17), none, .un .not (.tmp 16)⟩,
    ⟨(some 14), none, .mov (.tmp 17)⟩]

def f14r2 : List AInstr := [
    ⟨(some 18), none, .build [.int .i64 0, .int .i64 0, .slice none 0 0] []⟩,
    ⟨none, none, .store 3 (.tmp 8) (.tmp 18)⟩,
    ⟨(some 9), none, .mov (.const (.int .i64 1))⟩]

def f14r3 : List AInstr := [
    ⟨(some 20), none, .mov (.tmp 2)⟩,
    ⟨(some 21), none, .ibin .lss (.tmp 20) (.const (.int .i64 0))⟩,
    ⟨(some 22), none, .mov (.tmp 21)⟩,
    ⟨(some 23), (some (22, false)), .mov (.tmp 2)⟩,
    ⟨(some 24), (some (22, false)), .ibin .gtr (.tmp 23) (.const (.int .i64 1073741824))⟩,
    ⟨(some 25), none, .pick (.tmp 22) (.const (.bool true)) (.tmp 24)⟩,
    ⟨(some 19), none, .mov (.tmp 25)⟩]

def f14r4 : List AInstr := [
    ⟨(some 26), none, .build [.int .i64 0, .int .i64 0, .slice none 0 0] []⟩,
    ⟨none, none, .store 3 (.tmp 8) (.tmp 26)⟩,
    ⟨(some 9), none, .mov (.const (.int .i64 2))⟩]

def f14r5 : List AInstr := [
    ⟨(some 28), none, .load (some 3) (.tmp 4)⟩,
    ⟨(some 29), none, .mov (.tmp 1)⟩,
    ⟨(some 30), none, .callF 9 [.tmp 28, .tmp 29]⟩,
    ⟨(some 27), none, .mov (.tmp 30)⟩,
    ⟨(some 31), none, .extract 0 (.tmp 27)⟩,
    ⟨(some 32), none, .extract 1 (.tmp 27)⟩,
    ⟨(some 10), none, .mov (.tmp 31)⟩,
    ⟨(some 11), none, .mov (.tmp 32)⟩]

def f14r6 : List AInstr := [
    ⟨(some 33), none, .fieldAddr 2 (.tmp 4)⟩,
    ⟨(some 34), none, .load none (.tmp 33)⟩,
    ⟨(some 35), none, .callF 17 [.tmp 34]⟩,
    ⟨(some 36), none, .fieldAddr 2 (.tmp 4)⟩,
    ⟨none, none, .store 1 (.tmp 36) (.tmp 35)⟩]

def f14r7 : List AInstr := [
    ⟨(some 37), none, .load (some 3) (.tmp 4)⟩,
    ⟨(some 38), none, .mov (.tmp 1)⟩,
    ⟨(some 39), none, .callF 16 [.tmp 37, .tmp 38]⟩,
    ⟨(some 40), none, .len (.tmp 39)⟩,
    ⟨(some 41), none, .mov (.const (.int .i64 0))⟩]

def f14r8 : List AInstr := [
    ⟨(some 42), none, .ibin .lss (.tmp 41) (.tmp 40)⟩]

def f14r9 : List AInstr := [
    ⟨(some 43), none, .indexAddr 1 (.tmp 39) (.tmp 41)⟩,
    ⟨(some 44), none, .load none (.tmp 43)⟩,
    ⟨(some 13), none, .mov (.tmp 44)⟩]

def f14r10 : List AInstr := [
    ⟨(some 45), none, .mov (.tmp 3)⟩]

def f14r11 : List AInstr := [
    ⟨(some 46), none, .fieldAddr 2 (.tmp 4)⟩,
    ⟨(some 47), none, .load none (.tmp 46)⟩,
    ⟨(some 48), none, .mov (.tmp 13)⟩,
    ⟨(some 49), none, .fieldAddr 2 (.tmp 4)⟩,
    ⟨(some 50), none, .load none (.tmp 49)⟩,
    ⟨(some 51), none, .mov (.tmp 13)⟩,
    ⟨(some 52), none, .indexAddr 1 (.tmp 50) (.tmp 51)⟩,
    ⟨(some 53), none, .load none (.tmp 52)⟩,
    ⟨(some 54), none, .mov (.tmp 10)⟩,
    ⟨(some 55), none, .mov (.tmp 2)⟩,
    ⟨(some 56), none, .ibin .add (.tmp 54) (.tmp 55)⟩,
    ⟨(some 57), none, .minmax true [.tmp 53, .tmp 56]⟩,
    ⟨(some 58), none, .indexAddr 1 (.tmp 47) (.tmp 48)⟩,
    ⟨none, none, .store 1 (.tmp 58) (.tmp 57)⟩]

def f14r12 : List AInstr := [
    ⟨(some 59), none, .fieldAddr 2 (.tmp 4)⟩,
    ⟨(some 60), none, .load none (.tmp 59)⟩,
    ⟨(some 61), none, .mov (.tmp 13)⟩,
    ⟨(some 62), none, .indexAddr 1 (.tmp 60) (.tmp 61)⟩,
    ⟨(some 63), none, .load none (.tmp 62)⟩,
    ⟨(some 64), none, .mov (.tmp 2)⟩,
    ⟨(some 65), none, .ibin .add (.tmp 63) (.tmp 64)⟩,
    ⟨(some 66), none, .indexAddr 1 (.tmp 60) (.tmp 61)⟩,
    ⟨none, none, .store 1 (.tmp 66) (.tmp 65)⟩]

def f14r13 : List AInstr := [
    ⟨(some 67), none, .fieldAddr 2 (.tmp 4)⟩,
    ⟨(some 68), none, .load none (.tmp 67)⟩,
    ⟨(some 69), none, .mov (.tmp 13)⟩,
    ⟨(some 70), none, .indexAddr 1 (.tmp 68) (.tmp 69)⟩,
    ⟨(some 71), none, .load none (.tmp 70)⟩,
    ⟨(some 72), none, .ibin .gtr (.tmp 71) (.const (.int .i64 1099511627776))⟩]

def f14r14 : List AInstr := [
    ⟨(some 73), none, .build [.int .i64 0, .int .i64 0, .slice none 0 0] []⟩,
    ⟨none, none, .store 3 (.tmp 8) (.tmp 73)⟩,
    ⟨(some 9), none, .mov (.const (.int .i64 4))⟩]

def f14r15 : List AInstr := [
    ⟨(some 74), none, .ibin .add (.tmp 41) (.const (.int .i64 1))⟩,
    ⟨(some 41), none, .mov (.tmp 74)⟩]

/-- live: [2, 3, 4, 8, 10, 39, 40, 41] -/
def f14l0 : ACode := (.seq (.ops f14r8)
  (.keep [2, 3, 4, 8, 10, 39, 40, 41, 42] (.seq (.cond (.tmp 42) .skip (.exit 1))
  (.keep [2, 3, 4, 8, 10, 39, 40, 41] (.seq (.block 2 (.seq (.ops f14r9)
  (.keep [2, 3, 4, 8, 10, 13, 39, 40, 41] (.seq (.seq (.ops f14r10)
  (.keep [2, 3, 4, 8, 10, 13, 39, 40, 41, 45] (.cond (.tmp 45) (.keep [2, 3, 4, 8, 10, 13, 39, 40, 41] (.draw f14r11 [(0, 0, false), (0, 0, false), (0, 0, false), (0, 0, false), (0, 0, false), (0, 0, false), (0, 0, false), (0, 0, false), (0, 0, false), (0, 0, false), (0, 0, false), (0, 0, false), (0, 0, false), (0, 1, true)])) (.keep [2, 3, 4, 8, 10, 13, 39, 40, 41] (.ops f14r12)))))
  (.keep [2, 3, 4, 8, 10, 13, 39, 40, 41] (.seq (.ops f14r13)
  (.keep [2, 3, 4, 8, 10, 39, 40, 41, 72] (.cond (.tmp 72) (.keep [8] (.seq (.ops f14r14)
  (.keep [8, 9] .ret))) .skip))))))))
  (.keep [2, 3, 4, 8, 10, 39, 40, 41] (.ops f14r15)))))))

def f14r17 : List AInstr := [
    ⟨(some 75), none, .load (some 3) (.tmp 4)⟩,
    ⟨none, none, .store 3 (.tmp 8) (.tmp 75)⟩,
    ⟨(some 9), none, .mov (.const (.int .i64 0))⟩]

def f14b : ACode := (.seq (.ops f14r0)
  (.keep [1, 2, 3, 4, 8] (.seq (.block 0 (.seq (.ops f14r1)
  (.keep [1, 2, 3, 4, 8, 14] (.cond (.tmp 14) (.keep [8] (.seq (.ops f14r2)
  (.keep [8, 9] .ret))) (.keep [1, 2, 3, 4, 8] (.seq (.ops f14r3)
  (.keep [1, 2, 3, 4, 8, 19] (.cond (.tmp 19) (.keep [8] (.seq (.ops f14r4)
  (.keep [8, 9] .ret))) .skip))))))))
  (.keep [1, 2, 3, 4, 8] (.seq (.ops f14r5)
  (.keep [1, 2, 3, 4, 8, 10] (.seq (.ops f14r6)
  (.keep [1, 2, 3, 4, 8, 10] (.seq (.seq (.ops f14r7)
  (.keep [2, 3, 4, 8, 10, 39, 40, 41] (.block 1 (.loop f14l0))))
  (.keep [4, 8] (.seq (.ops f14r17)
  (.keep [8, 9] .ret))))))))))))

def f14 : AFn := ⟨76, [.cell 8 (some 3), .tmp 9], f14b⟩

theorem f14_ok : compFn Try.prog 14 = some f14.strip := by kernel_rfl

/- function 15: weirhouse/sketch.Right; parameters 1; operations that are not compiled: 0 -/
def f15r0 : List AInstr := [
    ⟨(some 1), none, .box (.tmp 0)⟩,
    ⟨(some 2), none, .mov (.const (.bool false))⟩]

def f15r1 : List AInstr := [
    ⟨(some 3), none, .fieldAddr 0 (.tmp 1)⟩,
    ⟨(some 4), none, .load none (.tmp 3)⟩,
    ⟨(some 5), none, .ibin .geq (.tmp 4) (.const (.int .i64 1))⟩,
    ⟨(some 6), none, .mov (.tmp 5)⟩,
    ⟨(some 7), (some (6, true)), .fieldAddr 0 (.tmp 1)⟩,
    ⟨(some 8), (some (6, true)), .load none (.tmp 7)⟩,
    ⟨(some 9), (some (6, true)), .ibin .leq (.tmp 8) (.const (.int .i64 8))⟩,
    ⟨(some 10), none, .pick (.tmp 6) (.tmp 9) (.const (.bool false))⟩,
    ⟨(some 11), none, .mov (.tmp 10)⟩,
    ⟨(some 12), (some (11, true)), .fieldAddr 1 (.tmp 1)⟩,
    ⟨(some 13), (some (11, true)), .load none (.tmp 12)⟩,
    ⟨(some 14), (some (11, true)), .ibin .geq (.tmp 13) (.const (.int .i64 1))⟩,
    ⟨(some 15), none, .pick (.tmp 11) (.tmp 14) (.const (.bool false))⟩,
    ⟨(some 16), none, .mov (.tmp 15)⟩,
    ⟨(some 17), (some (16, true)), .fieldAddr 1 (.tmp 1)⟩,
    ⟨(some 18), (some (16, true)), .load none (.tmp 17)⟩,
    ⟨(some 19), (some (16, true)), .ibin .leq (.tmp 18) (.const (.int .i64 64))⟩,
    ⟨(some 20), none, .pick (.tmp 16) (.tmp 19) (.const (.bool false))⟩,
    ⟨(some 21), none, .mov (.tmp 20)⟩,
    ⟨(some 22), (some (21, true)), .fieldAddr 2 (.tmp 1)⟩,
    ⟨(some 23), (some (21, true)), .load none (.tmp 22)⟩,
    ⟨(some 24), (some (21, true)), .len (.tmp 23)⟩,
    ⟨(some 25), (some (21, true)), .fieldAddr 0 (.tmp 1)⟩,
    ⟨(some 26), (some (21, true)), .load none (.tmp 25)⟩,
    ⟨(some 27), (some (21, true)), .fieldAddr 1 (.tmp 1)⟩,
    ⟨(some 28), (some (21, true)), .load none (.tmp 27)⟩,
    ⟨(some 29), (some (21, true)), .ibin .mul (.tmp 26) (.tmp 28)⟩,
    ⟨(some 30), (some (21, true)), .ibin .eql (.tmp 24) (.tmp 29)⟩,
    ⟨(some 31), none, .pick (.tmp 21) (.tmp 30) (.const (.bool false))⟩,
    ⟨(some 32), none, .mov (.tmp 31)⟩,
    ⟨(some 33), (some (32, true)), .fieldAddr 2 (.tmp 1)⟩,
    ⟨(some 34), (some (32, true)), .load none (.tmp 33)⟩,
    ⟨(some 35), (some (32, true)), .callF 18 [.tmp 34, .const (.func (.func 19) #[] #[])]⟩,
    ⟨(some 36), (some (32, true)), .un .not (.tmp 35)⟩,
    ⟨(some 37), none, .pick (.tmp 32) (.tmp 36) (.const (.bool false))⟩,
    ⟨(some 2), none, .mov (.tmp 37)⟩]

def f15b : ACode := (.seq (.ops f15r0)
  (.keep [1] (.seq (.ops f15r1)
  (.keep [2] .ret))))

def f15 : AFn := ⟨38, [.tmp 2], f15b⟩

theorem f15_ok : compFn Try.prog 15 = some f15.strip := by kernel_rfl

/- function 16: weirhouse/sketch.cells; parameters 2; operations that are not compiled: 0 -/
def f16r0 : List AInstr := [
    ⟨(some 2), none, .box (.tmp 0)⟩,
    ⟨(some 4), none, .mov (.const (.slice none 0 0))⟩]

def f16r1 : List AInstr := [
    ⟨(some 5), none, .mov (.const (.slice none 0 0))⟩]

def f16r2 : List AInstr := [
    ⟨(some 9), none, .fieldAddr 0 (.tmp 2)⟩,
    ⟨(some 10), none, .load none (.tmp 9)⟩,
    ⟨(some 11), none, .mov (.const (.int .i64 0))⟩]

def f16r3 : List AInstr := [
    ⟨(some 12), none, .ibin .lss (.tmp 11) (.tmp 10)⟩]

def f16r4 : List AInstr := [
    ⟨(some 13), none, .mov (.tmp 11)⟩,
    ⟨(some 6), none, .mov (.tmp 13)⟩]

def f16r5 : List AInstr := [
    ⟨(some 15), none, .mov (.tmp 6)⟩,
    ⟨(some 16), none, .fieldAddr 1 (.tmp 2)⟩,
    ⟨(some 17), none, .load none (.tmp 16)⟩,
    ⟨(some 18), none, .mov (.tmp 1)⟩,
    ⟨(some 19), none, .callF 10 [.tmp 15, .tmp 17, .tmp 18]⟩,
    ⟨(some 14), none, .mov (.tmp 19)⟩,
    ⟨(some 20), none, .extract 0 (.tmp 14)⟩,
    ⟨(some 21), none, .extract 1 (.tmp 14)⟩,
    ⟨(some 7), none, .mov (.tmp 20)⟩,
    ⟨(some 8), none, .mov (.tmp 21)⟩]

def f16r6 : List AInstr := [
    ⟨(some 22), none, .mov (.tmp 5)⟩,
    ⟨(some 23), none, .mov (.tmp 6)⟩,
    ⟨(some 24), none, .fieldAddr 1 (.tmp 2)⟩,
    ⟨(some 25), none, .load none (.tmp 24)⟩,
    ⟨(some 26), none, .ibin .mul (.tmp 23) (.tmp 25)⟩,
    ⟨(some 27), none, .mov (.tmp 7)⟩,
    ⟨(some 28), none, .ibin .add (.tmp 26) (.tmp 27)⟩,
    ⟨(some 29), none, .buildSlice 1 1 [.int .i64 0] [(0, 1, (.tmp 28))]⟩,
    ⟨(some 30), none, .append 1 8 (.tmp 22) (.tmp 29)⟩,
    ⟨(some 5), none, .mov (.tmp 30)⟩]

def f16r7 : List AInstr := [
    ⟨(some 31), none, .ibin .add (.tmp 11) (.const (.int .i64 1))⟩,
    ⟨(some 11), none, .mov (.tmp 31)⟩]

/-- live: [1, 2, 5, 10, 11] -/
def f16l0 : ACode := (.seq (.ops f16r3)
  (.keep [1, 2, 5, 10, 11, 12] (.seq (.cond (.tmp 12) .skip (.exit 0))
  (.keep [1, 2, 5, 10, 11] (.seq (.block 1 (.seq (.ops f16r4)
  (.keep [1, 2, 5, 6, 10, 11] (.seq (.ops f16r5)
  (.keep [1, 2, 5, 6, 7, 10, 11] (.ops f16r6))))))
  (.keep [1, 2, 5, 10, 11] (.ops f16r7)))))))

def f16r9 : List AInstr := [
    ⟨(some 32), none, .mov (.tmp 5)⟩,
    ⟨(some 4), none, .mov (.tmp 32)⟩]

def f16b : ACode := (.seq (.ops f16r0)
  (.keep [1, 2] (.seq (.ops f16r1)
  (.keep [1, 2, 5] (.seq (.seq (.ops f16r2)
  (.keep [1, 2, 5, 10, 11] (.block 0 (.loop f16l0))))
  (.keep [5] (.seq (.ops f16r9)
  (.keep [4] .ret))))))))

def f16 : AFn := ⟨33, [.tmp 4], f16b⟩

theorem f16_ok : compFn Try.prog 16 = some f16.strip := by kernel_rfl

/- function 17: slices.Clone[[]int,int]; parameters 1; operations that are not compiled: 0 -/
def f17r0 : List AInstr := [
    ⟨(some 2), none, .mov (.const (.slice none 0 0))⟩]

def f17r1 : List AInstr := [
    ⟨(some 3), none, .mov (.tmp 0)⟩,
    ⟨(some 4), none, .eqS false (.tmp 3) (.const (.slice none 0 0))⟩]

def f17r2 : List AInstr := [
    ⟨(some 2), none, .mov (.const (.slice none 0 0))⟩]

def f17r3 : List AInstr := [
    ⟨(some 5), none, .buildSlice 1 0 [] []⟩,
    ⟨(some 6), none, .mov (.tmp 0)⟩,
    ⟨(some 7), none, .append 1 8 (.tmp 5) (.tmp 6)⟩,
    ⟨(some 2), none, .mov (.tmp 7)⟩]

def f17b : ACode := (.seq (.ops f17r0)
  (.keep [0] (.seq (.seq (.ops f17r1)
  (.keep [0, 4] (.cond (.tmp 4) (.keep [] (.seq (.ops f17r2)
  (.keep [2] .ret))) .skip)))
  (.keep [0] (.seq (.ops f17r3)
  (.keep [2] .ret))))))

def f17 : AFn := ⟨8, [.tmp 2], f17b⟩

theorem f17_ok : compFn Try.prog 17 = some f17.strip := by kernel_rfl

/- function 18: slices.ContainsFunc[[]int,int]; parameters 2; operations that are not compiled: 0 -/
def f18r0 : List AInstr := [
    ⟨(some 4), none, .mov (.const (.bool false))⟩]

def f18r1 : List AInstr := [
    ⟨(some 5), none, .mov (.tmp 0)⟩,
    ⟨(some 6), none, .mov (.tmp 1)⟩,
    ⟨(some 7), none, .callF 20 [.tmp 5, .tmp 6]⟩,
    ⟨(some 8), none, .ibin .geq (.tmp 7) (.const (.int .i64 0))⟩,
    ⟨(some 4), none, .mov (.tmp 8)⟩]

def f18b : ACode := (.seq (.ops f18r0)
  (.keep [0, 1] (.seq (.ops f18r1)
  (.keep [4] .ret))))

def f18 : AFn := ⟨9, [.tmp 4], f18b⟩

theorem f18_ok : compFn Try.prog 18 = some f18.strip := by kernel_rfl

/- function 19: weirhouse/sketch.Right$1; parameters 1; operations that are not compiled: 0 -/
def f19r0 : List AInstr := [
    ⟨(some 2), none, .mov (.const (.bool false))⟩]

def f19r1 : List AInstr := [
    ⟨(some 3), none, .mov (.tmp 0)⟩,
    ⟨(some 4), none, .ibin .lss (.tmp 3) (.const (.int .i64 0))⟩,
    ⟨(some 5), none, .mov (.tmp 4)⟩,
    ⟨(some 6), (some (5, false)), .mov (.tmp 0)⟩,
    ⟨(some 7), (some (5, false)), .ibin .gtr (.tmp 6) (.const (.int .i64 1099511627776))⟩,
    ⟨(some 8), none, .pick (.tmp 5) (.const (.bool true)) (.tmp 7)⟩,
    ⟨(some 2), none, .mov (.tmp 8)⟩]

def f19b : ACode := (.seq (.ops f19r0)
  (.keep [0] (.seq (.ops f19r1)
  (.keep [2] .ret))))

def f19 : AFn := ⟨9, [.tmp 2], f19b⟩

theorem f19_ok : compFn Try.prog 19 = some f19.strip := by kernel_rfl

/- function 20: slices.IndexFunc[[]int,int]; parameters 2; operations that are not compiled: 0 -/
def f20r0 : List AInstr := [
    ⟨(some 4), none, .mov (.const (.int .i64 0))⟩]

def f20r1 : List AInstr := [
    ⟨(some 6), none, .mov (.tmp 0)⟩,
    ⟨(some 7), none, .len (.tmp 6)⟩,
    ⟨(some 8), none, .mov (.const (.int .i64 0))⟩]

def f20r2 : List AInstr := [
    ⟨(some 9), none, .ibin .lss (.tmp 8) (.tmp 7)⟩]

def f20r3 : List AInstr := [
    ⟨(some 10), none, .mov (.tmp 8)⟩,
    ⟨(some 5), none, .mov (.tmp 10)⟩]

def f20r4 : List AInstr := [
    ⟨(some 11), none, .mov (.tmp 1)⟩,
    ⟨(some 12), none, .mov (.tmp 0)⟩,
    ⟨(some 13), none, .mov (.tmp 5)⟩,
    ⟨(some 14), none, .indexAddr 1 (.tmp 12) (.tmp 13)⟩,
    ⟨(some 15), none, .load none (.tmp 14)⟩,
    ⟨(some 16), none, .callV (.tmp 11) [.tmp 15]⟩]

def f20r5 : List AInstr := [
    ⟨(some 17), none, .mov (.tmp 5)⟩,
    ⟨(some 4), none, .mov (.tmp 17)⟩]

def f20r6 : List AInstr := [
    ⟨(some 18), none, .ibin .add (.tmp 8) (.const (.int .i64 1))⟩,
    ⟨(some 8), none, .mov (.tmp 18)⟩]

/-- live: [0, 1, 7, 8] -/
def f20l0 : ACode := (.seq (.ops f20r2)
  (.keep [0, 1, 7, 8, 9] (.seq (.cond (.tmp 9) .skip (.exit 0))
  (.keep [0, 1, 7, 8] (.seq (.block 1 (.seq (.ops f20r3)
  (.keep [0, 1, 5, 7, 8] (.seq (.ops f20r4)
  (.keep [0, 1, 5, 7, 8, 16] (.cond (.tmp 16) (.keep [5] (.seq (.ops f20r5)
  (.keep [4] .ret))) .skip))))))
  (.keep [0, 1, 7, 8] (.ops f20r6)))))))

def f20r8 : List AInstr := [
    ⟨(some 4), none, .mov (.const (.int .i64 (-1)))⟩]

def f20b : ACode := (.seq (.ops f20r0)
  (.keep [0, 1] (.seq (.seq (.ops f20r1)
  (.keep [0, 1, 7, 8] (.block 0 (.loop f20l0))))
  (.keep [] (.seq (.ops f20r8)
  (.keep [4] .ret))))))

def f20 : AFn := ⟨19, [.tmp 4], f20b⟩

theorem f20_ok : compFn Try.prog 20 = some f20.strip := by kernel_rfl

end Go.Proofs.Ytadogoahnpakbaa
