/-
  The functions of this seat as abstract code. Printed by a program of this claim's writer.
-/
import Derived.Test.YtdddoioecccfpaaChecked
import Derived.Test.YtdddoioecccfpaaAmS
import Derived.KernelRfl
namespace Go.Proofs.Ytdddoioecccfpaa
open Go Go.Am

/- function 3: weirhouse/weirhousekeep.LindleyReich; parameters 1; operations that are not compiled: 0 -/
def f3r0 : List AInstr := [
    ⟨(some 2), none, .mov (.const (.bool false))⟩]

def f3r1 : List AInstr := [
    ⟨(some 8), none, .callF 7 []⟩,
    ⟨(some 9), none, .un .not (.tmp 8)⟩]

def f3r2 : List AInstr := [
    ⟨(some 2), none, .mov (.const (.bool false))⟩]

def f3r3 : List AInstr := [
    ⟨(some 11), none, .mov (.tmp 0)⟩,
    ⟨(some 12), none, .callF 8 [.tmp 11]⟩,
    ⟨(some 10), none, .mov (.tmp 12)⟩,
    ⟨(some 13), none, .extract 0 (.tmp 10)⟩,
    ⟨(some 14), none, .extract 1 (.tmp 10)⟩,
    ⟨(some 3), none, .mov (.tmp 13)⟩,
    ⟨(some 4), none, .mov (.tmp 14)⟩]

def f3r4 : List AInstr := [
    ⟨(some 15), none, .mov (.tmp 4)⟩,
    ⟨(some 16), none, .ibin .neq (.tmp 15) (.const (.int .i64 0))⟩,
    ⟨(some 17), none, .mov (.tmp 16)⟩,
    ⟨(some 18), (some (17, false)), .mov (.tmp 3)⟩,
    ⟨(some 19), (some (17, false)), .len (.tmp 18)⟩,
    ⟨(some 20), (some (17, false)), .mov (.tmp 0)⟩,
    ⟨(some 21), (some (17, false)), .len (.tmp 20)⟩,
    ⟨(some 22), (some (17, false)), .ibin .neq (.tmp 19) (.tmp 21)⟩,
    ⟨(some 23), none, .pick (.tmp 17) (.const (.bool true)) (.tmp 22)⟩]

def f3r5 : List AInstr := [
    ⟨(some 24), none, .mov (.tmp 4)⟩,
    ⟨(some 25), none, .ibin .neq (.tmp 24) (.const (.int .i64 0))⟩,
    ⟨(some 26), none, .mov (.tmp 25)⟩,
    ⟨(some 27), (some (26, true)), .mov (.tmp 3)⟩,
    ⟨(some 28), (some (26, true)), .len (.tmp 27)⟩,
    ⟨(some 29), (some (26, true)), .ibin .eql (.tmp 28) (.const (.int .i64 0))⟩,
    ⟨(some 30), none, .pick (.tmp 26) (.tmp 29) (.const (.bool false))⟩,
    ⟨(some 2), none, .mov (.tmp 30)⟩]

def f3r6 : List AInstr := [
    ⟨(some 31), none, .mov (.tmp 0)⟩,
    ⟨(some 32), none, .len (.tmp 31)⟩,
    ⟨(some 33), none, .minmax false [.tmp 32, .const (.int .i64 40)]⟩,
    ⟨(some 34), none, .mov (.const (.int .i64 0))⟩]

def f3r7 : List AInstr := [
    ⟨(some 35), none, .ibin .lss (.tmp 34) (.tmp 33)⟩]

def f3r8 : List AInstr := [
    ⟨(some 36), none, .mov (.tmp 34)⟩,
    ⟨(some 5), none, .mov (.tmp 36)⟩]

def f3r9 : List AInstr := [
    ⟨(some 38), none, .mov (.tmp 0)⟩,
    ⟨(some 39), none, .mov (.tmp 5)⟩,
    ⟨(some 40), none, .slice 2 (.tmp 38) none (some (.tmp 39)) none⟩,
    ⟨(some 41), none, .mov (.tmp 0)⟩,
    ⟨(some 42), none, .mov (.tmp 5)⟩,
    ⟨(some 43), none, .indexAddr 2 (.tmp 41) (.tmp 42)⟩,
    ⟨(some 44), none, .fieldAddr 0 (.tmp 43)⟩,
    ⟨(some 45), none, .load none (.tmp 44)⟩,
    ⟨(some 46), none, .callF 9 [.tmp 40, .tmp 45]⟩,
    ⟨(some 37), none, .mov (.tmp 46)⟩,
    ⟨(some 47), none, .extract 0 (.tmp 37)⟩,
    ⟨(some 48), none, .extract 1 (.tmp 37)⟩,
    ⟨(some 6), none, .mov (.tmp 47)⟩,
    ⟨(some 7), none, .mov (.tmp 48)⟩]

def f3r10 : List AInstr := [
    ⟨(some 49), none, .mov (.tmp 7)⟩,
    ⟨(some 50), none, .ibin .neq (.tmp 49) (.const (.int .i64 0))⟩,
    ⟨(some 51), none, .mov (.tmp 50)⟩,
    ⟨(some 52), (some (51, false)), .mov (.tmp 6)⟩,
    ⟨(some 53), (some (51, false)), .mov (.tmp 3)⟩,
    ⟨(some 54), (some (51, false)), .mov (.tmp 5)⟩,
    ⟨(some 55), (some (51, false)), .indexAddr 1 (.tmp 53) (.tmp 54)⟩,
    ⟨(some 56), (some (51, false)), .load none (.tmp 55)⟩,
    ⟨(some 57), (some (51, false)), .ibin .neq (.tmp 52) (.tmp 56)⟩,
    ⟨(some 58), none, .pick (.tmp 51) (.const (.bool true)) (.tmp 57)⟩]

def f3r11 : List AInstr := [
    ⟨(some 2), none, .mov (.const (.bool false))⟩]

def f3r12 : List AInstr := [
    ⟨(some 59), none, .ibin .add (.tmp 34) (.const (.int .i64 1))⟩,
    ⟨(some 34), none, .mov (.tmp 59)⟩]

/-- live: [0, 3, 33, 34] -/
def f3l0 : ACode := (.seq (.ops f3r7)
  (.keep [0, 3, 33, 34, 35] (.seq (.cond (.tmp 35) .skip (.exit 0))
  (.keep [0, 3, 33, 34] (.seq (.block 1 (.seq (.ops f3r8)
  (.keep [0, 3, 5, 33, 34] (.seq (.draw f3r9 [(0, 0, false), (0, 0, false), (0, 0, false), (0, 0, false), (0, 0, false), (0, 0, false), (0, 0, false), (0, 0, false), (0, 1, true), (1, 1, false), (1, 1, false), (1, 1, false), (1, 1, false), (1, 1, false)])
  (.keep [0, 3, 5, 6, 7, 33, 34] (.seq (.ops f3r10)
  (.keep [0, 3, 33, 34, 58] (.cond (.tmp 58) (.keep [] (.seq (.ops f3r11)
  (.keep [2] .ret))) .skip))))))))
  (.keep [0, 3, 33, 34] (.ops f3r12)))))))

def f3r14 : List AInstr := [
    ⟨(some 2), none, .mov (.const (.bool true))⟩]

def f3b : ACode := (.seq (.ops f3r0)
  (.keep [0] (.seq (.seq (.ops f3r1)
  (.keep [0, 9] (.cond (.tmp 9) (.keep [] (.seq (.ops f3r2)
  (.keep [2] .ret))) .skip)))
  (.keep [0] (.seq (.ops f3r3)
  (.keep [0, 3, 4] (.seq (.seq (.ops f3r4)
  (.keep [0, 3, 4, 23] (.cond (.tmp 23) (.keep [3, 4] (.seq (.ops f3r5)
  (.keep [2] .ret))) .skip)))
  (.keep [0, 3] (.seq (.seq (.ops f3r6)
  (.keep [0, 3, 33, 34] (.block 0 (.loop f3l0))))
  (.keep [] (.seq (.ops f3r14)
  (.keep [2] .ret))))))))))))

def f3 : AFn := ⟨60, [.tmp 2], f3b⟩

theorem f3_ok : compFn Try.prog 3 = some f3.strip := by kernel_rfl

/- function 4: weirhouse/weirhousekeep.LindleyLittle; parameters 1; operations that are not compiled: 0 -/
def f4r0 : List AInstr := [
    ⟨(some 2), none, .mov (.const (.bool false))⟩]

def f4r1 : List AInstr := [
    ⟨(some 12), none, .callF 7 []⟩,
    ⟨(some 13), none, .un .not (.tmp 12)⟩]

def f4r2 : List AInstr := [
    ⟨(some 2), none, .mov (.const (.bool false))⟩]

def f4r3 : List AInstr := [
    ⟨(some 15), none, .mov (.tmp 0)⟩,
    ⟨(some 16), none, .callF 8 [.tmp 15]⟩,
    ⟨(some 14), none, .mov (.tmp 16)⟩,
    ⟨(some 17), none, .extract 0 (.tmp 14)⟩,
    ⟨(some 18), none, .extract 1 (.tmp 14)⟩,
    ⟨(some 3), none, .mov (.tmp 17)⟩,
    ⟨(some 4), none, .mov (.tmp 18)⟩]

def f4r4 : List AInstr := [
    ⟨(some 19), none, .mov (.tmp 4)⟩,
    ⟨(some 20), none, .ibin .neq (.tmp 19) (.const (.int .i64 0))⟩,
    ⟨(some 21), none, .mov (.tmp 20)⟩,
    ⟨(some 22), (some (21, false)), .mov (.tmp 0)⟩,
    ⟨(some 23), (some (21, false)), .len (.tmp 22)⟩,
    ⟨(some 24), (some (21, false)), .ibin .gtr (.tmp 23) (.const (.int .i64 20))⟩,
    ⟨(some 25), none, .pick (.tmp 21) (.const (.bool true)) (.tmp 24)⟩,
    ⟨(some 26), none, .mov (.tmp 25)⟩,
    ⟨(some 27), (some (26, false)), .mov (.tmp 0)⟩,
    ⟨(some 28), (some (26, false)), .len (.tmp 27)⟩,
    ⟨(some 29), (some (26, false)), .ibin .gtr (.tmp 28) (.const (.int .i64 0))⟩,
    ⟨(some 30), (some (26, false)), .mov (.tmp 29)⟩,
    ⟨(some 31), (some (30, true)), .mov (.tmp 0)⟩,
    ⟨(some 32), (some (30, true)), .mov (.tmp 0)⟩,
    ⟨(some 33), (some (30, true)), .len (.tmp 32)⟩,
    ⟨(some 34), (some (30, true)), .ibin .sub (.tmp 33) (.const (.int .i64 1))⟩,
    ⟨(some 35), (some (30, true)), .indexAddr 2 (.tmp 31) (.tmp 34)⟩,
    ⟨(some 36), (some (30, true)), .fieldAddr 0 (.tmp 35)⟩,
    ⟨(some 37), (some (30, true)), .load none (.tmp 36)⟩,
    ⟨(some 38), (some (30, true)), .ibin .gtr (.tmp 37) (.const (.int .i64 200))⟩,
    ⟨(some 39), (some (26, false)), .pick (.tmp 30) (.tmp 38) (.const (.bool false))⟩,
    ⟨(some 40), none, .pick (.tmp 26) (.const (.bool true)) (.tmp 39)⟩]

def f4r5 : List AInstr := [
    ⟨(some 2), none, .mov (.const (.bool true))⟩]

def f4r6 : List AInstr := [
    ⟨(some 41), none, .mov (.tmp 3)⟩,
    ⟨(some 42), none, .len (.tmp 41)⟩,
    ⟨(some 43), none, .mov (.tmp 0)⟩,
    ⟨(some 44), none, .len (.tmp 43)⟩,
    ⟨(some 45), none, .ibin .neq (.tmp 42) (.tmp 44)⟩]

def f4r7 : List AInstr := [
    ⟨(some 2), none, .mov (.const (.bool false))⟩]

def f4r8 : List AInstr := [
    ⟨(some 5), none, .mov (.const (.int .i64 0))⟩,
    ⟨(some 6), none, .mov (.const (.int .i64 0))⟩]

def f4r9 : List AInstr := [
    ⟨(some 46), none, .mov (.tmp 0)⟩,
    ⟨(some 47), none, .len (.tmp 46)⟩,
    ⟨(some 48), none, .mov (.const (.int .i64 0))⟩]

def f4r10 : List AInstr := [
    ⟨(some 49), none, .ibin .lss (.tmp 48) (.tmp 47)⟩]

def f4r11 : List AInstr := [
    ⟨(some 50), none, .mov (.tmp 48)⟩,
    ⟨(some 51), none, .indexAddr 2 (.tmp 46) (.tmp 48)⟩,
    ⟨(some 52), none, .load (some 2) (.tmp 51)⟩,
    ⟨(some 8), none, .alloc [.int .i64 0, .int .i64 0]⟩,
    ⟨(some 7), none, .mov (.tmp 50)⟩,
    ⟨none, none, .store 2 (.tmp 8) (.tmp 52)⟩]

def f4r12 : List AInstr := [
    ⟨(some 53), none, .fieldAddr 1 (.tmp 8)⟩,
    ⟨(some 54), none, .load none (.tmp 53)⟩,
    ⟨(some 55), none, .ibin .gtr (.tmp 54) (.const (.int .i64 50))⟩]

def f4r13 : List AInstr := [
    ⟨(some 2), none, .mov (.const (.bool true))⟩]

def f4r14 : List AInstr := [
    ⟨(some 56), none, .mov (.tmp 5)⟩,
    ⟨(some 57), none, .mov (.tmp 3)⟩,
    ⟨(some 58), none, .mov (.tmp 7)⟩,
    ⟨(some 59), none, .indexAddr 1 (.tmp 57) (.tmp 58)⟩,
    ⟨(some 60), none, .load none (.tmp 59)⟩,
    ⟨(some 61), none, .fieldAddr 1 (.tmp 8)⟩,
    ⟨(some 62), none, .load none (.tmp 61)⟩,
    ⟨(some 63), none, .ibin .add (.tmp 60) (.tmp 62)⟩,
    ⟨(some 64), none, .ibin .add (.tmp 56) (.tmp 63)⟩,
    ⟨(some 5), none, .mov (.tmp 64)⟩]

def f4r15 : List AInstr := [
    ⟨(some 65), none, .mov (.tmp 6)⟩,
    ⟨(some 66), none, .fieldAddr 0 (.tmp 8)⟩,
    ⟨(some 67), none, .load none (.tmp 66)⟩,
    ⟨(some 68), none, .mov (.tmp 3)⟩,
    ⟨(some 69), none, .mov (.tmp 7)⟩,
    ⟨(some 70), none, .indexAddr 1 (.tmp 68) (.tmp 69)⟩,
    ⟨(some 71), none, .load none (.tmp 70)⟩,
    ⟨(some 72), none, .ibin .add (.tmp 67) (.tmp 71)⟩,
    ⟨(some 73), none, .fieldAddr 1 (.tmp 8)⟩,
    ⟨(some 74), none, .load none (.tmp 73)⟩,
    ⟨(some 75), none, .ibin .add (.tmp 72) (.tmp 74)⟩,
    ⟨(some 76), none, .minmax true [.tmp 65, .tmp 75]⟩,
    ⟨(some 6), none, .mov (.tmp 76)⟩]

def f4r16 : List AInstr := [
    ⟨(some 77), none, .ibin .add (.tmp 48) (.const (.int .i64 1))⟩,
    ⟨(some 48), none, .mov (.tmp 77)⟩]

/-- live: [0, 3, 5, 6, 46, 47, 48] -/
def f4l0 : ACode := (.seq (.ops f4r10)
  (.keep [0, 3, 5, 6, 46, 47, 48, 49] (.seq (.cond (.tmp 49) .skip (.exit 0))
  (.keep [0, 3, 5, 6, 46, 47, 48] (.seq (.block 1 (.seq (.ops f4r11)
  (.keep [0, 3, 5, 6, 7, 8, 46, 47, 48] (.seq (.seq (.ops f4r12)
  (.keep [0, 3, 5, 6, 7, 8, 46, 47, 48, 55] (.cond (.tmp 55) (.keep [] (.seq (.ops f4r13)
  (.keep [2] .ret))) .skip)))
  (.keep [0, 3, 5, 6, 7, 8, 46, 47, 48] (.seq (.draw f4r14 [(0, 0, false), (0, 0, false), (0, 0, false), (0, 0, false), (0, 0, false), (0, 0, false), (0, 0, false), (0, 0, false), (0, 0, false), (0, 0, false)])
  (.keep [0, 3, 5, 6, 7, 8, 46, 47, 48] (.draw f4r15 [(0, 0, false), (0, 0, false), (0, 0, false), (0, 0, false), (0, 0, false), (0, 0, false), (0, 0, false), (0, 0, false), (0, 0, false), (0, 0, false), (0, 0, false), (0, 0, false), (0, 0, false)]))))))))
  (.keep [0, 3, 5, 6, 46, 47, 48] (.ops f4r16)))))))

def f4r18 : List AInstr := [
    ⟨(some 78), none, .mov (.tmp 6)⟩,
    ⟨(some 79), none, .mov (.const (.int .i64 0))⟩]

def f4r19 : List AInstr := [
    ⟨(some 80), none, .ibin .lss (.tmp 79) (.tmp 78)⟩]

def f4r20 : List AInstr := [
    ⟨(some 81), none, .mov (.tmp 79)⟩,
    ⟨(some 9), none, .mov (.tmp 81)⟩]

def f4r21 : List AInstr := [
    ⟨(some 83), none, .mov (.tmp 0)⟩,
    ⟨(some 84), none, .mov (.tmp 9)⟩,
    ⟨(some 85), none, .callF 10 [.tmp 83, .tmp 84]⟩,
    ⟨(some 82), none, .mov (.tmp 85)⟩,
    ⟨(some 86), none, .extract 0 (.tmp 82)⟩,
    ⟨(some 87), none, .extract 1 (.tmp 82)⟩,
    ⟨(some 10), none, .mov (.tmp 86)⟩,
    ⟨(some 11), none, .mov (.tmp 87)⟩]

def f4r22 : List AInstr := [
    ⟨(some 88), none, .mov (.tmp 11)⟩,
    ⟨(some 89), none, .ibin .neq (.tmp 88) (.const (.int .i64 0))⟩]

def f4r23 : List AInstr := [
    ⟨(some 2), none, .mov (.const (.bool false))⟩]

def f4r24 : List AInstr := [
    ⟨(some 90), none, .mov (.tmp 5)⟩,
    ⟨(some 91), none, .mov (.tmp 10)⟩,
    ⟨(some 92), none, .ibin .sub (.tmp 90) (.tmp 91)⟩,
    ⟨(some 5), none, .mov (.tmp 92)⟩]

def f4r25 : List AInstr := [
    ⟨(some 93), none, .ibin .add (.tmp 79) (.const (.int .i64 1))⟩,
    ⟨(some 79), none, .mov (.tmp 93)⟩]

/-- live: [0, 5, 78, 79] -/
def f4l1 : ACode := (.seq (.ops f4r19)
  (.keep [0, 5, 78, 79, 80] (.seq (.cond (.tmp 80) .skip (.exit 2))
  (.keep [0, 5, 78, 79] (.seq (.block 3 (.seq (.ops f4r20)
  (.keep [0, 5, 9, 78, 79] (.seq (.ops f4r21)
  (.keep [0, 5, 10, 11, 78, 79] (.seq (.seq (.ops f4r22)
  (.keep [0, 5, 10, 78, 79, 89] (.cond (.tmp 89) (.keep [] (.seq (.ops f4r23)
  (.keep [2] .ret))) .skip)))
  (.keep [0, 5, 10, 78, 79] (.ops f4r24))))))))
  (.keep [0, 5, 78, 79] (.ops f4r25)))))))

def f4r27 : List AInstr := [
    ⟨(some 94), none, .mov (.tmp 5)⟩,
    ⟨(some 95), none, .ibin .eql (.tmp 94) (.const (.int .i64 0))⟩,
    ⟨(some 2), none, .mov (.tmp 95)⟩]

def f4b : ACode := (.seq (.ops f4r0)
  (.keep [0] (.seq (.seq (.ops f4r1)
  (.keep [0, 13] (.cond (.tmp 13) (.keep [] (.seq (.ops f4r2)
  (.keep [2] .ret))) .skip)))
  (.keep [0] (.seq (.ops f4r3)
  (.keep [0, 3, 4] (.seq (.seq (.ops f4r4)
  (.keep [0, 3, 40] (.cond (.tmp 40) (.keep [] (.seq (.ops f4r5)
  (.keep [2] .ret))) .skip)))
  (.keep [0, 3] (.seq (.seq (.ops f4r6)
  (.keep [0, 3, 45] (.cond (.tmp 45) (.keep [] (.seq (.ops f4r7)
  (.keep [2] .ret))) .skip)))
  (.keep [0, 3] (.seq (.ops f4r8)
  (.keep [0, 3, 5, 6] (.seq (.seq (.ops f4r9)
  (.keep [0, 3, 5, 6, 46, 47, 48] (.block 0 (.loop f4l0))))
  (.keep [0, 5, 6] (.seq (.seq (.ops f4r18)
  (.keep [0, 5, 78, 79] (.block 2 (.loop f4l1))))
  (.keep [5] (.seq (.ops f4r27)
  (.keep [2] .ret))))))))))))))))))

def f4 : AFn := ⟨96, [.tmp 2], f4b⟩

theorem f4_ok : compFn Try.prog 4 = some f4.strip := by kernel_rfl

/- function 5: weirhouse/weirhousekeep.LindleyWork; parameters 2; operations that are not compiled: 0 -/
def f5r0 : List AInstr := [
    ⟨(some 4), none, .mov (.const (.bool false))⟩]

def f5r1 : List AInstr := [
    ⟨(some 14), none, .callF 7 []⟩,
    ⟨(some 15), none, .un .not (.tmp 14)⟩]

def f5r2 : List AInstr := [
    ⟨(some 4), none, .mov (.const (.bool false))⟩]

def f5r3 : List AInstr := [
    ⟨(some 17), none, .mov (.tmp 0)⟩,
    ⟨(some 18), none, .mov (.tmp 1)⟩,
    ⟨(some 19), none, .callF 9 [.tmp 17, .tmp 18]⟩,
    ⟨(some 16), none, .mov (.tmp 19)⟩,
    ⟨(some 20), none, .extract 0 (.tmp 16)⟩,
    ⟨(some 21), none, .extract 1 (.tmp 16)⟩,
    ⟨(some 5), none, .mov (.tmp 20)⟩,
    ⟨(some 6), none, .mov (.tmp 21)⟩]

def f5r4 : List AInstr := [
    ⟨(some 23), none, .mov (.tmp 0)⟩,
    ⟨(some 24), none, .mov (.tmp 1)⟩,
    ⟨(some 25), none, .ibin .add (.tmp 24) (.const (.int .i64 1))⟩,
    ⟨(some 26), none, .callF 9 [.tmp 23, .tmp 25]⟩,
    ⟨(some 22), none, .mov (.tmp 26)⟩,
    ⟨(some 27), none, .extract 0 (.tmp 22)⟩,
    ⟨(some 28), none, .extract 1 (.tmp 22)⟩,
    ⟨(some 7), none, .mov (.tmp 27)⟩,
    ⟨(some 8), none, .mov (.tmp 28)⟩]

def f5r5 : List AInstr := [
    ⟨(some 29), none, .mov (.tmp 6)⟩,
    ⟨(some 30), none, .ibin .neq (.tmp 29) (.const (.int .i64 0))⟩,
    ⟨(some 31), none, .mov (.tmp 30)⟩,
    ⟨(some 32), (some (31, false)), .mov (.tmp 8)⟩,
    ⟨(some 33), (some (31, false)), .ibin .neq (.tmp 32) (.const (.int .i64 0))⟩,
    ⟨(some 34), none, .pick (.tmp 31) (.const (.bool true)) (.tmp 33)⟩,
    ⟨(some 35), none, .mov (.tmp 34)⟩,
    ⟨(some 36), (some (35, false)), .mov (.tmp 1)⟩,
    ⟨(some 37), (some (35, false)), .ibin .gtr (.tmp 36) (.const (.int .i64 1099511627776))⟩,
    ⟨(some 38), none, .pick (.tmp 35) (.const (.bool true)) (.tmp 37)⟩,
    ⟨(some 39), none, .mov (.tmp 38)⟩,
    ⟨(some 40), (some (39, false)), .mov (.tmp 1)⟩,
    ⟨(some 41), (some (39, false)), .ibin .lss (.tmp 40) (.const (.int .i64 (-1099511627776)))⟩,
    ⟨(some 42), none, .pick (.tmp 39) (.const (.bool true)) (.tmp 41)⟩]

def f5r6 : List AInstr := [
    ⟨(some 4), none, .mov (.const (.bool true))⟩]

def f5r7 : List AInstr := [
    ⟨(some 9), none, .mov (.const (.int .i64 0))⟩]

def f5r8 : List AInstr := [
    ⟨(some 43), none, .mov (.tmp 0)⟩,
    ⟨(some 44), none, .len (.tmp 43)⟩,
    ⟨(some 45), none, .mov (.const (.int .i64 0))⟩]

def f5r9 : List AInstr := [
    ⟨(some 46), none, .ibin .lss (.tmp 45) (.tmp 44)⟩]

def f5r10 : List AInstr := [
    ⟨(some 47), none, .indexAddr 2 (.tmp 43) (.tmp 45)⟩,
    ⟨(some 48), none, .load (some 2) (.tmp 47)⟩,
    ⟨(some 11), none, .alloc [.int .i64 0, .int .i64 0]⟩,
    ⟨none, none, .store 2 (.tmp 11) (.tmp 48)⟩]

def f5r11 : List AInstr := [
    ⟨(some 49), none, .fieldAddr 0 (.tmp 11)⟩,
    ⟨(some 50), none, .load none (.tmp 49)⟩,
    ⟨(some 51), none, .mov (.tmp 1)⟩,
    ⟨(some 52), none, .ibin .add (.tmp 51) (.const (.int .i64 1))⟩,
    ⟨(some 53), none, .ibin .eql (.tmp 50) (.tmp 52)⟩]

def f5r12 : List AInstr := [
    ⟨(some 54), none, .mov (.tmp 9)⟩,
    ⟨(some 55), none, .fieldAddr 1 (.tmp 11)⟩,
    ⟨(some 56), none, .load none (.tmp 55)⟩,
    ⟨(some 57), none, .ibin .add (.tmp 54) (.tmp 56)⟩,
    ⟨(some 9), none, .mov (.tmp 57)⟩]

def f5r13 : List AInstr := [
    ⟨(some 58), none, .ibin .add (.tmp 45) (.const (.int .i64 1))⟩,
    ⟨(some 45), none, .mov (.tmp 58)⟩]

/-- live: [0, 1, 5, 7, 9, 43, 44, 45] -/
def f5l0 : ACode := (.seq (.ops f5r9)
  (.keep [0, 1, 5, 7, 9, 43, 44, 45, 46] (.seq (.cond (.tmp 46) .skip (.exit 0))
  (.keep [0, 1, 5, 7, 9, 43, 44, 45] (.seq (.block 1 (.seq (.ops f5r10)
  (.keep [0, 1, 5, 7, 9, 11, 43, 44, 45] (.seq (.ops f5r11)
  (.keep [0, 1, 5, 7, 9, 11, 43, 44, 45, 53] (.cond (.tmp 53) (.keep [0, 1, 5, 7, 9, 11, 43, 44, 45] (.ops f5r12)) .skip))))))
  (.keep [0, 1, 5, 7, 9, 43, 44, 45] (.ops f5r13)))))))

def f5r15 : List AInstr := [
    ⟨(some 60), none, .mov (.tmp 0)⟩,
    ⟨(some 61), none, .mov (.tmp 1)⟩,
    ⟨(some 62), none, .callF 10 [.tmp 60, .tmp 61]⟩,
    ⟨(some 59), none, .mov (.tmp 62)⟩,
    ⟨(some 63), none, .extract 0 (.tmp 59)⟩,
    ⟨(some 64), none, .extract 1 (.tmp 59)⟩,
    ⟨(some 12), none, .mov (.tmp 63)⟩,
    ⟨(some 13), none, .mov (.tmp 64)⟩]

def f5r16 : List AInstr := [
    ⟨(some 65), none, .mov (.tmp 7)⟩,
    ⟨(some 66), none, .mov (.tmp 5)⟩,
    ⟨(some 67), none, .ibin .sub (.tmp 66) (.const (.int .i64 1))⟩,
    ⟨(some 68), none, .minmax true [.tmp 67, .const (.int .i64 0)]⟩,
    ⟨(some 69), none, .mov (.tmp 9)⟩,
    ⟨(some 70), none, .ibin .add (.tmp 68) (.tmp 69)⟩,
    ⟨(some 71), none, .ibin .eql (.tmp 65) (.tmp 70)⟩,
    ⟨(some 72), none, .mov (.tmp 71)⟩,
    ⟨(some 73), (some (72, true)), .mov (.tmp 13)⟩,
    ⟨(some 74), (some (72, true)), .ibin .eql (.tmp 73) (.const (.int .i64 0))⟩,
    ⟨(some 75), none, .pick (.tmp 72) (.tmp 74) (.const (.bool false))⟩,
    ⟨(some 76), none, .mov (.tmp 75)⟩,
    ⟨(some 77), (some (76, true)), .mov (.tmp 12)⟩,
    ⟨(some 78), (some (76, true)), .ibin .gtr (.tmp 77) (.const (.int .i64 0))⟩,
    ⟨(some 79), (some (76, true)), .mov (.tmp 5)⟩,
    ⟨(some 80), (some (76, true)), .ibin .gtr (.tmp 79) (.const (.int .i64 0))⟩,
    ⟨(some 81), (some (76, true)), .eqB false (.tmp 78) (.tmp 80)⟩,
    ⟨(some 82), none, .pick (.tmp 76) (.tmp 81) (.const (.bool false))⟩,
    ⟨(some 4), none, .mov (.tmp 82)⟩]

def f5b : ACode := (.seq (.ops f5r0)
  (.keep [0, 1] (.seq (.seq (.ops f5r1)
  (.keep [0, 1, 15] (.cond (.tmp 15) (.keep [] (.seq (.ops f5r2)
  (.keep [4] .ret))) .skip)))
  (.keep [0, 1] (.seq (.ops f5r3)
  (.keep [0, 1, 5, 6] (.seq (.ops f5r4)
  (.keep [0, 1, 5, 6, 7, 8] (.seq (.seq (.ops f5r5)
  (.keep [0, 1, 5, 7, 42] (.cond (.tmp 42) (.keep [] (.seq (.ops f5r6)
  (.keep [4] .ret))) .skip)))
  (.keep [0, 1, 5, 7] (.seq (.ops f5r7)
  (.keep [0, 1, 5, 7, 9] (.seq (.seq (.ops f5r8)
  (.keep [0, 1, 5, 7, 9, 43, 44, 45] (.block 0 (.loop f5l0))))
  (.keep [0, 1, 5, 7, 9] (.seq (.ops f5r15)
  (.keep [5, 7, 9, 12, 13] (.seq (.ops f5r16)
  (.keep [4] .ret))))))))))))))))))

def f5 : AFn := ⟨83, [.tmp 4], f5b⟩

theorem f5_ok : compFn Try.prog 5 = some f5.strip := by kernel_rfl

/- function 6: weirhouse/weirhousekeep.LindleyMore; parameters 3; operations that are not compiled: 0 -/
def f6r0 : List AInstr := [
    ⟨(some 6), none, .mov (.const (.bool false))⟩]

def f6r1 : List AInstr := [
    ⟨(some 16), none, .callF 7 []⟩,
    ⟨(some 17), none, .un .not (.tmp 16)⟩]

def f6r2 : List AInstr := [
    ⟨(some 6), none, .mov (.const (.bool false))⟩]

def f6r3 : List AInstr := [
    ⟨(some 18), none, .mov (.tmp 1)⟩,
    ⟨(some 19), none, .ibin .lss (.tmp 18) (.const (.int .i64 0))⟩,
    ⟨(some 20), none, .mov (.tmp 19)⟩,
    ⟨(some 21), (some (20, false)), .mov (.tmp 1)⟩,
    ⟨(some 22), (some (20, false)), .mov (.tmp 0)⟩,
    ⟨(some 23), (some (20, false)), .len (.tmp 22)⟩,
    ⟨(some 24), (some (20, false)), .ibin .geq (.tmp 21) (.tmp 23)⟩,
    ⟨(some 25), none, .pick (.tmp 20) (.const (.bool true)) (.tmp 24)⟩,
    ⟨(some 26), none, .mov (.tmp 25)⟩,
    ⟨(some 27), (some (26, false)), .mov (.tmp 2)⟩,
    ⟨(some 28), (some (26, false)), .ibin .lss (.tmp 27) (.const (.int .i64 0))⟩,
    ⟨(some 29), none, .pick (.tmp 26) (.const (.bool true)) (.tmp 28)⟩,
    ⟨(some 30), none, .mov (.tmp 29)⟩,
    ⟨(some 31), (some (30, false)), .mov (.tmp 2)⟩,
    ⟨(some 32), (some (30, false)), .ibin .gtr (.tmp 31) (.const (.int .i64 1000))⟩,
    ⟨(some 33), none, .pick (.tmp 30) (.const (.bool true)) (.tmp 32)⟩]

def f6r4 : List AInstr := [
    ⟨(some 6), none, .mov (.const (.bool true))⟩]

def f6r5 : List AInstr := [
    ⟨(some 34), none, .mov (.tmp 0)⟩,
    ⟨(some 35), none, .callF 11 [.tmp 34]⟩,
    ⟨(some 36), none, .mov (.tmp 0)⟩,
    ⟨(some 37), none, .callF 11 [.tmp 36]⟩,
    ⟨(some 7), none, .mov (.tmp 35)⟩,
    ⟨(some 8), none, .mov (.tmp 37)⟩]

def f6r6 : List AInstr := [
    ⟨(some 38), none, .mov (.tmp 7)⟩,
    ⟨(some 39), none, .mov (.tmp 1)⟩,
    ⟨(some 40), none, .indexAddr 2 (.tmp 38) (.tmp 39)⟩,
    ⟨(some 41), none, .fieldAddr 1 (.tmp 40)⟩,
    ⟨(some 42), none, .load none (.tmp 41)⟩,
    ⟨(some 43), none, .mov (.tmp 2)⟩,
    ⟨(some 44), none, .ibin .add (.tmp 42) (.tmp 43)⟩,
    ⟨(some 45), none, .indexAddr 2 (.tmp 38) (.tmp 39)⟩,
    ⟨(some 46), none, .fieldAddr 1 (.tmp 45)⟩,
    ⟨none, none, .store 1 (.tmp 46) (.tmp 44)⟩]

def f6r7 : List AInstr := [
    ⟨(some 47), none, .mov (.tmp 8)⟩,
    ⟨(some 48), none, .mov (.tmp 0)⟩,
    ⟨(some 49), none, .len (.tmp 48)⟩,
    ⟨(some 50), none, .ibin .sub (.tmp 49) (.const (.int .i64 1))⟩,
    ⟨(some 51), none, .indexAddr 2 (.tmp 47) (.tmp 50)⟩,
    ⟨(some 52), none, .fieldAddr 0 (.tmp 51)⟩,
    ⟨(some 53), none, .load none (.tmp 52)⟩,
    ⟨(some 54), none, .mov (.tmp 2)⟩,
    ⟨(some 55), none, .ibin .add (.tmp 53) (.tmp 54)⟩,
    ⟨(some 56), none, .indexAddr 2 (.tmp 47) (.tmp 50)⟩,
    ⟨(some 57), none, .fieldAddr 0 (.tmp 56)⟩,
    ⟨none, none, .store 1 (.tmp 57) (.tmp 55)⟩]

def f6r8 : List AInstr := [
    ⟨(some 59), none, .mov (.tmp 0)⟩,
    ⟨(some 60), none, .callF 8 [.tmp 59]⟩,
    ⟨(some 58), none, .mov (.tmp 60)⟩,
    ⟨(some 61), none, .extract 0 (.tmp 58)⟩,
    ⟨(some 62), none, .extract 1 (.tmp 58)⟩,
    ⟨(some 9), none, .mov (.tmp 61)⟩,
    ⟨(some 10), none, .mov (.tmp 62)⟩]

def f6r9 : List AInstr := [
    ⟨(some 64), none, .mov (.tmp 7)⟩,
    ⟨(some 65), none, .callF 8 [.tmp 64]⟩,
    ⟨(some 63), none, .mov (.tmp 65)⟩,
    ⟨(some 66), none, .extract 0 (.tmp 63)⟩,
    ⟨(some 67), none, .extract 1 (.tmp 63)⟩,
    ⟨(some 11), none, .mov (.tmp 66)⟩,
    ⟨(some 12), none, .mov (.tmp 67)⟩]

def f6r10 : List AInstr := [
    ⟨(some 69), none, .mov (.tmp 8)⟩,
    ⟨(some 70), none, .callF 8 [.tmp 69]⟩,
    ⟨(some 68), none, .mov (.tmp 70)⟩,
    ⟨(some 71), none, .extract 0 (.tmp 68)⟩,
    ⟨(some 72), none, .extract 1 (.tmp 68)⟩,
    ⟨(some 13), none, .mov (.tmp 71)⟩,
    ⟨(some 14), none, .mov (.tmp 72)⟩]

def f6r11 : List AInstr := [
    ⟨(some 73), none, .mov (.tmp 10)⟩,
    ⟨(some 74), none, .ibin .neq (.tmp 73) (.const (.int .i64 0))⟩,
    ⟨(some 75), none, .mov (.tmp 74)⟩,
    ⟨(some 76), (some (75, false)), .mov (.tmp 9)⟩,
    ⟨(some 77), (some (75, false)), .len (.tmp 76)⟩,
    ⟨(some 78), (some (75, false)), .mov (.tmp 0)⟩,
    ⟨(some 79), (some (75, false)), .len (.tmp 78)⟩,
    ⟨(some 80), (some (75, false)), .ibin .neq (.tmp 77) (.tmp 79)⟩,
    ⟨(some 81), none, .pick (.tmp 75) (.const (.bool true)) (.tmp 80)⟩]

def f6r12 : List AInstr := [
    ⟨(some 82), none, .mov (.tmp 10)⟩,
    ⟨(some 83), none, .ibin .neq (.tmp 82) (.const (.int .i64 0))⟩,
    ⟨(some 6), none, .mov (.tmp 83)⟩]

def f6r13 : List AInstr := [
    ⟨(some 84), none, .mov (.tmp 12)⟩,
    ⟨(some 85), none, .ibin .eql (.tmp 84) (.const (.int .i64 0))⟩]

def f6r14 : List AInstr := [
    ⟨(some 86), none, .mov (.tmp 9)⟩,
    ⟨(some 87), none, .len (.tmp 86)⟩,
    ⟨(some 88), none, .mov (.const (.int .i64 0))⟩]

def f6r15 : List AInstr := [
    ⟨(some 89), none, .ibin .lss (.tmp 88) (.tmp 87)⟩]

def f6r16 : List AInstr := [
    ⟨(some 90), none, .mov (.tmp 88)⟩,
    ⟨(some 15), none, .mov (.tmp 90)⟩]

def f6r17 : List AInstr := [
    ⟨(some 91), none, .mov (.tmp 15)⟩,
    ⟨(some 92), none, .mov (.tmp 11)⟩,
    ⟨(some 93), none, .len (.tmp 92)⟩,
    ⟨(some 94), none, .ibin .geq (.tmp 91) (.tmp 93)⟩,
    ⟨(some 95), none, .mov (.tmp 94)⟩,
    ⟨(some 96), (some (95, false)), .mov (.tmp 11)⟩,
    ⟨(some 97), (some (95, false)), .mov (.tmp 15)⟩,
    ⟨(some 98), (some (95, false)), .indexAddr 1 (.tmp 96) (.tmp 97)⟩,
    ⟨(some 99), (some (95, false)), .load none (.tmp 98)⟩,
    ⟨(some 100), (some (95, false)), .mov (.tmp 9)⟩,
    ⟨(some 101), (some (95, false)), .mov (.tmp 15)⟩,
    ⟨(some 102), (some (95, false)), .indexAddr 1 (.tmp 100) (.tmp 101)⟩,
    ⟨(some 103), (some (95, false)), .load none (.tmp 102)⟩,
    ⟨(some 104), (some (95, false)), .ibin .lss (.tmp 99) (.tmp 103)⟩,
    ⟨(some 105), none, .pick (.tmp 95) (.const (.bool true)) (.tmp 104)⟩,
    ⟨(some 106), none, .mov (.tmp 105)⟩,
    ⟨(some 107), (some (106, false)), .mov (.tmp 15)⟩,
    ⟨(some 108), (some (106, false)), .mov (.tmp 1)⟩,
    ⟨(some 109), (some (106, false)), .ibin .leq (.tmp 107) (.tmp 108)⟩,
    ⟨(some 110), (some (106, false)), .mov (.tmp 109)⟩,
    ⟨(some 111), (some (110, true)), .mov (.tmp 11)⟩,
    ⟨(some 112), (some (110, true)), .mov (.tmp 15)⟩,
    ⟨(some 113), (some (110, true)), .indexAddr 1 (.tmp 111) (.tmp 112)⟩,
    ⟨(some 114), (some (110, true)), .load none (.tmp 113)⟩,
    ⟨(some 115), (some (110, true)), .mov (.tmp 9)⟩,
    ⟨(some 116), (some (110, true)), .mov (.tmp 15)⟩,
    ⟨(some 117), (some (110, true)), .indexAddr 1 (.tmp 115) (.tmp 116)⟩,
    ⟨(some 118), (some (110, true)), .load none (.tmp 117)⟩,
    ⟨(some 119), (some (110, true)), .ibin .neq (.tmp 114) (.tmp 118)⟩,
    ⟨(some 120), (some (106, false)), .pick (.tmp 110) (.tmp 119) (.const (.bool false))⟩,
    ⟨(some 121), none, .pick (.tmp 106) (.const (.bool true)) (.tmp 120)⟩]

def f6r18 : List AInstr := [
    ⟨(some 6), none, .mov (.const (.bool false))⟩]

def f6r19 : List AInstr := [
    ⟨(some 122), none, .ibin .add (.tmp 88) (.const (.int .i64 1))⟩,
    ⟨(some 88), none, .mov (.tmp 122)⟩]

/-- live: [1, 2, 9, 11, 13, 14, 87, 88] -/
def f6l0 : ACode := (.seq (.ops f6r15)
  (.keep [1, 2, 9, 11, 13, 14, 87, 88, 89] (.seq (.cond (.tmp 89) .skip (.exit 0))
  (.keep [1, 2, 9, 11, 13, 14, 87, 88] (.seq (.block 1 (.seq (.ops f6r16)
  (.keep [1, 2, 9, 11, 13, 14, 15, 87, 88] (.seq (.draw f6r17 [(0, 0, false), (0, 0, false), (0, 0, false), (0, 0, false), (0, 0, false), (0, 0, false), (0, 0, false), (0, 0, false), (0, 0, false), (0, 0, false), (0, 0, false), (0, 0, false), (0, 0, false), (0, 0, false), (0, 0, false), (0, 0, false), (0, 0, false), (0, 0, false), (0, 0, false), (0, 0, false), (0, 0, false), (0, 0, false), (0, 0, false), (0, 0, false), (0, 0, false), (0, 0, false), (0, 0, false), (0, 0, false), (0, 0, false), (0, 0, false), (0, 0, false)])
  (.keep [1, 2, 9, 11, 13, 14, 87, 88, 121] (.cond (.tmp 121) (.keep [] (.seq (.ops f6r18)
  (.keep [6] .ret))) .skip))))))
  (.keep [1, 2, 9, 11, 13, 14, 87, 88] (.ops f6r19)))))))

def f6r21 : List AInstr := [
    ⟨(some 123), none, .mov (.tmp 14)⟩,
    ⟨(some 124), none, .ibin .neq (.tmp 123) (.const (.int .i64 0))⟩,
    ⟨(some 125), none, .mov (.tmp 124)⟩,
    ⟨(some 126), (some (125, false)), .mov (.tmp 13)⟩,
    ⟨(some 127), (some (125, false)), .len (.tmp 126)⟩,
    ⟨(some 128), (some (125, false)), .mov (.tmp 9)⟩,
    ⟨(some 129), (some (125, false)), .len (.tmp 128)⟩,
    ⟨(some 130), (some (125, false)), .ibin .eql (.tmp 127) (.tmp 129)⟩,
    ⟨(some 131), (some (125, false)), .mov (.tmp 130)⟩,
    ⟨(some 132), (some (131, true)), .mov (.tmp 13)⟩,
    ⟨(some 133), (some (131, true)), .mov (.tmp 13)⟩,
    ⟨(some 134), (some (131, true)), .len (.tmp 133)⟩,
    ⟨(some 135), (some (131, true)), .ibin .sub (.tmp 134) (.const (.int .i64 1))⟩,
    ⟨(some 136), (some (131, true)), .indexAddr 1 (.tmp 132) (.tmp 135)⟩,
    ⟨(some 137), (some (131, true)), .load none (.tmp 136)⟩,
    ⟨(some 138), (some (131, true)), .mov (.tmp 9)⟩,
    ⟨(some 139), (some (131, true)), .mov (.tmp 9)⟩,
    ⟨(some 140), (some (131, true)), .len (.tmp 139)⟩,
    ⟨(some 141), (some (131, true)), .ibin .sub (.tmp 140) (.const (.int .i64 1))⟩,
    ⟨(some 142), (some (131, true)), .indexAddr 1 (.tmp 138) (.tmp 141)⟩,
    ⟨(some 143), (some (131, true)), .load none (.tmp 142)⟩,
    ⟨(some 144), (some (131, true)), .ibin .leq (.tmp 137) (.tmp 143)⟩,
    ⟨(some 145), (some (125, false)), .pick (.tmp 131) (.tmp 144) (.const (.bool false))⟩,
    ⟨(some 146), (some (125, false)), .mov (.tmp 145)⟩,
    ⟨(some 147), (some (146, true)), .mov (.tmp 9)⟩,
    ⟨(some 148), (some (146, true)), .mov (.tmp 9)⟩,
    ⟨(some 149), (some (146, true)), .len (.tmp 148)⟩,
    ⟨(some 150), (some (146, true)), .ibin .sub (.tmp 149) (.const (.int .i64 1))⟩,
    ⟨(some 151), (some (146, true)), .indexAddr 1 (.tmp 147) (.tmp 150)⟩,
    ⟨(some 152), (some (146, true)), .load none (.tmp 151)⟩,
    ⟨(some 153), (some (146, true)), .mov (.tmp 13)⟩,
    ⟨(some 154), (some (146, true)), .mov (.tmp 13)⟩,
    ⟨(some 155), (some (146, true)), .len (.tmp 154)⟩,
    ⟨(some 156), (some (146, true)), .ibin .sub (.tmp 155) (.const (.int .i64 1))⟩,
    ⟨(some 157), (some (146, true)), .indexAddr 1 (.tmp 153) (.tmp 156)⟩,
    ⟨(some 158), (some (146, true)), .load none (.tmp 157)⟩,
    ⟨(some 159), (some (146, true)), .ibin .sub (.tmp 152) (.tmp 158)⟩,
    ⟨(some 160), (some (146, true)), .mov (.tmp 2)⟩,
    ⟨(some 161), (some (146, true)), .ibin .leq (.tmp 159) (.tmp 160)⟩,
    ⟨(some 162), (some (125, false)), .pick (.tmp 146) (.tmp 161) (.const (.bool false))⟩,
    ⟨(some 163), none, .pick (.tmp 125) (.const (.bool true)) (.tmp 162)⟩,
    ⟨(some 6), none, .mov (.tmp 163)⟩]

def f6b : ACode := (.seq (.ops f6r0)
  (.keep [0, 1, 2] (.seq (.seq (.ops f6r1)
  (.keep [0, 1, 2, 17] (.cond (.tmp 17) (.keep [] (.seq (.ops f6r2)
  (.keep [6] .ret))) .skip)))
  (.keep [0, 1, 2] (.seq (.seq (.ops f6r3)
  (.keep [0, 1, 2, 33] (.cond (.tmp 33) (.keep [] (.seq (.ops f6r4)
  (.keep [6] .ret))) .skip)))
  (.keep [0, 1, 2] (.seq (.ops f6r5)
  (.keep [0, 1, 2, 7, 8] (.seq (.ops f6r6)
  (.keep [0, 1, 2, 7, 8] (.seq (.ops f6r7)
  (.keep [0, 1, 2, 7, 8] (.seq (.ops f6r8)
  (.keep [0, 1, 2, 7, 8, 9, 10] (.seq (.ops f6r9)
  (.keep [0, 1, 2, 8, 9, 10, 11, 12] (.seq (.ops f6r10)
  (.keep [0, 1, 2, 9, 10, 11, 12, 13, 14] (.seq (.seq (.ops f6r11)
  (.keep [1, 2, 9, 10, 11, 12, 13, 14, 81] (.cond (.tmp 81) (.keep [10] (.seq (.ops f6r12)
  (.keep [6] .ret))) .skip)))
  (.keep [1, 2, 9, 11, 12, 13, 14] (.seq (.seq (.ops f6r13)
  (.keep [1, 2, 9, 11, 13, 14, 85] (.cond (.tmp 85) (.keep [1, 2, 9, 11, 13, 14] (.seq (.ops f6r14)
  (.keep [1, 2, 9, 11, 13, 14, 87, 88] (.block 0 (.loop f6l0))))) .skip)))
  (.keep [2, 9, 13, 14] (.seq (.draw f6r21 [(0, 0, false), (0, 0, false), (0, 0, false), (0, 0, false), (0, 0, false), (0, 0, false), (0, 0, false), (0, 0, false), (0, 0, false), (0, 0, false), (0, 0, false), (0, 0, false), (0, 0, false), (0, 0, false), (0, 0, false), (0, 0, false), (0, 0, false), (0, 0, false), (0, 0, false), (0, 0, false), (0, 0, false), (0, 0, false), (0, 0, false), (0, 0, false), (0, 0, false), (0, 0, false), (0, 0, false), (0, 0, false), (0, 0, false), (0, 0, false), (0, 0, false), (0, 0, false), (0, 0, false), (0, 0, false), (0, 0, false), (0, 0, false), (0, 0, false), (0, 0, false), (0, 0, false), (0, 0, false), (0, 0, false), (0, 0, false)])
  (.keep [6] .ret))))))))))))))))))))))))

def f6 : AFn := ⟨164, [.tmp 6], f6b⟩

theorem f6_ok : compFn Try.prog 6 = some f6.strip := by kernel_rfl

/- function 7: weirhouse/weirhousekeep.alive24; parameters 0; operations that are not compiled: 0 -/
def f7r0 : List AInstr := [
    ⟨(some 0), none, .mov (.const (.bool false))⟩]

def f7r1 : List AInstr := [
    ⟨(some 8), none, .build [.int .i64 0, .int .i64 0] [(0, 1, (.const (.int .i64 0))), (1, 1, (.const (.int .i64 5)))]⟩,
    ⟨(some 9), none, .build [.int .i64 0, .int .i64 0] [(0, 1, (.const (.int .i64 2))), (1, 1, (.const (.int .i64 4)))]⟩,
    ⟨(some 10), none, .build [.int .i64 0, .int .i64 0] [(0, 1, (.const (.int .i64 3))), (1, 1, (.const (.int .i64 1)))]⟩,
    ⟨(some 11), none, .build [.int .i64 0, .int .i64 0] [(0, 1, (.const (.int .i64 20))), (1, 1, (.const (.int .i64 2)))]⟩,
    ⟨(some 12), none, .buildSlice 2 4 [.int .i64 0, .int .i64 0, .int .i64 0, .int .i64 0, .int .i64 0, .int .i64 0, .int .i64 0, .int .i64 0] [(0, 2, (.tmp 8)), (2, 2, (.tmp 9)), (4, 2, (.tmp 10)), (6, 2, (.tmp 11))]⟩,
    ⟨(some 1), none, .mov (.tmp 12)⟩]

def f7r2 : List AInstr := [
    ⟨(some 14), none, .mov (.tmp 1)⟩,
    ⟨(some 15), none, .callF 8 [.tmp 14]⟩,
    ⟨(some 13), none, .mov (.tmp 15)⟩,
    ⟨(some 16), none, .extract 0 (.tmp 13)⟩,
    ⟨(some 17), none, .extract 1 (.tmp 13)⟩,
    ⟨(some 2), none, .mov (.tmp 16)⟩,
    ⟨(some 3), none, .mov (.tmp 17)⟩]

def f7r3 : List AInstr := [
    ⟨(some 19), none, .mov (.tmp 1)⟩,
    ⟨(some 20), none, .callF 10 [.tmp 19, .const (.int .i64 4)]⟩,
    ⟨(some 18), none, .mov (.tmp 20)⟩,
    ⟨(some 21), none, .extract 0 (.tmp 18)⟩,
    ⟨(some 22), none, .extract 1 (.tmp 18)⟩,
    ⟨(some 4), none, .mov (.tmp 21)⟩,
    ⟨(some 5), none, .mov (.tmp 22)⟩]

def f7r4 : List AInstr := [
    ⟨(some 24), none, .mov (.tmp 1)⟩,
    ⟨(some 25), none, .callF 9 [.tmp 24, .const (.int .i64 4)]⟩,
    ⟨(some 23), none, .mov (.tmp 25)⟩,
    ⟨(some 26), none, .extract 0 (.tmp 23)⟩,
    ⟨(some 27), none, .extract 1 (.tmp 23)⟩,
    ⟨(some 6), none, .mov (.tmp 26)⟩,
    ⟨(some 7), none, .mov (.tmp 27)⟩]

def f7r5 : List AInstr := [
    ⟨(some 28), none, .mov (.tmp 3)⟩,
    ⟨(some 29), none, .ibin .eql (.tmp 28) (.const (.int .i64 0))⟩,
    ⟨(some 30), none, .mov (.tmp 29)⟩,
    ⟨(some 31), (some (30, true)), .mov (.tmp 5)⟩,
    ⟨(some 32), (some (30, true)), .ibin .eql (.tmp 31) (.const (.int .i64 0))⟩,
    ⟨(some 33), none, .pick (.tmp 30) (.tmp 32) (.const (.bool false))⟩,
    ⟨(some 34), none, .mov (.tmp 33)⟩,
    ⟨(some 35), (some (34, true)), .mov (.tmp 7)⟩,
    ⟨(some 36), (some (34, true)), .ibin .eql (.tmp 35) (.const (.int .i64 0))⟩,
    ⟨(some 37), none, .pick (.tmp 34) (.tmp 36) (.const (.bool false))⟩,
    ⟨(some 38), none, .mov (.tmp 37)⟩,
    ⟨(some 39), (some (38, true)), .mov (.tmp 2)⟩,
    ⟨(some 40), (some (38, true)), .buildSlice 1 4 [.int .i64 0, .int .i64 0, .int .i64 0, .int .i64 0] [(0, 1, (.const (.int .i64 0))), (1, 1, (.const (.int .i64 3))), (2, 1, (.const (.int .i64 6))), (3, 1, (.const (.int .i64 0)))]⟩,
    ⟨(some 41), (some (38, true)), .callF 12 [.tmp 39, .tmp 40]⟩,
    ⟨(some 42), none, .pick (.tmp 38) (.tmp 41) (.const (.bool false))⟩,
    ⟨(some 43), none, .mov (.tmp 42)⟩,
    ⟨(some 44), (some (43, true)), .mov (.tmp 4)⟩,
    ⟨(some 45), (some (43, true)), .ibin .eql (.tmp 44) (.const (.int .i64 3))⟩,
    ⟨(some 46), none, .pick (.tmp 43) (.tmp 45) (.const (.bool false))⟩,
    ⟨(some 47), none, .mov (.tmp 46)⟩,
    ⟨(some 48), (some (47, true)), .mov (.tmp 6)⟩,
    ⟨(some 49), (some (47, true)), .ibin .eql (.tmp 48) (.const (.int .i64 6))⟩,
    ⟨(some 50), none, .pick (.tmp 47) (.tmp 49) (.const (.bool false))⟩,
    ⟨(some 0), none, .mov (.tmp 50)⟩]

def f7b : ACode := (.seq (.ops f7r0)
  (.keep [] (.seq (.ops f7r1)
  (.keep [1] (.seq (.ops f7r2)
  (.keep [1, 2, 3] (.seq (.ops f7r3)
  (.keep [1, 2, 3, 4, 5] (.seq (.ops f7r4)
  (.keep [2, 3, 4, 5, 6, 7] (.seq (.ops f7r5)
  (.keep [0] .ret))))))))))))

def f7 : AFn := ⟨51, [.tmp 0], f7b⟩

theorem f7_ok : compFn Try.prog 7 = some f7.strip := by kernel_rfl

/- function 8: weirhouse/lindley.Waits; parameters 1; operations that are not compiled: 0 -/
def f8r0 : List AInstr := [
    ⟨(some 2), none, .mov (.const (.slice none 0 0))⟩,
    ⟨(some 3), none, .mov (.const (.int .i64 0))⟩]

def f8r1 : List AInstr := [
    ⟨(some 10), none, .mov (.tmp 0)⟩,
    ⟨(some 11), none, .callF 13 [.tmp 10]⟩,
    ⟨(some 4), none, .mov (.tmp 11)⟩]

def f8r2 : List AInstr := [
    ⟨(some 12), none, .mov (.tmp 4)⟩,
    ⟨(some 13), none, .ibin .neq (.tmp 12) (.const (.int .i64 0))⟩]

def f8r3 : List AInstr := [
    ⟨(some 14), none, .mov (.tmp 4)⟩,
    ⟨(some 2), none, .mov (.const (.slice none 0 0))⟩,
    ⟨(some 3), none, .mov (.tmp 14)⟩]

def f8r4 : List AInstr := [
    ⟨(some 5), none, .mov (.const (.slice none 0 0))⟩]

def f8r5 : List AInstr := [
    ⟨(some 6), none, .mov (.const (.int .i64 0))⟩]

def f8r6 : List AInstr := [
    ⟨(some 15), none, .mov (.tmp 0)⟩,
    ⟨(some 16), none, .len (.tmp 15)⟩,
    ⟨(some 17), none, .mov (.const (.int .i64 0))⟩]

def f8r7 : List AInstr := [
    ⟨(some 18), none, .ibin .lss (.tmp 17) (.tmp 16)⟩]

def f8r8 : List AInstr := [
    ⟨(some 19), none, .indexAddr 2 (.tmp 15) (.tmp 17)⟩,
    ⟨(some 20), none, .load (some 2) (.tmp 19)⟩,
    ⟨(some 8), none, .alloc [.int .i64 0, .int .i64 0]⟩,
    ⟨none, none, .store 2 (.tmp 8) (.tmp 20)⟩]

def f8r9 : List AInstr := [
    ⟨(some 21), none, .mov (.tmp 6)⟩,
    ⟨(some 22), none, .fieldAddr 0 (.tmp 8)⟩,
    ⟨(some 23), none, .load none (.tmp 22)⟩,
    ⟨(some 24), none, .minmax true [.tmp 21, .tmp 23]⟩,
    ⟨(some 9), none, .mov (.tmp 24)⟩]

def f8r10 : List AInstr := [
    ⟨(some 25), none, .mov (.tmp 5)⟩,
    ⟨(some 26), none, .mov (.tmp 9)⟩,
    ⟨(some 27), none, .fieldAddr 0 (.tmp 8)⟩,
    ⟨(some 28), none, .load none (.tmp 27)⟩,
    ⟨(some 29), none, .ibin .sub (.tmp 26) (.tmp 28)⟩,
    ⟨(some 30), none, .buildSlice 1 1 [.int .i64 0] [(0, 1, (.tmp 29))]⟩,
    ⟨(some 31), none, .append 1 8 (.tmp 25) (.tmp 30)⟩,
    ⟨(some 5), none, .mov (.tmp 31)⟩]

def f8r11 : List AInstr := [
    ⟨(some 32), none, .mov (.tmp 9)⟩,
    ⟨(some 33), none, .fieldAddr 1 (.tmp 8)⟩,
    ⟨(some 34), none, .load none (.tmp 33)⟩,
    ⟨(some 35), none, .ibin .add (.tmp 32) (.tmp 34)⟩,
    ⟨(some 6), none, .mov (.tmp 35)⟩]

def f8r12 : List AInstr := [
    ⟨(some 36), none, .ibin .add (.tmp 17) (.const (.int .i64 1))⟩,
    ⟨(some 17), none, .mov (.tmp 36)⟩]

/-- live: [5, 6, 15, 16, 17] -/
def f8l0 : ACode := (.seq (.ops f8r7)
  (.keep [5, 6, 15, 16, 17, 18] (.seq (.cond (.tmp 18) .skip (.exit 0))
  (.keep [5, 6, 15, 16, 17] (.seq (.block 1 (.seq (.ops f8r8)
  (.keep [5, 6, 8, 15, 16, 17] (.seq (.ops f8r9)
  (.keep [5, 8, 9, 15, 16, 17] (.seq (.ops f8r10)
  (.keep [5, 8, 9, 15, 16, 17] (.ops f8r11))))))))
  (.keep [5, 6, 15, 16, 17] (.ops f8r12)))))))

def f8r14 : List AInstr := [
    ⟨(some 37), none, .mov (.tmp 5)⟩,
    ⟨(some 2), none, .mov (.tmp 37)⟩,
    ⟨(some 3), none, .mov (.const (.int .i64 0))⟩]

def f8b : ACode := (.seq (.ops f8r0)
  (.keep [0] (.seq (.seq (.ops f8r1)
  (.keep [0, 4] (.seq (.ops f8r2)
  (.keep [0, 4, 13] (.cond (.tmp 13) (.keep [4] (.seq (.ops f8r3)
  (.keep [2, 3] .ret))) .skip)))))
  (.keep [0] (.seq (.ops f8r4)
  (.keep [0, 5] (.seq (.ops f8r5)
  (.keep [0, 5, 6] (.seq (.seq (.ops f8r6)
  (.keep [5, 6, 15, 16, 17] (.block 0 (.loop f8l0))))
  (.keep [5] (.seq (.ops f8r14)
  (.keep [2, 3] .ret))))))))))))

def f8 : AFn := ⟨38, [.tmp 2, .tmp 3], f8b⟩

theorem f8_ok : compFn Try.prog 8 = some f8.strip := by kernel_rfl

/- function 9: weirhouse/lindley.Work; parameters 2; operations that are not compiled: 0 -/
def f9r0 : List AInstr := [
    ⟨(some 4), none, .mov (.const (.int .i64 0))⟩,
    ⟨(some 5), none, .mov (.const (.int .i64 0))⟩]

def f9r1 : List AInstr := [
    ⟨(some 11), none, .mov (.tmp 0)⟩,
    ⟨(some 12), none, .callF 13 [.tmp 11]⟩,
    ⟨(some 6), none, .mov (.tmp 12)⟩]

def f9r2 : List AInstr := [
    ⟨(some 13), none, .mov (.tmp 6)⟩,
    ⟨(some 14), none, .ibin .neq (.tmp 13) (.const (.int .i64 0))⟩]

def f9r3 : List AInstr := [
    ⟨(some 15), none, .mov (.tmp 6)⟩,
    ⟨(some 4), none, .mov (.const (.int .i64 0))⟩,
    ⟨(some 5), none, .mov (.tmp 15)⟩]

def f9r4 : List AInstr := [
    ⟨(some 7), none, .mov (.const (.int .i64 0))⟩,
    ⟨(some 8), none, .mov (.const (.int .i64 0))⟩]

def f9r5 : List AInstr := [
    ⟨(some 16), none, .mov (.tmp 0)⟩,
    ⟨(some 17), none, .len (.tmp 16)⟩,
    ⟨(some 18), none, .mov (.const (.int .i64 0))⟩]

def f9r6 : List AInstr := [
    ⟨(some 19), none, .ibin .lss (.tmp 18) (.tmp 17)⟩]

def f9r7 : List AInstr := [
    ⟨(some 20), none, .indexAddr 2 (.tmp 16) (.tmp 18)⟩,
    ⟨(some 21), none, .load (some 2) (.tmp 20)⟩,
    ⟨(some 10), none, .alloc [.int .i64 0, .int .i64 0]⟩,
    ⟨none, none, .store 2 (.tmp 10) (.tmp 21)⟩]

def f9r8 : List AInstr := [
    ⟨(some 22), none, .fieldAddr 0 (.tmp 10)⟩,
    ⟨(some 23), none, .load none (.tmp 22)⟩,
    ⟨(some 24), none, .mov (.tmp 1)⟩,
    ⟨(some 25), none, .ibin .gtr (.tmp 23) (.tmp 24)⟩]

def f9r9 : List AInstr := [
    ⟨(some 26), none, .mov (.tmp 7)⟩,
    ⟨(some 27), none, .fieldAddr 0 (.tmp 10)⟩,
    ⟨(some 28), none, .load none (.tmp 27)⟩,
    ⟨(some 29), none, .mov (.tmp 8)⟩,
    ⟨(some 30), none, .ibin .sub (.tmp 28) (.tmp 29)⟩,
    ⟨(some 31), none, .ibin .sub (.tmp 26) (.tmp 30)⟩,
    ⟨(some 32), none, .minmax true [.tmp 31, .const (.int .i64 0)]⟩,
    ⟨(some 33), none, .fieldAddr 1 (.tmp 10)⟩,
    ⟨(some 34), none, .load none (.tmp 33)⟩,
    ⟨(some 35), none, .ibin .add (.tmp 32) (.tmp 34)⟩,
    ⟨(some 7), none, .mov (.tmp 35)⟩]

def f9r10 : List AInstr := [
    ⟨(some 36), none, .fieldAddr 0 (.tmp 10)⟩,
    ⟨(some 37), none, .load none (.tmp 36)⟩,
    ⟨(some 8), none, .mov (.tmp 37)⟩]

def f9r11 : List AInstr := [
    ⟨(some 38), none, .ibin .add (.tmp 18) (.const (.int .i64 1))⟩,
    ⟨(some 18), none, .mov (.tmp 38)⟩]

/-- live: [1, 7, 8, 16, 17, 18] -/
def f9l0 : ACode := (.seq (.ops f9r6)
  (.keep [1, 7, 8, 16, 17, 18, 19] (.seq (.cond (.tmp 19) .skip (.exit 0))
  (.keep [1, 7, 8, 16, 17, 18] (.seq (.block 1 (.seq (.ops f9r7)
  (.keep [1, 7, 8, 10, 16, 17, 18] (.seq (.seq (.ops f9r8)
  (.keep [1, 7, 8, 10, 16, 17, 18, 25] (.cond (.tmp 25) (.exit 0) .skip)))
  (.keep [1, 7, 8, 10, 16, 17, 18] (.seq (.ops f9r9)
  (.keep [1, 7, 10, 16, 17, 18] (.ops f9r10))))))))
  (.keep [1, 7, 8, 16, 17, 18] (.ops f9r11)))))))

def f9r13 : List AInstr := [
    ⟨(some 39), none, .mov (.tmp 1)⟩,
    ⟨(some 40), none, .mov (.tmp 8)⟩,
    ⟨(some 41), none, .ibin .lss (.tmp 39) (.tmp 40)⟩]

def f9r14 : List AInstr := [
    ⟨(some 4), none, .mov (.const (.int .i64 0))⟩,
    ⟨(some 5), none, .mov (.const (.int .i64 0))⟩]

def f9r15 : List AInstr := [
    ⟨(some 42), none, .mov (.tmp 7)⟩,
    ⟨(some 43), none, .mov (.tmp 1)⟩,
    ⟨(some 44), none, .mov (.tmp 8)⟩,
    ⟨(some 45), none, .ibin .sub (.tmp 43) (.tmp 44)⟩,
    ⟨(some 46), none, .mov (.tmp 7)⟩,
    ⟨(some 47), none, .minmax false [.tmp 45, .tmp 46]⟩,
    ⟨(some 48), none, .ibin .sub (.tmp 42) (.tmp 47)⟩,
    ⟨(some 49), none, .minmax true [.tmp 48, .const (.int .i64 0)]⟩,
    ⟨(some 4), none, .mov (.tmp 49)⟩,
    ⟨(some 5), none, .mov (.const (.int .i64 0))⟩]

def f9b : ACode := (.seq (.ops f9r0)
  (.keep [0, 1] (.seq (.seq (.ops f9r1)
  (.keep [0, 1, 6] (.seq (.ops f9r2)
  (.keep [0, 1, 6, 14] (.cond (.tmp 14) (.keep [6] (.seq (.ops f9r3)
  (.keep [4, 5] .ret))) .skip)))))
  (.keep [0, 1] (.seq (.ops f9r4)
  (.keep [0, 1, 7, 8] (.seq (.seq (.ops f9r5)
  (.keep [1, 7, 8, 16, 17, 18] (.block 0 (.loop f9l0))))
  (.keep [1, 7, 8] (.seq (.seq (.ops f9r13)
  (.keep [1, 7, 8, 41] (.cond (.tmp 41) (.keep [] (.seq (.ops f9r14)
  (.keep [4, 5] .ret))) .skip)))
  (.keep [1, 7, 8] (.seq (.ops f9r15)
  (.keep [4, 5] .ret))))))))))))

def f9 : AFn := ⟨50, [.tmp 4, .tmp 5], f9b⟩

theorem f9_ok : compFn Try.prog 9 = some f9.strip := by kernel_rfl

/- function 10: weirhouse/lindley.There; parameters 2; operations that are not compiled: 0 -/
def f10r0 : List AInstr := [
    ⟨(some 4), none, .mov (.const (.int .i64 0))⟩,
    ⟨(some 5), none, .mov (.const (.int .i64 0))⟩]

def f10r1 : List AInstr := [
    ⟨(some 12), none, .mov (.tmp 0)⟩,
    ⟨(some 13), none, .callF 8 [.tmp 12]⟩,
    ⟨(some 11), none, .mov (.tmp 13)⟩,
    ⟨(some 14), none, .extract 0 (.tmp 11)⟩,
    ⟨(some 15), none, .extract 1 (.tmp 11)⟩,
    ⟨(some 6), none, .mov (.tmp 14)⟩,
    ⟨(some 7), none, .mov (.tmp 15)⟩]

def f10r2 : List AInstr := [
    ⟨(some 16), none, .mov (.tmp 7)⟩,
    ⟨(some 17), none, .ibin .neq (.tmp 16) (.const (.int .i64 0))⟩]

def f10r3 : List AInstr := [
    ⟨(some 18), none, .mov (.tmp 7)⟩,
    ⟨(some 4), none, .mov (.const (.int .i64 0))⟩,
    ⟨(some 5), none, .mov (.tmp 18)⟩]

def f10r4 : List AInstr := [
    ⟨(some 8), none, .mov (.const (.int .i64 0))⟩]

def f10r5 : List AInstr := [
    ⟨(some 19), none, .mov (.tmp 0)⟩,
    ⟨(some 20), none, .len (.tmp 19)⟩,
    ⟨(some 21), none, .mov (.const (.int .i64 0))⟩]

def f10r6 : List AInstr := [
    ⟨(some 22), none, .ibin .lss (.tmp 21) (.tmp 20)⟩]

def f10r7 : List AInstr := [
    ⟨(some 23), none, .mov (.tmp 21)⟩,
    ⟨(some 24), none, .indexAddr 2 (.tmp 19) (.tmp 21)⟩,
    ⟨(some 25), none, .load (some 2) (.tmp 24)⟩,
    ⟨(some 10), none, .alloc [.int .i64 0, .int .i64 0]⟩,
    ⟨(some 9), none, .mov (.tmp 23)⟩,
    ⟨none, none, .store 2 (.tmp 10) (.tmp 25)⟩]

def f10r8 : List AInstr := [
    ⟨(some 26), none, .fieldAddr 0 (.tmp 10)⟩,
    ⟨(some 27), none, .load none (.tmp 26)⟩,
    ⟨(some 28), none, .mov (.tmp 1)⟩,
    ⟨(some 29), none, .ibin .leq (.tmp 27) (.tmp 28)⟩,
    ⟨(some 30), none, .mov (.tmp 29)⟩,
    ⟨(some 31), (some (30, true)), .mov (.tmp 1)⟩,
    ⟨(some 32), (some (30, true)), .fieldAddr 0 (.tmp 10)⟩,
    ⟨(some 33), (some (30, true)), .load none (.tmp 32)⟩,
    ⟨(some 34), (some (30, true)), .mov (.tmp 6)⟩,
    ⟨(some 35), (some (30, true)), .mov (.tmp 9)⟩,
    ⟨(some 36), (some (30, true)), .indexAddr 1 (.tmp 34) (.tmp 35)⟩,
    ⟨(some 37), (some (30, true)), .load none (.tmp 36)⟩,
    ⟨(some 38), (some (30, true)), .ibin .add (.tmp 33) (.tmp 37)⟩,
    ⟨(some 39), (some (30, true)), .fieldAddr 1 (.tmp 10)⟩,
    ⟨(some 40), (some (30, true)), .load none (.tmp 39)⟩,
    ⟨(some 41), (some (30, true)), .ibin .add (.tmp 38) (.tmp 40)⟩,
    ⟨(some 42), (some (30, true)), .ibin .lss (.tmp 31) (.tmp 41)⟩,
    ⟨(some 43), none, .pick (.tmp 30) (.tmp 42) (.const (.bool false))⟩]

def f10r9 : List AInstr := [
    ⟨(some 44), none, .mov (.tmp 8)⟩,
    ⟨(some 45), none, .ibin .add (.tmp 44) (.const (.int .i64 1))⟩,
    ⟨(some 8), none, .mov (.tmp 45)⟩]

def f10r10 : List AInstr := [
    ⟨(some 46), none, .ibin .add (.tmp 21) (.const (.int .i64 1))⟩,
    ⟨(some 21), none, .mov (.tmp 46)⟩]

/-- live: [1, 6, 8, 19, 20, 21] -/
def f10l0 : ACode := (.seq (.ops f10r6)
  (.keep [1, 6, 8, 19, 20, 21, 22] (.seq (.cond (.tmp 22) .skip (.exit 0))
  (.keep [1, 6, 8, 19, 20, 21] (.seq (.block 1 (.seq (.ops f10r7)
  (.keep [1, 6, 8, 9, 10, 19, 20, 21] (.seq (.draw f10r8 [(0, 0, false), (0, 0, false), (0, 0, false), (0, 0, false), (0, 0, false), (0, 0, false), (0, 0, false), (0, 0, false), (0, 0, false), (0, 0, false), (0, 0, false), (0, 0, false), (0, 0, false), (0, 0, false), (0, 0, false), (0, 0, false), (0, 0, false), (0, 0, false)])
  (.keep [1, 6, 8, 19, 20, 21, 43] (.cond (.tmp 43) (.keep [1, 6, 8, 19, 20, 21] (.ops f10r9)) .skip))))))
  (.keep [1, 6, 8, 19, 20, 21] (.ops f10r10)))))))

def f10r12 : List AInstr := [
    ⟨(some 47), none, .mov (.tmp 8)⟩,
    ⟨(some 4), none, .mov (.tmp 47)⟩,
    ⟨(some 5), none, .mov (.const (.int .i64 0))⟩]

def f10b : ACode := (.seq (.ops f10r0)
  (.keep [0, 1] (.seq (.ops f10r1)
  (.keep [0, 1, 6, 7] (.seq (.seq (.ops f10r2)
  (.keep [0, 1, 6, 7, 17] (.cond (.tmp 17) (.keep [7] (.seq (.ops f10r3)
  (.keep [4, 5] .ret))) .skip)))
  (.keep [0, 1, 6] (.seq (.ops f10r4)
  (.keep [0, 1, 6, 8] (.seq (.seq (.ops f10r5)
  (.keep [1, 6, 8, 19, 20, 21] (.block 0 (.loop f10l0))))
  (.keep [8] (.seq (.ops f10r12)
  (.keep [4, 5] .ret))))))))))))

def f10 : AFn := ⟨48, [.tmp 4, .tmp 5], f10b⟩

theorem f10_ok : compFn Try.prog 10 = some f10.strip := by kernel_rfl

/- function 11: slices.Clone[[]weirhouse/api.Shot,weirhouse/api.Shot]; parameters 1; operations that are not compiled: 0 -/
def f11r0 : List AInstr := [
    ⟨(some 2), none, .mov (.const (.slice none 0 0))⟩]

def f11r1 : List AInstr := [
    ⟨(some 3), none, .mov (.tmp 0)⟩,
    ⟨(some 4), none, .eqS false (.tmp 3) (.const (.slice none 0 0))⟩]

def f11r2 : List AInstr := [
    ⟨(some 2), none, .mov (.const (.slice none 0 0))⟩]

def f11r3 : List AInstr := [
    ⟨(some 5), none, .buildSlice 2 0 [] []⟩,
    ⟨(some 6), none, .mov (.tmp 0)⟩,
    ⟨(some 7), none, .append 2 16 (.tmp 5) (.tmp 6)⟩,
    ⟨(some 2), none, .mov (.tmp 7)⟩]

def f11b : ACode := (.seq (.ops f11r0)
  (.keep [0] (.seq (.seq (.ops f11r1)
  (.keep [0, 4] (.cond (.tmp 4) (.keep [] (.seq (.ops f11r2)
  (.keep [2] .ret))) .skip)))
  (.keep [0] (.seq (.ops f11r3)
  (.keep [2] .ret))))))

def f11 : AFn := ⟨8, [.tmp 2], f11b⟩

theorem f11_ok : compFn Try.prog 11 = some f11.strip := by kernel_rfl

/- function 12: slices.Equal[[]int,int]; parameters 2; operations that are not compiled: 0 -/
def f12r0 : List AInstr := [
    ⟨(some 4), none, .mov (.const (.bool false))⟩]

def f12r1 : List AInstr := [
    ⟨(some 6), none, .mov (.tmp 0)⟩,
    ⟨(some 7), none, .len (.tmp 6)⟩,
    ⟨(some 8), none, .mov (.tmp 1)⟩,
    ⟨(some 9), none, .len (.tmp 8)⟩,
    ⟨(some 10), none, .ibin .neq (.tmp 7) (.tmp 9)⟩]

def f12r2 : List AInstr := [
    ⟨(some 4), none, .mov (.const (.bool false))⟩]

def f12r3 : List AInstr := [
    ⟨(some 11), none, .mov (.tmp 0)⟩,
    ⟨(some 12), none, .len (.tmp 11)⟩,
    ⟨(some 13), none, .mov (.const (.int .i64 0))⟩]

def f12r4 : List AInstr := [
    ⟨(some 14), none, .ibin .lss (.tmp 13) (.tmp 12)⟩]

def f12r5 : List AInstr := [
    ⟨(some 15), none, .mov (.tmp 13)⟩,
    ⟨(some 5), none, .mov (.tmp 15)⟩]

def f12r6 : List AInstr := [
    ⟨(some 16), none, .mov (.tmp 0)⟩,
    ⟨(some 17), none, .mov (.tmp 5)⟩,
    ⟨(some 18), none, .indexAddr 1 (.tmp 16) (.tmp 17)⟩,
    ⟨(some 19), none, .load none (.tmp 18)⟩,
    ⟨(some 20), none, .mov (.tmp 1)⟩,
    ⟨(some 21), none, .mov (.tmp 5)⟩,
    ⟨(some 22), none, .indexAddr 1 (.tmp 20) (.tmp 21)⟩,
    ⟨(some 23), none, .load none (.tmp 22)⟩,
    ⟨(some 24), none, .ibin .neq (.tmp 19) (.tmp 23)⟩]

def f12r7 : List AInstr := [
    ⟨(some 4), none, .mov (.const (.bool false))⟩]

def f12r8 : List AInstr := [
    ⟨(some 25), none, .ibin .add (.tmp 13) (.const (.int .i64 1))⟩,
    ⟨(some 13), none, .mov (.tmp 25)⟩]

/-- live: [0, 1, 12, 13] -/
def f12l0 : ACode := (.seq (.ops f12r4)
  (.keep [0, 1, 12, 13, 14] (.seq (.cond (.tmp 14) .skip (.exit 0))
  (.keep [0, 1, 12, 13] (.seq (.block 1 (.seq (.ops f12r5)
  (.keep [0, 1, 5, 12, 13] (.seq (.draw f12r6 [(0, 0, false), (0, 0, false), (0, 0, false), (0, 0, false), (0, 0, false), (0, 0, false), (0, 0, false), (0, 0, false), (0, 0, false)])
  (.keep [0, 1, 12, 13, 24] (.cond (.tmp 24) (.keep [] (.seq (.ops f12r7)
  (.keep [4] .ret))) .skip))))))
  (.keep [0, 1, 12, 13] (.ops f12r8)))))))

def f12r10 : List AInstr := [
    ⟨(some 4), none, .mov (.const (.bool true))⟩]

def f12b : ACode := (.seq (.ops f12r0)
  (.keep [0, 1] (.seq (.seq (.ops f12r1)
  (.keep [0, 1, 10] (.cond (.tmp 10) (.keep [] (.seq (.ops f12r2)
  (.keep [4] .ret))) .skip)))
  (.keep [0, 1] (.seq (.seq (.ops f12r3)
  (.keep [0, 1, 12, 13] (.block 0 (.loop f12l0))))
  (.keep [] (.seq (.ops f12r10)
  (.keep [4] .ret))))))))

def f12 : AFn := ⟨26, [.tmp 4], f12b⟩

theorem f12_ok : compFn Try.prog 12 = some f12.strip := by kernel_rfl

/- function 13: weirhouse/lindley.Wrong; parameters 1; operations that are not compiled: 0 -/
def f13r0 : List AInstr := [
    ⟨(some 2), none, .mov (.const (.int .i64 0))⟩]

def f13r1 : List AInstr := [
    ⟨(some 5), none, .mov (.tmp 0)⟩,
    ⟨(some 6), none, .len (.tmp 5)⟩,
    ⟨(some 7), none, .ibin .gtr (.tmp 6) (.const (.int .i64 400))⟩]

def f13r2 : List AInstr := [
    ⟨(some 2), none, .mov (.const (.int .i64 2))⟩]

def f13r3 : List AInstr := [
    ⟨(some 8), none, .mov (.tmp 0)⟩,
    ⟨(some 9), none, .len (.tmp 8)⟩,
    ⟨(some 10), none, .mov (.const (.int .i64 0))⟩]

def f13r4 : List AInstr := [
    ⟨(some 11), none, .ibin .lss (.tmp 10) (.tmp 9)⟩]

def f13r5 : List AInstr := [
    ⟨(some 12), none, .mov (.tmp 10)⟩,
    ⟨(some 13), none, .indexAddr 2 (.tmp 8) (.tmp 10)⟩,
    ⟨(some 14), none, .load (some 2) (.tmp 13)⟩,
    ⟨(some 4), none, .alloc [.int .i64 0, .int .i64 0]⟩,
    ⟨(some 3), none, .mov (.tmp 12)⟩,
    ⟨none, none, .store 2 (.tmp 4) (.tmp 14)⟩]

def f13r6 : List AInstr := [
    ⟨(some 15), none, .fieldAddr 0 (.tmp 4)⟩,
    ⟨(some 16), none, .load none (.tmp 15)⟩,
    ⟨(some 17), none, .ibin .lss (.tmp 16) (.const (.int .i64 0))⟩,
    ⟨(some 18), none, .mov (.tmp 17)⟩,
    ⟨(some 19), (some (18, false)), .fieldAddr 0 (.tmp 4)⟩,
    ⟨(some 20), (some (18, false)), .load none (.tmp 19)⟩,
    ⟨(some 21), (some (18, false)), .ibin .gtr (.tmp 20) (.const (.int .i64 1048576))⟩,
    ⟨(some 22), none, .pick (.tmp 18) (.const (.bool true)) (.tmp 21)⟩,
    ⟨(some 23), none, .mov (.tmp 22)⟩,
    ⟨(some 24), (some (23, false)), .fieldAddr 1 (.tmp 4)⟩,
    ⟨(some 25), (some (23, false)), .load none (.tmp 24)⟩,
    ⟨(some 26), (some (23, false)), .ibin .lss (.tmp 25) (.const (.int .i64 0))⟩,
    ⟨(some 27), none, .pick (.tmp 23) (.const (.bool true)) (.tmp 26)⟩,
    ⟨(some 28), none, .mov (.tmp 27)⟩,
    ⟨(some 29), (some (28, false)), .fieldAddr 1 (.tmp 4)⟩,
    ⟨(some 30), (some (28, false)), .load none (.tmp 29)⟩,
    ⟨(some 31), (some (28, false)), .ibin .gtr (.tmp 30) (.const (.int .i64 1048576))⟩,
    ⟨(some 32), none, .pick (.tmp 28) (.const (.bool true)) (.tmp 31)⟩]

def f13r7 : List AInstr := [
    ⟨(some 2), none, .mov (.const (.int .i64 2))⟩]

def f13r8 : List AInstr := [
    ⟨(some 33), none, .mov (.tmp 3)⟩,
    ⟨(some 34), none, .ibin .gtr (.tmp 33) (.const (.int .i64 0))⟩,
    ⟨(some 35), none, .mov (.tmp 34)⟩,
    ⟨(some 36), (some (35, true)), .fieldAddr 0 (.tmp 4)⟩,
    ⟨(some 37), (some (35, true)), .load none (.tmp 36)⟩,
    ⟨(some 38), (some (35, true)), .mov (.tmp 0)⟩,
    ⟨(some 39), (some (35, true)), .mov (.tmp 3)⟩,
    ⟨(some 40), (some (35, true)), .ibin .sub (.tmp 39) (.const (.int .i64 1))⟩,
    ⟨(some 41), (some (35, true)), .indexAddr 2 (.tmp 38) (.tmp 40)⟩,
    ⟨(some 42), (some (35, true)), .fieldAddr 0 (.tmp 41)⟩,
    ⟨(some 43), (some (35, true)), .load none (.tmp 42)⟩,
    ⟨(some 44), (some (35, true)), .ibin .lss (.tmp 37) (.tmp 43)⟩,
    ⟨(some 45), none, .pick (.tmp 35) (.tmp 44) (.const (.bool false))⟩]

def f13r9 : List AInstr := [
    ⟨(some 2), none, .mov (.const (.int .i64 1))⟩]

def f13r10 : List AInstr := [
    ⟨(some 46), none, .ibin .add (.tmp 10) (.const (.int .i64 1))⟩,
    ⟨(some 10), none, .mov (.tmp 46)⟩]

/-- live: [0, 8, 9, 10] -/
def f13l0 : ACode := (.seq (.ops f13r4)
  (.keep [0, 8, 9, 10, 11] (.seq (.cond (.tmp 11) .skip (.exit 0))
  (.keep [0, 8, 9, 10] (.seq (.block 1 (.seq (.ops f13r5)
  (.keep [0, 3, 4, 8, 9, 10] (.seq (.seq (.ops f13r6)
  (.keep [0, 3, 4, 8, 9, 10, 32] (.cond (.tmp 32) (.keep [] (.seq (.ops f13r7)
  (.keep [2] .ret))) .skip)))
  (.keep [0, 3, 4, 8, 9, 10] (.seq (.draw f13r8 [(0, 0, false), (0, 0, false), (0, 0, false), (0, 0, false), (0, 0, false), (0, 0, false), (0, 0, false), (0, 0, false), (0, 0, false), (0, 0, false), (0, 0, false), (0, 0, false), (0, 0, false)])
  (.keep [0, 8, 9, 10, 45] (.cond (.tmp 45) (.keep [] (.seq (.ops f13r9)
  (.keep [2] .ret))) .skip))))))))
  (.keep [0, 8, 9, 10] (.ops f13r10)))))))

def f13r12 : List AInstr := [
    ⟨(some 2), none, .mov (.const (.int .i64 0))⟩]

def f13b : ACode := (.seq (.ops f13r0)
  (.keep [0] (.seq (.seq (.ops f13r1)
  (.keep [0, 7] (.cond (.tmp 7) (.keep [] (.seq (.ops f13r2)
  (.keep [2] .ret))) .skip)))
  (.keep [0] (.seq (.seq (.ops f13r3)
  (.keep [0, 8, 9, 10] (.block 0 (.loop f13l0))))
  (.keep [] (.seq (.ops f13r12)
  (.keep [2] .ret))))))))

def f13 : AFn := ⟨47, [.tmp 2], f13b⟩

theorem f13_ok : compFn Try.prog 13 = some f13.strip := by kernel_rfl

end Go.Proofs.Ytdddoioecccfpaa
