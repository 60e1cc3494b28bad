/-
  The functions of this seat as abstract code. Printed by a program of this claim's writer.
-/
import Derived.Test.YthiigjcmaaojiaaChecked
import Derived.Test.YthiigjcmaaojiaaAmS
import Derived.KernelRfl
namespace Go.Proofs.Ythiigjcmaaojiaa
open Go Go.Am

/- function 3: weirhouse/weirhousekeep.BucketBound; parameters 4; operations that are not compiled: 0 -/
def f3r0 : List AInstr := [
    ⟨(some 8), none, .mov (.const (.bool false))⟩]

def f3r1 : List AInstr := [
    ⟨(some 16), none, .callF 7 []⟩,
    ⟨(some 17), none, .un .not (.tmp 16)⟩]

def f3r2 : List AInstr := [
    ⟨(some 8), none, .mov (.const (.bool false))⟩]

def f3r3 : List AInstr := [
    ⟨(some 19), none, .mov (.tmp 0)⟩,
    ⟨(some 20), none, .mov (.tmp 1)⟩,
    ⟨(some 21), none, .mov (.tmp 2)⟩,
    ⟨(some 22), none, .mov (.tmp 3)⟩,
    ⟨(some 23), none, .callF 8 [.tmp 19, .tmp 20, .tmp 21, .tmp 22]⟩,
    ⟨(some 18), none, .mov (.tmp 23)⟩,
    ⟨(some 24), none, .extract 0 (.tmp 18)⟩,
    ⟨(some 25), none, .extract 1 (.tmp 18)⟩,
    ⟨(some 26), none, .extract 2 (.tmp 18)⟩,
    ⟨(some 10), none, .alloc [.int .i64 0, .int .i64 0, .int .i64 0, .int .i64 0, .int .i64 0]⟩,
    ⟨(some 9), none, .mov (.tmp 24)⟩,
    ⟨none, none, .store 5 (.tmp 10) (.tmp 25)⟩,
    ⟨(some 11), none, .mov (.tmp 26)⟩]

def f3r4 : List AInstr := [
    ⟨(some 27), none, .mov (.tmp 11)⟩,
    ⟨(some 28), none, .ibin .neq (.tmp 27) (.const (.int .i64 0))⟩,
    ⟨(some 29), none, .mov (.tmp 28)⟩,
    ⟨(some 30), (some (29, false)), .mov (.tmp 9)⟩,
    ⟨(some 31), (some (29, false)), .len (.tmp 30)⟩,
    ⟨(some 32), (some (29, false)), .mov (.tmp 3)⟩,
    ⟨(some 33), (some (29, false)), .len (.tmp 32)⟩,
    ⟨(some 34), (some (29, false)), .ibin .neq (.tmp 31) (.tmp 33)⟩,
    ⟨(some 35), none, .pick (.tmp 29) (.const (.bool true)) (.tmp 34)⟩]

def f3r5 : List AInstr := [
    ⟨(some 36), none, .mov (.tmp 11)⟩,
    ⟨(some 37), none, .ibin .neq (.tmp 36) (.const (.int .i64 0))⟩,
    ⟨(some 38), none, .mov (.tmp 37)⟩,
    ⟨(some 39), (some (38, true)), .mov (.tmp 9)⟩,
    ⟨(some 40), (some (38, true)), .len (.tmp 39)⟩,
    ⟨(some 41), (some (38, true)), .ibin .eql (.tmp 40) (.const (.int .i64 0))⟩,
    ⟨(some 42), none, .pick (.tmp 38) (.tmp 41) (.const (.bool false))⟩,
    ⟨(some 8), none, .mov (.tmp 42)⟩]

def f3r6 : List AInstr := [
    ⟨(some 43), none, .mov (.tmp 3)⟩,
    ⟨(some 44), none, .len (.tmp 43)⟩,
    ⟨(some 45), none, .ibin .gtr (.tmp 44) (.const (.int .i64 60))⟩]

def f3r7 : List AInstr := [
    ⟨(some 8), none, .mov (.const (.bool true))⟩]

def f3r8 : List AInstr := [
    ⟨(some 46), none, .mov (.tmp 3)⟩,
    ⟨(some 47), none, .len (.tmp 46)⟩,
    ⟨(some 48), none, .mov (.const (.int .i64 0))⟩]

def f3r9 : List AInstr := [
    ⟨(some 49), none, .ibin .lss (.tmp 48) (.tmp 47)⟩]

def f3r10 : List AInstr := [
    ⟨(some 50), none, .mov (.tmp 48)⟩,
    ⟨(some 12), none, .mov (.tmp 50)⟩]

def f3r11 : List AInstr := [
    ⟨(some 13), none, .mov (.const (.int .i64 0))⟩]

def f3r12 : List AInstr := [
    ⟨(some 51), none, .mov (.tmp 12)⟩,
    ⟨(some 14), none, .mov (.tmp 51)⟩]

def f3r13 : List AInstr := [
    ⟨(some 52), none, .mov (.tmp 14)⟩,
    ⟨(some 53), none, .mov (.tmp 3)⟩,
    ⟨(some 54), none, .len (.tmp 53)⟩,
    ⟨(some 55), none, .ibin .lss (.tmp 52) (.tmp 54)⟩]

def f3r14 : List AInstr := [
    ⟨(some 58), none, .mov (.tmp 9)⟩,
    ⟨(some 59), none, .mov (.tmp 14)⟩,
    ⟨(some 60), none, .indexAddr 1 (.tmp 58) (.tmp 59)⟩,
    ⟨(some 61), none, .load none (.tmp 60)⟩]

def f3r15 : List AInstr := [
    ⟨(some 62), none, .mov (.tmp 13)⟩,
    ⟨(some 63), none, .mov (.tmp 3)⟩,
    ⟨(some 64), none, .mov (.tmp 14)⟩,
    ⟨(some 65), none, .indexAddr 2 (.tmp 63) (.tmp 64)⟩,
    ⟨(some 66), none, .fieldAddr 1 (.tmp 65)⟩,
    ⟨(some 67), none, .load none (.tmp 66)⟩,
    ⟨(some 68), none, .ibin .add (.tmp 62) (.tmp 67)⟩,
    ⟨(some 13), none, .mov (.tmp 68)⟩]

def f3r16 : List AInstr := [
    ⟨(some 69), none, .mov (.tmp 3)⟩,
    ⟨(some 70), none, .mov (.tmp 14)⟩,
    ⟨(some 71), none, .indexAddr 2 (.tmp 69) (.tmp 70)⟩,
    ⟨(some 72), none, .fieldAddr 0 (.tmp 71)⟩,
    ⟨(some 73), none, .load none (.tmp 72)⟩,
    ⟨(some 74), none, .mov (.tmp 3)⟩,
    ⟨(some 75), none, .mov (.tmp 12)⟩,
    ⟨(some 76), none, .indexAddr 2 (.tmp 74) (.tmp 75)⟩,
    ⟨(some 77), none, .fieldAddr 0 (.tmp 76)⟩,
    ⟨(some 78), none, .load none (.tmp 77)⟩,
    ⟨(some 79), none, .ibin .sub (.tmp 73) (.tmp 78)⟩,
    ⟨(some 15), none, .mov (.tmp 79)⟩]

def f3r17 : List AInstr := [
    ⟨(some 80), none, .mov (.tmp 15)⟩,
    ⟨(some 81), none, .ibin .lss (.tmp 80) (.const (.int .i64 1048576))⟩,
    ⟨(some 82), none, .mov (.tmp 81)⟩,
    ⟨(some 83), (some (82, true)), .mov (.tmp 13)⟩,
    ⟨(some 84), (some (82, true)), .mov (.tmp 1)⟩,
    ⟨(some 85), (some (82, true)), .ibin .mul (.tmp 83) (.tmp 84)⟩,
    ⟨(some 86), (some (82, true)), .mov (.tmp 2)⟩,
    ⟨(some 87), (some (82, true)), .mov (.tmp 1)⟩,
    ⟨(some 88), (some (82, true)), .ibin .mul (.tmp 86) (.tmp 87)⟩,
    ⟨(some 89), (some (82, true)), .mov (.tmp 0)⟩,
    ⟨(some 90), (some (82, true)), .mov (.tmp 15)⟩,
    ⟨(some 91), (some (82, true)), .ibin .mul (.tmp 89) (.tmp 90)⟩,
    ⟨(some 92), (some (82, true)), .ibin .add (.tmp 88) (.tmp 91)⟩,
    ⟨(some 93), (some (82, true)), .ibin .gtr (.tmp 85) (.tmp 92)⟩,
    ⟨(some 94), none, .pick (.tmp 82) (.tmp 93) (.const (.bool false))⟩]

def f3r18 : List AInstr := [
    ⟨(some 8), none, .mov (.const (.bool false))⟩]

def f3r19 : List AInstr := [
    ⟨(some 56), none, .mov (.tmp 14)⟩,
    ⟨(some 57), none, .ibin .add (.tmp 56) (.const (.int .i64 1))⟩,
    ⟨(some 14), none, .mov (.tmp 57)⟩]

/-- live: [0, 1, 2, 3, 9, 12, 13, 14, 47, 48] -/
def f3l0 : ACode := (.seq (.seq (.ops f3r13)
  (.keep [0, 1, 2, 3, 9, 12, 13, 14, 47, 48, 55] (.cond (.tmp 55) .skip (.exit 2))))
  (.keep [0, 1, 2, 3, 9, 12, 13, 14, 47, 48] (.seq (.block 3 (.seq (.seq (.ops f3r14)
  (.keep [0, 1, 2, 3, 9, 12, 13, 14, 47, 48, 61] (.cond (.tmp 61) (.keep [0, 1, 2, 3, 9, 12, 13, 14, 47, 48] (.ops f3r15)) .skip)))
  (.keep [0, 1, 2, 3, 9, 12, 13, 14, 47, 48] (.seq (.draw f3r16 [(0, 0, false), (0, 0, false), (0, 0, false), (0, 0, false), (0, 0, false), (0, 0, false), (0, 0, false), (0, 0, false), (0, 0, false), (0, 0, false), (0, 0, false), (0, 0, false)])
  (.keep [0, 1, 2, 3, 9, 12, 13, 14, 15, 47, 48] (.seq (.ops f3r17)
  (.keep [0, 1, 2, 3, 9, 12, 13, 14, 47, 48, 94] (.cond (.tmp 94) (.keep [] (.seq (.ops f3r18)
  (.keep [8] .ret))) .skip))))))))
  (.keep [0, 1, 2, 3, 9, 12, 13, 14, 47, 48] (.ops f3r19)))))

def f3r21 : List AInstr := [
    ⟨(some 95), none, .ibin .add (.tmp 48) (.const (.int .i64 1))⟩,
    ⟨(some 48), none, .mov (.tmp 95)⟩]

/-- live: [0, 1, 2, 3, 9, 47, 48] -/
def f3l1 : ACode := (.seq (.ops f3r9)
  (.keep [0, 1, 2, 3, 9, 47, 48, 49] (.seq (.cond (.tmp 49) .skip (.exit 0))
  (.keep [0, 1, 2, 3, 9, 47, 48] (.seq (.block 1 (.seq (.ops f3r10)
  (.keep [0, 1, 2, 3, 9, 12, 47, 48] (.seq (.ops f3r11)
  (.keep [0, 1, 2, 3, 9, 12, 13, 47, 48] (.seq (.ops f3r12)
  (.keep [0, 1, 2, 3, 9, 12, 13, 14, 47, 48] (.block 2 (.loop f3l0)))))))))
  (.keep [0, 1, 2, 3, 9, 47, 48] (.ops f3r21)))))))

def f3r23 : List AInstr := [
    ⟨(some 8), none, .mov (.const (.bool true))⟩]

def f3b : ACode := (.seq (.ops f3r0)
  (.keep [0, 1, 2, 3] (.seq (.seq (.ops f3r1)
  (.keep [0, 1, 2, 3, 17] (.cond (.tmp 17) (.keep [] (.seq (.ops f3r2)
  (.keep [8] .ret))) .skip)))
  (.keep [0, 1, 2, 3] (.seq (.ops f3r3)
  (.keep [0, 1, 2, 3, 9, 11] (.seq (.seq (.ops f3r4)
  (.keep [0, 1, 2, 3, 9, 11, 35] (.cond (.tmp 35) (.keep [9, 11] (.seq (.ops f3r5)
  (.keep [8] .ret))) .skip)))
  (.keep [0, 1, 2, 3, 9] (.seq (.seq (.ops f3r6)
  (.keep [0, 1, 2, 3, 9, 45] (.cond (.tmp 45) (.keep [] (.seq (.ops f3r7)
  (.keep [8] .ret))) .skip)))
  (.keep [0, 1, 2, 3, 9] (.seq (.seq (.ops f3r8)
  (.keep [0, 1, 2, 3, 9, 47, 48] (.block 0 (.loop f3l1))))
  (.keep [] (.seq (.ops f3r23)
  (.keep [8] .ret))))))))))))))

def f3 : AFn := ⟨96, [.tmp 8], f3b⟩

theorem f3_ok : compFn Try.prog 3 = some f3.strip := by kernel_rfl

/- function 4: weirhouse/weirhousekeep.BucketTime; parameters 4; operations that are not compiled: 0 -/
def f4r0 : List AInstr := [
    ⟨(some 4), none, .box (.tmp 0)⟩,
    ⟨(some 8), none, .mov (.const (.bool false))⟩]

def f4r1 : List AInstr := [
    ⟨(some 20), none, .callF 7 []⟩,
    ⟨(some 21), none, .un .not (.tmp 20)⟩]

def f4r2 : List AInstr := [
    ⟨(some 8), none, .mov (.const (.bool false))⟩]

def f4r3 : List AInstr := [
    ⟨(some 23), none, .load (some 5) (.tmp 4)⟩,
    ⟨(some 24), none, .mov (.tmp 1)⟩,
    ⟨(some 25), none, .callF 9 [.tmp 23, .tmp 24]⟩,
    ⟨(some 22), none, .mov (.tmp 25)⟩,
    ⟨(some 26), none, .extract 0 (.tmp 22)⟩,
    ⟨(some 27), none, .extract 1 (.tmp 22)⟩,
    ⟨(some 9), none, .alloc [.int .i64 0, .int .i64 0, .int .i64 0, .int .i64 0, .int .i64 0]⟩,
    ⟨none, none, .store 5 (.tmp 9) (.tmp 26)⟩,
    ⟨(some 10), none, .mov (.tmp 27)⟩]

def f4r4 : List AInstr := [
    ⟨(some 29), none, .load (some 5) (.tmp 9)⟩,
    ⟨(some 30), none, .mov (.tmp 2)⟩,
    ⟨(some 31), none, .callF 9 [.tmp 29, .tmp 30]⟩,
    ⟨(some 28), none, .mov (.tmp 31)⟩,
    ⟨(some 32), none, .extract 0 (.tmp 28)⟩,
    ⟨(some 33), none, .extract 1 (.tmp 28)⟩,
    ⟨(some 11), none, .alloc [.int .i64 0, .int .i64 0, .int .i64 0, .int .i64 0, .int .i64 0]⟩,
    ⟨none, none, .store 5 (.tmp 11) (.tmp 32)⟩,
    ⟨(some 12), none, .mov (.tmp 33)⟩]

def f4r5 : List AInstr := [
    ⟨(some 35), none, .load (some 5) (.tmp 4)⟩,
    ⟨(some 36), none, .mov (.tmp 2)⟩,
    ⟨(some 37), none, .callF 9 [.tmp 35, .tmp 36]⟩,
    ⟨(some 34), none, .mov (.tmp 37)⟩,
    ⟨(some 38), none, .extract 0 (.tmp 34)⟩,
    ⟨(some 39), none, .extract 1 (.tmp 34)⟩,
    ⟨(some 13), none, .alloc [.int .i64 0, .int .i64 0, .int .i64 0, .int .i64 0, .int .i64 0]⟩,
    ⟨none, none, .store 5 (.tmp 13) (.tmp 38)⟩,
    ⟨(some 14), none, .mov (.tmp 39)⟩]

def f4r6 : List AInstr := [
    ⟨(some 40), none, .mov (.tmp 10)⟩,
    ⟨(some 41), none, .ibin .neq (.tmp 40) (.const (.int .i64 0))⟩,
    ⟨(some 42), none, .mov (.tmp 41)⟩,
    ⟨(some 43), (some (42, false)), .mov (.tmp 12)⟩,
    ⟨(some 44), (some (42, false)), .ibin .neq (.tmp 43) (.const (.int .i64 0))⟩,
    ⟨(some 45), none, .pick (.tmp 42) (.const (.bool true)) (.tmp 44)⟩]

def f4r7 : List AInstr := [
    ⟨(some 8), none, .mov (.const (.bool true))⟩]

def f4r8 : List AInstr := [
    ⟨(some 47), none, .load (some 5) (.tmp 4)⟩,
    ⟨(some 48), none, .mov (.tmp 1)⟩,
    ⟨(some 49), none, .mov (.tmp 3)⟩,
    ⟨(some 50), none, .build [.int .i64 0, .int .i64 0] [(0, 1, (.tmp 48)), (1, 1, (.tmp 49))]⟩,
    ⟨(some 51), none, .callF 10 [.tmp 47, .tmp 50]⟩,
    ⟨(some 46), none, .mov (.tmp 51)⟩,
    ⟨(some 52), none, .extract 0 (.tmp 46)⟩,
    ⟨(some 53), none, .extract 1 (.tmp 46)⟩,
    ⟨(some 54), none, .extract 2 (.tmp 46)⟩,
    ⟨(some 15), none, .alloc [.int .i64 0, .int .i64 0, .int .i64 0, .int .i64 0, .int .i64 0]⟩,
    ⟨none, none, .store 5 (.tmp 15) (.tmp 52)⟩,
    ⟨(some 16), none, .mov (.tmp 53)⟩,
    ⟨(some 17), none, .mov (.tmp 54)⟩]

def f4r9 : List AInstr := [
    ⟨(some 56), none, .load (some 5) (.tmp 15)⟩,
    ⟨(some 57), none, .mov (.tmp 2)⟩,
    ⟨(some 58), none, .callF 9 [.tmp 56, .tmp 57]⟩,
    ⟨(some 55), none, .mov (.tmp 58)⟩,
    ⟨(some 59), none, .extract 0 (.tmp 55)⟩,
    ⟨(some 60), none, .extract 1 (.tmp 55)⟩,
    ⟨(some 18), none, .alloc [.int .i64 0, .int .i64 0, .int .i64 0, .int .i64 0, .int .i64 0]⟩,
    ⟨none, none, .store 5 (.tmp 18) (.tmp 59)⟩,
    ⟨(some 19), none, .mov (.tmp 60)⟩]

def f4r10 : List AInstr := [
    ⟨(some 61), none, .mov (.tmp 14)⟩,
    ⟨(some 62), none, .ibin .eql (.tmp 61) (.const (.int .i64 0))⟩,
    ⟨(some 63), none, .mov (.tmp 62)⟩,
    ⟨(some 64), (some (63, true)), .load (some 5) (.tmp 11)⟩,
    ⟨(some 65), (some (63, true)), .load (some 5) (.tmp 13)⟩,
    ⟨(some 66), (some (63, true)), .eqA false [false, false, false, false, false] (.tmp 64) (.tmp 65)⟩,
    ⟨(some 67), none, .pick (.tmp 63) (.tmp 66) (.const (.bool false))⟩,
    ⟨(some 68), none, .mov (.tmp 67)⟩,
    ⟨(some 69), (some (68, true)), .mov (.tmp 17)⟩,
    ⟨(some 70), (some (68, true)), .ibin .neq (.tmp 69) (.const (.int .i64 0))⟩,
    ⟨(some 71), (some (68, true)), .mov (.tmp 70)⟩,
    ⟨(some 72), (some (71, false)), .mov (.tmp 19)⟩,
    ⟨(some 73), (some (71, false)), .ibin .eql (.tmp 72) (.const (.int .i64 0))⟩,
    ⟨(some 74), (some (71, false)), .mov (.tmp 73)⟩,
    ⟨(some 75), (some (74, true)), .fieldAddr 3 (.tmp 18)⟩,
    ⟨(some 76), (some (74, true)), .load none (.tmp 75)⟩,
    ⟨(some 77), (some (74, true)), .fieldAddr 3 (.tmp 13)⟩,
    ⟨(some 78), (some (74, true)), .load none (.tmp 77)⟩,
    ⟨(some 79), (some (74, true)), .ibin .leq (.tmp 76) (.tmp 78)⟩,
    ⟨(some 80), (some (71, false)), .pick (.tmp 74) (.tmp 79) (.const (.bool false))⟩,
    ⟨(some 81), (some (71, false)), .mov (.tmp 80)⟩,
    ⟨(some 82), (some (81, true)), .fieldAddr 3 (.tmp 15)⟩,
    ⟨(some 83), (some (81, true)), .load none (.tmp 82)⟩,
    ⟨(some 84), (some (81, true)), .fieldAddr 3 (.tmp 9)⟩,
    ⟨(some 85), (some (81, true)), .load none (.tmp 84)⟩,
    ⟨(some 86), (some (81, true)), .ibin .leq (.tmp 83) (.tmp 85)⟩,
    ⟨(some 87), (some (71, false)), .pick (.tmp 81) (.tmp 86) (.const (.bool false))⟩,
    ⟨(some 88), (some (68, true)), .pick (.tmp 71) (.const (.bool true)) (.tmp 87)⟩,
    ⟨(some 89), none, .pick (.tmp 68) (.tmp 88) (.const (.bool false))⟩,
    ⟨(some 8), none, .mov (.tmp 89)⟩]

def f4b : ACode := (.seq (.ops f4r0)
  (.keep [1, 2, 3, 4] (.seq (.seq (.ops f4r1)
  (.keep [1, 2, 3, 4, 21] (.cond (.tmp 21) (.keep [] (.seq (.ops f4r2)
  (.keep [8] .ret))) .skip)))
  (.keep [1, 2, 3, 4] (.seq (.ops f4r3)
  (.keep [1, 2, 3, 4, 9, 10] (.seq (.ops f4r4)
  (.keep [1, 2, 3, 4, 9, 10, 11, 12] (.seq (.ops f4r5)
  (.keep [1, 2, 3, 4, 9, 10, 11, 12, 13, 14] (.seq (.seq (.ops f4r6)
  (.keep [1, 2, 3, 4, 9, 11, 13, 14, 45] (.cond (.tmp 45) (.keep [] (.seq (.ops f4r7)
  (.keep [8] .ret))) .skip)))
  (.keep [1, 2, 3, 4, 9, 11, 13, 14] (.seq (.ops f4r8)
  (.keep [2, 9, 11, 13, 14, 15, 17] (.seq (.ops f4r9)
  (.keep [9, 11, 13, 14, 15, 17, 18, 19] (.seq (.ops f4r10)
  (.keep [8] .ret))))))))))))))))))

def f4 : AFn := ⟨90, [.tmp 8], f4b⟩

theorem f4_ok : compFn Try.prog 4 = some f4.strip := by kernel_rfl

/- function 5: weirhouse/weirhousekeep.BucketReady; parameters 2; operations that are not compiled: 0 -/
def f5r0 : List AInstr := [
    ⟨(some 2), none, .box (.tmp 0)⟩,
    ⟨(some 4), none, .mov (.const (.bool false))⟩]

def f5r1 : List AInstr := [
    ⟨(some 14), none, .callF 7 []⟩,
    ⟨(some 15), none, .un .not (.tmp 14)⟩]

def f5r2 : List AInstr := [
    ⟨(some 4), none, .mov (.const (.bool false))⟩]

def f5r3 : List AInstr := [
    ⟨(some 17), none, .load (some 5) (.tmp 2)⟩,
    ⟨(some 18), none, .mov (.tmp 1)⟩,
    ⟨(some 19), none, .callF 11 [.tmp 17, .tmp 18]⟩,
    ⟨(some 16), none, .mov (.tmp 19)⟩,
    ⟨(some 20), none, .extract 0 (.tmp 16)⟩,
    ⟨(some 21), none, .extract 1 (.tmp 16)⟩,
    ⟨(some 22), none, .extract 2 (.tmp 16)⟩,
    ⟨(some 5), none, .mov (.tmp 20)⟩,
    ⟨(some 6), none, .mov (.tmp 21)⟩,
    ⟨(some 7), none, .mov (.tmp 22)⟩]

def f5r4 : List AInstr := [
    ⟨(some 23), none, .mov (.tmp 7)⟩,
    ⟨(some 24), none, .ibin .neq (.tmp 23) (.const (.int .i64 0))⟩,
    ⟨(some 25), none, .mov (.tmp 24)⟩,
    ⟨(some 26), (some (25, false)), .mov (.tmp 6)⟩,
    ⟨(some 27), (some (25, false)), .un .not (.tmp 26)⟩,
    ⟨(some 28), none, .pick (.tmp 25) (.const (.bool true)) (.tmp 27)⟩]

def f5r5 : List AInstr := [
    ⟨(some 29), none, .mov (.tmp 5)⟩,
    ⟨(some 30), none, .ibin .eql (.tmp 29) (.const (.int .i64 0))⟩,
    ⟨(some 4), none, .mov (.tmp 30)⟩]

def f5r6 : List AInstr := [
    ⟨(some 32), none, .load (some 5) (.tmp 2)⟩,
    ⟨(some 33), none, .mov (.tmp 5)⟩,
    ⟨(some 34), none, .mov (.tmp 1)⟩,
    ⟨(some 35), none, .build [.int .i64 0, .int .i64 0] [(0, 1, (.tmp 33)), (1, 1, (.tmp 34))]⟩,
    ⟨(some 36), none, .callF 10 [.tmp 32, .tmp 35]⟩,
    ⟨(some 31), none, .mov (.tmp 36)⟩,
    ⟨(some 37), none, .extract 0 (.tmp 31)⟩,
    ⟨(some 38), none, .extract 1 (.tmp 31)⟩,
    ⟨(some 39), none, .extract 2 (.tmp 31)⟩,
    ⟨(some 8), none, .alloc [.int .i64 0, .int .i64 0, .int .i64 0, .int .i64 0, .int .i64 0]⟩,
    ⟨none, none, .store 5 (.tmp 8) (.tmp 37)⟩,
    ⟨(some 9), none, .mov (.tmp 38)⟩,
    ⟨(some 10), none, .mov (.tmp 39)⟩]

def f5r7 : List AInstr := [
    ⟨(some 40), none, .mov (.tmp 10)⟩,
    ⟨(some 41), none, .ibin .neq (.tmp 40) (.const (.int .i64 0))⟩,
    ⟨(some 42), none, .mov (.tmp 41)⟩,
    ⟨(some 43), (some (42, false)), .mov (.tmp 9)⟩,
    ⟨(some 44), (some (42, false)), .un .not (.tmp 43)⟩,
    ⟨(some 45), none, .pick (.tmp 42) (.const (.bool true)) (.tmp 44)⟩,
    ⟨(some 46), none, .mov (.tmp 45)⟩,
    ⟨(some 47), (some (46, false)), .mov (.tmp 5)⟩,
    ⟨(some 48), (some (46, false)), .fieldAddr 4 (.tmp 2)⟩,
    ⟨(some 49), (some (46, false)), .load none (.tmp 48)⟩,
    ⟨(some 50), (some (46, false)), .ibin .lss (.tmp 47) (.tmp 49)⟩,
    ⟨(some 51), none, .pick (.tmp 46) (.const (.bool true)) (.tmp 50)⟩]

def f5r8 : List AInstr := [
    ⟨(some 4), none, .mov (.const (.bool false))⟩]

def f5r9 : List AInstr := [
    ⟨(some 53), none, .load (some 5) (.tmp 2)⟩,
    ⟨(some 54), none, .mov (.tmp 5)⟩,
    ⟨(some 55), none, .ibin .sub (.tmp 54) (.const (.int .i64 1))⟩,
    ⟨(some 56), none, .mov (.tmp 1)⟩,
    ⟨(some 57), none, .build [.int .i64 0, .int .i64 0] [(0, 1, (.tmp 55)), (1, 1, (.tmp 56))]⟩,
    ⟨(some 58), none, .callF 10 [.tmp 53, .tmp 57]⟩,
    ⟨(some 52), none, .mov (.tmp 58)⟩,
    ⟨(some 59), none, .extract 0 (.tmp 52)⟩,
    ⟨(some 60), none, .extract 1 (.tmp 52)⟩,
    ⟨(some 61), none, .extract 2 (.tmp 52)⟩,
    ⟨(some 11), none, .alloc [.int .i64 0, .int .i64 0, .int .i64 0, .int .i64 0, .int .i64 0]⟩,
    ⟨none, none, .store 5 (.tmp 11) (.tmp 59)⟩,
    ⟨(some 12), none, .mov (.tmp 60)⟩,
    ⟨(some 13), none, .mov (.tmp 61)⟩]

def f5r10 : List AInstr := [
    ⟨(some 62), none, .mov (.tmp 5)⟩,
    ⟨(some 63), none, .fieldAddr 4 (.tmp 2)⟩,
    ⟨(some 64), none, .load none (.tmp 63)⟩,
    ⟨(some 65), none, .ibin .eql (.tmp 62) (.tmp 64)⟩,
    ⟨(some 66), none, .mov (.tmp 65)⟩,
    ⟨(some 67), (some (66, false)), .mov (.tmp 13)⟩,
    ⟨(some 68), (some (66, false)), .ibin .eql (.tmp 67) (.const (.int .i64 0))⟩,
    ⟨(some 69), (some (66, false)), .mov (.tmp 68)⟩,
    ⟨(some 70), (some (69, true)), .mov (.tmp 12)⟩,
    ⟨(some 71), (some (69, true)), .un .not (.tmp 70)⟩,
    ⟨(some 72), (some (66, false)), .pick (.tmp 69) (.tmp 71) (.const (.bool false))⟩,
    ⟨(some 73), none, .pick (.tmp 66) (.const (.bool true)) (.tmp 72)⟩,
    ⟨(some 4), none, .mov (.tmp 73)⟩]

def f5b : ACode := (.seq (.ops f5r0)
  (.keep [1, 2] (.seq (.seq (.ops f5r1)
  (.keep [1, 2, 15] (.cond (.tmp 15) (.keep [] (.seq (.ops f5r2)
  (.keep [4] .ret))) .skip)))
  (.keep [1, 2] (.seq (.ops f5r3)
  (.keep [1, 2, 5, 6, 7] (.seq (.seq (.ops f5r4)
  (.keep [1, 2, 5, 28] (.cond (.tmp 28) (.keep [5] (.seq (.ops f5r5)
  (.keep [4] .ret))) .skip)))
  (.keep [1, 2, 5] (.seq (.ops f5r6)
  (.keep [1, 2, 5, 9, 10] (.seq (.seq (.ops f5r7)
  (.keep [1, 2, 5, 51] (.cond (.tmp 51) (.keep [] (.seq (.ops f5r8)
  (.keep [4] .ret))) .skip)))
  (.keep [1, 2, 5] (.seq (.ops f5r9)
  (.keep [2, 5, 12, 13] (.seq (.ops f5r10)
  (.keep [4] .ret))))))))))))))))

def f5 : AFn := ⟨74, [.tmp 4], f5b⟩

theorem f5_ok : compFn Try.prog 5 = some f5.strip := by kernel_rfl

/- function 6: weirhouse/weirhousekeep.BucketGreater; parameters 7; operations that are not compiled: 0 -/
def f6r0 : List AInstr := [
    ⟨(some 12), none, .box (.tmp 5)⟩,
    ⟨(some 13), none, .box (.tmp 6)⟩,
    ⟨(some 14), none, .mov (.const (.bool false))⟩]

def f6r1 : List AInstr := [
    ⟨(some 21), none, .callF 7 []⟩,
    ⟨(some 22), none, .un .not (.tmp 21)⟩]

def f6r2 : List AInstr := [
    ⟨(some 14), none, .mov (.const (.bool false))⟩]

def f6r3 : List AInstr := [
    ⟨(some 23), none, .mov (.tmp 3)⟩,
    ⟨(some 24), none, .ibin .lss (.tmp 23) (.const (.int .i64 0))⟩,
    ⟨(some 25), none, .mov (.tmp 24)⟩,
    ⟨(some 26), (some (25, false)), .mov (.tmp 4)⟩,
    ⟨(some 27), (some (25, false)), .ibin .lss (.tmp 26) (.const (.int .i64 0))⟩,
    ⟨(some 28), none, .pick (.tmp 25) (.const (.bool true)) (.tmp 27)⟩,
    ⟨(some 29), none, .mov (.tmp 28)⟩,
    ⟨(some 30), (some (29, false)), .mov (.tmp 3)⟩,
    ⟨(some 31), (some (29, false)), .ibin .gtr (.tmp 30) (.const (.int .i64 1000))⟩,
    ⟨(some 32), none, .pick (.tmp 29) (.const (.bool true)) (.tmp 31)⟩,
    ⟨(some 33), none, .mov (.tmp 32)⟩,
    ⟨(some 34), (some (33, false)), .mov (.tmp 4)⟩,
    ⟨(some 35), (some (33, false)), .ibin .gtr (.tmp 34) (.const (.int .i64 1000))⟩,
    ⟨(some 36), none, .pick (.tmp 33) (.const (.bool true)) (.tmp 35)⟩]

def f6r4 : List AInstr := [
    ⟨(some 14), none, .mov (.const (.bool true))⟩]

def f6r5 : List AInstr := [
    ⟨(some 38), none, .mov (.tmp 0)⟩,
    ⟨(some 39), none, .mov (.tmp 1)⟩,
    ⟨(some 40), none, .mov (.tmp 2)⟩,
    ⟨(some 41), none, .load (some 2) (.tmp 12)⟩,
    ⟨(some 42), none, .load (some 2) (.tmp 13)⟩,
    ⟨(some 43), none, .buildSlice 2 2 [.int .i64 0, .int .i64 0, .int .i64 0, .int .i64 0] [(0, 2, (.tmp 41)), (2, 2, (.tmp 42))]⟩,
    ⟨(some 44), none, .callF 8 [.tmp 38, .tmp 39, .tmp 40, .tmp 43]⟩,
    ⟨(some 37), none, .mov (.tmp 44)⟩,
    ⟨(some 45), none, .extract 0 (.tmp 37)⟩,
    ⟨(some 46), none, .extract 1 (.tmp 37)⟩,
    ⟨(some 47), none, .extract 2 (.tmp 37)⟩,
    ⟨(some 16), none, .alloc [.int .i64 0, .int .i64 0, .int .i64 0, .int .i64 0, .int .i64 0]⟩,
    ⟨(some 15), none, .mov (.tmp 45)⟩,
    ⟨none, none, .store 5 (.tmp 16) (.tmp 46)⟩,
    ⟨(some 17), none, .mov (.tmp 47)⟩]

def f6r6 : List AInstr := [
    ⟨(some 49), none, .mov (.tmp 0)⟩,
    ⟨(some 50), none, .mov (.tmp 4)⟩,
    ⟨(some 51), none, .ibin .add (.tmp 49) (.tmp 50)⟩,
    ⟨(some 52), none, .mov (.tmp 1)⟩,
    ⟨(some 53), none, .mov (.tmp 2)⟩,
    ⟨(some 54), none, .mov (.tmp 3)⟩,
    ⟨(some 55), none, .ibin .add (.tmp 53) (.tmp 54)⟩,
    ⟨(some 56), none, .load (some 2) (.tmp 12)⟩,
    ⟨(some 57), none, .load (some 2) (.tmp 13)⟩,
    ⟨(some 58), none, .buildSlice 2 2 [.int .i64 0, .int .i64 0, .int .i64 0, .int .i64 0] [(0, 2, (.tmp 56)), (2, 2, (.tmp 57))]⟩,
    ⟨(some 59), none, .callF 8 [.tmp 51, .tmp 52, .tmp 55, .tmp 58]⟩,
    ⟨(some 48), none, .mov (.tmp 59)⟩,
    ⟨(some 60), none, .extract 0 (.tmp 48)⟩,
    ⟨(some 61), none, .extract 1 (.tmp 48)⟩,
    ⟨(some 62), none, .extract 2 (.tmp 48)⟩,
    ⟨(some 19), none, .alloc [.int .i64 0, .int .i64 0, .int .i64 0, .int .i64 0, .int .i64 0]⟩,
    ⟨(some 18), none, .mov (.tmp 60)⟩,
    ⟨none, none, .store 5 (.tmp 19) (.tmp 61)⟩,
    ⟨(some 20), none, .mov (.tmp 62)⟩]

def f6r7 : List AInstr := [
    ⟨(some 63), none, .mov (.tmp 17)⟩,
    ⟨(some 64), none, .ibin .neq (.tmp 63) (.const (.int .i64 0))⟩,
    ⟨(some 65), none, .mov (.tmp 64)⟩,
    ⟨(some 66), (some (65, false)), .mov (.tmp 20)⟩,
    ⟨(some 67), (some (65, false)), .ibin .neq (.tmp 66) (.const (.int .i64 0))⟩,
    ⟨(some 68), none, .pick (.tmp 65) (.const (.bool true)) (.tmp 67)⟩,
    ⟨(some 69), none, .mov (.tmp 68)⟩,
    ⟨(some 70), (some (69, false)), .mov (.tmp 15)⟩,
    ⟨(some 71), (some (69, false)), .len (.tmp 70)⟩,
    ⟨(some 72), (some (69, false)), .ibin .neq (.tmp 71) (.const (.int .i64 2))⟩,
    ⟨(some 73), none, .pick (.tmp 69) (.const (.bool true)) (.tmp 72)⟩,
    ⟨(some 74), none, .mov (.tmp 73)⟩,
    ⟨(some 75), (some (74, false)), .mov (.tmp 18)⟩,
    ⟨(some 76), (some (74, false)), .len (.tmp 75)⟩,
    ⟨(some 77), (some (74, false)), .ibin .neq (.tmp 76) (.const (.int .i64 2))⟩,
    ⟨(some 78), none, .pick (.tmp 74) (.const (.bool true)) (.tmp 77)⟩,
    ⟨(some 79), none, .mov (.tmp 78)⟩,
    ⟨(some 80), (some (79, false)), .mov (.tmp 15)⟩,
    ⟨(some 81), (some (79, false)), .indexAddr 1 (.tmp 80) (.const (.int .i64 0))⟩,
    ⟨(some 82), (some (79, false)), .load none (.tmp 81)⟩,
    ⟨(some 83), (some (79, false)), .mov (.tmp 18)⟩,
    ⟨(some 84), (some (79, false)), .indexAddr 1 (.tmp 83) (.const (.int .i64 0))⟩,
    ⟨(some 85), (some (79, false)), .load none (.tmp 84)⟩,
    ⟨(some 86), (some (79, false)), .eqB true (.tmp 82) (.tmp 85)⟩,
    ⟨(some 87), none, .pick (.tmp 79) (.const (.bool true)) (.tmp 86)⟩]

def f6r8 : List AInstr := [
    ⟨(some 88), none, .mov (.tmp 17)⟩,
    ⟨(some 89), none, .ibin .neq (.tmp 88) (.const (.int .i64 0))⟩,
    ⟨(some 90), none, .mov (.tmp 89)⟩,
    ⟨(some 91), (some (90, false)), .mov (.tmp 20)⟩,
    ⟨(some 92), (some (90, false)), .ibin .neq (.tmp 91) (.const (.int .i64 0))⟩,
    ⟨(some 93), none, .pick (.tmp 90) (.const (.bool true)) (.tmp 92)⟩,
    ⟨(some 94), none, .mov (.tmp 93)⟩,
    ⟨(some 95), (some (94, false)), .mov (.tmp 15)⟩,
    ⟨(some 96), (some (94, false)), .len (.tmp 95)⟩,
    ⟨(some 97), (some (94, false)), .ibin .eql (.tmp 96) (.const (.int .i64 2))⟩,
    ⟨(some 98), (some (94, false)), .mov (.tmp 97)⟩,
    ⟨(some 99), (some (98, true)), .mov (.tmp 18)⟩,
    ⟨(some 100), (some (98, true)), .len (.tmp 99)⟩,
    ⟨(some 101), (some (98, true)), .ibin .eql (.tmp 100) (.const (.int .i64 2))⟩,
    ⟨(some 102), (some (94, false)), .pick (.tmp 98) (.tmp 101) (.const (.bool false))⟩,
    ⟨(some 103), none, .pick (.tmp 94) (.const (.bool true)) (.tmp 102)⟩,
    ⟨(some 14), none, .mov (.tmp 103)⟩]

def f6r9 : List AInstr := [
    ⟨(some 104), none, .mov (.tmp 15)⟩,
    ⟨(some 105), none, .indexAddr 1 (.tmp 104) (.const (.int .i64 1))⟩,
    ⟨(some 106), none, .load none (.tmp 105)⟩,
    ⟨(some 107), none, .un .not (.tmp 106)⟩,
    ⟨(some 108), none, .mov (.tmp 107)⟩,
    ⟨(some 109), (some (108, false)), .mov (.tmp 18)⟩,
    ⟨(some 110), (some (108, false)), .indexAddr 1 (.tmp 109) (.const (.int .i64 1))⟩,
    ⟨(some 111), (some (108, false)), .load none (.tmp 110)⟩,
    ⟨(some 112), none, .pick (.tmp 108) (.const (.bool true)) (.tmp 111)⟩,
    ⟨(some 14), none, .mov (.tmp 112)⟩]

def f6b : ACode := (.seq (.ops f6r0)
  (.keep [0, 1, 2, 3, 4, 12, 13] (.seq (.seq (.ops f6r1)
  (.keep [0, 1, 2, 3, 4, 12, 13, 22] (.cond (.tmp 22) (.keep [] (.seq (.ops f6r2)
  (.keep [14] .ret))) .skip)))
  (.keep [0, 1, 2, 3, 4, 12, 13] (.seq (.seq (.ops f6r3)
  (.keep [0, 1, 2, 3, 4, 12, 13, 36] (.cond (.tmp 36) (.keep [] (.seq (.ops f6r4)
  (.keep [14] .ret))) .skip)))
  (.keep [0, 1, 2, 3, 4, 12, 13] (.seq (.ops f6r5)
  (.keep [0, 1, 2, 3, 4, 12, 13, 15, 17] (.seq (.ops f6r6)
  (.keep [15, 17, 18, 20] (.seq (.seq (.draw f6r7 [(0, 0, false), (0, 0, false), (0, 0, false), (0, 0, false), (0, 0, false), (0, 0, false), (0, 0, false), (0, 0, false), (0, 0, false), (0, 0, false), (0, 0, false), (0, 0, false), (0, 0, false), (0, 0, false), (0, 0, false), (0, 0, false), (0, 0, false), (0, 0, false), (0, 0, false), (0, 0, false), (0, 0, false), (0, 0, false), (0, 0, false), (0, 0, false), (0, 0, false)])
  (.keep [15, 17, 18, 20, 87] (.cond (.tmp 87) (.keep [15, 17, 18, 20] (.seq (.ops f6r8)
  (.keep [14] .ret))) .skip)))
  (.keep [15, 18] (.seq (.ops f6r9)
  (.keep [14] .ret))))))))))))))

def f6 : AFn := ⟨113, [.tmp 14], f6b⟩

theorem f6_ok : compFn Try.prog 6 = some f6.strip := by kernel_rfl

/- function 7: weirhouse/weirhousekeep.alive9; parameters 0; operations that are not compiled: 0 -/
def f7r0 : List AInstr := [
    ⟨(some 0), none, .mov (.const (.bool false))⟩]

def f7r1 : List AInstr := [
    ⟨(some 8), none, .build [.int .i64 0, .int .i64 0] [(0, 1, (.const (.int .i64 0))), (1, 1, (.const (.int .i64 8)))]⟩,
    ⟨(some 9), none, .build [.int .i64 0, .int .i64 0] [(0, 1, (.const (.int .i64 1))), (1, 1, (.const (.int .i64 3)))]⟩,
    ⟨(some 10), none, .build [.int .i64 0, .int .i64 0] [(0, 1, (.const (.int .i64 2))), (1, 1, (.const (.int .i64 3)))]⟩,
    ⟨(some 11), none, .buildSlice 2 3 [.int .i64 0, .int .i64 0, .int .i64 0, .int .i64 0, .int .i64 0, .int .i64 0] [(0, 2, (.tmp 8)), (2, 2, (.tmp 9)), (4, 2, (.tmp 10))]⟩,
    ⟨(some 12), none, .callF 8 [.const (.int .i64 1), .const (.int .i64 2), .const (.int .i64 10), .tmp 11]⟩,
    ⟨(some 7), none, .mov (.tmp 12)⟩,
    ⟨(some 13), none, .extract 0 (.tmp 7)⟩,
    ⟨(some 14), none, .extract 1 (.tmp 7)⟩,
    ⟨(some 15), none, .extract 2 (.tmp 7)⟩,
    ⟨(some 2), none, .alloc [.int .i64 0, .int .i64 0, .int .i64 0, .int .i64 0, .int .i64 0]⟩,
    ⟨(some 1), none, .mov (.tmp 13)⟩,
    ⟨none, none, .store 5 (.tmp 2) (.tmp 14)⟩,
    ⟨(some 3), none, .mov (.tmp 15)⟩]

def f7r2 : List AInstr := [
    ⟨(some 17), none, .load (some 5) (.tmp 2)⟩,
    ⟨(some 18), none, .callF 11 [.tmp 17, .const (.int .i64 3)]⟩,
    ⟨(some 16), none, .mov (.tmp 18)⟩,
    ⟨(some 19), none, .extract 0 (.tmp 16)⟩,
    ⟨(some 20), none, .extract 1 (.tmp 16)⟩,
    ⟨(some 21), none, .extract 2 (.tmp 16)⟩,
    ⟨(some 4), none, .mov (.tmp 19)⟩,
    ⟨(some 5), none, .mov (.tmp 20)⟩,
    ⟨(some 6), none, .mov (.tmp 21)⟩]

def f7r3 : List AInstr := [
    ⟨(some 22), none, .mov (.tmp 3)⟩,
    ⟨(some 23), none, .ibin .eql (.tmp 22) (.const (.int .i64 0))⟩,
    ⟨(some 24), none, .mov (.tmp 23)⟩,
    ⟨(some 25), (some (24, true)), .mov (.tmp 6)⟩,
    ⟨(some 26), (some (24, true)), .ibin .eql (.tmp 25) (.const (.int .i64 0))⟩,
    ⟨(some 27), none, .pick (.tmp 24) (.tmp 26) (.const (.bool false))⟩,
    ⟨(some 28), none, .mov (.tmp 27)⟩,
    ⟨(some 29), (some (28, true)), .mov (.tmp 1)⟩,
    ⟨(some 30), (some (28, true)), .buildSlice 1 3 [.bool false, .bool false, .bool false] [(0, 1, (.const (.bool true))), (1, 1, (.const (.bool false))), (2, 1, (.const (.bool true)))]⟩,
    ⟨(some 31), (some (28, true)), .callF 12 [.tmp 29, .tmp 30]⟩,
    ⟨(some 32), none, .pick (.tmp 28) (.tmp 31) (.const (.bool false))⟩,
    ⟨(some 33), none, .mov (.tmp 32)⟩,
    ⟨(some 34), (some (33, true)), .fieldAddr 3 (.tmp 2)⟩,
    ⟨(some 35), (some (33, true)), .load none (.tmp 34)⟩,
    ⟨(some 36), (some (33, true)), .ibin .eql (.tmp 35) (.const (.int .i64 0))⟩,
    ⟨(some 37), none, .pick (.tmp 33) (.tmp 36) (.const (.bool false))⟩,
    ⟨(some 38), none, .mov (.tmp 37)⟩,
    ⟨(some 39), (some (38, true)), .mov (.tmp 5)⟩,
    ⟨(some 40), none, .pick (.tmp 38) (.tmp 39) (.const (.bool false))⟩,
    ⟨(some 41), none, .mov (.tmp 40)⟩,
    ⟨(some 42), (some (41, true)), .mov (.tmp 4)⟩,
    ⟨(some 43), (some (41, true)), .ibin .eql (.tmp 42) (.const (.int .i64 8))⟩,
    ⟨(some 44), none, .pick (.tmp 41) (.tmp 43) (.const (.bool false))⟩,
    ⟨(some 0), none, .mov (.tmp 44)⟩]

def f7b : ACode := (.seq (.ops f7r0)
  (.keep [] (.seq (.ops f7r1)
  (.keep [1, 2, 3] (.seq (.ops f7r2)
  (.keep [1, 2, 3, 4, 5, 6] (.seq (.ops f7r3)
  (.keep [0] .ret))))))))

def f7 : AFn := ⟨45, [.tmp 0], f7b⟩

theorem f7_ok : compFn Try.prog 7 = some f7.strip := by kernel_rfl

/- function 8: weirhouse/bucket.Play; parameters 4; operations that are not compiled: 0 -/
def f8r0 : List AInstr := [
    ⟨(some 8), none, .mov (.const (.slice none 0 0))⟩,
    ⟨(some 9), none, .alloc [.int .i64 0, .int .i64 0, .int .i64 0, .int .i64 0, .int .i64 0]⟩,
    ⟨(some 10), none, .mov (.const (.int .i64 0))⟩]

def f8r1 : List AInstr := [
    ⟨(some 22), none, .mov (.tmp 0)⟩,
    ⟨(some 23), none, .mov (.tmp 1)⟩,
    ⟨(some 24), none, .mov (.tmp 2)⟩,
    ⟨(some 25), none, .callF 13 [.tmp 22, .tmp 23, .tmp 24]⟩,
    ⟨(some 21), none, .mov (.tmp 25)⟩,
    ⟨(some 26), none, .extract 0 (.tmp 21)⟩,
    ⟨(some 27), none, .extract 1 (.tmp 21)⟩,
    ⟨(some 11), none, .alloc [.int .i64 0, .int .i64 0, .int .i64 0, .int .i64 0, .int .i64 0]⟩,
    ⟨none, none, .store 5 (.tmp 11) (.tmp 26)⟩,
    ⟨(some 12), none, .mov (.tmp 27)⟩]

def f8r2 : List AInstr := [
    ⟨(some 28), none, .mov (.tmp 12)⟩,
    ⟨(some 29), none, .ibin .neq (.tmp 28) (.const (.int .i64 0))⟩]

def f8r3 : List AInstr := [
    ⟨(some 30), none, .build [.int .i64 0, .int .i64 0, .int .i64 0, .int .i64 0, .int .i64 0] []⟩,
    ⟨(some 31), none, .mov (.tmp 12)⟩,
    ⟨(some 8), none, .mov (.const (.slice none 0 0))⟩,
    ⟨none, none, .store 5 (.tmp 9) (.tmp 30)⟩,
    ⟨(some 10), none, .mov (.tmp 31)⟩]

def f8r4 : List AInstr := [
    ⟨(some 32), none, .mov (.tmp 3)⟩,
    ⟨(some 33), none, .len (.tmp 32)⟩,
    ⟨(some 34), none, .mov (.const (.int .i64 0))⟩]

def f8r5 : List AInstr := [
    ⟨(some 35), none, .ibin .lss (.tmp 34) (.tmp 33)⟩]

def f8r6 : List AInstr := [
    ⟨(some 36), none, .mov (.tmp 34)⟩,
    ⟨(some 37), none, .indexAddr 2 (.tmp 32) (.tmp 34)⟩,
    ⟨(some 38), none, .load (some 2) (.tmp 37)⟩,
    ⟨(some 14), none, .alloc [.int .i64 0, .int .i64 0]⟩,
    ⟨(some 13), none, .mov (.tmp 36)⟩,
    ⟨none, none, .store 2 (.tmp 14) (.tmp 38)⟩]

def f8r7 : List AInstr := [
    ⟨(some 39), none, .mov (.tmp 13)⟩,
    ⟨(some 40), none, .ibin .gtr (.tmp 39) (.const (.int .i64 0))⟩,
    ⟨(some 41), none, .mov (.tmp 40)⟩,
    ⟨(some 42), (some (41, true)), .fieldAddr 0 (.tmp 14)⟩,
    ⟨(some 43), (some (41, true)), .load none (.tmp 42)⟩,
    ⟨(some 44), (some (41, true)), .mov (.tmp 3)⟩,
    ⟨(some 45), (some (41, true)), .mov (.tmp 13)⟩,
    ⟨(some 46), (some (41, true)), .ibin .sub (.tmp 45) (.const (.int .i64 1))⟩,
    ⟨(some 47), (some (41, true)), .indexAddr 2 (.tmp 44) (.tmp 46)⟩,
    ⟨(some 48), (some (41, true)), .fieldAddr 0 (.tmp 47)⟩,
    ⟨(some 49), (some (41, true)), .load none (.tmp 48)⟩,
    ⟨(some 50), (some (41, true)), .ibin .lss (.tmp 43) (.tmp 49)⟩,
    ⟨(some 51), none, .pick (.tmp 41) (.tmp 50) (.const (.bool false))⟩]

def f8r8 : List AInstr := [
    ⟨(some 52), none, .build [.int .i64 0, .int .i64 0, .int .i64 0, .int .i64 0, .int .i64 0] []⟩,
    ⟨(some 8), none, .mov (.const (.slice none 0 0))⟩,
    ⟨none, none, .store 5 (.tmp 9) (.tmp 52)⟩,
    ⟨(some 10), none, .mov (.const (.int .i64 1))⟩]

def f8r9 : List AInstr := [
    ⟨(some 53), none, .ibin .add (.tmp 34) (.const (.int .i64 1))⟩,
    ⟨(some 34), none, .mov (.tmp 53)⟩]

/-- live: [3, 9, 11, 32, 33, 34] -/
def f8l0 : ACode := (.seq (.ops f8r5)
  (.keep [3, 9, 11, 32, 33, 34, 35] (.seq (.cond (.tmp 35) .skip (.exit 0))
  (.keep [3, 9, 11, 32, 33, 34] (.seq (.block 1 (.seq (.ops f8r6)
  (.keep [3, 9, 11, 13, 14, 32, 33, 34] (.seq (.draw f8r7 [(0, 0, false), (0, 0, false), (0, 0, false), (0, 0, false), (0, 0, false), (0, 0, false), (0, 0, false), (0, 0, false), (0, 0, false), (0, 0, false), (0, 0, false), (0, 0, false), (0, 0, false)])
  (.keep [3, 9, 11, 32, 33, 34, 51] (.cond (.tmp 51) (.keep [9] (.seq (.ops f8r8)
  (.keep [8, 9, 10] .ret))) .skip))))))
  (.keep [3, 9, 11, 32, 33, 34] (.ops f8r9)))))))

def f8r11 : List AInstr := [
    ⟨(some 15), none, .mov (.const (.slice none 0 0))⟩]

def f8r12 : List AInstr := [
    ⟨(some 54), none, .mov (.tmp 3)⟩,
    ⟨(some 55), none, .len (.tmp 54)⟩,
    ⟨(some 56), none, .mov (.const (.int .i64 0))⟩]

def f8r13 : List AInstr := [
    ⟨(some 57), none, .ibin .lss (.tmp 56) (.tmp 55)⟩]

def f8r14 : List AInstr := [
    ⟨(some 58), none, .indexAddr 2 (.tmp 54) (.tmp 56)⟩,
    ⟨(some 59), none, .load (some 2) (.tmp 58)⟩,
    ⟨(some 17), none, .alloc [.int .i64 0, .int .i64 0]⟩,
    ⟨none, none, .store 2 (.tmp 17) (.tmp 59)⟩]

def f8r15 : List AInstr := [
    ⟨(some 61), none, .load (some 5) (.tmp 11)⟩,
    ⟨(some 62), none, .load (some 2) (.tmp 17)⟩,
    ⟨(some 63), none, .callF 10 [.tmp 61, .tmp 62]⟩,
    ⟨(some 60), none, .mov (.tmp 63)⟩,
    ⟨(some 64), none, .extract 0 (.tmp 60)⟩,
    ⟨(some 65), none, .extract 1 (.tmp 60)⟩,
    ⟨(some 66), none, .extract 2 (.tmp 60)⟩,
    ⟨(some 18), none, .alloc [.int .i64 0, .int .i64 0, .int .i64 0, .int .i64 0, .int .i64 0]⟩,
    ⟨none, none, .store 5 (.tmp 18) (.tmp 64)⟩,
    ⟨(some 19), none, .mov (.tmp 65)⟩,
    ⟨(some 20), none, .mov (.tmp 66)⟩]

def f8r16 : List AInstr := [
    ⟨(some 67), none, .mov (.tmp 20)⟩,
    ⟨(some 68), none, .ibin .neq (.tmp 67) (.const (.int .i64 0))⟩]

def f8r17 : List AInstr := [
    ⟨(some 69), none, .build [.int .i64 0, .int .i64 0, .int .i64 0, .int .i64 0, .int .i64 0] []⟩,
    ⟨(some 70), none, .mov (.tmp 20)⟩,
    ⟨(some 8), none, .mov (.const (.slice none 0 0))⟩,
    ⟨none, none, .store 5 (.tmp 9) (.tmp 69)⟩,
    ⟨(some 10), none, .mov (.tmp 70)⟩]

def f8r18 : List AInstr := [
    ⟨(some 71), none, .load (some 5) (.tmp 18)⟩,
    ⟨(some 72), none, .mov (.tmp 15)⟩,
    ⟨(some 73), none, .mov (.tmp 19)⟩,
    ⟨(some 74), none, .buildSlice 1 1 [.bool false] [(0, 1, (.tmp 73))]⟩,
    ⟨(some 75), none, .append 1 1 (.tmp 72) (.tmp 74)⟩,
    ⟨none, none, .store 5 (.tmp 11) (.tmp 71)⟩,
    ⟨(some 15), none, .mov (.tmp 75)⟩]

def f8r19 : List AInstr := [
    ⟨(some 76), none, .ibin .add (.tmp 56) (.const (.int .i64 1))⟩,
    ⟨(some 56), none, .mov (.tmp 76)⟩]

/-- live: [9, 11, 15, 54, 55, 56] -/
def f8l1 : ACode := (.seq (.ops f8r13)
  (.keep [9, 11, 15, 54, 55, 56, 57] (.seq (.cond (.tmp 57) .skip (.exit 2))
  (.keep [9, 11, 15, 54, 55, 56] (.seq (.block 3 (.seq (.ops f8r14)
  (.keep [9, 11, 15, 17, 54, 55, 56] (.seq (.ops f8r15)
  (.keep [9, 11, 15, 18, 19, 20, 54, 55, 56] (.seq (.seq (.ops f8r16)
  (.keep [9, 11, 15, 18, 19, 20, 54, 55, 56, 68] (.cond (.tmp 68) (.keep [9, 20] (.seq (.ops f8r17)
  (.keep [8, 9, 10] .ret))) .skip)))
  (.keep [9, 11, 15, 18, 19, 54, 55, 56] (.draw f8r18 [(0, 2, false), (0, 1, false), (0, 0, false), (0, 1, true), (1, 2, true), (2, 3, true), (3, 3, false)]))))))))
  (.keep [9, 11, 15, 54, 55, 56] (.ops f8r19)))))))

def f8r21 : List AInstr := [
    ⟨(some 77), none, .mov (.tmp 15)⟩,
    ⟨(some 78), none, .load (some 5) (.tmp 11)⟩,
    ⟨(some 8), none, .mov (.tmp 77)⟩,
    ⟨none, none, .store 5 (.tmp 9) (.tmp 78)⟩,
    ⟨(some 10), none, .mov (.const (.int .i64 0))⟩]

def f8b : ACode := (.seq (.ops f8r0)
  (.keep [0, 1, 2, 3, 9] (.seq (.ops f8r1)
  (.keep [3, 9, 11, 12] (.seq (.seq (.ops f8r2)
  (.keep [3, 9, 11, 12, 29] (.cond (.tmp 29) (.keep [9, 12] (.seq (.ops f8r3)
  (.keep [8, 9, 10] .ret))) .skip)))
  (.keep [3, 9, 11] (.seq (.seq (.ops f8r4)
  (.keep [3, 9, 11, 32, 33, 34] (.block 0 (.loop f8l0))))
  (.keep [3, 9, 11] (.seq (.ops f8r11)
  (.keep [3, 9, 11, 15] (.seq (.seq (.ops f8r12)
  (.keep [9, 11, 15, 54, 55, 56] (.block 2 (.loop f8l1))))
  (.keep [9, 11, 15] (.seq (.draw f8r21 [(0, 0, false), (0, 0, false), (0, 0, false), (0, 1, true), (1, 1, false)])
  (.keep [8, 9, 10] .ret))))))))))))))

def f8 : AFn := ⟨79, [.tmp 8, .cell 9 (some 5), .tmp 10], f8b⟩

theorem f8_ok : compFn Try.prog 8 = some f8.strip := by kernel_rfl

/- function 9: weirhouse/bucket.Fill; parameters 2; operations that are not compiled: 0 -/
def f9r0 : List AInstr := [
    ⟨(some 2), none, .box (.tmp 0)⟩,
    ⟨(some 4), none, .alloc [.int .i64 0, .int .i64 0, .int .i64 0, .int .i64 0, .int .i64 0]⟩,
    ⟨(some 5), none, .mov (.const (.int .i64 0))⟩]

def f9r1 : List AInstr := [
    ⟨(some 9), none, .load (some 5) (.tmp 2)⟩,
    ⟨(some 10), none, .callF 14 [.tmp 9]⟩,
    ⟨(some 11), none, .un .not (.tmp 10)⟩,
    ⟨(some 8), none, .mov (.tmp 11)⟩]

def f9r2 : List AInstr := [
    ⟨(some 12), none, .build [.int .i64 0, .int .i64 0, .int .i64 0, .int .i64 0, .int .i64 0] []⟩,
    ⟨none, none, .store 5 (.tmp 4) (.tmp 12)⟩,
    ⟨(some 5), none, .mov (.const (.int .i64 1))⟩]

def f9r3 : List AInstr := [
    ⟨(some 14), none, .mov (.tmp 1)⟩,
    ⟨(some 15), none, .fieldAddr 4 (.tmp 2)⟩,
    ⟨(some 16), none, .load none (.tmp 15)⟩,
    ⟨(some 17), none, .ibin .lss (.tmp 14) (.tmp 16)⟩,
    ⟨(some 18), none, .mov (.tmp 17)⟩,
    ⟨(some 19), (some (18, false)), .mov (.tmp 1)⟩,
    ⟨(some 20), (some (18, false)), .ibin .gtr (.tmp 19) (.const (.int .i64 1099511627776))⟩,
    ⟨(some 21), none, .pick (.tmp 18) (.const (.bool true)) (.tmp 20)⟩,
    ⟨(some 13), none, .mov (.tmp 21)⟩]

def f9r4 : List AInstr := [
    ⟨(some 22), none, .build [.int .i64 0, .int .i64 0, .int .i64 0, .int .i64 0, .int .i64 0] []⟩,
    ⟨none, none, .store 5 (.tmp 4) (.tmp 22)⟩,
    ⟨(some 5), none, .mov (.const (.int .i64 2))⟩]

def f9r5 : List AInstr := [
    ⟨(some 23), none, .fieldAddr 2 (.tmp 2)⟩,
    ⟨(some 24), none, .load none (.tmp 23)⟩,
    ⟨(some 25), none, .fieldAddr 1 (.tmp 2)⟩,
    ⟨(some 26), none, .load none (.tmp 25)⟩,
    ⟨(some 27), none, .ibin .mul (.tmp 24) (.tmp 26)⟩,
    ⟨(some 28), none, .fieldAddr 3 (.tmp 2)⟩,
    ⟨(some 29), none, .load none (.tmp 28)⟩,
    ⟨(some 30), none, .ibin .sub (.tmp 27) (.tmp 29)⟩,
    ⟨(some 6), none, .mov (.tmp 30)⟩]

def f9r6 : List AInstr := [
    ⟨(some 31), none, .mov (.tmp 1)⟩,
    ⟨(some 32), none, .fieldAddr 4 (.tmp 2)⟩,
    ⟨(some 33), none, .load none (.tmp 32)⟩,
    ⟨(some 34), none, .ibin .sub (.tmp 31) (.tmp 33)⟩,
    ⟨(some 7), none, .mov (.tmp 34)⟩]

def f9r7 : List AInstr := [
    ⟨(some 35), none, .fieldAddr 0 (.tmp 2)⟩,
    ⟨(some 36), none, .load none (.tmp 35)⟩,
    ⟨(some 37), none, .ibin .gtr (.tmp 36) (.const (.int .i64 0))⟩,
    ⟨(some 38), none, .mov (.tmp 37)⟩,
    ⟨(some 39), (some (38, true)), .mov (.tmp 7)⟩,
    ⟨(some 40), (some (38, true)), .mov (.tmp 6)⟩,
    ⟨(some 41), (some (38, true)), .fieldAddr 0 (.tmp 2)⟩,
    ⟨(some 42), (some (38, true)), .load none (.tmp 41)⟩,
    ⟨(some 43), (some (38, true)), .ibin .quo (.tmp 40) (.tmp 42)⟩,
    ⟨(some 44), (some (38, true)), .ibin .gtr (.tmp 39) (.tmp 43)⟩,
    ⟨(some 45), none, .pick (.tmp 38) (.tmp 44) (.const (.bool false))⟩]

def f9r8 : List AInstr := [
    ⟨(some 46), none, .fieldAddr 3 (.tmp 2)⟩,
    ⟨(some 47), none, .load none (.tmp 46)⟩,
    ⟨(some 48), none, .mov (.tmp 6)⟩,
    ⟨(some 49), none, .ibin .add (.tmp 47) (.tmp 48)⟩,
    ⟨(some 50), none, .fieldAddr 3 (.tmp 2)⟩,
    ⟨none, none, .store 1 (.tmp 50) (.tmp 49)⟩]

def f9r9 : List AInstr := [
    ⟨(some 51), none, .fieldAddr 3 (.tmp 2)⟩,
    ⟨(some 52), none, .load none (.tmp 51)⟩,
    ⟨(some 53), none, .mov (.tmp 7)⟩,
    ⟨(some 54), none, .fieldAddr 0 (.tmp 2)⟩,
    ⟨(some 55), none, .load none (.tmp 54)⟩,
    ⟨(some 56), none, .ibin .mul (.tmp 53) (.tmp 55)⟩,
    ⟨(some 57), none, .ibin .add (.tmp 52) (.tmp 56)⟩,
    ⟨(some 58), none, .fieldAddr 3 (.tmp 2)⟩,
    ⟨none, none, .store 1 (.tmp 58) (.tmp 57)⟩]

def f9r10 : List AInstr := [
    ⟨(some 59), none, .mov (.tmp 1)⟩,
    ⟨(some 60), none, .fieldAddr 4 (.tmp 2)⟩,
    ⟨none, none, .store 1 (.tmp 60) (.tmp 59)⟩]

def f9r11 : List AInstr := [
    ⟨(some 61), none, .load (some 5) (.tmp 2)⟩,
    ⟨none, none, .store 5 (.tmp 4) (.tmp 61)⟩,
    ⟨(some 5), none, .mov (.const (.int .i64 0))⟩]

def f9b : ACode := (.seq (.ops f9r0)
  (.keep [1, 2, 4] (.seq (.block 0 (.seq (.ops f9r1)
  (.keep [1, 2, 4, 8] (.cond (.tmp 8) (.keep [4] (.seq (.ops f9r2)
  (.keep [4, 5] .ret))) (.keep [1, 2, 4] (.seq (.ops f9r3)
  (.keep [1, 2, 4, 13] (.cond (.tmp 13) (.keep [4] (.seq (.ops f9r4)
  (.keep [4, 5] .ret))) .skip))))))))
  (.keep [1, 2, 4] (.seq (.ops f9r5)
  (.keep [1, 2, 4, 6] (.seq (.seq (.ops f9r6)
  (.keep [1, 2, 4, 6, 7] (.seq (.ops f9r7)
  (.keep [1, 2, 4, 6, 7, 45] (.cond (.tmp 45) (.keep [1, 2, 4, 6] (.ops f9r8)) (.keep [1, 2, 4, 7] (.ops f9r9)))))))
  (.keep [1, 2, 4] (.seq (.ops f9r10)
  (.keep [2, 4] (.seq (.ops f9r11)
  (.keep [4, 5] .ret))))))))))))

def f9 : AFn := ⟨62, [.cell 4 (some 5), .tmp 5], f9b⟩

theorem f9_ok : compFn Try.prog 9 = some f9.strip := by kernel_rfl

/- function 10: weirhouse/bucket.Take; parameters 2; operations that are not compiled: 0 -/
def f10r0 : List AInstr := [
    ⟨(some 2), none, .box (.tmp 0)⟩,
    ⟨(some 3), none, .box (.tmp 1)⟩,
    ⟨(some 4), none, .alloc [.int .i64 0, .int .i64 0, .int .i64 0, .int .i64 0, .int .i64 0]⟩,
    ⟨(some 5), none, .mov (.const (.bool false))⟩,
    ⟨(some 6), none, .mov (.const (.int .i64 0))⟩]

def f10r1 : List AInstr := [
    ⟨(some 9), none, .load (some 5) (.tmp 2)⟩,
    ⟨(some 10), none, .fieldAddr 0 (.tmp 3)⟩,
    ⟨(some 11), none, .load none (.tmp 10)⟩,
    ⟨(some 12), none, .callF 9 [.tmp 9, .tmp 11]⟩,
    ⟨(some 8), none, .mov (.tmp 12)⟩,
    ⟨(some 13), none, .extract 0 (.tmp 8)⟩,
    ⟨(some 14), none, .extract 1 (.tmp 8)⟩,
    ⟨none, none, .store 5 (.tmp 2) (.tmp 13)⟩,
    ⟨(some 7), none, .mov (.tmp 14)⟩]

def f10r2 : List AInstr := [
    ⟨(some 16), none, .mov (.tmp 7)⟩,
    ⟨(some 17), none, .ibin .neq (.tmp 16) (.const (.int .i64 0))⟩,
    ⟨(some 15), none, .mov (.tmp 17)⟩]

def f10r3 : List AInstr := [
    ⟨(some 18), none, .build [.int .i64 0, .int .i64 0, .int .i64 0, .int .i64 0, .int .i64 0] []⟩,
    ⟨(some 19), none, .mov (.tmp 7)⟩,
    ⟨none, none, .store 5 (.tmp 4) (.tmp 18)⟩,
    ⟨(some 5), none, .mov (.const (.bool false))⟩,
    ⟨(some 6), none, .mov (.tmp 19)⟩]

def f10r4 : List AInstr := [
    ⟨(some 21), none, .fieldAddr 1 (.tmp 3)⟩,
    ⟨(some 22), none, .load none (.tmp 21)⟩,
    ⟨(some 23), none, .ibin .lss (.tmp 22) (.const (.int .i64 0))⟩,
    ⟨(some 24), none, .mov (.tmp 23)⟩,
    ⟨(some 25), (some (24, false)), .fieldAddr 1 (.tmp 3)⟩,
    ⟨(some 26), (some (24, false)), .load none (.tmp 25)⟩,
    ⟨(some 27), (some (24, false)), .ibin .gtr (.tmp 26) (.const (.int .i64 1048576))⟩,
    ⟨(some 28), none, .pick (.tmp 24) (.const (.bool true)) (.tmp 27)⟩,
    ⟨(some 20), none, .mov (.tmp 28)⟩]

def f10r5 : List AInstr := [
    ⟨(some 29), none, .build [.int .i64 0, .int .i64 0, .int .i64 0, .int .i64 0, .int .i64 0] []⟩,
    ⟨none, none, .store 5 (.tmp 4) (.tmp 29)⟩,
    ⟨(some 5), none, .mov (.const (.bool false))⟩,
    ⟨(some 6), none, .mov (.const (.int .i64 2))⟩]

def f10r6 : List AInstr := [
    ⟨(some 31), none, .fieldAddr 1 (.tmp 3)⟩,
    ⟨(some 32), none, .load none (.tmp 31)⟩,
    ⟨(some 33), none, .fieldAddr 1 (.tmp 2)⟩,
    ⟨(some 34), none, .load none (.tmp 33)⟩,
    ⟨(some 35), none, .ibin .mul (.tmp 32) (.tmp 34)⟩,
    ⟨(some 36), none, .fieldAddr 3 (.tmp 2)⟩,
    ⟨(some 37), none, .load none (.tmp 36)⟩,
    ⟨(some 38), none, .ibin .gtr (.tmp 35) (.tmp 37)⟩,
    ⟨(some 30), none, .mov (.tmp 38)⟩]

def f10r7 : List AInstr := [
    ⟨(some 39), none, .load (some 5) (.tmp 2)⟩,
    ⟨none, none, .store 5 (.tmp 4) (.tmp 39)⟩,
    ⟨(some 5), none, .mov (.const (.bool false))⟩,
    ⟨(some 6), none, .mov (.const (.int .i64 0))⟩]

def f10r8 : List AInstr := [
    ⟨(some 40), none, .fieldAddr 3 (.tmp 2)⟩,
    ⟨(some 41), none, .load none (.tmp 40)⟩,
    ⟨(some 42), none, .fieldAddr 1 (.tmp 3)⟩,
    ⟨(some 43), none, .load none (.tmp 42)⟩,
    ⟨(some 44), none, .fieldAddr 1 (.tmp 2)⟩,
    ⟨(some 45), none, .load none (.tmp 44)⟩,
    ⟨(some 46), none, .ibin .mul (.tmp 43) (.tmp 45)⟩,
    ⟨(some 47), none, .ibin .sub (.tmp 41) (.tmp 46)⟩,
    ⟨(some 48), none, .fieldAddr 3 (.tmp 2)⟩,
    ⟨none, none, .store 1 (.tmp 48) (.tmp 47)⟩]

def f10r9 : List AInstr := [
    ⟨(some 49), none, .load (some 5) (.tmp 2)⟩,
    ⟨none, none, .store 5 (.tmp 4) (.tmp 49)⟩,
    ⟨(some 5), none, .mov (.const (.bool true))⟩,
    ⟨(some 6), none, .mov (.const (.int .i64 0))⟩]

def f10b : ACode := (.seq (.ops f10r0)
  (.keep [2, 3, 4] (.seq (.ops f10r1)
  (.keep [2, 3, 4, 7] (.seq (.block 0 (.seq (.ops f10r2)
  (.keep [2, 3, 4, 7, 15] (.cond (.tmp 15) (.keep [4, 7] (.seq (.ops f10r3)
  (.keep [4, 5, 6] .ret))) (.keep [2, 3, 4] (.seq (.ops f10r4)
  (.keep [2, 3, 4, 20] (.cond (.tmp 20) (.keep [4] (.seq (.ops f10r5)
  (.keep [4, 5, 6] .ret))) (.keep [2, 3, 4] (.seq (.ops f10r6)
  (.keep [2, 3, 4, 30] (.cond (.tmp 30) (.keep [2, 4] (.seq (.ops f10r7)
  (.keep [4, 5, 6] .ret))) .skip))))))))))))
  (.keep [2, 3, 4] (.seq (.ops f10r8)
  (.keep [2, 4] (.seq (.ops f10r9)
  (.keep [4, 5, 6] .ret))))))))))

def f10 : AFn := ⟨50, [.cell 4 (some 5), .tmp 5, .tmp 6], f10b⟩

theorem f10_ok : compFn Try.prog 10 = some f10.strip := by kernel_rfl

/- function 11: weirhouse/bucket.Ready; parameters 2; operations that are not compiled: 0 -/
def f11r0 : List AInstr := [
    ⟨(some 2), none, .box (.tmp 0)⟩,
    ⟨(some 4), none, .mov (.const (.int .i64 0))⟩,
    ⟨(some 5), none, .mov (.const (.bool false))⟩,
    ⟨(some 6), none, .mov (.const (.int .i64 0))⟩]

def f11r1 : List AInstr := [
    ⟨(some 10), none, .load (some 5) (.tmp 2)⟩,
    ⟨(some 11), none, .callF 14 [.tmp 10]⟩,
    ⟨(some 12), none, .un .not (.tmp 11)⟩,
    ⟨(some 9), none, .mov (.tmp 12)⟩]

def f11r2 : List AInstr := [
    ⟨(some 4), none, .mov (.const (.int .i64 0))⟩,
    ⟨(some 5), none, .mov (.const (.bool false))⟩,
    ⟨(some 6), none, .mov (.const (.int .i64 1))⟩]

def f11r3 : List AInstr := [
    ⟨(some 14), none, .mov (.tmp 1)⟩,
    ⟨(some 15), none, .ibin .lss (.tmp 14) (.const (.int .i64 0))⟩,
    ⟨(some 16), none, .mov (.tmp 15)⟩,
    ⟨(some 17), (some (16, false)), .mov (.tmp 1)⟩,
    ⟨(some 18), (some (16, false)), .ibin .gtr (.tmp 17) (.const (.int .i64 1048576))⟩,
    ⟨(some 19), none, .pick (.tmp 16) (.const (.bool true)) (.tmp 18)⟩,
    ⟨(some 13), none, .mov (.tmp 19)⟩]

def f11r4 : List AInstr := [
    ⟨(some 4), none, .mov (.const (.int .i64 0))⟩,
    ⟨(some 5), none, .mov (.const (.bool false))⟩,
    ⟨(some 6), none, .mov (.const (.int .i64 2))⟩]

def f11r5 : List AInstr := [
    ⟨(some 20), none, .mov (.tmp 1)⟩,
    ⟨(some 21), none, .fieldAddr 1 (.tmp 2)⟩,
    ⟨(some 22), none, .load none (.tmp 21)⟩,
    ⟨(some 23), none, .ibin .mul (.tmp 20) (.tmp 22)⟩,
    ⟨(some 24), none, .fieldAddr 3 (.tmp 2)⟩,
    ⟨(some 25), none, .load none (.tmp 24)⟩,
    ⟨(some 26), none, .ibin .sub (.tmp 23) (.tmp 25)⟩,
    ⟨(some 7), none, .mov (.tmp 26)⟩]

def f11r6 : List AInstr := [
    ⟨(some 28), none, .mov (.tmp 7)⟩,
    ⟨(some 29), none, .ibin .leq (.tmp 28) (.const (.int .i64 0))⟩,
    ⟨(some 27), none, .mov (.tmp 29)⟩]

def f11r7 : List AInstr := [
    ⟨(some 30), none, .fieldAddr 4 (.tmp 2)⟩,
    ⟨(some 31), none, .load none (.tmp 30)⟩,
    ⟨(some 4), none, .mov (.tmp 31)⟩,
    ⟨(some 5), none, .mov (.const (.bool true))⟩,
    ⟨(some 6), none, .mov (.const (.int .i64 0))⟩]

def f11r8 : List AInstr := [
    ⟨(some 33), none, .mov (.tmp 1)⟩,
    ⟨(some 34), none, .fieldAddr 2 (.tmp 2)⟩,
    ⟨(some 35), none, .load none (.tmp 34)⟩,
    ⟨(some 36), none, .ibin .gtr (.tmp 33) (.tmp 35)⟩,
    ⟨(some 37), none, .mov (.tmp 36)⟩,
    ⟨(some 38), (some (37, false)), .fieldAddr 0 (.tmp 2)⟩,
    ⟨(some 39), (some (37, false)), .load none (.tmp 38)⟩,
    ⟨(some 40), (some (37, false)), .ibin .eql (.tmp 39) (.const (.int .i64 0))⟩,
    ⟨(some 41), none, .pick (.tmp 37) (.const (.bool true)) (.tmp 40)⟩,
    ⟨(some 32), none, .mov (.tmp 41)⟩]

def f11r9 : List AInstr := [
    ⟨(some 4), none, .mov (.const (.int .i64 0))⟩,
    ⟨(some 5), none, .mov (.const (.bool false))⟩,
    ⟨(some 6), none, .mov (.const (.int .i64 0))⟩]

def f11r10 : List AInstr := [
    ⟨(some 42), none, .fieldAddr 4 (.tmp 2)⟩,
    ⟨(some 43), none, .load none (.tmp 42)⟩,
    ⟨(some 44), none, .mov (.tmp 7)⟩,
    ⟨(some 45), none, .fieldAddr 0 (.tmp 2)⟩,
    ⟨(some 46), none, .load none (.tmp 45)⟩,
    ⟨(some 47), none, .ibin .add (.tmp 44) (.tmp 46)⟩,
    ⟨(some 48), none, .ibin .sub (.tmp 47) (.const (.int .i64 1))⟩,
    ⟨(some 49), none, .fieldAddr 0 (.tmp 2)⟩,
    ⟨(some 50), none, .load none (.tmp 49)⟩,
    ⟨(some 51), none, .ibin .quo (.tmp 48) (.tmp 50)⟩,
    ⟨(some 52), none, .ibin .add (.tmp 43) (.tmp 51)⟩,
    ⟨(some 8), none, .mov (.tmp 52)⟩]

def f11r11 : List AInstr := [
    ⟨(some 53), none, .mov (.tmp 8)⟩,
    ⟨(some 54), none, .ibin .gtr (.tmp 53) (.const (.int .i64 1099511627776))⟩]

def f11r12 : List AInstr := [
    ⟨(some 4), none, .mov (.const (.int .i64 0))⟩,
    ⟨(some 5), none, .mov (.const (.bool false))⟩,
    ⟨(some 6), none, .mov (.const (.int .i64 0))⟩]

def f11r13 : List AInstr := [
    ⟨(some 55), none, .mov (.tmp 8)⟩,
    ⟨(some 4), none, .mov (.tmp 55)⟩,
    ⟨(some 5), none, .mov (.const (.bool true))⟩,
    ⟨(some 6), none, .mov (.const (.int .i64 0))⟩]

def f11b : ACode := (.seq (.ops f11r0)
  (.keep [1, 2] (.seq (.block 0 (.seq (.ops f11r1)
  (.keep [1, 2, 9] (.cond (.tmp 9) (.keep [] (.seq (.ops f11r2)
  (.keep [4, 5, 6] .ret))) (.keep [1, 2] (.seq (.ops f11r3)
  (.keep [1, 2, 13] (.cond (.tmp 13) (.keep [] (.seq (.ops f11r4)
  (.keep [4, 5, 6] .ret))) .skip))))))))
  (.keep [1, 2] (.seq (.ops f11r5)
  (.keep [1, 2, 7] (.seq (.block 1 (.seq (.ops f11r6)
  (.keep [1, 2, 7, 27] (.cond (.tmp 27) (.keep [2] (.seq (.ops f11r7)
  (.keep [4, 5, 6] .ret))) (.keep [1, 2, 7] (.seq (.ops f11r8)
  (.keep [2, 7, 32] (.cond (.tmp 32) (.keep [] (.seq (.ops f11r9)
  (.keep [4, 5, 6] .ret))) .skip))))))))
  (.keep [2, 7] (.seq (.draw f11r10 [(0, 0, false), (0, 0, false), (0, 0, false), (0, 0, false), (0, 0, false), (0, 0, false), (0, 0, false), (0, 0, false), (0, 0, false), (0, 0, false), (0, 0, false), (0, 0, false)])
  (.keep [8] (.seq (.seq (.ops f11r11)
  (.keep [8, 54] (.cond (.tmp 54) (.keep [] (.seq (.ops f11r12)
  (.keep [4, 5, 6] .ret))) .skip)))
  (.keep [8] (.seq (.ops f11r13)
  (.keep [4, 5, 6] .ret))))))))))))))

def f11 : AFn := ⟨56, [.tmp 4, .tmp 5, .tmp 6], f11b⟩

theorem f11_ok : compFn Try.prog 11 = some f11.strip := by kernel_rfl

/- function 12: slices.Equal[[]bool,bool]; parameters 2; operations that are not compiled: 0 -/
def f12r0 : List AInstr := [
    ⟨(some 4), none, .mov (.const (.bool false))⟩]

def f12r1 : List AInstr := [
    ⟨(some 6), none, .mov (.tmp 0)⟩,
    ⟨(some 7), none, .len (.tmp 6)⟩,
    ⟨(some 8), none, .mov (.tmp 1)⟩,
    ⟨(some 9), none, .len (.tmp 8)⟩,
    ⟨(some 10), none, .ibin .neq (.tmp 7) (.tmp 9)⟩]

def f12r2 : List AInstr := [
    ⟨(some 4), none, .mov (.const (.bool false))⟩]

def f12r3 : List AInstr := [
    ⟨(some 11), none, .mov (.tmp 0)⟩,
    ⟨(some 12), none, .len (.tmp 11)⟩,
    ⟨(some 13), none, .mov (.const (.int .i64 0))⟩]

def f12r4 : List AInstr := [
    ⟨(some 14), none, .ibin .lss (.tmp 13) (.tmp 12)⟩]

def f12r5 : List AInstr := [
    ⟨(some 15), none, .mov (.tmp 13)⟩,
    ⟨(some 5), none, .mov (.tmp 15)⟩]

def f12r6 : List AInstr := [
    ⟨(some 16), none, .mov (.tmp 0)⟩,
    ⟨(some 17), none, .mov (.tmp 5)⟩,
    ⟨(some 18), none, .indexAddr 1 (.tmp 16) (.tmp 17)⟩,
    ⟨(some 19), none, .load none (.tmp 18)⟩,
    ⟨(some 20), none, .mov (.tmp 1)⟩,
    ⟨(some 21), none, .mov (.tmp 5)⟩,
    ⟨(some 22), none, .indexAddr 1 (.tmp 20) (.tmp 21)⟩,
    ⟨(some 23), none, .load none (.tmp 22)⟩,
    ⟨(some 24), none, .eqB true (.tmp 19) (.tmp 23)⟩]

def f12r7 : List AInstr := [
    ⟨(some 4), none, .mov (.const (.bool false))⟩]

def f12r8 : List AInstr := [
    ⟨(some 25), none, .ibin .add (.tmp 13) (.const (.int .i64 1))⟩,
    ⟨(some 13), none, .mov (.tmp 25)⟩]

/-- live: [0, 1, 12, 13] -/
def f12l0 : ACode := (.seq (.ops f12r4)
  (.keep [0, 1, 12, 13, 14] (.seq (.cond (.tmp 14) .skip (.exit 0))
  (.keep [0, 1, 12, 13] (.seq (.block 1 (.seq (.ops f12r5)
  (.keep [0, 1, 5, 12, 13] (.seq (.draw f12r6 [(0, 0, false), (0, 0, false), (0, 0, false), (0, 0, false), (0, 0, false), (0, 0, false), (0, 0, false), (0, 0, false), (0, 0, false)])
  (.keep [0, 1, 12, 13, 24] (.cond (.tmp 24) (.keep [] (.seq (.ops f12r7)
  (.keep [4] .ret))) .skip))))))
  (.keep [0, 1, 12, 13] (.ops f12r8)))))))

def f12r10 : List AInstr := [
    ⟨(some 4), none, .mov (.const (.bool true))⟩]

def f12b : ACode := (.seq (.ops f12r0)
  (.keep [0, 1] (.seq (.seq (.ops f12r1)
  (.keep [0, 1, 10] (.cond (.tmp 10) (.keep [] (.seq (.ops f12r2)
  (.keep [4] .ret))) .skip)))
  (.keep [0, 1] (.seq (.seq (.ops f12r3)
  (.keep [0, 1, 12, 13] (.block 0 (.loop f12l0))))
  (.keep [] (.seq (.ops f12r10)
  (.keep [4] .ret))))))))

def f12 : AFn := ⟨26, [.tmp 4], f12b⟩

theorem f12_ok : compFn Try.prog 12 = some f12.strip := by kernel_rfl

/- function 13: weirhouse/bucket.Full; parameters 3; operations that are not compiled: 0 -/
def f13r0 : List AInstr := [
    ⟨(some 6), none, .alloc [.int .i64 0, .int .i64 0, .int .i64 0, .int .i64 0, .int .i64 0]⟩,
    ⟨(some 7), none, .mov (.const (.int .i64 0))⟩]

def f13r1 : List AInstr := [
    ⟨(some 9), none, .mov (.tmp 0)⟩,
    ⟨(some 10), none, .mov (.tmp 1)⟩,
    ⟨(some 11), none, .mov (.tmp 2)⟩,
    ⟨(some 12), none, .build [.int .i64 0, .int .i64 0, .int .i64 0, .int .i64 0, .int .i64 0] [(0, 1, (.tmp 9)), (1, 1, (.tmp 10)), (2, 1, (.tmp 11))]⟩,
    ⟨(some 8), none, .alloc [.int .i64 0, .int .i64 0, .int .i64 0, .int .i64 0, .int .i64 0]⟩,
    ⟨none, none, .store 5 (.tmp 8) (.tmp 12)⟩]

def f13r2 : List AInstr := [
    ⟨(some 13), none, .load (some 5) (.tmp 8)⟩,
    ⟨(some 14), none, .callF 14 [.tmp 13]⟩,
    ⟨(some 15), none, .un .not (.tmp 14)⟩]

def f13r3 : List AInstr := [
    ⟨(some 16), none, .build [.int .i64 0, .int .i64 0, .int .i64 0, .int .i64 0, .int .i64 0] []⟩,
    ⟨none, none, .store 5 (.tmp 6) (.tmp 16)⟩,
    ⟨(some 7), none, .mov (.const (.int .i64 2))⟩]

def f13r4 : List AInstr := [
    ⟨(some 17), none, .mov (.tmp 2)⟩,
    ⟨(some 18), none, .mov (.tmp 1)⟩,
    ⟨(some 19), none, .ibin .mul (.tmp 17) (.tmp 18)⟩,
    ⟨(some 20), none, .fieldAddr 3 (.tmp 8)⟩,
    ⟨none, none, .store 1 (.tmp 20) (.tmp 19)⟩]

def f13r5 : List AInstr := [
    ⟨(some 21), none, .load (some 5) (.tmp 8)⟩,
    ⟨none, none, .store 5 (.tmp 6) (.tmp 21)⟩,
    ⟨(some 7), none, .mov (.const (.int .i64 0))⟩]

def f13b : ACode := (.seq (.ops f13r0)
  (.keep [0, 1, 2, 6] (.seq (.ops f13r1)
  (.keep [1, 2, 6, 8] (.seq (.seq (.ops f13r2)
  (.keep [1, 2, 6, 8, 15] (.cond (.tmp 15) (.keep [6] (.seq (.ops f13r3)
  (.keep [6, 7] .ret))) .skip)))
  (.keep [1, 2, 6, 8] (.seq (.ops f13r4)
  (.keep [6, 8] (.seq (.ops f13r5)
  (.keep [6, 7] .ret))))))))))

def f13 : AFn := ⟨22, [.cell 6 (some 5), .tmp 7], f13b⟩

theorem f13_ok : compFn Try.prog 13 = some f13.strip := by kernel_rfl

/- function 14: weirhouse/bucket.Right; parameters 1; operations that are not compiled: 0 -/
def f14r0 : List AInstr := [
    ⟨(some 1), none, .box (.tmp 0)⟩,
    ⟨(some 2), none, .mov (.const (.bool false))⟩]

def f14r1 : List AInstr := [
    ⟨(some 3), none, .fieldAddr 0 (.tmp 1)⟩,
    ⟨(some 4), none, .load none (.tmp 3)⟩,
    ⟨(some 5), none, .ibin .geq (.tmp 4) (.const (.int .i64 0))⟩,
    ⟨(some 6), none, .mov (.tmp 5)⟩,
    ⟨(some 7), (some (6, true)), .fieldAddr 0 (.tmp 1)⟩,
    ⟨(some 8), (some (6, true)), .load none (.tmp 7)⟩,
    ⟨(some 9), (some (6, true)), .ibin .leq (.tmp 8) (.const (.int .i64 1048576))⟩,
    ⟨(some 10), none, .pick (.tmp 6) (.tmp 9) (.const (.bool false))⟩,
    ⟨(some 11), none, .mov (.tmp 10)⟩,
    ⟨(some 12), (some (11, true)), .fieldAddr 1 (.tmp 1)⟩,
    ⟨(some 13), (some (11, true)), .load none (.tmp 12)⟩,
    ⟨(some 14), (some (11, true)), .ibin .geq (.tmp 13) (.const (.int .i64 1))⟩,
    ⟨(some 15), none, .pick (.tmp 11) (.tmp 14) (.const (.bool false))⟩,
    ⟨(some 16), none, .mov (.tmp 15)⟩,
    ⟨(some 17), (some (16, true)), .fieldAddr 1 (.tmp 1)⟩,
    ⟨(some 18), (some (16, true)), .load none (.tmp 17)⟩,
    ⟨(some 19), (some (16, true)), .ibin .leq (.tmp 18) (.const (.int .i64 1048576))⟩,
    ⟨(some 20), none, .pick (.tmp 16) (.tmp 19) (.const (.bool false))⟩,
    ⟨(some 21), none, .mov (.tmp 20)⟩,
    ⟨(some 22), (some (21, true)), .fieldAddr 2 (.tmp 1)⟩,
    ⟨(some 23), (some (21, true)), .load none (.tmp 22)⟩,
    ⟨(some 24), (some (21, true)), .ibin .geq (.tmp 23) (.const (.int .i64 0))⟩,
    ⟨(some 25), none, .pick (.tmp 21) (.tmp 24) (.const (.bool false))⟩,
    ⟨(some 26), none, .mov (.tmp 25)⟩,
    ⟨(some 27), (some (26, true)), .fieldAddr 2 (.tmp 1)⟩,
    ⟨(some 28), (some (26, true)), .load none (.tmp 27)⟩,
    ⟨(some 29), (some (26, true)), .ibin .leq (.tmp 28) (.const (.int .i64 1048576))⟩,
    ⟨(some 30), none, .pick (.tmp 26) (.tmp 29) (.const (.bool false))⟩,
    ⟨(some 31), none, .mov (.tmp 30)⟩,
    ⟨(some 32), (some (31, true)), .fieldAddr 3 (.tmp 1)⟩,
    ⟨(some 33), (some (31, true)), .load none (.tmp 32)⟩,
    ⟨(some 34), (some (31, true)), .ibin .geq (.tmp 33) (.const (.int .i64 0))⟩,
    ⟨(some 35), none, .pick (.tmp 31) (.tmp 34) (.const (.bool false))⟩,
    ⟨(some 36), none, .mov (.tmp 35)⟩,
    ⟨(some 37), (some (36, true)), .fieldAddr 3 (.tmp 1)⟩,
    ⟨(some 38), (some (36, true)), .load none (.tmp 37)⟩,
    ⟨(some 39), (some (36, true)), .fieldAddr 2 (.tmp 1)⟩,
    ⟨(some 40), (some (36, true)), .load none (.tmp 39)⟩,
    ⟨(some 41), (some (36, true)), .fieldAddr 1 (.tmp 1)⟩,
    ⟨(some 42), (some (36, true)), .load none (.tmp 41)⟩,
    ⟨(some 43), (some (36, true)), .ibin .mul (.tmp 40) (.tmp 42)⟩,
    ⟨(some 44), (some (36, true)), .ibin .leq (.tmp 38) (.tmp 43)⟩,
    ⟨(some 45), none, .pick (.tmp 36) (.tmp 44) (.const (.bool false))⟩,
    ⟨(some 46), none, .mov (.tmp 45)⟩,
    ⟨(some 47), (some (46, true)), .fieldAddr 4 (.tmp 1)⟩,
    ⟨(some 48), (some (46, true)), .load none (.tmp 47)⟩,
    ⟨(some 49), (some (46, true)), .ibin .geq (.tmp 48) (.const (.int .i64 0))⟩,
    ⟨(some 50), none, .pick (.tmp 46) (.tmp 49) (.const (.bool false))⟩,
    ⟨(some 51), none, .mov (.tmp 50)⟩,
    ⟨(some 52), (some (51, true)), .fieldAddr 4 (.tmp 1)⟩,
    ⟨(some 53), (some (51, true)), .load none (.tmp 52)⟩,
    ⟨(some 54), (some (51, true)), .ibin .leq (.tmp 53) (.const (.int .i64 1099511627776))⟩,
    ⟨(some 55), none, .pick (.tmp 51) (.tmp 54) (.const (.bool false))⟩,
    ⟨(some 2), none, .mov (.tmp 55)⟩]

def f14b : ACode := (.seq (.ops f14r0)
  (.keep [1] (.seq (.ops f14r1)
  (.keep [2] .ret))))

def f14 : AFn := ⟨56, [.tmp 2], f14b⟩

theorem f14_ok : compFn Try.prog 14 = some f14.strip := by kernel_rfl

end Go.Proofs.Ythiigjcmaaojiaa
