/-
  The functions of this seat as abstract code. Printed by a program of this claim's writer.
-/
import Derived.Test.YtamnmcljomgboaaChecked
import Derived.Test.YtamnmcljomgboaaAmS
import Derived.KernelRfl
namespace Go.Proofs.Ytamnmcljomgboaa
open Go Go.Am

/- function 3: weirhouse/weirhousekeep.GpsLast; parameters 2; operations that are not compiled: 0 -/
def f3r0 : List AInstr := [
    ⟨(some 4), none, .mov (.const (.bool false))⟩]

def f3r1 : List AInstr := [
    ⟨(some 13), none, .callF 8 []⟩,
    ⟨(some 14), none, .un .not (.tmp 13)⟩]

def f3r2 : List AInstr := [
    ⟨(some 4), none, .mov (.const (.bool false))⟩]

def f3r3 : List AInstr := [
    ⟨(some 16), none, .mov (.tmp 0)⟩,
    ⟨(some 17), none, .mov (.tmp 1)⟩,
    ⟨(some 18), none, .callF 9 [.tmp 16, .tmp 17]⟩,
    ⟨(some 15), none, .mov (.tmp 18)⟩,
    ⟨(some 19), none, .extract 0 (.tmp 15)⟩,
    ⟨(some 20), none, .extract 1 (.tmp 15)⟩,
    ⟨(some 5), none, .mov (.tmp 19)⟩,
    ⟨(some 6), none, .mov (.tmp 20)⟩]

def f3r4 : List AInstr := [
    ⟨(some 21), none, .mov (.tmp 6)⟩,
    ⟨(some 22), none, .ibin .neq (.tmp 21) (.const (.int .i64 0))⟩,
    ⟨(some 23), none, .mov (.tmp 22)⟩,
    ⟨(some 24), (some (23, false)), .mov (.tmp 5)⟩,
    ⟨(some 25), (some (23, false)), .len (.tmp 24)⟩,
    ⟨(some 26), (some (23, false)), .mov (.tmp 0)⟩,
    ⟨(some 27), (some (23, false)), .len (.tmp 26)⟩,
    ⟨(some 28), (some (23, false)), .ibin .neq (.tmp 25) (.tmp 27)⟩,
    ⟨(some 29), none, .pick (.tmp 23) (.const (.bool true)) (.tmp 28)⟩]

def f3r5 : List AInstr := [
    ⟨(some 30), none, .mov (.tmp 6)⟩,
    ⟨(some 31), none, .ibin .neq (.tmp 30) (.const (.int .i64 0))⟩,
    ⟨(some 32), none, .mov (.tmp 31)⟩,
    ⟨(some 33), (some (32, true)), .mov (.tmp 5)⟩,
    ⟨(some 34), (some (32, true)), .len (.tmp 33)⟩,
    ⟨(some 35), (some (32, true)), .ibin .eql (.tmp 34) (.const (.int .i64 0))⟩,
    ⟨(some 36), none, .pick (.tmp 32) (.tmp 35) (.const (.bool false))⟩,
    ⟨(some 4), none, .mov (.tmp 36)⟩]

def f3r6 : List AInstr := [
    ⟨(some 7), none, .mov (.const (.int .i64 0))⟩]

def f3r7 : List AInstr := [
    ⟨(some 37), none, .mov (.tmp 0)⟩,
    ⟨(some 38), none, .len (.tmp 37)⟩,
    ⟨(some 39), none, .mov (.const (.int .i64 0))⟩]

def f3r8 : List AInstr := [
    ⟨(some 40), none, .ibin .lss (.tmp 39) (.tmp 38)⟩]

def f3r9 : List AInstr := [
    ⟨(some 41), none, .indexAddr 1 (.tmp 37) (.tmp 39)⟩,
    ⟨(some 42), none, .load none (.tmp 41)⟩,
    ⟨(some 9), none, .mov (.tmp 42)⟩]

def f3r10 : List AInstr := [
    ⟨(some 43), none, .mov (.tmp 7)⟩,
    ⟨(some 44), none, .mov (.tmp 9)⟩,
    ⟨(some 45), none, .ibin .add (.tmp 43) (.tmp 44)⟩,
    ⟨(some 7), none, .mov (.tmp 45)⟩]

def f3r11 : List AInstr := [
    ⟨(some 46), none, .ibin .add (.tmp 39) (.const (.int .i64 1))⟩,
    ⟨(some 39), none, .mov (.tmp 46)⟩]

/-- live: [0, 1, 5, 7, 37, 38, 39] -/
def f3l0 : ACode := (.seq (.ops f3r8)
  (.keep [0, 1, 5, 7, 37, 38, 39, 40] (.seq (.cond (.tmp 40) .skip (.exit 0))
  (.keep [0, 1, 5, 7, 37, 38, 39] (.seq (.block 1 (.seq (.ops f3r9)
  (.keep [0, 1, 5, 7, 9, 37, 38, 39] (.ops f3r10))))
  (.keep [0, 1, 5, 7, 37, 38, 39] (.ops f3r11)))))))

def f3r13 : List AInstr := [
    ⟨(some 47), none, .mov (.tmp 7)⟩,
    ⟨(some 48), none, .ibin .eql (.tmp 47) (.const (.int .i64 0))⟩,
    ⟨(some 10), none, .mov (.tmp 48)⟩]

def f3r14 : List AInstr := [
    ⟨(some 49), none, .mov (.tmp 5)⟩,
    ⟨(some 50), none, .len (.tmp 49)⟩,
    ⟨(some 51), none, .mov (.const (.int .i64 0))⟩]

def f3r15 : List AInstr := [
    ⟨(some 52), none, .ibin .lss (.tmp 51) (.tmp 50)⟩]

def f3r16 : List AInstr := [
    ⟨(some 53), none, .mov (.tmp 51)⟩,
    ⟨(some 54), none, .indexAddr 1 (.tmp 49) (.tmp 51)⟩,
    ⟨(some 55), none, .load none (.tmp 54)⟩,
    ⟨(some 11), none, .mov (.tmp 53)⟩,
    ⟨(some 12), none, .mov (.tmp 55)⟩]

def f3r17 : List AInstr := [
    ⟨(some 56), none, .mov (.tmp 12)⟩,
    ⟨(some 57), none, .mov (.tmp 7)⟩,
    ⟨(some 58), none, .mov (.tmp 1)⟩,
    ⟨(some 59), none, .mov (.tmp 11)⟩,
    ⟨(some 60), none, .indexAddr 1 (.tmp 58) (.tmp 59)⟩,
    ⟨(some 61), none, .load none (.tmp 60)⟩,
    ⟨(some 62), none, .ibin .mul (.tmp 57) (.tmp 61)⟩,
    ⟨(some 63), none, .ibin .gtr (.tmp 56) (.tmp 62)⟩,
    ⟨(some 64), none, .mov (.tmp 63)⟩,
    ⟨(some 65), (some (64, false)), .mov (.tmp 12)⟩,
    ⟨(some 66), (some (64, false)), .mov (.tmp 0)⟩,
    ⟨(some 67), (some (64, false)), .mov (.tmp 11)⟩,
    ⟨(some 68), (some (64, false)), .indexAddr 1 (.tmp 66) (.tmp 67)⟩,
    ⟨(some 69), (some (64, false)), .load none (.tmp 68)⟩,
    ⟨(some 70), (some (64, false)), .mov (.tmp 1)⟩,
    ⟨(some 71), (some (64, false)), .mov (.tmp 11)⟩,
    ⟨(some 72), (some (64, false)), .indexAddr 1 (.tmp 70) (.tmp 71)⟩,
    ⟨(some 73), (some (64, false)), .load none (.tmp 72)⟩,
    ⟨(some 74), (some (64, false)), .ibin .mul (.tmp 69) (.tmp 73)⟩,
    ⟨(some 75), (some (64, false)), .ibin .lss (.tmp 65) (.tmp 74)⟩,
    ⟨(some 76), none, .pick (.tmp 64) (.const (.bool true)) (.tmp 75)⟩]

def f3r18 : List AInstr := [
    ⟨(some 4), none, .mov (.const (.bool false))⟩]

def f3r19 : List AInstr := [
    ⟨(some 77), none, .mov (.tmp 10)⟩,
    ⟨(some 78), none, .mov (.tmp 77)⟩,
    ⟨(some 79), (some (78, false)), .mov (.tmp 12)⟩,
    ⟨(some 80), (some (78, false)), .mov (.tmp 7)⟩,
    ⟨(some 81), (some (78, false)), .mov (.tmp 1)⟩,
    ⟨(some 82), (some (78, false)), .mov (.tmp 11)⟩,
    ⟨(some 83), (some (78, false)), .indexAddr 1 (.tmp 81) (.tmp 82)⟩,
    ⟨(some 84), (some (78, false)), .load none (.tmp 83)⟩,
    ⟨(some 85), (some (78, false)), .ibin .mul (.tmp 80) (.tmp 84)⟩,
    ⟨(some 86), (some (78, false)), .ibin .eql (.tmp 79) (.tmp 85)⟩,
    ⟨(some 87), none, .pick (.tmp 78) (.const (.bool true)) (.tmp 86)⟩,
    ⟨(some 10), none, .mov (.tmp 87)⟩]

def f3r20 : List AInstr := [
    ⟨(some 88), none, .ibin .add (.tmp 51) (.const (.int .i64 1))⟩,
    ⟨(some 51), none, .mov (.tmp 88)⟩]

/-- live: [0, 1, 7, 10, 49, 50, 51] -/
def f3l1 : ACode := (.seq (.ops f3r15)
  (.keep [0, 1, 7, 10, 49, 50, 51, 52] (.seq (.cond (.tmp 52) .skip (.exit 2))
  (.keep [0, 1, 7, 10, 49, 50, 51] (.seq (.block 3 (.seq (.ops f3r16)
  (.keep [0, 1, 7, 10, 11, 12, 49, 50, 51] (.seq (.seq (.draw f3r17 [(0, 0, false), (0, 0, false), (0, 0, false), (0, 0, false), (0, 0, false), (0, 0, false), (0, 0, false), (0, 0, false), (0, 0, false), (0, 0, false), (0, 0, false), (0, 0, false), (0, 0, false), (0, 0, false), (0, 0, false), (0, 0, false), (0, 0, false), (0, 0, false), (0, 0, false), (0, 0, false), (0, 0, false)])
  (.keep [0, 1, 7, 10, 11, 12, 49, 50, 51, 76] (.cond (.tmp 76) (.keep [] (.seq (.ops f3r18)
  (.keep [4] .ret))) .skip)))
  (.keep [0, 1, 7, 10, 11, 12, 49, 50, 51] (.ops f3r19))))))
  (.keep [0, 1, 7, 10, 49, 50, 51] (.ops f3r20)))))))

def f3r22 : List AInstr := [
    ⟨(some 89), none, .mov (.tmp 10)⟩,
    ⟨(some 4), none, .mov (.tmp 89)⟩]

def f3b : ACode := (.seq (.ops f3r0)
  (.keep [0, 1] (.seq (.seq (.ops f3r1)
  (.keep [0, 1, 14] (.cond (.tmp 14) (.keep [] (.seq (.ops f3r2)
  (.keep [4] .ret))) .skip)))
  (.keep [0, 1] (.seq (.ops f3r3)
  (.keep [0, 1, 5, 6] (.seq (.seq (.ops f3r4)
  (.keep [0, 1, 5, 6, 29] (.cond (.tmp 29) (.keep [5, 6] (.seq (.ops f3r5)
  (.keep [4] .ret))) .skip)))
  (.keep [0, 1, 5] (.seq (.ops f3r6)
  (.keep [0, 1, 5, 7] (.seq (.seq (.ops f3r7)
  (.keep [0, 1, 5, 7, 37, 38, 39] (.block 0 (.loop f3l0))))
  (.keep [0, 1, 5, 7] (.seq (.ops f3r13)
  (.keep [0, 1, 5, 7, 10] (.seq (.seq (.ops f3r14)
  (.keep [0, 1, 7, 10, 49, 50, 51] (.block 2 (.loop f3l1))))
  (.keep [10] (.seq (.ops f3r22)
  (.keep [4] .ret))))))))))))))))))

def f3 : AFn := ⟨90, [.tmp 4], f3b⟩

theorem f3_ok : compFn Try.prog 3 = some f3.strip := by kernel_rfl

/- function 4: weirhouse/weirhousekeep.GpsShare; parameters 2; operations that are not compiled: 0 -/
def f4r0 : List AInstr := [
    ⟨(some 4), none, .mov (.const (.bool false))⟩]

def f4r1 : List AInstr := [
    ⟨(some 12), none, .callF 8 []⟩,
    ⟨(some 13), none, .un .not (.tmp 12)⟩]

def f4r2 : List AInstr := [
    ⟨(some 4), none, .mov (.const (.bool false))⟩]

def f4r3 : List AInstr := [
    ⟨(some 15), none, .mov (.tmp 0)⟩,
    ⟨(some 16), none, .mov (.tmp 1)⟩,
    ⟨(some 17), none, .callF 9 [.tmp 15, .tmp 16]⟩,
    ⟨(some 14), none, .mov (.tmp 17)⟩,
    ⟨(some 18), none, .extract 0 (.tmp 14)⟩,
    ⟨(some 19), none, .extract 1 (.tmp 14)⟩,
    ⟨(some 5), none, .mov (.tmp 18)⟩,
    ⟨(some 6), none, .mov (.tmp 19)⟩]

def f4r4 : List AInstr := [
    ⟨(some 20), none, .mov (.tmp 6)⟩,
    ⟨(some 21), none, .ibin .neq (.tmp 20) (.const (.int .i64 0))⟩,
    ⟨(some 22), none, .mov (.tmp 21)⟩,
    ⟨(some 23), (some (22, false)), .mov (.tmp 5)⟩,
    ⟨(some 24), (some (22, false)), .len (.tmp 23)⟩,
    ⟨(some 25), (some (22, false)), .mov (.tmp 0)⟩,
    ⟨(some 26), (some (22, false)), .len (.tmp 25)⟩,
    ⟨(some 27), (some (22, false)), .ibin .neq (.tmp 24) (.tmp 26)⟩,
    ⟨(some 28), none, .pick (.tmp 22) (.const (.bool true)) (.tmp 27)⟩]

def f4r5 : List AInstr := [
    ⟨(some 29), none, .mov (.tmp 6)⟩,
    ⟨(some 30), none, .ibin .neq (.tmp 29) (.const (.int .i64 0))⟩,
    ⟨(some 4), none, .mov (.tmp 30)⟩]

def f4r6 : List AInstr := [
    ⟨(some 7), none, .mov (.const (.int .i64 0))⟩]

def f4r7 : List AInstr := [
    ⟨(some 31), none, .mov (.tmp 1)⟩,
    ⟨(some 32), none, .len (.tmp 31)⟩,
    ⟨(some 33), none, .mov (.const (.int .i64 0))⟩]

def f4r8 : List AInstr := [
    ⟨(some 34), none, .ibin .lss (.tmp 33) (.tmp 32)⟩]

def f4r9 : List AInstr := [
    ⟨(some 35), none, .indexAddr 1 (.tmp 31) (.tmp 33)⟩,
    ⟨(some 36), none, .load none (.tmp 35)⟩,
    ⟨(some 9), none, .mov (.tmp 36)⟩]

def f4r10 : List AInstr := [
    ⟨(some 37), none, .mov (.tmp 7)⟩,
    ⟨(some 38), none, .mov (.tmp 9)⟩,
    ⟨(some 39), none, .ibin .add (.tmp 37) (.tmp 38)⟩,
    ⟨(some 7), none, .mov (.tmp 39)⟩]

def f4r11 : List AInstr := [
    ⟨(some 40), none, .ibin .add (.tmp 33) (.const (.int .i64 1))⟩,
    ⟨(some 33), none, .mov (.tmp 40)⟩]

/-- live: [0, 5, 7, 31, 32, 33] -/
def f4l0 : ACode := (.seq (.ops f4r8)
  (.keep [0, 5, 7, 31, 32, 33, 34] (.seq (.cond (.tmp 34) .skip (.exit 0))
  (.keep [0, 5, 7, 31, 32, 33] (.seq (.block 1 (.seq (.ops f4r9)
  (.keep [0, 5, 7, 9, 31, 32, 33] (.ops f4r10))))
  (.keep [0, 5, 7, 31, 32, 33] (.ops f4r11)))))))

def f4r13 : List AInstr := [
    ⟨(some 41), none, .mov (.tmp 5)⟩,
    ⟨(some 42), none, .len (.tmp 41)⟩,
    ⟨(some 43), none, .mov (.const (.int .i64 0))⟩]

def f4r14 : List AInstr := [
    ⟨(some 44), none, .ibin .lss (.tmp 43) (.tmp 42)⟩]

def f4r15 : List AInstr := [
    ⟨(some 45), none, .mov (.tmp 43)⟩,
    ⟨(some 46), none, .indexAddr 1 (.tmp 41) (.tmp 43)⟩,
    ⟨(some 47), none, .load none (.tmp 46)⟩,
    ⟨(some 10), none, .mov (.tmp 45)⟩,
    ⟨(some 11), none, .mov (.tmp 47)⟩]

def f4r16 : List AInstr := [
    ⟨(some 48), none, .mov (.tmp 11)⟩,
    ⟨(some 49), none, .mov (.tmp 0)⟩,
    ⟨(some 50), none, .mov (.tmp 10)⟩,
    ⟨(some 51), none, .indexAddr 1 (.tmp 49) (.tmp 50)⟩,
    ⟨(some 52), none, .load none (.tmp 51)⟩,
    ⟨(some 53), none, .mov (.tmp 7)⟩,
    ⟨(some 54), none, .ibin .mul (.tmp 52) (.tmp 53)⟩,
    ⟨(some 55), none, .ibin .gtr (.tmp 48) (.tmp 54)⟩]

def f4r17 : List AInstr := [
    ⟨(some 4), none, .mov (.const (.bool false))⟩]

def f4r18 : List AInstr := [
    ⟨(some 56), none, .ibin .add (.tmp 43) (.const (.int .i64 1))⟩,
    ⟨(some 43), none, .mov (.tmp 56)⟩]

/-- live: [0, 7, 41, 42, 43] -/
def f4l1 : ACode := (.seq (.ops f4r14)
  (.keep [0, 7, 41, 42, 43, 44] (.seq (.cond (.tmp 44) .skip (.exit 2))
  (.keep [0, 7, 41, 42, 43] (.seq (.block 3 (.seq (.ops f4r15)
  (.keep [0, 7, 10, 11, 41, 42, 43] (.seq (.ops f4r16)
  (.keep [0, 7, 41, 42, 43, 55] (.cond (.tmp 55) (.keep [] (.seq (.ops f4r17)
  (.keep [4] .ret))) .skip))))))
  (.keep [0, 7, 41, 42, 43] (.ops f4r18)))))))

def f4r20 : List AInstr := [
    ⟨(some 4), none, .mov (.const (.bool true))⟩]

def f4b : ACode := (.seq (.ops f4r0)
  (.keep [0, 1] (.seq (.seq (.ops f4r1)
  (.keep [0, 1, 13] (.cond (.tmp 13) (.keep [] (.seq (.ops f4r2)
  (.keep [4] .ret))) .skip)))
  (.keep [0, 1] (.seq (.ops f4r3)
  (.keep [0, 1, 5, 6] (.seq (.seq (.ops f4r4)
  (.keep [0, 1, 5, 6, 28] (.cond (.tmp 28) (.keep [6] (.seq (.ops f4r5)
  (.keep [4] .ret))) .skip)))
  (.keep [0, 1, 5] (.seq (.ops f4r6)
  (.keep [0, 1, 5, 7] (.seq (.seq (.ops f4r7)
  (.keep [0, 5, 7, 31, 32, 33] (.block 0 (.loop f4l0))))
  (.keep [0, 5, 7] (.seq (.seq (.ops f4r13)
  (.keep [0, 7, 41, 42, 43] (.block 2 (.loop f4l1))))
  (.keep [] (.seq (.ops f4r20)
  (.keep [4] .ret))))))))))))))))

def f4 : AFn := ⟨57, [.tmp 4], f4b⟩

theorem f4_ok : compFn Try.prog 4 = some f4.strip := by kernel_rfl

/- function 5: weirhouse/weirhousekeep.GpsWhole; parameters 2; operations that are not compiled: 0 -/
def f5r0 : List AInstr := [
    ⟨(some 4), none, .mov (.const (.bool false))⟩]

def f5r1 : List AInstr := [
    ⟨(some 10), none, .callF 8 []⟩,
    ⟨(some 11), none, .un .not (.tmp 10)⟩]

def f5r2 : List AInstr := [
    ⟨(some 4), none, .mov (.const (.bool false))⟩]

def f5r3 : List AInstr := [
    ⟨(some 13), none, .mov (.tmp 0)⟩,
    ⟨(some 14), none, .mov (.tmp 1)⟩,
    ⟨(some 15), none, .callF 9 [.tmp 13, .tmp 14]⟩,
    ⟨(some 12), none, .mov (.tmp 15)⟩,
    ⟨(some 16), none, .extract 0 (.tmp 12)⟩,
    ⟨(some 17), none, .extract 1 (.tmp 12)⟩,
    ⟨(some 5), none, .mov (.tmp 16)⟩,
    ⟨(some 6), none, .mov (.tmp 17)⟩]

def f5r4 : List AInstr := [
    ⟨(some 19), none, .mov (.tmp 0)⟩,
    ⟨(some 20), none, .mov (.tmp 1)⟩,
    ⟨(some 21), none, .callF 10 [.tmp 19, .tmp 20]⟩,
    ⟨(some 18), none, .mov (.tmp 21)⟩,
    ⟨(some 22), none, .extract 0 (.tmp 18)⟩,
    ⟨(some 23), none, .extract 1 (.tmp 18)⟩,
    ⟨(some 7), none, .mov (.tmp 22)⟩,
    ⟨(some 8), none, .mov (.tmp 23)⟩]

def f5r5 : List AInstr := [
    ⟨(some 24), none, .mov (.tmp 6)⟩,
    ⟨(some 25), none, .ibin .neq (.tmp 24) (.const (.int .i64 0))⟩,
    ⟨(some 26), none, .mov (.tmp 25)⟩,
    ⟨(some 27), (some (26, false)), .mov (.tmp 8)⟩,
    ⟨(some 28), (some (26, false)), .ibin .neq (.tmp 27) (.const (.int .i64 0))⟩,
    ⟨(some 29), none, .pick (.tmp 26) (.const (.bool true)) (.tmp 28)⟩,
    ⟨(some 30), none, .mov (.tmp 29)⟩,
    ⟨(some 31), (some (30, false)), .mov (.tmp 5)⟩,
    ⟨(some 32), (some (30, false)), .len (.tmp 31)⟩,
    ⟨(some 33), (some (30, false)), .mov (.tmp 7)⟩,
    ⟨(some 34), (some (30, false)), .len (.tmp 33)⟩,
    ⟨(some 35), (some (30, false)), .ibin .neq (.tmp 32) (.tmp 34)⟩,
    ⟨(some 36), none, .pick (.tmp 30) (.const (.bool true)) (.tmp 35)⟩,
    ⟨(some 37), none, .mov (.tmp 36)⟩,
    ⟨(some 38), (some (37, false)), .mov (.tmp 5)⟩,
    ⟨(some 39), (some (37, false)), .len (.tmp 38)⟩,
    ⟨(some 40), (some (37, false)), .mov (.tmp 0)⟩,
    ⟨(some 41), (some (37, false)), .len (.tmp 40)⟩,
    ⟨(some 42), (some (37, false)), .ibin .neq (.tmp 39) (.tmp 41)⟩,
    ⟨(some 43), none, .pick (.tmp 37) (.const (.bool true)) (.tmp 42)⟩]

def f5r6 : List AInstr := [
    ⟨(some 44), none, .mov (.tmp 6)⟩,
    ⟨(some 45), none, .ibin .neq (.tmp 44) (.const (.int .i64 0))⟩,
    ⟨(some 46), none, .mov (.tmp 45)⟩,
    ⟨(some 47), (some (46, false)), .mov (.tmp 8)⟩,
    ⟨(some 48), (some (46, false)), .ibin .neq (.tmp 47) (.const (.int .i64 0))⟩,
    ⟨(some 49), none, .pick (.tmp 46) (.const (.bool true)) (.tmp 48)⟩,
    ⟨(some 4), none, .mov (.tmp 49)⟩]

def f5r7 : List AInstr := [
    ⟨(some 50), none, .mov (.tmp 7)⟩,
    ⟨(some 51), none, .len (.tmp 50)⟩,
    ⟨(some 52), none, .mov (.const (.int .i64 0))⟩]

def f5r8 : List AInstr := [
    ⟨(some 53), none, .ibin .lss (.tmp 52) (.tmp 51)⟩]

def f5r9 : List AInstr := [
    ⟨(some 54), none, .mov (.tmp 52)⟩,
    ⟨(some 9), none, .mov (.tmp 54)⟩]

def f5r10 : List AInstr := [
    ⟨(some 55), none, .mov (.tmp 7)⟩,
    ⟨(some 56), none, .mov (.tmp 9)⟩,
    ⟨(some 57), none, .indexAddr 1 (.tmp 55) (.tmp 56)⟩,
    ⟨(some 58), none, .load none (.tmp 57)⟩,
    ⟨(some 59), none, .mov (.tmp 1)⟩,
    ⟨(some 60), none, .mov (.tmp 9)⟩,
    ⟨(some 61), none, .indexAddr 1 (.tmp 59) (.tmp 60)⟩,
    ⟨(some 62), none, .load none (.tmp 61)⟩,
    ⟨(some 63), none, .ibin .mul (.tmp 58) (.tmp 62)⟩,
    ⟨(some 64), none, .mov (.tmp 5)⟩,
    ⟨(some 65), none, .mov (.tmp 9)⟩,
    ⟨(some 66), none, .indexAddr 1 (.tmp 64) (.tmp 65)⟩,
    ⟨(some 67), none, .load none (.tmp 66)⟩,
    ⟨(some 68), none, .ibin .gtr (.tmp 63) (.tmp 67)⟩]

def f5r11 : List AInstr := [
    ⟨(some 4), none, .mov (.const (.bool false))⟩]

def f5r12 : List AInstr := [
    ⟨(some 69), none, .ibin .add (.tmp 52) (.const (.int .i64 1))⟩,
    ⟨(some 52), none, .mov (.tmp 69)⟩]

/-- live: [1, 5, 7, 51, 52] -/
def f5l0 : ACode := (.seq (.ops f5r8)
  (.keep [1, 5, 7, 51, 52, 53] (.seq (.cond (.tmp 53) .skip (.exit 0))
  (.keep [1, 5, 7, 51, 52] (.seq (.block 1 (.seq (.ops f5r9)
  (.keep [1, 5, 7, 9, 51, 52] (.seq (.draw f5r10 [(0, 0, false), (0, 0, false), (0, 0, false), (0, 0, false), (0, 0, false), (0, 0, false), (0, 0, false), (0, 0, false), (0, 0, false), (0, 0, false), (0, 0, false), (0, 0, false), (0, 0, false), (0, 0, false)])
  (.keep [1, 5, 7, 51, 52, 68] (.cond (.tmp 68) (.keep [] (.seq (.ops f5r11)
  (.keep [4] .ret))) .skip))))))
  (.keep [1, 5, 7, 51, 52] (.ops f5r12)))))))

def f5r14 : List AInstr := [
    ⟨(some 4), none, .mov (.const (.bool true))⟩]

def f5b : ACode := (.seq (.ops f5r0)
  (.keep [0, 1] (.seq (.seq (.ops f5r1)
  (.keep [0, 1, 11] (.cond (.tmp 11) (.keep [] (.seq (.ops f5r2)
  (.keep [4] .ret))) .skip)))
  (.keep [0, 1] (.seq (.ops f5r3)
  (.keep [0, 1, 5, 6] (.seq (.ops f5r4)
  (.keep [0, 1, 5, 6, 7, 8] (.seq (.seq (.ops f5r5)
  (.keep [1, 5, 6, 7, 8, 43] (.cond (.tmp 43) (.keep [6, 8] (.seq (.ops f5r6)
  (.keep [4] .ret))) .skip)))
  (.keep [1, 5, 7] (.seq (.seq (.ops f5r7)
  (.keep [1, 5, 7, 51, 52] (.block 0 (.loop f5l0))))
  (.keep [] (.seq (.ops f5r14)
  (.keep [4] .ret))))))))))))))

def f5 : AFn := ⟨70, [.tmp 4], f5b⟩

theorem f5_ok : compFn Try.prog 5 = some f5.strip := by kernel_rfl

/- function 6: weirhouse/weirhousekeep.GpsMore; parameters 4; operations that are not compiled: 0 -/
def f6r0 : List AInstr := [
    ⟨(some 8), none, .mov (.const (.bool false))⟩]

def f6r1 : List AInstr := [
    ⟨(some 18), none, .callF 8 []⟩,
    ⟨(some 19), none, .un .not (.tmp 18)⟩]

def f6r2 : List AInstr := [
    ⟨(some 8), none, .mov (.const (.bool false))⟩]

def f6r3 : List AInstr := [
    ⟨(some 20), none, .mov (.tmp 2)⟩,
    ⟨(some 21), none, .ibin .lss (.tmp 20) (.const (.int .i64 0))⟩,
    ⟨(some 22), none, .mov (.tmp 21)⟩,
    ⟨(some 23), (some (22, false)), .mov (.tmp 2)⟩,
    ⟨(some 24), (some (22, false)), .mov (.tmp 0)⟩,
    ⟨(some 25), (some (22, false)), .len (.tmp 24)⟩,
    ⟨(some 26), (some (22, false)), .ibin .geq (.tmp 23) (.tmp 25)⟩,
    ⟨(some 27), none, .pick (.tmp 22) (.const (.bool true)) (.tmp 26)⟩,
    ⟨(some 28), none, .mov (.tmp 27)⟩,
    ⟨(some 29), (some (28, false)), .mov (.tmp 2)⟩,
    ⟨(some 30), (some (28, false)), .mov (.tmp 1)⟩,
    ⟨(some 31), (some (28, false)), .len (.tmp 30)⟩,
    ⟨(some 32), (some (28, false)), .ibin .geq (.tmp 29) (.tmp 31)⟩,
    ⟨(some 33), none, .pick (.tmp 28) (.const (.bool true)) (.tmp 32)⟩,
    ⟨(some 34), none, .mov (.tmp 33)⟩,
    ⟨(some 35), (some (34, false)), .mov (.tmp 3)⟩,
    ⟨(some 36), (some (34, false)), .ibin .lss (.tmp 35) (.const (.int .i64 0))⟩,
    ⟨(some 37), none, .pick (.tmp 34) (.const (.bool true)) (.tmp 36)⟩,
    ⟨(some 38), none, .mov (.tmp 37)⟩,
    ⟨(some 39), (some (38, false)), .mov (.tmp 3)⟩,
    ⟨(some 40), (some (38, false)), .ibin .gtr (.tmp 39) (.const (.int .i64 1000))⟩,
    ⟨(some 41), none, .pick (.tmp 38) (.const (.bool true)) (.tmp 40)⟩]

def f6r4 : List AInstr := [
    ⟨(some 8), none, .mov (.const (.bool true))⟩]

def f6r5 : List AInstr := [
    ⟨(some 42), none, .mov (.tmp 0)⟩,
    ⟨(some 43), none, .callF 11 [.tmp 42]⟩,
    ⟨(some 44), none, .mov (.tmp 1)⟩,
    ⟨(some 45), none, .callF 11 [.tmp 44]⟩,
    ⟨(some 9), none, .mov (.tmp 43)⟩,
    ⟨(some 10), none, .mov (.tmp 45)⟩]

def f6r6 : List AInstr := [
    ⟨(some 46), none, .mov (.tmp 9)⟩,
    ⟨(some 47), none, .mov (.tmp 2)⟩,
    ⟨(some 48), none, .indexAddr 1 (.tmp 46) (.tmp 47)⟩,
    ⟨(some 49), none, .load none (.tmp 48)⟩,
    ⟨(some 50), none, .mov (.tmp 3)⟩,
    ⟨(some 51), none, .ibin .add (.tmp 49) (.tmp 50)⟩,
    ⟨(some 52), none, .indexAddr 1 (.tmp 46) (.tmp 47)⟩,
    ⟨none, none, .store 1 (.tmp 52) (.tmp 51)⟩]

def f6r7 : List AInstr := [
    ⟨(some 53), none, .mov (.tmp 10)⟩,
    ⟨(some 54), none, .mov (.tmp 2)⟩,
    ⟨(some 55), none, .indexAddr 1 (.tmp 53) (.tmp 54)⟩,
    ⟨(some 56), none, .load none (.tmp 55)⟩,
    ⟨(some 57), none, .mov (.tmp 3)⟩,
    ⟨(some 58), none, .ibin .add (.tmp 56) (.tmp 57)⟩,
    ⟨(some 59), none, .indexAddr 1 (.tmp 53) (.tmp 54)⟩,
    ⟨none, none, .store 1 (.tmp 59) (.tmp 58)⟩]

def f6r8 : List AInstr := [
    ⟨(some 61), none, .mov (.tmp 0)⟩,
    ⟨(some 62), none, .mov (.tmp 1)⟩,
    ⟨(some 63), none, .callF 9 [.tmp 61, .tmp 62]⟩,
    ⟨(some 60), none, .mov (.tmp 63)⟩,
    ⟨(some 64), none, .extract 0 (.tmp 60)⟩,
    ⟨(some 65), none, .extract 1 (.tmp 60)⟩,
    ⟨(some 11), none, .mov (.tmp 64)⟩,
    ⟨(some 12), none, .mov (.tmp 65)⟩]

def f6r9 : List AInstr := [
    ⟨(some 67), none, .mov (.tmp 9)⟩,
    ⟨(some 68), none, .mov (.tmp 1)⟩,
    ⟨(some 69), none, .callF 9 [.tmp 67, .tmp 68]⟩,
    ⟨(some 66), none, .mov (.tmp 69)⟩,
    ⟨(some 70), none, .extract 0 (.tmp 66)⟩,
    ⟨(some 71), none, .extract 1 (.tmp 66)⟩,
    ⟨(some 13), none, .mov (.tmp 70)⟩,
    ⟨(some 14), none, .mov (.tmp 71)⟩]

def f6r10 : List AInstr := [
    ⟨(some 73), none, .mov (.tmp 0)⟩,
    ⟨(some 74), none, .mov (.tmp 10)⟩,
    ⟨(some 75), none, .callF 9 [.tmp 73, .tmp 74]⟩,
    ⟨(some 72), none, .mov (.tmp 75)⟩,
    ⟨(some 76), none, .extract 0 (.tmp 72)⟩,
    ⟨(some 77), none, .extract 1 (.tmp 72)⟩,
    ⟨(some 15), none, .mov (.tmp 76)⟩,
    ⟨(some 16), none, .mov (.tmp 77)⟩]

def f6r11 : List AInstr := [
    ⟨(some 78), none, .mov (.tmp 12)⟩,
    ⟨(some 79), none, .ibin .neq (.tmp 78) (.const (.int .i64 0))⟩,
    ⟨(some 80), none, .mov (.tmp 79)⟩,
    ⟨(some 81), (some (80, false)), .mov (.tmp 11)⟩,
    ⟨(some 82), (some (80, false)), .len (.tmp 81)⟩,
    ⟨(some 83), (some (80, false)), .mov (.tmp 0)⟩,
    ⟨(some 84), (some (80, false)), .len (.tmp 83)⟩,
    ⟨(some 85), (some (80, false)), .ibin .neq (.tmp 82) (.tmp 84)⟩,
    ⟨(some 86), none, .pick (.tmp 80) (.const (.bool true)) (.tmp 85)⟩]

def f6r12 : List AInstr := [
    ⟨(some 87), none, .mov (.tmp 12)⟩,
    ⟨(some 88), none, .ibin .neq (.tmp 87) (.const (.int .i64 0))⟩,
    ⟨(some 8), none, .mov (.tmp 88)⟩]

def f6r13 : List AInstr := [
    ⟨(some 89), none, .mov (.tmp 14)⟩,
    ⟨(some 90), none, .ibin .eql (.tmp 89) (.const (.int .i64 0))⟩]

def f6r14 : List AInstr := [
    ⟨(some 91), none, .mov (.tmp 11)⟩,
    ⟨(some 92), none, .len (.tmp 91)⟩,
    ⟨(some 93), none, .mov (.const (.int .i64 0))⟩]

def f6r15 : List AInstr := [
    ⟨(some 94), none, .ibin .lss (.tmp 93) (.tmp 92)⟩]

def f6r16 : List AInstr := [
    ⟨(some 95), none, .mov (.tmp 93)⟩,
    ⟨(some 17), none, .mov (.tmp 95)⟩]

def f6r17 : List AInstr := [
    ⟨(some 96), none, .mov (.tmp 17)⟩,
    ⟨(some 97), none, .mov (.tmp 13)⟩,
    ⟨(some 98), none, .len (.tmp 97)⟩,
    ⟨(some 99), none, .ibin .geq (.tmp 96) (.tmp 98)⟩,
    ⟨(some 100), none, .mov (.tmp 99)⟩,
    ⟨(some 101), (some (100, false)), .mov (.tmp 13)⟩,
    ⟨(some 102), (some (100, false)), .mov (.tmp 17)⟩,
    ⟨(some 103), (some (100, false)), .indexAddr 1 (.tmp 101) (.tmp 102)⟩,
    ⟨(some 104), (some (100, false)), .load none (.tmp 103)⟩,
    ⟨(some 105), (some (100, false)), .mov (.tmp 11)⟩,
    ⟨(some 106), (some (100, false)), .mov (.tmp 17)⟩,
    ⟨(some 107), (some (100, false)), .indexAddr 1 (.tmp 105) (.tmp 106)⟩,
    ⟨(some 108), (some (100, false)), .load none (.tmp 107)⟩,
    ⟨(some 109), (some (100, false)), .ibin .lss (.tmp 104) (.tmp 108)⟩,
    ⟨(some 110), none, .pick (.tmp 100) (.const (.bool true)) (.tmp 109)⟩]

def f6r18 : List AInstr := [
    ⟨(some 8), none, .mov (.const (.bool false))⟩]

def f6r19 : List AInstr := [
    ⟨(some 111), none, .ibin .add (.tmp 93) (.const (.int .i64 1))⟩,
    ⟨(some 93), none, .mov (.tmp 111)⟩]

/-- live: [1, 2, 10, 11, 13, 15, 16, 92, 93] -/
def f6l0 : ACode := (.seq (.ops f6r15)
  (.keep [1, 2, 10, 11, 13, 15, 16, 92, 93, 94] (.seq (.cond (.tmp 94) .skip (.exit 0))
  (.keep [1, 2, 10, 11, 13, 15, 16, 92, 93] (.seq (.block 1 (.seq (.ops f6r16)
  (.keep [1, 2, 10, 11, 13, 15, 16, 17, 92, 93] (.seq (.draw f6r17 [(0, 0, false), (0, 0, false), (0, 0, false), (0, 0, false), (0, 0, false), (0, 0, false), (0, 0, false), (0, 0, false), (0, 0, false), (0, 0, false), (0, 0, false), (0, 0, false), (0, 0, false), (0, 0, false), (0, 0, false)])
  (.keep [1, 2, 10, 11, 13, 15, 16, 92, 93, 110] (.cond (.tmp 110) (.keep [] (.seq (.ops f6r18)
  (.keep [8] .ret))) .skip))))))
  (.keep [1, 2, 10, 11, 13, 15, 16, 92, 93] (.ops f6r19)))))))

def f6r21 : List AInstr := [
    ⟨(some 112), none, .mov (.tmp 16)⟩,
    ⟨(some 113), none, .ibin .neq (.tmp 112) (.const (.int .i64 0))⟩,
    ⟨(some 114), none, .mov (.tmp 113)⟩,
    ⟨(some 115), (some (114, false)), .mov (.tmp 15)⟩,
    ⟨(some 116), (some (114, false)), .len (.tmp 115)⟩,
    ⟨(some 117), (some (114, false)), .mov (.tmp 11)⟩,
    ⟨(some 118), (some (114, false)), .len (.tmp 117)⟩,
    ⟨(some 119), (some (114, false)), .ibin .eql (.tmp 116) (.tmp 118)⟩,
    ⟨(some 120), (some (114, false)), .mov (.tmp 119)⟩,
    ⟨(some 121), (some (120, true)), .mov (.tmp 15)⟩,
    ⟨(some 122), (some (120, true)), .mov (.tmp 2)⟩,
    ⟨(some 123), (some (120, true)), .indexAddr 1 (.tmp 121) (.tmp 122)⟩,
    ⟨(some 124), (some (120, true)), .load none (.tmp 123)⟩,
    ⟨(some 125), (some (120, true)), .mov (.tmp 1)⟩,
    ⟨(some 126), (some (120, true)), .mov (.tmp 2)⟩,
    ⟨(some 127), (some (120, true)), .indexAddr 1 (.tmp 125) (.tmp 126)⟩,
    ⟨(some 128), (some (120, true)), .load none (.tmp 127)⟩,
    ⟨(some 129), (some (120, true)), .ibin .mul (.tmp 124) (.tmp 128)⟩,
    ⟨(some 130), (some (120, true)), .mov (.tmp 11)⟩,
    ⟨(some 131), (some (120, true)), .mov (.tmp 2)⟩,
    ⟨(some 132), (some (120, true)), .indexAddr 1 (.tmp 130) (.tmp 131)⟩,
    ⟨(some 133), (some (120, true)), .load none (.tmp 132)⟩,
    ⟨(some 134), (some (120, true)), .mov (.tmp 10)⟩,
    ⟨(some 135), (some (120, true)), .mov (.tmp 2)⟩,
    ⟨(some 136), (some (120, true)), .indexAddr 1 (.tmp 134) (.tmp 135)⟩,
    ⟨(some 137), (some (120, true)), .load none (.tmp 136)⟩,
    ⟨(some 138), (some (120, true)), .ibin .mul (.tmp 133) (.tmp 137)⟩,
    ⟨(some 139), (some (120, true)), .ibin .leq (.tmp 129) (.tmp 138)⟩,
    ⟨(some 140), (some (114, false)), .pick (.tmp 120) (.tmp 139) (.const (.bool false))⟩,
    ⟨(some 141), none, .pick (.tmp 114) (.const (.bool true)) (.tmp 140)⟩,
    ⟨(some 8), none, .mov (.tmp 141)⟩]

def f6b : ACode := (.seq (.ops f6r0)
  (.keep [0, 1, 2, 3] (.seq (.seq (.ops f6r1)
  (.keep [0, 1, 2, 3, 19] (.cond (.tmp 19) (.keep [] (.seq (.ops f6r2)
  (.keep [8] .ret))) .skip)))
  (.keep [0, 1, 2, 3] (.seq (.seq (.ops f6r3)
  (.keep [0, 1, 2, 3, 41] (.cond (.tmp 41) (.keep [] (.seq (.ops f6r4)
  (.keep [8] .ret))) .skip)))
  (.keep [0, 1, 2, 3] (.seq (.ops f6r5)
  (.keep [0, 1, 2, 3, 9, 10] (.seq (.ops f6r6)
  (.keep [0, 1, 2, 3, 9, 10] (.seq (.ops f6r7)
  (.keep [0, 1, 2, 9, 10] (.seq (.ops f6r8)
  (.keep [0, 1, 2, 9, 10, 11, 12] (.seq (.ops f6r9)
  (.keep [0, 1, 2, 10, 11, 12, 13, 14] (.seq (.ops f6r10)
  (.keep [0, 1, 2, 10, 11, 12, 13, 14, 15, 16] (.seq (.seq (.ops f6r11)
  (.keep [1, 2, 10, 11, 12, 13, 14, 15, 16, 86] (.cond (.tmp 86) (.keep [12] (.seq (.ops f6r12)
  (.keep [8] .ret))) .skip)))
  (.keep [1, 2, 10, 11, 13, 14, 15, 16] (.seq (.seq (.ops f6r13)
  (.keep [1, 2, 10, 11, 13, 15, 16, 90] (.cond (.tmp 90) (.keep [1, 2, 10, 11, 13, 15, 16] (.seq (.ops f6r14)
  (.keep [1, 2, 10, 11, 13, 15, 16, 92, 93] (.block 0 (.loop f6l0))))) .skip)))
  (.keep [1, 2, 10, 11, 15, 16] (.seq (.draw f6r21 [(0, 0, false), (0, 0, false), (0, 0, false), (0, 0, false), (0, 0, false), (0, 0, false), (0, 0, false), (0, 0, false), (0, 0, false), (0, 0, false), (0, 0, false), (0, 0, false), (0, 0, false), (0, 0, false), (0, 0, false), (0, 0, false), (0, 0, false), (0, 0, false), (0, 0, false), (0, 0, false), (0, 0, false), (0, 0, false), (0, 0, false), (0, 0, false), (0, 0, false), (0, 0, false), (0, 0, false), (0, 0, false), (0, 0, false), (0, 0, false), (0, 0, false)])
  (.keep [8] .ret))))))))))))))))))))))))

def f6 : AFn := ⟨142, [.tmp 8], f6b⟩

theorem f6_ok : compFn Try.prog 6 = some f6.strip := by kernel_rfl

/- function 7: weirhouse/weirhousekeep.GpsScale; parameters 3; operations that are not compiled: 0 -/
def f7r0 : List AInstr := [
    ⟨(some 6), none, .mov (.const (.bool false))⟩]

def f7r1 : List AInstr := [
    ⟨(some 18), none, .callF 8 []⟩,
    ⟨(some 19), none, .un .not (.tmp 18)⟩]

def f7r2 : List AInstr := [
    ⟨(some 6), none, .mov (.const (.bool false))⟩]

def f7r3 : List AInstr := [
    ⟨(some 20), none, .mov (.tmp 2)⟩,
    ⟨(some 21), none, .ibin .lss (.tmp 20) (.const (.int .i64 1))⟩,
    ⟨(some 22), none, .mov (.tmp 21)⟩,
    ⟨(some 23), (some (22, false)), .mov (.tmp 2)⟩,
    ⟨(some 24), (some (22, false)), .ibin .gtr (.tmp 23) (.const (.int .i64 20))⟩,
    ⟨(some 25), none, .pick (.tmp 22) (.const (.bool true)) (.tmp 24)⟩]

def f7r4 : List AInstr := [
    ⟨(some 6), none, .mov (.const (.bool true))⟩]

def f7r5 : List AInstr := [
    ⟨(some 26), none, .mov (.tmp 0)⟩,
    ⟨(some 27), none, .callF 11 [.tmp 26]⟩,
    ⟨(some 28), none, .mov (.tmp 1)⟩,
    ⟨(some 29), none, .callF 11 [.tmp 28]⟩,
    ⟨(some 7), none, .mov (.tmp 27)⟩,
    ⟨(some 8), none, .mov (.tmp 29)⟩]

def f7r6 : List AInstr := [
    ⟨(some 30), none, .mov (.tmp 7)⟩,
    ⟨(some 31), none, .len (.tmp 30)⟩,
    ⟨(some 32), none, .mov (.const (.int .i64 0))⟩]

def f7r7 : List AInstr := [
    ⟨(some 33), none, .ibin .lss (.tmp 32) (.tmp 31)⟩]

def f7r8 : List AInstr := [
    ⟨(some 34), none, .mov (.tmp 32)⟩,
    ⟨(some 9), none, .mov (.tmp 34)⟩]

def f7r9 : List AInstr := [
    ⟨(some 35), none, .mov (.tmp 7)⟩,
    ⟨(some 36), none, .mov (.tmp 9)⟩,
    ⟨(some 37), none, .indexAddr 1 (.tmp 35) (.tmp 36)⟩,
    ⟨(some 38), none, .load none (.tmp 37)⟩,
    ⟨(some 39), none, .mov (.tmp 2)⟩,
    ⟨(some 40), none, .ibin .mul (.tmp 38) (.tmp 39)⟩,
    ⟨(some 41), none, .indexAddr 1 (.tmp 35) (.tmp 36)⟩,
    ⟨none, none, .store 1 (.tmp 41) (.tmp 40)⟩]

def f7r10 : List AInstr := [
    ⟨(some 42), none, .ibin .add (.tmp 32) (.const (.int .i64 1))⟩,
    ⟨(some 32), none, .mov (.tmp 42)⟩]

/-- live: [0, 1, 2, 7, 8, 31, 32] -/
def f7l0 : ACode := (.seq (.ops f7r7)
  (.keep [0, 1, 2, 7, 8, 31, 32, 33] (.seq (.cond (.tmp 33) .skip (.exit 0))
  (.keep [0, 1, 2, 7, 8, 31, 32] (.seq (.block 1 (.seq (.ops f7r8)
  (.keep [0, 1, 2, 7, 8, 9, 31, 32] (.ops f7r9))))
  (.keep [0, 1, 2, 7, 8, 31, 32] (.ops f7r10)))))))

def f7r12 : List AInstr := [
    ⟨(some 43), none, .mov (.tmp 8)⟩,
    ⟨(some 44), none, .len (.tmp 43)⟩,
    ⟨(some 45), none, .mov (.const (.int .i64 0))⟩]

def f7r13 : List AInstr := [
    ⟨(some 46), none, .ibin .lss (.tmp 45) (.tmp 44)⟩]

def f7r14 : List AInstr := [
    ⟨(some 47), none, .mov (.tmp 45)⟩,
    ⟨(some 10), none, .mov (.tmp 47)⟩]

def f7r15 : List AInstr := [
    ⟨(some 48), none, .mov (.tmp 8)⟩,
    ⟨(some 49), none, .mov (.tmp 10)⟩,
    ⟨(some 50), none, .indexAddr 1 (.tmp 48) (.tmp 49)⟩,
    ⟨(some 51), none, .load none (.tmp 50)⟩,
    ⟨(some 52), none, .mov (.tmp 2)⟩,
    ⟨(some 53), none, .ibin .mul (.tmp 51) (.tmp 52)⟩,
    ⟨(some 54), none, .indexAddr 1 (.tmp 48) (.tmp 49)⟩,
    ⟨none, none, .store 1 (.tmp 54) (.tmp 53)⟩]

def f7r16 : List AInstr := [
    ⟨(some 55), none, .ibin .add (.tmp 45) (.const (.int .i64 1))⟩,
    ⟨(some 45), none, .mov (.tmp 55)⟩]

/-- live: [0, 1, 2, 7, 8, 44, 45] -/
def f7l1 : ACode := (.seq (.ops f7r13)
  (.keep [0, 1, 2, 7, 8, 44, 45, 46] (.seq (.cond (.tmp 46) .skip (.exit 2))
  (.keep [0, 1, 2, 7, 8, 44, 45] (.seq (.block 3 (.seq (.ops f7r14)
  (.keep [0, 1, 2, 7, 8, 10, 44, 45] (.ops f7r15))))
  (.keep [0, 1, 2, 7, 8, 44, 45] (.ops f7r16)))))))

def f7r18 : List AInstr := [
    ⟨(some 57), none, .mov (.tmp 0)⟩,
    ⟨(some 58), none, .mov (.tmp 1)⟩,
    ⟨(some 59), none, .callF 9 [.tmp 57, .tmp 58]⟩,
    ⟨(some 56), none, .mov (.tmp 59)⟩,
    ⟨(some 60), none, .extract 0 (.tmp 56)⟩,
    ⟨(some 61), none, .extract 1 (.tmp 56)⟩,
    ⟨(some 11), none, .mov (.tmp 60)⟩,
    ⟨(some 12), none, .mov (.tmp 61)⟩]

def f7r19 : List AInstr := [
    ⟨(some 63), none, .mov (.tmp 0)⟩,
    ⟨(some 64), none, .mov (.tmp 8)⟩,
    ⟨(some 65), none, .callF 9 [.tmp 63, .tmp 64]⟩,
    ⟨(some 62), none, .mov (.tmp 65)⟩,
    ⟨(some 66), none, .extract 0 (.tmp 62)⟩,
    ⟨(some 67), none, .extract 1 (.tmp 62)⟩,
    ⟨(some 13), none, .mov (.tmp 66)⟩,
    ⟨(some 14), none, .mov (.tmp 67)⟩]

def f7r20 : List AInstr := [
    ⟨(some 69), none, .mov (.tmp 7)⟩,
    ⟨(some 70), none, .mov (.tmp 1)⟩,
    ⟨(some 71), none, .callF 9 [.tmp 69, .tmp 70]⟩,
    ⟨(some 68), none, .mov (.tmp 71)⟩,
    ⟨(some 72), none, .extract 0 (.tmp 68)⟩,
    ⟨(some 73), none, .extract 1 (.tmp 68)⟩,
    ⟨(some 15), none, .mov (.tmp 72)⟩,
    ⟨(some 16), none, .mov (.tmp 73)⟩]

def f7r21 : List AInstr := [
    ⟨(some 74), none, .mov (.tmp 12)⟩,
    ⟨(some 75), none, .ibin .neq (.tmp 74) (.const (.int .i64 0))⟩]

def f7r22 : List AInstr := [
    ⟨(some 76), none, .mov (.tmp 11)⟩,
    ⟨(some 77), none, .len (.tmp 76)⟩,
    ⟨(some 78), none, .ibin .eql (.tmp 77) (.const (.int .i64 0))⟩,
    ⟨(some 6), none, .mov (.tmp 78)⟩]

def f7r23 : List AInstr := [
    ⟨(some 79), none, .mov (.tmp 11)⟩,
    ⟨(some 80), none, .len (.tmp 79)⟩,
    ⟨(some 81), none, .mov (.const (.int .i64 0))⟩]

def f7r24 : List AInstr := [
    ⟨(some 82), none, .ibin .lss (.tmp 81) (.tmp 80)⟩]

def f7r25 : List AInstr := [
    ⟨(some 83), none, .mov (.tmp 81)⟩,
    ⟨(some 17), none, .mov (.tmp 83)⟩]

def f7r26 : List AInstr := [
    ⟨(some 84), none, .mov (.tmp 14)⟩,
    ⟨(some 85), none, .ibin .eql (.tmp 84) (.const (.int .i64 0))⟩,
    ⟨(some 86), none, .mov (.tmp 85)⟩,
    ⟨(some 87), (some (86, true)), .mov (.tmp 17)⟩,
    ⟨(some 88), (some (86, true)), .mov (.tmp 13)⟩,
    ⟨(some 89), (some (86, true)), .len (.tmp 88)⟩,
    ⟨(some 90), (some (86, true)), .ibin .geq (.tmp 87) (.tmp 89)⟩,
    ⟨(some 91), (some (86, true)), .mov (.tmp 90)⟩,
    ⟨(some 92), (some (91, false)), .mov (.tmp 13)⟩,
    ⟨(some 93), (some (91, false)), .mov (.tmp 17)⟩,
    ⟨(some 94), (some (91, false)), .indexAddr 1 (.tmp 92) (.tmp 93)⟩,
    ⟨(some 95), (some (91, false)), .load none (.tmp 94)⟩,
    ⟨(some 96), (some (91, false)), .mov (.tmp 2)⟩,
    ⟨(some 97), (some (91, false)), .mov (.tmp 11)⟩,
    ⟨(some 98), (some (91, false)), .mov (.tmp 17)⟩,
    ⟨(some 99), (some (91, false)), .indexAddr 1 (.tmp 97) (.tmp 98)⟩,
    ⟨(some 100), (some (91, false)), .load none (.tmp 99)⟩,
    ⟨(some 101), (some (91, false)), .ibin .mul (.tmp 96) (.tmp 100)⟩,
    ⟨(some 102), (some (91, false)), .ibin .neq (.tmp 95) (.tmp 101)⟩,
    ⟨(some 103), (some (86, true)), .pick (.tmp 91) (.const (.bool true)) (.tmp 102)⟩,
    ⟨(some 104), none, .pick (.tmp 86) (.tmp 103) (.const (.bool false))⟩,
    ⟨(some 105), none, .mov (.tmp 104)⟩,
    ⟨(some 106), (some (105, false)), .mov (.tmp 16)⟩,
    ⟨(some 107), (some (105, false)), .ibin .eql (.tmp 106) (.const (.int .i64 0))⟩,
    ⟨(some 108), (some (105, false)), .mov (.tmp 107)⟩,
    ⟨(some 109), (some (108, true)), .mov (.tmp 17)⟩,
    ⟨(some 110), (some (108, true)), .mov (.tmp 15)⟩,
    ⟨(some 111), (some (108, true)), .len (.tmp 110)⟩,
    ⟨(some 112), (some (108, true)), .ibin .geq (.tmp 109) (.tmp 111)⟩,
    ⟨(some 113), (some (108, true)), .mov (.tmp 112)⟩,
    ⟨(some 114), (some (113, false)), .mov (.tmp 15)⟩,
    ⟨(some 115), (some (113, false)), .mov (.tmp 17)⟩,
    ⟨(some 116), (some (113, false)), .indexAddr 1 (.tmp 114) (.tmp 115)⟩,
    ⟨(some 117), (some (113, false)), .load none (.tmp 116)⟩,
    ⟨(some 118), (some (113, false)), .mov (.tmp 2)⟩,
    ⟨(some 119), (some (113, false)), .mov (.tmp 11)⟩,
    ⟨(some 120), (some (113, false)), .mov (.tmp 17)⟩,
    ⟨(some 121), (some (113, false)), .indexAddr 1 (.tmp 119) (.tmp 120)⟩,
    ⟨(some 122), (some (113, false)), .load none (.tmp 121)⟩,
    ⟨(some 123), (some (113, false)), .ibin .mul (.tmp 118) (.tmp 122)⟩,
    ⟨(some 124), (some (113, false)), .ibin .neq (.tmp 117) (.tmp 123)⟩,
    ⟨(some 125), (some (108, true)), .pick (.tmp 113) (.const (.bool true)) (.tmp 124)⟩,
    ⟨(some 126), (some (105, false)), .pick (.tmp 108) (.tmp 125) (.const (.bool false))⟩,
    ⟨(some 127), none, .pick (.tmp 105) (.const (.bool true)) (.tmp 126)⟩]

def f7r27 : List AInstr := [
    ⟨(some 6), none, .mov (.const (.bool false))⟩]

def f7r28 : List AInstr := [
    ⟨(some 128), none, .ibin .add (.tmp 81) (.const (.int .i64 1))⟩,
    ⟨(some 81), none, .mov (.tmp 128)⟩]

/-- live: [2, 11, 13, 14, 15, 16, 80, 81] -/
def f7l2 : ACode := (.seq (.ops f7r24)
  (.keep [2, 11, 13, 14, 15, 16, 80, 81, 82] (.seq (.cond (.tmp 82) .skip (.exit 4))
  (.keep [2, 11, 13, 14, 15, 16, 80, 81] (.seq (.block 5 (.seq (.ops f7r25)
  (.keep [2, 11, 13, 14, 15, 16, 17, 80, 81] (.seq (.draw f7r26 [(0, 0, false), (0, 0, false), (0, 0, false), (0, 0, false), (0, 0, false), (0, 0, false), (0, 0, false), (0, 0, false), (0, 0, false), (0, 0, false), (0, 0, false), (0, 0, false), (0, 0, false), (0, 0, false), (0, 0, false), (0, 0, false), (0, 0, false), (0, 0, false), (0, 0, false), (0, 0, false), (0, 0, false), (0, 0, false), (0, 0, false), (0, 0, false), (0, 0, false), (0, 0, false), (0, 0, false), (0, 0, false), (0, 0, false), (0, 0, false), (0, 0, false), (0, 0, false), (0, 0, false), (0, 0, false), (0, 0, false), (0, 0, false), (0, 0, false), (0, 0, false), (0, 0, false), (0, 0, false), (0, 0, false), (0, 0, false), (0, 0, false), (0, 0, false)])
  (.keep [2, 11, 13, 14, 15, 16, 80, 81, 127] (.cond (.tmp 127) (.keep [] (.seq (.ops f7r27)
  (.keep [6] .ret))) .skip))))))
  (.keep [2, 11, 13, 14, 15, 16, 80, 81] (.ops f7r28)))))))

def f7r30 : List AInstr := [
    ⟨(some 6), none, .mov (.const (.bool true))⟩]

def f7b : ACode := (.seq (.ops f7r0)
  (.keep [0, 1, 2] (.seq (.seq (.ops f7r1)
  (.keep [0, 1, 2, 19] (.cond (.tmp 19) (.keep [] (.seq (.ops f7r2)
  (.keep [6] .ret))) .skip)))
  (.keep [0, 1, 2] (.seq (.seq (.ops f7r3)
  (.keep [0, 1, 2, 25] (.cond (.tmp 25) (.keep [] (.seq (.ops f7r4)
  (.keep [6] .ret))) .skip)))
  (.keep [0, 1, 2] (.seq (.ops f7r5)
  (.keep [0, 1, 2, 7, 8] (.seq (.seq (.ops f7r6)
  (.keep [0, 1, 2, 7, 8, 31, 32] (.block 0 (.loop f7l0))))
  (.keep [0, 1, 2, 7, 8] (.seq (.seq (.ops f7r12)
  (.keep [0, 1, 2, 7, 8, 44, 45] (.block 2 (.loop f7l1))))
  (.keep [0, 1, 2, 7, 8] (.seq (.ops f7r18)
  (.keep [0, 1, 2, 7, 8, 11, 12] (.seq (.ops f7r19)
  (.keep [1, 2, 7, 11, 12, 13, 14] (.seq (.ops f7r20)
  (.keep [2, 11, 12, 13, 14, 15, 16] (.seq (.seq (.ops f7r21)
  (.keep [2, 11, 13, 14, 15, 16, 75] (.cond (.tmp 75) (.keep [11] (.seq (.ops f7r22)
  (.keep [6] .ret))) .skip)))
  (.keep [2, 11, 13, 14, 15, 16] (.seq (.seq (.ops f7r23)
  (.keep [2, 11, 13, 14, 15, 16, 80, 81] (.block 4 (.loop f7l2))))
  (.keep [] (.seq (.ops f7r30)
  (.keep [6] .ret))))))))))))))))))))))))

def f7 : AFn := ⟨129, [.tmp 6], f7b⟩

theorem f7_ok : compFn Try.prog 7 = some f7.strip := by kernel_rfl

/- function 8: weirhouse/weirhousekeep.alive13; parameters 0; operations that are not compiled: 0 -/
def f8r0 : List AInstr := [
    ⟨(some 0), none, .mov (.const (.bool false))⟩]

def f8r1 : List AInstr := [
    ⟨(some 8), none, .buildSlice 1 3 [.int .i64 0, .int .i64 0, .int .i64 0] [(0, 1, (.const (.int .i64 6))), (1, 1, (.const (.int .i64 2))), (2, 1, (.const (.int .i64 0)))]⟩,
    ⟨(some 9), none, .buildSlice 1 3 [.int .i64 0, .int .i64 0, .int .i64 0] [(0, 1, (.const (.int .i64 1))), (1, 1, (.const (.int .i64 2))), (2, 1, (.const (.int .i64 1)))]⟩,
    ⟨(some 10), none, .callF 9 [.tmp 8, .tmp 9]⟩,
    ⟨(some 7), none, .mov (.tmp 10)⟩,
    ⟨(some 11), none, .extract 0 (.tmp 7)⟩,
    ⟨(some 12), none, .extract 1 (.tmp 7)⟩,
    ⟨(some 1), none, .mov (.tmp 11)⟩,
    ⟨(some 2), none, .mov (.tmp 12)⟩]

def f8r2 : List AInstr := [
    ⟨(some 14), none, .buildSlice 1 3 [.int .i64 0, .int .i64 0, .int .i64 0] [(0, 1, (.const (.int .i64 6))), (1, 1, (.const (.int .i64 2))), (2, 1, (.const (.int .i64 0)))]⟩,
    ⟨(some 15), none, .buildSlice 1 3 [.int .i64 0, .int .i64 0, .int .i64 0] [(0, 1, (.const (.int .i64 1))), (1, 1, (.const (.int .i64 2))), (2, 1, (.const (.int .i64 1)))]⟩,
    ⟨(some 16), none, .callF 12 [.tmp 14, .tmp 15]⟩,
    ⟨(some 13), none, .mov (.tmp 16)⟩,
    ⟨(some 17), none, .extract 0 (.tmp 13)⟩,
    ⟨(some 18), none, .extract 1 (.tmp 13)⟩,
    ⟨(some 3), none, .mov (.tmp 17)⟩,
    ⟨(some 4), none, .mov (.tmp 18)⟩]

def f8r3 : List AInstr := [
    ⟨(some 20), none, .buildSlice 1 3 [.int .i64 0, .int .i64 0, .int .i64 0] [(0, 1, (.const (.int .i64 6))), (1, 1, (.const (.int .i64 2))), (2, 1, (.const (.int .i64 0)))]⟩,
    ⟨(some 21), none, .buildSlice 1 3 [.int .i64 0, .int .i64 0, .int .i64 0] [(0, 1, (.const (.int .i64 1))), (1, 1, (.const (.int .i64 2))), (2, 1, (.const (.int .i64 1)))]⟩,
    ⟨(some 22), none, .callF 10 [.tmp 20, .tmp 21]⟩,
    ⟨(some 19), none, .mov (.tmp 22)⟩,
    ⟨(some 23), none, .extract 0 (.tmp 19)⟩,
    ⟨(some 24), none, .extract 1 (.tmp 19)⟩,
    ⟨(some 5), none, .mov (.tmp 23)⟩,
    ⟨(some 6), none, .mov (.tmp 24)⟩]

def f8r4 : List AInstr := [
    ⟨(some 25), none, .mov (.tmp 2)⟩,
    ⟨(some 26), none, .ibin .eql (.tmp 25) (.const (.int .i64 0))⟩,
    ⟨(some 27), none, .mov (.tmp 26)⟩,
    ⟨(some 28), (some (27, true)), .mov (.tmp 4)⟩,
    ⟨(some 29), (some (27, true)), .ibin .eql (.tmp 28) (.const (.int .i64 0))⟩,
    ⟨(some 30), none, .pick (.tmp 27) (.tmp 29) (.const (.bool false))⟩,
    ⟨(some 31), none, .mov (.tmp 30)⟩,
    ⟨(some 32), (some (31, true)), .mov (.tmp 6)⟩,
    ⟨(some 33), (some (31, true)), .ibin .eql (.tmp 32) (.const (.int .i64 0))⟩,
    ⟨(some 34), none, .pick (.tmp 31) (.tmp 33) (.const (.bool false))⟩,
    ⟨(some 35), none, .mov (.tmp 34)⟩,
    ⟨(some 36), (some (35, true)), .mov (.tmp 1)⟩,
    ⟨(some 37), (some (35, true)), .buildSlice 1 3 [.int .i64 0, .int .i64 0, .int .i64 0] [(0, 1, (.const (.int .i64 8))), (1, 1, (.const (.int .i64 6))), (2, 1, (.const (.int .i64 0)))]⟩,
    ⟨(some 38), (some (35, true)), .callF 13 [.tmp 36, .tmp 37]⟩,
    ⟨(some 39), none, .pick (.tmp 35) (.tmp 38) (.const (.bool false))⟩,
    ⟨(some 40), none, .mov (.tmp 39)⟩,
    ⟨(some 41), (some (40, true)), .mov (.tmp 3)⟩,
    ⟨(some 42), (some (40, true)), .buildSlice 1 3 [.int .i64 0, .int .i64 0, .int .i64 0] [(0, 1, (.const (.int .i64 2))), (1, 1, (.const (.int .i64 1))), (2, 1, (.const (.int .i64 0)))]⟩,
    ⟨(some 43), (some (40, true)), .callF 13 [.tmp 41, .tmp 42]⟩,
    ⟨(some 44), none, .pick (.tmp 40) (.tmp 43) (.const (.bool false))⟩,
    ⟨(some 45), none, .mov (.tmp 44)⟩,
    ⟨(some 46), (some (45, true)), .mov (.tmp 5)⟩,
    ⟨(some 47), (some (45, true)), .buildSlice 1 3 [.int .i64 0, .int .i64 0, .int .i64 0] [(0, 1, (.const (.int .i64 8))), (1, 1, (.const (.int .i64 2))), (2, 1, (.const (.int .i64 0)))]⟩,
    ⟨(some 48), (some (45, true)), .callF 13 [.tmp 46, .tmp 47]⟩,
    ⟨(some 49), none, .pick (.tmp 45) (.tmp 48) (.const (.bool false))⟩,
    ⟨(some 0), none, .mov (.tmp 49)⟩]

def f8b : ACode := (.seq (.ops f8r0)
  (.keep [] (.seq (.ops f8r1)
  (.keep [1, 2] (.seq (.ops f8r2)
  (.keep [1, 2, 3, 4] (.seq (.ops f8r3)
  (.keep [1, 2, 3, 4, 5, 6] (.seq (.ops f8r4)
  (.keep [0] .ret))))))))))

def f8 : AFn := ⟨50, [.tmp 0], f8b⟩

theorem f8_ok : compFn Try.prog 8 = some f8.strip := by kernel_rfl

/- function 9: weirhouse/gps.End; parameters 2; operations that are not compiled: 0 -/
def f9r0 : List AInstr := [
    ⟨(some 4), none, .mov (.const (.slice none 0 0))⟩,
    ⟨(some 5), none, .mov (.const (.int .i64 0))⟩]

def f9r1 : List AInstr := [
    ⟨(some 13), none, .mov (.tmp 0)⟩,
    ⟨(some 14), none, .mov (.tmp 1)⟩,
    ⟨(some 15), none, .callF 14 [.tmp 13, .tmp 14]⟩,
    ⟨(some 6), none, .mov (.tmp 15)⟩]

def f9r2 : List AInstr := [
    ⟨(some 16), none, .mov (.tmp 6)⟩,
    ⟨(some 17), none, .ibin .neq (.tmp 16) (.const (.int .i64 0))⟩]

def f9r3 : List AInstr := [
    ⟨(some 18), none, .mov (.tmp 6)⟩,
    ⟨(some 4), none, .mov (.const (.slice none 0 0))⟩,
    ⟨(some 5), none, .mov (.tmp 18)⟩]

def f9r4 : List AInstr := [
    ⟨(some 7), none, .mov (.const (.slice none 0 0))⟩]

def f9r5 : List AInstr := [
    ⟨(some 19), none, .mov (.tmp 0)⟩,
    ⟨(some 20), none, .len (.tmp 19)⟩,
    ⟨(some 21), none, .mov (.const (.int .i64 0))⟩]

def f9r6 : List AInstr := [
    ⟨(some 22), none, .ibin .lss (.tmp 21) (.tmp 20)⟩]

def f9r7 : List AInstr := [
    ⟨(some 23), none, .mov (.tmp 21)⟩,
    ⟨(some 24), none, .indexAddr 1 (.tmp 19) (.tmp 21)⟩,
    ⟨(some 25), none, .load none (.tmp 24)⟩,
    ⟨(some 8), none, .mov (.tmp 23)⟩,
    ⟨(some 9), none, .mov (.tmp 25)⟩]

def f9r8 : List AInstr := [
    ⟨(some 10), none, .mov (.const (.int .i64 0))⟩]

def f9r9 : List AInstr := [
    ⟨(some 26), none, .mov (.tmp 0)⟩,
    ⟨(some 27), none, .len (.tmp 26)⟩,
    ⟨(some 28), none, .mov (.const (.int .i64 0))⟩]

def f9r10 : List AInstr := [
    ⟨(some 29), none, .ibin .lss (.tmp 28) (.tmp 27)⟩]

def f9r11 : List AInstr := [
    ⟨(some 30), none, .mov (.tmp 28)⟩,
    ⟨(some 31), none, .indexAddr 1 (.tmp 26) (.tmp 28)⟩,
    ⟨(some 32), none, .load none (.tmp 31)⟩,
    ⟨(some 11), none, .mov (.tmp 30)⟩,
    ⟨(some 12), none, .mov (.tmp 32)⟩]

def f9r12 : List AInstr := [
    ⟨(some 33), none, .mov (.tmp 10)⟩,
    ⟨(some 34), none, .mov (.tmp 12)⟩,
    ⟨(some 35), none, .mov (.tmp 1)⟩,
    ⟨(some 36), none, .mov (.tmp 8)⟩,
    ⟨(some 37), none, .indexAddr 1 (.tmp 35) (.tmp 36)⟩,
    ⟨(some 38), none, .load none (.tmp 37)⟩,
    ⟨(some 39), none, .ibin .mul (.tmp 34) (.tmp 38)⟩,
    ⟨(some 40), none, .mov (.tmp 9)⟩,
    ⟨(some 41), none, .mov (.tmp 1)⟩,
    ⟨(some 42), none, .mov (.tmp 11)⟩,
    ⟨(some 43), none, .indexAddr 1 (.tmp 41) (.tmp 42)⟩,
    ⟨(some 44), none, .load none (.tmp 43)⟩,
    ⟨(some 45), none, .ibin .mul (.tmp 40) (.tmp 44)⟩,
    ⟨(some 46), none, .minmax false [.tmp 39, .tmp 45]⟩,
    ⟨(some 47), none, .ibin .add (.tmp 33) (.tmp 46)⟩,
    ⟨(some 10), none, .mov (.tmp 47)⟩]

def f9r13 : List AInstr := [
    ⟨(some 48), none, .ibin .add (.tmp 28) (.const (.int .i64 1))⟩,
    ⟨(some 28), none, .mov (.tmp 48)⟩]

/-- live: [0, 1, 7, 8, 9, 10, 19, 20, 21, 26, 27, 28] -/
def f9l0 : ACode := (.seq (.ops f9r10)
  (.keep [0, 1, 7, 8, 9, 10, 19, 20, 21, 26, 27, 28, 29] (.seq (.cond (.tmp 29) .skip (.exit 2))
  (.keep [0, 1, 7, 8, 9, 10, 19, 20, 21, 26, 27, 28] (.seq (.block 3 (.seq (.ops f9r11)
  (.keep [0, 1, 7, 8, 9, 10, 11, 12, 19, 20, 21, 26, 27, 28] (.draw f9r12 [(0, 0, false), (0, 0, false), (0, 0, false), (0, 0, false), (0, 0, false), (0, 0, false), (0, 0, false), (0, 0, false), (0, 0, false), (0, 0, false), (0, 0, false), (0, 0, false), (0, 0, false), (0, 0, false), (0, 0, false), (0, 0, false)]))))
  (.keep [0, 1, 7, 8, 9, 10, 19, 20, 21, 26, 27, 28] (.ops f9r13)))))))

def f9r15 : List AInstr := [
    ⟨(some 49), none, .mov (.tmp 7)⟩,
    ⟨(some 50), none, .mov (.tmp 10)⟩,
    ⟨(some 51), none, .buildSlice 1 1 [.int .i64 0] [(0, 1, (.tmp 50))]⟩,
    ⟨(some 52), none, .append 1 8 (.tmp 49) (.tmp 51)⟩,
    ⟨(some 7), none, .mov (.tmp 52)⟩]

def f9r16 : List AInstr := [
    ⟨(some 53), none, .ibin .add (.tmp 21) (.const (.int .i64 1))⟩,
    ⟨(some 21), none, .mov (.tmp 53)⟩]

/-- live: [0, 1, 7, 19, 20, 21] -/
def f9l1 : ACode := (.seq (.ops f9r6)
  (.keep [0, 1, 7, 19, 20, 21, 22] (.seq (.cond (.tmp 22) .skip (.exit 0))
  (.keep [0, 1, 7, 19, 20, 21] (.seq (.block 1 (.seq (.ops f9r7)
  (.keep [0, 1, 7, 8, 9, 19, 20, 21] (.seq (.ops f9r8)
  (.keep [0, 1, 7, 8, 9, 10, 19, 20, 21] (.seq (.seq (.ops f9r9)
  (.keep [0, 1, 7, 8, 9, 10, 19, 20, 21, 26, 27, 28] (.block 2 (.loop f9l0))))
  (.keep [0, 1, 7, 10, 19, 20, 21] (.ops f9r15))))))))
  (.keep [0, 1, 7, 19, 20, 21] (.ops f9r16)))))))

def f9r18 : List AInstr := [
    ⟨(some 54), none, .mov (.tmp 7)⟩,
    ⟨(some 4), none, .mov (.tmp 54)⟩,
    ⟨(some 5), none, .mov (.const (.int .i64 0))⟩]

def f9b : ACode := (.seq (.ops f9r0)
  (.keep [0, 1] (.seq (.seq (.ops f9r1)
  (.keep [0, 1, 6] (.seq (.ops f9r2)
  (.keep [0, 1, 6, 17] (.cond (.tmp 17) (.keep [6] (.seq (.ops f9r3)
  (.keep [4, 5] .ret))) .skip)))))
  (.keep [0, 1] (.seq (.ops f9r4)
  (.keep [0, 1, 7] (.seq (.seq (.ops f9r5)
  (.keep [0, 1, 7, 19, 20, 21] (.block 0 (.loop f9l1))))
  (.keep [7] (.seq (.ops f9r18)
  (.keep [4, 5] .ret))))))))))

def f9 : AFn := ⟨55, [.tmp 4, .tmp 5], f9b⟩

theorem f9_ok : compFn Try.prog 9 = some f9.strip := by kernel_rfl

/- function 10: weirhouse/gps.Whole; parameters 2; operations that are not compiled: 0 -/
def f10r0 : List AInstr := [
    ⟨(some 4), none, .mov (.const (.slice none 0 0))⟩,
    ⟨(some 5), none, .mov (.const (.int .i64 0))⟩]

def f10r1 : List AInstr := [
    ⟨(some 13), none, .mov (.tmp 0)⟩,
    ⟨(some 14), none, .mov (.tmp 1)⟩,
    ⟨(some 15), none, .callF 12 [.tmp 13, .tmp 14]⟩,
    ⟨(some 12), none, .mov (.tmp 15)⟩,
    ⟨(some 16), none, .extract 0 (.tmp 12)⟩,
    ⟨(some 17), none, .extract 1 (.tmp 12)⟩,
    ⟨(some 6), none, .mov (.tmp 16)⟩,
    ⟨(some 7), none, .mov (.tmp 17)⟩]

def f10r2 : List AInstr := [
    ⟨(some 18), none, .mov (.tmp 7)⟩,
    ⟨(some 19), none, .ibin .neq (.tmp 18) (.const (.int .i64 0))⟩]

def f10r3 : List AInstr := [
    ⟨(some 20), none, .mov (.tmp 7)⟩,
    ⟨(some 4), none, .mov (.const (.slice none 0 0))⟩,
    ⟨(some 5), none, .mov (.tmp 20)⟩]

def f10r4 : List AInstr := [
    ⟨(some 21), none, .mov (.tmp 0)⟩,
    ⟨(some 22), none, .len (.tmp 21)⟩,
    ⟨(some 23), none, .makeSlice 1 8 [.int .i64 0] (.tmp 22) (.tmp 22)⟩,
    ⟨(some 8), none, .mov (.tmp 23)⟩]

def f10r5 : List AInstr := [
    ⟨(some 9), none, .mov (.const (.int .i64 0))⟩]

def f10r6 : List AInstr := [
    ⟨(some 24), none, .mov (.tmp 6)⟩,
    ⟨(some 25), none, .len (.tmp 24)⟩,
    ⟨(some 26), none, .mov (.const (.int .i64 0))⟩]

def f10r7 : List AInstr := [
    ⟨(some 27), none, .ibin .lss (.tmp 26) (.tmp 25)⟩]

def f10r8 : List AInstr := [
    ⟨(some 28), none, .indexAddr 1 (.tmp 24) (.tmp 26)⟩,
    ⟨(some 29), none, .load none (.tmp 28)⟩,
    ⟨(some 11), none, .mov (.tmp 29)⟩]

def f10r9 : List AInstr := [
    ⟨(some 30), none, .mov (.tmp 9)⟩,
    ⟨(some 31), none, .mov (.tmp 0)⟩,
    ⟨(some 32), none, .mov (.tmp 11)⟩,
    ⟨(some 33), none, .indexAddr 1 (.tmp 31) (.tmp 32)⟩,
    ⟨(some 34), none, .load none (.tmp 33)⟩,
    ⟨(some 35), none, .ibin .add (.tmp 30) (.tmp 34)⟩,
    ⟨(some 9), none, .mov (.tmp 35)⟩]

def f10r10 : List AInstr := [
    ⟨(some 36), none, .mov (.tmp 8)⟩,
    ⟨(some 37), none, .mov (.tmp 11)⟩,
    ⟨(some 38), none, .mov (.tmp 9)⟩,
    ⟨(some 39), none, .indexAddr 1 (.tmp 36) (.tmp 37)⟩,
    ⟨none, none, .store 1 (.tmp 39) (.tmp 38)⟩]

def f10r11 : List AInstr := [
    ⟨(some 40), none, .ibin .add (.tmp 26) (.const (.int .i64 1))⟩,
    ⟨(some 26), none, .mov (.tmp 40)⟩]

/-- live: [0, 8, 9, 24, 25, 26] -/
def f10l0 : ACode := (.seq (.ops f10r7)
  (.keep [0, 8, 9, 24, 25, 26, 27] (.seq (.cond (.tmp 27) .skip (.exit 0))
  (.keep [0, 8, 9, 24, 25, 26] (.seq (.block 1 (.seq (.ops f10r8)
  (.keep [0, 8, 9, 11, 24, 25, 26] (.seq (.ops f10r9)
  (.keep [0, 8, 9, 11, 24, 25, 26] (.ops f10r10))))))
  (.keep [0, 8, 9, 24, 25, 26] (.ops f10r11)))))))

def f10r13 : List AInstr := [
    ⟨(some 41), none, .mov (.tmp 8)⟩,
    ⟨(some 4), none, .mov (.tmp 41)⟩,
    ⟨(some 5), none, .mov (.const (.int .i64 0))⟩]

def f10b : ACode := (.seq (.ops f10r0)
  (.keep [0, 1] (.seq (.ops f10r1)
  (.keep [0, 6, 7] (.seq (.seq (.ops f10r2)
  (.keep [0, 6, 7, 19] (.cond (.tmp 19) (.keep [7] (.seq (.ops f10r3)
  (.keep [4, 5] .ret))) .skip)))
  (.keep [0, 6] (.seq (.ops f10r4)
  (.keep [0, 6, 8] (.seq (.ops f10r5)
  (.keep [0, 6, 8, 9] (.seq (.seq (.ops f10r6)
  (.keep [0, 8, 9, 24, 25, 26] (.block 0 (.loop f10l0))))
  (.keep [8] (.seq (.ops f10r13)
  (.keep [4, 5] .ret))))))))))))))

def f10 : AFn := ⟨42, [.tmp 4, .tmp 5], f10b⟩

theorem f10_ok : compFn Try.prog 10 = some f10.strip := by kernel_rfl

/- function 11: slices.Clone[[]int,int]; parameters 1; operations that are not compiled: 0 -/
def f11r0 : List AInstr := [
    ⟨(some 2), none, .mov (.const (.slice none 0 0))⟩]

def f11r1 : List AInstr := [
    ⟨(some 3), none, .mov (.tmp 0)⟩,
    ⟨(some 4), none, .eqS false (.tmp 3) (.const (.slice none 0 0))⟩]

def f11r2 : List AInstr := [
    ⟨(some 2), none, .mov (.const (.slice none 0 0))⟩]

def f11r3 : List AInstr := [
    ⟨(some 5), none, .buildSlice 1 0 [] []⟩,
    ⟨(some 6), none, .mov (.tmp 0)⟩,
    ⟨(some 7), none, .append 1 8 (.tmp 5) (.tmp 6)⟩,
    ⟨(some 2), none, .mov (.tmp 7)⟩]

def f11b : ACode := (.seq (.ops f11r0)
  (.keep [0] (.seq (.seq (.ops f11r1)
  (.keep [0, 4] (.cond (.tmp 4) (.keep [] (.seq (.ops f11r2)
  (.keep [2] .ret))) .skip)))
  (.keep [0] (.seq (.ops f11r3)
  (.keep [2] .ret))))))

def f11 : AFn := ⟨8, [.tmp 2], f11b⟩

theorem f11_ok : compFn Try.prog 11 = some f11.strip := by kernel_rfl

/- function 12: weirhouse/gps.Order; parameters 2; operations that are not compiled: 0 -/
def f12r0 : List AInstr := [
    ⟨(some 3), none, .box (.tmp 1)⟩,
    ⟨(some 4), none, .mov (.const (.slice none 0 0))⟩,
    ⟨(some 5), none, .mov (.const (.int .i64 0))⟩]

def f12r1 : List AInstr := [
    ⟨(some 11), none, .mov (.tmp 0)⟩,
    ⟨(some 12), none, .load none (.tmp 3)⟩,
    ⟨(some 13), none, .callF 9 [.tmp 11, .tmp 12]⟩,
    ⟨(some 10), none, .mov (.tmp 13)⟩,
    ⟨(some 14), none, .extract 0 (.tmp 10)⟩,
    ⟨(some 15), none, .extract 1 (.tmp 10)⟩,
    ⟨(some 6), none, .alloc [.slice none 0 0]⟩,
    ⟨none, none, .store 1 (.tmp 6) (.tmp 14)⟩,
    ⟨(some 7), none, .mov (.tmp 15)⟩]

def f12r2 : List AInstr := [
    ⟨(some 16), none, .mov (.tmp 7)⟩,
    ⟨(some 17), none, .ibin .neq (.tmp 16) (.const (.int .i64 0))⟩]

def f12r3 : List AInstr := [
    ⟨(some 18), none, .mov (.tmp 7)⟩,
    ⟨(some 4), none, .mov (.const (.slice none 0 0))⟩,
    ⟨(some 5), none, .mov (.tmp 18)⟩]

def f12r4 : List AInstr := [
    ⟨(some 19), none, .mov (.tmp 0)⟩,
    ⟨(some 20), none, .len (.tmp 19)⟩,
    ⟨(some 21), none, .makeSlice 1 8 [.int .i64 0] (.tmp 20) (.tmp 20)⟩,
    ⟨(some 8), none, .mov (.tmp 21)⟩]

def f12r5 : List AInstr := [
    ⟨(some 22), none, .mov (.tmp 8)⟩,
    ⟨(some 23), none, .len (.tmp 22)⟩,
    ⟨(some 24), none, .mov (.const (.int .i64 0))⟩]

def f12r6 : List AInstr := [
    ⟨(some 25), none, .ibin .lss (.tmp 24) (.tmp 23)⟩]

def f12r7 : List AInstr := [
    ⟨(some 26), none, .mov (.tmp 24)⟩,
    ⟨(some 9), none, .mov (.tmp 26)⟩]

def f12r8 : List AInstr := [
    ⟨(some 27), none, .mov (.tmp 8)⟩,
    ⟨(some 28), none, .mov (.tmp 9)⟩,
    ⟨(some 29), none, .mov (.tmp 9)⟩,
    ⟨(some 30), none, .indexAddr 1 (.tmp 27) (.tmp 28)⟩,
    ⟨none, none, .store 1 (.tmp 30) (.tmp 29)⟩]

def f12r9 : List AInstr := [
    ⟨(some 31), none, .ibin .add (.tmp 24) (.const (.int .i64 1))⟩,
    ⟨(some 24), none, .mov (.tmp 31)⟩]

/-- live: [3, 6, 8, 23, 24] -/
def f12l0 : ACode := (.seq (.ops f12r6)
  (.keep [3, 6, 8, 23, 24, 25] (.seq (.cond (.tmp 25) .skip (.exit 0))
  (.keep [3, 6, 8, 23, 24] (.seq (.block 1 (.seq (.ops f12r7)
  (.keep [3, 6, 8, 9, 23, 24] (.ops f12r8))))
  (.keep [3, 6, 8, 23, 24] (.ops f12r9)))))))

def f12r11 : List AInstr := [
    ⟨(some 32), none, .mov (.tmp 8)⟩,
    ⟨(some 33), none, .func (.func 16) [] [.tmp 6, .tmp 3]⟩,
    ⟨(some 34), none, .callF 15 [.tmp 32, .tmp 33]⟩]

def f12r12 : List AInstr := [
    ⟨(some 35), none, .mov (.tmp 8)⟩,
    ⟨(some 4), none, .mov (.tmp 35)⟩,
    ⟨(some 5), none, .mov (.const (.int .i64 0))⟩]

def f12b : ACode := (.seq (.ops f12r0)
  (.keep [0, 3] (.seq (.ops f12r1)
  (.keep [0, 3, 6, 7] (.seq (.seq (.ops f12r2)
  (.keep [0, 3, 6, 7, 17] (.cond (.tmp 17) (.keep [7] (.seq (.ops f12r3)
  (.keep [4, 5] .ret))) .skip)))
  (.keep [0, 3, 6] (.seq (.ops f12r4)
  (.keep [3, 6, 8] (.seq (.seq (.ops f12r5)
  (.keep [3, 6, 8, 23, 24] (.block 0 (.loop f12l0))))
  (.keep [3, 6, 8] (.seq (.ops f12r11)
  (.keep [8] (.seq (.ops f12r12)
  (.keep [4, 5] .ret))))))))))))))

def f12 : AFn := ⟨36, [.tmp 4, .tmp 5], f12b⟩

theorem f12_ok : compFn Try.prog 12 = some f12.strip := by kernel_rfl

/- function 13: slices.Equal[[]int,int]; parameters 2; operations that are not compiled: 0 -/
def f13r0 : List AInstr := [
    ⟨(some 4), none, .mov (.const (.bool false))⟩]

def f13r1 : List AInstr := [
    ⟨(some 6), none, .mov (.tmp 0)⟩,
    ⟨(some 7), none, .len (.tmp 6)⟩,
    ⟨(some 8), none, .mov (.tmp 1)⟩,
    ⟨(some 9), none, .len (.tmp 8)⟩,
    ⟨(some 10), none, .ibin .neq (.tmp 7) (.tmp 9)⟩]

def f13r2 : List AInstr := [
    ⟨(some 4), none, .mov (.const (.bool false))⟩]

def f13r3 : List AInstr := [
    ⟨(some 11), none, .mov (.tmp 0)⟩,
    ⟨(some 12), none, .len (.tmp 11)⟩,
    ⟨(some 13), none, .mov (.const (.int .i64 0))⟩]

def f13r4 : List AInstr := [
    ⟨(some 14), none, .ibin .lss (.tmp 13) (.tmp 12)⟩]

def f13r5 : List AInstr := [
    ⟨(some 15), none, .mov (.tmp 13)⟩,
    ⟨(some 5), none, .mov (.tmp 15)⟩]

def f13r6 : List AInstr := [
    ⟨(some 16), none, .mov (.tmp 0)⟩,
    ⟨(some 17), none, .mov (.tmp 5)⟩,
    ⟨(some 18), none, .indexAddr 1 (.tmp 16) (.tmp 17)⟩,
    ⟨(some 19), none, .load none (.tmp 18)⟩,
    ⟨(some 20), none, .mov (.tmp 1)⟩,
    ⟨(some 21), none, .mov (.tmp 5)⟩,
    ⟨(some 22), none, .indexAddr 1 (.tmp 20) (.tmp 21)⟩,
    ⟨(some 23), none, .load none (.tmp 22)⟩,
    ⟨(some 24), none, .ibin .neq (.tmp 19) (.tmp 23)⟩]

def f13r7 : List AInstr := [
    ⟨(some 4), none, .mov (.const (.bool false))⟩]

def f13r8 : List AInstr := [
    ⟨(some 25), none, .ibin .add (.tmp 13) (.const (.int .i64 1))⟩,
    ⟨(some 13), none, .mov (.tmp 25)⟩]

/-- live: [0, 1, 12, 13] -/
def f13l0 : ACode := (.seq (.ops f13r4)
  (.keep [0, 1, 12, 13, 14] (.seq (.cond (.tmp 14) .skip (.exit 0))
  (.keep [0, 1, 12, 13] (.seq (.block 1 (.seq (.ops f13r5)
  (.keep [0, 1, 5, 12, 13] (.seq (.draw f13r6 [(0, 0, false), (0, 0, false), (0, 0, false), (0, 0, false), (0, 0, false), (0, 0, false), (0, 0, false), (0, 0, false), (0, 0, false)])
  (.keep [0, 1, 12, 13, 24] (.cond (.tmp 24) (.keep [] (.seq (.ops f13r7)
  (.keep [4] .ret))) .skip))))))
  (.keep [0, 1, 12, 13] (.ops f13r8)))))))

def f13r10 : List AInstr := [
    ⟨(some 4), none, .mov (.const (.bool true))⟩]

def f13b : ACode := (.seq (.ops f13r0)
  (.keep [0, 1] (.seq (.seq (.ops f13r1)
  (.keep [0, 1, 10] (.cond (.tmp 10) (.keep [] (.seq (.ops f13r2)
  (.keep [4] .ret))) .skip)))
  (.keep [0, 1] (.seq (.seq (.ops f13r3)
  (.keep [0, 1, 12, 13] (.block 0 (.loop f13l0))))
  (.keep [] (.seq (.ops f13r10)
  (.keep [4] .ret))))))))

def f13 : AFn := ⟨26, [.tmp 4], f13b⟩

theorem f13_ok : compFn Try.prog 13 = some f13.strip := by kernel_rfl

/- function 14: weirhouse/gps.Wrong; parameters 2; operations that are not compiled: 0 -/
def f14r0 : List AInstr := [
    ⟨(some 4), none, .mov (.const (.int .i64 0))⟩]

def f14r1 : List AInstr := [
    ⟨(some 8), none, .mov (.tmp 0)⟩,
    ⟨(some 9), none, .len (.tmp 8)⟩,
    ⟨(some 10), none, .mov (.tmp 1)⟩,
    ⟨(some 11), none, .len (.tmp 10)⟩,
    ⟨(some 12), none, .ibin .neq (.tmp 9) (.tmp 11)⟩,
    ⟨(some 7), none, .mov (.tmp 12)⟩]

def f14r2 : List AInstr := [
    ⟨(some 4), none, .mov (.const (.int .i64 1))⟩]

def f14r3 : List AInstr := [
    ⟨(some 14), none, .mov (.tmp 0)⟩,
    ⟨(some 15), none, .len (.tmp 14)⟩,
    ⟨(some 16), none, .ibin .gtr (.tmp 15) (.const (.int .i64 16))⟩,
    ⟨(some 13), none, .mov (.tmp 16)⟩]

def f14r4 : List AInstr := [
    ⟨(some 4), none, .mov (.const (.int .i64 2))⟩]

def f14r5 : List AInstr := [
    ⟨(some 17), none, .mov (.tmp 0)⟩,
    ⟨(some 18), none, .len (.tmp 17)⟩,
    ⟨(some 19), none, .mov (.const (.int .i64 0))⟩]

def f14r6 : List AInstr := [
    ⟨(some 20), none, .ibin .lss (.tmp 19) (.tmp 18)⟩]

def f14r7 : List AInstr := [
    ⟨(some 21), none, .mov (.tmp 19)⟩,
    ⟨(some 22), none, .indexAddr 1 (.tmp 17) (.tmp 19)⟩,
    ⟨(some 23), none, .load none (.tmp 22)⟩,
    ⟨(some 5), none, .mov (.tmp 21)⟩,
    ⟨(some 6), none, .mov (.tmp 23)⟩]

def f14r8 : List AInstr := [
    ⟨(some 24), none, .mov (.tmp 6)⟩,
    ⟨(some 25), none, .ibin .lss (.tmp 24) (.const (.int .i64 0))⟩,
    ⟨(some 26), none, .mov (.tmp 25)⟩,
    ⟨(some 27), (some (26, false)), .mov (.tmp 6)⟩,
    ⟨(some 28), (some (26, false)), .ibin .gtr (.tmp 27) (.const (.int .i64 1048576))⟩,
    ⟨(some 29), none, .pick (.tmp 26) (.const (.bool true)) (.tmp 28)⟩,
    ⟨(some 30), none, .mov (.tmp 29)⟩,
    ⟨(some 31), (some (30, false)), .mov (.tmp 1)⟩,
    ⟨(some 32), (some (30, false)), .mov (.tmp 5)⟩,
    ⟨(some 33), (some (30, false)), .indexAddr 1 (.tmp 31) (.tmp 32)⟩,
    ⟨(some 34), (some (30, false)), .load none (.tmp 33)⟩,
    ⟨(some 35), (some (30, false)), .ibin .lss (.tmp 34) (.const (.int .i64 1))⟩,
    ⟨(some 36), none, .pick (.tmp 30) (.const (.bool true)) (.tmp 35)⟩,
    ⟨(some 37), none, .mov (.tmp 36)⟩,
    ⟨(some 38), (some (37, false)), .mov (.tmp 1)⟩,
    ⟨(some 39), (some (37, false)), .mov (.tmp 5)⟩,
    ⟨(some 40), (some (37, false)), .indexAddr 1 (.tmp 38) (.tmp 39)⟩,
    ⟨(some 41), (some (37, false)), .load none (.tmp 40)⟩,
    ⟨(some 42), (some (37, false)), .ibin .gtr (.tmp 41) (.const (.int .i64 1000))⟩,
    ⟨(some 43), none, .pick (.tmp 37) (.const (.bool true)) (.tmp 42)⟩]

def f14r9 : List AInstr := [
    ⟨(some 4), none, .mov (.const (.int .i64 2))⟩]

def f14r10 : List AInstr := [
    ⟨(some 44), none, .ibin .add (.tmp 19) (.const (.int .i64 1))⟩,
    ⟨(some 19), none, .mov (.tmp 44)⟩]

/-- live: [1, 17, 18, 19] -/
def f14l0 : ACode := (.seq (.ops f14r6)
  (.keep [1, 17, 18, 19, 20] (.seq (.cond (.tmp 20) .skip (.exit 1))
  (.keep [1, 17, 18, 19] (.seq (.block 2 (.seq (.ops f14r7)
  (.keep [1, 5, 6, 17, 18, 19] (.seq (.ops f14r8)
  (.keep [1, 17, 18, 19, 43] (.cond (.tmp 43) (.keep [] (.seq (.ops f14r9)
  (.keep [4] .ret))) .skip))))))
  (.keep [1, 17, 18, 19] (.ops f14r10)))))))

def f14r12 : List AInstr := [
    ⟨(some 4), none, .mov (.const (.int .i64 0))⟩]

def f14b : ACode := (.seq (.ops f14r0)
  (.keep [0, 1] (.seq (.block 0 (.seq (.ops f14r1)
  (.keep [0, 1, 7] (.cond (.tmp 7) (.keep [] (.seq (.ops f14r2)
  (.keep [4] .ret))) (.keep [0, 1] (.seq (.ops f14r3)
  (.keep [0, 1, 13] (.cond (.tmp 13) (.keep [] (.seq (.ops f14r4)
  (.keep [4] .ret))) .skip))))))))
  (.keep [0, 1] (.seq (.seq (.ops f14r5)
  (.keep [1, 17, 18, 19] (.block 1 (.loop f14l0))))
  (.keep [] (.seq (.ops f14r12)
  (.keep [4] .ret))))))))

def f14 : AFn := ⟨45, [.tmp 4], f14b⟩

theorem f14_ok : compFn Try.prog 14 = some f14.strip := by kernel_rfl

/- function 15: slices.SortStableFunc[[]int,int]; parameters 2; operations that are not compiled: 0 -/
def f15r0 : List AInstr := [
    ⟨(some 4), none, .mov (.tmp 0)⟩,
    ⟨(some 5), none, .mov (.tmp 0)⟩,
    ⟨(some 6), none, .len (.tmp 5)⟩,
    ⟨(some 7), none, .mov (.tmp 1)⟩,
    ⟨(some 8), none, .callF 17 [.tmp 4, .tmp 6, .tmp 7]⟩]

def f15b : ACode := (.ops f15r0)

def f15 : AFn := ⟨9, [], f15b⟩

theorem f15_ok : compFn Try.prog 15 = some f15.strip := by kernel_rfl

/- function 16: weirhouse/gps.Order$1; parameters 2; operations that are not compiled: 0 -/
def f16r0 : List AInstr := [
    ⟨(some 6), none, .mov (.const (.int .i64 0))⟩]

def f16r1 : List AInstr := [
    ⟨(some 7), none, .load none (.tmp 2)⟩,
    ⟨(some 8), none, .mov (.tmp 0)⟩,
    ⟨(some 9), none, .indexAddr 1 (.tmp 7) (.tmp 8)⟩,
    ⟨(some 10), none, .load none (.tmp 9)⟩,
    ⟨(some 11), none, .load none (.tmp 3)⟩,
    ⟨(some 12), none, .mov (.tmp 1)⟩,
    ⟨(some 13), none, .indexAddr 1 (.tmp 11) (.tmp 12)⟩,
    ⟨(some 14), none, .load none (.tmp 13)⟩,
    ⟨(some 15), none, .ibin .mul (.tmp 10) (.tmp 14)⟩,
    ⟨(some 16), none, .load none (.tmp 2)⟩,
    ⟨(some 17), none, .mov (.tmp 1)⟩,
    ⟨(some 18), none, .indexAddr 1 (.tmp 16) (.tmp 17)⟩,
    ⟨(some 19), none, .load none (.tmp 18)⟩,
    ⟨(some 20), none, .load none (.tmp 3)⟩,
    ⟨(some 21), none, .mov (.tmp 0)⟩,
    ⟨(some 22), none, .indexAddr 1 (.tmp 20) (.tmp 21)⟩,
    ⟨(some 23), none, .load none (.tmp 22)⟩,
    ⟨(some 24), none, .ibin .mul (.tmp 19) (.tmp 23)⟩,
    ⟨(some 25), none, .ibin .sub (.tmp 15) (.tmp 24)⟩,
    ⟨(some 6), none, .mov (.tmp 25)⟩]

def f16b : ACode := (.seq (.ops f16r0)
  (.keep [0, 1, 2, 3] (.seq (.draw f16r1 [(0, 0, false), (0, 0, false), (0, 0, false), (0, 0, false), (0, 0, false), (0, 0, false), (0, 0, false), (0, 0, false), (0, 0, false), (0, 0, false), (0, 0, false), (0, 0, false), (0, 0, false), (0, 0, false), (0, 0, false), (0, 0, false), (0, 0, false), (0, 0, false), (0, 0, false), (0, 0, false)])
  (.keep [6] .ret))))

def f16 : AFn := ⟨26, [.tmp 6], f16b⟩

theorem f16_ok : compFn Try.prog 16 = some f16.strip := by kernel_rfl

/- function 17: slices.stableCmpFunc[int]; parameters 3; operations that are not compiled: 0 -/
def f17r0 : List AInstr := [
    ⟨(some 6), none, .mov (.const (.int .i64 20))⟩]

def f17r1 : List AInstr := [
    ⟨(some 10), none, .mov (.tmp 6)⟩,
    ⟨(some 7), none, .mov (.const (.int .i64 0))⟩,
    ⟨(some 8), none, .mov (.tmp 10)⟩]

def f17r2 : List AInstr := [
    ⟨(some 11), none, .mov (.tmp 8)⟩,
    ⟨(some 12), none, .mov (.tmp 1)⟩,
    ⟨(some 13), none, .ibin .leq (.tmp 11) (.tmp 12)⟩]

def f17r3 : List AInstr := [
    ⟨(some 14), none, .mov (.tmp 0)⟩,
    ⟨(some 15), none, .mov (.tmp 7)⟩,
    ⟨(some 16), none, .mov (.tmp 8)⟩,
    ⟨(some 17), none, .mov (.tmp 2)⟩,
    ⟨(some 18), none, .callF 18 [.tmp 14, .tmp 15, .tmp 16, .tmp 17]⟩]

def f17r4 : List AInstr := [
    ⟨(some 19), none, .mov (.tmp 8)⟩,
    ⟨(some 7), none, .mov (.tmp 19)⟩]

def f17r5 : List AInstr := [
    ⟨(some 20), none, .mov (.tmp 8)⟩,
    ⟨(some 21), none, .mov (.tmp 6)⟩,
    ⟨(some 22), none, .ibin .add (.tmp 20) (.tmp 21)⟩,
    ⟨(some 8), none, .mov (.tmp 22)⟩]

/-- live: [0, 1, 2, 6, 7, 8] -/
def f17l0 : ACode := (.seq (.seq (.ops f17r2)
  (.keep [0, 1, 2, 6, 7, 8, 13] (.cond (.tmp 13) .skip (.exit 0))))
  (.keep [0, 1, 2, 6, 7, 8] (.block 1 (.seq (.ops f17r3)
  (.keep [0, 1, 2, 6, 8] (.seq (.ops f17r4)
  (.keep [0, 1, 2, 6, 7, 8] (.ops f17r5))))))))

def f17r7 : List AInstr := [
    ⟨(some 23), none, .mov (.tmp 0)⟩,
    ⟨(some 24), none, .mov (.tmp 7)⟩,
    ⟨(some 25), none, .mov (.tmp 1)⟩,
    ⟨(some 26), none, .mov (.tmp 2)⟩,
    ⟨(some 27), none, .callF 18 [.tmp 23, .tmp 24, .tmp 25, .tmp 26]⟩]

def f17r8 : List AInstr := [
    ⟨(some 28), none, .mov (.tmp 6)⟩,
    ⟨(some 29), none, .mov (.tmp 1)⟩,
    ⟨(some 30), none, .ibin .lss (.tmp 28) (.tmp 29)⟩]

def f17r9 : List AInstr := [
    ⟨(some 31), none, .mov (.tmp 6)⟩,
    ⟨(some 32), none, .ibin .mul (.const (.int .i64 2)) (.tmp 31)⟩,
    ⟨(some 7), none, .mov (.const (.int .i64 0))⟩,
    ⟨(some 8), none, .mov (.tmp 32)⟩]

def f17r10 : List AInstr := [
    ⟨(some 33), none, .mov (.tmp 8)⟩,
    ⟨(some 34), none, .mov (.tmp 1)⟩,
    ⟨(some 35), none, .ibin .leq (.tmp 33) (.tmp 34)⟩]

def f17r11 : List AInstr := [
    ⟨(some 36), none, .mov (.tmp 0)⟩,
    ⟨(some 37), none, .mov (.tmp 7)⟩,
    ⟨(some 38), none, .mov (.tmp 7)⟩,
    ⟨(some 39), none, .mov (.tmp 6)⟩,
    ⟨(some 40), none, .ibin .add (.tmp 38) (.tmp 39)⟩,
    ⟨(some 41), none, .mov (.tmp 8)⟩,
    ⟨(some 42), none, .mov (.tmp 2)⟩,
    ⟨(some 43), none, .callF 19 [.tmp 36, .tmp 37, .tmp 40, .tmp 41, .tmp 42]⟩]

def f17r12 : List AInstr := [
    ⟨(some 44), none, .mov (.tmp 8)⟩,
    ⟨(some 7), none, .mov (.tmp 44)⟩]

def f17r13 : List AInstr := [
    ⟨(some 45), none, .mov (.tmp 8)⟩,
    ⟨(some 46), none, .mov (.tmp 6)⟩,
    ⟨(some 47), none, .ibin .mul (.const (.int .i64 2)) (.tmp 46)⟩,
    ⟨(some 48), none, .ibin .add (.tmp 45) (.tmp 47)⟩,
    ⟨(some 8), none, .mov (.tmp 48)⟩]

/-- live: [0, 1, 2, 6, 7, 8] -/
def f17l1 : ACode := (.seq (.seq (.ops f17r10)
  (.keep [0, 1, 2, 6, 7, 8, 35] (.cond (.tmp 35) .skip (.exit 4))))
  (.keep [0, 1, 2, 6, 7, 8] (.block 5 (.seq (.ops f17r11)
  (.keep [0, 1, 2, 6, 8] (.seq (.ops f17r12)
  (.keep [0, 1, 2, 6, 7, 8] (.ops f17r13))))))))

def f17r15 : List AInstr := [
    ⟨(some 49), none, .mov (.tmp 7)⟩,
    ⟨(some 50), none, .mov (.tmp 6)⟩,
    ⟨(some 51), none, .ibin .add (.tmp 49) (.tmp 50)⟩,
    ⟨(some 9), none, .mov (.tmp 51)⟩]

def f17r16 : List AInstr := [
    ⟨(some 52), none, .mov (.tmp 9)⟩,
    ⟨(some 53), none, .mov (.tmp 1)⟩,
    ⟨(some 54), none, .ibin .lss (.tmp 52) (.tmp 53)⟩]

def f17r17 : List AInstr := [
    ⟨(some 55), none, .mov (.tmp 0)⟩,
    ⟨(some 56), none, .mov (.tmp 7)⟩,
    ⟨(some 57), none, .mov (.tmp 9)⟩,
    ⟨(some 58), none, .mov (.tmp 1)⟩,
    ⟨(some 59), none, .mov (.tmp 2)⟩,
    ⟨(some 60), none, .callF 19 [.tmp 55, .tmp 56, .tmp 57, .tmp 58, .tmp 59]⟩]

def f17r18 : List AInstr := [
    ⟨(some 61), none, .mov (.tmp 6)⟩,
    ⟨(some 62), none, .ibin .mul (.tmp 61) (.const (.int .i64 2))⟩,
    ⟨(some 6), none, .mov (.tmp 62)⟩]

/-- live: [0, 1, 2, 6] -/
def f17l2 : ACode := (.seq (.seq (.ops f17r8)
  (.keep [0, 1, 2, 6, 30] (.cond (.tmp 30) .skip (.exit 2))))
  (.keep [0, 1, 2, 6] (.block 3 (.seq (.ops f17r9)
  (.keep [0, 1, 2, 6, 7, 8] (.seq (.block 4 (.loop f17l1))
  (.keep [0, 1, 2, 6, 7] (.seq (.seq (.ops f17r15)
  (.keep [0, 1, 2, 6, 7, 9] (.seq (.ops f17r16)
  (.keep [0, 1, 2, 6, 7, 9, 54] (.cond (.tmp 54) (.keep [0, 1, 2, 6, 7, 9] (.ops f17r17)) .skip)))))
  (.keep [0, 1, 2, 6] (.ops f17r18))))))))))

def f17b : ACode := (.seq (.ops f17r0)
  (.keep [0, 1, 2, 6] (.seq (.ops f17r1)
  (.keep [0, 1, 2, 6, 7, 8] (.seq (.block 0 (.loop f17l0))
  (.keep [0, 1, 2, 6, 7] (.seq (.ops f17r7)
  (.keep [0, 1, 2, 6] (.block 2 (.loop f17l2))))))))))

def f17 : AFn := ⟨63, [], f17b⟩

theorem f17_ok : compFn Try.prog 17 = some f17.strip := by kernel_rfl

/- function 18: slices.insertionSortCmpFunc[int]; parameters 4; operations that are not compiled: 0 -/
def f18r0 : List AInstr := [
    ⟨(some 10), none, .mov (.tmp 1)⟩,
    ⟨(some 11), none, .ibin .add (.tmp 10) (.const (.int .i64 1))⟩,
    ⟨(some 8), none, .mov (.tmp 11)⟩]

def f18r1 : List AInstr := [
    ⟨(some 12), none, .mov (.tmp 8)⟩,
    ⟨(some 13), none, .mov (.tmp 2)⟩,
    ⟨(some 14), none, .ibin .lss (.tmp 12) (.tmp 13)⟩]

def f18r2 : List AInstr := [
    ⟨(some 17), none, .mov (.tmp 8)⟩,
    ⟨(some 9), none, .mov (.tmp 17)⟩]

def f18r3 : List AInstr := [
    ⟨(some 18), none, .mov (.tmp 9)⟩,
    ⟨(some 19), none, .mov (.tmp 1)⟩,
    ⟨(some 20), none, .ibin .gtr (.tmp 18) (.tmp 19)⟩,
    ⟨(some 21), none, .mov (.tmp 20)⟩,
    ⟨(some 22), (some (21, true)), .mov (.tmp 3)⟩,
    ⟨(some 23), (some (21, true)), .mov (.tmp 0)⟩,
    ⟨(some 24), (some (21, true)), .mov (.tmp 9)⟩,
    ⟨(some 25), (some (21, true)), .indexAddr 1 (.tmp 23) (.tmp 24)⟩,
    ⟨(some 26), (some (21, true)), .load none (.tmp 25)⟩,
    ⟨(some 27), (some (21, true)), .mov (.tmp 0)⟩,
    ⟨(some 28), (some (21, true)), .mov (.tmp 9)⟩,
    ⟨(some 29), (some (21, true)), .ibin .sub (.tmp 28) (.const (.int .i64 1))⟩,
    ⟨(some 30), (some (21, true)), .indexAddr 1 (.tmp 27) (.tmp 29)⟩,
    ⟨(some 31), (some (21, true)), .load none (.tmp 30)⟩,
    ⟨(some 32), (some (21, true)), .callV (.tmp 22) [.tmp 26, .tmp 31]⟩,
    ⟨(some 33), (some (21, true)), .ibin .lss (.tmp 32) (.const (.int .i64 0))⟩,
    ⟨(some 34), none, .pick (.tmp 21) (.tmp 33) (.const (.bool false))⟩]

def f18r4 : List AInstr := [
    ⟨(some 37), none, .mov (.tmp 0)⟩,
    ⟨(some 38), none, .mov (.tmp 9)⟩,
    ⟨(some 39), none, .mov (.tmp 0)⟩,
    ⟨(some 40), none, .mov (.tmp 9)⟩,
    ⟨(some 41), none, .ibin .sub (.tmp 40) (.const (.int .i64 1))⟩,
    ⟨(some 42), none, .mov (.tmp 0)⟩,
    ⟨(some 43), none, .mov (.tmp 9)⟩,
    ⟨(some 44), none, .ibin .sub (.tmp 43) (.const (.int .i64 1))⟩,
    ⟨(some 45), none, .indexAddr 1 (.tmp 42) (.tmp 44)⟩,
    ⟨(some 46), none, .load none (.tmp 45)⟩,
    ⟨(some 47), none, .mov (.tmp 0)⟩,
    ⟨(some 48), none, .mov (.tmp 9)⟩,
    ⟨(some 49), none, .indexAddr 1 (.tmp 47) (.tmp 48)⟩,
    ⟨(some 50), none, .load none (.tmp 49)⟩,
    ⟨(some 51), none, .indexAddr 1 (.tmp 37) (.tmp 38)⟩,
    ⟨none, none, .store 1 (.tmp 51) (.tmp 46)⟩,
    ⟨(some 52), none, .indexAddr 1 (.tmp 39) (.tmp 41)⟩,
    ⟨none, none, .store 1 (.tmp 52) (.tmp 50)⟩]

def f18r5 : List AInstr := [
    ⟨(some 35), none, .mov (.tmp 9)⟩,
    ⟨(some 36), none, .ibin .sub (.tmp 35) (.const (.int .i64 1))⟩,
    ⟨(some 9), none, .mov (.tmp 36)⟩]

/-- live: [0, 1, 2, 3, 8, 9] -/
def f18l0 : ACode := (.seq (.seq (.draw f18r3 [(0, 0, false), (0, 0, false), (0, 0, false), (0, 0, false), (0, 0, false), (0, 0, false), (0, 0, false), (0, 0, false), (0, 0, false), (0, 0, false), (0, 0, false), (0, 0, false), (0, 0, false), (0, 0, false), (0, 1, true), (1, 1, false), (1, 1, false)])
  (.keep [0, 1, 2, 3, 8, 9, 34] (.cond (.tmp 34) .skip (.exit 2))))
  (.keep [0, 1, 2, 3, 8, 9] (.seq (.block 3 (.draw f18r4 [(0, 0, false), (0, 0, false), (0, 1, false), (0, 1, false), (0, 1, false), (0, 0, false), (0, 0, false), (0, 0, false), (0, 0, false), (0, 0, false), (0, 0, false), (0, 0, false), (0, 0, false), (0, 0, false), (0, 0, false), (0, 1, true), (1, 1, false), (1, 2, true)]))
  (.keep [0, 1, 2, 3, 8, 9] (.ops f18r5)))))

def f18r7 : List AInstr := [
    ⟨(some 15), none, .mov (.tmp 8)⟩,
    ⟨(some 16), none, .ibin .add (.tmp 15) (.const (.int .i64 1))⟩,
    ⟨(some 8), none, .mov (.tmp 16)⟩]

/-- live: [0, 1, 2, 3, 8] -/
def f18l1 : ACode := (.seq (.seq (.ops f18r1)
  (.keep [0, 1, 2, 3, 8, 14] (.cond (.tmp 14) .skip (.exit 0))))
  (.keep [0, 1, 2, 3, 8] (.seq (.block 1 (.seq (.ops f18r2)
  (.keep [0, 1, 2, 3, 8, 9] (.block 2 (.loop f18l0)))))
  (.keep [0, 1, 2, 3, 8] (.ops f18r7)))))

def f18b : ACode := (.seq (.ops f18r0)
  (.keep [0, 1, 2, 3, 8] (.block 0 (.loop f18l1))))

def f18 : AFn := ⟨53, [], f18b⟩

theorem f18_ok : compFn Try.prog 18 = some f18.strip := by kernel_rfl

/- function 19: slices.symMergeCmpFunc[int]; parameters 5; operations that are not compiled: 0 -/
def f19r0 : List AInstr := [
    ⟨(some 25), none, .mov (.tmp 2)⟩,
    ⟨(some 26), none, .mov (.tmp 1)⟩,
    ⟨(some 27), none, .ibin .sub (.tmp 25) (.tmp 26)⟩,
    ⟨(some 28), none, .ibin .eql (.tmp 27) (.const (.int .i64 1))⟩]

def f19r1 : List AInstr := [
    ⟨(some 29), none, .mov (.tmp 2)⟩,
    ⟨(some 10), none, .mov (.tmp 29)⟩]

def f19r2 : List AInstr := [
    ⟨(some 30), none, .mov (.tmp 3)⟩,
    ⟨(some 11), none, .mov (.tmp 30)⟩]

def f19r3 : List AInstr := [
    ⟨(some 31), none, .mov (.tmp 10)⟩,
    ⟨(some 32), none, .mov (.tmp 11)⟩,
    ⟨(some 33), none, .ibin .lss (.tmp 31) (.tmp 32)⟩]

def f19r4 : List AInstr := [
    ⟨(some 34), none, .mov (.tmp 10)⟩,
    ⟨(some 35), none, .mov (.tmp 11)⟩,
    ⟨(some 36), none, .ibin .add (.tmp 34) (.tmp 35)⟩,
    ⟨(some 37), none, .conv .u64 (.tmp 36)⟩,
    ⟨(some 38), none, .ibin .shr (.tmp 37) (.const (.int .u64 1))⟩,
    ⟨(some 39), none, .conv .i64 (.tmp 38)⟩,
    ⟨(some 12), none, .mov (.tmp 39)⟩]

def f19r5 : List AInstr := [
    ⟨(some 40), none, .mov (.tmp 4)⟩,
    ⟨(some 41), none, .mov (.tmp 0)⟩,
    ⟨(some 42), none, .mov (.tmp 12)⟩,
    ⟨(some 43), none, .indexAddr 1 (.tmp 41) (.tmp 42)⟩,
    ⟨(some 44), none, .load none (.tmp 43)⟩,
    ⟨(some 45), none, .mov (.tmp 0)⟩,
    ⟨(some 46), none, .mov (.tmp 1)⟩,
    ⟨(some 47), none, .indexAddr 1 (.tmp 45) (.tmp 46)⟩,
    ⟨(some 48), none, .load none (.tmp 47)⟩,
    ⟨(some 49), none, .callV (.tmp 40) [.tmp 44, .tmp 48]⟩,
    ⟨(some 50), none, .ibin .lss (.tmp 49) (.const (.int .i64 0))⟩]

def f19r6 : List AInstr := [
    ⟨(some 51), none, .mov (.tmp 12)⟩,
    ⟨(some 52), none, .ibin .add (.tmp 51) (.const (.int .i64 1))⟩,
    ⟨(some 10), none, .mov (.tmp 52)⟩]

def f19r7 : List AInstr := [
    ⟨(some 53), none, .mov (.tmp 12)⟩,
    ⟨(some 11), none, .mov (.tmp 53)⟩]

/-- live: [0, 1, 4, 10, 11] -/
def f19l0 : ACode := (.seq (.seq (.ops f19r3)
  (.keep [0, 1, 4, 10, 11, 33] (.cond (.tmp 33) .skip (.exit 0))))
  (.keep [0, 1, 4, 10, 11] (.block 1 (.seq (.ops f19r4)
  (.keep [0, 1, 4, 10, 11, 12] (.seq (.draw f19r5 [(0, 0, false), (0, 0, false), (0, 0, false), (0, 0, false), (0, 0, false), (0, 0, false), (0, 0, false), (0, 0, false), (0, 0, false), (0, 1, true), (1, 1, false)])
  (.keep [0, 1, 4, 10, 11, 12, 50] (.cond (.tmp 50) (.keep [0, 1, 4, 11, 12] (.ops f19r6)) (.keep [0, 1, 4, 10, 12] (.ops f19r7))))))))))

def f19r9 : List AInstr := [
    ⟨(some 54), none, .mov (.tmp 1)⟩,
    ⟨(some 13), none, .mov (.tmp 54)⟩]

def f19r10 : List AInstr := [
    ⟨(some 55), none, .mov (.tmp 13)⟩,
    ⟨(some 56), none, .mov (.tmp 10)⟩,
    ⟨(some 57), none, .ibin .sub (.tmp 56) (.const (.int .i64 1))⟩,
    ⟨(some 58), none, .ibin .lss (.tmp 55) (.tmp 57)⟩]

def f19r11 : List AInstr := [
    ⟨(some 61), none, .mov (.tmp 0)⟩,
    ⟨(some 62), none, .mov (.tmp 13)⟩,
    ⟨(some 63), none, .mov (.tmp 0)⟩,
    ⟨(some 64), none, .mov (.tmp 13)⟩,
    ⟨(some 65), none, .ibin .add (.tmp 64) (.const (.int .i64 1))⟩,
    ⟨(some 66), none, .mov (.tmp 0)⟩,
    ⟨(some 67), none, .mov (.tmp 13)⟩,
    ⟨(some 68), none, .ibin .add (.tmp 67) (.const (.int .i64 1))⟩,
    ⟨(some 69), none, .indexAddr 1 (.tmp 66) (.tmp 68)⟩,
    ⟨(some 70), none, .load none (.tmp 69)⟩,
    ⟨(some 71), none, .mov (.tmp 0)⟩,
    ⟨(some 72), none, .mov (.tmp 13)⟩,
    ⟨(some 73), none, .indexAddr 1 (.tmp 71) (.tmp 72)⟩,
    ⟨(some 74), none, .load none (.tmp 73)⟩,
    ⟨(some 75), none, .indexAddr 1 (.tmp 61) (.tmp 62)⟩,
    ⟨none, none, .store 1 (.tmp 75) (.tmp 70)⟩,
    ⟨(some 76), none, .indexAddr 1 (.tmp 63) (.tmp 65)⟩,
    ⟨none, none, .store 1 (.tmp 76) (.tmp 74)⟩]

def f19r12 : List AInstr := [
    ⟨(some 59), none, .mov (.tmp 13)⟩,
    ⟨(some 60), none, .ibin .add (.tmp 59) (.const (.int .i64 1))⟩,
    ⟨(some 13), none, .mov (.tmp 60)⟩]

/-- live: [0, 10, 13] -/
def f19l1 : ACode := (.seq (.seq (.ops f19r10)
  (.keep [0, 10, 13, 58] (.cond (.tmp 58) .skip (.exit 2))))
  (.keep [0, 10, 13] (.seq (.block 3 (.draw f19r11 [(0, 0, false), (0, 0, false), (0, 1, false), (0, 1, false), (0, 1, false), (0, 0, false), (0, 0, false), (0, 0, false), (0, 0, false), (0, 0, false), (0, 0, false), (0, 0, false), (0, 0, false), (0, 0, false), (0, 0, false), (0, 1, true), (1, 1, false), (1, 2, true)]))
  (.keep [0, 10, 13] (.ops f19r12)))))

def f19r14 : List AInstr := [
    ⟨(some 77), none, .mov (.tmp 3)⟩,
    ⟨(some 78), none, .mov (.tmp 2)⟩,
    ⟨(some 79), none, .ibin .sub (.tmp 77) (.tmp 78)⟩,
    ⟨(some 80), none, .ibin .eql (.tmp 79) (.const (.int .i64 1))⟩]

def f19r15 : List AInstr := [
    ⟨(some 81), none, .mov (.tmp 1)⟩,
    ⟨(some 14), none, .mov (.tmp 81)⟩]

def f19r16 : List AInstr := [
    ⟨(some 82), none, .mov (.tmp 2)⟩,
    ⟨(some 15), none, .mov (.tmp 82)⟩]

def f19r17 : List AInstr := [
    ⟨(some 83), none, .mov (.tmp 14)⟩,
    ⟨(some 84), none, .mov (.tmp 15)⟩,
    ⟨(some 85), none, .ibin .lss (.tmp 83) (.tmp 84)⟩]

def f19r18 : List AInstr := [
    ⟨(some 86), none, .mov (.tmp 14)⟩,
    ⟨(some 87), none, .mov (.tmp 15)⟩,
    ⟨(some 88), none, .ibin .add (.tmp 86) (.tmp 87)⟩,
    ⟨(some 89), none, .conv .u64 (.tmp 88)⟩,
    ⟨(some 90), none, .ibin .shr (.tmp 89) (.const (.int .u64 1))⟩,
    ⟨(some 91), none, .conv .i64 (.tmp 90)⟩,
    ⟨(some 16), none, .mov (.tmp 91)⟩]

def f19r19 : List AInstr := [
    ⟨(some 92), none, .mov (.tmp 4)⟩,
    ⟨(some 93), none, .mov (.tmp 0)⟩,
    ⟨(some 94), none, .mov (.tmp 2)⟩,
    ⟨(some 95), none, .indexAddr 1 (.tmp 93) (.tmp 94)⟩,
    ⟨(some 96), none, .load none (.tmp 95)⟩,
    ⟨(some 97), none, .mov (.tmp 0)⟩,
    ⟨(some 98), none, .mov (.tmp 16)⟩,
    ⟨(some 99), none, .indexAddr 1 (.tmp 97) (.tmp 98)⟩,
    ⟨(some 100), none, .load none (.tmp 99)⟩,
    ⟨(some 101), none, .callV (.tmp 92) [.tmp 96, .tmp 100]⟩,
    ⟨(some 102), none, .ibin .lss (.tmp 101) (.const (.int .i64 0))⟩,
    ⟨(some 103), none, .un .not (.tmp 102)⟩]

def f19r20 : List AInstr := [
    ⟨(some 104), none, .mov (.tmp 16)⟩,
    ⟨(some 105), none, .ibin .add (.tmp 104) (.const (.int .i64 1))⟩,
    ⟨(some 14), none, .mov (.tmp 105)⟩]

def f19r21 : List AInstr := [
    ⟨(some 106), none, .mov (.tmp 16)⟩,
    ⟨(some 15), none, .mov (.tmp 106)⟩]

/-- live: [0, 2, 4, 14, 15] -/
def f19l2 : ACode := (.seq (.seq (.ops f19r17)
  (.keep [0, 2, 4, 14, 15, 85] (.cond (.tmp 85) .skip (.exit 4))))
  (.keep [0, 2, 4, 14, 15] (.block 5 (.seq (.ops f19r18)
  (.keep [0, 2, 4, 14, 15, 16] (.seq (.draw f19r19 [(0, 0, false), (0, 0, false), (0, 0, false), (0, 0, false), (0, 0, false), (0, 0, false), (0, 0, false), (0, 0, false), (0, 0, false), (0, 1, true), (1, 1, false), (1, 1, false)])
  (.keep [0, 2, 4, 14, 15, 16, 103] (.cond (.tmp 103) (.keep [0, 2, 4, 15, 16] (.ops f19r20)) (.keep [0, 2, 4, 14, 16] (.ops f19r21))))))))))

def f19r23 : List AInstr := [
    ⟨(some 107), none, .mov (.tmp 2)⟩,
    ⟨(some 17), none, .mov (.tmp 107)⟩]

def f19r24 : List AInstr := [
    ⟨(some 108), none, .mov (.tmp 17)⟩,
    ⟨(some 109), none, .mov (.tmp 14)⟩,
    ⟨(some 110), none, .ibin .gtr (.tmp 108) (.tmp 109)⟩]

def f19r25 : List AInstr := [
    ⟨(some 113), none, .mov (.tmp 0)⟩,
    ⟨(some 114), none, .mov (.tmp 17)⟩,
    ⟨(some 115), none, .mov (.tmp 0)⟩,
    ⟨(some 116), none, .mov (.tmp 17)⟩,
    ⟨(some 117), none, .ibin .sub (.tmp 116) (.const (.int .i64 1))⟩,
    ⟨(some 118), none, .mov (.tmp 0)⟩,
    ⟨(some 119), none, .mov (.tmp 17)⟩,
    ⟨(some 120), none, .ibin .sub (.tmp 119) (.const (.int .i64 1))⟩,
    ⟨(some 121), none, .indexAddr 1 (.tmp 118) (.tmp 120)⟩,
    ⟨(some 122), none, .load none (.tmp 121)⟩,
    ⟨(some 123), none, .mov (.tmp 0)⟩,
    ⟨(some 124), none, .mov (.tmp 17)⟩,
    ⟨(some 125), none, .indexAddr 1 (.tmp 123) (.tmp 124)⟩,
    ⟨(some 126), none, .load none (.tmp 125)⟩,
    ⟨(some 127), none, .indexAddr 1 (.tmp 113) (.tmp 114)⟩,
    ⟨none, none, .store 1 (.tmp 127) (.tmp 122)⟩,
    ⟨(some 128), none, .indexAddr 1 (.tmp 115) (.tmp 117)⟩,
    ⟨none, none, .store 1 (.tmp 128) (.tmp 126)⟩]

def f19r26 : List AInstr := [
    ⟨(some 111), none, .mov (.tmp 17)⟩,
    ⟨(some 112), none, .ibin .sub (.tmp 111) (.const (.int .i64 1))⟩,
    ⟨(some 17), none, .mov (.tmp 112)⟩]

/-- live: [0, 14, 17] -/
def f19l3 : ACode := (.seq (.seq (.ops f19r24)
  (.keep [0, 14, 17, 110] (.cond (.tmp 110) .skip (.exit 6))))
  (.keep [0, 14, 17] (.seq (.block 7 (.draw f19r25 [(0, 0, false), (0, 0, false), (0, 1, false), (0, 1, false), (0, 1, false), (0, 0, false), (0, 0, false), (0, 0, false), (0, 0, false), (0, 0, false), (0, 0, false), (0, 0, false), (0, 0, false), (0, 0, false), (0, 0, false), (0, 1, true), (1, 1, false), (1, 2, true)]))
  (.keep [0, 14, 17] (.ops f19r26)))))

def f19r28 : List AInstr := [
    ⟨(some 129), none, .mov (.tmp 1)⟩,
    ⟨(some 130), none, .mov (.tmp 3)⟩,
    ⟨(some 131), none, .ibin .add (.tmp 129) (.tmp 130)⟩,
    ⟨(some 132), none, .conv .u64 (.tmp 131)⟩,
    ⟨(some 133), none, .ibin .shr (.tmp 132) (.const (.int .u64 1))⟩,
    ⟨(some 134), none, .conv .i64 (.tmp 133)⟩,
    ⟨(some 18), none, .mov (.tmp 134)⟩]

def f19r29 : List AInstr := [
    ⟨(some 135), none, .mov (.tmp 18)⟩,
    ⟨(some 136), none, .mov (.tmp 2)⟩,
    ⟨(some 137), none, .ibin .add (.tmp 135) (.tmp 136)⟩,
    ⟨(some 19), none, .mov (.tmp 137)⟩]

def f19r30 : List AInstr := [
    ⟨(some 20), none, .mov (.const (.int .i64 0))⟩,
    ⟨(some 21), none, .mov (.const (.int .i64 0))⟩]

def f19r31 : List AInstr := [
    ⟨(some 138), none, .mov (.tmp 2)⟩,
    ⟨(some 139), none, .mov (.tmp 18)⟩,
    ⟨(some 140), none, .ibin .gtr (.tmp 138) (.tmp 139)⟩]

def f19r32 : List AInstr := [
    ⟨(some 141), none, .mov (.tmp 19)⟩,
    ⟨(some 142), none, .mov (.tmp 3)⟩,
    ⟨(some 143), none, .ibin .sub (.tmp 141) (.tmp 142)⟩,
    ⟨(some 20), none, .mov (.tmp 143)⟩]

def f19r33 : List AInstr := [
    ⟨(some 144), none, .mov (.tmp 18)⟩,
    ⟨(some 21), none, .mov (.tmp 144)⟩]

def f19r34 : List AInstr := [
    ⟨(some 145), none, .mov (.tmp 1)⟩,
    ⟨(some 20), none, .mov (.tmp 145)⟩]

def f19r35 : List AInstr := [
    ⟨(some 146), none, .mov (.tmp 2)⟩,
    ⟨(some 21), none, .mov (.tmp 146)⟩]

def f19r36 : List AInstr := [
    ⟨(some 147), none, .mov (.tmp 19)⟩,
    ⟨(some 148), none, .ibin .sub (.tmp 147) (.const (.int .i64 1))⟩,
    ⟨(some 22), none, .mov (.tmp 148)⟩]

def f19r37 : List AInstr := [
    ⟨(some 149), none, .mov (.tmp 20)⟩,
    ⟨(some 150), none, .mov (.tmp 21)⟩,
    ⟨(some 151), none, .ibin .lss (.tmp 149) (.tmp 150)⟩]

def f19r38 : List AInstr := [
    ⟨(some 152), none, .mov (.tmp 20)⟩,
    ⟨(some 153), none, .mov (.tmp 21)⟩,
    ⟨(some 154), none, .ibin .add (.tmp 152) (.tmp 153)⟩,
    ⟨(some 155), none, .conv .u64 (.tmp 154)⟩,
    ⟨(some 156), none, .ibin .shr (.tmp 155) (.const (.int .u64 1))⟩,
    ⟨(some 157), none, .conv .i64 (.tmp 156)⟩,
    ⟨(some 23), none, .mov (.tmp 157)⟩]

def f19r39 : List AInstr := [
    ⟨(some 158), none, .mov (.tmp 4)⟩,
    ⟨(some 159), none, .mov (.tmp 0)⟩,
    ⟨(some 160), none, .mov (.tmp 22)⟩,
    ⟨(some 161), none, .mov (.tmp 23)⟩,
    ⟨(some 162), none, .ibin .sub (.tmp 160) (.tmp 161)⟩,
    ⟨(some 163), none, .indexAddr 1 (.tmp 159) (.tmp 162)⟩,
    ⟨(some 164), none, .load none (.tmp 163)⟩,
    ⟨(some 165), none, .mov (.tmp 0)⟩,
    ⟨(some 166), none, .mov (.tmp 23)⟩,
    ⟨(some 167), none, .indexAddr 1 (.tmp 165) (.tmp 166)⟩,
    ⟨(some 168), none, .load none (.tmp 167)⟩,
    ⟨(some 169), none, .callV (.tmp 158) [.tmp 164, .tmp 168]⟩,
    ⟨(some 170), none, .ibin .lss (.tmp 169) (.const (.int .i64 0))⟩,
    ⟨(some 171), none, .un .not (.tmp 170)⟩]

def f19r40 : List AInstr := [
    ⟨(some 172), none, .mov (.tmp 23)⟩,
    ⟨(some 173), none, .ibin .add (.tmp 172) (.const (.int .i64 1))⟩,
    ⟨(some 20), none, .mov (.tmp 173)⟩]

def f19r41 : List AInstr := [
    ⟨(some 174), none, .mov (.tmp 23)⟩,
    ⟨(some 21), none, .mov (.tmp 174)⟩]

/-- live: [0, 1, 2, 3, 4, 18, 19, 20, 21, 22] -/
def f19l4 : ACode := (.seq (.seq (.ops f19r37)
  (.keep [0, 1, 2, 3, 4, 18, 19, 20, 21, 22, 151] (.cond (.tmp 151) .skip (.exit 8))))
  (.keep [0, 1, 2, 3, 4, 18, 19, 20, 21, 22] (.block 9 (.seq (.ops f19r38)
  (.keep [0, 1, 2, 3, 4, 18, 19, 20, 21, 22, 23] (.seq (.draw f19r39 [(0, 0, false), (0, 0, false), (0, 0, false), (0, 0, false), (0, 0, false), (0, 0, false), (0, 0, false), (0, 0, false), (0, 0, false), (0, 0, false), (0, 0, false), (0, 1, true), (1, 1, false), (1, 1, false)])
  (.keep [0, 1, 2, 3, 4, 18, 19, 20, 21, 22, 23, 171] (.cond (.tmp 171) (.keep [0, 1, 2, 3, 4, 18, 19, 21, 22, 23] (.ops f19r40)) (.keep [0, 1, 2, 3, 4, 18, 19, 20, 22, 23] (.ops f19r41))))))))))

def f19r43 : List AInstr := [
    ⟨(some 175), none, .mov (.tmp 19)⟩,
    ⟨(some 176), none, .mov (.tmp 20)⟩,
    ⟨(some 177), none, .ibin .sub (.tmp 175) (.tmp 176)⟩,
    ⟨(some 24), none, .mov (.tmp 177)⟩]

def f19r44 : List AInstr := [
    ⟨(some 178), none, .mov (.tmp 20)⟩,
    ⟨(some 179), none, .mov (.tmp 2)⟩,
    ⟨(some 180), none, .ibin .lss (.tmp 178) (.tmp 179)⟩,
    ⟨(some 181), none, .mov (.tmp 180)⟩,
    ⟨(some 182), (some (181, true)), .mov (.tmp 2)⟩,
    ⟨(some 183), (some (181, true)), .mov (.tmp 24)⟩,
    ⟨(some 184), (some (181, true)), .ibin .lss (.tmp 182) (.tmp 183)⟩,
    ⟨(some 185), none, .pick (.tmp 181) (.tmp 184) (.const (.bool false))⟩]

def f19r45 : List AInstr := [
    ⟨(some 186), none, .mov (.tmp 0)⟩,
    ⟨(some 187), none, .mov (.tmp 20)⟩,
    ⟨(some 188), none, .mov (.tmp 2)⟩,
    ⟨(some 189), none, .mov (.tmp 24)⟩,
    ⟨(some 190), none, .mov (.tmp 4)⟩,
    ⟨(some 191), none, .callF 20 [.tmp 186, .tmp 187, .tmp 188, .tmp 189, .tmp 190]⟩]

def f19r46 : List AInstr := [
    ⟨(some 192), none, .mov (.tmp 1)⟩,
    ⟨(some 193), none, .mov (.tmp 20)⟩,
    ⟨(some 194), none, .ibin .lss (.tmp 192) (.tmp 193)⟩,
    ⟨(some 195), none, .mov (.tmp 194)⟩,
    ⟨(some 196), (some (195, true)), .mov (.tmp 20)⟩,
    ⟨(some 197), (some (195, true)), .mov (.tmp 18)⟩,
    ⟨(some 198), (some (195, true)), .ibin .lss (.tmp 196) (.tmp 197)⟩,
    ⟨(some 199), none, .pick (.tmp 195) (.tmp 198) (.const (.bool false))⟩]

def f19r47 : List AInstr := [
    ⟨(some 200), none, .mov (.tmp 0)⟩,
    ⟨(some 201), none, .mov (.tmp 1)⟩,
    ⟨(some 202), none, .mov (.tmp 20)⟩,
    ⟨(some 203), none, .mov (.tmp 18)⟩,
    ⟨(some 204), none, .mov (.tmp 4)⟩,
    ⟨(some 205), none, .callF 19 [.tmp 200, .tmp 201, .tmp 202, .tmp 203, .tmp 204]⟩]

def f19r48 : List AInstr := [
    ⟨(some 206), none, .mov (.tmp 18)⟩,
    ⟨(some 207), none, .mov (.tmp 24)⟩,
    ⟨(some 208), none, .ibin .lss (.tmp 206) (.tmp 207)⟩,
    ⟨(some 209), none, .mov (.tmp 208)⟩,
    ⟨(some 210), (some (209, true)), .mov (.tmp 24)⟩,
    ⟨(some 211), (some (209, true)), .mov (.tmp 3)⟩,
    ⟨(some 212), (some (209, true)), .ibin .lss (.tmp 210) (.tmp 211)⟩,
    ⟨(some 213), none, .pick (.tmp 209) (.tmp 212) (.const (.bool false))⟩]

def f19r49 : List AInstr := [
    ⟨(some 214), none, .mov (.tmp 0)⟩,
    ⟨(some 215), none, .mov (.tmp 18)⟩,
    ⟨(some 216), none, .mov (.tmp 24)⟩,
    ⟨(some 217), none, .mov (.tmp 3)⟩,
    ⟨(some 218), none, .mov (.tmp 4)⟩,
    ⟨(some 219), none, .callF 19 [.tmp 214, .tmp 215, .tmp 216, .tmp 217, .tmp 218]⟩]

def f19b : ACode := (.seq (.seq (.ops f19r0)
  (.keep [0, 1, 2, 3, 4, 28] (.cond (.tmp 28) (.keep [0, 1, 2, 3, 4] (.seq (.ops f19r1)
  (.keep [0, 1, 3, 4, 10] (.seq (.ops f19r2)
  (.keep [0, 1, 4, 10, 11] (.seq (.block 0 (.loop f19l0))
  (.keep [0, 1, 10] (.seq (.seq (.ops f19r9)
  (.keep [0, 10, 13] (.block 2 (.loop f19l1))))
  (.keep [] .ret))))))))) .skip)))
  (.keep [0, 1, 2, 3, 4] (.seq (.seq (.ops f19r14)
  (.keep [0, 1, 2, 3, 4, 80] (.cond (.tmp 80) (.keep [0, 1, 2, 4] (.seq (.ops f19r15)
  (.keep [0, 2, 4, 14] (.seq (.ops f19r16)
  (.keep [0, 2, 4, 14, 15] (.seq (.block 4 (.loop f19l2))
  (.keep [0, 2, 14] (.seq (.seq (.ops f19r23)
  (.keep [0, 14, 17] (.block 6 (.loop f19l3))))
  (.keep [] .ret))))))))) .skip)))
  (.keep [0, 1, 2, 3, 4] (.seq (.ops f19r28)
  (.keep [0, 1, 2, 3, 4, 18] (.seq (.ops f19r29)
  (.keep [0, 1, 2, 3, 4, 18, 19] (.seq (.ops f19r30)
  (.keep [0, 1, 2, 3, 4, 18, 19] (.seq (.seq (.ops f19r31)
  (.keep [0, 1, 2, 3, 4, 18, 19, 140] (.cond (.tmp 140) (.keep [0, 1, 2, 3, 4, 18, 19] (.seq (.ops f19r32)
  (.keep [0, 1, 2, 3, 4, 18, 19, 20] (.ops f19r33)))) (.keep [0, 1, 2, 3, 4, 18, 19] (.seq (.ops f19r34)
  (.keep [0, 1, 2, 3, 4, 18, 19, 20] (.ops f19r35)))))))
  (.keep [0, 1, 2, 3, 4, 18, 19, 20, 21] (.seq (.ops f19r36)
  (.keep [0, 1, 2, 3, 4, 18, 19, 20, 21, 22] (.seq (.block 8 (.loop f19l4))
  (.keep [0, 1, 2, 3, 4, 18, 19, 20] (.seq (.ops f19r43)
  (.keep [0, 1, 2, 3, 4, 18, 20, 24] (.seq (.seq (.ops f19r44)
  (.keep [0, 1, 2, 3, 4, 18, 20, 24, 185] (.cond (.tmp 185) (.keep [0, 1, 2, 3, 4, 18, 20, 24] (.ops f19r45)) .skip)))
  (.keep [0, 1, 3, 4, 18, 20, 24] (.seq (.seq (.ops f19r46)
  (.keep [0, 1, 3, 4, 18, 20, 24, 199] (.cond (.tmp 199) (.keep [0, 1, 3, 4, 18, 20, 24] (.ops f19r47)) .skip)))
  (.keep [0, 3, 4, 18, 24] (.seq (.ops f19r48)
  (.keep [0, 3, 4, 18, 24, 213] (.cond (.tmp 213) (.keep [0, 3, 4, 18, 24] (.ops f19r49)) .skip)))))))))))))))))))))))))

def f19 : AFn := ⟨220, [], f19b⟩

theorem f19_ok : compFn Try.prog 19 = some f19.strip := by kernel_rfl

/- function 20: slices.rotateCmpFunc[int]; parameters 5; operations that are not compiled: 0 -/
def f20r0 : List AInstr := [
    ⟨(some 12), none, .mov (.tmp 2)⟩,
    ⟨(some 13), none, .mov (.tmp 1)⟩,
    ⟨(some 14), none, .ibin .sub (.tmp 12) (.tmp 13)⟩,
    ⟨(some 10), none, .mov (.tmp 14)⟩]

def f20r1 : List AInstr := [
    ⟨(some 15), none, .mov (.tmp 3)⟩,
    ⟨(some 16), none, .mov (.tmp 2)⟩,
    ⟨(some 17), none, .ibin .sub (.tmp 15) (.tmp 16)⟩,
    ⟨(some 11), none, .mov (.tmp 17)⟩]

def f20r2 : List AInstr := [
    ⟨(some 18), none, .mov (.tmp 10)⟩,
    ⟨(some 19), none, .mov (.tmp 11)⟩,
    ⟨(some 20), none, .ibin .neq (.tmp 18) (.tmp 19)⟩]

def f20r3 : List AInstr := [
    ⟨(some 21), none, .mov (.tmp 10)⟩,
    ⟨(some 22), none, .mov (.tmp 11)⟩,
    ⟨(some 23), none, .ibin .gtr (.tmp 21) (.tmp 22)⟩]

def f20r4 : List AInstr := [
    ⟨(some 24), none, .mov (.tmp 0)⟩,
    ⟨(some 25), none, .mov (.tmp 2)⟩,
    ⟨(some 26), none, .mov (.tmp 10)⟩,
    ⟨(some 27), none, .ibin .sub (.tmp 25) (.tmp 26)⟩,
    ⟨(some 28), none, .mov (.tmp 2)⟩,
    ⟨(some 29), none, .mov (.tmp 11)⟩,
    ⟨(some 30), none, .mov (.tmp 4)⟩,
    ⟨(some 31), none, .callF 21 [.tmp 24, .tmp 27, .tmp 28, .tmp 29, .tmp 30]⟩]

def f20r5 : List AInstr := [
    ⟨(some 32), none, .mov (.tmp 10)⟩,
    ⟨(some 33), none, .mov (.tmp 11)⟩,
    ⟨(some 34), none, .ibin .sub (.tmp 32) (.tmp 33)⟩,
    ⟨(some 10), none, .mov (.tmp 34)⟩]

def f20r6 : List AInstr := [
    ⟨(some 35), none, .mov (.tmp 0)⟩,
    ⟨(some 36), none, .mov (.tmp 2)⟩,
    ⟨(some 37), none, .mov (.tmp 10)⟩,
    ⟨(some 38), none, .ibin .sub (.tmp 36) (.tmp 37)⟩,
    ⟨(some 39), none, .mov (.tmp 2)⟩,
    ⟨(some 40), none, .mov (.tmp 11)⟩,
    ⟨(some 41), none, .ibin .add (.tmp 39) (.tmp 40)⟩,
    ⟨(some 42), none, .mov (.tmp 10)⟩,
    ⟨(some 43), none, .ibin .sub (.tmp 41) (.tmp 42)⟩,
    ⟨(some 44), none, .mov (.tmp 10)⟩,
    ⟨(some 45), none, .mov (.tmp 4)⟩,
    ⟨(some 46), none, .callF 21 [.tmp 35, .tmp 38, .tmp 43, .tmp 44, .tmp 45]⟩]

def f20r7 : List AInstr := [
    ⟨(some 47), none, .mov (.tmp 11)⟩,
    ⟨(some 48), none, .mov (.tmp 10)⟩,
    ⟨(some 49), none, .ibin .sub (.tmp 47) (.tmp 48)⟩,
    ⟨(some 11), none, .mov (.tmp 49)⟩]

/-- live: [0, 2, 4, 10, 11] -/
def f20l0 : ACode := (.seq (.seq (.ops f20r2)
  (.keep [0, 2, 4, 10, 11, 20] (.cond (.tmp 20) .skip (.exit 0))))
  (.keep [0, 2, 4, 10, 11] (.block 1 (.seq (.ops f20r3)
  (.keep [0, 2, 4, 10, 11, 23] (.cond (.tmp 23) (.keep [0, 2, 4, 10, 11] (.seq (.ops f20r4)
  (.keep [0, 2, 4, 10, 11] (.ops f20r5)))) (.keep [0, 2, 4, 10, 11] (.seq (.ops f20r6)
  (.keep [0, 2, 4, 10, 11] (.ops f20r7))))))))))

def f20r9 : List AInstr := [
    ⟨(some 50), none, .mov (.tmp 0)⟩,
    ⟨(some 51), none, .mov (.tmp 2)⟩,
    ⟨(some 52), none, .mov (.tmp 10)⟩,
    ⟨(some 53), none, .ibin .sub (.tmp 51) (.tmp 52)⟩,
    ⟨(some 54), none, .mov (.tmp 2)⟩,
    ⟨(some 55), none, .mov (.tmp 10)⟩,
    ⟨(some 56), none, .mov (.tmp 4)⟩,
    ⟨(some 57), none, .callF 21 [.tmp 50, .tmp 53, .tmp 54, .tmp 55, .tmp 56]⟩]

def f20b : ACode := (.seq (.ops f20r0)
  (.keep [0, 2, 3, 4, 10] (.seq (.ops f20r1)
  (.keep [0, 2, 4, 10, 11] (.seq (.block 0 (.loop f20l0))
  (.keep [0, 2, 4, 10] (.ops f20r9)))))))

def f20 : AFn := ⟨58, [], f20b⟩

theorem f20_ok : compFn Try.prog 20 = some f20.strip := by kernel_rfl

/- function 21: slices.swapRangeCmpFunc[int]; parameters 5; operations that are not compiled: 0 -/
def f21r0 : List AInstr := [
    ⟨(some 10), none, .mov (.const (.int .i64 0))⟩]

def f21r1 : List AInstr := [
    ⟨(some 11), none, .mov (.tmp 10)⟩,
    ⟨(some 12), none, .mov (.tmp 3)⟩,
    ⟨(some 13), none, .ibin .lss (.tmp 11) (.tmp 12)⟩]

def f21r2 : List AInstr := [
    ⟨(some 16), none, .mov (.tmp 0)⟩,
    ⟨(some 17), none, .mov (.tmp 1)⟩,
    ⟨(some 18), none, .mov (.tmp 10)⟩,
    ⟨(some 19), none, .ibin .add (.tmp 17) (.tmp 18)⟩,
    ⟨(some 20), none, .mov (.tmp 0)⟩,
    ⟨(some 21), none, .mov (.tmp 2)⟩,
    ⟨(some 22), none, .mov (.tmp 10)⟩,
    ⟨(some 23), none, .ibin .add (.tmp 21) (.tmp 22)⟩,
    ⟨(some 24), none, .mov (.tmp 0)⟩,
    ⟨(some 25), none, .mov (.tmp 2)⟩,
    ⟨(some 26), none, .mov (.tmp 10)⟩,
    ⟨(some 27), none, .ibin .add (.tmp 25) (.tmp 26)⟩,
    ⟨(some 28), none, .indexAddr 1 (.tmp 24) (.tmp 27)⟩,
    ⟨(some 29), none, .load none (.tmp 28)⟩,
    ⟨(some 30), none, .mov (.tmp 0)⟩,
    ⟨(some 31), none, .mov (.tmp 1)⟩,
    ⟨(some 32), none, .mov (.tmp 10)⟩,
    ⟨(some 33), none, .ibin .add (.tmp 31) (.tmp 32)⟩,
    ⟨(some 34), none, .indexAddr 1 (.tmp 30) (.tmp 33)⟩,
    ⟨(some 35), none, .load none (.tmp 34)⟩,
    ⟨(some 36), none, .indexAddr 1 (.tmp 16) (.tmp 19)⟩,
    ⟨none, none, .store 1 (.tmp 36) (.tmp 29)⟩,
    ⟨(some 37), none, .indexAddr 1 (.tmp 20) (.tmp 23)⟩,
    ⟨none, none, .store 1 (.tmp 37) (.tmp 35)⟩]

def f21r3 : List AInstr := [
    ⟨(some 14), none, .mov (.tmp 10)⟩,
    ⟨(some 15), none, .ibin .add (.tmp 14) (.const (.int .i64 1))⟩,
    ⟨(some 10), none, .mov (.tmp 15)⟩]

/-- live: [0, 1, 2, 3, 10] -/
def f21l0 : ACode := (.seq (.seq (.ops f21r1)
  (.keep [0, 1, 2, 3, 10, 13] (.cond (.tmp 13) .skip (.exit 0))))
  (.keep [0, 1, 2, 3, 10] (.seq (.block 1 (.draw f21r2 [(0, 0, false), (0, 0, false), (0, 0, false), (0, 0, false), (0, 1, false), (0, 1, false), (0, 1, false), (0, 1, false), (0, 0, false), (0, 0, false), (0, 0, false), (0, 0, false), (0, 0, false), (0, 0, false), (0, 0, false), (0, 0, false), (0, 0, false), (0, 0, false), (0, 0, false), (0, 0, false), (0, 0, false), (0, 1, true), (1, 1, false), (1, 2, true)]))
  (.keep [0, 1, 2, 3, 10] (.ops f21r3)))))

def f21b : ACode := (.seq (.ops f21r0)
  (.keep [0, 1, 2, 3, 10] (.block 0 (.loop f21l0))))

def f21 : AFn := ⟨38, [], f21b⟩

theorem f21_ok : compFn Try.prog 21 = some f21.strip := by kernel_rfl

end Go.Proofs.Ytamnmcljomgboaa
