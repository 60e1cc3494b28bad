/-
  The functions of this seat as abstract code. Printed by a program of this claim's writer.
-/
import Derived.Test.YtmdlieinanjnaaaChecked
import Derived.Test.YtmdlieinanjnaaaAmS
import Derived.KernelRfl
namespace Go.Proofs.Ytmdlieinanjnaaa
open Go Go.Am

/- function 3: weirhouse/weirhousekeep.RedFine; parameters 3; operations that are not compiled: 0 -/
def f3r0 : List AInstr := [
    ⟨(some 6), none, .mov (.const (.bool false))⟩]

def f3r1 : List AInstr := [
    ⟨(some 12), none, .callF 7 []⟩,
    ⟨(some 13), none, .un .not (.tmp 12)⟩]

def f3r2 : List AInstr := [
    ⟨(some 6), none, .mov (.const (.bool false))⟩]

def f3r3 : List AInstr := [
    ⟨(some 15), none, .mov (.tmp 0)⟩,
    ⟨(some 16), none, .mov (.tmp 1)⟩,
    ⟨(some 17), none, .mov (.tmp 2)⟩,
    ⟨(some 18), none, .callF 8 [.tmp 15, .tmp 16, .tmp 17]⟩,
    ⟨(some 14), none, .mov (.tmp 18)⟩,
    ⟨(some 19), none, .extract 0 (.tmp 14)⟩,
    ⟨(some 20), none, .extract 1 (.tmp 14)⟩,
    ⟨(some 7), none, .mov (.tmp 19)⟩,
    ⟨(some 8), none, .mov (.tmp 20)⟩]

def f3r4 : List AInstr := [
    ⟨(some 21), none, .mov (.tmp 8)⟩,
    ⟨(some 22), none, .ibin .neq (.tmp 21) (.const (.int .i64 0))⟩,
    ⟨(some 23), none, .mov (.tmp 22)⟩,
    ⟨(some 24), (some (23, false)), .mov (.tmp 7)⟩,
    ⟨(some 25), (some (23, false)), .len (.tmp 24)⟩,
    ⟨(some 26), (some (23, false)), .mov (.tmp 2)⟩,
    ⟨(some 27), (some (23, false)), .len (.tmp 26)⟩,
    ⟨(some 28), (some (23, false)), .ibin .neq (.tmp 25) (.tmp 27)⟩,
    ⟨(some 29), none, .pick (.tmp 23) (.const (.bool true)) (.tmp 28)⟩]

def f3r5 : List AInstr := [
    ⟨(some 30), none, .mov (.tmp 8)⟩,
    ⟨(some 31), none, .ibin .neq (.tmp 30) (.const (.int .i64 0))⟩,
    ⟨(some 32), none, .mov (.tmp 31)⟩,
    ⟨(some 33), (some (32, true)), .mov (.tmp 7)⟩,
    ⟨(some 34), (some (32, true)), .len (.tmp 33)⟩,
    ⟨(some 35), (some (32, true)), .ibin .eql (.tmp 34) (.const (.int .i64 0))⟩,
    ⟨(some 36), none, .pick (.tmp 32) (.tmp 35) (.const (.bool false))⟩,
    ⟨(some 6), none, .mov (.tmp 36)⟩]

def f3r6 : List AInstr := [
    ⟨(some 9), none, .mov (.const (.int .i64 (-1)))⟩]

def f3r7 : List AInstr := [
    ⟨(some 37), none, .mov (.tmp 2)⟩,
    ⟨(some 38), none, .len (.tmp 37)⟩,
    ⟨(some 39), none, .mov (.const (.int .i64 0))⟩]

def f3r8 : List AInstr := [
    ⟨(some 40), none, .ibin .lss (.tmp 39) (.tmp 38)⟩]

def f3r9 : List AInstr := [
    ⟨(some 41), none, .mov (.tmp 39)⟩,
    ⟨(some 42), none, .indexAddr 2 (.tmp 37) (.tmp 39)⟩,
    ⟨(some 43), none, .load (some 2) (.tmp 42)⟩,
    ⟨(some 11), none, .alloc [.int .i64 0, .int .i64 0]⟩,
    ⟨(some 10), none, .mov (.tmp 41)⟩,
    ⟨none, none, .store 2 (.tmp 11) (.tmp 43)⟩]

def f3r10 : List AInstr := [
    ⟨(some 44), none, .fieldAddr 1 (.tmp 11)⟩,
    ⟨(some 45), none, .load none (.tmp 44)⟩,
    ⟨(some 46), none, .mov (.tmp 0)⟩,
    ⟨(some 47), none, .ibin .lss (.tmp 45) (.tmp 46)⟩]

def f3r11 : List AInstr := [
    ⟨(some 9), none, .mov (.const (.int .i64 (-1)))⟩]

def f3r12 : List AInstr := [
    ⟨(some 48), none, .mov (.tmp 7)⟩,
    ⟨(some 49), none, .mov (.tmp 10)⟩,
    ⟨(some 50), none, .indexAddr 1 (.tmp 48) (.tmp 49)⟩,
    ⟨(some 51), none, .load none (.tmp 50)⟩]

def f3r13 : List AInstr := [
    ⟨(some 6), none, .mov (.const (.bool false))⟩]

def f3r14 : List AInstr := [
    ⟨(some 52), none, .mov (.tmp 9)⟩,
    ⟨(some 53), none, .ibin .lss (.tmp 52) (.const (.int .i64 0))⟩]

def f3r15 : List AInstr := [
    ⟨(some 54), none, .fieldAddr 0 (.tmp 11)⟩,
    ⟨(some 55), none, .load none (.tmp 54)⟩,
    ⟨(some 9), none, .mov (.tmp 55)⟩]

def f3r16 : List AInstr := [
    ⟨(some 56), none, .mov (.tmp 7)⟩,
    ⟨(some 57), none, .mov (.tmp 10)⟩,
    ⟨(some 58), none, .indexAddr 1 (.tmp 56) (.tmp 57)⟩,
    ⟨(some 59), none, .load none (.tmp 58)⟩,
    ⟨(some 60), none, .mov (.tmp 59)⟩,
    ⟨(some 61), (some (60, true)), .fieldAddr 0 (.tmp 11)⟩,
    ⟨(some 62), (some (60, true)), .load none (.tmp 61)⟩,
    ⟨(some 63), (some (60, true)), .mov (.tmp 9)⟩,
    ⟨(some 64), (some (60, true)), .ibin .sub (.tmp 62) (.tmp 63)⟩,
    ⟨(some 65), (some (60, true)), .mov (.tmp 1)⟩,
    ⟨(some 66), (some (60, true)), .ibin .lss (.tmp 64) (.tmp 65)⟩,
    ⟨(some 67), none, .pick (.tmp 60) (.tmp 66) (.const (.bool false))⟩]

def f3r17 : List AInstr := [
    ⟨(some 6), none, .mov (.const (.bool false))⟩]

def f3r18 : List AInstr := [
    ⟨(some 68), none, .ibin .add (.tmp 39) (.const (.int .i64 1))⟩,
    ⟨(some 39), none, .mov (.tmp 68)⟩]

/-- live: [0, 1, 7, 9, 37, 38, 39] -/
def f3l0 : ACode := (.seq (.ops f3r8)
  (.keep [0, 1, 7, 9, 37, 38, 39, 40] (.seq (.cond (.tmp 40) .skip (.exit 0))
  (.keep [0, 1, 7, 9, 37, 38, 39] (.seq (.block 1 (.seq (.ops f3r9)
  (.keep [0, 1, 7, 9, 10, 11, 37, 38, 39] (.seq (.seq (.ops f3r10)
  (.keep [0, 1, 7, 9, 10, 11, 37, 38, 39, 47] (.cond (.tmp 47) (.keep [0, 1, 7, 10, 37, 38, 39] (.seq (.ops f3r11)
  (.keep [0, 1, 7, 9, 10, 37, 38, 39] (.seq (.seq (.ops f3r12)
  (.keep [0, 1, 7, 9, 37, 38, 39, 51] (.cond (.tmp 51) (.keep [] (.seq (.ops f3r13)
  (.keep [6] .ret))) .skip)))
  (.exit 1))))) .skip)))
  (.keep [0, 1, 7, 9, 10, 11, 37, 38, 39] (.seq (.seq (.ops f3r14)
  (.keep [0, 1, 7, 9, 10, 11, 37, 38, 39, 53] (.cond (.tmp 53) (.keep [0, 1, 7, 10, 11, 37, 38, 39] (.ops f3r15)) .skip)))
  (.keep [0, 1, 7, 9, 10, 11, 37, 38, 39] (.seq (.ops f3r16)
  (.keep [0, 1, 7, 9, 37, 38, 39, 67] (.cond (.tmp 67) (.keep [] (.seq (.ops f3r17)
  (.keep [6] .ret))) .skip))))))))))
  (.keep [0, 1, 7, 9, 37, 38, 39] (.ops f3r18)))))))

def f3r20 : List AInstr := [
    ⟨(some 6), none, .mov (.const (.bool true))⟩]

def f3b : ACode := (.seq (.ops f3r0)
  (.keep [0, 1, 2] (.seq (.seq (.ops f3r1)
  (.keep [0, 1, 2, 13] (.cond (.tmp 13) (.keep [] (.seq (.ops f3r2)
  (.keep [6] .ret))) .skip)))
  (.keep [0, 1, 2] (.seq (.ops f3r3)
  (.keep [0, 1, 2, 7, 8] (.seq (.seq (.ops f3r4)
  (.keep [0, 1, 2, 7, 8, 29] (.cond (.tmp 29) (.keep [7, 8] (.seq (.ops f3r5)
  (.keep [6] .ret))) .skip)))
  (.keep [0, 1, 2, 7] (.seq (.ops f3r6)
  (.keep [0, 1, 2, 7, 9] (.seq (.seq (.ops f3r7)
  (.keep [0, 1, 7, 9, 37, 38, 39] (.block 0 (.loop f3l0))))
  (.keep [] (.seq (.ops f3r20)
  (.keep [6] .ret))))))))))))))

def f3 : AFn := ⟨69, [.tmp 6], f3b⟩

theorem f3_ok : compFn Try.prog 3 = some f3.strip := by kernel_rfl

/- function 4: weirhouse/weirhousekeep.RedGaps; parameters 2; operations that are not compiled: 0 -/
def f4r0 : List AInstr := [
    ⟨(some 4), none, .mov (.const (.bool false))⟩]

def f4r1 : List AInstr := [
    ⟨(some 11), none, .callF 7 []⟩,
    ⟨(some 12), none, .un .not (.tmp 11)⟩]

def f4r2 : List AInstr := [
    ⟨(some 4), none, .mov (.const (.bool false))⟩]

def f4r3 : List AInstr := [
    ⟨(some 14), none, .mov (.tmp 0)⟩,
    ⟨(some 15), none, .mov (.tmp 1)⟩,
    ⟨(some 16), none, .callF 9 [.tmp 14, .tmp 15]⟩,
    ⟨(some 13), none, .mov (.tmp 16)⟩,
    ⟨(some 17), none, .extract 0 (.tmp 13)⟩,
    ⟨(some 18), none, .extract 1 (.tmp 13)⟩,
    ⟨(some 5), none, .mov (.tmp 17)⟩,
    ⟨(some 6), none, .mov (.tmp 18)⟩]

def f4r4 : List AInstr := [
    ⟨(some 20), none, .mov (.tmp 0)⟩,
    ⟨(some 21), none, .mov (.tmp 1)⟩,
    ⟨(some 22), none, .ibin .add (.tmp 21) (.const (.int .i64 1))⟩,
    ⟨(some 23), none, .callF 9 [.tmp 20, .tmp 22]⟩,
    ⟨(some 19), none, .mov (.tmp 23)⟩,
    ⟨(some 24), none, .extract 0 (.tmp 19)⟩,
    ⟨(some 25), none, .extract 1 (.tmp 19)⟩,
    ⟨(some 7), none, .mov (.tmp 24)⟩,
    ⟨(some 8), none, .mov (.tmp 25)⟩]

def f4r5 : List AInstr := [
    ⟨(some 27), none, .mov (.tmp 0)⟩,
    ⟨(some 28), none, .mov (.tmp 1)⟩,
    ⟨(some 29), none, .ibin .mul (.const (.int .i64 4)) (.tmp 28)⟩,
    ⟨(some 30), none, .callF 9 [.tmp 27, .tmp 29]⟩,
    ⟨(some 26), none, .mov (.tmp 30)⟩,
    ⟨(some 31), none, .extract 0 (.tmp 26)⟩,
    ⟨(some 32), none, .extract 1 (.tmp 26)⟩,
    ⟨(some 9), none, .mov (.tmp 31)⟩,
    ⟨(some 10), none, .mov (.tmp 32)⟩]

def f4r6 : List AInstr := [
    ⟨(some 33), none, .mov (.tmp 6)⟩,
    ⟨(some 34), none, .ibin .eql (.tmp 33) (.const (.int .i64 0))⟩,
    ⟨(some 35), none, .mov (.tmp 34)⟩,
    ⟨(some 36), (some (35, true)), .mov (.tmp 8)⟩,
    ⟨(some 37), (some (35, true)), .ibin .eql (.tmp 36) (.const (.int .i64 0))⟩,
    ⟨(some 38), none, .pick (.tmp 35) (.tmp 37) (.const (.bool false))⟩,
    ⟨(some 39), none, .mov (.tmp 38)⟩,
    ⟨(some 40), (some (39, true)), .mov (.tmp 7)⟩,
    ⟨(some 41), (some (39, true)), .mov (.tmp 5)⟩,
    ⟨(some 42), (some (39, true)), .ibin .gtr (.tmp 40) (.tmp 41)⟩,
    ⟨(some 43), none, .pick (.tmp 39) (.tmp 42) (.const (.bool false))⟩,
    ⟨(some 44), none, .mov (.tmp 43)⟩,
    ⟨(some 45), (some (44, false)), .mov (.tmp 6)⟩,
    ⟨(some 46), (some (44, false)), .ibin .eql (.tmp 45) (.const (.int .i64 0))⟩,
    ⟨(some 47), (some (44, false)), .mov (.tmp 46)⟩,
    ⟨(some 48), (some (47, true)), .mov (.tmp 5)⟩,
    ⟨(some 49), (some (47, true)), .mov (.tmp 0)⟩,
    ⟨(some 50), (some (47, true)), .ibin .gtr (.tmp 48) (.tmp 49)⟩,
    ⟨(some 51), (some (44, false)), .pick (.tmp 47) (.tmp 50) (.const (.bool false))⟩,
    ⟨(some 52), none, .pick (.tmp 44) (.const (.bool true)) (.tmp 51)⟩]

def f4r7 : List AInstr := [
    ⟨(some 4), none, .mov (.const (.bool false))⟩]

def f4r8 : List AInstr := [
    ⟨(some 53), none, .mov (.tmp 6)⟩,
    ⟨(some 54), none, .ibin .neq (.tmp 53) (.const (.int .i64 0))⟩,
    ⟨(some 55), none, .mov (.tmp 54)⟩,
    ⟨(some 56), (some (55, false)), .mov (.tmp 10)⟩,
    ⟨(some 57), (some (55, false)), .ibin .neq (.tmp 56) (.const (.int .i64 0))⟩,
    ⟨(some 58), none, .pick (.tmp 55) (.const (.bool true)) (.tmp 57)⟩,
    ⟨(some 59), none, .mov (.tmp 58)⟩,
    ⟨(some 60), (some (59, false)), .mov (.tmp 9)⟩,
    ⟨(some 61), (some (59, false)), .ibin .mul (.const (.int .i64 2)) (.tmp 60)⟩,
    ⟨(some 62), (some (59, false)), .mov (.tmp 5)⟩,
    ⟨(some 63), (some (59, false)), .ibin .add (.tmp 62) (.const (.int .i64 2))⟩,
    ⟨(some 64), (some (59, false)), .ibin .leq (.tmp 61) (.tmp 63)⟩,
    ⟨(some 65), (some (59, false)), .mov (.tmp 64)⟩,
    ⟨(some 66), (some (65, true)), .mov (.tmp 5)⟩,
    ⟨(some 67), (some (65, true)), .mov (.tmp 9)⟩,
    ⟨(some 68), (some (65, true)), .ibin .mul (.const (.int .i64 2)) (.tmp 67)⟩,
    ⟨(some 69), (some (65, true)), .ibin .add (.tmp 68) (.const (.int .i64 2))⟩,
    ⟨(some 70), (some (65, true)), .mov (.tmp 5)⟩,
    ⟨(some 71), (some (65, true)), .ibin .quo (.tmp 70) (.const (.int .i64 1024))⟩,
    ⟨(some 72), (some (65, true)), .ibin .add (.tmp 69) (.tmp 71)⟩,
    ⟨(some 73), (some (65, true)), .ibin .leq (.tmp 66) (.tmp 72)⟩,
    ⟨(some 74), (some (59, false)), .pick (.tmp 65) (.tmp 73) (.const (.bool false))⟩,
    ⟨(some 75), none, .pick (.tmp 59) (.const (.bool true)) (.tmp 74)⟩,
    ⟨(some 4), none, .mov (.tmp 75)⟩]

def f4b : ACode := (.seq (.ops f4r0)
  (.keep [0, 1] (.seq (.seq (.ops f4r1)
  (.keep [0, 1, 12] (.cond (.tmp 12) (.keep [] (.seq (.ops f4r2)
  (.keep [4] .ret))) .skip)))
  (.keep [0, 1] (.seq (.ops f4r3)
  (.keep [0, 1, 5, 6] (.seq (.ops f4r4)
  (.keep [0, 1, 5, 6, 7, 8] (.seq (.ops f4r5)
  (.keep [0, 5, 6, 7, 8, 9, 10] (.seq (.seq (.ops f4r6)
  (.keep [5, 6, 9, 10, 52] (.cond (.tmp 52) (.keep [] (.seq (.ops f4r7)
  (.keep [4] .ret))) .skip)))
  (.keep [5, 6, 9, 10] (.seq (.ops f4r8)
  (.keep [4] .ret))))))))))))))

def f4 : AFn := ⟨76, [.tmp 4], f4b⟩

theorem f4_ok : compFn Try.prog 4 = some f4.strip := by kernel_rfl

/- function 5: weirhouse/weirhousekeep.RedAhead; parameters 4; operations that are not compiled: 0 -/
def f5r0 : List AInstr := [
    ⟨(some 8), none, .mov (.const (.bool false))⟩]

def f5r1 : List AInstr := [
    ⟨(some 13), none, .callF 7 []⟩,
    ⟨(some 14), none, .un .not (.tmp 13)⟩]

def f5r2 : List AInstr := [
    ⟨(some 8), none, .mov (.const (.bool false))⟩]

def f5r3 : List AInstr := [
    ⟨(some 16), none, .mov (.tmp 0)⟩,
    ⟨(some 17), none, .mov (.tmp 1)⟩,
    ⟨(some 18), none, .mov (.tmp 2)⟩,
    ⟨(some 19), none, .callF 8 [.tmp 16, .tmp 17, .tmp 18]⟩,
    ⟨(some 15), none, .mov (.tmp 19)⟩,
    ⟨(some 20), none, .extract 0 (.tmp 15)⟩,
    ⟨(some 21), none, .extract 1 (.tmp 15)⟩,
    ⟨(some 9), none, .mov (.tmp 20)⟩,
    ⟨(some 10), none, .mov (.tmp 21)⟩]

def f5r4 : List AInstr := [
    ⟨(some 22), none, .mov (.tmp 10)⟩,
    ⟨(some 23), none, .ibin .neq (.tmp 22) (.const (.int .i64 0))⟩,
    ⟨(some 24), none, .mov (.tmp 23)⟩,
    ⟨(some 25), (some (24, false)), .mov (.tmp 3)⟩,
    ⟨(some 26), (some (24, false)), .ibin .lss (.tmp 25) (.const (.int .i64 0))⟩,
    ⟨(some 27), none, .pick (.tmp 24) (.const (.bool true)) (.tmp 26)⟩,
    ⟨(some 28), none, .mov (.tmp 27)⟩,
    ⟨(some 29), (some (28, false)), .mov (.tmp 3)⟩,
    ⟨(some 30), (some (28, false)), .mov (.tmp 2)⟩,
    ⟨(some 31), (some (28, false)), .len (.tmp 30)⟩,
    ⟨(some 32), (some (28, false)), .ibin .gtr (.tmp 29) (.tmp 31)⟩,
    ⟨(some 33), none, .pick (.tmp 28) (.const (.bool true)) (.tmp 32)⟩]

def f5r5 : List AInstr := [
    ⟨(some 8), none, .mov (.const (.bool true))⟩]

def f5r6 : List AInstr := [
    ⟨(some 35), none, .mov (.tmp 0)⟩,
    ⟨(some 36), none, .mov (.tmp 1)⟩,
    ⟨(some 37), none, .mov (.tmp 2)⟩,
    ⟨(some 38), none, .mov (.tmp 3)⟩,
    ⟨(some 39), none, .slice 2 (.tmp 37) none (some (.tmp 38)) none⟩,
    ⟨(some 40), none, .callF 8 [.tmp 35, .tmp 36, .tmp 39]⟩,
    ⟨(some 34), none, .mov (.tmp 40)⟩,
    ⟨(some 41), none, .extract 0 (.tmp 34)⟩,
    ⟨(some 42), none, .extract 1 (.tmp 34)⟩,
    ⟨(some 11), none, .mov (.tmp 41)⟩,
    ⟨(some 12), none, .mov (.tmp 42)⟩]

def f5r7 : List AInstr := [
    ⟨(some 43), none, .mov (.tmp 12)⟩,
    ⟨(some 44), none, .ibin .eql (.tmp 43) (.const (.int .i64 0))⟩,
    ⟨(some 45), none, .mov (.tmp 44)⟩,
    ⟨(some 46), (some (45, true)), .mov (.tmp 9)⟩,
    ⟨(some 47), (some (45, true)), .len (.tmp 46)⟩,
    ⟨(some 48), (some (45, true)), .mov (.tmp 2)⟩,
    ⟨(some 49), (some (45, true)), .len (.tmp 48)⟩,
    ⟨(some 50), (some (45, true)), .ibin .eql (.tmp 47) (.tmp 49)⟩,
    ⟨(some 51), none, .pick (.tmp 45) (.tmp 50) (.const (.bool false))⟩,
    ⟨(some 52), none, .mov (.tmp 51)⟩,
    ⟨(some 53), (some (52, true)), .mov (.tmp 9)⟩,
    ⟨(some 54), (some (52, true)), .mov (.tmp 3)⟩,
    ⟨(some 55), (some (52, true)), .slice 1 (.tmp 53) none (some (.tmp 54)) none⟩,
    ⟨(some 56), (some (52, true)), .mov (.tmp 11)⟩,
    ⟨(some 57), (some (52, true)), .callF 10 [.tmp 55, .tmp 56]⟩,
    ⟨(some 58), none, .pick (.tmp 52) (.tmp 57) (.const (.bool false))⟩,
    ⟨(some 8), none, .mov (.tmp 58)⟩]

def f5b : ACode := (.seq (.ops f5r0)
  (.keep [0, 1, 2, 3] (.seq (.seq (.ops f5r1)
  (.keep [0, 1, 2, 3, 14] (.cond (.tmp 14) (.keep [] (.seq (.ops f5r2)
  (.keep [8] .ret))) .skip)))
  (.keep [0, 1, 2, 3] (.seq (.ops f5r3)
  (.keep [0, 1, 2, 3, 9, 10] (.seq (.seq (.ops f5r4)
  (.keep [0, 1, 2, 3, 9, 33] (.cond (.tmp 33) (.keep [] (.seq (.ops f5r5)
  (.keep [8] .ret))) .skip)))
  (.keep [0, 1, 2, 3, 9] (.seq (.ops f5r6)
  (.keep [2, 3, 9, 11, 12] (.seq (.ops f5r7)
  (.keep [8] .ret))))))))))))

def f5 : AFn := ⟨59, [.tmp 8], f5b⟩

theorem f5_ok : compFn Try.prog 5 = some f5.strip := by kernel_rfl

/- function 6: weirhouse/weirhousekeep.RedShift; parameters 4; operations that are not compiled: 0 -/
def f6r0 : List AInstr := [
    ⟨(some 8), none, .mov (.const (.bool false))⟩]

def f6r1 : List AInstr := [
    ⟨(some 15), none, .callF 7 []⟩,
    ⟨(some 16), none, .un .not (.tmp 15)⟩]

def f6r2 : List AInstr := [
    ⟨(some 8), none, .mov (.const (.bool false))⟩]

def f6r3 : List AInstr := [
    ⟨(some 17), none, .mov (.tmp 3)⟩,
    ⟨(some 18), none, .ibin .lss (.tmp 17) (.const (.int .i64 0))⟩,
    ⟨(some 19), none, .mov (.tmp 18)⟩,
    ⟨(some 20), (some (19, false)), .mov (.tmp 3)⟩,
    ⟨(some 21), (some (19, false)), .ibin .gtr (.tmp 20) (.const (.int .i64 1073741824))⟩,
    ⟨(some 22), none, .pick (.tmp 19) (.const (.bool true)) (.tmp 21)⟩]

def f6r4 : List AInstr := [
    ⟨(some 8), none, .mov (.const (.bool true))⟩]

def f6r5 : List AInstr := [
    ⟨(some 23), none, .mov (.tmp 2)⟩,
    ⟨(some 24), none, .callF 11 [.tmp 23]⟩,
    ⟨(some 9), none, .mov (.tmp 24)⟩]

def f6r6 : List AInstr := [
    ⟨(some 25), none, .mov (.tmp 9)⟩,
    ⟨(some 26), none, .len (.tmp 25)⟩,
    ⟨(some 27), none, .mov (.const (.int .i64 0))⟩]

def f6r7 : List AInstr := [
    ⟨(some 28), none, .ibin .lss (.tmp 27) (.tmp 26)⟩]

def f6r8 : List AInstr := [
    ⟨(some 29), none, .mov (.tmp 27)⟩,
    ⟨(some 10), none, .mov (.tmp 29)⟩]

def f6r9 : List AInstr := [
    ⟨(some 30), none, .mov (.tmp 9)⟩,
    ⟨(some 31), none, .mov (.tmp 10)⟩,
    ⟨(some 32), none, .indexAddr 2 (.tmp 30) (.tmp 31)⟩,
    ⟨(some 33), none, .fieldAddr 0 (.tmp 32)⟩,
    ⟨(some 34), none, .load none (.tmp 33)⟩,
    ⟨(some 35), none, .mov (.tmp 3)⟩,
    ⟨(some 36), none, .ibin .add (.tmp 34) (.tmp 35)⟩,
    ⟨(some 37), none, .indexAddr 2 (.tmp 30) (.tmp 31)⟩,
    ⟨(some 38), none, .fieldAddr 0 (.tmp 37)⟩,
    ⟨none, none, .store 1 (.tmp 38) (.tmp 36)⟩]

def f6r10 : List AInstr := [
    ⟨(some 39), none, .ibin .add (.tmp 27) (.const (.int .i64 1))⟩,
    ⟨(some 27), none, .mov (.tmp 39)⟩]

/-- live: [0, 1, 2, 3, 9, 26, 27] -/
def f6l0 : ACode := (.seq (.ops f6r7)
  (.keep [0, 1, 2, 3, 9, 26, 27, 28] (.seq (.cond (.tmp 28) .skip (.exit 0))
  (.keep [0, 1, 2, 3, 9, 26, 27] (.seq (.block 1 (.seq (.ops f6r8)
  (.keep [0, 1, 2, 3, 9, 10, 26, 27] (.ops f6r9))))
  (.keep [0, 1, 2, 3, 9, 26, 27] (.ops f6r10)))))))

def f6r12 : List AInstr := [
    ⟨(some 41), none, .mov (.tmp 0)⟩,
    ⟨(some 42), none, .mov (.tmp 1)⟩,
    ⟨(some 43), none, .mov (.tmp 2)⟩,
    ⟨(some 44), none, .callF 8 [.tmp 41, .tmp 42, .tmp 43]⟩,
    ⟨(some 40), none, .mov (.tmp 44)⟩,
    ⟨(some 45), none, .extract 0 (.tmp 40)⟩,
    ⟨(some 46), none, .extract 1 (.tmp 40)⟩,
    ⟨(some 11), none, .mov (.tmp 45)⟩,
    ⟨(some 12), none, .mov (.tmp 46)⟩]

def f6r13 : List AInstr := [
    ⟨(some 48), none, .mov (.tmp 0)⟩,
    ⟨(some 49), none, .mov (.tmp 1)⟩,
    ⟨(some 50), none, .mov (.tmp 9)⟩,
    ⟨(some 51), none, .callF 8 [.tmp 48, .tmp 49, .tmp 50]⟩,
    ⟨(some 47), none, .mov (.tmp 51)⟩,
    ⟨(some 52), none, .extract 0 (.tmp 47)⟩,
    ⟨(some 53), none, .extract 1 (.tmp 47)⟩,
    ⟨(some 13), none, .mov (.tmp 52)⟩,
    ⟨(some 14), none, .mov (.tmp 53)⟩]

def f6r14 : List AInstr := [
    ⟨(some 54), none, .mov (.tmp 12)⟩,
    ⟨(some 55), none, .ibin .neq (.tmp 54) (.const (.int .i64 0))⟩,
    ⟨(some 56), none, .mov (.tmp 55)⟩,
    ⟨(some 57), (some (56, false)), .mov (.tmp 14)⟩,
    ⟨(some 58), (some (56, false)), .ibin .neq (.tmp 57) (.const (.int .i64 0))⟩,
    ⟨(some 59), none, .pick (.tmp 56) (.const (.bool true)) (.tmp 58)⟩,
    ⟨(some 60), none, .mov (.tmp 59)⟩,
    ⟨(some 61), (some (60, false)), .mov (.tmp 11)⟩,
    ⟨(some 62), (some (60, false)), .mov (.tmp 13)⟩,
    ⟨(some 63), (some (60, false)), .callF 10 [.tmp 61, .tmp 62]⟩,
    ⟨(some 64), none, .pick (.tmp 60) (.const (.bool true)) (.tmp 63)⟩,
    ⟨(some 8), none, .mov (.tmp 64)⟩]

def f6b : ACode := (.seq (.ops f6r0)
  (.keep [0, 1, 2, 3] (.seq (.seq (.ops f6r1)
  (.keep [0, 1, 2, 3, 16] (.cond (.tmp 16) (.keep [] (.seq (.ops f6r2)
  (.keep [8] .ret))) .skip)))
  (.keep [0, 1, 2, 3] (.seq (.seq (.ops f6r3)
  (.keep [0, 1, 2, 3, 22] (.cond (.tmp 22) (.keep [] (.seq (.ops f6r4)
  (.keep [8] .ret))) .skip)))
  (.keep [0, 1, 2, 3] (.seq (.ops f6r5)
  (.keep [0, 1, 2, 3, 9] (.seq (.seq (.ops f6r6)
  (.keep [0, 1, 2, 3, 9, 26, 27] (.block 0 (.loop f6l0))))
  (.keep [0, 1, 2, 9] (.seq (.ops f6r12)
  (.keep [0, 1, 9, 11, 12] (.seq (.ops f6r13)
  (.keep [11, 12, 13, 14] (.seq (.ops f6r14)
  (.keep [8] .ret))))))))))))))))

def f6 : AFn := ⟨65, [.tmp 8], f6b⟩

theorem f6_ok : compFn Try.prog 6 = some f6.strip := by kernel_rfl

/- function 7: weirhouse/weirhousekeep.alive20; parameters 0; operations that are not compiled: 0 -/
def f7r0 : List AInstr := [
    ⟨(some 0), none, .mov (.const (.bool false))⟩]

def f7r1 : List AInstr := [
    ⟨(some 10), none, .callF 9 [.const (.int .i64 100), .const (.int .i64 4)]⟩,
    ⟨(some 9), none, .mov (.tmp 10)⟩,
    ⟨(some 11), none, .extract 0 (.tmp 9)⟩,
    ⟨(some 12), none, .extract 1 (.tmp 9)⟩,
    ⟨(some 1), none, .mov (.tmp 11)⟩,
    ⟨(some 2), none, .mov (.tmp 12)⟩]

def f7r2 : List AInstr := [
    ⟨(some 3), none, .mov (.const (.slice none 0 0))⟩]

def f7r3 : List AInstr := [
    ⟨(some 13), none, .mov (.const (.int .i64 0))⟩]

def f7r4 : List AInstr := [
    ⟨(some 14), none, .ibin .lss (.tmp 13) (.const (.int .i64 30))⟩]

def f7r5 : List AInstr := [
    ⟨(some 15), none, .mov (.tmp 13)⟩,
    ⟨(some 4), none, .mov (.tmp 15)⟩]

def f7r6 : List AInstr := [
    ⟨(some 16), none, .mov (.tmp 3)⟩,
    ⟨(some 17), none, .mov (.tmp 4)⟩,
    ⟨(some 18), none, .ibin .mul (.const (.int .i64 10)) (.tmp 17)⟩,
    ⟨(some 19), none, .build [.int .i64 0, .int .i64 0] [(0, 1, (.tmp 18)), (1, 1, (.const (.int .i64 9)))]⟩,
    ⟨(some 20), none, .buildSlice 2 1 [.int .i64 0, .int .i64 0] [(0, 2, (.tmp 19))]⟩,
    ⟨(some 21), none, .append 2 16 (.tmp 16) (.tmp 20)⟩,
    ⟨(some 3), none, .mov (.tmp 21)⟩]

def f7r7 : List AInstr := [
    ⟨(some 22), none, .ibin .add (.tmp 13) (.const (.int .i64 1))⟩,
    ⟨(some 13), none, .mov (.tmp 22)⟩]

/-- live: [1, 2, 3, 13] -/
def f7l0 : ACode := (.seq (.ops f7r4)
  (.keep [1, 2, 3, 13, 14] (.seq (.cond (.tmp 14) .skip (.exit 0))
  (.keep [1, 2, 3, 13] (.seq (.block 1 (.seq (.ops f7r5)
  (.keep [1, 2, 3, 4, 13] (.ops f7r6))))
  (.keep [1, 2, 3, 13] (.ops f7r7)))))))

def f7r9 : List AInstr := [
    ⟨(some 24), none, .mov (.tmp 3)⟩,
    ⟨(some 25), none, .callF 8 [.const (.int .i64 5), .const (.int .i64 100), .tmp 24]⟩,
    ⟨(some 23), none, .mov (.tmp 25)⟩,
    ⟨(some 26), none, .extract 0 (.tmp 23)⟩,
    ⟨(some 27), none, .extract 1 (.tmp 23)⟩,
    ⟨(some 5), none, .mov (.tmp 26)⟩,
    ⟨(some 6), none, .mov (.tmp 27)⟩]

def f7r10 : List AInstr := [
    ⟨(some 29), none, .mov (.tmp 3)⟩,
    ⟨(some 30), none, .callF 8 [.const (.int .i64 10), .const (.int .i64 100), .tmp 29]⟩,
    ⟨(some 28), none, .mov (.tmp 30)⟩,
    ⟨(some 31), none, .extract 0 (.tmp 28)⟩,
    ⟨(some 32), none, .extract 1 (.tmp 28)⟩,
    ⟨(some 7), none, .mov (.tmp 31)⟩,
    ⟨(some 8), none, .mov (.tmp 32)⟩]

def f7r11 : List AInstr := [
    ⟨(some 33), none, .mov (.tmp 2)⟩,
    ⟨(some 34), none, .ibin .eql (.tmp 33) (.const (.int .i64 0))⟩,
    ⟨(some 35), none, .mov (.tmp 34)⟩,
    ⟨(some 36), (some (35, true)), .mov (.tmp 6)⟩,
    ⟨(some 37), (some (35, true)), .ibin .eql (.tmp 36) (.const (.int .i64 0))⟩,
    ⟨(some 38), none, .pick (.tmp 35) (.tmp 37) (.const (.bool false))⟩,
    ⟨(some 39), none, .mov (.tmp 38)⟩,
    ⟨(some 40), (some (39, true)), .mov (.tmp 8)⟩,
    ⟨(some 41), (some (39, true)), .ibin .eql (.tmp 40) (.const (.int .i64 0))⟩,
    ⟨(some 42), none, .pick (.tmp 39) (.tmp 41) (.const (.bool false))⟩,
    ⟨(some 43), none, .mov (.tmp 42)⟩,
    ⟨(some 44), (some (43, true)), .mov (.tmp 1)⟩,
    ⟨(some 45), (some (43, true)), .ibin .eql (.tmp 44) (.const (.int .i64 50))⟩,
    ⟨(some 46), none, .pick (.tmp 43) (.tmp 45) (.const (.bool false))⟩,
    ⟨(some 47), none, .mov (.tmp 46)⟩,
    ⟨(some 48), (some (47, true)), .mov (.tmp 5)⟩,
    ⟨(some 49), (some (47, true)), .len (.tmp 48)⟩,
    ⟨(some 50), (some (47, true)), .ibin .eql (.tmp 49) (.const (.int .i64 30))⟩,
    ⟨(some 51), none, .pick (.tmp 47) (.tmp 50) (.const (.bool false))⟩,
    ⟨(some 52), none, .mov (.tmp 51)⟩,
    ⟨(some 53), (some (52, true)), .mov (.tmp 5)⟩,
    ⟨(some 54), (some (52, true)), .callF 12 [.tmp 53, .const (.bool true)]⟩,
    ⟨(some 55), (some (52, true)), .ibin .eql (.tmp 54) (.const (.int .i64 10))⟩,
    ⟨(some 56), none, .pick (.tmp 52) (.tmp 55) (.const (.bool false))⟩,
    ⟨(some 57), none, .mov (.tmp 56)⟩,
    ⟨(some 58), (some (57, true)), .mov (.tmp 5)⟩,
    ⟨(some 59), (some (57, true)), .indexAddr 1 (.tmp 58) (.const (.int .i64 20))⟩,
    ⟨(some 60), (some (57, true)), .load none (.tmp 59)⟩,
    ⟨(some 61), none, .pick (.tmp 57) (.tmp 60) (.const (.bool false))⟩,
    ⟨(some 62), none, .mov (.tmp 61)⟩,
    ⟨(some 63), (some (62, true)), .mov (.tmp 7)⟩,
    ⟨(some 64), (some (62, true)), .callF 13 [.tmp 63, .const (.bool true)]⟩,
    ⟨(some 65), (some (62, true)), .un .not (.tmp 64)⟩,
    ⟨(some 66), none, .pick (.tmp 62) (.tmp 65) (.const (.bool false))⟩,
    ⟨(some 0), none, .mov (.tmp 66)⟩]

def f7b : ACode := (.seq (.ops f7r0)
  (.keep [] (.seq (.ops f7r1)
  (.keep [1, 2] (.seq (.ops f7r2)
  (.keep [1, 2, 3] (.seq (.seq (.ops f7r3)
  (.keep [1, 2, 3, 13] (.block 0 (.loop f7l0))))
  (.keep [1, 2, 3] (.seq (.ops f7r9)
  (.keep [1, 2, 3, 5, 6] (.seq (.ops f7r10)
  (.keep [1, 2, 5, 6, 7, 8] (.seq (.ops f7r11)
  (.keep [0] .ret))))))))))))))

def f7 : AFn := ⟨67, [.tmp 0], f7b⟩

theorem f7_ok : compFn Try.prog 7 = some f7.strip := by kernel_rfl

/- function 8: weirhouse/red.Play; parameters 3; operations that are not compiled: 0 -/
def f8r0 : List AInstr := [
    ⟨(some 6), none, .mov (.const (.slice none 0 0))⟩,
    ⟨(some 7), none, .mov (.const (.int .i64 0))⟩]

def f8r1 : List AInstr := [
    ⟨(some 17), none, .mov (.tmp 0)⟩,
    ⟨(some 18), none, .ibin .lss (.tmp 17) (.const (.int .i64 0))⟩,
    ⟨(some 19), none, .mov (.tmp 18)⟩,
    ⟨(some 20), (some (19, false)), .mov (.tmp 0)⟩,
    ⟨(some 21), (some (19, false)), .ibin .gtr (.tmp 20) (.const (.int .i64 1048576))⟩,
    ⟨(some 22), none, .pick (.tmp 19) (.const (.bool true)) (.tmp 21)⟩,
    ⟨(some 23), none, .mov (.tmp 22)⟩,
    ⟨(some 24), (some (23, false)), .mov (.tmp 1)⟩,
    ⟨(some 25), (some (23, false)), .ibin .lss (.tmp 24) (.const (.int .i64 1))⟩,
    ⟨(some 26), none, .pick (.tmp 23) (.const (.bool true)) (.tmp 25)⟩,
    ⟨(some 27), none, .mov (.tmp 26)⟩,
    ⟨(some 28), (some (27, false)), .mov (.tmp 1)⟩,
    ⟨(some 29), (some (27, false)), .ibin .gtr (.tmp 28) (.const (.int .i64 1048576))⟩,
    ⟨(some 30), none, .pick (.tmp 27) (.const (.bool true)) (.tmp 29)⟩,
    ⟨(some 31), none, .mov (.tmp 30)⟩,
    ⟨(some 32), (some (31, false)), .mov (.tmp 2)⟩,
    ⟨(some 33), (some (31, false)), .len (.tmp 32)⟩,
    ⟨(some 34), (some (31, false)), .ibin .gtr (.tmp 33) (.const (.int .i64 400))⟩,
    ⟨(some 35), none, .pick (.tmp 31) (.const (.bool true)) (.tmp 34)⟩]

def f8r2 : List AInstr := [
    ⟨(some 6), none, .mov (.const (.slice none 0 0))⟩,
    ⟨(some 7), none, .mov (.const (.int .i64 2))⟩]

def f8r3 : List AInstr := [
    ⟨(some 36), none, .build [.int .i64 0, .bool false, .int .i64 0, .int .i64 0] [(0, 1, (.const (.int .i64 (-1))))]⟩,
    ⟨(some 8), none, .alloc [.int .i64 0, .bool false, .int .i64 0, .int .i64 0]⟩,
    ⟨none, none, .store 4 (.tmp 8) (.tmp 36)⟩]

def f8r4 : List AInstr := [
    ⟨(some 9), none, .mov (.const (.slice none 0 0))⟩]

def f8r5 : List AInstr := [
    ⟨(some 10), none, .mov (.const (.int .i64 0))⟩]

def f8r6 : List AInstr := [
    ⟨(some 37), none, .mov (.tmp 2)⟩,
    ⟨(some 38), none, .len (.tmp 37)⟩,
    ⟨(some 39), none, .mov (.const (.int .i64 0))⟩]

def f8r7 : List AInstr := [
    ⟨(some 40), none, .ibin .lss (.tmp 39) (.tmp 38)⟩]

def f8r8 : List AInstr := [
    ⟨(some 41), none, .indexAddr 2 (.tmp 37) (.tmp 39)⟩,
    ⟨(some 42), none, .load (some 2) (.tmp 41)⟩,
    ⟨(some 12), none, .alloc [.int .i64 0, .int .i64 0]⟩,
    ⟨none, none, .store 2 (.tmp 12) (.tmp 42)⟩]

def f8r9 : List AInstr := [
    ⟨(some 43), none, .fieldAddr 0 (.tmp 12)⟩,
    ⟨(some 44), none, .load none (.tmp 43)⟩,
    ⟨(some 45), none, .mov (.tmp 10)⟩,
    ⟨(some 46), none, .ibin .lss (.tmp 44) (.tmp 45)⟩,
    ⟨(some 47), none, .mov (.tmp 46)⟩,
    ⟨(some 48), (some (47, false)), .fieldAddr 0 (.tmp 12)⟩,
    ⟨(some 49), (some (47, false)), .load none (.tmp 48)⟩,
    ⟨(some 50), (some (47, false)), .ibin .gtr (.tmp 49) (.const (.int .i64 1099511627776))⟩,
    ⟨(some 51), none, .pick (.tmp 47) (.const (.bool true)) (.tmp 50)⟩,
    ⟨(some 52), none, .mov (.tmp 51)⟩,
    ⟨(some 53), (some (52, false)), .fieldAddr 1 (.tmp 12)⟩,
    ⟨(some 54), (some (52, false)), .load none (.tmp 53)⟩,
    ⟨(some 55), (some (52, false)), .ibin .lss (.tmp 54) (.const (.int .i64 0))⟩,
    ⟨(some 56), none, .pick (.tmp 52) (.const (.bool true)) (.tmp 55)⟩,
    ⟨(some 57), none, .mov (.tmp 56)⟩,
    ⟨(some 58), (some (57, false)), .fieldAddr 1 (.tmp 12)⟩,
    ⟨(some 59), (some (57, false)), .load none (.tmp 58)⟩,
    ⟨(some 60), (some (57, false)), .ibin .gtr (.tmp 59) (.const (.int .i64 1099511627776))⟩,
    ⟨(some 61), none, .pick (.tmp 57) (.const (.bool true)) (.tmp 60)⟩]

def f8r10 : List AInstr := [
    ⟨(some 6), none, .mov (.const (.slice none 0 0))⟩,
    ⟨(some 7), none, .mov (.const (.int .i64 1))⟩]

def f8r11 : List AInstr := [
    ⟨(some 62), none, .fieldAddr 0 (.tmp 12)⟩,
    ⟨(some 63), none, .load none (.tmp 62)⟩,
    ⟨(some 10), none, .mov (.tmp 63)⟩]

def f8r12 : List AInstr := [
    ⟨(some 13), none, .mov (.const (.bool false))⟩]

def f8r13 : List AInstr := [
    ⟨(some 65), none, .fieldAddr 1 (.tmp 12)⟩,
    ⟨(some 66), none, .load none (.tmp 65)⟩,
    ⟨(some 67), none, .mov (.tmp 0)⟩,
    ⟨(some 68), none, .ibin .lss (.tmp 66) (.tmp 67)⟩,
    ⟨(some 64), none, .mov (.tmp 68)⟩]

def f8r14 : List AInstr := [
    ⟨(some 69), none, .build [.int .i64 0, .bool false, .int .i64 0, .int .i64 0] [(0, 1, (.const (.int .i64 (-1))))]⟩,
    ⟨none, none, .store 4 (.tmp 8) (.tmp 69)⟩]

def f8r15 : List AInstr := [
    ⟨(some 71), none, .fieldAddr 0 (.tmp 8)⟩,
    ⟨(some 72), none, .load none (.tmp 71)⟩,
    ⟨(some 73), none, .ibin .lss (.tmp 72) (.const (.int .i64 0))⟩,
    ⟨(some 70), none, .mov (.tmp 73)⟩]

def f8r16 : List AInstr := [
    ⟨(some 74), none, .fieldAddr 0 (.tmp 12)⟩,
    ⟨(some 75), none, .load none (.tmp 74)⟩,
    ⟨(some 76), none, .fieldAddr 0 (.tmp 8)⟩,
    ⟨none, none, .store 1 (.tmp 76) (.tmp 75)⟩]

def f8r17 : List AInstr := [
    ⟨(some 78), none, .fieldAddr 1 (.tmp 8)⟩,
    ⟨(some 79), none, .load none (.tmp 78)⟩,
    ⟨(some 80), none, .un .not (.tmp 79)⟩,
    ⟨(some 81), none, .mov (.tmp 80)⟩,
    ⟨(some 82), (some (81, true)), .fieldAddr 0 (.tmp 12)⟩,
    ⟨(some 83), (some (81, true)), .load none (.tmp 82)⟩,
    ⟨(some 84), (some (81, true)), .fieldAddr 0 (.tmp 8)⟩,
    ⟨(some 85), (some (81, true)), .load none (.tmp 84)⟩,
    ⟨(some 86), (some (81, true)), .ibin .sub (.tmp 83) (.tmp 85)⟩,
    ⟨(some 87), (some (81, true)), .mov (.tmp 1)⟩,
    ⟨(some 88), (some (81, true)), .ibin .geq (.tmp 86) (.tmp 87)⟩,
    ⟨(some 89), none, .pick (.tmp 81) (.tmp 88) (.const (.bool false))⟩,
    ⟨(some 90), none, .mov (.tmp 89)⟩,
    ⟨(some 91), (some (90, false)), .fieldAddr 1 (.tmp 8)⟩,
    ⟨(some 92), (some (90, false)), .load none (.tmp 91)⟩,
    ⟨(some 93), (some (90, false)), .mov (.tmp 92)⟩,
    ⟨(some 94), (some (93, true)), .fieldAddr 0 (.tmp 12)⟩,
    ⟨(some 95), (some (93, true)), .load none (.tmp 94)⟩,
    ⟨(some 96), (some (93, true)), .fieldAddr 2 (.tmp 8)⟩,
    ⟨(some 97), (some (93, true)), .load none (.tmp 96)⟩,
    ⟨(some 98), (some (93, true)), .ibin .geq (.tmp 95) (.tmp 97)⟩,
    ⟨(some 99), (some (90, false)), .pick (.tmp 93) (.tmp 98) (.const (.bool false))⟩,
    ⟨(some 100), none, .pick (.tmp 90) (.const (.bool true)) (.tmp 99)⟩,
    ⟨(some 77), none, .mov (.tmp 100)⟩]

def f8r18 : List AInstr := [
    ⟨(some 101), none, .fieldAddr 0 (.tmp 12)⟩,
    ⟨(some 102), none, .load none (.tmp 101)⟩,
    ⟨(some 14), none, .mov (.tmp 102)⟩]

def f8r19 : List AInstr := [
    ⟨(some 103), none, .fieldAddr 1 (.tmp 8)⟩,
    ⟨(some 104), none, .load none (.tmp 103)⟩]

def f8r20 : List AInstr := [
    ⟨(some 105), none, .fieldAddr 2 (.tmp 8)⟩,
    ⟨(some 106), none, .load none (.tmp 105)⟩,
    ⟨(some 14), none, .mov (.tmp 106)⟩]

def f8r21 : List AInstr := [
    ⟨(some 13), none, .mov (.const (.bool true))⟩,
    ⟨(some 107), none, .fieldAddr 1 (.tmp 8)⟩,
    ⟨none, none, .store 1 (.tmp 107) (.const (.bool true))⟩]

def f8r22 : List AInstr := [
    ⟨(some 108), none, .fieldAddr 3 (.tmp 8)⟩,
    ⟨(some 109), none, .load none (.tmp 108)⟩,
    ⟨(some 110), none, .ibin .add (.tmp 109) (.const (.int .i64 1))⟩,
    ⟨(some 111), none, .fieldAddr 3 (.tmp 8)⟩,
    ⟨none, none, .store 1 (.tmp 111) (.tmp 110)⟩]

def f8r23 : List AInstr := [
    ⟨(some 113), none, .mov (.tmp 1)⟩,
    ⟨(some 114), none, .fieldAddr 3 (.tmp 8)⟩,
    ⟨(some 115), none, .load none (.tmp 114)⟩,
    ⟨(some 116), none, .callF 9 [.tmp 113, .tmp 115]⟩,
    ⟨(some 112), none, .mov (.tmp 116)⟩,
    ⟨(some 117), none, .extract 0 (.tmp 112)⟩,
    ⟨(some 118), none, .extract 1 (.tmp 112)⟩,
    ⟨(some 15), none, .mov (.tmp 117)⟩,
    ⟨(some 16), none, .mov (.tmp 118)⟩]

def f8r24 : List AInstr := [
    ⟨(some 119), none, .mov (.tmp 14)⟩,
    ⟨(some 120), none, .mov (.tmp 15)⟩,
    ⟨(some 121), none, .ibin .add (.tmp 119) (.tmp 120)⟩,
    ⟨(some 122), none, .fieldAddr 2 (.tmp 8)⟩,
    ⟨none, none, .store 1 (.tmp 122) (.tmp 121)⟩]

def f8r25 : List AInstr := [
    ⟨(some 123), none, .mov (.tmp 9)⟩,
    ⟨(some 124), none, .mov (.tmp 13)⟩,
    ⟨(some 125), none, .buildSlice 1 1 [.bool false] [(0, 1, (.tmp 124))]⟩,
    ⟨(some 126), none, .append 1 1 (.tmp 123) (.tmp 125)⟩,
    ⟨(some 9), none, .mov (.tmp 126)⟩]

def f8r26 : List AInstr := [
    ⟨(some 127), none, .ibin .add (.tmp 39) (.const (.int .i64 1))⟩,
    ⟨(some 39), none, .mov (.tmp 127)⟩]

/-- live: [0, 1, 8, 9, 10, 37, 38, 39] -/
def f8l0 : ACode := (.seq (.ops f8r7)
  (.keep [0, 1, 8, 9, 10, 37, 38, 39, 40] (.seq (.cond (.tmp 40) .skip (.exit 0))
  (.keep [0, 1, 8, 9, 10, 37, 38, 39] (.seq (.block 1 (.seq (.ops f8r8)
  (.keep [0, 1, 8, 9, 10, 12, 37, 38, 39] (.seq (.seq (.ops f8r9)
  (.keep [0, 1, 8, 9, 12, 37, 38, 39, 61] (.cond (.tmp 61) (.keep [] (.seq (.ops f8r10)
  (.keep [6, 7] .ret))) .skip)))
  (.keep [0, 1, 8, 9, 12, 37, 38, 39] (.seq (.ops f8r11)
  (.keep [0, 1, 8, 9, 10, 12, 37, 38, 39] (.seq (.ops f8r12)
  (.keep [0, 1, 8, 9, 10, 12, 13, 37, 38, 39] (.seq (.block 2 (.seq (.ops f8r13)
  (.keep [0, 1, 8, 9, 10, 12, 13, 37, 38, 39, 64] (.cond (.tmp 64) (.keep [0, 1, 8, 9, 10, 13, 37, 38, 39] (.ops f8r14)) (.keep [0, 1, 8, 9, 10, 12, 13, 37, 38, 39] (.seq (.ops f8r15)
  (.keep [0, 1, 8, 9, 10, 12, 13, 37, 38, 39, 70] (.cond (.tmp 70) (.keep [0, 1, 8, 9, 10, 12, 13, 37, 38, 39] (.ops f8r16)) (.keep [0, 1, 8, 9, 10, 12, 13, 37, 38, 39] (.seq (.ops f8r17)
  (.keep [0, 1, 8, 9, 10, 12, 13, 37, 38, 39, 77] (.cond (.tmp 77) (.keep [0, 1, 8, 9, 10, 12, 37, 38, 39] (.seq (.ops f8r18)
  (.keep [0, 1, 8, 9, 10, 14, 37, 38, 39] (.seq (.seq (.ops f8r19)
  (.keep [0, 1, 8, 9, 10, 14, 37, 38, 39, 104] (.cond (.tmp 104) (.keep [0, 1, 8, 9, 10, 37, 38, 39] (.ops f8r20)) .skip)))
  (.keep [0, 1, 8, 9, 10, 14, 37, 38, 39] (.seq (.ops f8r21)
  (.keep [0, 1, 8, 9, 10, 13, 14, 37, 38, 39] (.seq (.ops f8r22)
  (.keep [0, 1, 8, 9, 10, 13, 14, 37, 38, 39] (.seq (.ops f8r23)
  (.keep [0, 1, 8, 9, 10, 13, 14, 15, 37, 38, 39] (.ops f8r24)))))))))))) .skip))))))))))))
  (.keep [0, 1, 8, 9, 10, 13, 37, 38, 39] (.ops f8r25))))))))))))
  (.keep [0, 1, 8, 9, 10, 37, 38, 39] (.ops f8r26)))))))

def f8r28 : List AInstr := [
    ⟨(some 128), none, .mov (.tmp 9)⟩,
    ⟨(some 6), none, .mov (.tmp 128)⟩,
    ⟨(some 7), none, .mov (.const (.int .i64 0))⟩]

def f8b : ACode := (.seq (.ops f8r0)
  (.keep [0, 1, 2] (.seq (.seq (.ops f8r1)
  (.keep [0, 1, 2, 35] (.cond (.tmp 35) (.keep [] (.seq (.ops f8r2)
  (.keep [6, 7] .ret))) .skip)))
  (.keep [0, 1, 2] (.seq (.ops f8r3)
  (.keep [0, 1, 2, 8] (.seq (.ops f8r4)
  (.keep [0, 1, 2, 8, 9] (.seq (.ops f8r5)
  (.keep [0, 1, 2, 8, 9, 10] (.seq (.seq (.ops f8r6)
  (.keep [0, 1, 8, 9, 10, 37, 38, 39] (.block 0 (.loop f8l0))))
  (.keep [9] (.seq (.ops f8r28)
  (.keep [6, 7] .ret))))))))))))))

def f8 : AFn := ⟨129, [.tmp 6, .tmp 7], f8b⟩

theorem f8_ok : compFn Try.prog 8 = some f8.strip := by kernel_rfl

/- function 9: weirhouse/red.Gap; parameters 2; operations that are not compiled: 0 -/
def f9r0 : List AInstr := [
    ⟨(some 4), none, .mov (.const (.int .i64 0))⟩,
    ⟨(some 5), none, .mov (.const (.int .i64 0))⟩]

def f9r1 : List AInstr := [
    ⟨(some 6), none, .mov (.tmp 0)⟩,
    ⟨(some 7), none, .ibin .lss (.tmp 6) (.const (.int .i64 1))⟩,
    ⟨(some 8), none, .mov (.tmp 7)⟩,
    ⟨(some 9), (some (8, false)), .mov (.tmp 0)⟩,
    ⟨(some 10), (some (8, false)), .ibin .gtr (.tmp 9) (.const (.int .i64 1048576))⟩,
    ⟨(some 11), none, .pick (.tmp 8) (.const (.bool true)) (.tmp 10)⟩,
    ⟨(some 12), none, .mov (.tmp 11)⟩,
    ⟨(some 13), (some (12, false)), .mov (.tmp 1)⟩,
    ⟨(some 14), (some (12, false)), .ibin .lss (.tmp 13) (.const (.int .i64 1))⟩,
    ⟨(some 15), none, .pick (.tmp 12) (.const (.bool true)) (.tmp 14)⟩,
    ⟨(some 16), none, .mov (.tmp 15)⟩,
    ⟨(some 17), (some (16, false)), .mov (.tmp 1)⟩,
    ⟨(some 18), (some (16, false)), .ibin .gtr (.tmp 17) (.const (.int .i64 400))⟩,
    ⟨(some 19), none, .pick (.tmp 16) (.const (.bool true)) (.tmp 18)⟩]

def f9r2 : List AInstr := [
    ⟨(some 4), none, .mov (.const (.int .i64 0))⟩,
    ⟨(some 5), none, .mov (.const (.int .i64 2))⟩]

def f9r3 : List AInstr := [
    ⟨(some 20), none, .mov (.tmp 0)⟩,
    ⟨(some 21), none, .ibin .mul (.tmp 20) (.const (.int .i64 1024))⟩,
    ⟨(some 22), none, .mov (.tmp 1)⟩,
    ⟨(some 23), none, .conv .u64 (.tmp 22)⟩,
    ⟨(some 24), none, .ibin .shl (.tmp 23) (.const (.int .u64 20))⟩,
    ⟨(some 25), none, .callF 14 [.tmp 24]⟩,
    ⟨(some 26), none, .conv .i64 (.tmp 25)⟩,
    ⟨(some 27), none, .ibin .quo (.tmp 21) (.tmp 26)⟩,
    ⟨(some 4), none, .mov (.tmp 27)⟩,
    ⟨(some 5), none, .mov (.const (.int .i64 0))⟩]

def f9b : ACode := (.seq (.ops f9r0)
  (.keep [0, 1] (.seq (.seq (.ops f9r1)
  (.keep [0, 1, 19] (.cond (.tmp 19) (.keep [] (.seq (.ops f9r2)
  (.keep [4, 5] .ret))) .skip)))
  (.keep [0, 1] (.seq (.ops f9r3)
  (.keep [4, 5] .ret))))))

def f9 : AFn := ⟨28, [.tmp 4, .tmp 5], f9b⟩

theorem f9_ok : compFn Try.prog 9 = some f9.strip := by kernel_rfl

/- function 10: slices.Equal[[]bool,bool]; parameters 2; operations that are not compiled: 0 -/
def f10r0 : List AInstr := [
    ⟨(some 4), none, .mov (.const (.bool false))⟩]

def f10r1 : List AInstr := [
    ⟨(some 6), none, .mov (.tmp 0)⟩,
    ⟨(some 7), none, .len (.tmp 6)⟩,
    ⟨(some 8), none, .mov (.tmp 1)⟩,
    ⟨(some 9), none, .len (.tmp 8)⟩,
    ⟨(some 10), none, .ibin .neq (.tmp 7) (.tmp 9)⟩]

def f10r2 : List AInstr := [
    ⟨(some 4), none, .mov (.const (.bool false))⟩]

def f10r3 : List AInstr := [
    ⟨(some 11), none, .mov (.tmp 0)⟩,
    ⟨(some 12), none, .len (.tmp 11)⟩,
    ⟨(some 13), none, .mov (.const (.int .i64 0))⟩]

def f10r4 : List AInstr := [
    ⟨(some 14), none, .ibin .lss (.tmp 13) (.tmp 12)⟩]

def f10r5 : List AInstr := [
    ⟨(some 15), none, .mov (.tmp 13)⟩,
    ⟨(some 5), none, .mov (.tmp 15)⟩]

def f10r6 : List AInstr := [
    ⟨(some 16), none, .mov (.tmp 0)⟩,
    ⟨(some 17), none, .mov (.tmp 5)⟩,
    ⟨(some 18), none, .indexAddr 1 (.tmp 16) (.tmp 17)⟩,
    ⟨(some 19), none, .load none (.tmp 18)⟩,
    ⟨(some 20), none, .mov (.tmp 1)⟩,
    ⟨(some 21), none, .mov (.tmp 5)⟩,
    ⟨(some 22), none, .indexAddr 1 (.tmp 20) (.tmp 21)⟩,
    ⟨(some 23), none, .load none (.tmp 22)⟩,
    ⟨(some 24), none, .eqB true (.tmp 19) (.tmp 23)⟩]

def f10r7 : List AInstr := [
    ⟨(some 4), none, .mov (.const (.bool false))⟩]

def f10r8 : List AInstr := [
    ⟨(some 25), none, .ibin .add (.tmp 13) (.const (.int .i64 1))⟩,
    ⟨(some 13), none, .mov (.tmp 25)⟩]

/-- live: [0, 1, 12, 13] -/
def f10l0 : ACode := (.seq (.ops f10r4)
  (.keep [0, 1, 12, 13, 14] (.seq (.cond (.tmp 14) .skip (.exit 0))
  (.keep [0, 1, 12, 13] (.seq (.block 1 (.seq (.ops f10r5)
  (.keep [0, 1, 5, 12, 13] (.seq (.draw f10r6 [(0, 0, false), (0, 0, false), (0, 0, false), (0, 0, false), (0, 0, false), (0, 0, false), (0, 0, false), (0, 0, false), (0, 0, false)])
  (.keep [0, 1, 12, 13, 24] (.cond (.tmp 24) (.keep [] (.seq (.ops f10r7)
  (.keep [4] .ret))) .skip))))))
  (.keep [0, 1, 12, 13] (.ops f10r8)))))))

def f10r10 : List AInstr := [
    ⟨(some 4), none, .mov (.const (.bool true))⟩]

def f10b : ACode := (.seq (.ops f10r0)
  (.keep [0, 1] (.seq (.seq (.ops f10r1)
  (.keep [0, 1, 10] (.cond (.tmp 10) (.keep [] (.seq (.ops f10r2)
  (.keep [4] .ret))) .skip)))
  (.keep [0, 1] (.seq (.seq (.ops f10r3)
  (.keep [0, 1, 12, 13] (.block 0 (.loop f10l0))))
  (.keep [] (.seq (.ops f10r10)
  (.keep [4] .ret))))))))

def f10 : AFn := ⟨26, [.tmp 4], f10b⟩

theorem f10_ok : compFn Try.prog 10 = some f10.strip := by kernel_rfl

/- function 11: slices.Clone[[]weirhouse/api.Sample,weirhouse/api.Sample]; parameters 1; operations that are not compiled: 0 -/
def f11r0 : List AInstr := [
    ⟨(some 2), none, .mov (.const (.slice none 0 0))⟩]

def f11r1 : List AInstr := [
    ⟨(some 3), none, .mov (.tmp 0)⟩,
    ⟨(some 4), none, .eqS false (.tmp 3) (.const (.slice none 0 0))⟩]

def f11r2 : List AInstr := [
    ⟨(some 2), none, .mov (.const (.slice none 0 0))⟩]

def f11r3 : List AInstr := [
    ⟨(some 5), none, .buildSlice 2 0 [] []⟩,
    ⟨(some 6), none, .mov (.tmp 0)⟩,
    ⟨(some 7), none, .append 2 16 (.tmp 5) (.tmp 6)⟩,
    ⟨(some 2), none, .mov (.tmp 7)⟩]

def f11b : ACode := (.seq (.ops f11r0)
  (.keep [0] (.seq (.seq (.ops f11r1)
  (.keep [0, 4] (.cond (.tmp 4) (.keep [] (.seq (.ops f11r2)
  (.keep [2] .ret))) .skip)))
  (.keep [0] (.seq (.ops f11r3)
  (.keep [2] .ret))))))

def f11 : AFn := ⟨8, [.tmp 2], f11b⟩

theorem f11_ok : compFn Try.prog 11 = some f11.strip := by kernel_rfl

/- function 12: slices.Index[[]bool,bool]; parameters 2; operations that are not compiled: 0 -/
def f12r0 : List AInstr := [
    ⟨(some 4), none, .mov (.const (.int .i64 0))⟩]

def f12r1 : List AInstr := [
    ⟨(some 6), none, .mov (.tmp 0)⟩,
    ⟨(some 7), none, .len (.tmp 6)⟩,
    ⟨(some 8), none, .mov (.const (.int .i64 0))⟩]

def f12r2 : List AInstr := [
    ⟨(some 9), none, .ibin .lss (.tmp 8) (.tmp 7)⟩]

def f12r3 : List AInstr := [
    ⟨(some 10), none, .mov (.tmp 8)⟩,
    ⟨(some 5), none, .mov (.tmp 10)⟩]

def f12r4 : List AInstr := [
    ⟨(some 11), none, .mov (.tmp 1)⟩,
    ⟨(some 12), none, .mov (.tmp 0)⟩,
    ⟨(some 13), none, .mov (.tmp 5)⟩,
    ⟨(some 14), none, .indexAddr 1 (.tmp 12) (.tmp 13)⟩,
    ⟨(some 15), none, .load none (.tmp 14)⟩,
    ⟨(some 16), none, .eqB false (.tmp 11) (.tmp 15)⟩]

def f12r5 : List AInstr := [
    ⟨(some 17), none, .mov (.tmp 5)⟩,
    ⟨(some 4), none, .mov (.tmp 17)⟩]

def f12r6 : List AInstr := [
    ⟨(some 18), none, .ibin .add (.tmp 8) (.const (.int .i64 1))⟩,
    ⟨(some 8), none, .mov (.tmp 18)⟩]

/-- live: [0, 1, 7, 8] -/
def f12l0 : ACode := (.seq (.ops f12r2)
  (.keep [0, 1, 7, 8, 9] (.seq (.cond (.tmp 9) .skip (.exit 0))
  (.keep [0, 1, 7, 8] (.seq (.block 1 (.seq (.ops f12r3)
  (.keep [0, 1, 5, 7, 8] (.seq (.ops f12r4)
  (.keep [0, 1, 5, 7, 8, 16] (.cond (.tmp 16) (.keep [5] (.seq (.ops f12r5)
  (.keep [4] .ret))) .skip))))))
  (.keep [0, 1, 7, 8] (.ops f12r6)))))))

def f12r8 : List AInstr := [
    ⟨(some 4), none, .mov (.const (.int .i64 (-1)))⟩]

def f12b : ACode := (.seq (.ops f12r0)
  (.keep [0, 1] (.seq (.seq (.ops f12r1)
  (.keep [0, 1, 7, 8] (.block 0 (.loop f12l0))))
  (.keep [] (.seq (.ops f12r8)
  (.keep [4] .ret))))))

def f12 : AFn := ⟨19, [.tmp 4], f12b⟩

theorem f12_ok : compFn Try.prog 12 = some f12.strip := by kernel_rfl

/- function 13: slices.Contains[[]bool,bool]; parameters 2; operations that are not compiled: 0 -/
def f13r0 : List AInstr := [
    ⟨(some 4), none, .mov (.const (.bool false))⟩]

def f13r1 : List AInstr := [
    ⟨(some 5), none, .mov (.tmp 0)⟩,
    ⟨(some 6), none, .mov (.tmp 1)⟩,
    ⟨(some 7), none, .callF 12 [.tmp 5, .tmp 6]⟩,
    ⟨(some 8), none, .ibin .geq (.tmp 7) (.const (.int .i64 0))⟩,
    ⟨(some 4), none, .mov (.tmp 8)⟩]

def f13b : ACode := (.seq (.ops f13r0)
  (.keep [0, 1] (.seq (.ops f13r1)
  (.keep [4] .ret))))

def f13 : AFn := ⟨9, [.tmp 4], f13b⟩

theorem f13_ok : compFn Try.prog 13 = some f13.strip := by kernel_rfl

/- function 14: weirhouse/frac.Root; parameters 1; operations that are not compiled: 0 -/
def f14r0 : List AInstr := [
    ⟨(some 2), none, .mov (.const (.int .u64 0))⟩]

def f14r1 : List AInstr := [
    ⟨(some 3), none, .mov (.const (.int .u64 0))⟩]

def f14r2 : List AInstr := [
    ⟨(some 6), none, .mov (.tmp 0)⟩,
    ⟨(some 7), none, .callF 15 [.tmp 6]⟩,
    ⟨(some 8), none, .ibin .add (.tmp 7) (.const (.int .i64 1))⟩,
    ⟨(some 9), none, .ibin .quo (.tmp 8) (.const (.int .i64 2))⟩,
    ⟨(some 4), none, .mov (.tmp 9)⟩]

def f14r3 : List AInstr := [
    ⟨(some 10), none, .mov (.tmp 4)⟩,
    ⟨(some 11), none, .ibin .geq (.tmp 10) (.const (.int .i64 0))⟩]

def f14r4 : List AInstr := [
    ⟨(some 14), none, .mov (.tmp 3)⟩,
    ⟨(some 15), none, .mov (.tmp 4)⟩,
    ⟨(some 16), none, .ibin .shl (.const (.int .u64 1)) (.tmp 15)⟩,
    ⟨(some 17), none, .ibin .or (.tmp 14) (.tmp 16)⟩,
    ⟨(some 5), none, .mov (.tmp 17)⟩]

def f14r5 : List AInstr := [
    ⟨(some 18), none, .mov (.tmp 5)⟩,
    ⟨(some 19), none, .ibin .lss (.tmp 18) (.const (.int .u64 4294967296))⟩,
    ⟨(some 20), none, .mov (.tmp 19)⟩,
    ⟨(some 21), (some (20, true)), .mov (.tmp 5)⟩,
    ⟨(some 22), (some (20, true)), .mov (.tmp 5)⟩,
    ⟨(some 23), (some (20, true)), .ibin .mul (.tmp 21) (.tmp 22)⟩,
    ⟨(some 24), (some (20, true)), .mov (.tmp 0)⟩,
    ⟨(some 25), (some (20, true)), .ibin .leq (.tmp 23) (.tmp 24)⟩,
    ⟨(some 26), none, .pick (.tmp 20) (.tmp 25) (.const (.bool false))⟩]

def f14r6 : List AInstr := [
    ⟨(some 27), none, .mov (.tmp 5)⟩,
    ⟨(some 3), none, .mov (.tmp 27)⟩]

def f14r7 : List AInstr := [
    ⟨(some 12), none, .mov (.tmp 4)⟩,
    ⟨(some 13), none, .ibin .sub (.tmp 12) (.const (.int .i64 1))⟩,
    ⟨(some 4), none, .mov (.tmp 13)⟩]

/-- live: [0, 3, 4] -/
def f14l0 : ACode := (.seq (.seq (.ops f14r3)
  (.keep [0, 3, 4, 11] (.cond (.tmp 11) .skip (.exit 0))))
  (.keep [0, 3, 4] (.seq (.block 1 (.seq (.ops f14r4)
  (.keep [0, 3, 4, 5] (.seq (.ops f14r5)
  (.keep [0, 3, 4, 5, 26] (.cond (.tmp 26) (.keep [0, 4, 5] (.ops f14r6)) .skip))))))
  (.keep [0, 3, 4] (.ops f14r7)))))

def f14r9 : List AInstr := [
    ⟨(some 28), none, .mov (.tmp 3)⟩,
    ⟨(some 2), none, .mov (.tmp 28)⟩]

def f14b : ACode := (.seq (.ops f14r0)
  (.keep [0] (.seq (.ops f14r1)
  (.keep [0, 3] (.seq (.seq (.ops f14r2)
  (.keep [0, 3, 4] (.block 0 (.loop f14l0))))
  (.keep [3] (.seq (.ops f14r9)
  (.keep [2] .ret))))))))

def f14 : AFn := ⟨29, [.tmp 2], f14b⟩

theorem f14_ok : compFn Try.prog 14 = some f14.strip := by kernel_rfl

/- function 15: math/bits.Len64; parameters 1; operations that are not compiled: 0 -/
def f15r0 : List AInstr := [
    ⟨(some 2), none, .mov (.const (.int .i64 0))⟩]

def f15r1 : List AInstr := [
    ⟨(some 3), none, .mov (.tmp 0)⟩,
    ⟨(some 4), none, .ibin .geq (.tmp 3) (.const (.int .u64 4294967296))⟩]

def f15r2 : List AInstr := [
    ⟨(some 5), none, .mov (.tmp 0)⟩,
    ⟨(some 6), none, .ibin .shr (.tmp 5) (.const (.int .u64 32))⟩,
    ⟨(some 0), none, .mov (.tmp 6)⟩]

def f15r3 : List AInstr := [
    ⟨(some 2), none, .mov (.const (.int .i64 32))⟩]

def f15r4 : List AInstr := [
    ⟨(some 7), none, .mov (.tmp 0)⟩,
    ⟨(some 8), none, .ibin .geq (.tmp 7) (.const (.int .u64 65536))⟩]

def f15r5 : List AInstr := [
    ⟨(some 9), none, .mov (.tmp 0)⟩,
    ⟨(some 10), none, .ibin .shr (.tmp 9) (.const (.int .u64 16))⟩,
    ⟨(some 0), none, .mov (.tmp 10)⟩]

def f15r6 : List AInstr := [
    ⟨(some 11), none, .mov (.tmp 2)⟩,
    ⟨(some 12), none, .ibin .add (.tmp 11) (.const (.int .i64 16))⟩,
    ⟨(some 2), none, .mov (.tmp 12)⟩]

def f15r7 : List AInstr := [
    ⟨(some 13), none, .mov (.tmp 0)⟩,
    ⟨(some 14), none, .ibin .geq (.tmp 13) (.const (.int .u64 256))⟩]

def f15r8 : List AInstr := [
    ⟨(some 15), none, .mov (.tmp 0)⟩,
    ⟨(some 16), none, .ibin .shr (.tmp 15) (.const (.int .u64 8))⟩,
    ⟨(some 0), none, .mov (.tmp 16)⟩]

def f15r9 : List AInstr := [
    ⟨(some 17), none, .mov (.tmp 2)⟩,
    ⟨(some 18), none, .ibin .add (.tmp 17) (.const (.int .i64 8))⟩,
    ⟨(some 2), none, .mov (.tmp 18)⟩]

def f15r10s0 : ByteArray := ⟨#[0, 1, 2, 2, 3, 3, 3, 3, 4, 4, 4, 4, 4, 4, 4, 4, 5, 5, 5, 5, 5, 5, 5, 5, 5, 5, 5, 5, 5, 5, 5, 5, 6, 6, 6, 6, 6, 6, 6, 6, 6, 6, 6, 6, 6, 6, 6, 6, 6, 6, 6, 6, 6, 6, 6, 6, 6, 6, 6, 6, 6, 6, 6, 6, 7, 7, 7, 7, 7, 7, 7, 7, 7, 7, 7, 7, 7, 7, 7, 7, 7, 7, 7, 7, 7, 7, 7, 7, 7, 7, 7, 7, 7, 7, 7, 7, 7, 7, 7, 7, 7, 7, 7, 7, 7, 7, 7, 7, 7, 7, 7, 7, 7, 7, 7, 7, 7, 7, 7, 7, 7, 7, 7, 7, 7, 7, 7, 7, 8, 8, 8, 8, 8, 8, 8, 8, 8, 8, 8, 8, 8, 8, 8, 8, 8, 8, 8, 8, 8, 8, 8, 8, 8, 8, 8, 8, 8, 8, 8, 8, 8, 8, 8, 8, 8, 8, 8, 8, 8, 8, 8, 8, 8, 8, 8, 8, 8, 8, 8, 8, 8, 8, 8, 8, 8, 8, 8, 8, 8, 8, 8, 8, 8, 8, 8, 8, 8, 8, 8, 8, 8, 8, 8, 8, 8, 8, 8, 8, 8, 8, 8, 8, 8, 8, 8, 8, 8, 8, 8, 8, 8, 8, 8, 8, 8, 8, 8, 8, 8, 8, 8, 8, 8, 8, 8, 8, 8, 8, 8, 8, 8, 8, 8, 8, 8, 8, 8, 8, 8, 8, 8, 8, 8, 8, 8, 8]⟩

def f15r10 : List AInstr := [
    ⟨(some 19), none, .mov (.tmp 2)⟩,
    ⟨(some 20), none, .mov (.tmp 0)⟩,
    ⟨(some 21), none, .conv .u8 (.tmp 20)⟩,
    ⟨(some 22), none, .indexStr (.const (.string f15r10s0)) (.tmp 21)⟩,
    ⟨(some 23), none, .conv .i64 (.tmp 22)⟩,
    ⟨(some 24), none, .ibin .add (.tmp 19) (.tmp 23)⟩,
    ⟨(some 2), none, .mov (.tmp 24)⟩]

def f15b : ACode := (.seq (.ops f15r0)
  (.keep [0, 2] (.seq (.seq (.ops f15r1)
  (.keep [0, 2, 4] (.cond (.tmp 4) (.keep [0] (.seq (.ops f15r2)
  (.keep [0] (.ops f15r3)))) .skip)))
  (.keep [0, 2] (.seq (.seq (.ops f15r4)
  (.keep [0, 2, 8] (.cond (.tmp 8) (.keep [0, 2] (.seq (.ops f15r5)
  (.keep [0, 2] (.ops f15r6)))) .skip)))
  (.keep [0, 2] (.seq (.seq (.ops f15r7)
  (.keep [0, 2, 14] (.cond (.tmp 14) (.keep [0, 2] (.seq (.ops f15r8)
  (.keep [0, 2] (.ops f15r9)))) .skip)))
  (.keep [0, 2] (.seq (.ops f15r10)
  (.keep [2] .ret))))))))))

def f15 : AFn := ⟨25, [.tmp 2], f15b⟩

theorem f15_ok : compFn Try.prog 15 = some f15.strip := by kernel_rfl

end Go.Proofs.Ytmdlieinanjnaaa
