/-
  The functions of this seat as abstract code. Printed by a program of this claim's writer.
-/
import Derived.Test.YtgianafoiegdmaaChecked
import Derived.Test.YtgianafoiegdmaaAmS
import Derived.KernelRfl
namespace Go.Proofs.Ytgianafoiegdmaa
open Go Go.Am

/- function 3: weirhouse/weirhousekeep.RulesSwap; parameters 3; operations that are not compiled: 0 -/
def f3r0 : List AInstr := [
    ⟨(some 5), none, .box (.tmp 2)⟩,
    ⟨(some 6), none, .mov (.const (.bool false))⟩]

def f3r1 : List AInstr := [
    ⟨(some 12), none, .callF 7 []⟩,
    ⟨(some 13), none, .un .not (.tmp 12)⟩]

def f3r2 : List AInstr := [
    ⟨(some 6), none, .mov (.const (.bool false))⟩]

def f3r3 : List AInstr := [
    ⟨(some 14), none, .mov (.tmp 1)⟩,
    ⟨(some 15), none, .ibin .lss (.tmp 14) (.const (.int .i64 0))⟩,
    ⟨(some 16), none, .mov (.tmp 15)⟩,
    ⟨(some 17), (some (16, false)), .mov (.tmp 1)⟩,
    ⟨(some 18), (some (16, false)), .mov (.tmp 0)⟩,
    ⟨(some 19), (some (16, false)), .len (.tmp 18)⟩,
    ⟨(some 20), (some (16, false)), .ibin .gtr (.tmp 17) (.tmp 19)⟩,
    ⟨(some 21), none, .pick (.tmp 16) (.const (.bool true)) (.tmp 20)⟩,
    ⟨(some 22), none, .mov (.tmp 21)⟩,
    ⟨(some 23), (some (22, false)), .mov (.tmp 1)⟩,
    ⟨(some 24), (some (22, false)), .ibin .add (.tmp 23) (.const (.int .i64 1))⟩,
    ⟨(some 25), (some (22, false)), .mov (.tmp 0)⟩,
    ⟨(some 26), (some (22, false)), .len (.tmp 25)⟩,
    ⟨(some 27), (some (22, false)), .ibin .geq (.tmp 24) (.tmp 26)⟩,
    ⟨(some 28), none, .pick (.tmp 22) (.const (.bool true)) (.tmp 27)⟩,
    ⟨(some 29), none, .mov (.tmp 28)⟩,
    ⟨(some 30), (some (29, false)), .mov (.tmp 0)⟩,
    ⟨(some 31), (some (29, false)), .mov (.tmp 1)⟩,
    ⟨(some 32), (some (29, false)), .indexAddr 14 (.tmp 30) (.tmp 31)⟩,
    ⟨(some 33), (some (29, false)), .load (some 14) (.tmp 32)⟩,
    ⟨(some 34), (some (29, false)), .load (some 13) (.tmp 5)⟩,
    ⟨(some 35), (some (29, false)), .callF 8 [.tmp 33, .tmp 34]⟩,
    ⟨(some 36), (some (29, false)), .mov (.tmp 35)⟩,
    ⟨(some 37), (some (36, true)), .mov (.tmp 0)⟩,
    ⟨(some 38), (some (36, true)), .mov (.tmp 1)⟩,
    ⟨(some 39), (some (36, true)), .ibin .add (.tmp 38) (.const (.int .i64 1))⟩,
    ⟨(some 40), (some (36, true)), .indexAddr 14 (.tmp 37) (.tmp 39)⟩,
    ⟨(some 41), (some (36, true)), .load (some 14) (.tmp 40)⟩,
    ⟨(some 42), (some (36, true)), .load (some 13) (.tmp 5)⟩,
    ⟨(some 43), (some (36, true)), .callF 8 [.tmp 41, .tmp 42]⟩,
    ⟨(some 44), (some (29, false)), .pick (.tmp 36) (.tmp 43) (.const (.bool false))⟩,
    ⟨(some 45), none, .pick (.tmp 29) (.const (.bool true)) (.tmp 44)⟩]

def f3r4 : List AInstr := [
    ⟨(some 6), none, .mov (.const (.bool true))⟩]

def f3r5 : List AInstr := [
    ⟨(some 46), none, .mov (.tmp 0)⟩,
    ⟨(some 47), none, .callF 9 [.tmp 46]⟩,
    ⟨(some 7), none, .mov (.tmp 47)⟩]

def f3r6 : List AInstr := [
    ⟨(some 48), none, .mov (.tmp 7)⟩,
    ⟨(some 49), none, .mov (.tmp 1)⟩,
    ⟨(some 50), none, .mov (.tmp 7)⟩,
    ⟨(some 51), none, .mov (.tmp 1)⟩,
    ⟨(some 52), none, .ibin .add (.tmp 51) (.const (.int .i64 1))⟩,
    ⟨(some 53), none, .mov (.tmp 7)⟩,
    ⟨(some 54), none, .mov (.tmp 1)⟩,
    ⟨(some 55), none, .ibin .add (.tmp 54) (.const (.int .i64 1))⟩,
    ⟨(some 56), none, .indexAddr 14 (.tmp 53) (.tmp 55)⟩,
    ⟨(some 57), none, .load (some 14) (.tmp 56)⟩,
    ⟨(some 58), none, .mov (.tmp 7)⟩,
    ⟨(some 59), none, .mov (.tmp 1)⟩,
    ⟨(some 60), none, .indexAddr 14 (.tmp 58) (.tmp 59)⟩,
    ⟨(some 61), none, .load (some 14) (.tmp 60)⟩,
    ⟨(some 62), none, .indexAddr 14 (.tmp 48) (.tmp 49)⟩,
    ⟨none, none, .store 14 (.tmp 62) (.tmp 57)⟩,
    ⟨(some 63), none, .indexAddr 14 (.tmp 50) (.tmp 52)⟩,
    ⟨none, none, .store 14 (.tmp 63) (.tmp 61)⟩]

def f3r7 : List AInstr := [
    ⟨(some 65), none, .mov (.tmp 0)⟩,
    ⟨(some 66), none, .load (some 13) (.tmp 5)⟩,
    ⟨(some 67), none, .callF 10 [.tmp 65, .tmp 66]⟩,
    ⟨(some 64), none, .mov (.tmp 67)⟩,
    ⟨(some 68), none, .extract 0 (.tmp 64)⟩,
    ⟨(some 69), none, .extract 1 (.tmp 64)⟩,
    ⟨(some 8), none, .mov (.tmp 68)⟩,
    ⟨(some 9), none, .mov (.tmp 69)⟩]

def f3r8 : List AInstr := [
    ⟨(some 71), none, .mov (.tmp 7)⟩,
    ⟨(some 72), none, .load (some 13) (.tmp 5)⟩,
    ⟨(some 73), none, .callF 10 [.tmp 71, .tmp 72]⟩,
    ⟨(some 70), none, .mov (.tmp 73)⟩,
    ⟨(some 74), none, .extract 0 (.tmp 70)⟩,
    ⟨(some 75), none, .extract 1 (.tmp 70)⟩,
    ⟨(some 10), none, .mov (.tmp 74)⟩,
    ⟨(some 11), none, .mov (.tmp 75)⟩]

def f3r9 : List AInstr := [
    ⟨(some 76), none, .mov (.tmp 9)⟩,
    ⟨(some 77), none, .mov (.tmp 11)⟩,
    ⟨(some 78), none, .ibin .eql (.tmp 76) (.tmp 77)⟩,
    ⟨(some 79), none, .mov (.tmp 78)⟩,
    ⟨(some 80), (some (79, true)), .mov (.tmp 8)⟩,
    ⟨(some 81), (some (79, true)), .mov (.tmp 10)⟩,
    ⟨(some 82), (some (79, true)), .ibin .eql (.tmp 80) (.tmp 81)⟩,
    ⟨(some 83), none, .pick (.tmp 79) (.tmp 82) (.const (.bool false))⟩,
    ⟨(some 6), none, .mov (.tmp 83)⟩]

def f3b : ACode := (.seq (.ops f3r0)
  (.keep [0, 1, 5] (.seq (.seq (.ops f3r1)
  (.keep [0, 1, 5, 13] (.cond (.tmp 13) (.keep [] (.seq (.ops f3r2)
  (.keep [6] .ret))) .skip)))
  (.keep [0, 1, 5] (.seq (.seq (.draw f3r3 [(0, 0, false), (0, 0, false), (0, 0, false), (0, 0, false), (0, 0, false), (0, 0, false), (0, 0, false), (0, 0, false), (0, 0, false), (0, 0, false), (0, 0, false), (0, 0, false), (0, 0, false), (0, 0, false), (0, 0, false), (0, 0, false), (0, 0, false), (0, 0, false), (0, 0, false), (0, 0, false), (0, 0, false), (0, 1, true), (1, 1, false), (1, 1, false), (1, 1, false), (1, 1, false), (1, 1, false), (1, 1, false), (1, 1, false), (1, 2, true), (2, 2, false), (2, 2, false)])
  (.keep [0, 1, 5, 45] (.cond (.tmp 45) (.keep [] (.seq (.ops f3r4)
  (.keep [6] .ret))) .skip)))
  (.keep [0, 1, 5] (.seq (.ops f3r5)
  (.keep [0, 1, 5, 7] (.seq (.draw f3r6 [(0, 0, false), (0, 0, false), (0, 1, false), (0, 1, false), (0, 1, false), (0, 0, false), (0, 0, false), (0, 0, false), (0, 0, false), (0, 0, false), (0, 0, false), (0, 0, false), (0, 0, false), (0, 0, false), (0, 0, false), (0, 1, true), (1, 1, false), (1, 2, true)])
  (.keep [0, 5, 7] (.seq (.ops f3r7)
  (.keep [5, 7, 8, 9] (.seq (.ops f3r8)
  (.keep [8, 9, 10, 11] (.seq (.ops f3r9)
  (.keep [6] .ret))))))))))))))))

def f3 : AFn := ⟨84, [.tmp 6], f3b⟩

theorem f3_ok : compFn Try.prog 3 = some f3.strip := by kernel_rfl

/- function 4: weirhouse/weirhousekeep.RulesAll; parameters 3; operations that are not compiled: 0 -/
def f4r0 : List AInstr := [
    ⟨(some 4), none, .box (.tmp 1)⟩,
    ⟨(some 6), none, .mov (.const (.bool false))⟩]

def f4r1 : List AInstr := [
    ⟨(some 12), none, .callF 7 []⟩,
    ⟨(some 13), none, .un .not (.tmp 12)⟩]

def f4r2 : List AInstr := [
    ⟨(some 6), none, .mov (.const (.bool false))⟩]

def f4r3 : List AInstr := [
    ⟨(some 14), none, .mov (.tmp 0)⟩,
    ⟨(some 15), none, .callF 9 [.tmp 14]⟩,
    ⟨(some 16), none, .mov (.tmp 2)⟩,
    ⟨(some 17), none, .build [.int .u8 0, .int .u8 0, .int .u8 0, .int .u8 0, .int .u8 0, .int .u8 0, .int .u8 0, .int .u8 0, .int .i64 0, .int .i64 0, .int .i64 0, .int .i64 0, .int .i64 0, .int .i64 0] [(12, 1, (.const (.int .i64 65535))), (13, 1, (.tmp 16))]⟩,
    ⟨(some 18), none, .buildSlice 14 1 [.int .u8 0, .int .u8 0, .int .u8 0, .int .u8 0, .int .u8 0, .int .u8 0, .int .u8 0, .int .u8 0, .int .i64 0, .int .i64 0, .int .i64 0, .int .i64 0, .int .i64 0, .int .i64 0] [(0, 14, (.tmp 17))]⟩,
    ⟨(some 19), none, .append 14 56 (.tmp 15) (.tmp 18)⟩,
    ⟨(some 7), none, .mov (.tmp 19)⟩]

def f4r4 : List AInstr := [
    ⟨(some 20), none, .mov (.tmp 7)⟩,
    ⟨(some 21), none, .callF 11 [.tmp 20]⟩,
    ⟨(some 22), none, .ibin .neq (.tmp 21) (.const (.int .i64 0))⟩,
    ⟨(some 23), none, .mov (.tmp 22)⟩,
    ⟨(some 24), (some (23, false)), .fieldAddr 10 (.tmp 4)⟩,
    ⟨(some 25), (some (23, false)), .load none (.tmp 24)⟩,
    ⟨(some 26), (some (23, false)), .ibin .lss (.tmp 25) (.const (.int .i64 0))⟩,
    ⟨(some 27), none, .pick (.tmp 23) (.const (.bool true)) (.tmp 26)⟩,
    ⟨(some 28), none, .mov (.tmp 27)⟩,
    ⟨(some 29), (some (28, false)), .fieldAddr 10 (.tmp 4)⟩,
    ⟨(some 30), (some (28, false)), .load none (.tmp 29)⟩,
    ⟨(some 31), (some (28, false)), .ibin .gtr (.tmp 30) (.const (.int .i64 65535))⟩,
    ⟨(some 32), none, .pick (.tmp 28) (.const (.bool true)) (.tmp 31)⟩]

def f4r5 : List AInstr := [
    ⟨(some 6), none, .mov (.const (.bool true))⟩]

def f4r6 : List AInstr := [
    ⟨(some 34), none, .mov (.tmp 7)⟩,
    ⟨(some 35), none, .load (some 13) (.tmp 4)⟩,
    ⟨(some 36), none, .callF 10 [.tmp 34, .tmp 35]⟩,
    ⟨(some 33), none, .mov (.tmp 36)⟩,
    ⟨(some 37), none, .extract 0 (.tmp 33)⟩,
    ⟨(some 38), none, .extract 1 (.tmp 33)⟩,
    ⟨(some 8), none, .mov (.tmp 37)⟩,
    ⟨(some 9), none, .mov (.tmp 38)⟩]

def f4r7 : List AInstr := [
    ⟨(some 40), none, .mov (.tmp 0)⟩,
    ⟨(some 41), none, .load (some 13) (.tmp 4)⟩,
    ⟨(some 42), none, .callF 10 [.tmp 40, .tmp 41]⟩,
    ⟨(some 39), none, .mov (.tmp 42)⟩,
    ⟨(some 43), none, .extract 0 (.tmp 39)⟩,
    ⟨(some 44), none, .extract 1 (.tmp 39)⟩,
    ⟨(some 10), none, .mov (.tmp 43)⟩,
    ⟨(some 11), none, .mov (.tmp 44)⟩]

def f4r8 : List AInstr := [
    ⟨(some 45), none, .mov (.tmp 9)⟩,
    ⟨(some 46), none, .ibin .eql (.tmp 45) (.const (.int .i64 0))⟩,
    ⟨(some 47), none, .mov (.tmp 46)⟩,
    ⟨(some 48), (some (47, true)), .mov (.tmp 11)⟩,
    ⟨(some 49), (some (47, true)), .ibin .eql (.tmp 48) (.const (.int .i64 0))⟩,
    ⟨(some 50), (some (47, true)), .mov (.tmp 49)⟩,
    ⟨(some 51), (some (50, true)), .mov (.tmp 8)⟩,
    ⟨(some 52), (some (50, true)), .mov (.tmp 10)⟩,
    ⟨(some 53), (some (50, true)), .ibin .eql (.tmp 51) (.tmp 52)⟩,
    ⟨(some 54), (some (47, true)), .pick (.tmp 50) (.tmp 53) (.const (.bool false))⟩,
    ⟨(some 55), (some (47, true)), .mov (.tmp 54)⟩,
    ⟨(some 56), (some (55, false)), .mov (.tmp 11)⟩,
    ⟨(some 57), (some (55, false)), .ibin .eql (.tmp 56) (.const (.int .i64 3))⟩,
    ⟨(some 58), (some (55, false)), .mov (.tmp 57)⟩,
    ⟨(some 59), (some (58, true)), .mov (.tmp 8)⟩,
    ⟨(some 60), (some (58, true)), .mov (.tmp 2)⟩,
    ⟨(some 61), (some (58, true)), .ibin .eql (.tmp 59) (.tmp 60)⟩,
    ⟨(some 62), (some (55, false)), .pick (.tmp 58) (.tmp 61) (.const (.bool false))⟩,
    ⟨(some 63), (some (47, true)), .pick (.tmp 55) (.const (.bool true)) (.tmp 62)⟩,
    ⟨(some 64), none, .pick (.tmp 47) (.tmp 63) (.const (.bool false))⟩,
    ⟨(some 6), none, .mov (.tmp 64)⟩]

def f4b : ACode := (.seq (.ops f4r0)
  (.keep [0, 2, 4] (.seq (.seq (.ops f4r1)
  (.keep [0, 2, 4, 13] (.cond (.tmp 13) (.keep [] (.seq (.ops f4r2)
  (.keep [6] .ret))) .skip)))
  (.keep [0, 2, 4] (.seq (.ops f4r3)
  (.keep [0, 2, 4, 7] (.seq (.seq (.ops f4r4)
  (.keep [0, 2, 4, 7, 32] (.cond (.tmp 32) (.keep [] (.seq (.ops f4r5)
  (.keep [6] .ret))) .skip)))
  (.keep [0, 2, 4, 7] (.seq (.ops f4r6)
  (.keep [0, 2, 4, 8, 9] (.seq (.ops f4r7)
  (.keep [2, 8, 9, 10, 11] (.seq (.ops f4r8)
  (.keep [6] .ret))))))))))))))

def f4 : AFn := ⟨65, [.tmp 6], f4b⟩

theorem f4_ok : compFn Try.prog 4 = some f4.strip := by kernel_rfl

/- function 5: weirhouse/weirhousekeep.RulesPruned; parameters 2; operations that are not compiled: 0 -/
def f5r0 : List AInstr := [
    ⟨(some 3), none, .box (.tmp 1)⟩,
    ⟨(some 4), none, .mov (.const (.bool false))⟩]

def f5r1 : List AInstr := [
    ⟨(some 13), none, .callF 7 []⟩,
    ⟨(some 14), none, .un .not (.tmp 13)⟩]

def f5r2 : List AInstr := [
    ⟨(some 4), none, .mov (.const (.bool false))⟩]

def f5r3 : List AInstr := [
    ⟨(some 16), none, .mov (.tmp 0)⟩,
    ⟨(some 17), none, .callF 12 [.tmp 16]⟩,
    ⟨(some 15), none, .mov (.tmp 17)⟩,
    ⟨(some 18), none, .extract 0 (.tmp 15)⟩,
    ⟨(some 19), none, .extract 1 (.tmp 15)⟩,
    ⟨(some 5), none, .mov (.tmp 18)⟩,
    ⟨(some 6), none, .mov (.tmp 19)⟩]

def f5r4 : List AInstr := [
    ⟨(some 20), none, .mov (.tmp 6)⟩,
    ⟨(some 21), none, .ibin .neq (.tmp 20) (.const (.int .i64 0))⟩]

def f5r5 : List AInstr := [
    ⟨(some 22), none, .mov (.tmp 5)⟩,
    ⟨(some 23), none, .len (.tmp 22)⟩,
    ⟨(some 24), none, .ibin .eql (.tmp 23) (.const (.int .i64 0))⟩,
    ⟨(some 4), none, .mov (.tmp 24)⟩]

def f5r6 : List AInstr := [
    ⟨(some 26), none, .mov (.tmp 5)⟩,
    ⟨(some 27), none, .callF 12 [.tmp 26]⟩,
    ⟨(some 25), none, .mov (.tmp 27)⟩,
    ⟨(some 28), none, .extract 0 (.tmp 25)⟩,
    ⟨(some 29), none, .extract 1 (.tmp 25)⟩,
    ⟨(some 7), none, .mov (.tmp 28)⟩,
    ⟨(some 8), none, .mov (.tmp 29)⟩]

def f5r7 : List AInstr := [
    ⟨(some 31), none, .mov (.tmp 0)⟩,
    ⟨(some 32), none, .load (some 13) (.tmp 3)⟩,
    ⟨(some 33), none, .callF 10 [.tmp 31, .tmp 32]⟩,
    ⟨(some 30), none, .mov (.tmp 33)⟩,
    ⟨(some 34), none, .extract 0 (.tmp 30)⟩,
    ⟨(some 35), none, .extract 1 (.tmp 30)⟩,
    ⟨(some 9), none, .mov (.tmp 34)⟩,
    ⟨(some 10), none, .mov (.tmp 35)⟩]

def f5r8 : List AInstr := [
    ⟨(some 37), none, .mov (.tmp 5)⟩,
    ⟨(some 38), none, .load (some 13) (.tmp 3)⟩,
    ⟨(some 39), none, .callF 10 [.tmp 37, .tmp 38]⟩,
    ⟨(some 36), none, .mov (.tmp 39)⟩,
    ⟨(some 40), none, .extract 0 (.tmp 36)⟩,
    ⟨(some 41), none, .extract 1 (.tmp 36)⟩,
    ⟨(some 11), none, .mov (.tmp 40)⟩,
    ⟨(some 12), none, .mov (.tmp 41)⟩]

def f5r9 : List AInstr := [
    ⟨(some 42), none, .mov (.tmp 8)⟩,
    ⟨(some 43), none, .ibin .eql (.tmp 42) (.const (.int .i64 0))⟩,
    ⟨(some 44), none, .mov (.tmp 43)⟩,
    ⟨(some 45), (some (44, true)), .mov (.tmp 5)⟩,
    ⟨(some 46), (some (44, true)), .mov (.tmp 7)⟩,
    ⟨(some 47), (some (44, true)), .callF 13 [.tmp 45, .tmp 46]⟩,
    ⟨(some 48), none, .pick (.tmp 44) (.tmp 47) (.const (.bool false))⟩,
    ⟨(some 49), none, .mov (.tmp 48)⟩,
    ⟨(some 50), (some (49, true)), .mov (.tmp 10)⟩,
    ⟨(some 51), (some (49, true)), .mov (.tmp 12)⟩,
    ⟨(some 52), (some (49, true)), .ibin .eql (.tmp 50) (.tmp 51)⟩,
    ⟨(some 53), none, .pick (.tmp 49) (.tmp 52) (.const (.bool false))⟩,
    ⟨(some 54), none, .mov (.tmp 53)⟩,
    ⟨(some 55), (some (54, true)), .mov (.tmp 9)⟩,
    ⟨(some 56), (some (54, true)), .mov (.tmp 11)⟩,
    ⟨(some 57), (some (54, true)), .ibin .eql (.tmp 55) (.tmp 56)⟩,
    ⟨(some 58), none, .pick (.tmp 54) (.tmp 57) (.const (.bool false))⟩,
    ⟨(some 59), none, .mov (.tmp 58)⟩,
    ⟨(some 60), (some (59, true)), .mov (.tmp 5)⟩,
    ⟨(some 61), (some (59, true)), .len (.tmp 60)⟩,
    ⟨(some 62), (some (59, true)), .mov (.tmp 0)⟩,
    ⟨(some 63), (some (59, true)), .len (.tmp 62)⟩,
    ⟨(some 64), (some (59, true)), .ibin .leq (.tmp 61) (.tmp 63)⟩,
    ⟨(some 65), none, .pick (.tmp 59) (.tmp 64) (.const (.bool false))⟩,
    ⟨(some 4), none, .mov (.tmp 65)⟩]

def f5b : ACode := (.seq (.ops f5r0)
  (.keep [0, 3] (.seq (.seq (.ops f5r1)
  (.keep [0, 3, 14] (.cond (.tmp 14) (.keep [] (.seq (.ops f5r2)
  (.keep [4] .ret))) .skip)))
  (.keep [0, 3] (.seq (.ops f5r3)
  (.keep [0, 3, 5, 6] (.seq (.seq (.ops f5r4)
  (.keep [0, 3, 5, 21] (.cond (.tmp 21) (.keep [5] (.seq (.ops f5r5)
  (.keep [4] .ret))) .skip)))
  (.keep [0, 3, 5] (.seq (.ops f5r6)
  (.keep [0, 3, 5, 7, 8] (.seq (.ops f5r7)
  (.keep [0, 3, 5, 7, 8, 9, 10] (.seq (.ops f5r8)
  (.keep [0, 5, 7, 8, 9, 10, 11, 12] (.seq (.ops f5r9)
  (.keep [4] .ret))))))))))))))))

def f5 : AFn := ⟨66, [.tmp 4], f5b⟩

theorem f5_ok : compFn Try.prog 5 = some f5.strip := by kernel_rfl

/- function 6: weirhouse/weirhousekeep.RulesFirst; parameters 3; operations that are not compiled: 0 -/
def f6r0 : List AInstr := [
    ⟨(some 5), none, .box (.tmp 2)⟩,
    ⟨(some 6), none, .mov (.const (.bool false))⟩]

def f6r1 : List AInstr := [
    ⟨(some 12), none, .callF 7 []⟩,
    ⟨(some 13), none, .un .not (.tmp 12)⟩]

def f6r2 : List AInstr := [
    ⟨(some 6), none, .mov (.const (.bool false))⟩]

def f6r3 : List AInstr := [
    ⟨(some 15), none, .mov (.tmp 0)⟩,
    ⟨(some 16), none, .load (some 13) (.tmp 5)⟩,
    ⟨(some 17), none, .callF 10 [.tmp 15, .tmp 16]⟩,
    ⟨(some 14), none, .mov (.tmp 17)⟩,
    ⟨(some 18), none, .extract 0 (.tmp 14)⟩,
    ⟨(some 19), none, .extract 1 (.tmp 14)⟩,
    ⟨(some 7), none, .mov (.tmp 18)⟩,
    ⟨(some 8), none, .mov (.tmp 19)⟩]

def f6r4 : List AInstr := [
    ⟨(some 21), none, .mov (.tmp 0)⟩,
    ⟨(some 22), none, .mov (.tmp 1)⟩,
    ⟨(some 23), none, .buildSlice 1 2 [.slice none 0 0, .slice none 0 0] [(0, 1, (.tmp 21)), (1, 1, (.tmp 22))]⟩,
    ⟨(some 24), none, .callF 14 [.tmp 23]⟩,
    ⟨(some 25), none, .load (some 13) (.tmp 5)⟩,
    ⟨(some 26), none, .callF 10 [.tmp 24, .tmp 25]⟩,
    ⟨(some 20), none, .mov (.tmp 26)⟩,
    ⟨(some 27), none, .extract 0 (.tmp 20)⟩,
    ⟨(some 28), none, .extract 1 (.tmp 20)⟩,
    ⟨(some 9), none, .mov (.tmp 27)⟩,
    ⟨(some 10), none, .mov (.tmp 28)⟩]

def f6r5 : List AInstr := [
    ⟨(some 29), none, .mov (.tmp 8)⟩,
    ⟨(some 30), none, .ibin .neq (.tmp 29) (.const (.int .i64 0))⟩,
    ⟨(some 31), none, .mov (.tmp 30)⟩,
    ⟨(some 32), (some (31, false)), .mov (.tmp 0)⟩,
    ⟨(some 33), (some (31, false)), .mov (.tmp 1)⟩,
    ⟨(some 34), (some (31, false)), .buildSlice 1 2 [.slice none 0 0, .slice none 0 0] [(0, 1, (.tmp 32)), (1, 1, (.tmp 33))]⟩,
    ⟨(some 35), (some (31, false)), .callF 14 [.tmp 34]⟩,
    ⟨(some 36), (some (31, false)), .callF 11 [.tmp 35]⟩,
    ⟨(some 37), (some (31, false)), .ibin .neq (.tmp 36) (.const (.int .i64 0))⟩,
    ⟨(some 38), none, .pick (.tmp 31) (.const (.bool true)) (.tmp 37)⟩]

def f6r6 : List AInstr := [
    ⟨(some 39), none, .mov (.tmp 8)⟩,
    ⟨(some 40), none, .ibin .neq (.tmp 39) (.const (.int .i64 0))⟩,
    ⟨(some 41), none, .mov (.tmp 40)⟩,
    ⟨(some 42), (some (41, false)), .mov (.tmp 10)⟩,
    ⟨(some 43), (some (41, false)), .ibin .neq (.tmp 42) (.const (.int .i64 0))⟩,
    ⟨(some 44), none, .pick (.tmp 41) (.const (.bool true)) (.tmp 43)⟩,
    ⟨(some 6), none, .mov (.tmp 44)⟩]

def f6r7 : List AInstr := [
    ⟨(some 45), none, .mov (.tmp 0)⟩,
    ⟨(some 46), none, .func (.func 16) [] [.tmp 5]⟩,
    ⟨(some 47), none, .callF 15 [.tmp 45, .tmp 46]⟩,
    ⟨(some 11), none, .mov (.tmp 47)⟩]

def f6r8 : List AInstr := [
    ⟨(some 48), none, .mov (.tmp 10)⟩,
    ⟨(some 49), none, .ibin .eql (.tmp 48) (.const (.int .i64 0))⟩,
    ⟨(some 50), none, .mov (.tmp 49)⟩,
    ⟨(some 51), (some (50, true)), .mov (.tmp 7)⟩,
    ⟨(some 52), (some (50, true)), .mov (.tmp 9)⟩,
    ⟨(some 53), (some (50, true)), .ibin .eql (.tmp 51) (.tmp 52)⟩,
    ⟨(some 54), none, .pick (.tmp 50) (.tmp 53) (.const (.bool false))⟩,
    ⟨(some 55), none, .mov (.tmp 54)⟩,
    ⟨(some 56), (some (55, true)), .mov (.tmp 11)⟩,
    ⟨(some 57), (some (55, true)), .ibin .geq (.tmp 56) (.const (.int .i64 0))⟩,
    ⟨(some 58), none, .pick (.tmp 55) (.tmp 57) (.const (.bool false))⟩,
    ⟨(some 59), none, .mov (.tmp 58)⟩,
    ⟨(some 60), (some (59, true)), .mov (.tmp 0)⟩,
    ⟨(some 61), (some (59, true)), .mov (.tmp 11)⟩,
    ⟨(some 62), (some (59, true)), .indexAddr 14 (.tmp 60) (.tmp 61)⟩,
    ⟨(some 63), (some (59, true)), .fieldAddr 13 (.tmp 62)⟩,
    ⟨(some 64), (some (59, true)), .load none (.tmp 63)⟩,
    ⟨(some 65), (some (59, true)), .mov (.tmp 7)⟩,
    ⟨(some 66), (some (59, true)), .ibin .eql (.tmp 64) (.tmp 65)⟩,
    ⟨(some 67), none, .pick (.tmp 59) (.tmp 66) (.const (.bool false))⟩,
    ⟨(some 6), none, .mov (.tmp 67)⟩]

def f6b : ACode := (.seq (.ops f6r0)
  (.keep [0, 1, 5] (.seq (.seq (.ops f6r1)
  (.keep [0, 1, 5, 13] (.cond (.tmp 13) (.keep [] (.seq (.ops f6r2)
  (.keep [6] .ret))) .skip)))
  (.keep [0, 1, 5] (.seq (.ops f6r3)
  (.keep [0, 1, 5, 7, 8] (.seq (.draw f6r4 [(0, 0, false), (0, 0, false), (0, 1, true), (1, 2, true), (0, 2, false), (2, 3, true), (3, 3, false), (3, 3, false), (3, 3, false), (3, 3, false), (3, 3, false)])
  (.keep [0, 1, 5, 7, 8, 9, 10] (.seq (.seq (.ops f6r5)
  (.keep [0, 5, 7, 8, 9, 10, 38] (.cond (.tmp 38) (.keep [8, 10] (.seq (.ops f6r6)
  (.keep [6] .ret))) .skip)))
  (.keep [0, 5, 7, 9, 10] (.seq (.ops f6r7)
  (.keep [0, 7, 9, 10, 11] (.seq (.ops f6r8)
  (.keep [6] .ret))))))))))))))

def f6 : AFn := ⟨68, [.tmp 6], f6b⟩

theorem f6_ok : compFn Try.prog 6 = some f6.strip := by kernel_rfl

/- function 7: weirhouse/weirhousekeep.alive7; parameters 0; operations that are not compiled: 0 -/
def f7r0 : List AInstr := [
    ⟨(some 0), none, .mov (.const (.bool false))⟩]

def f7r1 : List AInstr := [
    ⟨(some 8), none, .build [.int .u8 0, .int .u8 0, .int .u8 0, .int .u8 0] [(0, 1, (.const (.int .u8 10)))]⟩,
    ⟨(some 9), none, .build [.int .u8 0, .int .u8 0, .int .u8 0, .int .u8 0, .int .u8 0, .int .u8 0, .int .u8 0, .int .u8 0, .int .i64 0, .int .i64 0, .int .i64 0, .int .i64 0, .int .i64 0, .int .i64 0] [(4, 4, (.tmp 8)), (9, 1, (.const (.int .i64 8))), (10, 1, (.const (.int .i64 17))), (11, 1, (.const (.int .i64 53))), (12, 1, (.const (.int .i64 53))), (13, 1, (.const (.int .i64 3)))]⟩,
    ⟨(some 10), none, .build [.int .u8 0, .int .u8 0, .int .u8 0, .int .u8 0, .int .u8 0, .int .u8 0, .int .u8 0, .int .u8 0, .int .i64 0, .int .i64 0, .int .i64 0, .int .i64 0, .int .i64 0, .int .i64 0] [(12, 1, (.const (.int .i64 65535))), (13, 1, (.const (.int .i64 1)))]⟩,
    ⟨(some 11), none, .build [.int .u8 0, .int .u8 0, .int .u8 0, .int .u8 0, .int .u8 0, .int .u8 0, .int .u8 0, .int .u8 0, .int .i64 0, .int .i64 0, .int .i64 0, .int .i64 0, .int .i64 0, .int .i64 0] [(10, 1, (.const (.int .i64 6))), (12, 1, (.const (.int .i64 80))), (13, 1, (.const (.int .i64 2)))]⟩,
    ⟨(some 12), none, .buildSlice 14 3 [.int .u8 0, .int .u8 0, .int .u8 0, .int .u8 0, .int .u8 0, .int .u8 0, .int .u8 0, .int .u8 0, .int .i64 0, .int .i64 0, .int .i64 0, .int .i64 0, .int .i64 0, .int .i64 0, .int .u8 0, .int .u8 0, .int .u8 0, .int .u8 0, .int .u8 0, .int .u8 0, .int .u8 0, .int .u8 0, .int .i64 0, .int .i64 0, .int .i64 0, .int .i64 0, .int .i64 0, .int .i64 0, .int .u8 0, .int .u8 0, .int .u8 0, .int .u8 0, .int .u8 0, .int .u8 0, .int .u8 0, .int .u8 0, .int .i64 0, .int .i64 0, .int .i64 0, .int .i64 0, .int .i64 0, .int .i64 0] [(0, 14, (.tmp 9)), (14, 14, (.tmp 10)), (28, 14, (.tmp 11))]⟩,
    ⟨(some 1), none, .mov (.tmp 12)⟩]

def f7r2 : List AInstr := [
    ⟨(some 14), none, .mov (.tmp 1)⟩,
    ⟨(some 15), none, .build [.int .u8 0, .int .u8 0, .int .u8 0, .int .u8 0] [(0, 1, (.const (.int .u8 10))), (1, 1, (.const (.int .u8 9)))]⟩,
    ⟨(some 16), none, .build [.int .u8 0, .int .u8 0, .int .u8 0, .int .u8 0, .int .u8 0, .int .u8 0, .int .u8 0, .int .u8 0, .int .i64 0, .int .i64 0, .int .i64 0, .int .i64 0, .int .i64 0] [(4, 4, (.tmp 15)), (8, 1, (.const (.int .i64 17))), (10, 1, (.const (.int .i64 53)))]⟩,
    ⟨(some 17), none, .callF 10 [.tmp 14, .tmp 16]⟩,
    ⟨(some 13), none, .mov (.tmp 17)⟩,
    ⟨(some 18), none, .extract 0 (.tmp 13)⟩,
    ⟨(some 19), none, .extract 1 (.tmp 13)⟩,
    ⟨(some 2), none, .mov (.tmp 18)⟩,
    ⟨(some 3), none, .mov (.tmp 19)⟩]

def f7r3 : List AInstr := [
    ⟨(some 21), none, .mov (.tmp 1)⟩,
    ⟨(some 22), none, .build [.int .u8 0, .int .u8 0, .int .u8 0, .int .u8 0, .int .u8 0, .int .u8 0, .int .u8 0, .int .u8 0, .int .i64 0, .int .i64 0, .int .i64 0, .int .i64 0, .int .i64 0] [(8, 1, (.const (.int .i64 6))), (10, 1, (.const (.int .i64 80)))]⟩,
    ⟨(some 23), none, .callF 10 [.tmp 21, .tmp 22]⟩,
    ⟨(some 20), none, .mov (.tmp 23)⟩,
    ⟨(some 24), none, .extract 0 (.tmp 20)⟩,
    ⟨(some 25), none, .extract 1 (.tmp 20)⟩,
    ⟨(some 4), none, .mov (.tmp 24)⟩,
    ⟨(some 5), none, .mov (.tmp 25)⟩]

def f7r4 : List AInstr := [
    ⟨(some 27), none, .mov (.tmp 1)⟩,
    ⟨(some 28), none, .callF 12 [.tmp 27]⟩,
    ⟨(some 26), none, .mov (.tmp 28)⟩,
    ⟨(some 29), none, .extract 0 (.tmp 26)⟩,
    ⟨(some 30), none, .extract 1 (.tmp 26)⟩,
    ⟨(some 6), none, .mov (.tmp 29)⟩,
    ⟨(some 7), none, .mov (.tmp 30)⟩]

def f7r5 : List AInstr := [
    ⟨(some 31), none, .mov (.tmp 3)⟩,
    ⟨(some 32), none, .ibin .eql (.tmp 31) (.const (.int .i64 0))⟩,
    ⟨(some 33), none, .mov (.tmp 32)⟩,
    ⟨(some 34), (some (33, true)), .mov (.tmp 5)⟩,
    ⟨(some 35), (some (33, true)), .ibin .eql (.tmp 34) (.const (.int .i64 0))⟩,
    ⟨(some 36), none, .pick (.tmp 33) (.tmp 35) (.const (.bool false))⟩,
    ⟨(some 37), none, .mov (.tmp 36)⟩,
    ⟨(some 38), (some (37, true)), .mov (.tmp 7)⟩,
    ⟨(some 39), (some (37, true)), .ibin .eql (.tmp 38) (.const (.int .i64 0))⟩,
    ⟨(some 40), none, .pick (.tmp 37) (.tmp 39) (.const (.bool false))⟩,
    ⟨(some 41), none, .mov (.tmp 40)⟩,
    ⟨(some 42), (some (41, true)), .mov (.tmp 2)⟩,
    ⟨(some 43), (some (41, true)), .ibin .eql (.tmp 42) (.const (.int .i64 3))⟩,
    ⟨(some 44), none, .pick (.tmp 41) (.tmp 43) (.const (.bool false))⟩,
    ⟨(some 45), none, .mov (.tmp 44)⟩,
    ⟨(some 46), (some (45, true)), .mov (.tmp 4)⟩,
    ⟨(some 47), (some (45, true)), .ibin .eql (.tmp 46) (.const (.int .i64 1))⟩,
    ⟨(some 48), none, .pick (.tmp 45) (.tmp 47) (.const (.bool false))⟩,
    ⟨(some 49), none, .mov (.tmp 48)⟩,
    ⟨(some 50), (some (49, true)), .mov (.tmp 6)⟩,
    ⟨(some 51), (some (49, true)), .len (.tmp 50)⟩,
    ⟨(some 52), (some (49, true)), .ibin .eql (.tmp 51) (.const (.int .i64 2))⟩,
    ⟨(some 53), none, .pick (.tmp 49) (.tmp 52) (.const (.bool false))⟩,
    ⟨(some 0), none, .mov (.tmp 53)⟩]

def f7b : ACode := (.seq (.ops f7r0)
  (.keep [] (.seq (.ops f7r1)
  (.keep [1] (.seq (.ops f7r2)
  (.keep [1, 2, 3] (.seq (.ops f7r3)
  (.keep [1, 2, 3, 4, 5] (.seq (.ops f7r4)
  (.keep [2, 3, 4, 5, 6, 7] (.seq (.ops f7r5)
  (.keep [0] .ret))))))))))))

def f7 : AFn := ⟨54, [.tmp 0], f7b⟩

theorem f7_ok : compFn Try.prog 7 = some f7.strip := by kernel_rfl

/- function 8: weirhouse/rules.Fits; parameters 2; operations that are not compiled: 0 -/
def f8r0 : List AInstr := [
    ⟨(some 2), none, .box (.tmp 0)⟩,
    ⟨(some 3), none, .box (.tmp 1)⟩,
    ⟨(some 4), none, .mov (.const (.bool false))⟩]

def f8r1 : List AInstr := [
    ⟨(some 5), none, .fieldAddr 0 (.tmp 3)⟩,
    ⟨(some 6), none, .load (some 4) (.tmp 5)⟩,
    ⟨(some 7), none, .fieldAddr 0 (.tmp 2)⟩,
    ⟨(some 8), none, .load (some 4) (.tmp 7)⟩,
    ⟨(some 9), none, .fieldAddr 8 (.tmp 2)⟩,
    ⟨(some 10), none, .load none (.tmp 9)⟩,
    ⟨(some 11), none, .build [.int .u8 0, .int .u8 0, .int .u8 0, .int .u8 0, .int .i64 0, .int .i64 0] [(0, 4, (.tmp 8)), (4, 1, (.tmp 10))]⟩,
    ⟨(some 12), none, .callF 17 [.tmp 6, .tmp 11]⟩,
    ⟨(some 13), none, .mov (.tmp 12)⟩,
    ⟨(some 14), (some (13, true)), .fieldAddr 4 (.tmp 3)⟩,
    ⟨(some 15), (some (13, true)), .load (some 4) (.tmp 14)⟩,
    ⟨(some 16), (some (13, true)), .fieldAddr 4 (.tmp 2)⟩,
    ⟨(some 17), (some (13, true)), .load (some 4) (.tmp 16)⟩,
    ⟨(some 18), (some (13, true)), .fieldAddr 9 (.tmp 2)⟩,
    ⟨(some 19), (some (13, true)), .load none (.tmp 18)⟩,
    ⟨(some 20), (some (13, true)), .build [.int .u8 0, .int .u8 0, .int .u8 0, .int .u8 0, .int .i64 0, .int .i64 0] [(0, 4, (.tmp 17)), (4, 1, (.tmp 19))]⟩,
    ⟨(some 21), (some (13, true)), .callF 17 [.tmp 15, .tmp 20]⟩,
    ⟨(some 22), none, .pick (.tmp 13) (.tmp 21) (.const (.bool false))⟩,
    ⟨(some 23), none, .mov (.tmp 22)⟩,
    ⟨(some 24), (some (23, true)), .fieldAddr 10 (.tmp 2)⟩,
    ⟨(some 25), (some (23, true)), .load none (.tmp 24)⟩,
    ⟨(some 26), (some (23, true)), .ibin .eql (.tmp 25) (.const (.int .i64 0))⟩,
    ⟨(some 27), (some (23, true)), .mov (.tmp 26)⟩,
    ⟨(some 28), (some (27, false)), .fieldAddr 10 (.tmp 2)⟩,
    ⟨(some 29), (some (27, false)), .load none (.tmp 28)⟩,
    ⟨(some 30), (some (27, false)), .fieldAddr 8 (.tmp 3)⟩,
    ⟨(some 31), (some (27, false)), .load none (.tmp 30)⟩,
    ⟨(some 32), (some (27, false)), .ibin .eql (.tmp 29) (.tmp 31)⟩,
    ⟨(some 33), (some (23, true)), .pick (.tmp 27) (.const (.bool true)) (.tmp 32)⟩,
    ⟨(some 34), none, .pick (.tmp 23) (.tmp 33) (.const (.bool false))⟩,
    ⟨(some 35), none, .mov (.tmp 34)⟩,
    ⟨(some 36), (some (35, true)), .fieldAddr 10 (.tmp 3)⟩,
    ⟨(some 37), (some (35, true)), .load none (.tmp 36)⟩,
    ⟨(some 38), (some (35, true)), .fieldAddr 11 (.tmp 2)⟩,
    ⟨(some 39), (some (35, true)), .load none (.tmp 38)⟩,
    ⟨(some 40), (some (35, true)), .ibin .geq (.tmp 37) (.tmp 39)⟩,
    ⟨(some 41), none, .pick (.tmp 35) (.tmp 40) (.const (.bool false))⟩,
    ⟨(some 42), none, .mov (.tmp 41)⟩,
    ⟨(some 43), (some (42, true)), .fieldAddr 10 (.tmp 3)⟩,
    ⟨(some 44), (some (42, true)), .load none (.tmp 43)⟩,
    ⟨(some 45), (some (42, true)), .fieldAddr 12 (.tmp 2)⟩,
    ⟨(some 46), (some (42, true)), .load none (.tmp 45)⟩,
    ⟨(some 47), (some (42, true)), .ibin .leq (.tmp 44) (.tmp 46)⟩,
    ⟨(some 48), none, .pick (.tmp 42) (.tmp 47) (.const (.bool false))⟩,
    ⟨(some 4), none, .mov (.tmp 48)⟩]

def f8b : ACode := (.seq (.ops f8r0)
  (.keep [2, 3] (.seq (.ops f8r1)
  (.keep [4] .ret))))

def f8 : AFn := ⟨49, [.tmp 4], f8b⟩

theorem f8_ok : compFn Try.prog 8 = some f8.strip := by kernel_rfl

/- function 9: slices.Clone[[]weirhouse/api.Rule,weirhouse/api.Rule]; parameters 1; operations that are not compiled: 0 -/
def f9r0 : List AInstr := [
    ⟨(some 2), none, .mov (.const (.slice none 0 0))⟩]

def f9r1 : List AInstr := [
    ⟨(some 3), none, .mov (.tmp 0)⟩,
    ⟨(some 4), none, .eqS false (.tmp 3) (.const (.slice none 0 0))⟩]

def f9r2 : List AInstr := [
    ⟨(some 2), none, .mov (.const (.slice none 0 0))⟩]

def f9r3 : List AInstr := [
    ⟨(some 5), none, .buildSlice 14 0 [] []⟩,
    ⟨(some 6), none, .mov (.tmp 0)⟩,
    ⟨(some 7), none, .append 14 56 (.tmp 5) (.tmp 6)⟩,
    ⟨(some 2), none, .mov (.tmp 7)⟩]

def f9b : ACode := (.seq (.ops f9r0)
  (.keep [0] (.seq (.seq (.ops f9r1)
  (.keep [0, 4] (.cond (.tmp 4) (.keep [] (.seq (.ops f9r2)
  (.keep [2] .ret))) .skip)))
  (.keep [0] (.seq (.ops f9r3)
  (.keep [2] .ret))))))

def f9 : AFn := ⟨8, [.tmp 2], f9b⟩

theorem f9_ok : compFn Try.prog 9 = some f9.strip := by kernel_rfl

/- function 10: weirhouse/rules.Class; parameters 2; operations that are not compiled: 0 -/
def f10r0 : List AInstr := [
    ⟨(some 3), none, .box (.tmp 1)⟩,
    ⟨(some 4), none, .mov (.const (.int .i64 0))⟩,
    ⟨(some 5), none, .mov (.const (.int .i64 0))⟩]

def f10r1 : List AInstr := [
    ⟨(some 8), none, .mov (.tmp 0)⟩,
    ⟨(some 9), none, .callF 11 [.tmp 8]⟩,
    ⟨(some 6), none, .mov (.tmp 9)⟩]

def f10r2 : List AInstr := [
    ⟨(some 10), none, .mov (.tmp 6)⟩,
    ⟨(some 11), none, .ibin .neq (.tmp 10) (.const (.int .i64 0))⟩]

def f10r3 : List AInstr := [
    ⟨(some 12), none, .mov (.tmp 6)⟩,
    ⟨(some 4), none, .mov (.const (.int .i64 0))⟩,
    ⟨(some 5), none, .mov (.tmp 12)⟩]

def f10r4 : List AInstr := [
    ⟨(some 13), none, .mov (.tmp 0)⟩,
    ⟨(some 14), none, .func (.func 18) [] [.tmp 3]⟩,
    ⟨(some 15), none, .callF 15 [.tmp 13, .tmp 14]⟩,
    ⟨(some 7), none, .mov (.tmp 15)⟩]

def f10r5 : List AInstr := [
    ⟨(some 16), none, .mov (.tmp 7)⟩,
    ⟨(some 17), none, .ibin .lss (.tmp 16) (.const (.int .i64 0))⟩]

def f10r6 : List AInstr := [
    ⟨(some 4), none, .mov (.const (.int .i64 0))⟩,
    ⟨(some 5), none, .mov (.const (.int .i64 3))⟩]

def f10r7 : List AInstr := [
    ⟨(some 18), none, .mov (.tmp 0)⟩,
    ⟨(some 19), none, .mov (.tmp 7)⟩,
    ⟨(some 20), none, .indexAddr 14 (.tmp 18) (.tmp 19)⟩,
    ⟨(some 21), none, .fieldAddr 13 (.tmp 20)⟩,
    ⟨(some 22), none, .load none (.tmp 21)⟩,
    ⟨(some 4), none, .mov (.tmp 22)⟩,
    ⟨(some 5), none, .mov (.const (.int .i64 0))⟩]

def f10b : ACode := (.seq (.ops f10r0)
  (.keep [0, 3] (.seq (.seq (.ops f10r1)
  (.keep [0, 3, 6] (.seq (.ops f10r2)
  (.keep [0, 3, 6, 11] (.cond (.tmp 11) (.keep [6] (.seq (.ops f10r3)
  (.keep [4, 5] .ret))) .skip)))))
  (.keep [0, 3] (.seq (.ops f10r4)
  (.keep [0, 7] (.seq (.seq (.ops f10r5)
  (.keep [0, 7, 17] (.cond (.tmp 17) (.keep [] (.seq (.ops f10r6)
  (.keep [4, 5] .ret))) .skip)))
  (.keep [0, 7] (.seq (.ops f10r7)
  (.keep [4, 5] .ret))))))))))

def f10 : AFn := ⟨23, [.tmp 4, .tmp 5], f10b⟩

theorem f10_ok : compFn Try.prog 10 = some f10.strip := by kernel_rfl

/- function 11: weirhouse/rules.Wrong; parameters 1; operations that are not compiled: 0 -/
def f11r0 : List AInstr := [
    ⟨(some 2), none, .mov (.const (.int .i64 0))⟩]

def f11r1 : List AInstr := [
    ⟨(some 3), none, .mov (.tmp 0)⟩,
    ⟨(some 4), none, .len (.tmp 3)⟩,
    ⟨(some 5), none, .ibin .gtr (.tmp 4) (.const (.int .i64 400))⟩,
    ⟨(some 6), none, .mov (.tmp 5)⟩,
    ⟨(some 7), (some (6, false)), .mov (.tmp 0)⟩,
    ⟨(some 8), (some (6, false)), .callF 19 [.tmp 7, .const (.func (.func 20) #[] #[])]⟩,
    ⟨(some 9), none, .pick (.tmp 6) (.const (.bool true)) (.tmp 8)⟩]

def f11r2 : List AInstr := [
    ⟨(some 2), none, .mov (.const (.int .i64 2))⟩]

def f11r3 : List AInstr := [
    ⟨(some 2), none, .mov (.const (.int .i64 0))⟩]

def f11b : ACode := (.seq (.ops f11r0)
  (.keep [0] (.seq (.seq (.ops f11r1)
  (.keep [9] (.cond (.tmp 9) (.keep [] (.seq (.ops f11r2)
  (.keep [2] .ret))) .skip)))
  (.keep [] (.seq (.ops f11r3)
  (.keep [2] .ret))))))

def f11 : AFn := ⟨10, [.tmp 2], f11b⟩

theorem f11_ok : compFn Try.prog 11 = some f11.strip := by kernel_rfl

/- function 12: weirhouse/rules.Prune; parameters 1; operations that are not compiled: 0 -/
def f12r0 : List AInstr := [
    ⟨(some 2), none, .mov (.const (.slice none 0 0))⟩,
    ⟨(some 3), none, .mov (.const (.int .i64 0))⟩]

def f12r1 : List AInstr := [
    ⟨(some 8), none, .mov (.tmp 0)⟩,
    ⟨(some 9), none, .callF 11 [.tmp 8]⟩,
    ⟨(some 4), none, .mov (.tmp 9)⟩]

def f12r2 : List AInstr := [
    ⟨(some 10), none, .mov (.tmp 4)⟩,
    ⟨(some 11), none, .ibin .neq (.tmp 10) (.const (.int .i64 0))⟩]

def f12r3 : List AInstr := [
    ⟨(some 12), none, .mov (.tmp 4)⟩,
    ⟨(some 2), none, .mov (.const (.slice none 0 0))⟩,
    ⟨(some 3), none, .mov (.tmp 12)⟩]

def f12r4 : List AInstr := [
    ⟨(some 5), none, .mov (.const (.slice none 0 0))⟩]

def f12r5 : List AInstr := [
    ⟨(some 13), none, .mov (.tmp 0)⟩,
    ⟨(some 14), none, .len (.tmp 13)⟩,
    ⟨(some 15), none, .mov (.const (.int .i64 0))⟩]

def f12r6 : List AInstr := [
    ⟨(some 16), none, .ibin .lss (.tmp 15) (.tmp 14)⟩]

def f12r7 : List AInstr := [
    ⟨(some 17), none, .indexAddr 14 (.tmp 13) (.tmp 15)⟩,
    ⟨(some 18), none, .load (some 14) (.tmp 17)⟩,
    ⟨(some 7), none, .alloc [.int .u8 0, .int .u8 0, .int .u8 0, .int .u8 0, .int .u8 0, .int .u8 0, .int .u8 0, .int .u8 0, .int .i64 0, .int .i64 0, .int .i64 0, .int .i64 0, .int .i64 0, .int .i64 0]⟩,
    ⟨none, none, .store 14 (.tmp 7) (.tmp 18)⟩]

def f12r8 : List AInstr := [
    ⟨(some 19), none, .mov (.tmp 5)⟩,
    ⟨(some 20), none, .func (.func 21) [] [.tmp 7]⟩,
    ⟨(some 21), none, .callF 19 [.tmp 19, .tmp 20]⟩,
    ⟨(some 22), none, .un .not (.tmp 21)⟩]

def f12r9 : List AInstr := [
    ⟨(some 23), none, .mov (.tmp 5)⟩,
    ⟨(some 24), none, .load (some 14) (.tmp 7)⟩,
    ⟨(some 25), none, .buildSlice 14 1 [.int .u8 0, .int .u8 0, .int .u8 0, .int .u8 0, .int .u8 0, .int .u8 0, .int .u8 0, .int .u8 0, .int .i64 0, .int .i64 0, .int .i64 0, .int .i64 0, .int .i64 0, .int .i64 0] [(0, 14, (.tmp 24))]⟩,
    ⟨(some 26), none, .append 14 56 (.tmp 23) (.tmp 25)⟩,
    ⟨(some 5), none, .mov (.tmp 26)⟩]

def f12r10 : List AInstr := [
    ⟨(some 27), none, .ibin .add (.tmp 15) (.const (.int .i64 1))⟩,
    ⟨(some 15), none, .mov (.tmp 27)⟩]

/-- live: [5, 13, 14, 15] -/
def f12l0 : ACode := (.seq (.ops f12r6)
  (.keep [5, 13, 14, 15, 16] (.seq (.cond (.tmp 16) .skip (.exit 0))
  (.keep [5, 13, 14, 15] (.seq (.block 1 (.seq (.ops f12r7)
  (.keep [5, 7, 13, 14, 15] (.seq (.ops f12r8)
  (.keep [5, 7, 13, 14, 15, 22] (.cond (.tmp 22) (.keep [5, 7, 13, 14, 15] (.ops f12r9)) .skip))))))
  (.keep [5, 13, 14, 15] (.ops f12r10)))))))

def f12r12 : List AInstr := [
    ⟨(some 28), none, .mov (.tmp 5)⟩,
    ⟨(some 2), none, .mov (.tmp 28)⟩,
    ⟨(some 3), none, .mov (.const (.int .i64 0))⟩]

def f12b : ACode := (.seq (.ops f12r0)
  (.keep [0] (.seq (.seq (.ops f12r1)
  (.keep [0, 4] (.seq (.ops f12r2)
  (.keep [0, 4, 11] (.cond (.tmp 11) (.keep [4] (.seq (.ops f12r3)
  (.keep [2, 3] .ret))) .skip)))))
  (.keep [0] (.seq (.ops f12r4)
  (.keep [0, 5] (.seq (.seq (.ops f12r5)
  (.keep [5, 13, 14, 15] (.block 0 (.loop f12l0))))
  (.keep [5] (.seq (.ops f12r12)
  (.keep [2, 3] .ret))))))))))

def f12 : AFn := ⟨29, [.tmp 2, .tmp 3], f12b⟩

theorem f12_ok : compFn Try.prog 12 = some f12.strip := by kernel_rfl

/- function 13: slices.Equal[[]weirhouse/api.Rule,weirhouse/api.Rule]; parameters 2; operations that are not compiled: 0 -/
def f13r0 : List AInstr := [
    ⟨(some 4), none, .mov (.const (.bool false))⟩]

def f13r1 : List AInstr := [
    ⟨(some 6), none, .mov (.tmp 0)⟩,
    ⟨(some 7), none, .len (.tmp 6)⟩,
    ⟨(some 8), none, .mov (.tmp 1)⟩,
    ⟨(some 9), none, .len (.tmp 8)⟩,
    ⟨(some 10), none, .ibin .neq (.tmp 7) (.tmp 9)⟩]

def f13r2 : List AInstr := [
    ⟨(some 4), none, .mov (.const (.bool false))⟩]

def f13r3 : List AInstr := [
    ⟨(some 11), none, .mov (.tmp 0)⟩,
    ⟨(some 12), none, .len (.tmp 11)⟩,
    ⟨(some 13), none, .mov (.const (.int .i64 0))⟩]

def f13r4 : List AInstr := [
    ⟨(some 14), none, .ibin .lss (.tmp 13) (.tmp 12)⟩]

def f13r5 : List AInstr := [
    ⟨(some 15), none, .mov (.tmp 13)⟩,
    ⟨(some 5), none, .mov (.tmp 15)⟩]

def f13r6 : List AInstr := [
    ⟨(some 16), none, .mov (.tmp 0)⟩,
    ⟨(some 17), none, .mov (.tmp 5)⟩,
    ⟨(some 18), none, .indexAddr 14 (.tmp 16) (.tmp 17)⟩,
    ⟨(some 19), none, .load (some 14) (.tmp 18)⟩,
    ⟨(some 20), none, .mov (.tmp 1)⟩,
    ⟨(some 21), none, .mov (.tmp 5)⟩,
    ⟨(some 22), none, .indexAddr 14 (.tmp 20) (.tmp 21)⟩,
    ⟨(some 23), none, .load (some 14) (.tmp 22)⟩,
    ⟨(some 24), none, .eqA true [false, false, false, false, false, false, false, false, false, false, false, false, false, false] (.tmp 19) (.tmp 23)⟩]

def f13r7 : List AInstr := [
    ⟨(some 4), none, .mov (.const (.bool false))⟩]

def f13r8 : List AInstr := [
    ⟨(some 25), none, .ibin .add (.tmp 13) (.const (.int .i64 1))⟩,
    ⟨(some 13), none, .mov (.tmp 25)⟩]

/-- live: [0, 1, 12, 13] -/
def f13l0 : ACode := (.seq (.ops f13r4)
  (.keep [0, 1, 12, 13, 14] (.seq (.cond (.tmp 14) .skip (.exit 0))
  (.keep [0, 1, 12, 13] (.seq (.block 1 (.seq (.ops f13r5)
  (.keep [0, 1, 5, 12, 13] (.seq (.draw f13r6 [(0, 0, false), (0, 0, false), (0, 0, false), (0, 0, false), (0, 0, false), (0, 0, false), (0, 0, false), (0, 0, false), (0, 0, false)])
  (.keep [0, 1, 12, 13, 24] (.cond (.tmp 24) (.keep [] (.seq (.ops f13r7)
  (.keep [4] .ret))) .skip))))))
  (.keep [0, 1, 12, 13] (.ops f13r8)))))))

def f13r10 : List AInstr := [
    ⟨(some 4), none, .mov (.const (.bool true))⟩]

def f13b : ACode := (.seq (.ops f13r0)
  (.keep [0, 1] (.seq (.seq (.ops f13r1)
  (.keep [0, 1, 10] (.cond (.tmp 10) (.keep [] (.seq (.ops f13r2)
  (.keep [4] .ret))) .skip)))
  (.keep [0, 1] (.seq (.seq (.ops f13r3)
  (.keep [0, 1, 12, 13] (.block 0 (.loop f13l0))))
  (.keep [] (.seq (.ops f13r10)
  (.keep [4] .ret))))))))

def f13 : AFn := ⟨26, [.tmp 4], f13b⟩

theorem f13_ok : compFn Try.prog 13 = some f13.strip := by kernel_rfl

/- function 14: slices.Concat[[]weirhouse/api.Rule,weirhouse/api.Rule]; parameters 1; operations that are not compiled: 2 -/
def f14r0 : List AInstr := [
    ⟨(some 2), none, .mov (.const (.slice none 0 0))⟩]

def f14r1 : List AInstr := [
    ⟨(some 3), none, .mov (.const (.int .i64 0))⟩]

def f14r2 : List AInstr := [
    ⟨(some 9), none, .mov (.tmp 0)⟩,
    ⟨(some 10), none, .len (.tmp 9)⟩,
    ⟨(some 11), none, .mov (.const (.int .i64 0))⟩]

def f14r3 : List AInstr := [
    ⟨(some 12), none, .ibin .lss (.tmp 11) (.tmp 10)⟩]

def f14r4 : List AInstr := [
    ⟨(some 13), none, .indexAddr 1 (.tmp 9) (.tmp 11)⟩,
    ⟨(some 14), none, .load none (.tmp 13)⟩,
    ⟨(some 5), none, .mov (.tmp 14)⟩]

def f14r5 : List AInstr := [
    ⟨(some 15), none, .mov (.tmp 3)⟩,
    ⟨(some 16), none, .mov (.tmp 5)⟩,
    ⟨(some 17), none, .len (.tmp 16)⟩,
    ⟨(some 18), none, .ibin .add (.tmp 15) (.tmp 17)⟩,
    ⟨(some 3), none, .mov (.tmp 18)⟩]

def f14r6 : List AInstr := [
    ⟨(some 19), none, .mov (.tmp 3)⟩,
    ⟨(some 20), none, .ibin .lss (.tmp 19) (.const (.int .i64 0))⟩]

def f14r7 : List AInstr := [
    ⟨(some 21), none, .bad⟩,
    ⟨none, none, .bad⟩]

def f14r8 : List AInstr := [
    ⟨(some 22), none, .ibin .add (.tmp 11) (.const (.int .i64 1))⟩,
    ⟨(some 11), none, .mov (.tmp 22)⟩]

/-- live: [0, 3, 9, 10, 11] -/
def f14l0 : ACode := (.seq (.ops f14r3)
  (.keep [0, 3, 9, 10, 11, 12] (.seq (.cond (.tmp 12) .skip (.exit 0))
  (.keep [0, 3, 9, 10, 11] (.seq (.block 1 (.seq (.ops f14r4)
  (.keep [0, 3, 5, 9, 10, 11] (.seq (.ops f14r5)
  (.keep [0, 3, 9, 10, 11] (.seq (.ops f14r6)
  (.keep [0, 3, 9, 10, 11, 20] (.cond (.tmp 20) (.keep [0, 3, 9, 10, 11] (.ops f14r7)) .skip))))))))
  (.keep [0, 3, 9, 10, 11] (.ops f14r8)))))))

def f14r10 : List AInstr := [
    ⟨(some 23), none, .mov (.tmp 3)⟩,
    ⟨(some 24), none, .callF 23 [.const (.slice none 0 0), .tmp 23]⟩,
    ⟨(some 6), none, .mov (.tmp 24)⟩]

def f14r11 : List AInstr := [
    ⟨(some 25), none, .mov (.tmp 0)⟩,
    ⟨(some 26), none, .len (.tmp 25)⟩,
    ⟨(some 27), none, .mov (.const (.int .i64 0))⟩]

def f14r12 : List AInstr := [
    ⟨(some 28), none, .ibin .lss (.tmp 27) (.tmp 26)⟩]

def f14r13 : List AInstr := [
    ⟨(some 29), none, .indexAddr 1 (.tmp 25) (.tmp 27)⟩,
    ⟨(some 30), none, .load none (.tmp 29)⟩,
    ⟨(some 8), none, .mov (.tmp 30)⟩]

def f14r14 : List AInstr := [
    ⟨(some 31), none, .mov (.tmp 6)⟩,
    ⟨(some 32), none, .mov (.tmp 8)⟩,
    ⟨(some 33), none, .append 14 56 (.tmp 31) (.tmp 32)⟩,
    ⟨(some 6), none, .mov (.tmp 33)⟩]

def f14r15 : List AInstr := [
    ⟨(some 34), none, .ibin .add (.tmp 27) (.const (.int .i64 1))⟩,
    ⟨(some 27), none, .mov (.tmp 34)⟩]

/-- live: [6, 25, 26, 27] -/
def f14l1 : ACode := (.seq (.ops f14r12)
  (.keep [6, 25, 26, 27, 28] (.seq (.cond (.tmp 28) .skip (.exit 2))
  (.keep [6, 25, 26, 27] (.seq (.block 3 (.seq (.ops f14r13)
  (.keep [6, 8, 25, 26, 27] (.ops f14r14))))
  (.keep [6, 25, 26, 27] (.ops f14r15)))))))

def f14r17 : List AInstr := [
    ⟨(some 35), none, .mov (.tmp 6)⟩,
    ⟨(some 2), none, .mov (.tmp 35)⟩]

def f14b : ACode := (.seq (.ops f14r0)
  (.keep [0] (.seq (.ops f14r1)
  (.keep [0, 3] (.seq (.seq (.ops f14r2)
  (.keep [0, 3, 9, 10, 11] (.block 0 (.loop f14l0))))
  (.keep [0, 3] (.seq (.ops f14r10)
  (.keep [0, 6] (.seq (.seq (.ops f14r11)
  (.keep [6, 25, 26, 27] (.block 2 (.loop f14l1))))
  (.keep [6] (.seq (.ops f14r17)
  (.keep [2] .ret))))))))))))

def f14 : AFn := ⟨36, [.tmp 2], f14b⟩

theorem f14_ok : compFn Try.prog 14 = some f14.strip := by kernel_rfl

/- function 15: slices.IndexFunc[[]weirhouse/api.Rule,weirhouse/api.Rule]; parameters 2; operations that are not compiled: 0 -/
def f15r0 : List AInstr := [
    ⟨(some 4), none, .mov (.const (.int .i64 0))⟩]

def f15r1 : List AInstr := [
    ⟨(some 6), none, .mov (.tmp 0)⟩,
    ⟨(some 7), none, .len (.tmp 6)⟩,
    ⟨(some 8), none, .mov (.const (.int .i64 0))⟩]

def f15r2 : List AInstr := [
    ⟨(some 9), none, .ibin .lss (.tmp 8) (.tmp 7)⟩]

def f15r3 : List AInstr := [
    ⟨(some 10), none, .mov (.tmp 8)⟩,
    ⟨(some 5), none, .mov (.tmp 10)⟩]

def f15r4 : List AInstr := [
    ⟨(some 11), none, .mov (.tmp 1)⟩,
    ⟨(some 12), none, .mov (.tmp 0)⟩,
    ⟨(some 13), none, .mov (.tmp 5)⟩,
    ⟨(some 14), none, .indexAddr 14 (.tmp 12) (.tmp 13)⟩,
    ⟨(some 15), none, .load (some 14) (.tmp 14)⟩,
    ⟨(some 16), none, .callV (.tmp 11) [.tmp 15]⟩]

def f15r5 : List AInstr := [
    ⟨(some 17), none, .mov (.tmp 5)⟩,
    ⟨(some 4), none, .mov (.tmp 17)⟩]

def f15r6 : List AInstr := [
    ⟨(some 18), none, .ibin .add (.tmp 8) (.const (.int .i64 1))⟩,
    ⟨(some 8), none, .mov (.tmp 18)⟩]

/-- live: [0, 1, 7, 8] -/
def f15l0 : ACode := (.seq (.ops f15r2)
  (.keep [0, 1, 7, 8, 9] (.seq (.cond (.tmp 9) .skip (.exit 0))
  (.keep [0, 1, 7, 8] (.seq (.block 1 (.seq (.ops f15r3)
  (.keep [0, 1, 5, 7, 8] (.seq (.ops f15r4)
  (.keep [0, 1, 5, 7, 8, 16] (.cond (.tmp 16) (.keep [5] (.seq (.ops f15r5)
  (.keep [4] .ret))) .skip))))))
  (.keep [0, 1, 7, 8] (.ops f15r6)))))))

def f15r8 : List AInstr := [
    ⟨(some 4), none, .mov (.const (.int .i64 (-1)))⟩]

def f15b : ACode := (.seq (.ops f15r0)
  (.keep [0, 1] (.seq (.seq (.ops f15r1)
  (.keep [0, 1, 7, 8] (.block 0 (.loop f15l0))))
  (.keep [] (.seq (.ops f15r8)
  (.keep [4] .ret))))))

def f15 : AFn := ⟨19, [.tmp 4], f15b⟩

theorem f15_ok : compFn Try.prog 15 = some f15.strip := by kernel_rfl

/- function 16: weirhouse/weirhousekeep.RulesFirst$1; parameters 1; operations that are not compiled: 0 -/
def f16r0 : List AInstr := [
    ⟨(some 2), none, .box (.tmp 0)⟩,
    ⟨(some 3), none, .mov (.const (.bool false))⟩]

def f16r1 : List AInstr := [
    ⟨(some 4), none, .load (some 14) (.tmp 2)⟩,
    ⟨(some 5), none, .load (some 13) (.tmp 1)⟩,
    ⟨(some 6), none, .callF 8 [.tmp 4, .tmp 5]⟩,
    ⟨(some 3), none, .mov (.tmp 6)⟩]

def f16b : ACode := (.seq (.ops f16r0)
  (.keep [1, 2] (.seq (.ops f16r1)
  (.keep [3] .ret))))

def f16 : AFn := ⟨7, [.tmp 3], f16b⟩

theorem f16_ok : compFn Try.prog 16 = some f16.strip := by kernel_rfl

/- function 17: weirhouse/trie.Within; parameters 2; operations that are not compiled: 0 -/
def f17r0 : List AInstr := [
    ⟨(some 2), none, .box (.tmp 0)⟩,
    ⟨(some 3), none, .box (.tmp 1)⟩,
    ⟨(some 4), none, .mov (.const (.bool false))⟩]

def f17r1 : List AInstr := [
    ⟨(some 6), none, .fieldAddr 4 (.tmp 3)⟩,
    ⟨(some 7), none, .load none (.tmp 6)⟩,
    ⟨(some 8), none, .ibin .lss (.tmp 7) (.const (.int .i64 0))⟩,
    ⟨(some 9), none, .mov (.tmp 8)⟩,
    ⟨(some 10), (some (9, false)), .fieldAddr 4 (.tmp 3)⟩,
    ⟨(some 11), (some (9, false)), .load none (.tmp 10)⟩,
    ⟨(some 12), (some (9, false)), .ibin .gtr (.tmp 11) (.const (.int .i64 32))⟩,
    ⟨(some 13), none, .pick (.tmp 9) (.const (.bool true)) (.tmp 12)⟩]

def f17r2 : List AInstr := [
    ⟨(some 4), none, .mov (.const (.bool false))⟩]

def f17r3 : List AInstr := [
    ⟨(some 14), none, .fieldAddr 4 (.tmp 3)⟩,
    ⟨(some 15), none, .load none (.tmp 14)⟩,
    ⟨(some 16), none, .mov (.const (.int .i64 0))⟩]

def f17r4 : List AInstr := [
    ⟨(some 17), none, .ibin .lss (.tmp 16) (.tmp 15)⟩]

def f17r5 : List AInstr := [
    ⟨(some 18), none, .mov (.tmp 16)⟩,
    ⟨(some 5), none, .mov (.tmp 18)⟩]

def f17r6 : List AInstr := [
    ⟨(some 19), none, .load (some 4) (.tmp 2)⟩,
    ⟨(some 20), none, .mov (.tmp 5)⟩,
    ⟨(some 21), none, .callF 24 [.tmp 19, .tmp 20]⟩,
    ⟨(some 22), none, .fieldAddr 0 (.tmp 3)⟩,
    ⟨(some 23), none, .load (some 4) (.tmp 22)⟩,
    ⟨(some 24), none, .mov (.tmp 5)⟩,
    ⟨(some 25), none, .callF 24 [.tmp 23, .tmp 24]⟩,
    ⟨(some 26), none, .ibin .neq (.tmp 21) (.tmp 25)⟩]

def f17r7 : List AInstr := [
    ⟨(some 4), none, .mov (.const (.bool false))⟩]

def f17r8 : List AInstr := [
    ⟨(some 27), none, .ibin .add (.tmp 16) (.const (.int .i64 1))⟩,
    ⟨(some 16), none, .mov (.tmp 27)⟩]

/-- live: [2, 3, 15, 16] -/
def f17l0 : ACode := (.seq (.ops f17r4)
  (.keep [2, 3, 15, 16, 17] (.seq (.cond (.tmp 17) .skip (.exit 0))
  (.keep [2, 3, 15, 16] (.seq (.block 1 (.seq (.ops f17r5)
  (.keep [2, 3, 5, 15, 16] (.seq (.draw f17r6 [(0, 0, false), (0, 0, false), (0, 1, true), (0, 1, false), (0, 1, false), (0, 1, false), (1, 2, true), (2, 2, false)])
  (.keep [2, 3, 15, 16, 26] (.cond (.tmp 26) (.keep [] (.seq (.ops f17r7)
  (.keep [4] .ret))) .skip))))))
  (.keep [2, 3, 15, 16] (.ops f17r8)))))))

def f17r10 : List AInstr := [
    ⟨(some 4), none, .mov (.const (.bool true))⟩]

def f17b : ACode := (.seq (.ops f17r0)
  (.keep [2, 3] (.seq (.seq (.ops f17r1)
  (.keep [2, 3, 13] (.cond (.tmp 13) (.keep [] (.seq (.ops f17r2)
  (.keep [4] .ret))) .skip)))
  (.keep [2, 3] (.seq (.seq (.ops f17r3)
  (.keep [2, 3, 15, 16] (.block 0 (.loop f17l0))))
  (.keep [] (.seq (.ops f17r10)
  (.keep [4] .ret))))))))

def f17 : AFn := ⟨28, [.tmp 4], f17b⟩

theorem f17_ok : compFn Try.prog 17 = some f17.strip := by kernel_rfl

/- function 18: weirhouse/rules.Class$1; parameters 1; operations that are not compiled: 0 -/
def f18r0 : List AInstr := [
    ⟨(some 2), none, .box (.tmp 0)⟩,
    ⟨(some 3), none, .mov (.const (.bool false))⟩]

def f18r1 : List AInstr := [
    ⟨(some 4), none, .load (some 14) (.tmp 2)⟩,
    ⟨(some 5), none, .load (some 13) (.tmp 1)⟩,
    ⟨(some 6), none, .callF 8 [.tmp 4, .tmp 5]⟩,
    ⟨(some 3), none, .mov (.tmp 6)⟩]

def f18b : ACode := (.seq (.ops f18r0)
  (.keep [1, 2] (.seq (.ops f18r1)
  (.keep [3] .ret))))

def f18 : AFn := ⟨7, [.tmp 3], f18b⟩

theorem f18_ok : compFn Try.prog 18 = some f18.strip := by kernel_rfl

/- function 19: slices.ContainsFunc[[]weirhouse/api.Rule,weirhouse/api.Rule]; parameters 2; operations that are not compiled: 0 -/
def f19r0 : List AInstr := [
    ⟨(some 4), none, .mov (.const (.bool false))⟩]

def f19r1 : List AInstr := [
    ⟨(some 5), none, .mov (.tmp 0)⟩,
    ⟨(some 6), none, .mov (.tmp 1)⟩,
    ⟨(some 7), none, .callF 15 [.tmp 5, .tmp 6]⟩,
    ⟨(some 8), none, .ibin .geq (.tmp 7) (.const (.int .i64 0))⟩,
    ⟨(some 4), none, .mov (.tmp 8)⟩]

def f19b : ACode := (.seq (.ops f19r0)
  (.keep [0, 1] (.seq (.ops f19r1)
  (.keep [4] .ret))))

def f19 : AFn := ⟨9, [.tmp 4], f19b⟩

theorem f19_ok : compFn Try.prog 19 = some f19.strip := by kernel_rfl

/- function 20: weirhouse/rules.Wrong$1; parameters 1; operations that are not compiled: 0 -/
def f20r0 : List AInstr := [
    ⟨(some 1), none, .box (.tmp 0)⟩,
    ⟨(some 2), none, .mov (.const (.bool false))⟩]

def f20r1 : List AInstr := [
    ⟨(some 3), none, .fieldAddr 8 (.tmp 1)⟩,
    ⟨(some 4), none, .load none (.tmp 3)⟩,
    ⟨(some 5), none, .fieldAddr 9 (.tmp 1)⟩,
    ⟨(some 6), none, .load none (.tmp 5)⟩,
    ⟨(some 7), none, .minmax false [.tmp 4, .tmp 6]⟩,
    ⟨(some 8), none, .ibin .lss (.tmp 7) (.const (.int .i64 0))⟩,
    ⟨(some 9), none, .mov (.tmp 8)⟩,
    ⟨(some 10), (some (9, false)), .fieldAddr 8 (.tmp 1)⟩,
    ⟨(some 11), (some (9, false)), .load none (.tmp 10)⟩,
    ⟨(some 12), (some (9, false)), .fieldAddr 9 (.tmp 1)⟩,
    ⟨(some 13), (some (9, false)), .load none (.tmp 12)⟩,
    ⟨(some 14), (some (9, false)), .minmax true [.tmp 11, .tmp 13]⟩,
    ⟨(some 15), (some (9, false)), .ibin .gtr (.tmp 14) (.const (.int .i64 32))⟩,
    ⟨(some 16), none, .pick (.tmp 9) (.const (.bool true)) (.tmp 15)⟩,
    ⟨(some 17), none, .mov (.tmp 16)⟩,
    ⟨(some 18), (some (17, false)), .fieldAddr 10 (.tmp 1)⟩,
    ⟨(some 19), (some (17, false)), .load none (.tmp 18)⟩,
    ⟨(some 20), (some (17, false)), .ibin .lss (.tmp 19) (.const (.int .i64 0))⟩,
    ⟨(some 21), none, .pick (.tmp 17) (.const (.bool true)) (.tmp 20)⟩,
    ⟨(some 22), none, .mov (.tmp 21)⟩,
    ⟨(some 23), (some (22, false)), .fieldAddr 10 (.tmp 1)⟩,
    ⟨(some 24), (some (22, false)), .load none (.tmp 23)⟩,
    ⟨(some 25), (some (22, false)), .ibin .gtr (.tmp 24) (.const (.int .i64 255))⟩,
    ⟨(some 26), none, .pick (.tmp 22) (.const (.bool true)) (.tmp 25)⟩,
    ⟨(some 27), none, .mov (.tmp 26)⟩,
    ⟨(some 28), (some (27, false)), .fieldAddr 11 (.tmp 1)⟩,
    ⟨(some 29), (some (27, false)), .load none (.tmp 28)⟩,
    ⟨(some 30), (some (27, false)), .ibin .lss (.tmp 29) (.const (.int .i64 0))⟩,
    ⟨(some 31), none, .pick (.tmp 27) (.const (.bool true)) (.tmp 30)⟩,
    ⟨(some 32), none, .mov (.tmp 31)⟩,
    ⟨(some 33), (some (32, false)), .fieldAddr 12 (.tmp 1)⟩,
    ⟨(some 34), (some (32, false)), .load none (.tmp 33)⟩,
    ⟨(some 35), (some (32, false)), .ibin .gtr (.tmp 34) (.const (.int .i64 65535))⟩,
    ⟨(some 36), none, .pick (.tmp 32) (.const (.bool true)) (.tmp 35)⟩,
    ⟨(some 37), none, .mov (.tmp 36)⟩,
    ⟨(some 38), (some (37, false)), .fieldAddr 11 (.tmp 1)⟩,
    ⟨(some 39), (some (37, false)), .load none (.tmp 38)⟩,
    ⟨(some 40), (some (37, false)), .fieldAddr 12 (.tmp 1)⟩,
    ⟨(some 41), (some (37, false)), .load none (.tmp 40)⟩,
    ⟨(some 42), (some (37, false)), .ibin .gtr (.tmp 39) (.tmp 41)⟩,
    ⟨(some 43), none, .pick (.tmp 37) (.const (.bool true)) (.tmp 42)⟩,
    ⟨(some 44), none, .mov (.tmp 43)⟩,
    ⟨(some 45), (some (44, false)), .fieldAddr 13 (.tmp 1)⟩,
    ⟨(some 46), (some (44, false)), .load none (.tmp 45)⟩,
    ⟨(some 47), (some (44, false)), .ibin .lss (.tmp 46) (.const (.int .i64 0))⟩,
    ⟨(some 48), none, .pick (.tmp 44) (.const (.bool true)) (.tmp 47)⟩,
    ⟨(some 49), none, .mov (.tmp 48)⟩,
    ⟨(some 50), (some (49, false)), .fieldAddr 13 (.tmp 1)⟩,
    ⟨(some 51), (some (49, false)), .load none (.tmp 50)⟩,
    ⟨(some 52), (some (49, false)), .ibin .geq (.tmp 51) (.const (.int .i64 16))⟩,
    ⟨(some 53), none, .pick (.tmp 49) (.const (.bool true)) (.tmp 52)⟩,
    ⟨(some 2), none, .mov (.tmp 53)⟩]

def f20b : ACode := (.seq (.ops f20r0)
  (.keep [1] (.seq (.ops f20r1)
  (.keep [2] .ret))))

def f20 : AFn := ⟨54, [.tmp 2], f20b⟩

theorem f20_ok : compFn Try.prog 20 = some f20.strip := by kernel_rfl

/- function 21: weirhouse/rules.Prune$1; parameters 1; operations that are not compiled: 0 -/
def f21r0 : List AInstr := [
    ⟨(some 2), none, .box (.tmp 0)⟩,
    ⟨(some 3), none, .mov (.const (.bool false))⟩]

def f21r1 : List AInstr := [
    ⟨(some 4), none, .load (some 14) (.tmp 2)⟩,
    ⟨(some 5), none, .load (some 14) (.tmp 1)⟩,
    ⟨(some 6), none, .callF 22 [.tmp 4, .tmp 5]⟩,
    ⟨(some 3), none, .mov (.tmp 6)⟩]

def f21b : ACode := (.seq (.ops f21r0)
  (.keep [1, 2] (.seq (.ops f21r1)
  (.keep [3] .ret))))

def f21 : AFn := ⟨7, [.tmp 3], f21b⟩

theorem f21_ok : compFn Try.prog 21 = some f21.strip := by kernel_rfl

/- function 22: weirhouse/rules.covers; parameters 2; operations that are not compiled: 0 -/
def f22r0 : List AInstr := [
    ⟨(some 2), none, .box (.tmp 0)⟩,
    ⟨(some 3), none, .box (.tmp 1)⟩,
    ⟨(some 4), none, .mov (.const (.bool false))⟩]

def f22r1 : List AInstr := [
    ⟨(some 5), none, .mov (.const (.func (.func 25) #[] #[]))⟩]

def f22r2 : List AInstr := [
    ⟨(some 6), none, .mov (.tmp 5)⟩,
    ⟨(some 7), none, .fieldAddr 0 (.tmp 2)⟩,
    ⟨(some 8), none, .load (some 4) (.tmp 7)⟩,
    ⟨(some 9), none, .fieldAddr 8 (.tmp 2)⟩,
    ⟨(some 10), none, .load none (.tmp 9)⟩,
    ⟨(some 11), none, .fieldAddr 0 (.tmp 3)⟩,
    ⟨(some 12), none, .load (some 4) (.tmp 11)⟩,
    ⟨(some 13), none, .fieldAddr 8 (.tmp 3)⟩,
    ⟨(some 14), none, .load none (.tmp 13)⟩,
    ⟨(some 15), none, .callV (.tmp 6) [.tmp 8, .tmp 10, .tmp 12, .tmp 14]⟩,
    ⟨(some 16), none, .mov (.tmp 15)⟩,
    ⟨(some 17), (some (16, true)), .mov (.tmp 5)⟩,
    ⟨(some 18), (some (16, true)), .fieldAddr 4 (.tmp 2)⟩,
    ⟨(some 19), (some (16, true)), .load (some 4) (.tmp 18)⟩,
    ⟨(some 20), (some (16, true)), .fieldAddr 9 (.tmp 2)⟩,
    ⟨(some 21), (some (16, true)), .load none (.tmp 20)⟩,
    ⟨(some 22), (some (16, true)), .fieldAddr 4 (.tmp 3)⟩,
    ⟨(some 23), (some (16, true)), .load (some 4) (.tmp 22)⟩,
    ⟨(some 24), (some (16, true)), .fieldAddr 9 (.tmp 3)⟩,
    ⟨(some 25), (some (16, true)), .load none (.tmp 24)⟩,
    ⟨(some 26), (some (16, true)), .callV (.tmp 17) [.tmp 19, .tmp 21, .tmp 23, .tmp 25]⟩,
    ⟨(some 27), none, .pick (.tmp 16) (.tmp 26) (.const (.bool false))⟩,
    ⟨(some 28), none, .mov (.tmp 27)⟩,
    ⟨(some 29), (some (28, true)), .fieldAddr 10 (.tmp 2)⟩,
    ⟨(some 30), (some (28, true)), .load none (.tmp 29)⟩,
    ⟨(some 31), (some (28, true)), .ibin .eql (.tmp 30) (.const (.int .i64 0))⟩,
    ⟨(some 32), (some (28, true)), .mov (.tmp 31)⟩,
    ⟨(some 33), (some (32, false)), .fieldAddr 10 (.tmp 2)⟩,
    ⟨(some 34), (some (32, false)), .load none (.tmp 33)⟩,
    ⟨(some 35), (some (32, false)), .fieldAddr 10 (.tmp 3)⟩,
    ⟨(some 36), (some (32, false)), .load none (.tmp 35)⟩,
    ⟨(some 37), (some (32, false)), .ibin .eql (.tmp 34) (.tmp 36)⟩,
    ⟨(some 38), (some (28, true)), .pick (.tmp 32) (.const (.bool true)) (.tmp 37)⟩,
    ⟨(some 39), none, .pick (.tmp 28) (.tmp 38) (.const (.bool false))⟩,
    ⟨(some 40), none, .mov (.tmp 39)⟩,
    ⟨(some 41), (some (40, true)), .fieldAddr 11 (.tmp 2)⟩,
    ⟨(some 42), (some (40, true)), .load none (.tmp 41)⟩,
    ⟨(some 43), (some (40, true)), .fieldAddr 11 (.tmp 3)⟩,
    ⟨(some 44), (some (40, true)), .load none (.tmp 43)⟩,
    ⟨(some 45), (some (40, true)), .ibin .leq (.tmp 42) (.tmp 44)⟩,
    ⟨(some 46), none, .pick (.tmp 40) (.tmp 45) (.const (.bool false))⟩,
    ⟨(some 47), none, .mov (.tmp 46)⟩,
    ⟨(some 48), (some (47, true)), .fieldAddr 12 (.tmp 2)⟩,
    ⟨(some 49), (some (47, true)), .load none (.tmp 48)⟩,
    ⟨(some 50), (some (47, true)), .fieldAddr 12 (.tmp 3)⟩,
    ⟨(some 51), (some (47, true)), .load none (.tmp 50)⟩,
    ⟨(some 52), (some (47, true)), .ibin .geq (.tmp 49) (.tmp 51)⟩,
    ⟨(some 53), none, .pick (.tmp 47) (.tmp 52) (.const (.bool false))⟩,
    ⟨(some 4), none, .mov (.tmp 53)⟩]

def f22b : ACode := (.seq (.ops f22r0)
  (.keep [2, 3] (.seq (.ops f22r1)
  (.keep [2, 3, 5] (.seq (.ops f22r2)
  (.keep [4] .ret))))))

def f22 : AFn := ⟨54, [.tmp 4], f22b⟩

theorem f22_ok : compFn Try.prog 22 = some f22.strip := by kernel_rfl

/- function 23: slices.Grow[[]weirhouse/api.Rule,weirhouse/api.Rule]; parameters 2; operations that are not compiled: 2 -/
def f23r0 : List AInstr := [
    ⟨(some 4), none, .mov (.const (.slice none 0 0))⟩]

def f23r1 : List AInstr := [
    ⟨(some 5), none, .mov (.tmp 1)⟩,
    ⟨(some 6), none, .ibin .lss (.tmp 5) (.const (.int .i64 0))⟩]

def f23r2 : List AInstr := [
    ⟨(some 7), none, .bad⟩,
    ⟨none, none, .bad⟩]

def f23r3 : List AInstr := [
    ⟨(some 8), none, .mov (.tmp 1)⟩,
    ⟨(some 9), none, .mov (.tmp 0)⟩,
    ⟨(some 10), none, .cap (.tmp 9)⟩,
    ⟨(some 11), none, .mov (.tmp 0)⟩,
    ⟨(some 12), none, .len (.tmp 11)⟩,
    ⟨(some 13), none, .ibin .sub (.tmp 10) (.tmp 12)⟩,
    ⟨(some 14), none, .ibin .sub (.tmp 8) (.tmp 13)⟩,
    ⟨(some 1), none, .mov (.tmp 14)⟩]

def f23r4 : List AInstr := [
    ⟨(some 15), none, .mov (.tmp 1)⟩,
    ⟨(some 16), none, .ibin .gtr (.tmp 15) (.const (.int .i64 0))⟩]

def f23r5 : List AInstr := [
    ⟨(some 17), none, .mov (.tmp 0)⟩,
    ⟨(some 18), none, .mov (.tmp 0)⟩,
    ⟨(some 19), none, .cap (.tmp 18)⟩,
    ⟨(some 20), none, .slice 14 (.tmp 17) none (some (.tmp 19)) none⟩,
    ⟨(some 21), none, .mov (.tmp 1)⟩,
    ⟨(some 22), none, .appendZ 14 56 [.int .u8 0, .int .u8 0, .int .u8 0, .int .u8 0, .int .u8 0, .int .u8 0, .int .u8 0, .int .u8 0, .int .i64 0, .int .i64 0, .int .i64 0, .int .i64 0, .int .i64 0, .int .i64 0] (.tmp 20) (.tmp 21)⟩,
    ⟨(some 23), none, .mov (.tmp 0)⟩,
    ⟨(some 24), none, .len (.tmp 23)⟩,
    ⟨(some 25), none, .slice 14 (.tmp 22) none (some (.tmp 24)) none⟩,
    ⟨(some 0), none, .mov (.tmp 25)⟩]

def f23r6 : List AInstr := [
    ⟨(some 26), none, .mov (.tmp 0)⟩,
    ⟨(some 4), none, .mov (.tmp 26)⟩]

def f23b : ACode := (.seq (.ops f23r0)
  (.keep [0, 1] (.seq (.seq (.ops f23r1)
  (.keep [0, 1, 6] (.cond (.tmp 6) (.keep [0, 1] (.ops f23r2)) .skip)))
  (.keep [0, 1] (.seq (.seq (.ops f23r3)
  (.keep [0, 1] (.seq (.ops f23r4)
  (.keep [0, 1, 16] (.cond (.tmp 16) (.keep [0, 1] (.ops f23r5)) .skip)))))
  (.keep [0] (.seq (.ops f23r6)
  (.keep [4] .ret))))))))

def f23 : AFn := ⟨27, [.tmp 4], f23b⟩

theorem f23_ok : compFn Try.prog 23 = some f23.strip := by kernel_rfl

/- function 24: weirhouse/trie.bit; parameters 2; operations that are not compiled: 0 -/
def f24r0 : List AInstr := [
    ⟨(some 2), none, .box (.tmp 0)⟩,
    ⟨(some 4), none, .mov (.const (.int .u8 0))⟩]

def f24r1 : List AInstr := [
    ⟨(some 5), none, .mov (.tmp 1)⟩,
    ⟨(some 6), none, .ibin .quo (.tmp 5) (.const (.int .i64 8))⟩,
    ⟨(some 7), none, .indexArr 1 4 (.tmp 2) (.tmp 6)⟩,
    ⟨(some 8), none, .load none (.tmp 7)⟩,
    ⟨(some 9), none, .mov (.tmp 1)⟩,
    ⟨(some 10), none, .ibin .rem (.tmp 9) (.const (.int .i64 8))⟩,
    ⟨(some 11), none, .ibin .sub (.const (.int .i64 7)) (.tmp 10)⟩,
    ⟨(some 12), none, .ibin .shr (.tmp 8) (.tmp 11)⟩,
    ⟨(some 13), none, .ibin .and (.tmp 12) (.const (.int .u8 1))⟩,
    ⟨(some 4), none, .mov (.tmp 13)⟩]

def f24b : ACode := (.seq (.ops f24r0)
  (.keep [1, 2] (.seq (.ops f24r1)
  (.keep [4] .ret))))

def f24 : AFn := ⟨14, [.tmp 4], f24b⟩

theorem f24_ok : compFn Try.prog 24 = some f24.strip := by kernel_rfl

/- function 25: weirhouse/rules.covers$1; parameters 4; operations that are not compiled: 0 -/
def f25r0 : List AInstr := [
    ⟨(some 4), none, .box (.tmp 0)⟩,
    ⟨(some 6), none, .box (.tmp 2)⟩,
    ⟨(some 8), none, .mov (.const (.bool false))⟩]

def f25r1 : List AInstr := [
    ⟨(some 9), none, .mov (.tmp 1)⟩,
    ⟨(some 10), none, .mov (.tmp 3)⟩,
    ⟨(some 11), none, .ibin .leq (.tmp 9) (.tmp 10)⟩,
    ⟨(some 12), none, .mov (.tmp 11)⟩,
    ⟨(some 13), (some (12, true)), .load (some 4) (.tmp 6)⟩,
    ⟨(some 14), (some (12, true)), .load (some 4) (.tmp 4)⟩,
    ⟨(some 15), (some (12, true)), .mov (.tmp 1)⟩,
    ⟨(some 16), (some (12, true)), .build [.int .u8 0, .int .u8 0, .int .u8 0, .int .u8 0, .int .i64 0, .int .i64 0] [(0, 4, (.tmp 14)), (4, 1, (.tmp 15))]⟩,
    ⟨(some 17), (some (12, true)), .callF 17 [.tmp 13, .tmp 16]⟩,
    ⟨(some 18), none, .pick (.tmp 12) (.tmp 17) (.const (.bool false))⟩,
    ⟨(some 8), none, .mov (.tmp 18)⟩]

def f25b : ACode := (.seq (.ops f25r0)
  (.keep [1, 3, 4, 6] (.seq (.ops f25r1)
  (.keep [8] .ret))))

def f25 : AFn := ⟨19, [.tmp 8], f25b⟩

theorem f25_ok : compFn Try.prog 25 = some f25.strip := by kernel_rfl

end Go.Proofs.Ytgianafoiegdmaa
