/-
  The functions of this seat as abstract code. Printed by a program of this claim's writer.
-/
import Derived.Test.YtandagipamhmgaaChecked
import Derived.Test.YtandagipamhmgaaAmS
import Derived.KernelRfl
namespace Go.Proofs.Ytandagipamhmgaa
open Go Go.Am

/- function 3: weirhouse/weirhousekeep.FracRound; parameters 1; operations that are not compiled: 0 -/
def f3r0 : List AInstr := [
    ⟨(some 1), none, .box (.tmp 0)⟩,
    ⟨(some 2), none, .mov (.const (.bool false))⟩]

def f3r1 : List AInstr := [
    ⟨(some 7), none, .callF 7 []⟩,
    ⟨(some 8), none, .un .not (.tmp 7)⟩]

def f3r2 : List AInstr := [
    ⟨(some 2), none, .mov (.const (.bool false))⟩]

def f3r3 : List AInstr := [
    ⟨(some 10), none, .load (some 2) (.tmp 1)⟩,
    ⟨(some 11), none, .callF 8 [.tmp 10]⟩,
    ⟨(some 9), none, .mov (.tmp 11)⟩,
    ⟨(some 12), none, .extract 0 (.tmp 9)⟩,
    ⟨(some 13), none, .extract 1 (.tmp 9)⟩,
    ⟨(some 3), none, .mov (.tmp 12)⟩,
    ⟨(some 4), none, .mov (.tmp 13)⟩]

def f3r4 : List AInstr := [
    ⟨(some 15), none, .load (some 2) (.tmp 1)⟩,
    ⟨(some 16), none, .callF 9 [.tmp 15]⟩,
    ⟨(some 14), none, .mov (.tmp 16)⟩,
    ⟨(some 17), none, .extract 0 (.tmp 14)⟩,
    ⟨(some 18), none, .extract 1 (.tmp 14)⟩,
    ⟨(some 5), none, .mov (.tmp 17)⟩,
    ⟨(some 6), none, .mov (.tmp 18)⟩]

def f3r5 : List AInstr := [
    ⟨(some 19), none, .mov (.tmp 4)⟩,
    ⟨(some 20), none, .ibin .neq (.tmp 19) (.const (.int .i64 0))⟩]

def f3r6 : List AInstr := [
    ⟨(some 21), none, .mov (.tmp 4)⟩,
    ⟨(some 22), none, .mov (.tmp 6)⟩,
    ⟨(some 23), none, .ibin .eql (.tmp 21) (.tmp 22)⟩,
    ⟨(some 2), none, .mov (.tmp 23)⟩]

def f3r7 : List AInstr := [
    ⟨(some 24), none, .mov (.tmp 6)⟩,
    ⟨(some 25), none, .ibin .eql (.tmp 24) (.const (.int .i64 0))⟩,
    ⟨(some 26), none, .mov (.tmp 25)⟩,
    ⟨(some 27), (some (26, true)), .mov (.tmp 3)⟩,
    ⟨(some 28), (some (26, true)), .fieldAddr 1 (.tmp 1)⟩,
    ⟨(some 29), (some (26, true)), .load none (.tmp 28)⟩,
    ⟨(some 30), (some (26, true)), .ibin .mul (.tmp 27) (.tmp 29)⟩,
    ⟨(some 31), (some (26, true)), .fieldAddr 0 (.tmp 1)⟩,
    ⟨(some 32), (some (26, true)), .load none (.tmp 31)⟩,
    ⟨(some 33), (some (26, true)), .ibin .leq (.tmp 30) (.tmp 32)⟩,
    ⟨(some 34), none, .pick (.tmp 26) (.tmp 33) (.const (.bool false))⟩,
    ⟨(some 35), none, .mov (.tmp 34)⟩,
    ⟨(some 36), (some (35, true)), .fieldAddr 0 (.tmp 1)⟩,
    ⟨(some 37), (some (35, true)), .load none (.tmp 36)⟩,
    ⟨(some 38), (some (35, true)), .mov (.tmp 3)⟩,
    ⟨(some 39), (some (35, true)), .ibin .add (.tmp 38) (.const (.int .i64 1))⟩,
    ⟨(some 40), (some (35, true)), .fieldAddr 1 (.tmp 1)⟩,
    ⟨(some 41), (some (35, true)), .load none (.tmp 40)⟩,
    ⟨(some 42), (some (35, true)), .ibin .mul (.tmp 39) (.tmp 41)⟩,
    ⟨(some 43), (some (35, true)), .ibin .lss (.tmp 37) (.tmp 42)⟩,
    ⟨(some 44), none, .pick (.tmp 35) (.tmp 43) (.const (.bool false))⟩,
    ⟨(some 45), none, .mov (.tmp 44)⟩,
    ⟨(some 46), (some (45, true)), .mov (.tmp 5)⟩,
    ⟨(some 47), (some (45, true)), .fieldAddr 1 (.tmp 1)⟩,
    ⟨(some 48), (some (45, true)), .load none (.tmp 47)⟩,
    ⟨(some 49), (some (45, true)), .ibin .mul (.tmp 46) (.tmp 48)⟩,
    ⟨(some 50), (some (45, true)), .fieldAddr 0 (.tmp 1)⟩,
    ⟨(some 51), (some (45, true)), .load none (.tmp 50)⟩,
    ⟨(some 52), (some (45, true)), .ibin .geq (.tmp 49) (.tmp 51)⟩,
    ⟨(some 53), none, .pick (.tmp 45) (.tmp 52) (.const (.bool false))⟩,
    ⟨(some 54), none, .mov (.tmp 53)⟩,
    ⟨(some 55), (some (54, true)), .mov (.tmp 5)⟩,
    ⟨(some 56), (some (54, true)), .mov (.tmp 3)⟩,
    ⟨(some 57), (some (54, true)), .ibin .sub (.tmp 55) (.tmp 56)⟩,
    ⟨(some 58), (some (54, true)), .ibin .leq (.tmp 57) (.const (.int .i64 1))⟩,
    ⟨(some 59), none, .pick (.tmp 54) (.tmp 58) (.const (.bool false))⟩,
    ⟨(some 60), none, .mov (.tmp 59)⟩,
    ⟨(some 61), (some (60, true)), .mov (.tmp 5)⟩,
    ⟨(some 62), (some (60, true)), .mov (.tmp 3)⟩,
    ⟨(some 63), (some (60, true)), .ibin .eql (.tmp 61) (.tmp 62)⟩,
    ⟨(some 64), (some (60, true)), .fieldAddr 0 (.tmp 1)⟩,
    ⟨(some 65), (some (60, true)), .load none (.tmp 64)⟩,
    ⟨(some 66), (some (60, true)), .fieldAddr 1 (.tmp 1)⟩,
    ⟨(some 67), (some (60, true)), .load none (.tmp 66)⟩,
    ⟨(some 68), (some (60, true)), .ibin .rem (.tmp 65) (.tmp 67)⟩,
    ⟨(some 69), (some (60, true)), .ibin .eql (.tmp 68) (.const (.int .i64 0))⟩,
    ⟨(some 70), (some (60, true)), .eqB false (.tmp 63) (.tmp 69)⟩,
    ⟨(some 71), none, .pick (.tmp 60) (.tmp 70) (.const (.bool false))⟩,
    ⟨(some 2), none, .mov (.tmp 71)⟩]

def f3b : ACode := (.seq (.ops f3r0)
  (.keep [1] (.seq (.seq (.ops f3r1)
  (.keep [1, 8] (.cond (.tmp 8) (.keep [] (.seq (.ops f3r2)
  (.keep [2] .ret))) .skip)))
  (.keep [1] (.seq (.ops f3r3)
  (.keep [1, 3, 4] (.seq (.ops f3r4)
  (.keep [1, 3, 4, 5, 6] (.seq (.seq (.ops f3r5)
  (.keep [1, 3, 4, 5, 6, 20] (.cond (.tmp 20) (.keep [4, 6] (.seq (.ops f3r6)
  (.keep [2] .ret))) .skip)))
  (.keep [1, 3, 5, 6] (.seq (.ops f3r7)
  (.keep [2] .ret))))))))))))

def f3 : AFn := ⟨72, [.tmp 2], f3b⟩

theorem f3_ok : compFn Try.prog 3 = some f3.strip := by kernel_rfl

/- function 4: weirhouse/weirhousekeep.FracRoot; parameters 2; operations that are not compiled: 0 -/
def f4r0 : List AInstr := [
    ⟨(some 4), none, .mov (.const (.bool false))⟩]

def f4r1 : List AInstr := [
    ⟨(some 6), none, .callF 7 []⟩,
    ⟨(some 7), none, .un .not (.tmp 6)⟩]

def f4r2 : List AInstr := [
    ⟨(some 4), none, .mov (.const (.bool false))⟩]

def f4r3 : List AInstr := [
    ⟨(some 8), none, .mov (.tmp 0)⟩,
    ⟨(some 9), none, .callF 10 [.tmp 8]⟩,
    ⟨(some 5), none, .mov (.tmp 9)⟩]

def f4r4 : List AInstr := [
    ⟨(some 10), none, .mov (.tmp 5)⟩,
    ⟨(some 11), none, .ibin .geq (.tmp 10) (.const (.int .u64 4294967296))⟩,
    ⟨(some 12), none, .mov (.tmp 11)⟩,
    ⟨(some 13), (some (12, false)), .mov (.tmp 5)⟩,
    ⟨(some 14), (some (12, false)), .mov (.tmp 5)⟩,
    ⟨(some 15), (some (12, false)), .ibin .mul (.tmp 13) (.tmp 14)⟩,
    ⟨(some 16), (some (12, false)), .mov (.tmp 0)⟩,
    ⟨(some 17), (some (12, false)), .ibin .gtr (.tmp 15) (.tmp 16)⟩,
    ⟨(some 18), none, .pick (.tmp 12) (.const (.bool true)) (.tmp 17)⟩,
    ⟨(some 19), none, .mov (.tmp 18)⟩,
    ⟨(some 20), (some (19, false)), .mov (.tmp 5)⟩,
    ⟨(some 21), (some (19, false)), .ibin .add (.tmp 20) (.const (.int .u64 1))⟩,
    ⟨(some 22), (some (19, false)), .ibin .lss (.tmp 21) (.const (.int .u64 4294967296))⟩,
    ⟨(some 23), (some (19, false)), .mov (.tmp 22)⟩,
    ⟨(some 24), (some (23, true)), .mov (.tmp 5)⟩,
    ⟨(some 25), (some (23, true)), .ibin .add (.tmp 24) (.const (.int .u64 1))⟩,
    ⟨(some 26), (some (23, true)), .mov (.tmp 5)⟩,
    ⟨(some 27), (some (23, true)), .ibin .add (.tmp 26) (.const (.int .u64 1))⟩,
    ⟨(some 28), (some (23, true)), .ibin .mul (.tmp 25) (.tmp 27)⟩,
    ⟨(some 29), (some (23, true)), .mov (.tmp 0)⟩,
    ⟨(some 30), (some (23, true)), .ibin .leq (.tmp 28) (.tmp 29)⟩,
    ⟨(some 31), (some (19, false)), .pick (.tmp 23) (.tmp 30) (.const (.bool false))⟩,
    ⟨(some 32), none, .pick (.tmp 19) (.const (.bool true)) (.tmp 31)⟩]

def f4r5 : List AInstr := [
    ⟨(some 4), none, .mov (.const (.bool false))⟩]

def f4r6 : List AInstr := [
    ⟨(some 33), none, .mov (.tmp 0)⟩,
    ⟨(some 34), none, .mov (.tmp 1)⟩,
    ⟨(some 35), none, .ibin .add (.tmp 33) (.tmp 34)⟩,
    ⟨(some 36), none, .mov (.tmp 0)⟩,
    ⟨(some 37), none, .ibin .lss (.tmp 35) (.tmp 36)⟩,
    ⟨(some 38), none, .mov (.tmp 37)⟩,
    ⟨(some 39), (some (38, false)), .mov (.tmp 0)⟩,
    ⟨(some 40), (some (38, false)), .mov (.tmp 1)⟩,
    ⟨(some 41), (some (38, false)), .ibin .add (.tmp 39) (.tmp 40)⟩,
    ⟨(some 42), (some (38, false)), .callF 10 [.tmp 41]⟩,
    ⟨(some 43), (some (38, false)), .mov (.tmp 5)⟩,
    ⟨(some 44), (some (38, false)), .ibin .geq (.tmp 42) (.tmp 43)⟩,
    ⟨(some 45), none, .pick (.tmp 38) (.const (.bool true)) (.tmp 44)⟩,
    ⟨(some 4), none, .mov (.tmp 45)⟩]

def f4b : ACode := (.seq (.ops f4r0)
  (.keep [0, 1] (.seq (.seq (.ops f4r1)
  (.keep [0, 1, 7] (.cond (.tmp 7) (.keep [] (.seq (.ops f4r2)
  (.keep [4] .ret))) .skip)))
  (.keep [0, 1] (.seq (.ops f4r3)
  (.keep [0, 1, 5] (.seq (.seq (.ops f4r4)
  (.keep [0, 1, 5, 32] (.cond (.tmp 32) (.keep [] (.seq (.ops f4r5)
  (.keep [4] .ret))) .skip)))
  (.keep [0, 1, 5] (.seq (.ops f4r6)
  (.keep [4] .ret))))))))))

def f4 : AFn := ⟨46, [.tmp 4], f4b⟩

theorem f4_ok : compFn Try.prog 4 = some f4.strip := by kernel_rfl

/- function 5: weirhouse/weirhousekeep.FracField; parameters 3; operations that are not compiled: 0 -/
def f5r0 : List AInstr := [
    ⟨(some 3), none, .box (.tmp 0)⟩,
    ⟨(some 4), none, .box (.tmp 1)⟩,
    ⟨(some 5), none, .box (.tmp 2)⟩,
    ⟨(some 6), none, .mov (.const (.bool false))⟩]

def f5r1 : List AInstr := [
    ⟨(some 21), none, .callF 7 []⟩,
    ⟨(some 22), none, .un .not (.tmp 21)⟩]

def f5r2 : List AInstr := [
    ⟨(some 6), none, .mov (.const (.bool false))⟩]

def f5r3 : List AInstr := [
    ⟨(some 23), none, .fieldAddr 0 (.tmp 3)⟩,
    ⟨(some 24), none, .load none (.tmp 23)⟩,
    ⟨(some 25), none, .fieldAddr 0 (.tmp 4)⟩,
    ⟨(some 26), none, .load none (.tmp 25)⟩,
    ⟨(some 27), none, .fieldAddr 0 (.tmp 5)⟩,
    ⟨(some 28), none, .load none (.tmp 27)⟩,
    ⟨(some 29), none, .fieldAddr 1 (.tmp 3)⟩,
    ⟨(some 30), none, .load none (.tmp 29)⟩,
    ⟨(some 31), none, .fieldAddr 1 (.tmp 4)⟩,
    ⟨(some 32), none, .load none (.tmp 31)⟩,
    ⟨(some 33), none, .fieldAddr 1 (.tmp 5)⟩,
    ⟨(some 34), none, .load none (.tmp 33)⟩,
    ⟨(some 35), none, .minmax true [.tmp 24, .tmp 26, .tmp 28, .tmp 30, .tmp 32, .tmp 34]⟩,
    ⟨(some 36), none, .ibin .gtr (.tmp 35) (.const (.int .i64 60))⟩,
    ⟨(some 37), none, .mov (.tmp 36)⟩,
    ⟨(some 38), (some (37, false)), .fieldAddr 0 (.tmp 3)⟩,
    ⟨(some 39), (some (37, false)), .load none (.tmp 38)⟩,
    ⟨(some 40), (some (37, false)), .fieldAddr 0 (.tmp 4)⟩,
    ⟨(some 41), (some (37, false)), .load none (.tmp 40)⟩,
    ⟨(some 42), (some (37, false)), .fieldAddr 0 (.tmp 5)⟩,
    ⟨(some 43), (some (37, false)), .load none (.tmp 42)⟩,
    ⟨(some 44), (some (37, false)), .minmax false [.tmp 39, .tmp 41, .tmp 43]⟩,
    ⟨(some 45), (some (37, false)), .ibin .lss (.tmp 44) (.const (.int .i64 (-60)))⟩,
    ⟨(some 46), none, .pick (.tmp 37) (.const (.bool true)) (.tmp 45)⟩,
    ⟨(some 47), none, .mov (.tmp 46)⟩,
    ⟨(some 48), (some (47, false)), .load (some 2) (.tmp 3)⟩,
    ⟨(some 49), (some (47, false)), .callF 11 [.tmp 48]⟩,
    ⟨(some 50), (some (47, false)), .un .not (.tmp 49)⟩,
    ⟨(some 51), none, .pick (.tmp 47) (.const (.bool true)) (.tmp 50)⟩,
    ⟨(some 52), none, .mov (.tmp 51)⟩,
    ⟨(some 53), (some (52, false)), .load (some 2) (.tmp 4)⟩,
    ⟨(some 54), (some (52, false)), .callF 11 [.tmp 53]⟩,
    ⟨(some 55), (some (52, false)), .un .not (.tmp 54)⟩,
    ⟨(some 56), none, .pick (.tmp 52) (.const (.bool true)) (.tmp 55)⟩,
    ⟨(some 57), none, .mov (.tmp 56)⟩,
    ⟨(some 58), (some (57, false)), .load (some 2) (.tmp 5)⟩,
    ⟨(some 59), (some (57, false)), .callF 11 [.tmp 58]⟩,
    ⟨(some 60), (some (57, false)), .un .not (.tmp 59)⟩,
    ⟨(some 61), none, .pick (.tmp 57) (.const (.bool true)) (.tmp 60)⟩]

def f5r4 : List AInstr := [
    ⟨(some 6), none, .mov (.const (.bool true))⟩]

def f5r5 : List AInstr := [
    ⟨(some 63), none, .load (some 2) (.tmp 3)⟩,
    ⟨(some 64), none, .load (some 2) (.tmp 4)⟩,
    ⟨(some 65), none, .callF 12 [.tmp 63, .tmp 64]⟩,
    ⟨(some 62), none, .mov (.tmp 65)⟩,
    ⟨(some 66), none, .extract 0 (.tmp 62)⟩,
    ⟨(some 67), none, .extract 1 (.tmp 62)⟩,
    ⟨(some 7), none, .alloc [.int .i64 0, .int .i64 0]⟩,
    ⟨none, none, .store 2 (.tmp 7) (.tmp 66)⟩,
    ⟨(some 8), none, .mov (.tmp 67)⟩]

def f5r6 : List AInstr := [
    ⟨(some 69), none, .load (some 2) (.tmp 4)⟩,
    ⟨(some 70), none, .load (some 2) (.tmp 3)⟩,
    ⟨(some 71), none, .callF 12 [.tmp 69, .tmp 70]⟩,
    ⟨(some 68), none, .mov (.tmp 71)⟩,
    ⟨(some 72), none, .extract 0 (.tmp 68)⟩,
    ⟨(some 73), none, .extract 1 (.tmp 68)⟩,
    ⟨(some 9), none, .alloc [.int .i64 0, .int .i64 0]⟩,
    ⟨none, none, .store 2 (.tmp 9) (.tmp 72)⟩,
    ⟨(some 10), none, .mov (.tmp 73)⟩]

def f5r7 : List AInstr := [
    ⟨(some 75), none, .load (some 2) (.tmp 7)⟩,
    ⟨(some 76), none, .load (some 2) (.tmp 5)⟩,
    ⟨(some 77), none, .callF 13 [.tmp 75, .tmp 76]⟩,
    ⟨(some 74), none, .mov (.tmp 77)⟩,
    ⟨(some 78), none, .extract 0 (.tmp 74)⟩,
    ⟨(some 79), none, .extract 1 (.tmp 74)⟩,
    ⟨(some 11), none, .alloc [.int .i64 0, .int .i64 0]⟩,
    ⟨none, none, .store 2 (.tmp 11) (.tmp 78)⟩,
    ⟨(some 12), none, .mov (.tmp 79)⟩]

def f5r8 : List AInstr := [
    ⟨(some 81), none, .load (some 2) (.tmp 3)⟩,
    ⟨(some 82), none, .load (some 2) (.tmp 5)⟩,
    ⟨(some 83), none, .callF 13 [.tmp 81, .tmp 82]⟩,
    ⟨(some 80), none, .mov (.tmp 83)⟩,
    ⟨(some 84), none, .extract 0 (.tmp 80)⟩,
    ⟨(some 85), none, .extract 1 (.tmp 80)⟩,
    ⟨(some 13), none, .alloc [.int .i64 0, .int .i64 0]⟩,
    ⟨none, none, .store 2 (.tmp 13) (.tmp 84)⟩,
    ⟨(some 14), none, .mov (.tmp 85)⟩]

def f5r9 : List AInstr := [
    ⟨(some 87), none, .load (some 2) (.tmp 4)⟩,
    ⟨(some 88), none, .load (some 2) (.tmp 5)⟩,
    ⟨(some 89), none, .callF 13 [.tmp 87, .tmp 88]⟩,
    ⟨(some 86), none, .mov (.tmp 89)⟩,
    ⟨(some 90), none, .extract 0 (.tmp 86)⟩,
    ⟨(some 91), none, .extract 1 (.tmp 86)⟩,
    ⟨(some 15), none, .alloc [.int .i64 0, .int .i64 0]⟩,
    ⟨none, none, .store 2 (.tmp 15) (.tmp 90)⟩,
    ⟨(some 16), none, .mov (.tmp 91)⟩]

def f5r10 : List AInstr := [
    ⟨(some 93), none, .load (some 2) (.tmp 13)⟩,
    ⟨(some 94), none, .load (some 2) (.tmp 15)⟩,
    ⟨(some 95), none, .callF 12 [.tmp 93, .tmp 94]⟩,
    ⟨(some 92), none, .mov (.tmp 95)⟩,
    ⟨(some 96), none, .extract 0 (.tmp 92)⟩,
    ⟨(some 97), none, .extract 1 (.tmp 92)⟩,
    ⟨(some 17), none, .alloc [.int .i64 0, .int .i64 0]⟩,
    ⟨none, none, .store 2 (.tmp 17) (.tmp 96)⟩,
    ⟨(some 18), none, .mov (.tmp 97)⟩]

def f5r11 : List AInstr := [
    ⟨(some 99), none, .load (some 2) (.tmp 5)⟩,
    ⟨(some 100), none, .load (some 2) (.tmp 3)⟩,
    ⟨(some 101), none, .callF 13 [.tmp 99, .tmp 100]⟩,
    ⟨(some 98), none, .mov (.tmp 101)⟩,
    ⟨(some 102), none, .extract 0 (.tmp 98)⟩,
    ⟨(some 103), none, .extract 1 (.tmp 98)⟩,
    ⟨(some 19), none, .alloc [.int .i64 0, .int .i64 0]⟩,
    ⟨none, none, .store 2 (.tmp 19) (.tmp 102)⟩,
    ⟨(some 20), none, .mov (.tmp 103)⟩]

def f5r12 : List AInstr := [
    ⟨(some 104), none, .mov (.tmp 8)⟩,
    ⟨(some 105), none, .ibin .eql (.tmp 104) (.const (.int .i64 0))⟩,
    ⟨(some 106), none, .mov (.tmp 105)⟩,
    ⟨(some 107), (some (106, true)), .mov (.tmp 10)⟩,
    ⟨(some 108), (some (106, true)), .ibin .eql (.tmp 107) (.const (.int .i64 0))⟩,
    ⟨(some 109), none, .pick (.tmp 106) (.tmp 108) (.const (.bool false))⟩,
    ⟨(some 110), none, .mov (.tmp 109)⟩,
    ⟨(some 111), (some (110, true)), .mov (.tmp 12)⟩,
    ⟨(some 112), (some (110, true)), .ibin .eql (.tmp 111) (.const (.int .i64 0))⟩,
    ⟨(some 113), none, .pick (.tmp 110) (.tmp 112) (.const (.bool false))⟩,
    ⟨(some 114), none, .mov (.tmp 113)⟩,
    ⟨(some 115), (some (114, true)), .mov (.tmp 14)⟩,
    ⟨(some 116), (some (114, true)), .ibin .eql (.tmp 115) (.const (.int .i64 0))⟩,
    ⟨(some 117), none, .pick (.tmp 114) (.tmp 116) (.const (.bool false))⟩,
    ⟨(some 118), none, .mov (.tmp 117)⟩,
    ⟨(some 119), (some (118, true)), .mov (.tmp 16)⟩,
    ⟨(some 120), (some (118, true)), .ibin .eql (.tmp 119) (.const (.int .i64 0))⟩,
    ⟨(some 121), none, .pick (.tmp 118) (.tmp 120) (.const (.bool false))⟩,
    ⟨(some 122), none, .mov (.tmp 121)⟩,
    ⟨(some 123), (some (122, true)), .mov (.tmp 18)⟩,
    ⟨(some 124), (some (122, true)), .ibin .eql (.tmp 123) (.const (.int .i64 0))⟩,
    ⟨(some 125), none, .pick (.tmp 122) (.tmp 124) (.const (.bool false))⟩,
    ⟨(some 126), none, .mov (.tmp 125)⟩,
    ⟨(some 127), (some (126, true)), .mov (.tmp 20)⟩,
    ⟨(some 128), (some (126, true)), .ibin .eql (.tmp 127) (.const (.int .i64 0))⟩,
    ⟨(some 129), none, .pick (.tmp 126) (.tmp 128) (.const (.bool false))⟩,
    ⟨(some 130), none, .mov (.tmp 129)⟩,
    ⟨(some 131), (some (130, true)), .load (some 2) (.tmp 7)⟩,
    ⟨(some 132), (some (130, true)), .load (some 2) (.tmp 9)⟩,
    ⟨(some 133), (some (130, true)), .eqA false [false, false] (.tmp 131) (.tmp 132)⟩,
    ⟨(some 134), none, .pick (.tmp 130) (.tmp 133) (.const (.bool false))⟩,
    ⟨(some 135), none, .mov (.tmp 134)⟩,
    ⟨(some 136), (some (135, true)), .load (some 2) (.tmp 11)⟩,
    ⟨(some 137), (some (135, true)), .load (some 2) (.tmp 17)⟩,
    ⟨(some 138), (some (135, true)), .eqA false [false, false] (.tmp 136) (.tmp 137)⟩,
    ⟨(some 139), none, .pick (.tmp 135) (.tmp 138) (.const (.bool false))⟩,
    ⟨(some 140), none, .mov (.tmp 139)⟩,
    ⟨(some 141), (some (140, true)), .load (some 2) (.tmp 19)⟩,
    ⟨(some 142), (some (140, true)), .load (some 2) (.tmp 13)⟩,
    ⟨(some 143), (some (140, true)), .eqA false [false, false] (.tmp 141) (.tmp 142)⟩,
    ⟨(some 144), none, .pick (.tmp 140) (.tmp 143) (.const (.bool false))⟩,
    ⟨(some 6), none, .mov (.tmp 144)⟩]

def f5b : ACode := (.seq (.ops f5r0)
  (.keep [3, 4, 5] (.seq (.seq (.ops f5r1)
  (.keep [3, 4, 5, 22] (.cond (.tmp 22) (.keep [] (.seq (.ops f5r2)
  (.keep [6] .ret))) .skip)))
  (.keep [3, 4, 5] (.seq (.seq (.ops f5r3)
  (.keep [3, 4, 5, 61] (.cond (.tmp 61) (.keep [] (.seq (.ops f5r4)
  (.keep [6] .ret))) .skip)))
  (.keep [3, 4, 5] (.seq (.ops f5r5)
  (.keep [3, 4, 5, 7, 8] (.seq (.ops f5r6)
  (.keep [3, 4, 5, 7, 8, 9, 10] (.seq (.ops f5r7)
  (.keep [3, 4, 5, 7, 8, 9, 10, 11, 12] (.seq (.ops f5r8)
  (.keep [3, 4, 5, 7, 8, 9, 10, 11, 12, 13, 14] (.seq (.ops f5r9)
  (.keep [3, 5, 7, 8, 9, 10, 11, 12, 13, 14, 15, 16] (.seq (.ops f5r10)
  (.keep [3, 5, 7, 8, 9, 10, 11, 12, 13, 14, 16, 17, 18] (.seq (.ops f5r11)
  (.keep [7, 8, 9, 10, 11, 12, 13, 14, 16, 17, 18, 19, 20] (.seq (.ops f5r12)
  (.keep [6] .ret))))))))))))))))))))))

def f5 : AFn := ⟨145, [.tmp 6], f5b⟩

theorem f5_ok : compFn Try.prog 5 = some f5.strip := by kernel_rfl

/- function 6: weirhouse/weirhousekeep.FracOrder; parameters 3; operations that are not compiled: 0 -/
def f6r0 : List AInstr := [
    ⟨(some 3), none, .box (.tmp 0)⟩,
    ⟨(some 4), none, .box (.tmp 1)⟩,
    ⟨(some 5), none, .box (.tmp 2)⟩,
    ⟨(some 6), none, .mov (.const (.bool false))⟩]

def f6r1 : List AInstr := [
    ⟨(some 20), none, .callF 7 []⟩,
    ⟨(some 21), none, .un .not (.tmp 20)⟩]

def f6r2 : List AInstr := [
    ⟨(some 6), none, .mov (.const (.bool false))⟩]

def f6r3 : List AInstr := [
    ⟨(some 23), none, .load (some 2) (.tmp 3)⟩,
    ⟨(some 24), none, .load (some 2) (.tmp 4)⟩,
    ⟨(some 25), none, .callF 14 [.tmp 23, .tmp 24]⟩,
    ⟨(some 22), none, .mov (.tmp 25)⟩,
    ⟨(some 26), none, .extract 0 (.tmp 22)⟩,
    ⟨(some 27), none, .extract 1 (.tmp 22)⟩,
    ⟨(some 7), none, .mov (.tmp 26)⟩,
    ⟨(some 8), none, .mov (.tmp 27)⟩]

def f6r4 : List AInstr := [
    ⟨(some 29), none, .load (some 2) (.tmp 4)⟩,
    ⟨(some 30), none, .load (some 2) (.tmp 5)⟩,
    ⟨(some 31), none, .callF 14 [.tmp 29, .tmp 30]⟩,
    ⟨(some 28), none, .mov (.tmp 31)⟩,
    ⟨(some 32), none, .extract 0 (.tmp 28)⟩,
    ⟨(some 33), none, .extract 1 (.tmp 28)⟩,
    ⟨(some 9), none, .mov (.tmp 32)⟩,
    ⟨(some 10), none, .mov (.tmp 33)⟩]

def f6r5 : List AInstr := [
    ⟨(some 35), none, .load (some 2) (.tmp 3)⟩,
    ⟨(some 36), none, .load (some 2) (.tmp 5)⟩,
    ⟨(some 37), none, .callF 14 [.tmp 35, .tmp 36]⟩,
    ⟨(some 34), none, .mov (.tmp 37)⟩,
    ⟨(some 38), none, .extract 0 (.tmp 34)⟩,
    ⟨(some 39), none, .extract 1 (.tmp 34)⟩,
    ⟨(some 11), none, .mov (.tmp 38)⟩,
    ⟨(some 12), none, .mov (.tmp 39)⟩]

def f6r6 : List AInstr := [
    ⟨(some 41), none, .load (some 2) (.tmp 4)⟩,
    ⟨(some 42), none, .load (some 2) (.tmp 3)⟩,
    ⟨(some 43), none, .callF 14 [.tmp 41, .tmp 42]⟩,
    ⟨(some 40), none, .mov (.tmp 43)⟩,
    ⟨(some 44), none, .extract 0 (.tmp 40)⟩,
    ⟨(some 45), none, .extract 1 (.tmp 40)⟩,
    ⟨(some 13), none, .mov (.tmp 44)⟩,
    ⟨(some 14), none, .mov (.tmp 45)⟩]

def f6r7 : List AInstr := [
    ⟨(some 46), none, .mov (.tmp 8)⟩,
    ⟨(some 47), none, .ibin .neq (.tmp 46) (.const (.int .i64 0))⟩,
    ⟨(some 48), none, .mov (.tmp 47)⟩,
    ⟨(some 49), (some (48, false)), .mov (.tmp 10)⟩,
    ⟨(some 50), (some (48, false)), .ibin .neq (.tmp 49) (.const (.int .i64 0))⟩,
    ⟨(some 51), none, .pick (.tmp 48) (.const (.bool true)) (.tmp 50)⟩,
    ⟨(some 52), none, .mov (.tmp 51)⟩,
    ⟨(some 53), (some (52, false)), .mov (.tmp 12)⟩,
    ⟨(some 54), (some (52, false)), .ibin .neq (.tmp 53) (.const (.int .i64 0))⟩,
    ⟨(some 55), none, .pick (.tmp 52) (.const (.bool true)) (.tmp 54)⟩]

def f6r8 : List AInstr := [
    ⟨(some 6), none, .mov (.const (.bool true))⟩]

def f6r9 : List AInstr := [
    ⟨(some 56), none, .mov (.tmp 7)⟩,
    ⟨(some 57), none, .ibin .leq (.tmp 56) (.const (.int .i64 0))⟩,
    ⟨(some 58), none, .mov (.tmp 57)⟩,
    ⟨(some 59), (some (58, true)), .mov (.tmp 9)⟩,
    ⟨(some 60), (some (58, true)), .ibin .leq (.tmp 59) (.const (.int .i64 0))⟩,
    ⟨(some 61), none, .pick (.tmp 58) (.tmp 60) (.const (.bool false))⟩,
    ⟨(some 62), none, .mov (.tmp 61)⟩,
    ⟨(some 63), (some (62, true)), .mov (.tmp 11)⟩,
    ⟨(some 64), (some (62, true)), .ibin .gtr (.tmp 63) (.const (.int .i64 0))⟩,
    ⟨(some 65), none, .pick (.tmp 62) (.tmp 64) (.const (.bool false))⟩,
    ⟨(some 66), none, .mov (.tmp 65)⟩,
    ⟨(some 67), (some (66, false)), .mov (.tmp 7)⟩,
    ⟨(some 68), (some (66, false)), .mov (.tmp 13)⟩,
    ⟨(some 69), (some (66, false)), .un .neg (.tmp 68)⟩,
    ⟨(some 70), (some (66, false)), .ibin .neq (.tmp 67) (.tmp 69)⟩,
    ⟨(some 71), none, .pick (.tmp 66) (.const (.bool true)) (.tmp 70)⟩]

def f6r10 : List AInstr := [
    ⟨(some 6), none, .mov (.const (.bool false))⟩]

def f6r11 : List AInstr := [
    ⟨(some 72), none, .fieldAddr 0 (.tmp 3)⟩,
    ⟨(some 73), none, .load none (.tmp 72)⟩,
    ⟨(some 74), none, .fieldAddr 0 (.tmp 4)⟩,
    ⟨(some 75), none, .load none (.tmp 74)⟩,
    ⟨(some 76), none, .ibin .add (.tmp 73) (.tmp 75)⟩,
    ⟨(some 77), none, .fieldAddr 1 (.tmp 3)⟩,
    ⟨(some 78), none, .load none (.tmp 77)⟩,
    ⟨(some 79), none, .fieldAddr 1 (.tmp 4)⟩,
    ⟨(some 80), none, .load none (.tmp 79)⟩,
    ⟨(some 81), none, .ibin .add (.tmp 78) (.tmp 80)⟩,
    ⟨(some 82), none, .build [.int .i64 0, .int .i64 0] [(0, 1, (.tmp 76)), (1, 1, (.tmp 81))]⟩,
    ⟨(some 15), none, .alloc [.int .i64 0, .int .i64 0]⟩,
    ⟨none, none, .store 2 (.tmp 15) (.tmp 82)⟩]

def f6r12 : List AInstr := [
    ⟨(some 84), none, .load (some 2) (.tmp 3)⟩,
    ⟨(some 85), none, .load (some 2) (.tmp 15)⟩,
    ⟨(some 86), none, .callF 14 [.tmp 84, .tmp 85]⟩,
    ⟨(some 83), none, .mov (.tmp 86)⟩,
    ⟨(some 87), none, .extract 0 (.tmp 83)⟩,
    ⟨(some 88), none, .extract 1 (.tmp 83)⟩,
    ⟨(some 16), none, .mov (.tmp 87)⟩,
    ⟨(some 17), none, .mov (.tmp 88)⟩]

def f6r13 : List AInstr := [
    ⟨(some 90), none, .load (some 2) (.tmp 15)⟩,
    ⟨(some 91), none, .load (some 2) (.tmp 4)⟩,
    ⟨(some 92), none, .callF 14 [.tmp 90, .tmp 91]⟩,
    ⟨(some 89), none, .mov (.tmp 92)⟩,
    ⟨(some 93), none, .extract 0 (.tmp 89)⟩,
    ⟨(some 94), none, .extract 1 (.tmp 89)⟩,
    ⟨(some 18), none, .mov (.tmp 93)⟩,
    ⟨(some 19), none, .mov (.tmp 94)⟩]

def f6r14 : List AInstr := [
    ⟨(some 95), none, .mov (.tmp 17)⟩,
    ⟨(some 96), none, .ibin .neq (.tmp 95) (.const (.int .i64 0))⟩,
    ⟨(some 97), none, .mov (.tmp 96)⟩,
    ⟨(some 98), (some (97, false)), .mov (.tmp 19)⟩,
    ⟨(some 99), (some (97, false)), .ibin .neq (.tmp 98) (.const (.int .i64 0))⟩,
    ⟨(some 100), none, .pick (.tmp 97) (.const (.bool true)) (.tmp 99)⟩,
    ⟨(some 101), none, .mov (.tmp 100)⟩,
    ⟨(some 102), (some (101, false)), .mov (.tmp 16)⟩,
    ⟨(some 103), (some (101, false)), .mov (.tmp 7)⟩,
    ⟨(some 104), (some (101, false)), .ibin .eql (.tmp 102) (.tmp 103)⟩,
    ⟨(some 105), (some (101, false)), .mov (.tmp 104)⟩,
    ⟨(some 106), (some (105, true)), .mov (.tmp 18)⟩,
    ⟨(some 107), (some (105, true)), .mov (.tmp 7)⟩,
    ⟨(some 108), (some (105, true)), .ibin .eql (.tmp 106) (.tmp 107)⟩,
    ⟨(some 109), (some (101, false)), .pick (.tmp 105) (.tmp 108) (.const (.bool false))⟩,
    ⟨(some 110), none, .pick (.tmp 101) (.const (.bool true)) (.tmp 109)⟩,
    ⟨(some 6), none, .mov (.tmp 110)⟩]

def f6b : ACode := (.seq (.ops f6r0)
  (.keep [3, 4, 5] (.seq (.seq (.ops f6r1)
  (.keep [3, 4, 5, 21] (.cond (.tmp 21) (.keep [] (.seq (.ops f6r2)
  (.keep [6] .ret))) .skip)))
  (.keep [3, 4, 5] (.seq (.ops f6r3)
  (.keep [3, 4, 5, 7, 8] (.seq (.ops f6r4)
  (.keep [3, 4, 5, 7, 8, 9, 10] (.seq (.ops f6r5)
  (.keep [3, 4, 7, 8, 9, 10, 11, 12] (.seq (.ops f6r6)
  (.keep [3, 4, 7, 8, 9, 10, 11, 12, 13] (.seq (.seq (.ops f6r7)
  (.keep [3, 4, 7, 9, 11, 13, 55] (.cond (.tmp 55) (.keep [] (.seq (.ops f6r8)
  (.keep [6] .ret))) .skip)))
  (.keep [3, 4, 7, 9, 11, 13] (.seq (.seq (.ops f6r9)
  (.keep [3, 4, 7, 71] (.cond (.tmp 71) (.keep [] (.seq (.ops f6r10)
  (.keep [6] .ret))) .skip)))
  (.keep [3, 4, 7] (.seq (.ops f6r11)
  (.keep [3, 4, 7, 15] (.seq (.ops f6r12)
  (.keep [4, 7, 15, 16, 17] (.seq (.ops f6r13)
  (.keep [7, 16, 17, 18, 19] (.seq (.ops f6r14)
  (.keep [6] .ret))))))))))))))))))))))))

def f6 : AFn := ⟨111, [.tmp 6], f6b⟩

theorem f6_ok : compFn Try.prog 6 = some f6.strip := by kernel_rfl

/- function 7: weirhouse/weirhousekeep.alive2; parameters 0; operations that are not compiled: 0 -/
def f7r0 : List AInstr := [
    ⟨(some 0), none, .mov (.const (.bool false))⟩]

def f7r1 : List AInstr := [
    ⟨(some 8), none, .build [.int .i64 0, .int .i64 0] [(0, 1, (.const (.int .i64 1))), (1, 1, (.const (.int .i64 6)))]⟩,
    ⟨(some 9), none, .build [.int .i64 0, .int .i64 0] [(0, 1, (.const (.int .i64 1))), (1, 1, (.const (.int .i64 3)))]⟩,
    ⟨(some 10), none, .callF 12 [.tmp 8, .tmp 9]⟩,
    ⟨(some 7), none, .mov (.tmp 10)⟩,
    ⟨(some 11), none, .extract 0 (.tmp 7)⟩,
    ⟨(some 12), none, .extract 1 (.tmp 7)⟩,
    ⟨(some 1), none, .alloc [.int .i64 0, .int .i64 0]⟩,
    ⟨none, none, .store 2 (.tmp 1) (.tmp 11)⟩,
    ⟨(some 2), none, .mov (.tmp 12)⟩]

def f7r2 : List AInstr := [
    ⟨(some 14), none, .build [.int .i64 0, .int .i64 0] [(0, 1, (.const (.int .i64 (-7)))), (1, 1, (.const (.int .i64 2)))]⟩,
    ⟨(some 15), none, .callF 8 [.tmp 14]⟩,
    ⟨(some 13), none, .mov (.tmp 15)⟩,
    ⟨(some 16), none, .extract 0 (.tmp 13)⟩,
    ⟨(some 17), none, .extract 1 (.tmp 13)⟩,
    ⟨(some 3), none, .mov (.tmp 16)⟩,
    ⟨(some 4), none, .mov (.tmp 17)⟩]

def f7r3 : List AInstr := [
    ⟨(some 19), none, .build [.int .i64 0, .int .i64 0] [(0, 1, (.const (.int .i64 (-7)))), (1, 1, (.const (.int .i64 2)))]⟩,
    ⟨(some 20), none, .callF 9 [.tmp 19]⟩,
    ⟨(some 18), none, .mov (.tmp 20)⟩,
    ⟨(some 21), none, .extract 0 (.tmp 18)⟩,
    ⟨(some 22), none, .extract 1 (.tmp 18)⟩,
    ⟨(some 5), none, .mov (.tmp 21)⟩,
    ⟨(some 6), none, .mov (.tmp 22)⟩]

def f7r4 : List AInstr := [
    ⟨(some 23), none, .mov (.tmp 2)⟩,
    ⟨(some 24), none, .ibin .eql (.tmp 23) (.const (.int .i64 0))⟩,
    ⟨(some 25), none, .mov (.tmp 24)⟩,
    ⟨(some 26), (some (25, true)), .mov (.tmp 4)⟩,
    ⟨(some 27), (some (25, true)), .ibin .eql (.tmp 26) (.const (.int .i64 0))⟩,
    ⟨(some 28), none, .pick (.tmp 25) (.tmp 27) (.const (.bool false))⟩,
    ⟨(some 29), none, .mov (.tmp 28)⟩,
    ⟨(some 30), (some (29, true)), .mov (.tmp 6)⟩,
    ⟨(some 31), (some (29, true)), .ibin .eql (.tmp 30) (.const (.int .i64 0))⟩,
    ⟨(some 32), none, .pick (.tmp 29) (.tmp 31) (.const (.bool false))⟩,
    ⟨(some 33), none, .mov (.tmp 32)⟩,
    ⟨(some 34), (some (33, true)), .load (some 2) (.tmp 1)⟩,
    ⟨(some 35), (some (33, true)), .build [.int .i64 0, .int .i64 0] [(0, 1, (.const (.int .i64 1))), (1, 1, (.const (.int .i64 2)))]⟩,
    ⟨(some 36), (some (33, true)), .eqA false [false, false] (.tmp 34) (.tmp 35)⟩,
    ⟨(some 37), none, .pick (.tmp 33) (.tmp 36) (.const (.bool false))⟩,
    ⟨(some 38), none, .mov (.tmp 37)⟩,
    ⟨(some 39), (some (38, true)), .mov (.tmp 3)⟩,
    ⟨(some 40), (some (38, true)), .ibin .eql (.tmp 39) (.const (.int .i64 (-4)))⟩,
    ⟨(some 41), none, .pick (.tmp 38) (.tmp 40) (.const (.bool false))⟩,
    ⟨(some 42), none, .mov (.tmp 41)⟩,
    ⟨(some 43), (some (42, true)), .mov (.tmp 5)⟩,
    ⟨(some 44), (some (42, true)), .ibin .eql (.tmp 43) (.const (.int .i64 (-3)))⟩,
    ⟨(some 45), none, .pick (.tmp 42) (.tmp 44) (.const (.bool false))⟩,
    ⟨(some 46), none, .mov (.tmp 45)⟩,
    ⟨(some 47), (some (46, true)), .callF 10 [.const (.int .u64 99)]⟩,
    ⟨(some 48), (some (46, true)), .ibin .eql (.tmp 47) (.const (.int .u64 9))⟩,
    ⟨(some 49), none, .pick (.tmp 46) (.tmp 48) (.const (.bool false))⟩,
    ⟨(some 0), none, .mov (.tmp 49)⟩]

def f7b : ACode := (.seq (.ops f7r0)
  (.keep [] (.seq (.ops f7r1)
  (.keep [1, 2] (.seq (.ops f7r2)
  (.keep [1, 2, 3, 4] (.seq (.ops f7r3)
  (.keep [1, 2, 3, 4, 5, 6] (.seq (.ops f7r4)
  (.keep [0] .ret))))))))))

def f7 : AFn := ⟨50, [.tmp 0], f7b⟩

theorem f7_ok : compFn Try.prog 7 = some f7.strip := by kernel_rfl

/- function 8: weirhouse/frac.Floor; parameters 1; operations that are not compiled: 0 -/
def f8r0 : List AInstr := [
    ⟨(some 1), none, .box (.tmp 0)⟩,
    ⟨(some 2), none, .mov (.const (.int .i64 0))⟩,
    ⟨(some 3), none, .mov (.const (.int .i64 0))⟩]

def f8r1 : List AInstr := [
    ⟨(some 5), none, .load (some 2) (.tmp 1)⟩,
    ⟨(some 6), none, .callF 11 [.tmp 5]⟩,
    ⟨(some 7), none, .un .not (.tmp 6)⟩]

def f8r2 : List AInstr := [
    ⟨(some 2), none, .mov (.const (.int .i64 0))⟩,
    ⟨(some 3), none, .mov (.const (.int .i64 2))⟩]

def f8r3 : List AInstr := [
    ⟨(some 8), none, .fieldAddr 0 (.tmp 1)⟩,
    ⟨(some 9), none, .load none (.tmp 8)⟩,
    ⟨(some 10), none, .fieldAddr 1 (.tmp 1)⟩,
    ⟨(some 11), none, .load none (.tmp 10)⟩,
    ⟨(some 12), none, .ibin .quo (.tmp 9) (.tmp 11)⟩,
    ⟨(some 4), none, .mov (.tmp 12)⟩]

def f8r4 : List AInstr := [
    ⟨(some 13), none, .fieldAddr 0 (.tmp 1)⟩,
    ⟨(some 14), none, .load none (.tmp 13)⟩,
    ⟨(some 15), none, .fieldAddr 1 (.tmp 1)⟩,
    ⟨(some 16), none, .load none (.tmp 15)⟩,
    ⟨(some 17), none, .ibin .rem (.tmp 14) (.tmp 16)⟩,
    ⟨(some 18), none, .ibin .lss (.tmp 17) (.const (.int .i64 0))⟩]

def f8r5 : List AInstr := [
    ⟨(some 19), none, .mov (.tmp 4)⟩,
    ⟨(some 20), none, .ibin .sub (.tmp 19) (.const (.int .i64 1))⟩,
    ⟨(some 4), none, .mov (.tmp 20)⟩]

def f8r6 : List AInstr := [
    ⟨(some 21), none, .mov (.tmp 4)⟩,
    ⟨(some 2), none, .mov (.tmp 21)⟩,
    ⟨(some 3), none, .mov (.const (.int .i64 0))⟩]

def f8b : ACode := (.seq (.ops f8r0)
  (.keep [1] (.seq (.seq (.ops f8r1)
  (.keep [1, 7] (.cond (.tmp 7) (.keep [] (.seq (.ops f8r2)
  (.keep [2, 3] .ret))) .skip)))
  (.keep [1] (.seq (.ops f8r3)
  (.keep [1, 4] (.seq (.seq (.ops f8r4)
  (.keep [4, 18] (.cond (.tmp 18) (.keep [4] (.ops f8r5)) .skip)))
  (.keep [4] (.seq (.ops f8r6)
  (.keep [2, 3] .ret))))))))))

def f8 : AFn := ⟨22, [.tmp 2, .tmp 3], f8b⟩

theorem f8_ok : compFn Try.prog 8 = some f8.strip := by kernel_rfl

/- function 9: weirhouse/frac.Ceil; parameters 1; operations that are not compiled: 0 -/
def f9r0 : List AInstr := [
    ⟨(some 1), none, .box (.tmp 0)⟩,
    ⟨(some 2), none, .mov (.const (.int .i64 0))⟩,
    ⟨(some 3), none, .mov (.const (.int .i64 0))⟩]

def f9r1 : List AInstr := [
    ⟨(some 7), none, .fieldAddr 0 (.tmp 1)⟩,
    ⟨(some 8), none, .load none (.tmp 7)⟩,
    ⟨(some 9), none, .un .neg (.tmp 8)⟩,
    ⟨(some 10), none, .fieldAddr 1 (.tmp 1)⟩,
    ⟨(some 11), none, .load none (.tmp 10)⟩,
    ⟨(some 12), none, .build [.int .i64 0, .int .i64 0] [(0, 1, (.tmp 9)), (1, 1, (.tmp 11))]⟩,
    ⟨(some 13), none, .callF 8 [.tmp 12]⟩,
    ⟨(some 6), none, .mov (.tmp 13)⟩,
    ⟨(some 14), none, .extract 0 (.tmp 6)⟩,
    ⟨(some 15), none, .extract 1 (.tmp 6)⟩,
    ⟨(some 4), none, .mov (.tmp 14)⟩,
    ⟨(some 5), none, .mov (.tmp 15)⟩]

def f9r2 : List AInstr := [
    ⟨(some 16), none, .mov (.tmp 4)⟩,
    ⟨(some 17), none, .un .neg (.tmp 16)⟩,
    ⟨(some 18), none, .mov (.tmp 5)⟩,
    ⟨(some 2), none, .mov (.tmp 17)⟩,
    ⟨(some 3), none, .mov (.tmp 18)⟩]

def f9b : ACode := (.seq (.ops f9r0)
  (.keep [1] (.seq (.ops f9r1)
  (.keep [4, 5] (.seq (.ops f9r2)
  (.keep [2, 3] .ret))))))

def f9 : AFn := ⟨19, [.tmp 2, .tmp 3], f9b⟩

theorem f9_ok : compFn Try.prog 9 = some f9.strip := by kernel_rfl

/- function 10: weirhouse/frac.Root; parameters 1; operations that are not compiled: 0 -/
def f10r0 : List AInstr := [
    ⟨(some 2), none, .mov (.const (.int .u64 0))⟩]

def f10r1 : List AInstr := [
    ⟨(some 3), none, .mov (.const (.int .u64 0))⟩]

def f10r2 : List AInstr := [
    ⟨(some 6), none, .mov (.tmp 0)⟩,
    ⟨(some 7), none, .callF 15 [.tmp 6]⟩,
    ⟨(some 8), none, .ibin .add (.tmp 7) (.const (.int .i64 1))⟩,
    ⟨(some 9), none, .ibin .quo (.tmp 8) (.const (.int .i64 2))⟩,
    ⟨(some 4), none, .mov (.tmp 9)⟩]

def f10r3 : List AInstr := [
    ⟨(some 10), none, .mov (.tmp 4)⟩,
    ⟨(some 11), none, .ibin .geq (.tmp 10) (.const (.int .i64 0))⟩]

def f10r4 : List AInstr := [
    ⟨(some 14), none, .mov (.tmp 3)⟩,
    ⟨(some 15), none, .mov (.tmp 4)⟩,
    ⟨(some 16), none, .ibin .shl (.const (.int .u64 1)) (.tmp 15)⟩,
    ⟨(some 17), none, .ibin .or (.tmp 14) (.tmp 16)⟩,
    ⟨(some 5), none, .mov (.tmp 17)⟩]

def f10r5 : List AInstr := [
    ⟨(some 18), none, .mov (.tmp 5)⟩,
    ⟨(some 19), none, .ibin .lss (.tmp 18) (.const (.int .u64 4294967296))⟩,
    ⟨(some 20), none, .mov (.tmp 19)⟩,
    ⟨(some 21), (some (20, true)), .mov (.tmp 5)⟩,
    ⟨(some 22), (some (20, true)), .mov (.tmp 5)⟩,
    ⟨(some 23), (some (20, true)), .ibin .mul (.tmp 21) (.tmp 22)⟩,
    ⟨(some 24), (some (20, true)), .mov (.tmp 0)⟩,
    ⟨(some 25), (some (20, true)), .ibin .leq (.tmp 23) (.tmp 24)⟩,
    ⟨(some 26), none, .pick (.tmp 20) (.tmp 25) (.const (.bool false))⟩]

def f10r6 : List AInstr := [
    ⟨(some 27), none, .mov (.tmp 5)⟩,
    ⟨(some 3), none, .mov (.tmp 27)⟩]

def f10r7 : List AInstr := [
    ⟨(some 12), none, .mov (.tmp 4)⟩,
    ⟨(some 13), none, .ibin .sub (.tmp 12) (.const (.int .i64 1))⟩,
    ⟨(some 4), none, .mov (.tmp 13)⟩]

/-- live: [0, 3, 4] -/
def f10l0 : ACode := (.seq (.seq (.ops f10r3)
  (.keep [0, 3, 4, 11] (.cond (.tmp 11) .skip (.exit 0))))
  (.keep [0, 3, 4] (.seq (.block 1 (.seq (.ops f10r4)
  (.keep [0, 3, 4, 5] (.seq (.ops f10r5)
  (.keep [0, 3, 4, 5, 26] (.cond (.tmp 26) (.keep [0, 4, 5] (.ops f10r6)) .skip))))))
  (.keep [0, 3, 4] (.ops f10r7)))))

def f10r9 : List AInstr := [
    ⟨(some 28), none, .mov (.tmp 3)⟩,
    ⟨(some 2), none, .mov (.tmp 28)⟩]

def f10b : ACode := (.seq (.ops f10r0)
  (.keep [0] (.seq (.ops f10r1)
  (.keep [0, 3] (.seq (.seq (.ops f10r2)
  (.keep [0, 3, 4] (.block 0 (.loop f10l0))))
  (.keep [3] (.seq (.ops f10r9)
  (.keep [2] .ret))))))))

def f10 : AFn := ⟨29, [.tmp 2], f10b⟩

theorem f10_ok : compFn Try.prog 10 = some f10.strip := by kernel_rfl

/- function 11: weirhouse/frac.Right; parameters 1; operations that are not compiled: 0 -/
def f11r0 : List AInstr := [
    ⟨(some 1), none, .box (.tmp 0)⟩,
    ⟨(some 2), none, .mov (.const (.bool false))⟩]

def f11r1 : List AInstr := [
    ⟨(some 3), none, .fieldAddr 1 (.tmp 1)⟩,
    ⟨(some 4), none, .load none (.tmp 3)⟩,
    ⟨(some 5), none, .ibin .geq (.tmp 4) (.const (.int .i64 1))⟩,
    ⟨(some 6), none, .mov (.tmp 5)⟩,
    ⟨(some 7), (some (6, true)), .fieldAddr 1 (.tmp 1)⟩,
    ⟨(some 8), (some (6, true)), .load none (.tmp 7)⟩,
    ⟨(some 9), (some (6, true)), .ibin .leq (.tmp 8) (.const (.int .i64 1073741824))⟩,
    ⟨(some 10), none, .pick (.tmp 6) (.tmp 9) (.const (.bool false))⟩,
    ⟨(some 11), none, .mov (.tmp 10)⟩,
    ⟨(some 12), (some (11, true)), .fieldAddr 0 (.tmp 1)⟩,
    ⟨(some 13), (some (11, true)), .load none (.tmp 12)⟩,
    ⟨(some 14), (some (11, true)), .ibin .geq (.tmp 13) (.const (.int .i64 (-1073741824)))⟩,
    ⟨(some 15), none, .pick (.tmp 11) (.tmp 14) (.const (.bool false))⟩,
    ⟨(some 16), none, .mov (.tmp 15)⟩,
    ⟨(some 17), (some (16, true)), .fieldAddr 0 (.tmp 1)⟩,
    ⟨(some 18), (some (16, true)), .load none (.tmp 17)⟩,
    ⟨(some 19), (some (16, true)), .ibin .leq (.tmp 18) (.const (.int .i64 1073741824))⟩,
    ⟨(some 20), none, .pick (.tmp 16) (.tmp 19) (.const (.bool false))⟩,
    ⟨(some 2), none, .mov (.tmp 20)⟩]

def f11b : ACode := (.seq (.ops f11r0)
  (.keep [1] (.seq (.ops f11r1)
  (.keep [2] .ret))))

def f11 : AFn := ⟨21, [.tmp 2], f11b⟩

theorem f11_ok : compFn Try.prog 11 = some f11.strip := by kernel_rfl

/- function 12: weirhouse/frac.Add; parameters 2; operations that are not compiled: 0 -/
def f12r0 : List AInstr := [
    ⟨(some 2), none, .box (.tmp 0)⟩,
    ⟨(some 3), none, .box (.tmp 1)⟩,
    ⟨(some 4), none, .alloc [.int .i64 0, .int .i64 0]⟩,
    ⟨(some 5), none, .mov (.const (.int .i64 0))⟩]

def f12r1 : List AInstr := [
    ⟨(some 6), none, .load (some 2) (.tmp 2)⟩,
    ⟨(some 7), none, .callF 11 [.tmp 6]⟩,
    ⟨(some 8), none, .un .not (.tmp 7)⟩,
    ⟨(some 9), none, .mov (.tmp 8)⟩,
    ⟨(some 10), (some (9, false)), .load (some 2) (.tmp 3)⟩,
    ⟨(some 11), (some (9, false)), .callF 11 [.tmp 10]⟩,
    ⟨(some 12), (some (9, false)), .un .not (.tmp 11)⟩,
    ⟨(some 13), none, .pick (.tmp 9) (.const (.bool true)) (.tmp 12)⟩]

def f12r2 : List AInstr := [
    ⟨(some 14), none, .build [.int .i64 0, .int .i64 0] []⟩,
    ⟨none, none, .store 2 (.tmp 4) (.tmp 14)⟩,
    ⟨(some 5), none, .mov (.const (.int .i64 2))⟩]

def f12r3 : List AInstr := [
    ⟨(some 15), none, .fieldAddr 0 (.tmp 2)⟩,
    ⟨(some 16), none, .load none (.tmp 15)⟩,
    ⟨(some 17), none, .fieldAddr 1 (.tmp 3)⟩,
    ⟨(some 18), none, .load none (.tmp 17)⟩,
    ⟨(some 19), none, .ibin .mul (.tmp 16) (.tmp 18)⟩,
    ⟨(some 20), none, .fieldAddr 0 (.tmp 3)⟩,
    ⟨(some 21), none, .load none (.tmp 20)⟩,
    ⟨(some 22), none, .fieldAddr 1 (.tmp 2)⟩,
    ⟨(some 23), none, .load none (.tmp 22)⟩,
    ⟨(some 24), none, .ibin .mul (.tmp 21) (.tmp 23)⟩,
    ⟨(some 25), none, .ibin .add (.tmp 19) (.tmp 24)⟩,
    ⟨(some 26), none, .fieldAddr 1 (.tmp 2)⟩,
    ⟨(some 27), none, .load none (.tmp 26)⟩,
    ⟨(some 28), none, .fieldAddr 1 (.tmp 3)⟩,
    ⟨(some 29), none, .load none (.tmp 28)⟩,
    ⟨(some 30), none, .ibin .mul (.tmp 27) (.tmp 29)⟩,
    ⟨(some 31), none, .callF 16 [.tmp 25, .tmp 30]⟩,
    ⟨(some 32), none, .extract 0 (.tmp 31)⟩,
    ⟨(some 33), none, .extract 1 (.tmp 31)⟩,
    ⟨none, none, .store 2 (.tmp 4) (.tmp 32)⟩,
    ⟨(some 5), none, .mov (.tmp 33)⟩]

def f12b : ACode := (.seq (.ops f12r0)
  (.keep [2, 3, 4] (.seq (.seq (.ops f12r1)
  (.keep [2, 3, 4, 13] (.cond (.tmp 13) (.keep [4] (.seq (.ops f12r2)
  (.keep [4, 5] .ret))) .skip)))
  (.keep [2, 3, 4] (.seq (.ops f12r3)
  (.keep [4, 5] .ret))))))

def f12 : AFn := ⟨34, [.cell 4 (some 2), .tmp 5], f12b⟩

theorem f12_ok : compFn Try.prog 12 = some f12.strip := by kernel_rfl

/- function 13: weirhouse/frac.Mul; parameters 2; operations that are not compiled: 0 -/
def f13r0 : List AInstr := [
    ⟨(some 2), none, .box (.tmp 0)⟩,
    ⟨(some 3), none, .box (.tmp 1)⟩,
    ⟨(some 4), none, .alloc [.int .i64 0, .int .i64 0]⟩,
    ⟨(some 5), none, .mov (.const (.int .i64 0))⟩]

def f13r1 : List AInstr := [
    ⟨(some 6), none, .load (some 2) (.tmp 2)⟩,
    ⟨(some 7), none, .callF 11 [.tmp 6]⟩,
    ⟨(some 8), none, .un .not (.tmp 7)⟩,
    ⟨(some 9), none, .mov (.tmp 8)⟩,
    ⟨(some 10), (some (9, false)), .load (some 2) (.tmp 3)⟩,
    ⟨(some 11), (some (9, false)), .callF 11 [.tmp 10]⟩,
    ⟨(some 12), (some (9, false)), .un .not (.tmp 11)⟩,
    ⟨(some 13), none, .pick (.tmp 9) (.const (.bool true)) (.tmp 12)⟩]

def f13r2 : List AInstr := [
    ⟨(some 14), none, .build [.int .i64 0, .int .i64 0] []⟩,
    ⟨none, none, .store 2 (.tmp 4) (.tmp 14)⟩,
    ⟨(some 5), none, .mov (.const (.int .i64 2))⟩]

def f13r3 : List AInstr := [
    ⟨(some 15), none, .fieldAddr 0 (.tmp 2)⟩,
    ⟨(some 16), none, .load none (.tmp 15)⟩,
    ⟨(some 17), none, .fieldAddr 0 (.tmp 3)⟩,
    ⟨(some 18), none, .load none (.tmp 17)⟩,
    ⟨(some 19), none, .ibin .mul (.tmp 16) (.tmp 18)⟩,
    ⟨(some 20), none, .fieldAddr 1 (.tmp 2)⟩,
    ⟨(some 21), none, .load none (.tmp 20)⟩,
    ⟨(some 22), none, .fieldAddr 1 (.tmp 3)⟩,
    ⟨(some 23), none, .load none (.tmp 22)⟩,
    ⟨(some 24), none, .ibin .mul (.tmp 21) (.tmp 23)⟩,
    ⟨(some 25), none, .callF 16 [.tmp 19, .tmp 24]⟩,
    ⟨(some 26), none, .extract 0 (.tmp 25)⟩,
    ⟨(some 27), none, .extract 1 (.tmp 25)⟩,
    ⟨none, none, .store 2 (.tmp 4) (.tmp 26)⟩,
    ⟨(some 5), none, .mov (.tmp 27)⟩]

def f13b : ACode := (.seq (.ops f13r0)
  (.keep [2, 3, 4] (.seq (.seq (.ops f13r1)
  (.keep [2, 3, 4, 13] (.cond (.tmp 13) (.keep [4] (.seq (.ops f13r2)
  (.keep [4, 5] .ret))) .skip)))
  (.keep [2, 3, 4] (.seq (.ops f13r3)
  (.keep [4, 5] .ret))))))

def f13 : AFn := ⟨28, [.cell 4 (some 2), .tmp 5], f13b⟩

theorem f13_ok : compFn Try.prog 13 = some f13.strip := by kernel_rfl

/- function 14: weirhouse/frac.Cmp; parameters 2; operations that are not compiled: 0 -/
def f14r0 : List AInstr := [
    ⟨(some 2), none, .box (.tmp 0)⟩,
    ⟨(some 3), none, .box (.tmp 1)⟩,
    ⟨(some 4), none, .mov (.const (.int .i64 0))⟩,
    ⟨(some 5), none, .mov (.const (.int .i64 0))⟩]

def f14r1 : List AInstr := [
    ⟨(some 8), none, .load (some 2) (.tmp 2)⟩,
    ⟨(some 9), none, .callF 11 [.tmp 8]⟩,
    ⟨(some 10), none, .un .not (.tmp 9)⟩,
    ⟨(some 11), none, .mov (.tmp 10)⟩,
    ⟨(some 12), (some (11, false)), .load (some 2) (.tmp 3)⟩,
    ⟨(some 13), (some (11, false)), .callF 11 [.tmp 12]⟩,
    ⟨(some 14), (some (11, false)), .un .not (.tmp 13)⟩,
    ⟨(some 15), none, .pick (.tmp 11) (.const (.bool true)) (.tmp 14)⟩]

def f14r2 : List AInstr := [
    ⟨(some 4), none, .mov (.const (.int .i64 0))⟩,
    ⟨(some 5), none, .mov (.const (.int .i64 2))⟩]

def f14r3 : List AInstr := [
    ⟨(some 16), none, .fieldAddr 0 (.tmp 2)⟩,
    ⟨(some 17), none, .load none (.tmp 16)⟩,
    ⟨(some 18), none, .fieldAddr 1 (.tmp 3)⟩,
    ⟨(some 19), none, .load none (.tmp 18)⟩,
    ⟨(some 20), none, .ibin .mul (.tmp 17) (.tmp 19)⟩,
    ⟨(some 21), none, .fieldAddr 0 (.tmp 3)⟩,
    ⟨(some 22), none, .load none (.tmp 21)⟩,
    ⟨(some 23), none, .fieldAddr 1 (.tmp 2)⟩,
    ⟨(some 24), none, .load none (.tmp 23)⟩,
    ⟨(some 25), none, .ibin .mul (.tmp 22) (.tmp 24)⟩,
    ⟨(some 6), none, .mov (.tmp 20)⟩,
    ⟨(some 7), none, .mov (.tmp 25)⟩]

def f14r4 : List AInstr := [
    ⟨(some 27), none, .mov (.tmp 6)⟩,
    ⟨(some 28), none, .mov (.tmp 7)⟩,
    ⟨(some 29), none, .ibin .lss (.tmp 27) (.tmp 28)⟩,
    ⟨(some 26), none, .mov (.tmp 29)⟩]

def f14r5 : List AInstr := [
    ⟨(some 4), none, .mov (.const (.int .i64 (-1)))⟩,
    ⟨(some 5), none, .mov (.const (.int .i64 0))⟩]

def f14r6 : List AInstr := [
    ⟨(some 31), none, .mov (.tmp 6)⟩,
    ⟨(some 32), none, .mov (.tmp 7)⟩,
    ⟨(some 33), none, .ibin .gtr (.tmp 31) (.tmp 32)⟩,
    ⟨(some 30), none, .mov (.tmp 33)⟩]

def f14r7 : List AInstr := [
    ⟨(some 4), none, .mov (.const (.int .i64 1))⟩,
    ⟨(some 5), none, .mov (.const (.int .i64 0))⟩]

def f14r8 : List AInstr := [
    ⟨(some 4), none, .mov (.const (.int .i64 0))⟩,
    ⟨(some 5), none, .mov (.const (.int .i64 0))⟩]

def f14b : ACode := (.seq (.ops f14r0)
  (.keep [2, 3] (.seq (.seq (.ops f14r1)
  (.keep [2, 3, 15] (.cond (.tmp 15) (.keep [] (.seq (.ops f14r2)
  (.keep [4, 5] .ret))) .skip)))
  (.keep [2, 3] (.seq (.draw f14r3 [(0, 0, false), (0, 0, false), (0, 0, false), (0, 0, false), (0, 0, false), (0, 0, false), (0, 0, false), (0, 0, false), (0, 0, false), (0, 0, false), (0, 0, false), (0, 0, false)])
  (.keep [6, 7] (.seq (.block 0 (.seq (.ops f14r4)
  (.keep [6, 7, 26] (.cond (.tmp 26) (.keep [] (.seq (.ops f14r5)
  (.keep [4, 5] .ret))) (.keep [6, 7] (.seq (.ops f14r6)
  (.keep [30] (.cond (.tmp 30) (.keep [] (.seq (.ops f14r7)
  (.keep [4, 5] .ret))) .skip))))))))
  (.keep [] (.seq (.ops f14r8)
  (.keep [4, 5] .ret))))))))))

def f14 : AFn := ⟨34, [.tmp 4, .tmp 5], f14b⟩

theorem f14_ok : compFn Try.prog 14 = some f14.strip := by kernel_rfl

/- function 15: math/bits.Len64; parameters 1; operations that are not compiled: 0 -/
def f15r0 : List AInstr := [
    ⟨(some 2), none, .mov (.const (.int .i64 0))⟩]

def f15r1 : List AInstr := [
    ⟨(some 3), none, .mov (.tmp 0)⟩,
    ⟨(some 4), none, .ibin .geq (.tmp 3) (.const (.int .u64 4294967296))⟩]

def f15r2 : List AInstr := [
    ⟨(some 5), none, .mov (.tmp 0)⟩,
    ⟨(some 6), none, .ibin .shr (.tmp 5) (.const (.int .u64 32))⟩,
    ⟨(some 0), none, .mov (.tmp 6)⟩]

def f15r3 : List AInstr := [
    ⟨(some 2), none, .mov (.const (.int .i64 32))⟩]

def f15r4 : List AInstr := [
    ⟨(some 7), none, .mov (.tmp 0)⟩,
    ⟨(some 8), none, .ibin .geq (.tmp 7) (.const (.int .u64 65536))⟩]

def f15r5 : List AInstr := [
    ⟨(some 9), none, .mov (.tmp 0)⟩,
    ⟨(some 10), none, .ibin .shr (.tmp 9) (.const (.int .u64 16))⟩,
    ⟨(some 0), none, .mov (.tmp 10)⟩]

def f15r6 : List AInstr := [
    ⟨(some 11), none, .mov (.tmp 2)⟩,
    ⟨(some 12), none, .ibin .add (.tmp 11) (.const (.int .i64 16))⟩,
    ⟨(some 2), none, .mov (.tmp 12)⟩]

def f15r7 : List AInstr := [
    ⟨(some 13), none, .mov (.tmp 0)⟩,
    ⟨(some 14), none, .ibin .geq (.tmp 13) (.const (.int .u64 256))⟩]

def f15r8 : List AInstr := [
    ⟨(some 15), none, .mov (.tmp 0)⟩,
    ⟨(some 16), none, .ibin .shr (.tmp 15) (.const (.int .u64 8))⟩,
    ⟨(some 0), none, .mov (.tmp 16)⟩]

def f15r9 : List AInstr := [
    ⟨(some 17), none, .mov (.tmp 2)⟩,
    ⟨(some 18), none, .ibin .add (.tmp 17) (.const (.int .i64 8))⟩,
    ⟨(some 2), none, .mov (.tmp 18)⟩]

def f15r10s0 : ByteArray := ⟨#[0, 1, 2, 2, 3, 3, 3, 3, 4, 4, 4, 4, 4, 4, 4, 4, 5, 5, 5, 5, 5, 5, 5, 5, 5, 5, 5, 5, 5, 5, 5, 5, 6, 6, 6, 6, 6, 6, 6, 6, 6, 6, 6, 6, 6, 6, 6, 6, 6, 6, 6, 6, 6, 6, 6, 6, 6, 6, 6, 6, 6, 6, 6, 6, 7, 7, 7, 7, 7, 7, 7, 7, 7, 7, 7, 7, 7, 7, 7, 7, 7, 7, 7, 7, 7, 7, 7, 7, 7, 7, 7, 7, 7, 7, 7, 7, 7, 7, 7, 7, 7, 7, 7, 7, 7, 7, 7, 7, 7, 7, 7, 7, 7, 7, 7, 7, 7, 7, 7, 7, 7, 7, 7, 7, 7, 7, 7, 7, 8, 8, 8, 8, 8, 8, 8, 8, 8, 8, 8, 8, 8, 8, 8, 8, 8, 8, 8, 8, 8, 8, 8, 8, 8, 8, 8, 8, 8, 8, 8, 8, 8, 8, 8, 8, 8, 8, 8, 8, 8, 8, 8, 8, 8, 8, 8, 8, 8, 8, 8, 8, 8, 8, 8, 8, 8, 8, 8, 8, 8, 8, 8, 8, 8, 8, 8, 8, 8, 8, 8, 8, 8, 8, 8, 8, 8, 8, 8, 8, 8, 8, 8, 8, 8, 8, 8, 8, 8, 8, 8, 8, 8, 8, 8, 8, 8, 8, 8, 8, 8, 8, 8, 8, 8, 8, 8, 8, 8, 8, 8, 8, 8, 8, 8, 8, 8, 8, 8, 8, 8, 8, 8, 8, 8, 8, 8, 8]⟩

def f15r10 : List AInstr := [
    ⟨(some 19), none, .mov (.tmp 2)⟩,
    ⟨(some 20), none, .mov (.tmp 0)⟩,
    ⟨(some 21), none, .conv .u8 (.tmp 20)⟩,
    ⟨(some 22), none, .indexStr (.const (.string f15r10s0)) (.tmp 21)⟩,
    ⟨(some 23), none, .conv .i64 (.tmp 22)⟩,
    ⟨(some 24), none, .ibin .add (.tmp 19) (.tmp 23)⟩,
    ⟨(some 2), none, .mov (.tmp 24)⟩]

def f15b : ACode := (.seq (.ops f15r0)
  (.keep [0, 2] (.seq (.seq (.ops f15r1)
  (.keep [0, 2, 4] (.cond (.tmp 4) (.keep [0] (.seq (.ops f15r2)
  (.keep [0] (.ops f15r3)))) .skip)))
  (.keep [0, 2] (.seq (.seq (.ops f15r4)
  (.keep [0, 2, 8] (.cond (.tmp 8) (.keep [0, 2] (.seq (.ops f15r5)
  (.keep [0, 2] (.ops f15r6)))) .skip)))
  (.keep [0, 2] (.seq (.seq (.ops f15r7)
  (.keep [0, 2, 14] (.cond (.tmp 14) (.keep [0, 2] (.seq (.ops f15r8)
  (.keep [0, 2] (.ops f15r9)))) .skip)))
  (.keep [0, 2] (.seq (.ops f15r10)
  (.keep [2] .ret))))))))))

def f15 : AFn := ⟨25, [.tmp 2], f15b⟩

theorem f15_ok : compFn Try.prog 15 = some f15.strip := by kernel_rfl

/- function 16: weirhouse/frac.lowest; parameters 2; operations that are not compiled: 0 -/
def f16r0 : List AInstr := [
    ⟨(some 4), none, .alloc [.int .i64 0, .int .i64 0]⟩,
    ⟨(some 5), none, .mov (.const (.int .i64 0))⟩]

def f16r1 : List AInstr := [
    ⟨(some 8), none, .mov (.tmp 0)⟩,
    ⟨(some 9), none, .mov (.tmp 1)⟩,
    ⟨(some 10), none, .callF 17 [.tmp 8, .tmp 9]⟩,
    ⟨(some 6), none, .mov (.tmp 10)⟩]

def f16r2 : List AInstr := [
    ⟨(some 11), none, .mov (.tmp 0)⟩,
    ⟨(some 12), none, .mov (.tmp 6)⟩,
    ⟨(some 13), none, .ibin .quo (.tmp 11) (.tmp 12)⟩,
    ⟨(some 14), none, .mov (.tmp 1)⟩,
    ⟨(some 15), none, .mov (.tmp 6)⟩,
    ⟨(some 16), none, .ibin .quo (.tmp 14) (.tmp 15)⟩,
    ⟨(some 17), none, .build [.int .i64 0, .int .i64 0] [(0, 1, (.tmp 13)), (1, 1, (.tmp 16))]⟩,
    ⟨(some 7), none, .alloc [.int .i64 0, .int .i64 0]⟩,
    ⟨none, none, .store 2 (.tmp 7) (.tmp 17)⟩]

def f16r3 : List AInstr := [
    ⟨(some 18), none, .load (some 2) (.tmp 7)⟩,
    ⟨(some 19), none, .callF 11 [.tmp 18]⟩,
    ⟨(some 20), none, .un .not (.tmp 19)⟩]

def f16r4 : List AInstr := [
    ⟨(some 21), none, .build [.int .i64 0, .int .i64 0] []⟩,
    ⟨none, none, .store 2 (.tmp 4) (.tmp 21)⟩,
    ⟨(some 5), none, .mov (.const (.int .i64 4))⟩]

def f16r5 : List AInstr := [
    ⟨(some 22), none, .load (some 2) (.tmp 7)⟩,
    ⟨none, none, .store 2 (.tmp 4) (.tmp 22)⟩,
    ⟨(some 5), none, .mov (.const (.int .i64 0))⟩]

def f16b : ACode := (.seq (.ops f16r0)
  (.keep [0, 1, 4] (.seq (.ops f16r1)
  (.keep [0, 1, 4, 6] (.seq (.draw f16r2 [(0, 1, false), (0, 1, false), (0, 1, false), (0, 1, false), (0, 1, false), (0, 1, false), (0, 1, false), (0, 1, true), (1, 2, true)])
  (.keep [4, 7] (.seq (.seq (.ops f16r3)
  (.keep [4, 7, 20] (.cond (.tmp 20) (.keep [4] (.seq (.ops f16r4)
  (.keep [4, 5] .ret))) .skip)))
  (.keep [4, 7] (.seq (.ops f16r5)
  (.keep [4, 5] .ret))))))))))

def f16 : AFn := ⟨23, [.cell 4 (some 2), .tmp 5], f16b⟩

theorem f16_ok : compFn Try.prog 16 = some f16.strip := by kernel_rfl

/- function 17: weirhouse/frac.gcd; parameters 2; operations that are not compiled: 0 -/
def f17r0 : List AInstr := [
    ⟨(some 4), none, .mov (.const (.int .i64 0))⟩]

def f17r1 : List AInstr := [
    ⟨(some 5), none, .mov (.tmp 1)⟩,
    ⟨(some 6), none, .ibin .neq (.tmp 5) (.const (.int .i64 0))⟩]

def f17r2 : List AInstr := [
    ⟨(some 7), none, .mov (.tmp 1)⟩,
    ⟨(some 8), none, .mov (.tmp 0)⟩,
    ⟨(some 9), none, .mov (.tmp 1)⟩,
    ⟨(some 10), none, .ibin .rem (.tmp 8) (.tmp 9)⟩,
    ⟨(some 0), none, .mov (.tmp 7)⟩,
    ⟨(some 1), none, .mov (.tmp 10)⟩]

/-- live: [0, 1] -/
def f17l0 : ACode := (.seq (.seq (.ops f17r1)
  (.keep [0, 1, 6] (.cond (.tmp 6) .skip (.exit 0))))
  (.keep [0, 1] (.block 1 (.draw f17r2 [(0, 0, false), (0, 0, false), (0, 0, false), (0, 0, false), (0, 0, false), (0, 0, false)]))))

def f17r4 : List AInstr := [
    ⟨(some 11), none, .mov (.tmp 0)⟩,
    ⟨(some 12), none, .mov (.tmp 0)⟩,
    ⟨(some 13), none, .un .neg (.tmp 12)⟩,
    ⟨(some 14), none, .minmax true [.tmp 11, .tmp 13]⟩,
    ⟨(some 4), none, .mov (.tmp 14)⟩]

def f17b : ACode := (.seq (.ops f17r0)
  (.keep [0, 1] (.seq (.block 0 (.loop f17l0))
  (.keep [0] (.seq (.ops f17r4)
  (.keep [4] .ret))))))

def f17 : AFn := ⟨15, [.tmp 4], f17b⟩

theorem f17_ok : compFn Try.prog 17 = some f17.strip := by kernel_rfl

end Go.Proofs.Ytandagipamhmgaa
