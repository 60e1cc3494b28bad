/-
  The functions of this seat as abstract code. Printed by a program of this claim's writer.
-/
import Derived.Test.YtabjglejldapgaaChecked
import Derived.Test.YtabjglejldapgaaAmS
import Derived.KernelRfl
namespace Go.Proofs.Ytabjglejldapgaa
open Go Go.Am

/- function 3: weirhouse/weirhousekeep.ShareAll; parameters 3; operations that are not compiled: 0 -/
def f3r0 : List AInstr := [
    ⟨(some 6), none, .mov (.const (.bool false))⟩]

def f3r1 : List AInstr := [
    ⟨(some 16), none, .callF 7 []⟩,
    ⟨(some 17), none, .un .not (.tmp 16)⟩]

def f3r2 : List AInstr := [
    ⟨(some 6), none, .mov (.const (.bool false))⟩]

def f3r3 : List AInstr := [
    ⟨(some 19), none, .mov (.tmp 0)⟩,
    ⟨(some 20), none, .mov (.tmp 1)⟩,
    ⟨(some 21), none, .mov (.tmp 2)⟩,
    ⟨(some 22), none, .callF 8 [.tmp 19, .tmp 20, .tmp 21]⟩,
    ⟨(some 18), none, .mov (.tmp 22)⟩,
    ⟨(some 23), none, .extract 0 (.tmp 18)⟩,
    ⟨(some 24), none, .extract 1 (.tmp 18)⟩,
    ⟨(some 7), none, .mov (.tmp 23)⟩,
    ⟨(some 8), none, .mov (.tmp 24)⟩]

def f3r4 : List AInstr := [
    ⟨(some 26), none, .mov (.tmp 0)⟩,
    ⟨(some 27), none, .mov (.tmp 1)⟩,
    ⟨(some 28), none, .mov (.tmp 2)⟩,
    ⟨(some 29), none, .callF 9 [.tmp 26, .tmp 27, .tmp 28]⟩,
    ⟨(some 25), none, .mov (.tmp 29)⟩,
    ⟨(some 30), none, .extract 0 (.tmp 25)⟩,
    ⟨(some 31), none, .extract 1 (.tmp 25)⟩,
    ⟨(some 9), none, .alloc [.int .i64 0, .int .i64 0]⟩,
    ⟨none, none, .store 2 (.tmp 9) (.tmp 30)⟩,
    ⟨(some 10), none, .mov (.tmp 31)⟩]

def f3r5 : List AInstr := [
    ⟨(some 32), none, .mov (.tmp 8)⟩,
    ⟨(some 33), none, .ibin .neq (.tmp 32) (.const (.int .i64 0))⟩,
    ⟨(some 34), none, .mov (.tmp 33)⟩,
    ⟨(some 35), (some (34, false)), .mov (.tmp 10)⟩,
    ⟨(some 36), (some (34, false)), .ibin .neq (.tmp 35) (.const (.int .i64 0))⟩,
    ⟨(some 37), none, .pick (.tmp 34) (.const (.bool true)) (.tmp 36)⟩]

def f3r6 : List AInstr := [
    ⟨(some 38), none, .mov (.tmp 7)⟩,
    ⟨(some 39), none, .len (.tmp 38)⟩,
    ⟨(some 40), none, .ibin .eql (.tmp 39) (.const (.int .i64 0))⟩,
    ⟨(some 6), none, .mov (.tmp 40)⟩]

def f3r7 : List AInstr := [
    ⟨(some 41), none, .fieldAddr 1 (.tmp 9)⟩,
    ⟨(some 42), none, .load none (.tmp 41)⟩,
    ⟨(some 43), none, .minmax true [.tmp 42, .const (.int .i64 1)]⟩,
    ⟨(some 11), none, .mov (.tmp 43)⟩]

def f3r8 : List AInstr := [
    ⟨(some 12), none, .mov (.const (.int .i64 0))⟩,
    ⟨(some 13), none, .mov (.const (.int .i64 0))⟩]

def f3r9 : List AInstr := [
    ⟨(some 44), none, .mov (.tmp 7)⟩,
    ⟨(some 45), none, .len (.tmp 44)⟩,
    ⟨(some 46), none, .mov (.const (.int .i64 0))⟩]

def f3r10 : List AInstr := [
    ⟨(some 47), none, .ibin .lss (.tmp 46) (.tmp 45)⟩]

def f3r11 : List AInstr := [
    ⟨(some 48), none, .mov (.tmp 46)⟩,
    ⟨(some 49), none, .indexAddr 2 (.tmp 44) (.tmp 46)⟩,
    ⟨(some 50), none, .load (some 2) (.tmp 49)⟩,
    ⟨(some 15), none, .alloc [.int .i64 0, .int .i64 0]⟩,
    ⟨(some 14), none, .mov (.tmp 48)⟩,
    ⟨none, none, .store 2 (.tmp 15) (.tmp 50)⟩]

def f3r12 : List AInstr := [
    ⟨(some 51), none, .mov (.tmp 14)⟩,
    ⟨(some 52), none, .mov (.tmp 1)⟩,
    ⟨(some 53), none, .len (.tmp 52)⟩,
    ⟨(some 54), none, .ibin .geq (.tmp 51) (.tmp 53)⟩,
    ⟨(some 55), none, .mov (.tmp 54)⟩,
    ⟨(some 56), (some (55, false)), .fieldAddr 1 (.tmp 15)⟩,
    ⟨(some 57), (some (55, false)), .load none (.tmp 56)⟩,
    ⟨(some 58), (some (55, false)), .ibin .lss (.tmp 57) (.const (.int .i64 1))⟩,
    ⟨(some 59), none, .pick (.tmp 55) (.const (.bool true)) (.tmp 58)⟩,
    ⟨(some 60), none, .mov (.tmp 59)⟩,
    ⟨(some 61), (some (60, false)), .mov (.tmp 11)⟩,
    ⟨(some 62), (some (60, false)), .fieldAddr 1 (.tmp 15)⟩,
    ⟨(some 63), (some (60, false)), .load none (.tmp 62)⟩,
    ⟨(some 64), (some (60, false)), .ibin .rem (.tmp 61) (.tmp 63)⟩,
    ⟨(some 65), (some (60, false)), .ibin .neq (.tmp 64) (.const (.int .i64 0))⟩,
    ⟨(some 66), none, .pick (.tmp 60) (.const (.bool true)) (.tmp 65)⟩,
    ⟨(some 67), none, .mov (.tmp 66)⟩,
    ⟨(some 68), (some (67, false)), .fieldAddr 0 (.tmp 15)⟩,
    ⟨(some 69), (some (67, false)), .load none (.tmp 68)⟩,
    ⟨(some 70), (some (67, false)), .mov (.tmp 1)⟩,
    ⟨(some 71), (some (67, false)), .mov (.tmp 14)⟩,
    ⟨(some 72), (some (67, false)), .indexAddr 1 (.tmp 70) (.tmp 71)⟩,
    ⟨(some 73), (some (67, false)), .load none (.tmp 72)⟩,
    ⟨(some 74), (some (67, false)), .fieldAddr 1 (.tmp 15)⟩,
    ⟨(some 75), (some (67, false)), .load none (.tmp 74)⟩,
    ⟨(some 76), (some (67, false)), .ibin .mul (.tmp 73) (.tmp 75)⟩,
    ⟨(some 77), (some (67, false)), .ibin .gtr (.tmp 69) (.tmp 76)⟩,
    ⟨(some 78), none, .pick (.tmp 67) (.const (.bool true)) (.tmp 77)⟩,
    ⟨(some 79), none, .mov (.tmp 78)⟩,
    ⟨(some 80), (some (79, false)), .fieldAddr 0 (.tmp 15)⟩,
    ⟨(some 81), (some (79, false)), .load none (.tmp 80)⟩,
    ⟨(some 82), (some (79, false)), .ibin .lss (.tmp 81) (.const (.int .i64 0))⟩,
    ⟨(some 83), none, .pick (.tmp 79) (.const (.bool true)) (.tmp 82)⟩]

def f3r13 : List AInstr := [
    ⟨(some 6), none, .mov (.const (.bool false))⟩]

def f3r14 : List AInstr := [
    ⟨(some 84), none, .mov (.tmp 12)⟩,
    ⟨(some 85), none, .fieldAddr 0 (.tmp 15)⟩,
    ⟨(some 86), none, .load none (.tmp 85)⟩,
    ⟨(some 87), none, .mov (.tmp 11)⟩,
    ⟨(some 88), none, .fieldAddr 1 (.tmp 15)⟩,
    ⟨(some 89), none, .load none (.tmp 88)⟩,
    ⟨(some 90), none, .ibin .quo (.tmp 87) (.tmp 89)⟩,
    ⟨(some 91), none, .ibin .mul (.tmp 86) (.tmp 90)⟩,
    ⟨(some 92), none, .ibin .add (.tmp 84) (.tmp 91)⟩,
    ⟨(some 12), none, .mov (.tmp 92)⟩]

def f3r15 : List AInstr := [
    ⟨(some 93), none, .mov (.tmp 13)⟩,
    ⟨(some 94), none, .mov (.tmp 1)⟩,
    ⟨(some 95), none, .mov (.tmp 14)⟩,
    ⟨(some 96), none, .indexAddr 1 (.tmp 94) (.tmp 95)⟩,
    ⟨(some 97), none, .load none (.tmp 96)⟩,
    ⟨(some 98), none, .ibin .add (.tmp 93) (.tmp 97)⟩,
    ⟨(some 13), none, .mov (.tmp 98)⟩]

def f3r16 : List AInstr := [
    ⟨(some 99), none, .ibin .add (.tmp 46) (.const (.int .i64 1))⟩,
    ⟨(some 46), none, .mov (.tmp 99)⟩]

/-- live: [0, 1, 7, 11, 12, 13, 44, 45, 46] -/
def f3l0 : ACode := (.seq (.ops f3r10)
  (.keep [0, 1, 7, 11, 12, 13, 44, 45, 46, 47] (.seq (.cond (.tmp 47) .skip (.exit 0))
  (.keep [0, 1, 7, 11, 12, 13, 44, 45, 46] (.seq (.block 1 (.seq (.ops f3r11)
  (.keep [0, 1, 7, 11, 12, 13, 14, 15, 44, 45, 46] (.seq (.seq (.draw f3r12 [(0, 0, false), (0, 0, false), (0, 0, false), (0, 0, false), (0, 0, false), (0, 0, false), (0, 0, false), (0, 0, false), (0, 0, false), (0, 0, false), (0, 0, false), (0, 0, false), (0, 0, false), (0, 0, false), (0, 0, false), (0, 0, false), (0, 0, false), (0, 0, false), (0, 0, false), (0, 0, false), (0, 0, false), (0, 0, false), (0, 0, false), (0, 0, false), (0, 0, false), (0, 0, false), (0, 0, false), (0, 0, false), (0, 0, false), (0, 0, false), (0, 0, false), (0, 0, false), (0, 0, false)])
  (.keep [0, 1, 7, 11, 12, 13, 14, 15, 44, 45, 46, 83] (.cond (.tmp 83) (.keep [] (.seq (.ops f3r13)
  (.keep [6] .ret))) .skip)))
  (.keep [0, 1, 7, 11, 12, 13, 14, 15, 44, 45, 46] (.seq (.draw f3r14 [(0, 0, false), (0, 0, false), (0, 0, false), (0, 0, false), (0, 0, false), (0, 0, false), (0, 0, false), (0, 0, false), (0, 0, false), (0, 0, false)])
  (.keep [0, 1, 7, 11, 12, 13, 14, 44, 45, 46] (.ops f3r15))))))))
  (.keep [0, 1, 7, 11, 12, 13, 44, 45, 46] (.ops f3r16)))))))

def f3r18 : List AInstr := [
    ⟨(some 100), none, .mov (.tmp 7)⟩,
    ⟨(some 101), none, .len (.tmp 100)⟩,
    ⟨(some 102), none, .mov (.tmp 1)⟩,
    ⟨(some 103), none, .len (.tmp 102)⟩,
    ⟨(some 104), none, .ibin .eql (.tmp 101) (.tmp 103)⟩,
    ⟨(some 105), none, .mov (.tmp 104)⟩,
    ⟨(some 106), (some (105, true)), .mov (.tmp 12)⟩,
    ⟨(some 107), (some (105, true)), .mov (.tmp 0)⟩,
    ⟨(some 108), (some (105, true)), .mov (.tmp 13)⟩,
    ⟨(some 109), (some (105, true)), .minmax false [.tmp 107, .tmp 108]⟩,
    ⟨(some 110), (some (105, true)), .mov (.tmp 11)⟩,
    ⟨(some 111), (some (105, true)), .ibin .mul (.tmp 109) (.tmp 110)⟩,
    ⟨(some 112), (some (105, true)), .ibin .eql (.tmp 106) (.tmp 111)⟩,
    ⟨(some 113), none, .pick (.tmp 105) (.tmp 112) (.const (.bool false))⟩,
    ⟨(some 6), none, .mov (.tmp 113)⟩]

def f3b : ACode := (.seq (.ops f3r0)
  (.keep [0, 1, 2] (.seq (.seq (.ops f3r1)
  (.keep [0, 1, 2, 17] (.cond (.tmp 17) (.keep [] (.seq (.ops f3r2)
  (.keep [6] .ret))) .skip)))
  (.keep [0, 1, 2] (.seq (.ops f3r3)
  (.keep [0, 1, 2, 7, 8] (.seq (.ops f3r4)
  (.keep [0, 1, 7, 8, 9, 10] (.seq (.seq (.ops f3r5)
  (.keep [0, 1, 7, 9, 37] (.cond (.tmp 37) (.keep [7] (.seq (.ops f3r6)
  (.keep [6] .ret))) .skip)))
  (.keep [0, 1, 7, 9] (.seq (.ops f3r7)
  (.keep [0, 1, 7, 11] (.seq (.ops f3r8)
  (.keep [0, 1, 7, 11, 12, 13] (.seq (.seq (.ops f3r9)
  (.keep [0, 1, 7, 11, 12, 13, 44, 45, 46] (.block 0 (.loop f3l0))))
  (.keep [0, 1, 7, 11, 12, 13] (.seq (.ops f3r18)
  (.keep [6] .ret))))))))))))))))))

def f3 : AFn := ⟨114, [.tmp 6], f3b⟩

theorem f3_ok : compFn Try.prog 3 = some f3.strip := by kernel_rfl

/- function 4: weirhouse/weirhousekeep.ShareFair; parameters 4; operations that are not compiled: 0 -/
def f4r0 : List AInstr := [
    ⟨(some 8), none, .mov (.const (.bool false))⟩]

def f4r1 : List AInstr := [
    ⟨(some 19), none, .callF 7 []⟩,
    ⟨(some 20), none, .un .not (.tmp 19)⟩]

def f4r2 : List AInstr := [
    ⟨(some 8), none, .mov (.const (.bool false))⟩]

def f4r3 : List AInstr := [
    ⟨(some 22), none, .mov (.tmp 0)⟩,
    ⟨(some 23), none, .mov (.tmp 1)⟩,
    ⟨(some 24), none, .mov (.tmp 2)⟩,
    ⟨(some 25), none, .callF 8 [.tmp 22, .tmp 23, .tmp 24]⟩,
    ⟨(some 21), none, .mov (.tmp 25)⟩,
    ⟨(some 26), none, .extract 0 (.tmp 21)⟩,
    ⟨(some 27), none, .extract 1 (.tmp 21)⟩,
    ⟨(some 9), none, .mov (.tmp 26)⟩,
    ⟨(some 10), none, .mov (.tmp 27)⟩]

def f4r4 : List AInstr := [
    ⟨(some 28), none, .mov (.tmp 10)⟩,
    ⟨(some 29), none, .ibin .neq (.tmp 28) (.const (.int .i64 0))⟩,
    ⟨(some 30), none, .mov (.tmp 29)⟩,
    ⟨(some 31), (some (30, false)), .mov (.tmp 9)⟩,
    ⟨(some 32), (some (30, false)), .len (.tmp 31)⟩,
    ⟨(some 33), (some (30, false)), .mov (.tmp 1)⟩,
    ⟨(some 34), (some (30, false)), .len (.tmp 33)⟩,
    ⟨(some 35), (some (30, false)), .ibin .neq (.tmp 32) (.tmp 34)⟩,
    ⟨(some 36), none, .pick (.tmp 30) (.const (.bool true)) (.tmp 35)⟩,
    ⟨(some 37), none, .mov (.tmp 36)⟩,
    ⟨(some 38), (some (37, false)), .mov (.tmp 3)⟩,
    ⟨(some 39), (some (37, false)), .len (.tmp 38)⟩,
    ⟨(some 40), (some (37, false)), .mov (.tmp 1)⟩,
    ⟨(some 41), (some (37, false)), .len (.tmp 40)⟩,
    ⟨(some 42), (some (37, false)), .ibin .neq (.tmp 39) (.tmp 41)⟩,
    ⟨(some 43), none, .pick (.tmp 37) (.const (.bool true)) (.tmp 42)⟩]

def f4r5 : List AInstr := [
    ⟨(some 44), none, .mov (.tmp 10)⟩,
    ⟨(some 45), none, .ibin .neq (.tmp 44) (.const (.int .i64 0))⟩,
    ⟨(some 46), none, .mov (.tmp 45)⟩,
    ⟨(some 47), (some (46, false)), .mov (.tmp 9)⟩,
    ⟨(some 48), (some (46, false)), .len (.tmp 47)⟩,
    ⟨(some 49), (some (46, false)), .mov (.tmp 1)⟩,
    ⟨(some 50), (some (46, false)), .len (.tmp 49)⟩,
    ⟨(some 51), (some (46, false)), .ibin .eql (.tmp 48) (.tmp 50)⟩,
    ⟨(some 52), none, .pick (.tmp 46) (.const (.bool true)) (.tmp 51)⟩,
    ⟨(some 8), none, .mov (.tmp 52)⟩]

def f4r6 : List AInstr := [
    ⟨(some 11), none, .mov (.const (.int .i64 0))⟩]

def f4r7 : List AInstr := [
    ⟨(some 53), none, .mov (.tmp 3)⟩,
    ⟨(some 54), none, .len (.tmp 53)⟩,
    ⟨(some 55), none, .mov (.const (.int .i64 0))⟩]

def f4r8 : List AInstr := [
    ⟨(some 56), none, .ibin .lss (.tmp 55) (.tmp 54)⟩]

def f4r9 : List AInstr := [
    ⟨(some 57), none, .mov (.tmp 55)⟩,
    ⟨(some 58), none, .indexAddr 1 (.tmp 53) (.tmp 55)⟩,
    ⟨(some 59), none, .load none (.tmp 58)⟩,
    ⟨(some 12), none, .mov (.tmp 57)⟩,
    ⟨(some 13), none, .mov (.tmp 59)⟩]

def f4r10 : List AInstr := [
    ⟨(some 60), none, .mov (.tmp 13)⟩,
    ⟨(some 61), none, .ibin .lss (.tmp 60) (.const (.int .i64 0))⟩,
    ⟨(some 62), none, .mov (.tmp 61)⟩,
    ⟨(some 63), (some (62, false)), .mov (.tmp 13)⟩,
    ⟨(some 64), (some (62, false)), .mov (.tmp 1)⟩,
    ⟨(some 65), (some (62, false)), .mov (.tmp 12)⟩,
    ⟨(some 66), (some (62, false)), .indexAddr 1 (.tmp 64) (.tmp 65)⟩,
    ⟨(some 67), (some (62, false)), .load none (.tmp 66)⟩,
    ⟨(some 68), (some (62, false)), .ibin .gtr (.tmp 63) (.tmp 67)⟩,
    ⟨(some 69), none, .pick (.tmp 62) (.const (.bool true)) (.tmp 68)⟩]

def f4r11 : List AInstr := [
    ⟨(some 8), none, .mov (.const (.bool true))⟩]

def f4r12 : List AInstr := [
    ⟨(some 70), none, .mov (.tmp 11)⟩,
    ⟨(some 71), none, .mov (.tmp 13)⟩,
    ⟨(some 72), none, .ibin .add (.tmp 70) (.tmp 71)⟩,
    ⟨(some 11), none, .mov (.tmp 72)⟩]

def f4r13 : List AInstr := [
    ⟨(some 73), none, .ibin .add (.tmp 55) (.const (.int .i64 1))⟩,
    ⟨(some 55), none, .mov (.tmp 73)⟩]

/-- live: [0, 1, 2, 3, 9, 11, 53, 54, 55] -/
def f4l0 : ACode := (.seq (.ops f4r8)
  (.keep [0, 1, 2, 3, 9, 11, 53, 54, 55, 56] (.seq (.cond (.tmp 56) .skip (.exit 0))
  (.keep [0, 1, 2, 3, 9, 11, 53, 54, 55] (.seq (.block 1 (.seq (.ops f4r9)
  (.keep [0, 1, 2, 3, 9, 11, 12, 13, 53, 54, 55] (.seq (.seq (.ops f4r10)
  (.keep [0, 1, 2, 3, 9, 11, 13, 53, 54, 55, 69] (.cond (.tmp 69) (.keep [] (.seq (.ops f4r11)
  (.keep [8] .ret))) .skip)))
  (.keep [0, 1, 2, 3, 9, 11, 13, 53, 54, 55] (.ops f4r12))))))
  (.keep [0, 1, 2, 3, 9, 11, 53, 54, 55] (.ops f4r13)))))))

def f4r15 : List AInstr := [
    ⟨(some 74), none, .mov (.tmp 11)⟩,
    ⟨(some 75), none, .mov (.tmp 0)⟩,
    ⟨(some 76), none, .ibin .gtr (.tmp 74) (.tmp 75)⟩]

def f4r16 : List AInstr := [
    ⟨(some 8), none, .mov (.const (.bool true))⟩]

def f4r17 : List AInstr := [
    ⟨(some 77), none, .mov (.tmp 3)⟩,
    ⟨(some 78), none, .len (.tmp 77)⟩,
    ⟨(some 79), none, .mov (.const (.int .i64 0))⟩]

def f4r18 : List AInstr := [
    ⟨(some 80), none, .ibin .lss (.tmp 79) (.tmp 78)⟩]

def f4r19 : List AInstr := [
    ⟨(some 81), none, .mov (.tmp 79)⟩,
    ⟨(some 82), none, .indexAddr 1 (.tmp 77) (.tmp 79)⟩,
    ⟨(some 83), none, .load none (.tmp 82)⟩,
    ⟨(some 14), none, .mov (.tmp 81)⟩,
    ⟨(some 15), none, .mov (.tmp 83)⟩]

def f4r20 : List AInstr := [
    ⟨(some 84), none, .mov (.tmp 15)⟩,
    ⟨(some 85), none, .mov (.tmp 9)⟩,
    ⟨(some 86), none, .mov (.tmp 14)⟩,
    ⟨(some 87), none, .indexAddr 2 (.tmp 85) (.tmp 86)⟩,
    ⟨(some 88), none, .fieldAddr 1 (.tmp 87)⟩,
    ⟨(some 89), none, .load none (.tmp 88)⟩,
    ⟨(some 90), none, .ibin .mul (.tmp 84) (.tmp 89)⟩,
    ⟨(some 91), none, .mov (.tmp 9)⟩,
    ⟨(some 92), none, .mov (.tmp 14)⟩,
    ⟨(some 93), none, .indexAddr 2 (.tmp 91) (.tmp 92)⟩,
    ⟨(some 94), none, .fieldAddr 0 (.tmp 93)⟩,
    ⟨(some 95), none, .load none (.tmp 94)⟩,
    ⟨(some 96), none, .ibin .leq (.tmp 90) (.tmp 95)⟩]

def f4r21 : List AInstr := [
    ⟨(some 16), none, .mov (.const (.bool false))⟩]

def f4r22 : List AInstr := [
    ⟨(some 97), none, .mov (.tmp 3)⟩,
    ⟨(some 98), none, .len (.tmp 97)⟩,
    ⟨(some 99), none, .mov (.const (.int .i64 0))⟩]

def f4r23 : List AInstr := [
    ⟨(some 100), none, .ibin .lss (.tmp 99) (.tmp 98)⟩]

def f4r24 : List AInstr := [
    ⟨(some 101), none, .mov (.tmp 99)⟩,
    ⟨(some 102), none, .indexAddr 1 (.tmp 97) (.tmp 99)⟩,
    ⟨(some 103), none, .load none (.tmp 102)⟩,
    ⟨(some 17), none, .mov (.tmp 101)⟩,
    ⟨(some 18), none, .mov (.tmp 103)⟩]

def f4r25 : List AInstr := [
    ⟨(some 104), none, .mov (.tmp 16)⟩,
    ⟨(some 105), none, .mov (.tmp 104)⟩,
    ⟨(some 106), (some (105, false)), .mov (.tmp 18)⟩,
    ⟨(some 107), (some (105, false)), .mov (.tmp 9)⟩,
    ⟨(some 108), (some (105, false)), .mov (.tmp 17)⟩,
    ⟨(some 109), (some (105, false)), .indexAddr 2 (.tmp 107) (.tmp 108)⟩,
    ⟨(some 110), (some (105, false)), .fieldAddr 1 (.tmp 109)⟩,
    ⟨(some 111), (some (105, false)), .load none (.tmp 110)⟩,
    ⟨(some 112), (some (105, false)), .ibin .mul (.tmp 106) (.tmp 111)⟩,
    ⟨(some 113), (some (105, false)), .mov (.tmp 9)⟩,
    ⟨(some 114), (some (105, false)), .mov (.tmp 17)⟩,
    ⟨(some 115), (some (105, false)), .indexAddr 2 (.tmp 113) (.tmp 114)⟩,
    ⟨(some 116), (some (105, false)), .fieldAddr 0 (.tmp 115)⟩,
    ⟨(some 117), (some (105, false)), .load none (.tmp 116)⟩,
    ⟨(some 118), (some (105, false)), .ibin .lss (.tmp 112) (.tmp 117)⟩,
    ⟨(some 119), (some (105, false)), .mov (.tmp 118)⟩,
    ⟨(some 120), (some (119, true)), .mov (.tmp 9)⟩,
    ⟨(some 121), (some (119, true)), .mov (.tmp 17)⟩,
    ⟨(some 122), (some (119, true)), .indexAddr 2 (.tmp 120) (.tmp 121)⟩,
    ⟨(some 123), (some (119, true)), .fieldAddr 0 (.tmp 122)⟩,
    ⟨(some 124), (some (119, true)), .load none (.tmp 123)⟩,
    ⟨(some 125), (some (119, true)), .mov (.tmp 2)⟩,
    ⟨(some 126), (some (119, true)), .mov (.tmp 14)⟩,
    ⟨(some 127), (some (119, true)), .indexAddr 1 (.tmp 125) (.tmp 126)⟩,
    ⟨(some 128), (some (119, true)), .load none (.tmp 127)⟩,
    ⟨(some 129), (some (119, true)), .ibin .mul (.tmp 124) (.tmp 128)⟩,
    ⟨(some 130), (some (119, true)), .mov (.tmp 9)⟩,
    ⟨(some 131), (some (119, true)), .mov (.tmp 14)⟩,
    ⟨(some 132), (some (119, true)), .indexAddr 2 (.tmp 130) (.tmp 131)⟩,
    ⟨(some 133), (some (119, true)), .fieldAddr 1 (.tmp 132)⟩,
    ⟨(some 134), (some (119, true)), .load none (.tmp 133)⟩,
    ⟨(some 135), (some (119, true)), .ibin .mul (.tmp 129) (.tmp 134)⟩,
    ⟨(some 136), (some (119, true)), .mov (.tmp 9)⟩,
    ⟨(some 137), (some (119, true)), .mov (.tmp 14)⟩,
    ⟨(some 138), (some (119, true)), .indexAddr 2 (.tmp 136) (.tmp 137)⟩,
    ⟨(some 139), (some (119, true)), .fieldAddr 0 (.tmp 138)⟩,
    ⟨(some 140), (some (119, true)), .load none (.tmp 139)⟩,
    ⟨(some 141), (some (119, true)), .mov (.tmp 2)⟩,
    ⟨(some 142), (some (119, true)), .mov (.tmp 17)⟩,
    ⟨(some 143), (some (119, true)), .indexAddr 1 (.tmp 141) (.tmp 142)⟩,
    ⟨(some 144), (some (119, true)), .load none (.tmp 143)⟩,
    ⟨(some 145), (some (119, true)), .ibin .mul (.tmp 140) (.tmp 144)⟩,
    ⟨(some 146), (some (119, true)), .mov (.tmp 9)⟩,
    ⟨(some 147), (some (119, true)), .mov (.tmp 17)⟩,
    ⟨(some 148), (some (119, true)), .indexAddr 2 (.tmp 146) (.tmp 147)⟩,
    ⟨(some 149), (some (119, true)), .fieldAddr 1 (.tmp 148)⟩,
    ⟨(some 150), (some (119, true)), .load none (.tmp 149)⟩,
    ⟨(some 151), (some (119, true)), .ibin .mul (.tmp 145) (.tmp 150)⟩,
    ⟨(some 152), (some (119, true)), .ibin .leq (.tmp 135) (.tmp 151)⟩,
    ⟨(some 153), (some (105, false)), .pick (.tmp 119) (.tmp 152) (.const (.bool false))⟩,
    ⟨(some 154), none, .pick (.tmp 105) (.const (.bool true)) (.tmp 153)⟩,
    ⟨(some 16), none, .mov (.tmp 154)⟩]

def f4r26 : List AInstr := [
    ⟨(some 155), none, .ibin .add (.tmp 99) (.const (.int .i64 1))⟩,
    ⟨(some 99), none, .mov (.tmp 155)⟩]

/-- live: [2, 3, 9, 14, 16, 77, 78, 79, 97, 98, 99] -/
def f4l1 : ACode := (.seq (.ops f4r23)
  (.keep [2, 3, 9, 14, 16, 77, 78, 79, 97, 98, 99, 100] (.seq (.cond (.tmp 100) .skip (.exit 4))
  (.keep [2, 3, 9, 14, 16, 77, 78, 79, 97, 98, 99] (.seq (.block 5 (.seq (.ops f4r24)
  (.keep [2, 3, 9, 14, 16, 17, 18, 77, 78, 79, 97, 98, 99] (.draw f4r25 [(0, 0, false), (0, 0, false), (0, 0, false), (0, 0, false), (0, 0, false), (0, 0, false), (0, 0, false), (0, 0, false), (0, 0, false), (0, 0, false), (0, 0, false), (0, 0, false), (0, 0, false), (0, 0, false), (0, 0, false), (0, 0, false), (0, 0, false), (0, 0, false), (0, 0, false), (0, 0, false), (0, 0, false), (0, 0, false), (0, 0, false), (0, 0, false), (0, 0, false), (0, 0, false), (0, 0, false), (0, 0, false), (0, 0, false), (0, 0, false), (0, 0, false), (0, 0, false), (0, 0, false), (0, 0, false), (0, 0, false), (0, 0, false), (0, 0, false), (0, 0, false), (0, 0, false), (0, 0, false), (0, 0, false), (0, 0, false), (0, 0, false), (0, 0, false), (0, 0, false), (0, 0, false), (0, 0, false), (0, 0, false), (0, 0, false), (0, 0, false), (0, 0, false), (0, 0, false)]))))
  (.keep [2, 3, 9, 14, 16, 77, 78, 79, 97, 98, 99] (.ops f4r26)))))))

def f4r28 : List AInstr := [
    ⟨(some 156), none, .mov (.tmp 16)⟩,
    ⟨(some 157), none, .un .not (.tmp 156)⟩]

def f4r29 : List AInstr := [
    ⟨(some 8), none, .mov (.const (.bool false))⟩]

def f4r30 : List AInstr := [
    ⟨(some 158), none, .ibin .add (.tmp 79) (.const (.int .i64 1))⟩,
    ⟨(some 79), none, .mov (.tmp 158)⟩]

/-- live: [2, 3, 9, 77, 78, 79] -/
def f4l2 : ACode := (.seq (.ops f4r18)
  (.keep [2, 3, 9, 77, 78, 79, 80] (.seq (.cond (.tmp 80) .skip (.exit 2))
  (.keep [2, 3, 9, 77, 78, 79] (.seq (.block 3 (.seq (.ops f4r19)
  (.keep [2, 3, 9, 14, 15, 77, 78, 79] (.seq (.seq (.draw f4r20 [(0, 0, false), (0, 0, false), (0, 0, false), (0, 0, false), (0, 0, false), (0, 0, false), (0, 0, false), (0, 0, false), (0, 0, false), (0, 0, false), (0, 0, false), (0, 0, false), (0, 0, false)])
  (.keep [2, 3, 9, 14, 77, 78, 79, 96] (.cond (.tmp 96) (.exit 3) .skip)))
  (.keep [2, 3, 9, 14, 77, 78, 79] (.seq (.ops f4r21)
  (.keep [2, 3, 9, 14, 16, 77, 78, 79] (.seq (.seq (.ops f4r22)
  (.keep [2, 3, 9, 14, 16, 77, 78, 79, 97, 98, 99] (.block 4 (.loop f4l1))))
  (.keep [2, 3, 9, 16, 77, 78, 79] (.seq (.ops f4r28)
  (.keep [2, 3, 9, 77, 78, 79, 157] (.cond (.tmp 157) (.keep [] (.seq (.ops f4r29)
  (.keep [8] .ret))) .skip))))))))))))
  (.keep [2, 3, 9, 77, 78, 79] (.ops f4r30)))))))

def f4r32 : List AInstr := [
    ⟨(some 8), none, .mov (.const (.bool true))⟩]

def f4b : ACode := (.seq (.ops f4r0)
  (.keep [0, 1, 2, 3] (.seq (.seq (.ops f4r1)
  (.keep [0, 1, 2, 3, 20] (.cond (.tmp 20) (.keep [] (.seq (.ops f4r2)
  (.keep [8] .ret))) .skip)))
  (.keep [0, 1, 2, 3] (.seq (.ops f4r3)
  (.keep [0, 1, 2, 3, 9, 10] (.seq (.seq (.ops f4r4)
  (.keep [0, 1, 2, 3, 9, 10, 43] (.cond (.tmp 43) (.keep [1, 9, 10] (.seq (.ops f4r5)
  (.keep [8] .ret))) .skip)))
  (.keep [0, 1, 2, 3, 9] (.seq (.ops f4r6)
  (.keep [0, 1, 2, 3, 9, 11] (.seq (.seq (.ops f4r7)
  (.keep [0, 1, 2, 3, 9, 11, 53, 54, 55] (.block 0 (.loop f4l0))))
  (.keep [0, 2, 3, 9, 11] (.seq (.seq (.ops f4r15)
  (.keep [2, 3, 9, 76] (.cond (.tmp 76) (.keep [] (.seq (.ops f4r16)
  (.keep [8] .ret))) .skip)))
  (.keep [2, 3, 9] (.seq (.seq (.ops f4r17)
  (.keep [2, 3, 9, 77, 78, 79] (.block 2 (.loop f4l2))))
  (.keep [] (.seq (.ops f4r32)
  (.keep [8] .ret))))))))))))))))))

def f4 : AFn := ⟨159, [.tmp 8], f4b⟩

theorem f4_ok : compFn Try.prog 4 = some f4.strip := by kernel_rfl

/- function 5: weirhouse/weirhousekeep.ShareMore; parameters 6; operations that are not compiled: 0 -/
def f5r0 : List AInstr := [
    ⟨(some 12), none, .mov (.const (.bool false))⟩]

def f5r1 : List AInstr := [
    ⟨(some 21), none, .callF 7 []⟩,
    ⟨(some 22), none, .un .not (.tmp 21)⟩]

def f5r2 : List AInstr := [
    ⟨(some 12), none, .mov (.const (.bool false))⟩]

def f5r3 : List AInstr := [
    ⟨(some 23), none, .mov (.tmp 3)⟩,
    ⟨(some 24), none, .ibin .lss (.tmp 23) (.const (.int .i64 0))⟩,
    ⟨(some 25), none, .mov (.tmp 24)⟩,
    ⟨(some 26), (some (25, false)), .mov (.tmp 5)⟩,
    ⟨(some 27), (some (25, false)), .ibin .lss (.tmp 26) (.const (.int .i64 0))⟩,
    ⟨(some 28), none, .pick (.tmp 25) (.const (.bool true)) (.tmp 27)⟩,
    ⟨(some 29), none, .mov (.tmp 28)⟩,
    ⟨(some 30), (some (29, false)), .mov (.tmp 3)⟩,
    ⟨(some 31), (some (29, false)), .ibin .gtr (.tmp 30) (.const (.int .i64 1000))⟩,
    ⟨(some 32), none, .pick (.tmp 29) (.const (.bool true)) (.tmp 31)⟩,
    ⟨(some 33), none, .mov (.tmp 32)⟩,
    ⟨(some 34), (some (33, false)), .mov (.tmp 5)⟩,
    ⟨(some 35), (some (33, false)), .ibin .gtr (.tmp 34) (.const (.int .i64 1000))⟩,
    ⟨(some 36), none, .pick (.tmp 33) (.const (.bool true)) (.tmp 35)⟩,
    ⟨(some 37), none, .mov (.tmp 36)⟩,
    ⟨(some 38), (some (37, false)), .mov (.tmp 4)⟩,
    ⟨(some 39), (some (37, false)), .ibin .lss (.tmp 38) (.const (.int .i64 0))⟩,
    ⟨(some 40), none, .pick (.tmp 37) (.const (.bool true)) (.tmp 39)⟩,
    ⟨(some 41), none, .mov (.tmp 40)⟩,
    ⟨(some 42), (some (41, false)), .mov (.tmp 4)⟩,
    ⟨(some 43), (some (41, false)), .mov (.tmp 1)⟩,
    ⟨(some 44), (some (41, false)), .len (.tmp 43)⟩,
    ⟨(some 45), (some (41, false)), .ibin .geq (.tmp 42) (.tmp 44)⟩,
    ⟨(some 46), none, .pick (.tmp 41) (.const (.bool true)) (.tmp 45)⟩]

def f5r4 : List AInstr := [
    ⟨(some 12), none, .mov (.const (.bool true))⟩]

def f5r5 : List AInstr := [
    ⟨(some 47), none, .mov (.tmp 1)⟩,
    ⟨(some 48), none, .callF 10 [.tmp 47]⟩,
    ⟨(some 13), none, .mov (.tmp 48)⟩]

def f5r6 : List AInstr := [
    ⟨(some 49), none, .mov (.tmp 13)⟩,
    ⟨(some 50), none, .mov (.tmp 4)⟩,
    ⟨(some 51), none, .indexAddr 1 (.tmp 49) (.tmp 50)⟩,
    ⟨(some 52), none, .load none (.tmp 51)⟩,
    ⟨(some 53), none, .mov (.tmp 5)⟩,
    ⟨(some 54), none, .ibin .sub (.tmp 52) (.tmp 53)⟩,
    ⟨(some 55), none, .indexAddr 1 (.tmp 49) (.tmp 50)⟩,
    ⟨none, none, .store 1 (.tmp 55) (.tmp 54)⟩]

def f5r7 : List AInstr := [
    ⟨(some 57), none, .mov (.tmp 0)⟩,
    ⟨(some 58), none, .mov (.tmp 1)⟩,
    ⟨(some 59), none, .mov (.tmp 2)⟩,
    ⟨(some 60), none, .callF 8 [.tmp 57, .tmp 58, .tmp 59]⟩,
    ⟨(some 56), none, .mov (.tmp 60)⟩,
    ⟨(some 61), none, .extract 0 (.tmp 56)⟩,
    ⟨(some 62), none, .extract 1 (.tmp 56)⟩,
    ⟨(some 14), none, .alloc [.slice none 0 0]⟩,
    ⟨none, none, .store 1 (.tmp 14) (.tmp 61)⟩,
    ⟨(some 15), none, .mov (.tmp 62)⟩]

def f5r8 : List AInstr := [
    ⟨(some 64), none, .mov (.tmp 0)⟩,
    ⟨(some 65), none, .mov (.tmp 3)⟩,
    ⟨(some 66), none, .ibin .add (.tmp 64) (.tmp 65)⟩,
    ⟨(some 67), none, .mov (.tmp 1)⟩,
    ⟨(some 68), none, .mov (.tmp 2)⟩,
    ⟨(some 69), none, .callF 8 [.tmp 66, .tmp 67, .tmp 68]⟩,
    ⟨(some 63), none, .mov (.tmp 69)⟩,
    ⟨(some 70), none, .extract 0 (.tmp 63)⟩,
    ⟨(some 71), none, .extract 1 (.tmp 63)⟩,
    ⟨(some 16), none, .mov (.tmp 70)⟩,
    ⟨(some 17), none, .mov (.tmp 71)⟩]

def f5r9 : List AInstr := [
    ⟨(some 73), none, .mov (.tmp 0)⟩,
    ⟨(some 74), none, .mov (.tmp 13)⟩,
    ⟨(some 75), none, .mov (.tmp 2)⟩,
    ⟨(some 76), none, .callF 8 [.tmp 73, .tmp 74, .tmp 75]⟩,
    ⟨(some 72), none, .mov (.tmp 76)⟩,
    ⟨(some 77), none, .extract 0 (.tmp 72)⟩,
    ⟨(some 78), none, .extract 1 (.tmp 72)⟩,
    ⟨(some 18), none, .mov (.tmp 77)⟩,
    ⟨(some 19), none, .mov (.tmp 78)⟩]

def f5r10 : List AInstr := [
    ⟨(some 79), none, .mov (.tmp 15)⟩,
    ⟨(some 80), none, .ibin .neq (.tmp 79) (.const (.int .i64 0))⟩,
    ⟨(some 81), none, .mov (.tmp 80)⟩,
    ⟨(some 82), (some (81, false)), .load none (.tmp 14)⟩,
    ⟨(some 83), (some (81, false)), .len (.tmp 82)⟩,
    ⟨(some 84), (some (81, false)), .mov (.tmp 1)⟩,
    ⟨(some 85), (some (81, false)), .len (.tmp 84)⟩,
    ⟨(some 86), (some (81, false)), .ibin .neq (.tmp 83) (.tmp 85)⟩,
    ⟨(some 87), none, .pick (.tmp 81) (.const (.bool true)) (.tmp 86)⟩]

def f5r11 : List AInstr := [
    ⟨(some 88), none, .mov (.tmp 15)⟩,
    ⟨(some 89), none, .ibin .neq (.tmp 88) (.const (.int .i64 0))⟩,
    ⟨(some 12), none, .mov (.tmp 89)⟩]

def f5r12 : List AInstr := [
    ⟨(some 90), none, .func (.func 11) [] [.tmp 14]⟩,
    ⟨(some 20), none, .mov (.tmp 90)⟩]

def f5r13 : List AInstr := [
    ⟨(some 91), none, .mov (.tmp 17)⟩,
    ⟨(some 92), none, .ibin .neq (.tmp 91) (.const (.int .i64 0))⟩,
    ⟨(some 93), none, .mov (.tmp 92)⟩,
    ⟨(some 94), (some (93, false)), .mov (.tmp 20)⟩,
    ⟨(some 95), (some (93, false)), .mov (.tmp 16)⟩,
    ⟨(some 96), (some (93, false)), .callV (.tmp 94) [.tmp 95, .const (.int .i64 (-1))]⟩,
    ⟨(some 97), none, .pick (.tmp 93) (.const (.bool true)) (.tmp 96)⟩,
    ⟨(some 98), none, .mov (.tmp 97)⟩,
    ⟨(some 99), (some (98, true)), .mov (.tmp 19)⟩,
    ⟨(some 100), (some (98, true)), .ibin .neq (.tmp 99) (.const (.int .i64 0))⟩,
    ⟨(some 101), (some (98, true)), .mov (.tmp 100)⟩,
    ⟨(some 102), (some (101, false)), .mov (.tmp 20)⟩,
    ⟨(some 103), (some (101, false)), .mov (.tmp 18)⟩,
    ⟨(some 104), (some (101, false)), .mov (.tmp 4)⟩,
    ⟨(some 105), (some (101, false)), .callV (.tmp 102) [.tmp 103, .tmp 104]⟩,
    ⟨(some 106), (some (98, true)), .pick (.tmp 101) (.const (.bool true)) (.tmp 105)⟩,
    ⟨(some 107), none, .pick (.tmp 98) (.tmp 106) (.const (.bool false))⟩,
    ⟨(some 12), none, .mov (.tmp 107)⟩]

def f5b : ACode := (.seq (.ops f5r0)
  (.keep [0, 1, 2, 3, 4, 5] (.seq (.seq (.ops f5r1)
  (.keep [0, 1, 2, 3, 4, 5, 22] (.cond (.tmp 22) (.keep [] (.seq (.ops f5r2)
  (.keep [12] .ret))) .skip)))
  (.keep [0, 1, 2, 3, 4, 5] (.seq (.seq (.ops f5r3)
  (.keep [0, 1, 2, 3, 4, 5, 46] (.cond (.tmp 46) (.keep [] (.seq (.ops f5r4)
  (.keep [12] .ret))) .skip)))
  (.keep [0, 1, 2, 3, 4, 5] (.seq (.ops f5r5)
  (.keep [0, 1, 2, 3, 4, 5, 13] (.seq (.ops f5r6)
  (.keep [0, 1, 2, 3, 4, 13] (.seq (.ops f5r7)
  (.keep [0, 1, 2, 3, 4, 13, 14, 15] (.seq (.ops f5r8)
  (.keep [0, 1, 2, 4, 13, 14, 15, 16, 17] (.seq (.ops f5r9)
  (.keep [1, 4, 14, 15, 16, 17, 18, 19] (.seq (.seq (.ops f5r10)
  (.keep [4, 14, 15, 16, 17, 18, 19, 87] (.cond (.tmp 87) (.keep [15] (.seq (.ops f5r11)
  (.keep [12] .ret))) .skip)))
  (.keep [4, 14, 16, 17, 18, 19] (.seq (.ops f5r12)
  (.keep [4, 16, 17, 18, 19, 20] (.seq (.ops f5r13)
  (.keep [12] .ret))))))))))))))))))))))

def f5 : AFn := ⟨108, [.tmp 12], f5b⟩

theorem f5_ok : compFn Try.prog 5 = some f5.strip := by kernel_rfl

/- function 6: weirhouse/weirhousekeep.ShareLike; parameters 3; operations that are not compiled: 0 -/
def f6r0 : List AInstr := [
    ⟨(some 6), none, .mov (.const (.bool false))⟩]

def f6r1 : List AInstr := [
    ⟨(some 15), none, .callF 7 []⟩,
    ⟨(some 16), none, .un .not (.tmp 15)⟩]

def f6r2 : List AInstr := [
    ⟨(some 6), none, .mov (.const (.bool false))⟩]

def f6r3 : List AInstr := [
    ⟨(some 18), none, .mov (.tmp 0)⟩,
    ⟨(some 19), none, .mov (.tmp 1)⟩,
    ⟨(some 20), none, .mov (.tmp 2)⟩,
    ⟨(some 21), none, .callF 8 [.tmp 18, .tmp 19, .tmp 20]⟩,
    ⟨(some 17), none, .mov (.tmp 21)⟩,
    ⟨(some 22), none, .extract 0 (.tmp 17)⟩,
    ⟨(some 23), none, .extract 1 (.tmp 17)⟩,
    ⟨(some 7), none, .mov (.tmp 22)⟩,
    ⟨(some 8), none, .mov (.tmp 23)⟩]

def f6r4 : List AInstr := [
    ⟨(some 24), none, .mov (.tmp 1)⟩,
    ⟨(some 25), none, .callF 10 [.tmp 24]⟩,
    ⟨(some 26), none, .mov (.tmp 2)⟩,
    ⟨(some 27), none, .callF 10 [.tmp 26]⟩,
    ⟨(some 9), none, .mov (.tmp 25)⟩,
    ⟨(some 10), none, .mov (.tmp 27)⟩]

def f6r5 : List AInstr := [
    ⟨(some 28), none, .mov (.tmp 9)⟩,
    ⟨(some 29), none, .callF 12 [.tmp 28]⟩]

def f6r6 : List AInstr := [
    ⟨(some 30), none, .mov (.tmp 10)⟩,
    ⟨(some 31), none, .callF 12 [.tmp 30]⟩]

def f6r7 : List AInstr := [
    ⟨(some 33), none, .mov (.tmp 0)⟩,
    ⟨(some 34), none, .mov (.tmp 9)⟩,
    ⟨(some 35), none, .mov (.tmp 10)⟩,
    ⟨(some 36), none, .callF 8 [.tmp 33, .tmp 34, .tmp 35]⟩,
    ⟨(some 32), none, .mov (.tmp 36)⟩,
    ⟨(some 37), none, .extract 0 (.tmp 32)⟩,
    ⟨(some 38), none, .extract 1 (.tmp 32)⟩,
    ⟨(some 11), none, .mov (.tmp 37)⟩,
    ⟨(some 12), none, .mov (.tmp 38)⟩]

def f6r8 : List AInstr := [
    ⟨(some 39), none, .mov (.tmp 8)⟩,
    ⟨(some 40), none, .ibin .neq (.tmp 39) (.const (.int .i64 0))⟩,
    ⟨(some 41), none, .mov (.tmp 40)⟩,
    ⟨(some 42), (some (41, false)), .mov (.tmp 12)⟩,
    ⟨(some 43), (some (41, false)), .ibin .neq (.tmp 42) (.const (.int .i64 0))⟩,
    ⟨(some 44), none, .pick (.tmp 41) (.const (.bool true)) (.tmp 43)⟩]

def f6r9 : List AInstr := [
    ⟨(some 45), none, .mov (.tmp 8)⟩,
    ⟨(some 46), none, .mov (.tmp 12)⟩,
    ⟨(some 47), none, .ibin .eql (.tmp 45) (.tmp 46)⟩,
    ⟨(some 6), none, .mov (.tmp 47)⟩]

def f6r10 : List AInstr := [
    ⟨(some 48), none, .mov (.tmp 11)⟩,
    ⟨(some 49), none, .callF 13 [.tmp 48]⟩]

def f6r11 : List AInstr := [
    ⟨(some 50), none, .mov (.tmp 7)⟩,
    ⟨(some 51), none, .len (.tmp 50)⟩,
    ⟨(some 52), none, .mov (.const (.int .i64 0))⟩]

def f6r12 : List AInstr := [
    ⟨(some 53), none, .ibin .lss (.tmp 52) (.tmp 51)⟩]

def f6r13 : List AInstr := [
    ⟨(some 54), none, .mov (.tmp 52)⟩,
    ⟨(some 13), none, .mov (.tmp 54)⟩]

def f6r14 : List AInstr := [
    ⟨(some 55), none, .mov (.tmp 7)⟩,
    ⟨(some 56), none, .len (.tmp 55)⟩,
    ⟨(some 57), none, .mov (.const (.int .i64 0))⟩]

def f6r15 : List AInstr := [
    ⟨(some 58), none, .ibin .lss (.tmp 57) (.tmp 56)⟩]

def f6r16 : List AInstr := [
    ⟨(some 59), none, .mov (.tmp 57)⟩,
    ⟨(some 14), none, .mov (.tmp 59)⟩]

def f6r17 : List AInstr := [
    ⟨(some 60), none, .mov (.tmp 1)⟩,
    ⟨(some 61), none, .mov (.tmp 13)⟩,
    ⟨(some 62), none, .indexAddr 1 (.tmp 60) (.tmp 61)⟩,
    ⟨(some 63), none, .load none (.tmp 62)⟩,
    ⟨(some 64), none, .mov (.tmp 1)⟩,
    ⟨(some 65), none, .mov (.tmp 14)⟩,
    ⟨(some 66), none, .indexAddr 1 (.tmp 64) (.tmp 65)⟩,
    ⟨(some 67), none, .load none (.tmp 66)⟩,
    ⟨(some 68), none, .ibin .eql (.tmp 63) (.tmp 67)⟩,
    ⟨(some 69), none, .mov (.tmp 68)⟩,
    ⟨(some 70), (some (69, true)), .mov (.tmp 2)⟩,
    ⟨(some 71), (some (69, true)), .mov (.tmp 13)⟩,
    ⟨(some 72), (some (69, true)), .indexAddr 1 (.tmp 70) (.tmp 71)⟩,
    ⟨(some 73), (some (69, true)), .load none (.tmp 72)⟩,
    ⟨(some 74), (some (69, true)), .mov (.tmp 2)⟩,
    ⟨(some 75), (some (69, true)), .mov (.tmp 14)⟩,
    ⟨(some 76), (some (69, true)), .indexAddr 1 (.tmp 74) (.tmp 75)⟩,
    ⟨(some 77), (some (69, true)), .load none (.tmp 76)⟩,
    ⟨(some 78), (some (69, true)), .ibin .eql (.tmp 73) (.tmp 77)⟩,
    ⟨(some 79), none, .pick (.tmp 69) (.tmp 78) (.const (.bool false))⟩,
    ⟨(some 80), none, .mov (.tmp 79)⟩,
    ⟨(some 81), (some (80, true)), .mov (.tmp 7)⟩,
    ⟨(some 82), (some (80, true)), .mov (.tmp 13)⟩,
    ⟨(some 83), (some (80, true)), .indexAddr 2 (.tmp 81) (.tmp 82)⟩,
    ⟨(some 84), (some (80, true)), .load (some 2) (.tmp 83)⟩,
    ⟨(some 85), (some (80, true)), .mov (.tmp 7)⟩,
    ⟨(some 86), (some (80, true)), .mov (.tmp 14)⟩,
    ⟨(some 87), (some (80, true)), .indexAddr 2 (.tmp 85) (.tmp 86)⟩,
    ⟨(some 88), (some (80, true)), .load (some 2) (.tmp 87)⟩,
    ⟨(some 89), (some (80, true)), .eqA true [false, false] (.tmp 84) (.tmp 88)⟩,
    ⟨(some 90), none, .pick (.tmp 80) (.tmp 89) (.const (.bool false))⟩]

def f6r18 : List AInstr := [
    ⟨(some 6), none, .mov (.const (.bool false))⟩]

def f6r19 : List AInstr := [
    ⟨(some 91), none, .ibin .add (.tmp 57) (.const (.int .i64 1))⟩,
    ⟨(some 57), none, .mov (.tmp 91)⟩]

/-- live: [1, 2, 7, 11, 13, 51, 52, 56, 57] -/
def f6l0 : ACode := (.seq (.ops f6r15)
  (.keep [1, 2, 7, 11, 13, 51, 52, 56, 57, 58] (.seq (.cond (.tmp 58) .skip (.exit 2))
  (.keep [1, 2, 7, 11, 13, 51, 52, 56, 57] (.seq (.block 3 (.seq (.ops f6r16)
  (.keep [1, 2, 7, 11, 13, 14, 51, 52, 56, 57] (.seq (.draw f6r17 [(0, 0, false), (0, 0, false), (0, 0, false), (0, 0, false), (0, 0, false), (0, 0, false), (0, 0, false), (0, 0, false), (0, 0, false), (0, 0, false), (0, 0, false), (0, 0, false), (0, 0, false), (0, 0, false), (0, 0, false), (0, 0, false), (0, 0, false), (0, 0, false), (0, 0, false), (0, 0, false), (0, 0, false), (0, 0, false), (0, 0, false), (0, 0, false), (0, 0, false), (0, 0, false), (0, 0, false), (0, 0, false), (0, 0, false), (0, 0, false), (0, 0, false)])
  (.keep [1, 2, 7, 11, 13, 51, 52, 56, 57, 90] (.cond (.tmp 90) (.keep [] (.seq (.ops f6r18)
  (.keep [6] .ret))) .skip))))))
  (.keep [1, 2, 7, 11, 13, 51, 52, 56, 57] (.ops f6r19)))))))

def f6r21 : List AInstr := [
    ⟨(some 92), none, .ibin .add (.tmp 52) (.const (.int .i64 1))⟩,
    ⟨(some 52), none, .mov (.tmp 92)⟩]

/-- live: [1, 2, 7, 11, 51, 52] -/
def f6l1 : ACode := (.seq (.ops f6r12)
  (.keep [1, 2, 7, 11, 51, 52, 53] (.seq (.cond (.tmp 53) .skip (.exit 0))
  (.keep [1, 2, 7, 11, 51, 52] (.seq (.block 1 (.seq (.ops f6r13)
  (.keep [1, 2, 7, 11, 13, 51, 52] (.seq (.ops f6r14)
  (.keep [1, 2, 7, 11, 13, 51, 52, 56, 57] (.block 2 (.loop f6l0)))))))
  (.keep [1, 2, 7, 11, 51, 52] (.ops f6r21)))))))

def f6r23 : List AInstr := [
    ⟨(some 93), none, .mov (.tmp 7)⟩,
    ⟨(some 94), none, .mov (.tmp 11)⟩,
    ⟨(some 95), none, .callF 14 [.tmp 93, .tmp 94]⟩,
    ⟨(some 96), none, .mov (.tmp 95)⟩,
    ⟨(some 97), (some (96, true)), .mov (.tmp 7)⟩,
    ⟨(some 98), (some (96, true)), .len (.tmp 97)⟩,
    ⟨(some 99), (some (96, true)), .mov (.tmp 1)⟩,
    ⟨(some 100), (some (96, true)), .len (.tmp 99)⟩,
    ⟨(some 101), (some (96, true)), .ibin .eql (.tmp 98) (.tmp 100)⟩,
    ⟨(some 102), none, .pick (.tmp 96) (.tmp 101) (.const (.bool false))⟩,
    ⟨(some 6), none, .mov (.tmp 102)⟩]

def f6b : ACode := (.seq (.ops f6r0)
  (.keep [0, 1, 2] (.seq (.seq (.ops f6r1)
  (.keep [0, 1, 2, 16] (.cond (.tmp 16) (.keep [] (.seq (.ops f6r2)
  (.keep [6] .ret))) .skip)))
  (.keep [0, 1, 2] (.seq (.ops f6r3)
  (.keep [0, 1, 2, 7, 8] (.seq (.ops f6r4)
  (.keep [0, 1, 2, 7, 8, 9, 10] (.seq (.ops f6r5)
  (.keep [0, 1, 2, 7, 8, 9, 10] (.seq (.ops f6r6)
  (.keep [0, 1, 2, 7, 8, 9, 10] (.seq (.ops f6r7)
  (.keep [1, 2, 7, 8, 11, 12] (.seq (.seq (.ops f6r8)
  (.keep [1, 2, 7, 8, 11, 12, 44] (.cond (.tmp 44) (.keep [8, 12] (.seq (.ops f6r9)
  (.keep [6] .ret))) .skip)))
  (.keep [1, 2, 7, 11] (.seq (.ops f6r10)
  (.keep [1, 2, 7, 11] (.seq (.seq (.ops f6r11)
  (.keep [1, 2, 7, 11, 51, 52] (.block 0 (.loop f6l1))))
  (.keep [1, 7, 11] (.seq (.ops f6r23)
  (.keep [6] .ret))))))))))))))))))))))

def f6 : AFn := ⟨103, [.tmp 6], f6b⟩

theorem f6_ok : compFn Try.prog 6 = some f6.strip := by kernel_rfl

/- function 7: weirhouse/weirhousekeep.alive12; parameters 0; operations that are not compiled: 0 -/
def f7r0 : List AInstr := [
    ⟨(some 0), none, .mov (.const (.bool false))⟩]

def f7r1 : List AInstr := [
    ⟨(some 6), none, .buildSlice 1 3 [.int .i64 0, .int .i64 0, .int .i64 0] [(0, 1, (.const (.int .i64 2))), (1, 1, (.const (.int .i64 8))), (2, 1, (.const (.int .i64 9)))]⟩,
    ⟨(some 7), none, .buildSlice 1 3 [.int .i64 0, .int .i64 0, .int .i64 0] [(0, 1, (.const (.int .i64 1))), (1, 1, (.const (.int .i64 1))), (2, 1, (.const (.int .i64 3)))]⟩,
    ⟨(some 8), none, .callF 9 [.const (.int .i64 10), .tmp 6, .tmp 7]⟩,
    ⟨(some 5), none, .mov (.tmp 8)⟩,
    ⟨(some 9), none, .extract 0 (.tmp 5)⟩,
    ⟨(some 10), none, .extract 1 (.tmp 5)⟩,
    ⟨(some 1), none, .alloc [.int .i64 0, .int .i64 0]⟩,
    ⟨none, none, .store 2 (.tmp 1) (.tmp 9)⟩,
    ⟨(some 2), none, .mov (.tmp 10)⟩]

def f7r2 : List AInstr := [
    ⟨(some 12), none, .buildSlice 1 3 [.int .i64 0, .int .i64 0, .int .i64 0] [(0, 1, (.const (.int .i64 2))), (1, 1, (.const (.int .i64 8))), (2, 1, (.const (.int .i64 9)))]⟩,
    ⟨(some 13), none, .buildSlice 1 3 [.int .i64 0, .int .i64 0, .int .i64 0] [(0, 1, (.const (.int .i64 1))), (1, 1, (.const (.int .i64 1))), (2, 1, (.const (.int .i64 3)))]⟩,
    ⟨(some 14), none, .callF 8 [.const (.int .i64 10), .tmp 12, .tmp 13]⟩,
    ⟨(some 11), none, .mov (.tmp 14)⟩,
    ⟨(some 15), none, .extract 0 (.tmp 11)⟩,
    ⟨(some 16), none, .extract 1 (.tmp 11)⟩,
    ⟨(some 3), none, .mov (.tmp 15)⟩,
    ⟨(some 4), none, .mov (.tmp 16)⟩]

def f7r3 : List AInstr := [
    ⟨(some 17), none, .mov (.tmp 2)⟩,
    ⟨(some 18), none, .ibin .eql (.tmp 17) (.const (.int .i64 0))⟩,
    ⟨(some 19), none, .mov (.tmp 18)⟩,
    ⟨(some 20), (some (19, true)), .mov (.tmp 4)⟩,
    ⟨(some 21), (some (19, true)), .ibin .eql (.tmp 20) (.const (.int .i64 0))⟩,
    ⟨(some 22), none, .pick (.tmp 19) (.tmp 21) (.const (.bool false))⟩,
    ⟨(some 23), none, .mov (.tmp 22)⟩,
    ⟨(some 24), (some (23, true)), .load (some 2) (.tmp 1)⟩,
    ⟨(some 25), (some (23, true)), .build [.int .i64 0, .int .i64 0] [(0, 1, (.const (.int .i64 8))), (1, 1, (.const (.int .i64 4)))]⟩,
    ⟨(some 26), (some (23, true)), .eqA false [false, false] (.tmp 24) (.tmp 25)⟩,
    ⟨(some 27), none, .pick (.tmp 23) (.tmp 26) (.const (.bool false))⟩,
    ⟨(some 28), none, .mov (.tmp 27)⟩,
    ⟨(some 29), (some (28, true)), .mov (.tmp 3)⟩,
    ⟨(some 30), (some (28, true)), .build [.int .i64 0, .int .i64 0] [(0, 1, (.const (.int .i64 2))), (1, 1, (.const (.int .i64 1)))]⟩,
    ⟨(some 31), (some (28, true)), .build [.int .i64 0, .int .i64 0] [(0, 1, (.const (.int .i64 8))), (1, 1, (.const (.int .i64 4)))]⟩,
    ⟨(some 32), (some (28, true)), .build [.int .i64 0, .int .i64 0] [(0, 1, (.const (.int .i64 24))), (1, 1, (.const (.int .i64 4)))]⟩,
    ⟨(some 33), (some (28, true)), .buildSlice 2 3 [.int .i64 0, .int .i64 0, .int .i64 0, .int .i64 0, .int .i64 0, .int .i64 0] [(0, 2, (.tmp 30)), (2, 2, (.tmp 31)), (4, 2, (.tmp 32))]⟩,
    ⟨(some 34), (some (28, true)), .callF 14 [.tmp 29, .tmp 33]⟩,
    ⟨(some 35), none, .pick (.tmp 28) (.tmp 34) (.const (.bool false))⟩,
    ⟨(some 0), none, .mov (.tmp 35)⟩]

def f7b : ACode := (.seq (.ops f7r0)
  (.keep [] (.seq (.ops f7r1)
  (.keep [1, 2] (.seq (.ops f7r2)
  (.keep [1, 2, 3, 4] (.seq (.ops f7r3)
  (.keep [0] .ret))))))))

def f7 : AFn := ⟨36, [.tmp 0], f7b⟩

theorem f7_ok : compFn Try.prog 7 = some f7.strip := by kernel_rfl

/- function 8: weirhouse/share.Gets; parameters 3; operations that are not compiled: 0 -/
def f8r0 : List AInstr := [
    ⟨(some 6), none, .mov (.const (.slice none 0 0))⟩,
    ⟨(some 7), none, .mov (.const (.int .i64 0))⟩]

def f8r1 : List AInstr := [
    ⟨(some 14), none, .mov (.tmp 0)⟩,
    ⟨(some 15), none, .mov (.tmp 1)⟩,
    ⟨(some 16), none, .mov (.tmp 2)⟩,
    ⟨(some 17), none, .callF 9 [.tmp 14, .tmp 15, .tmp 16]⟩,
    ⟨(some 13), none, .mov (.tmp 17)⟩,
    ⟨(some 18), none, .extract 0 (.tmp 13)⟩,
    ⟨(some 19), none, .extract 1 (.tmp 13)⟩,
    ⟨(some 8), none, .alloc [.int .i64 0, .int .i64 0]⟩,
    ⟨none, none, .store 2 (.tmp 8) (.tmp 18)⟩,
    ⟨(some 9), none, .mov (.tmp 19)⟩]

def f8r2 : List AInstr := [
    ⟨(some 20), none, .mov (.tmp 9)⟩,
    ⟨(some 21), none, .ibin .neq (.tmp 20) (.const (.int .i64 0))⟩]

def f8r3 : List AInstr := [
    ⟨(some 22), none, .mov (.tmp 9)⟩,
    ⟨(some 6), none, .mov (.const (.slice none 0 0))⟩,
    ⟨(some 7), none, .mov (.tmp 22)⟩]

def f8r4 : List AInstr := [
    ⟨(some 10), none, .mov (.const (.slice none 0 0))⟩]

def f8r5 : List AInstr := [
    ⟨(some 23), none, .mov (.tmp 1)⟩,
    ⟨(some 24), none, .len (.tmp 23)⟩,
    ⟨(some 25), none, .mov (.const (.int .i64 0))⟩]

def f8r6 : List AInstr := [
    ⟨(some 26), none, .ibin .lss (.tmp 25) (.tmp 24)⟩]

def f8r7 : List AInstr := [
    ⟨(some 27), none, .mov (.tmp 25)⟩,
    ⟨(some 28), none, .indexAddr 1 (.tmp 23) (.tmp 25)⟩,
    ⟨(some 29), none, .load none (.tmp 28)⟩,
    ⟨(some 11), none, .mov (.tmp 27)⟩,
    ⟨(some 12), none, .mov (.tmp 29)⟩]

def f8r8 : List AInstr := [
    ⟨(some 30), none, .fieldAddr 1 (.tmp 8)⟩,
    ⟨(some 31), none, .load none (.tmp 30)⟩,
    ⟨(some 32), none, .ibin .eql (.tmp 31) (.const (.int .i64 0))⟩,
    ⟨(some 33), none, .mov (.tmp 32)⟩,
    ⟨(some 34), (some (33, false)), .mov (.tmp 12)⟩,
    ⟨(some 35), (some (33, false)), .fieldAddr 1 (.tmp 8)⟩,
    ⟨(some 36), (some (33, false)), .load none (.tmp 35)⟩,
    ⟨(some 37), (some (33, false)), .ibin .mul (.tmp 34) (.tmp 36)⟩,
    ⟨(some 38), (some (33, false)), .mov (.tmp 2)⟩,
    ⟨(some 39), (some (33, false)), .mov (.tmp 11)⟩,
    ⟨(some 40), (some (33, false)), .indexAddr 1 (.tmp 38) (.tmp 39)⟩,
    ⟨(some 41), (some (33, false)), .load none (.tmp 40)⟩,
    ⟨(some 42), (some (33, false)), .fieldAddr 0 (.tmp 8)⟩,
    ⟨(some 43), (some (33, false)), .load none (.tmp 42)⟩,
    ⟨(some 44), (some (33, false)), .ibin .mul (.tmp 41) (.tmp 43)⟩,
    ⟨(some 45), (some (33, false)), .ibin .leq (.tmp 37) (.tmp 44)⟩,
    ⟨(some 46), none, .pick (.tmp 33) (.const (.bool true)) (.tmp 45)⟩]

def f8r9 : List AInstr := [
    ⟨(some 47), none, .mov (.tmp 10)⟩,
    ⟨(some 48), none, .mov (.tmp 12)⟩,
    ⟨(some 49), none, .build [.int .i64 0, .int .i64 0] [(0, 1, (.tmp 48)), (1, 1, (.const (.int .i64 1)))]⟩,
    ⟨(some 50), none, .buildSlice 2 1 [.int .i64 0, .int .i64 0] [(0, 2, (.tmp 49))]⟩,
    ⟨(some 51), none, .append 2 16 (.tmp 47) (.tmp 50)⟩,
    ⟨(some 10), none, .mov (.tmp 51)⟩]

def f8r10 : List AInstr := [
    ⟨(some 52), none, .mov (.tmp 10)⟩,
    ⟨(some 53), none, .mov (.tmp 2)⟩,
    ⟨(some 54), none, .mov (.tmp 11)⟩,
    ⟨(some 55), none, .indexAddr 1 (.tmp 53) (.tmp 54)⟩,
    ⟨(some 56), none, .load none (.tmp 55)⟩,
    ⟨(some 57), none, .fieldAddr 0 (.tmp 8)⟩,
    ⟨(some 58), none, .load none (.tmp 57)⟩,
    ⟨(some 59), none, .ibin .mul (.tmp 56) (.tmp 58)⟩,
    ⟨(some 60), none, .fieldAddr 1 (.tmp 8)⟩,
    ⟨(some 61), none, .load none (.tmp 60)⟩,
    ⟨(some 62), none, .build [.int .i64 0, .int .i64 0] [(0, 1, (.tmp 59)), (1, 1, (.tmp 61))]⟩,
    ⟨(some 63), none, .buildSlice 2 1 [.int .i64 0, .int .i64 0] [(0, 2, (.tmp 62))]⟩,
    ⟨(some 64), none, .append 2 16 (.tmp 52) (.tmp 63)⟩,
    ⟨(some 10), none, .mov (.tmp 64)⟩]

def f8r11 : List AInstr := [
    ⟨(some 65), none, .ibin .add (.tmp 25) (.const (.int .i64 1))⟩,
    ⟨(some 25), none, .mov (.tmp 65)⟩]

/-- live: [2, 8, 10, 23, 24, 25] -/
def f8l0 : ACode := (.seq (.ops f8r6)
  (.keep [2, 8, 10, 23, 24, 25, 26] (.seq (.cond (.tmp 26) .skip (.exit 0))
  (.keep [2, 8, 10, 23, 24, 25] (.seq (.block 1 (.seq (.ops f8r7)
  (.keep [2, 8, 10, 11, 12, 23, 24, 25] (.seq (.draw f8r8 [(0, 0, false), (0, 0, false), (0, 0, false), (0, 0, false), (0, 0, false), (0, 0, false), (0, 0, false), (0, 0, false), (0, 0, false), (0, 0, false), (0, 0, false), (0, 0, false), (0, 0, false), (0, 0, false), (0, 0, false), (0, 0, false), (0, 0, false)])
  (.keep [2, 8, 10, 11, 12, 23, 24, 25, 46] (.cond (.tmp 46) (.keep [2, 8, 10, 12, 23, 24, 25] (.ops f8r9)) (.keep [2, 8, 10, 11, 23, 24, 25] (.draw f8r10 [(0, 1, false), (0, 0, false), (0, 0, false), (0, 0, false), (0, 0, false), (0, 0, false), (0, 0, false), (0, 0, false), (0, 0, false), (0, 0, false), (0, 0, false), (0, 0, true), (1, 0, true), (2, 2, false)]))))))))
  (.keep [2, 8, 10, 23, 24, 25] (.ops f8r11)))))))

def f8r13 : List AInstr := [
    ⟨(some 66), none, .mov (.tmp 10)⟩,
    ⟨(some 6), none, .mov (.tmp 66)⟩,
    ⟨(some 7), none, .mov (.const (.int .i64 0))⟩]

def f8b : ACode := (.seq (.ops f8r0)
  (.keep [0, 1, 2] (.seq (.ops f8r1)
  (.keep [1, 2, 8, 9] (.seq (.seq (.ops f8r2)
  (.keep [1, 2, 8, 9, 21] (.cond (.tmp 21) (.keep [9] (.seq (.ops f8r3)
  (.keep [6, 7] .ret))) .skip)))
  (.keep [1, 2, 8] (.seq (.ops f8r4)
  (.keep [1, 2, 8, 10] (.seq (.seq (.ops f8r5)
  (.keep [2, 8, 10, 23, 24, 25] (.block 0 (.loop f8l0))))
  (.keep [10] (.seq (.ops f8r13)
  (.keep [6, 7] .ret))))))))))))

def f8 : AFn := ⟨67, [.tmp 6, .tmp 7], f8b⟩

theorem f8_ok : compFn Try.prog 8 = some f8.strip := by kernel_rfl

/- function 9: weirhouse/share.Level; parameters 3; operations that are not compiled: 0 -/
def f9r0 : List AInstr := [
    ⟨(some 4), none, .box (.tmp 1)⟩,
    ⟨(some 5), none, .box (.tmp 2)⟩,
    ⟨(some 6), none, .alloc [.int .i64 0, .int .i64 0]⟩,
    ⟨(some 7), none, .mov (.const (.int .i64 0))⟩]

def f9r1 : List AInstr := [
    ⟨(some 15), none, .mov (.tmp 0)⟩,
    ⟨(some 16), none, .load none (.tmp 4)⟩,
    ⟨(some 17), none, .load none (.tmp 5)⟩,
    ⟨(some 18), none, .callF 15 [.tmp 15, .tmp 16, .tmp 17]⟩,
    ⟨(some 8), none, .mov (.tmp 18)⟩]

def f9r2 : List AInstr := [
    ⟨(some 19), none, .mov (.tmp 8)⟩,
    ⟨(some 20), none, .ibin .neq (.tmp 19) (.const (.int .i64 0))⟩]

def f9r3 : List AInstr := [
    ⟨(some 21), none, .build [.int .i64 0, .int .i64 0] []⟩,
    ⟨(some 22), none, .mov (.tmp 8)⟩,
    ⟨none, none, .store 2 (.tmp 6) (.tmp 21)⟩,
    ⟨(some 7), none, .mov (.tmp 22)⟩]

def f9r4 : List AInstr := [
    ⟨(some 23), none, .load none (.tmp 4)⟩,
    ⟨(some 24), none, .len (.tmp 23)⟩,
    ⟨(some 25), none, .makeSlice 1 8 [.int .i64 0] (.tmp 24) (.tmp 24)⟩,
    ⟨(some 9), none, .mov (.tmp 25)⟩]

def f9r5 : List AInstr := [
    ⟨(some 10), none, .mov (.const (.int .i64 0))⟩]

def f9r6 : List AInstr := [
    ⟨(some 26), none, .mov (.tmp 9)⟩,
    ⟨(some 27), none, .len (.tmp 26)⟩,
    ⟨(some 28), none, .mov (.const (.int .i64 0))⟩]

def f9r7 : List AInstr := [
    ⟨(some 29), none, .ibin .lss (.tmp 28) (.tmp 27)⟩]

def f9r8 : List AInstr := [
    ⟨(some 30), none, .mov (.tmp 28)⟩,
    ⟨(some 11), none, .mov (.tmp 30)⟩]

def f9r9 : List AInstr := [
    ⟨(some 31), none, .mov (.tmp 9)⟩,
    ⟨(some 32), none, .mov (.tmp 11)⟩,
    ⟨(some 33), none, .mov (.tmp 11)⟩,
    ⟨(some 34), none, .indexAddr 1 (.tmp 31) (.tmp 32)⟩,
    ⟨none, none, .store 1 (.tmp 34) (.tmp 33)⟩]

def f9r10 : List AInstr := [
    ⟨(some 35), none, .mov (.tmp 10)⟩,
    ⟨(some 36), none, .load none (.tmp 5)⟩,
    ⟨(some 37), none, .mov (.tmp 11)⟩,
    ⟨(some 38), none, .indexAddr 1 (.tmp 36) (.tmp 37)⟩,
    ⟨(some 39), none, .load none (.tmp 38)⟩,
    ⟨(some 40), none, .ibin .add (.tmp 35) (.tmp 39)⟩,
    ⟨(some 10), none, .mov (.tmp 40)⟩]

def f9r11 : List AInstr := [
    ⟨(some 41), none, .ibin .add (.tmp 28) (.const (.int .i64 1))⟩,
    ⟨(some 28), none, .mov (.tmp 41)⟩]

/-- live: [0, 4, 5, 6, 9, 10, 27, 28] -/
def f9l0 : ACode := (.seq (.ops f9r7)
  (.keep [0, 4, 5, 6, 9, 10, 27, 28, 29] (.seq (.cond (.tmp 29) .skip (.exit 0))
  (.keep [0, 4, 5, 6, 9, 10, 27, 28] (.seq (.block 1 (.seq (.ops f9r8)
  (.keep [0, 4, 5, 6, 9, 10, 11, 27, 28] (.seq (.ops f9r9)
  (.keep [0, 4, 5, 6, 9, 10, 11, 27, 28] (.ops f9r10))))))
  (.keep [0, 4, 5, 6, 9, 10, 27, 28] (.ops f9r11)))))))

def f9r13 : List AInstr := [
    ⟨(some 42), none, .mov (.tmp 9)⟩,
    ⟨(some 43), none, .func (.func 17) [] [.tmp 4, .tmp 5]⟩,
    ⟨(some 44), none, .callF 16 [.tmp 42, .tmp 43]⟩]

def f9r14 : List AInstr := [
    ⟨(some 45), none, .mov (.tmp 0)⟩,
    ⟨(some 12), none, .mov (.tmp 45)⟩]

def f9r15 : List AInstr := [
    ⟨(some 46), none, .mov (.tmp 9)⟩,
    ⟨(some 47), none, .len (.tmp 46)⟩,
    ⟨(some 48), none, .mov (.const (.int .i64 0))⟩]

def f9r16 : List AInstr := [
    ⟨(some 49), none, .ibin .lss (.tmp 48) (.tmp 47)⟩]

def f9r17 : List AInstr := [
    ⟨(some 50), none, .indexAddr 1 (.tmp 46) (.tmp 48)⟩,
    ⟨(some 51), none, .load none (.tmp 50)⟩,
    ⟨(some 14), none, .mov (.tmp 51)⟩]

def f9r18 : List AInstr := [
    ⟨(some 52), none, .load none (.tmp 4)⟩,
    ⟨(some 53), none, .mov (.tmp 14)⟩,
    ⟨(some 54), none, .indexAddr 1 (.tmp 52) (.tmp 53)⟩,
    ⟨(some 55), none, .load none (.tmp 54)⟩,
    ⟨(some 56), none, .mov (.tmp 10)⟩,
    ⟨(some 57), none, .ibin .mul (.tmp 55) (.tmp 56)⟩,
    ⟨(some 58), none, .mov (.tmp 12)⟩,
    ⟨(some 59), none, .load none (.tmp 5)⟩,
    ⟨(some 60), none, .mov (.tmp 14)⟩,
    ⟨(some 61), none, .indexAddr 1 (.tmp 59) (.tmp 60)⟩,
    ⟨(some 62), none, .load none (.tmp 61)⟩,
    ⟨(some 63), none, .ibin .mul (.tmp 58) (.tmp 62)⟩,
    ⟨(some 64), none, .ibin .gtr (.tmp 57) (.tmp 63)⟩]

def f9r19 : List AInstr := [
    ⟨(some 65), none, .mov (.tmp 12)⟩,
    ⟨(some 66), none, .mov (.tmp 10)⟩,
    ⟨(some 67), none, .build [.int .i64 0, .int .i64 0] [(0, 1, (.tmp 65)), (1, 1, (.tmp 66))]⟩,
    ⟨none, none, .store 2 (.tmp 6) (.tmp 67)⟩,
    ⟨(some 7), none, .mov (.const (.int .i64 0))⟩]

def f9r20 : List AInstr := [
    ⟨(some 68), none, .mov (.tmp 12)⟩,
    ⟨(some 69), none, .load none (.tmp 4)⟩,
    ⟨(some 70), none, .mov (.tmp 14)⟩,
    ⟨(some 71), none, .indexAddr 1 (.tmp 69) (.tmp 70)⟩,
    ⟨(some 72), none, .load none (.tmp 71)⟩,
    ⟨(some 73), none, .ibin .sub (.tmp 68) (.tmp 72)⟩,
    ⟨(some 12), none, .mov (.tmp 73)⟩]

def f9r21 : List AInstr := [
    ⟨(some 74), none, .mov (.tmp 10)⟩,
    ⟨(some 75), none, .load none (.tmp 5)⟩,
    ⟨(some 76), none, .mov (.tmp 14)⟩,
    ⟨(some 77), none, .indexAddr 1 (.tmp 75) (.tmp 76)⟩,
    ⟨(some 78), none, .load none (.tmp 77)⟩,
    ⟨(some 79), none, .ibin .sub (.tmp 74) (.tmp 78)⟩,
    ⟨(some 10), none, .mov (.tmp 79)⟩]

def f9r22 : List AInstr := [
    ⟨(some 80), none, .ibin .add (.tmp 48) (.const (.int .i64 1))⟩,
    ⟨(some 48), none, .mov (.tmp 80)⟩]

/-- live: [4, 5, 6, 10, 12, 46, 47, 48] -/
def f9l1 : ACode := (.seq (.ops f9r16)
  (.keep [4, 5, 6, 10, 12, 46, 47, 48, 49] (.seq (.cond (.tmp 49) .skip (.exit 2))
  (.keep [4, 5, 6, 10, 12, 46, 47, 48] (.seq (.block 3 (.seq (.ops f9r17)
  (.keep [4, 5, 6, 10, 12, 14, 46, 47, 48] (.seq (.seq (.draw f9r18 [(0, 0, false), (0, 0, false), (0, 0, false), (0, 0, false), (0, 0, false), (0, 0, false), (0, 0, false), (0, 0, false), (0, 0, false), (0, 0, false), (0, 0, false), (0, 0, false), (0, 0, false)])
  (.keep [4, 5, 6, 10, 12, 14, 46, 47, 48, 64] (.cond (.tmp 64) (.keep [6, 10, 12] (.seq (.ops f9r19)
  (.keep [6, 7] .ret))) .skip)))
  (.keep [4, 5, 6, 10, 12, 14, 46, 47, 48] (.seq (.ops f9r20)
  (.keep [4, 5, 6, 10, 12, 14, 46, 47, 48] (.ops f9r21))))))))
  (.keep [4, 5, 6, 10, 12, 46, 47, 48] (.ops f9r22)))))))

def f9r24 : List AInstr := [
    ⟨(some 81), none, .build [.int .i64 0, .int .i64 0] []⟩,
    ⟨none, none, .store 2 (.tmp 6) (.tmp 81)⟩,
    ⟨(some 7), none, .mov (.const (.int .i64 0))⟩]

def f9b : ACode := (.seq (.ops f9r0)
  (.keep [0, 4, 5, 6] (.seq (.seq (.ops f9r1)
  (.keep [0, 4, 5, 6, 8] (.seq (.ops f9r2)
  (.keep [0, 4, 5, 6, 8, 20] (.cond (.tmp 20) (.keep [6, 8] (.seq (.ops f9r3)
  (.keep [6, 7] .ret))) .skip)))))
  (.keep [0, 4, 5, 6] (.seq (.ops f9r4)
  (.keep [0, 4, 5, 6, 9] (.seq (.ops f9r5)
  (.keep [0, 4, 5, 6, 9, 10] (.seq (.seq (.ops f9r6)
  (.keep [0, 4, 5, 6, 9, 10, 27, 28] (.block 0 (.loop f9l0))))
  (.keep [0, 4, 5, 6, 9, 10] (.seq (.ops f9r13)
  (.keep [0, 4, 5, 6, 9, 10] (.seq (.ops f9r14)
  (.keep [4, 5, 6, 9, 10, 12] (.seq (.seq (.ops f9r15)
  (.keep [4, 5, 6, 10, 12, 46, 47, 48] (.block 2 (.loop f9l1))))
  (.keep [6] (.seq (.ops f9r24)
  (.keep [6, 7] .ret))))))))))))))))))

def f9 : AFn := ⟨82, [.cell 6 (some 2), .tmp 7], f9b⟩

theorem f9_ok : compFn Try.prog 9 = some f9.strip := by kernel_rfl

/- function 10: slices.Clone[[]int,int]; parameters 1; operations that are not compiled: 0 -/
def f10r0 : List AInstr := [
    ⟨(some 2), none, .mov (.const (.slice none 0 0))⟩]

def f10r1 : List AInstr := [
    ⟨(some 3), none, .mov (.tmp 0)⟩,
    ⟨(some 4), none, .eqS false (.tmp 3) (.const (.slice none 0 0))⟩]

def f10r2 : List AInstr := [
    ⟨(some 2), none, .mov (.const (.slice none 0 0))⟩]

def f10r3 : List AInstr := [
    ⟨(some 5), none, .buildSlice 1 0 [] []⟩,
    ⟨(some 6), none, .mov (.tmp 0)⟩,
    ⟨(some 7), none, .append 1 8 (.tmp 5) (.tmp 6)⟩,
    ⟨(some 2), none, .mov (.tmp 7)⟩]

def f10b : ACode := (.seq (.ops f10r0)
  (.keep [0] (.seq (.seq (.ops f10r1)
  (.keep [0, 4] (.cond (.tmp 4) (.keep [] (.seq (.ops f10r2)
  (.keep [2] .ret))) .skip)))
  (.keep [0] (.seq (.ops f10r3)
  (.keep [2] .ret))))))

def f10 : AFn := ⟨8, [.tmp 2], f10b⟩

theorem f10_ok : compFn Try.prog 10 = some f10.strip := by kernel_rfl

/- function 11: weirhouse/weirhousekeep.ShareMore$1; parameters 2; operations that are not compiled: 0 -/
def f11r0 : List AInstr := [
    ⟨(some 5), none, .mov (.const (.bool false))⟩]

def f11r1 : List AInstr := [
    ⟨(some 7), none, .mov (.tmp 0)⟩,
    ⟨(some 8), none, .len (.tmp 7)⟩,
    ⟨(some 9), none, .load none (.tmp 2)⟩,
    ⟨(some 10), none, .len (.tmp 9)⟩,
    ⟨(some 11), none, .ibin .neq (.tmp 8) (.tmp 10)⟩]

def f11r2 : List AInstr := [
    ⟨(some 5), none, .mov (.const (.bool false))⟩]

def f11r3 : List AInstr := [
    ⟨(some 12), none, .mov (.tmp 0)⟩,
    ⟨(some 13), none, .len (.tmp 12)⟩,
    ⟨(some 14), none, .mov (.const (.int .i64 0))⟩]

def f11r4 : List AInstr := [
    ⟨(some 15), none, .ibin .lss (.tmp 14) (.tmp 13)⟩]

def f11r5 : List AInstr := [
    ⟨(some 16), none, .mov (.tmp 14)⟩,
    ⟨(some 6), none, .mov (.tmp 16)⟩]

def f11r6 : List AInstr := [
    ⟨(some 17), none, .mov (.tmp 6)⟩,
    ⟨(some 18), none, .mov (.tmp 1)⟩,
    ⟨(some 19), none, .ibin .neq (.tmp 17) (.tmp 18)⟩,
    ⟨(some 20), none, .mov (.tmp 19)⟩,
    ⟨(some 21), (some (20, true)), .mov (.tmp 0)⟩,
    ⟨(some 22), (some (20, true)), .mov (.tmp 6)⟩,
    ⟨(some 23), (some (20, true)), .indexAddr 2 (.tmp 21) (.tmp 22)⟩,
    ⟨(some 24), (some (20, true)), .fieldAddr 0 (.tmp 23)⟩,
    ⟨(some 25), (some (20, true)), .load none (.tmp 24)⟩,
    ⟨(some 26), (some (20, true)), .load none (.tmp 2)⟩,
    ⟨(some 27), (some (20, true)), .mov (.tmp 6)⟩,
    ⟨(some 28), (some (20, true)), .indexAddr 2 (.tmp 26) (.tmp 27)⟩,
    ⟨(some 29), (some (20, true)), .fieldAddr 1 (.tmp 28)⟩,
    ⟨(some 30), (some (20, true)), .load none (.tmp 29)⟩,
    ⟨(some 31), (some (20, true)), .ibin .mul (.tmp 25) (.tmp 30)⟩,
    ⟨(some 32), (some (20, true)), .load none (.tmp 2)⟩,
    ⟨(some 33), (some (20, true)), .mov (.tmp 6)⟩,
    ⟨(some 34), (some (20, true)), .indexAddr 2 (.tmp 32) (.tmp 33)⟩,
    ⟨(some 35), (some (20, true)), .fieldAddr 0 (.tmp 34)⟩,
    ⟨(some 36), (some (20, true)), .load none (.tmp 35)⟩,
    ⟨(some 37), (some (20, true)), .mov (.tmp 0)⟩,
    ⟨(some 38), (some (20, true)), .mov (.tmp 6)⟩,
    ⟨(some 39), (some (20, true)), .indexAddr 2 (.tmp 37) (.tmp 38)⟩,
    ⟨(some 40), (some (20, true)), .fieldAddr 1 (.tmp 39)⟩,
    ⟨(some 41), (some (20, true)), .load none (.tmp 40)⟩,
    ⟨(some 42), (some (20, true)), .ibin .mul (.tmp 36) (.tmp 41)⟩,
    ⟨(some 43), (some (20, true)), .ibin .lss (.tmp 31) (.tmp 42)⟩,
    ⟨(some 44), none, .pick (.tmp 20) (.tmp 43) (.const (.bool false))⟩]

def f11r7 : List AInstr := [
    ⟨(some 5), none, .mov (.const (.bool false))⟩]

def f11r8 : List AInstr := [
    ⟨(some 45), none, .ibin .add (.tmp 14) (.const (.int .i64 1))⟩,
    ⟨(some 14), none, .mov (.tmp 45)⟩]

/-- live: [0, 1, 2, 13, 14] -/
def f11l0 : ACode := (.seq (.ops f11r4)
  (.keep [0, 1, 2, 13, 14, 15] (.seq (.cond (.tmp 15) .skip (.exit 0))
  (.keep [0, 1, 2, 13, 14] (.seq (.block 1 (.seq (.ops f11r5)
  (.keep [0, 1, 2, 6, 13, 14] (.seq (.draw f11r6 [(0, 0, false), (0, 0, false), (0, 0, false), (0, 0, false), (0, 0, false), (0, 0, false), (0, 0, false), (0, 0, false), (0, 0, false), (0, 0, false), (0, 0, false), (0, 0, false), (0, 0, false), (0, 0, false), (0, 0, false), (0, 0, false), (0, 0, false), (0, 0, false), (0, 0, false), (0, 0, false), (0, 0, false), (0, 0, false), (0, 0, false), (0, 0, false), (0, 0, false), (0, 0, false), (0, 0, false), (0, 0, false)])
  (.keep [0, 1, 2, 13, 14, 44] (.cond (.tmp 44) (.keep [] (.seq (.ops f11r7)
  (.keep [5] .ret))) .skip))))))
  (.keep [0, 1, 2, 13, 14] (.ops f11r8)))))))

def f11r10 : List AInstr := [
    ⟨(some 5), none, .mov (.const (.bool true))⟩]

def f11b : ACode := (.seq (.ops f11r0)
  (.keep [0, 1, 2] (.seq (.seq (.ops f11r1)
  (.keep [0, 1, 2, 11] (.cond (.tmp 11) (.keep [] (.seq (.ops f11r2)
  (.keep [5] .ret))) .skip)))
  (.keep [0, 1, 2] (.seq (.seq (.ops f11r3)
  (.keep [0, 1, 2, 13, 14] (.block 0 (.loop f11l0))))
  (.keep [] (.seq (.ops f11r10)
  (.keep [5] .ret))))))))

def f11 : AFn := ⟨46, [.tmp 5], f11b⟩

theorem f11_ok : compFn Try.prog 11 = some f11.strip := by kernel_rfl

/- function 12: slices.Reverse[[]int,int]; parameters 1; operations that are not compiled: 0 -/
def f12r0 : List AInstr := [
    ⟨(some 4), none, .mov (.tmp 0)⟩,
    ⟨(some 5), none, .len (.tmp 4)⟩,
    ⟨(some 6), none, .ibin .sub (.tmp 5) (.const (.int .i64 1))⟩,
    ⟨(some 2), none, .mov (.const (.int .i64 0))⟩,
    ⟨(some 3), none, .mov (.tmp 6)⟩]

def f12r1 : List AInstr := [
    ⟨(some 7), none, .mov (.tmp 2)⟩,
    ⟨(some 8), none, .mov (.tmp 3)⟩,
    ⟨(some 9), none, .ibin .lss (.tmp 7) (.tmp 8)⟩]

def f12r2 : List AInstr := [
    ⟨(some 14), none, .mov (.tmp 0)⟩,
    ⟨(some 15), none, .mov (.tmp 2)⟩,
    ⟨(some 16), none, .mov (.tmp 0)⟩,
    ⟨(some 17), none, .mov (.tmp 3)⟩,
    ⟨(some 18), none, .mov (.tmp 0)⟩,
    ⟨(some 19), none, .mov (.tmp 3)⟩,
    ⟨(some 20), none, .indexAddr 1 (.tmp 18) (.tmp 19)⟩,
    ⟨(some 21), none, .load none (.tmp 20)⟩,
    ⟨(some 22), none, .mov (.tmp 0)⟩,
    ⟨(some 23), none, .mov (.tmp 2)⟩,
    ⟨(some 24), none, .indexAddr 1 (.tmp 22) (.tmp 23)⟩,
    ⟨(some 25), none, .load none (.tmp 24)⟩,
    ⟨(some 26), none, .indexAddr 1 (.tmp 14) (.tmp 15)⟩,
    ⟨none, none, .store 1 (.tmp 26) (.tmp 21)⟩,
    ⟨(some 27), none, .indexAddr 1 (.tmp 16) (.tmp 17)⟩,
    ⟨none, none, .store 1 (.tmp 27) (.tmp 25)⟩]

def f12r3 : List AInstr := [
    ⟨(some 10), none, .mov (.tmp 2)⟩,
    ⟨(some 11), none, .ibin .add (.tmp 10) (.const (.int .i64 1))⟩,
    ⟨(some 12), none, .mov (.tmp 3)⟩,
    ⟨(some 13), none, .ibin .sub (.tmp 12) (.const (.int .i64 1))⟩,
    ⟨(some 2), none, .mov (.tmp 11)⟩,
    ⟨(some 3), none, .mov (.tmp 13)⟩]

/-- live: [0, 2, 3] -/
def f12l0 : ACode := (.seq (.seq (.ops f12r1)
  (.keep [0, 2, 3, 9] (.cond (.tmp 9) .skip (.exit 0))))
  (.keep [0, 2, 3] (.seq (.block 1 (.draw f12r2 [(0, 0, false), (0, 0, false), (0, 1, false), (0, 1, false), (0, 0, false), (0, 0, false), (0, 0, false), (0, 0, false), (0, 0, false), (0, 0, false), (0, 0, false), (0, 0, false), (0, 0, false), (0, 0, true), (1, 1, false), (1, 0, true)]))
  (.keep [0, 2, 3] (.ops f12r3)))))

def f12b : ACode := (.seq (.ops f12r0)
  (.keep [0, 2, 3] (.block 0 (.loop f12l0))))

def f12 : AFn := ⟨28, [], f12b⟩

theorem f12_ok : compFn Try.prog 12 = some f12.strip := by kernel_rfl

/- function 13: slices.Reverse[[]weirhouse/api.Frac,weirhouse/api.Frac]; parameters 1; operations that are not compiled: 0 -/
def f13r0 : List AInstr := [
    ⟨(some 4), none, .mov (.tmp 0)⟩,
    ⟨(some 5), none, .len (.tmp 4)⟩,
    ⟨(some 6), none, .ibin .sub (.tmp 5) (.const (.int .i64 1))⟩,
    ⟨(some 2), none, .mov (.const (.int .i64 0))⟩,
    ⟨(some 3), none, .mov (.tmp 6)⟩]

def f13r1 : List AInstr := [
    ⟨(some 7), none, .mov (.tmp 2)⟩,
    ⟨(some 8), none, .mov (.tmp 3)⟩,
    ⟨(some 9), none, .ibin .lss (.tmp 7) (.tmp 8)⟩]

def f13r2 : List AInstr := [
    ⟨(some 14), none, .mov (.tmp 0)⟩,
    ⟨(some 15), none, .mov (.tmp 2)⟩,
    ⟨(some 16), none, .mov (.tmp 0)⟩,
    ⟨(some 17), none, .mov (.tmp 3)⟩,
    ⟨(some 18), none, .mov (.tmp 0)⟩,
    ⟨(some 19), none, .mov (.tmp 3)⟩,
    ⟨(some 20), none, .indexAddr 2 (.tmp 18) (.tmp 19)⟩,
    ⟨(some 21), none, .load (some 2) (.tmp 20)⟩,
    ⟨(some 22), none, .mov (.tmp 0)⟩,
    ⟨(some 23), none, .mov (.tmp 2)⟩,
    ⟨(some 24), none, .indexAddr 2 (.tmp 22) (.tmp 23)⟩,
    ⟨(some 25), none, .load (some 2) (.tmp 24)⟩,
    ⟨(some 26), none, .indexAddr 2 (.tmp 14) (.tmp 15)⟩,
    ⟨none, none, .store 2 (.tmp 26) (.tmp 21)⟩,
    ⟨(some 27), none, .indexAddr 2 (.tmp 16) (.tmp 17)⟩,
    ⟨none, none, .store 2 (.tmp 27) (.tmp 25)⟩]

def f13r3 : List AInstr := [
    ⟨(some 10), none, .mov (.tmp 2)⟩,
    ⟨(some 11), none, .ibin .add (.tmp 10) (.const (.int .i64 1))⟩,
    ⟨(some 12), none, .mov (.tmp 3)⟩,
    ⟨(some 13), none, .ibin .sub (.tmp 12) (.const (.int .i64 1))⟩,
    ⟨(some 2), none, .mov (.tmp 11)⟩,
    ⟨(some 3), none, .mov (.tmp 13)⟩]

/-- live: [0, 2, 3] -/
def f13l0 : ACode := (.seq (.seq (.ops f13r1)
  (.keep [0, 2, 3, 9] (.cond (.tmp 9) .skip (.exit 0))))
  (.keep [0, 2, 3] (.seq (.block 1 (.draw f13r2 [(0, 0, false), (0, 0, false), (0, 1, false), (0, 1, false), (0, 0, false), (0, 0, false), (0, 0, false), (0, 0, false), (0, 0, false), (0, 0, false), (0, 0, false), (0, 0, false), (0, 0, false), (0, 0, true), (1, 1, false), (1, 0, true)]))
  (.keep [0, 2, 3] (.ops f13r3)))))

def f13b : ACode := (.seq (.ops f13r0)
  (.keep [0, 2, 3] (.block 0 (.loop f13l0))))

def f13 : AFn := ⟨28, [], f13b⟩

theorem f13_ok : compFn Try.prog 13 = some f13.strip := by kernel_rfl

/- function 14: slices.Equal[[]weirhouse/api.Frac,weirhouse/api.Frac]; parameters 2; operations that are not compiled: 0 -/
def f14r0 : List AInstr := [
    ⟨(some 4), none, .mov (.const (.bool false))⟩]

def f14r1 : List AInstr := [
    ⟨(some 6), none, .mov (.tmp 0)⟩,
    ⟨(some 7), none, .len (.tmp 6)⟩,
    ⟨(some 8), none, .mov (.tmp 1)⟩,
    ⟨(some 9), none, .len (.tmp 8)⟩,
    ⟨(some 10), none, .ibin .neq (.tmp 7) (.tmp 9)⟩]

def f14r2 : List AInstr := [
    ⟨(some 4), none, .mov (.const (.bool false))⟩]

def f14r3 : List AInstr := [
    ⟨(some 11), none, .mov (.tmp 0)⟩,
    ⟨(some 12), none, .len (.tmp 11)⟩,
    ⟨(some 13), none, .mov (.const (.int .i64 0))⟩]

def f14r4 : List AInstr := [
    ⟨(some 14), none, .ibin .lss (.tmp 13) (.tmp 12)⟩]

def f14r5 : List AInstr := [
    ⟨(some 15), none, .mov (.tmp 13)⟩,
    ⟨(some 5), none, .mov (.tmp 15)⟩]

def f14r6 : List AInstr := [
    ⟨(some 16), none, .mov (.tmp 0)⟩,
    ⟨(some 17), none, .mov (.tmp 5)⟩,
    ⟨(some 18), none, .indexAddr 2 (.tmp 16) (.tmp 17)⟩,
    ⟨(some 19), none, .load (some 2) (.tmp 18)⟩,
    ⟨(some 20), none, .mov (.tmp 1)⟩,
    ⟨(some 21), none, .mov (.tmp 5)⟩,
    ⟨(some 22), none, .indexAddr 2 (.tmp 20) (.tmp 21)⟩,
    ⟨(some 23), none, .load (some 2) (.tmp 22)⟩,
    ⟨(some 24), none, .eqA true [false, false] (.tmp 19) (.tmp 23)⟩]

def f14r7 : List AInstr := [
    ⟨(some 4), none, .mov (.const (.bool false))⟩]

def f14r8 : List AInstr := [
    ⟨(some 25), none, .ibin .add (.tmp 13) (.const (.int .i64 1))⟩,
    ⟨(some 13), none, .mov (.tmp 25)⟩]

/-- live: [0, 1, 12, 13] -/
def f14l0 : ACode := (.seq (.ops f14r4)
  (.keep [0, 1, 12, 13, 14] (.seq (.cond (.tmp 14) .skip (.exit 0))
  (.keep [0, 1, 12, 13] (.seq (.block 1 (.seq (.ops f14r5)
  (.keep [0, 1, 5, 12, 13] (.seq (.draw f14r6 [(0, 0, false), (0, 0, false), (0, 0, false), (0, 0, false), (0, 0, false), (0, 0, false), (0, 0, false), (0, 0, false), (0, 0, false)])
  (.keep [0, 1, 12, 13, 24] (.cond (.tmp 24) (.keep [] (.seq (.ops f14r7)
  (.keep [4] .ret))) .skip))))))
  (.keep [0, 1, 12, 13] (.ops f14r8)))))))

def f14r10 : List AInstr := [
    ⟨(some 4), none, .mov (.const (.bool true))⟩]

def f14b : ACode := (.seq (.ops f14r0)
  (.keep [0, 1] (.seq (.seq (.ops f14r1)
  (.keep [0, 1, 10] (.cond (.tmp 10) (.keep [] (.seq (.ops f14r2)
  (.keep [4] .ret))) .skip)))
  (.keep [0, 1] (.seq (.seq (.ops f14r3)
  (.keep [0, 1, 12, 13] (.block 0 (.loop f14l0))))
  (.keep [] (.seq (.ops f14r10)
  (.keep [4] .ret))))))))

def f14 : AFn := ⟨26, [.tmp 4], f14b⟩

theorem f14_ok : compFn Try.prog 14 = some f14.strip := by kernel_rfl

/- function 15: weirhouse/share.Wrong; parameters 3; operations that are not compiled: 0 -/
def f15r0 : List AInstr := [
    ⟨(some 6), none, .mov (.const (.int .i64 0))⟩]

def f15r1 : List AInstr := [
    ⟨(some 10), none, .mov (.tmp 1)⟩,
    ⟨(some 11), none, .len (.tmp 10)⟩,
    ⟨(some 12), none, .mov (.tmp 2)⟩,
    ⟨(some 13), none, .len (.tmp 12)⟩,
    ⟨(some 14), none, .ibin .neq (.tmp 11) (.tmp 13)⟩,
    ⟨(some 9), none, .mov (.tmp 14)⟩]

def f15r2 : List AInstr := [
    ⟨(some 6), none, .mov (.const (.int .i64 1))⟩]

def f15r3 : List AInstr := [
    ⟨(some 16), none, .mov (.tmp 0)⟩,
    ⟨(some 17), none, .ibin .lss (.tmp 16) (.const (.int .i64 0))⟩,
    ⟨(some 18), none, .mov (.tmp 17)⟩,
    ⟨(some 19), (some (18, false)), .mov (.tmp 0)⟩,
    ⟨(some 20), (some (18, false)), .ibin .gtr (.tmp 19) (.const (.int .i64 1048576))⟩,
    ⟨(some 21), none, .pick (.tmp 18) (.const (.bool true)) (.tmp 20)⟩,
    ⟨(some 22), none, .mov (.tmp 21)⟩,
    ⟨(some 23), (some (22, false)), .mov (.tmp 1)⟩,
    ⟨(some 24), (some (22, false)), .len (.tmp 23)⟩,
    ⟨(some 25), (some (22, false)), .ibin .gtr (.tmp 24) (.const (.int .i64 16))⟩,
    ⟨(some 26), none, .pick (.tmp 22) (.const (.bool true)) (.tmp 25)⟩,
    ⟨(some 15), none, .mov (.tmp 26)⟩]

def f15r4 : List AInstr := [
    ⟨(some 6), none, .mov (.const (.int .i64 2))⟩]

def f15r5 : List AInstr := [
    ⟨(some 27), none, .mov (.tmp 1)⟩,
    ⟨(some 28), none, .len (.tmp 27)⟩,
    ⟨(some 29), none, .mov (.const (.int .i64 0))⟩]

def f15r6 : List AInstr := [
    ⟨(some 30), none, .ibin .lss (.tmp 29) (.tmp 28)⟩]

def f15r7 : List AInstr := [
    ⟨(some 31), none, .mov (.tmp 29)⟩,
    ⟨(some 32), none, .indexAddr 1 (.tmp 27) (.tmp 29)⟩,
    ⟨(some 33), none, .load none (.tmp 32)⟩,
    ⟨(some 7), none, .mov (.tmp 31)⟩,
    ⟨(some 8), none, .mov (.tmp 33)⟩]

def f15r8 : List AInstr := [
    ⟨(some 34), none, .mov (.tmp 8)⟩,
    ⟨(some 35), none, .ibin .lss (.tmp 34) (.const (.int .i64 0))⟩,
    ⟨(some 36), none, .mov (.tmp 35)⟩,
    ⟨(some 37), (some (36, false)), .mov (.tmp 8)⟩,
    ⟨(some 38), (some (36, false)), .ibin .gtr (.tmp 37) (.const (.int .i64 1048576))⟩,
    ⟨(some 39), none, .pick (.tmp 36) (.const (.bool true)) (.tmp 38)⟩,
    ⟨(some 40), none, .mov (.tmp 39)⟩,
    ⟨(some 41), (some (40, false)), .mov (.tmp 2)⟩,
    ⟨(some 42), (some (40, false)), .mov (.tmp 7)⟩,
    ⟨(some 43), (some (40, false)), .indexAddr 1 (.tmp 41) (.tmp 42)⟩,
    ⟨(some 44), (some (40, false)), .load none (.tmp 43)⟩,
    ⟨(some 45), (some (40, false)), .ibin .lss (.tmp 44) (.const (.int .i64 1))⟩,
    ⟨(some 46), none, .pick (.tmp 40) (.const (.bool true)) (.tmp 45)⟩,
    ⟨(some 47), none, .mov (.tmp 46)⟩,
    ⟨(some 48), (some (47, false)), .mov (.tmp 2)⟩,
    ⟨(some 49), (some (47, false)), .mov (.tmp 7)⟩,
    ⟨(some 50), (some (47, false)), .indexAddr 1 (.tmp 48) (.tmp 49)⟩,
    ⟨(some 51), (some (47, false)), .load none (.tmp 50)⟩,
    ⟨(some 52), (some (47, false)), .ibin .gtr (.tmp 51) (.const (.int .i64 1000))⟩,
    ⟨(some 53), none, .pick (.tmp 47) (.const (.bool true)) (.tmp 52)⟩]

def f15r9 : List AInstr := [
    ⟨(some 6), none, .mov (.const (.int .i64 2))⟩]

def f15r10 : List AInstr := [
    ⟨(some 54), none, .ibin .add (.tmp 29) (.const (.int .i64 1))⟩,
    ⟨(some 29), none, .mov (.tmp 54)⟩]

/-- live: [2, 27, 28, 29] -/
def f15l0 : ACode := (.seq (.ops f15r6)
  (.keep [2, 27, 28, 29, 30] (.seq (.cond (.tmp 30) .skip (.exit 1))
  (.keep [2, 27, 28, 29] (.seq (.block 2 (.seq (.ops f15r7)
  (.keep [2, 7, 8, 27, 28, 29] (.seq (.ops f15r8)
  (.keep [2, 27, 28, 29, 53] (.cond (.tmp 53) (.keep [] (.seq (.ops f15r9)
  (.keep [6] .ret))) .skip))))))
  (.keep [2, 27, 28, 29] (.ops f15r10)))))))

def f15r12 : List AInstr := [
    ⟨(some 6), none, .mov (.const (.int .i64 0))⟩]

def f15b : ACode := (.seq (.ops f15r0)
  (.keep [0, 1, 2] (.seq (.block 0 (.seq (.ops f15r1)
  (.keep [0, 1, 2, 9] (.cond (.tmp 9) (.keep [] (.seq (.ops f15r2)
  (.keep [6] .ret))) (.keep [0, 1, 2] (.seq (.ops f15r3)
  (.keep [1, 2, 15] (.cond (.tmp 15) (.keep [] (.seq (.ops f15r4)
  (.keep [6] .ret))) .skip))))))))
  (.keep [1, 2] (.seq (.seq (.ops f15r5)
  (.keep [2, 27, 28, 29] (.block 1 (.loop f15l0))))
  (.keep [] (.seq (.ops f15r12)
  (.keep [6] .ret))))))))

def f15 : AFn := ⟨55, [.tmp 6], f15b⟩

theorem f15_ok : compFn Try.prog 15 = some f15.strip := by kernel_rfl

/- function 16: slices.SortFunc[[]int,int]; parameters 2; operations that are not compiled: 0 -/
def f16r0 : List AInstr := [
    ⟨(some 5), none, .mov (.tmp 0)⟩,
    ⟨(some 6), none, .len (.tmp 5)⟩,
    ⟨(some 4), none, .mov (.tmp 6)⟩]

def f16r1 : List AInstr := [
    ⟨(some 7), none, .mov (.tmp 0)⟩,
    ⟨(some 8), none, .mov (.tmp 4)⟩,
    ⟨(some 9), none, .mov (.tmp 4)⟩,
    ⟨(some 10), none, .conv .u64 (.tmp 9)⟩,
    ⟨(some 11), none, .callF 19 [.tmp 10]⟩,
    ⟨(some 12), none, .mov (.tmp 1)⟩,
    ⟨(some 13), none, .callF 18 [.tmp 7, .const (.int .i64 0), .tmp 8, .tmp 11, .tmp 12]⟩]

def f16b : ACode := (.seq (.ops f16r0)
  (.keep [0, 1, 4] (.ops f16r1)))

def f16 : AFn := ⟨14, [], f16b⟩

theorem f16_ok : compFn Try.prog 16 = some f16.strip := by kernel_rfl

/- function 17: weirhouse/share.Level$1; parameters 2; operations that are not compiled: 0 -/
def f17r0 : List AInstr := [
    ⟨(some 6), none, .mov (.const (.int .i64 0))⟩]

def f17r1 : List AInstr := [
    ⟨(some 7), none, .load none (.tmp 2)⟩,
    ⟨(some 8), none, .mov (.tmp 0)⟩,
    ⟨(some 9), none, .indexAddr 1 (.tmp 7) (.tmp 8)⟩,
    ⟨(some 10), none, .load none (.tmp 9)⟩,
    ⟨(some 11), none, .load none (.tmp 3)⟩,
    ⟨(some 12), none, .mov (.tmp 1)⟩,
    ⟨(some 13), none, .indexAddr 1 (.tmp 11) (.tmp 12)⟩,
    ⟨(some 14), none, .load none (.tmp 13)⟩,
    ⟨(some 15), none, .ibin .mul (.tmp 10) (.tmp 14)⟩,
    ⟨(some 16), none, .load none (.tmp 2)⟩,
    ⟨(some 17), none, .mov (.tmp 1)⟩,
    ⟨(some 18), none, .indexAddr 1 (.tmp 16) (.tmp 17)⟩,
    ⟨(some 19), none, .load none (.tmp 18)⟩,
    ⟨(some 20), none, .load none (.tmp 3)⟩,
    ⟨(some 21), none, .mov (.tmp 0)⟩,
    ⟨(some 22), none, .indexAddr 1 (.tmp 20) (.tmp 21)⟩,
    ⟨(some 23), none, .load none (.tmp 22)⟩,
    ⟨(some 24), none, .ibin .mul (.tmp 19) (.tmp 23)⟩,
    ⟨(some 25), none, .ibin .sub (.tmp 15) (.tmp 24)⟩,
    ⟨(some 6), none, .mov (.tmp 25)⟩]

def f17b : ACode := (.seq (.ops f17r0)
  (.keep [0, 1, 2, 3] (.seq (.draw f17r1 [(0, 0, false), (0, 0, false), (0, 0, false), (0, 0, false), (0, 0, false), (0, 0, false), (0, 0, false), (0, 0, false), (0, 0, false), (0, 0, false), (0, 0, false), (0, 0, false), (0, 0, false), (0, 0, false), (0, 0, false), (0, 0, false), (0, 0, false), (0, 0, false), (0, 0, false), (0, 0, false)])
  (.keep [6] .ret))))

def f17 : AFn := ⟨26, [.tmp 6], f17b⟩

theorem f17_ok : compFn Try.prog 17 = some f17.strip := by kernel_rfl

/- function 18: slices.pdqsortCmpFunc[int]; parameters 5; operations that are not compiled: 0 -/
def f18r0 : List AInstr := [
    ⟨(some 10), none, .mov (.const (.bool true))⟩]

def f18r1 : List AInstr := [
    ⟨(some 11), none, .mov (.const (.bool true))⟩]

def f18r2 : List AInstr := [
    ⟨(some 21), none, .mov (.tmp 2)⟩,
    ⟨(some 22), none, .mov (.tmp 1)⟩,
    ⟨(some 23), none, .ibin .sub (.tmp 21) (.tmp 22)⟩,
    ⟨(some 12), none, .mov (.tmp 23)⟩]

def f18r3 : List AInstr := [
    ⟨(some 24), none, .mov (.tmp 12)⟩,
    ⟨(some 25), none, .ibin .leq (.tmp 24) (.const (.int .i64 12))⟩]

def f18r4 : List AInstr := [
    ⟨(some 26), none, .mov (.tmp 0)⟩,
    ⟨(some 27), none, .mov (.tmp 1)⟩,
    ⟨(some 28), none, .mov (.tmp 2)⟩,
    ⟨(some 29), none, .mov (.tmp 4)⟩,
    ⟨(some 30), none, .callF 20 [.tmp 26, .tmp 27, .tmp 28, .tmp 29]⟩]

def f18r5 : List AInstr := [
    ⟨(some 31), none, .mov (.tmp 3)⟩,
    ⟨(some 32), none, .ibin .eql (.tmp 31) (.const (.int .i64 0))⟩]

def f18r6 : List AInstr := [
    ⟨(some 33), none, .mov (.tmp 0)⟩,
    ⟨(some 34), none, .mov (.tmp 1)⟩,
    ⟨(some 35), none, .mov (.tmp 2)⟩,
    ⟨(some 36), none, .mov (.tmp 4)⟩,
    ⟨(some 37), none, .callF 21 [.tmp 33, .tmp 34, .tmp 35, .tmp 36]⟩]

def f18r7 : List AInstr := [
    ⟨(some 38), none, .mov (.tmp 10)⟩,
    ⟨(some 39), none, .un .not (.tmp 38)⟩]

def f18r8 : List AInstr := [
    ⟨(some 40), none, .mov (.tmp 0)⟩,
    ⟨(some 41), none, .mov (.tmp 1)⟩,
    ⟨(some 42), none, .mov (.tmp 2)⟩,
    ⟨(some 43), none, .mov (.tmp 4)⟩,
    ⟨(some 44), none, .callF 22 [.tmp 40, .tmp 41, .tmp 42, .tmp 43]⟩]

def f18r9 : List AInstr := [
    ⟨(some 45), none, .mov (.tmp 3)⟩,
    ⟨(some 46), none, .ibin .sub (.tmp 45) (.const (.int .i64 1))⟩,
    ⟨(some 3), none, .mov (.tmp 46)⟩]

def f18r10 : List AInstr := [
    ⟨(some 48), none, .mov (.tmp 0)⟩,
    ⟨(some 49), none, .mov (.tmp 1)⟩,
    ⟨(some 50), none, .mov (.tmp 2)⟩,
    ⟨(some 51), none, .mov (.tmp 4)⟩,
    ⟨(some 52), none, .callF 23 [.tmp 48, .tmp 49, .tmp 50, .tmp 51]⟩,
    ⟨(some 47), none, .mov (.tmp 52)⟩,
    ⟨(some 53), none, .extract 0 (.tmp 47)⟩,
    ⟨(some 54), none, .extract 1 (.tmp 47)⟩,
    ⟨(some 13), none, .mov (.tmp 53)⟩,
    ⟨(some 14), none, .mov (.tmp 54)⟩]

def f18r11 : List AInstr := [
    ⟨(some 55), none, .mov (.tmp 14)⟩,
    ⟨(some 56), none, .ibin .eql (.tmp 55) (.const (.int .i64 2))⟩]

def f18r12 : List AInstr := [
    ⟨(some 57), none, .mov (.tmp 0)⟩,
    ⟨(some 58), none, .mov (.tmp 1)⟩,
    ⟨(some 59), none, .mov (.tmp 2)⟩,
    ⟨(some 60), none, .mov (.tmp 4)⟩,
    ⟨(some 61), none, .callF 24 [.tmp 57, .tmp 58, .tmp 59, .tmp 60]⟩]

def f18r13 : List AInstr := [
    ⟨(some 62), none, .mov (.tmp 2)⟩,
    ⟨(some 63), none, .ibin .sub (.tmp 62) (.const (.int .i64 1))⟩,
    ⟨(some 64), none, .mov (.tmp 13)⟩,
    ⟨(some 65), none, .mov (.tmp 1)⟩,
    ⟨(some 66), none, .ibin .sub (.tmp 64) (.tmp 65)⟩,
    ⟨(some 67), none, .ibin .sub (.tmp 63) (.tmp 66)⟩,
    ⟨(some 13), none, .mov (.tmp 67)⟩]

def f18r14 : List AInstr := [
    ⟨(some 14), none, .mov (.const (.int .i64 1))⟩]

def f18r15 : List AInstr := [
    ⟨(some 68), none, .mov (.tmp 10)⟩,
    ⟨(some 69), none, .mov (.tmp 68)⟩,
    ⟨(some 70), (some (69, true)), .mov (.tmp 11)⟩,
    ⟨(some 71), none, .pick (.tmp 69) (.tmp 70) (.const (.bool false))⟩,
    ⟨(some 72), none, .mov (.tmp 71)⟩,
    ⟨(some 73), (some (72, true)), .mov (.tmp 14)⟩,
    ⟨(some 74), (some (72, true)), .ibin .eql (.tmp 73) (.const (.int .i64 1))⟩,
    ⟨(some 75), none, .pick (.tmp 72) (.tmp 74) (.const (.bool false))⟩]

def f18r16 : List AInstr := [
    ⟨(some 76), none, .mov (.tmp 0)⟩,
    ⟨(some 77), none, .mov (.tmp 1)⟩,
    ⟨(some 78), none, .mov (.tmp 2)⟩,
    ⟨(some 79), none, .mov (.tmp 4)⟩,
    ⟨(some 80), none, .callF 25 [.tmp 76, .tmp 77, .tmp 78, .tmp 79]⟩]

def f18r17 : List AInstr := [
    ⟨(some 81), none, .mov (.tmp 1)⟩,
    ⟨(some 82), none, .ibin .gtr (.tmp 81) (.const (.int .i64 0))⟩,
    ⟨(some 83), none, .mov (.tmp 82)⟩,
    ⟨(some 84), (some (83, true)), .mov (.tmp 4)⟩,
    ⟨(some 85), (some (83, true)), .mov (.tmp 0)⟩,
    ⟨(some 86), (some (83, true)), .mov (.tmp 1)⟩,
    ⟨(some 87), (some (83, true)), .ibin .sub (.tmp 86) (.const (.int .i64 1))⟩,
    ⟨(some 88), (some (83, true)), .indexAddr 1 (.tmp 85) (.tmp 87)⟩,
    ⟨(some 89), (some (83, true)), .load none (.tmp 88)⟩,
    ⟨(some 90), (some (83, true)), .mov (.tmp 0)⟩,
    ⟨(some 91), (some (83, true)), .mov (.tmp 13)⟩,
    ⟨(some 92), (some (83, true)), .indexAddr 1 (.tmp 90) (.tmp 91)⟩,
    ⟨(some 93), (some (83, true)), .load none (.tmp 92)⟩,
    ⟨(some 94), (some (83, true)), .callV (.tmp 84) [.tmp 89, .tmp 93]⟩,
    ⟨(some 95), (some (83, true)), .ibin .lss (.tmp 94) (.const (.int .i64 0))⟩,
    ⟨(some 96), (some (83, true)), .un .not (.tmp 95)⟩,
    ⟨(some 97), none, .pick (.tmp 83) (.tmp 96) (.const (.bool false))⟩]

def f18r18 : List AInstr := [
    ⟨(some 98), none, .mov (.tmp 0)⟩,
    ⟨(some 99), none, .mov (.tmp 1)⟩,
    ⟨(some 100), none, .mov (.tmp 2)⟩,
    ⟨(some 101), none, .mov (.tmp 13)⟩,
    ⟨(some 102), none, .mov (.tmp 4)⟩,
    ⟨(some 103), none, .callF 26 [.tmp 98, .tmp 99, .tmp 100, .tmp 101, .tmp 102]⟩,
    ⟨(some 15), none, .mov (.tmp 103)⟩]

def f18r19 : List AInstr := [
    ⟨(some 104), none, .mov (.tmp 15)⟩,
    ⟨(some 1), none, .mov (.tmp 104)⟩]

def f18r20 : List AInstr := [
    ⟨(some 106), none, .mov (.tmp 0)⟩,
    ⟨(some 107), none, .mov (.tmp 1)⟩,
    ⟨(some 108), none, .mov (.tmp 2)⟩,
    ⟨(some 109), none, .mov (.tmp 13)⟩,
    ⟨(some 110), none, .mov (.tmp 4)⟩,
    ⟨(some 111), none, .callF 27 [.tmp 106, .tmp 107, .tmp 108, .tmp 109, .tmp 110]⟩,
    ⟨(some 105), none, .mov (.tmp 111)⟩,
    ⟨(some 112), none, .extract 0 (.tmp 105)⟩,
    ⟨(some 113), none, .extract 1 (.tmp 105)⟩,
    ⟨(some 16), none, .mov (.tmp 112)⟩,
    ⟨(some 17), none, .mov (.tmp 113)⟩]

def f18r21 : List AInstr := [
    ⟨(some 114), none, .mov (.tmp 17)⟩,
    ⟨(some 11), none, .mov (.tmp 114)⟩]

def f18r22 : List AInstr := [
    ⟨(some 115), none, .mov (.tmp 16)⟩,
    ⟨(some 116), none, .mov (.tmp 1)⟩,
    ⟨(some 117), none, .ibin .sub (.tmp 115) (.tmp 116)⟩,
    ⟨(some 118), none, .mov (.tmp 2)⟩,
    ⟨(some 119), none, .mov (.tmp 16)⟩,
    ⟨(some 120), none, .ibin .sub (.tmp 118) (.tmp 119)⟩,
    ⟨(some 18), none, .mov (.tmp 117)⟩,
    ⟨(some 19), none, .mov (.tmp 120)⟩]

def f18r23 : List AInstr := [
    ⟨(some 121), none, .mov (.tmp 12)⟩,
    ⟨(some 122), none, .ibin .quo (.tmp 121) (.const (.int .i64 8))⟩,
    ⟨(some 20), none, .mov (.tmp 122)⟩]

def f18r24 : List AInstr := [
    ⟨(some 123), none, .mov (.tmp 18)⟩,
    ⟨(some 124), none, .mov (.tmp 19)⟩,
    ⟨(some 125), none, .ibin .lss (.tmp 123) (.tmp 124)⟩]

def f18r25 : List AInstr := [
    ⟨(some 126), none, .mov (.tmp 18)⟩,
    ⟨(some 127), none, .mov (.tmp 20)⟩,
    ⟨(some 128), none, .ibin .geq (.tmp 126) (.tmp 127)⟩,
    ⟨(some 10), none, .mov (.tmp 128)⟩]

def f18r26 : List AInstr := [
    ⟨(some 129), none, .mov (.tmp 0)⟩,
    ⟨(some 130), none, .mov (.tmp 1)⟩,
    ⟨(some 131), none, .mov (.tmp 16)⟩,
    ⟨(some 132), none, .mov (.tmp 3)⟩,
    ⟨(some 133), none, .mov (.tmp 4)⟩,
    ⟨(some 134), none, .callF 18 [.tmp 129, .tmp 130, .tmp 131, .tmp 132, .tmp 133]⟩]

def f18r27 : List AInstr := [
    ⟨(some 135), none, .mov (.tmp 16)⟩,
    ⟨(some 136), none, .ibin .add (.tmp 135) (.const (.int .i64 1))⟩,
    ⟨(some 1), none, .mov (.tmp 136)⟩]

def f18r28 : List AInstr := [
    ⟨(some 137), none, .mov (.tmp 19)⟩,
    ⟨(some 138), none, .mov (.tmp 20)⟩,
    ⟨(some 139), none, .ibin .geq (.tmp 137) (.tmp 138)⟩,
    ⟨(some 10), none, .mov (.tmp 139)⟩]

def f18r29 : List AInstr := [
    ⟨(some 140), none, .mov (.tmp 0)⟩,
    ⟨(some 141), none, .mov (.tmp 16)⟩,
    ⟨(some 142), none, .ibin .add (.tmp 141) (.const (.int .i64 1))⟩,
    ⟨(some 143), none, .mov (.tmp 2)⟩,
    ⟨(some 144), none, .mov (.tmp 3)⟩,
    ⟨(some 145), none, .mov (.tmp 4)⟩,
    ⟨(some 146), none, .callF 18 [.tmp 140, .tmp 142, .tmp 143, .tmp 144, .tmp 145]⟩]

def f18r30 : List AInstr := [
    ⟨(some 147), none, .mov (.tmp 16)⟩,
    ⟨(some 2), none, .mov (.tmp 147)⟩]

/-- live: [0, 1, 2, 3, 4, 10, 11] -/
def f18l0 : ACode := (.block 1 (.seq (.ops f18r2)
  (.keep [0, 1, 2, 3, 4, 10, 11, 12] (.seq (.seq (.ops f18r3)
  (.keep [0, 1, 2, 3, 4, 10, 11, 12, 25] (.cond (.tmp 25) (.keep [0, 1, 2, 4] (.seq (.ops f18r4)
  (.keep [] .ret))) .skip)))
  (.keep [0, 1, 2, 3, 4, 10, 11, 12] (.seq (.seq (.ops f18r5)
  (.keep [0, 1, 2, 3, 4, 10, 11, 12, 32] (.cond (.tmp 32) (.keep [0, 1, 2, 4] (.seq (.ops f18r6)
  (.keep [] .ret))) .skip)))
  (.keep [0, 1, 2, 3, 4, 10, 11, 12] (.seq (.seq (.ops f18r7)
  (.keep [0, 1, 2, 3, 4, 10, 11, 12, 39] (.cond (.tmp 39) (.keep [0, 1, 2, 3, 4, 10, 11, 12] (.seq (.ops f18r8)
  (.keep [0, 1, 2, 3, 4, 10, 11, 12] (.ops f18r9)))) .skip)))
  (.keep [0, 1, 2, 3, 4, 10, 11, 12] (.seq (.ops f18r10)
  (.keep [0, 1, 2, 3, 4, 10, 11, 12, 13, 14] (.seq (.seq (.ops f18r11)
  (.keep [0, 1, 2, 3, 4, 10, 11, 12, 13, 14, 56] (.cond (.tmp 56) (.keep [0, 1, 2, 3, 4, 10, 11, 12, 13] (.seq (.ops f18r12)
  (.keep [0, 1, 2, 3, 4, 10, 11, 12, 13] (.seq (.ops f18r13)
  (.keep [0, 1, 2, 3, 4, 10, 11, 12, 13] (.ops f18r14)))))) .skip)))
  (.keep [0, 1, 2, 3, 4, 10, 11, 12, 13, 14] (.seq (.seq (.ops f18r15)
  (.keep [0, 1, 2, 3, 4, 10, 11, 12, 13, 75] (.cond (.tmp 75) (.keep [0, 1, 2, 3, 4, 10, 11, 12, 13] (.seq (.ops f18r16)
  (.keep [0, 1, 2, 3, 4, 10, 11, 12, 13, 80] (.cond (.tmp 80) (.keep [] .ret) .skip)))) .skip)))
  (.keep [0, 1, 2, 3, 4, 10, 11, 12, 13] (.seq (.seq (.draw f18r17 [(0, 0, false), (0, 0, false), (0, 0, false), (0, 0, false), (0, 0, false), (0, 0, false), (0, 0, false), (0, 0, false), (0, 0, false), (0, 0, false), (0, 0, false), (0, 0, false), (0, 0, false), (0, 0, true), (1, 1, false), (1, 1, false), (1, 1, false)])
  (.keep [0, 1, 2, 3, 4, 10, 11, 12, 13, 97] (.cond (.tmp 97) (.keep [0, 1, 2, 3, 4, 10, 11, 13] (.seq (.ops f18r18)
  (.keep [0, 2, 3, 4, 10, 11, 15] (.seq (.ops f18r19)
  (.exit 1))))) .skip)))
  (.keep [0, 1, 2, 3, 4, 12, 13] (.seq (.ops f18r20)
  (.keep [0, 1, 2, 3, 4, 12, 16, 17] (.seq (.ops f18r21)
  (.keep [0, 1, 2, 3, 4, 11, 12, 16] (.seq (.ops f18r22)
  (.keep [0, 1, 2, 3, 4, 11, 12, 16, 18, 19] (.seq (.ops f18r23)
  (.keep [0, 1, 2, 3, 4, 11, 16, 18, 19, 20] (.seq (.ops f18r24)
  (.keep [0, 1, 2, 3, 4, 11, 16, 18, 19, 20, 125] (.cond (.tmp 125) (.keep [0, 1, 2, 3, 4, 11, 16, 18, 20] (.seq (.ops f18r25)
  (.keep [0, 1, 2, 3, 4, 10, 11, 16] (.seq (.ops f18r26)
  (.keep [0, 2, 3, 4, 10, 11, 16] (.ops f18r27)))))) (.keep [0, 1, 2, 3, 4, 11, 16, 19, 20] (.seq (.ops f18r28)
  (.keep [0, 1, 2, 3, 4, 10, 11, 16] (.seq (.ops f18r29)
  (.keep [0, 1, 3, 4, 10, 11, 16] (.ops f18r30))))))))))))))))))))))))))))))))))

def f18b : ACode := (.seq (.ops f18r0)
  (.keep [0, 1, 2, 3, 4, 10] (.seq (.ops f18r1)
  (.keep [0, 1, 2, 3, 4, 10, 11] (.block 0 (.loop f18l0))))))

def f18 : AFn := ⟨148, [], f18b⟩

theorem f18_ok : compFn Try.prog 18 = some f18.strip := by kernel_rfl

/- function 19: math/bits.Len; parameters 1; operations that are not compiled: 0 -/
def f19r0 : List AInstr := [
    ⟨(some 2), none, .mov (.const (.int .i64 0))⟩]

def f19r1 : List AInstr := [
    ⟨(some 3), none, .mov (.tmp 0)⟩,
    ⟨(some 4), none, .conv .u32 (.tmp 3)⟩,
    ⟨(some 5), none, .callF 28 [.tmp 4]⟩,
    ⟨(some 2), none, .mov (.tmp 5)⟩]

def f19r2 : List AInstr := [
    ⟨(some 6), none, .mov (.tmp 0)⟩,
    ⟨(some 7), none, .callF 29 [.tmp 6]⟩,
    ⟨(some 2), none, .mov (.tmp 7)⟩]

def f19b : ACode := (.seq (.ops f19r0)
  (.keep [0] (.seq (.cond (.const (.bool false)) (.keep [0] (.seq (.ops f19r1)
  (.keep [2] .ret))) .skip)
  (.keep [0] (.seq (.ops f19r2)
  (.keep [2] .ret))))))

def f19 : AFn := ⟨8, [.tmp 2], f19b⟩

theorem f19_ok : compFn Try.prog 19 = some f19.strip := by kernel_rfl

/- function 20: slices.insertionSortCmpFunc[int]; parameters 4; operations that are not compiled: 0 -/
def f20r0 : List AInstr := [
    ⟨(some 10), none, .mov (.tmp 1)⟩,
    ⟨(some 11), none, .ibin .add (.tmp 10) (.const (.int .i64 1))⟩,
    ⟨(some 8), none, .mov (.tmp 11)⟩]

def f20r1 : List AInstr := [
    ⟨(some 12), none, .mov (.tmp 8)⟩,
    ⟨(some 13), none, .mov (.tmp 2)⟩,
    ⟨(some 14), none, .ibin .lss (.tmp 12) (.tmp 13)⟩]

def f20r2 : List AInstr := [
    ⟨(some 17), none, .mov (.tmp 8)⟩,
    ⟨(some 9), none, .mov (.tmp 17)⟩]

def f20r3 : List AInstr := [
    ⟨(some 18), none, .mov (.tmp 9)⟩,
    ⟨(some 19), none, .mov (.tmp 1)⟩,
    ⟨(some 20), none, .ibin .gtr (.tmp 18) (.tmp 19)⟩,
    ⟨(some 21), none, .mov (.tmp 20)⟩,
    ⟨(some 22), (some (21, true)), .mov (.tmp 3)⟩,
    ⟨(some 23), (some (21, true)), .mov (.tmp 0)⟩,
    ⟨(some 24), (some (21, true)), .mov (.tmp 9)⟩,
    ⟨(some 25), (some (21, true)), .indexAddr 1 (.tmp 23) (.tmp 24)⟩,
    ⟨(some 26), (some (21, true)), .load none (.tmp 25)⟩,
    ⟨(some 27), (some (21, true)), .mov (.tmp 0)⟩,
    ⟨(some 28), (some (21, true)), .mov (.tmp 9)⟩,
    ⟨(some 29), (some (21, true)), .ibin .sub (.tmp 28) (.const (.int .i64 1))⟩,
    ⟨(some 30), (some (21, true)), .indexAddr 1 (.tmp 27) (.tmp 29)⟩,
    ⟨(some 31), (some (21, true)), .load none (.tmp 30)⟩,
    ⟨(some 32), (some (21, true)), .callV (.tmp 22) [.tmp 26, .tmp 31]⟩,
    ⟨(some 33), (some (21, true)), .ibin .lss (.tmp 32) (.const (.int .i64 0))⟩,
    ⟨(some 34), none, .pick (.tmp 21) (.tmp 33) (.const (.bool false))⟩]

def f20r4 : List AInstr := [
    ⟨(some 37), none, .mov (.tmp 0)⟩,
    ⟨(some 38), none, .mov (.tmp 9)⟩,
    ⟨(some 39), none, .mov (.tmp 0)⟩,
    ⟨(some 40), none, .mov (.tmp 9)⟩,
    ⟨(some 41), none, .ibin .sub (.tmp 40) (.const (.int .i64 1))⟩,
    ⟨(some 42), none, .mov (.tmp 0)⟩,
    ⟨(some 43), none, .mov (.tmp 9)⟩,
    ⟨(some 44), none, .ibin .sub (.tmp 43) (.const (.int .i64 1))⟩,
    ⟨(some 45), none, .indexAddr 1 (.tmp 42) (.tmp 44)⟩,
    ⟨(some 46), none, .load none (.tmp 45)⟩,
    ⟨(some 47), none, .mov (.tmp 0)⟩,
    ⟨(some 48), none, .mov (.tmp 9)⟩,
    ⟨(some 49), none, .indexAddr 1 (.tmp 47) (.tmp 48)⟩,
    ⟨(some 50), none, .load none (.tmp 49)⟩,
    ⟨(some 51), none, .indexAddr 1 (.tmp 37) (.tmp 38)⟩,
    ⟨none, none, .store 1 (.tmp 51) (.tmp 46)⟩,
    ⟨(some 52), none, .indexAddr 1 (.tmp 39) (.tmp 41)⟩,
    ⟨none, none, .store 1 (.tmp 52) (.tmp 50)⟩]

def f20r5 : List AInstr := [
    ⟨(some 35), none, .mov (.tmp 9)⟩,
    ⟨(some 36), none, .ibin .sub (.tmp 35) (.const (.int .i64 1))⟩,
    ⟨(some 9), none, .mov (.tmp 36)⟩]

/-- live: [0, 1, 2, 3, 8, 9] -/
def f20l0 : ACode := (.seq (.seq (.draw f20r3 [(0, 0, false), (0, 0, false), (0, 0, false), (0, 0, false), (0, 0, false), (0, 0, false), (0, 0, false), (0, 0, false), (0, 0, false), (0, 0, false), (0, 0, false), (0, 0, false), (0, 0, false), (0, 0, false), (0, 0, true), (1, 1, false), (1, 1, false)])
  (.keep [0, 1, 2, 3, 8, 9, 34] (.cond (.tmp 34) .skip (.exit 2))))
  (.keep [0, 1, 2, 3, 8, 9] (.seq (.block 3 (.draw f20r4 [(0, 0, false), (0, 0, false), (0, 1, false), (0, 1, false), (0, 1, false), (0, 0, false), (0, 0, false), (0, 0, false), (0, 0, false), (0, 0, false), (0, 0, false), (0, 0, false), (0, 0, false), (0, 0, false), (0, 0, false), (0, 0, true), (1, 1, false), (1, 0, true)]))
  (.keep [0, 1, 2, 3, 8, 9] (.ops f20r5)))))

def f20r7 : List AInstr := [
    ⟨(some 15), none, .mov (.tmp 8)⟩,
    ⟨(some 16), none, .ibin .add (.tmp 15) (.const (.int .i64 1))⟩,
    ⟨(some 8), none, .mov (.tmp 16)⟩]

/-- live: [0, 1, 2, 3, 8] -/
def f20l1 : ACode := (.seq (.seq (.ops f20r1)
  (.keep [0, 1, 2, 3, 8, 14] (.cond (.tmp 14) .skip (.exit 0))))
  (.keep [0, 1, 2, 3, 8] (.seq (.block 1 (.seq (.ops f20r2)
  (.keep [0, 1, 2, 3, 8, 9] (.block 2 (.loop f20l0)))))
  (.keep [0, 1, 2, 3, 8] (.ops f20r7)))))

def f20b : ACode := (.seq (.ops f20r0)
  (.keep [0, 1, 2, 3, 8] (.block 0 (.loop f20l1))))

def f20 : AFn := ⟨53, [], f20b⟩

theorem f20_ok : compFn Try.prog 20 = some f20.strip := by kernel_rfl

/- function 21: slices.heapSortCmpFunc[int]; parameters 4; operations that are not compiled: 0 -/
def f21r0 : List AInstr := [
    ⟨(some 13), none, .mov (.tmp 1)⟩,
    ⟨(some 8), none, .mov (.tmp 13)⟩]

def f21r1 : List AInstr := [
    ⟨(some 9), none, .mov (.const (.int .i64 0))⟩]

def f21r2 : List AInstr := [
    ⟨(some 14), none, .mov (.tmp 2)⟩,
    ⟨(some 15), none, .mov (.tmp 1)⟩,
    ⟨(some 16), none, .ibin .sub (.tmp 14) (.tmp 15)⟩,
    ⟨(some 10), none, .mov (.tmp 16)⟩]

def f21r3 : List AInstr := [
    ⟨(some 17), none, .mov (.tmp 10)⟩,
    ⟨(some 18), none, .ibin .sub (.tmp 17) (.const (.int .i64 1))⟩,
    ⟨(some 19), none, .ibin .quo (.tmp 18) (.const (.int .i64 2))⟩,
    ⟨(some 11), none, .mov (.tmp 19)⟩]

def f21r4 : List AInstr := [
    ⟨(some 20), none, .mov (.tmp 11)⟩,
    ⟨(some 21), none, .ibin .geq (.tmp 20) (.const (.int .i64 0))⟩]

def f21r5 : List AInstr := [
    ⟨(some 24), none, .mov (.tmp 0)⟩,
    ⟨(some 25), none, .mov (.tmp 11)⟩,
    ⟨(some 26), none, .mov (.tmp 10)⟩,
    ⟨(some 27), none, .mov (.tmp 8)⟩,
    ⟨(some 28), none, .mov (.tmp 3)⟩,
    ⟨(some 29), none, .callF 30 [.tmp 24, .tmp 25, .tmp 26, .tmp 27, .tmp 28]⟩]

def f21r6 : List AInstr := [
    ⟨(some 22), none, .mov (.tmp 11)⟩,
    ⟨(some 23), none, .ibin .sub (.tmp 22) (.const (.int .i64 1))⟩,
    ⟨(some 11), none, .mov (.tmp 23)⟩]

/-- live: [0, 3, 8, 9, 10, 11] -/
def f21l0 : ACode := (.seq (.seq (.ops f21r4)
  (.keep [0, 3, 8, 9, 10, 11, 21] (.cond (.tmp 21) .skip (.exit 0))))
  (.keep [0, 3, 8, 9, 10, 11] (.seq (.block 1 (.ops f21r5))
  (.keep [0, 3, 8, 9, 10, 11] (.ops f21r6)))))

def f21r8 : List AInstr := [
    ⟨(some 30), none, .mov (.tmp 10)⟩,
    ⟨(some 31), none, .ibin .sub (.tmp 30) (.const (.int .i64 1))⟩,
    ⟨(some 12), none, .mov (.tmp 31)⟩]

def f21r9 : List AInstr := [
    ⟨(some 32), none, .mov (.tmp 12)⟩,
    ⟨(some 33), none, .ibin .geq (.tmp 32) (.const (.int .i64 0))⟩]

def f21r10 : List AInstr := [
    ⟨(some 36), none, .mov (.tmp 0)⟩,
    ⟨(some 37), none, .mov (.tmp 8)⟩,
    ⟨(some 38), none, .mov (.tmp 0)⟩,
    ⟨(some 39), none, .mov (.tmp 8)⟩,
    ⟨(some 40), none, .mov (.tmp 12)⟩,
    ⟨(some 41), none, .ibin .add (.tmp 39) (.tmp 40)⟩,
    ⟨(some 42), none, .mov (.tmp 0)⟩,
    ⟨(some 43), none, .mov (.tmp 8)⟩,
    ⟨(some 44), none, .mov (.tmp 12)⟩,
    ⟨(some 45), none, .ibin .add (.tmp 43) (.tmp 44)⟩,
    ⟨(some 46), none, .indexAddr 1 (.tmp 42) (.tmp 45)⟩,
    ⟨(some 47), none, .load none (.tmp 46)⟩,
    ⟨(some 48), none, .mov (.tmp 0)⟩,
    ⟨(some 49), none, .mov (.tmp 8)⟩,
    ⟨(some 50), none, .indexAddr 1 (.tmp 48) (.tmp 49)⟩,
    ⟨(some 51), none, .load none (.tmp 50)⟩,
    ⟨(some 52), none, .indexAddr 1 (.tmp 36) (.tmp 37)⟩,
    ⟨none, none, .store 1 (.tmp 52) (.tmp 47)⟩,
    ⟨(some 53), none, .indexAddr 1 (.tmp 38) (.tmp 41)⟩,
    ⟨none, none, .store 1 (.tmp 53) (.tmp 51)⟩]

def f21r11 : List AInstr := [
    ⟨(some 54), none, .mov (.tmp 0)⟩,
    ⟨(some 55), none, .mov (.tmp 9)⟩,
    ⟨(some 56), none, .mov (.tmp 12)⟩,
    ⟨(some 57), none, .mov (.tmp 8)⟩,
    ⟨(some 58), none, .mov (.tmp 3)⟩,
    ⟨(some 59), none, .callF 30 [.tmp 54, .tmp 55, .tmp 56, .tmp 57, .tmp 58]⟩]

def f21r12 : List AInstr := [
    ⟨(some 34), none, .mov (.tmp 12)⟩,
    ⟨(some 35), none, .ibin .sub (.tmp 34) (.const (.int .i64 1))⟩,
    ⟨(some 12), none, .mov (.tmp 35)⟩]

/-- live: [0, 3, 8, 9, 12] -/
def f21l1 : ACode := (.seq (.seq (.ops f21r9)
  (.keep [0, 3, 8, 9, 12, 33] (.cond (.tmp 33) .skip (.exit 2))))
  (.keep [0, 3, 8, 9, 12] (.seq (.block 3 (.seq (.draw f21r10 [(0, 0, false), (0, 0, false), (0, 1, false), (0, 1, false), (0, 1, false), (0, 1, false), (0, 0, false), (0, 0, false), (0, 0, false), (0, 0, false), (0, 0, false), (0, 0, false), (0, 0, false), (0, 0, false), (0, 0, false), (0, 0, false), (0, 0, false), (0, 0, true), (1, 1, false), (1, 0, true)])
  (.keep [0, 3, 8, 9, 12] (.ops f21r11))))
  (.keep [0, 3, 8, 9, 12] (.ops f21r12)))))

def f21b : ACode := (.seq (.ops f21r0)
  (.keep [0, 1, 2, 3, 8] (.seq (.ops f21r1)
  (.keep [0, 1, 2, 3, 8, 9] (.seq (.ops f21r2)
  (.keep [0, 3, 8, 9, 10] (.seq (.seq (.ops f21r3)
  (.keep [0, 3, 8, 9, 10, 11] (.block 0 (.loop f21l0))))
  (.keep [0, 3, 8, 9, 10] (.seq (.ops f21r8)
  (.keep [0, 3, 8, 9, 12] (.block 2 (.loop f21l1))))))))))))

def f21 : AFn := ⟨60, [], f21b⟩

theorem f21_ok : compFn Try.prog 21 = some f21.strip := by kernel_rfl

/- function 22: slices.breakPatternsCmpFunc[int]; parameters 4; operations that are not compiled: 0 -/
def f22r0 : List AInstr := [
    ⟨(some 13), none, .mov (.tmp 2)⟩,
    ⟨(some 14), none, .mov (.tmp 1)⟩,
    ⟨(some 15), none, .ibin .sub (.tmp 13) (.tmp 14)⟩,
    ⟨(some 8), none, .mov (.tmp 15)⟩]

def f22r1 : List AInstr := [
    ⟨(some 16), none, .mov (.tmp 8)⟩,
    ⟨(some 17), none, .ibin .geq (.tmp 16) (.const (.int .i64 8))⟩]

def f22r2 : List AInstr := [
    ⟨(some 18), none, .mov (.tmp 8)⟩,
    ⟨(some 19), none, .conv .u64 (.tmp 18)⟩,
    ⟨(some 9), none, .alloc [.int .u64 0]⟩,
    ⟨none, none, .store 1 (.tmp 9) (.tmp 19)⟩]

def f22r3 : List AInstr := [
    ⟨(some 20), none, .mov (.tmp 8)⟩,
    ⟨(some 21), none, .callF 31 [.tmp 20]⟩,
    ⟨(some 10), none, .mov (.tmp 21)⟩]

def f22r4 : List AInstr := [
    ⟨(some 22), none, .mov (.tmp 1)⟩,
    ⟨(some 23), none, .mov (.tmp 8)⟩,
    ⟨(some 24), none, .ibin .quo (.tmp 23) (.const (.int .i64 4))⟩,
    ⟨(some 25), none, .ibin .mul (.tmp 24) (.const (.int .i64 2))⟩,
    ⟨(some 26), none, .ibin .add (.tmp 22) (.tmp 25)⟩,
    ⟨(some 27), none, .ibin .sub (.tmp 26) (.const (.int .i64 1))⟩,
    ⟨(some 11), none, .mov (.tmp 27)⟩]

def f22r5 : List AInstr := [
    ⟨(some 28), none, .mov (.tmp 11)⟩,
    ⟨(some 29), none, .mov (.tmp 1)⟩,
    ⟨(some 30), none, .mov (.tmp 8)⟩,
    ⟨(some 31), none, .ibin .quo (.tmp 30) (.const (.int .i64 4))⟩,
    ⟨(some 32), none, .ibin .mul (.tmp 31) (.const (.int .i64 2))⟩,
    ⟨(some 33), none, .ibin .add (.tmp 29) (.tmp 32)⟩,
    ⟨(some 34), none, .ibin .add (.tmp 33) (.const (.int .i64 1))⟩,
    ⟨(some 35), none, .ibin .leq (.tmp 28) (.tmp 34)⟩]

def f22r6 : List AInstr := [
    ⟨(some 38), none, .callF 32 [.tmp 9]⟩,
    ⟨(some 39), none, .mov (.tmp 10)⟩,
    ⟨(some 40), none, .ibin .sub (.tmp 39) (.const (.int .u64 1))⟩,
    ⟨(some 41), none, .ibin .and (.tmp 38) (.tmp 40)⟩,
    ⟨(some 42), none, .conv .i64 (.tmp 41)⟩,
    ⟨(some 12), none, .mov (.tmp 42)⟩]

def f22r7 : List AInstr := [
    ⟨(some 43), none, .mov (.tmp 12)⟩,
    ⟨(some 44), none, .mov (.tmp 8)⟩,
    ⟨(some 45), none, .ibin .geq (.tmp 43) (.tmp 44)⟩]

def f22r8 : List AInstr := [
    ⟨(some 46), none, .mov (.tmp 12)⟩,
    ⟨(some 47), none, .mov (.tmp 8)⟩,
    ⟨(some 48), none, .ibin .sub (.tmp 46) (.tmp 47)⟩,
    ⟨(some 12), none, .mov (.tmp 48)⟩]

def f22r9 : List AInstr := [
    ⟨(some 49), none, .mov (.tmp 0)⟩,
    ⟨(some 50), none, .mov (.tmp 11)⟩,
    ⟨(some 51), none, .mov (.tmp 0)⟩,
    ⟨(some 52), none, .mov (.tmp 1)⟩,
    ⟨(some 53), none, .mov (.tmp 12)⟩,
    ⟨(some 54), none, .ibin .add (.tmp 52) (.tmp 53)⟩,
    ⟨(some 55), none, .mov (.tmp 0)⟩,
    ⟨(some 56), none, .mov (.tmp 1)⟩,
    ⟨(some 57), none, .mov (.tmp 12)⟩,
    ⟨(some 58), none, .ibin .add (.tmp 56) (.tmp 57)⟩,
    ⟨(some 59), none, .indexAddr 1 (.tmp 55) (.tmp 58)⟩,
    ⟨(some 60), none, .load none (.tmp 59)⟩,
    ⟨(some 61), none, .mov (.tmp 0)⟩,
    ⟨(some 62), none, .mov (.tmp 11)⟩,
    ⟨(some 63), none, .indexAddr 1 (.tmp 61) (.tmp 62)⟩,
    ⟨(some 64), none, .load none (.tmp 63)⟩,
    ⟨(some 65), none, .indexAddr 1 (.tmp 49) (.tmp 50)⟩,
    ⟨none, none, .store 1 (.tmp 65) (.tmp 60)⟩,
    ⟨(some 66), none, .indexAddr 1 (.tmp 51) (.tmp 54)⟩,
    ⟨none, none, .store 1 (.tmp 66) (.tmp 64)⟩]

def f22r10 : List AInstr := [
    ⟨(some 36), none, .mov (.tmp 11)⟩,
    ⟨(some 37), none, .ibin .add (.tmp 36) (.const (.int .i64 1))⟩,
    ⟨(some 11), none, .mov (.tmp 37)⟩]

/-- live: [0, 1, 8, 9, 10, 11] -/
def f22l0 : ACode := (.seq (.seq (.ops f22r5)
  (.keep [0, 1, 8, 9, 10, 11, 35] (.cond (.tmp 35) .skip (.exit 0))))
  (.keep [0, 1, 8, 9, 10, 11] (.seq (.block 1 (.seq (.ops f22r6)
  (.keep [0, 1, 8, 9, 10, 11, 12] (.seq (.seq (.ops f22r7)
  (.keep [0, 1, 8, 9, 10, 11, 12, 45] (.cond (.tmp 45) (.keep [0, 1, 8, 9, 10, 11, 12] (.ops f22r8)) .skip)))
  (.keep [0, 1, 8, 9, 10, 11, 12] (.draw f22r9 [(0, 0, false), (0, 0, false), (0, 1, false), (0, 1, false), (0, 1, false), (0, 1, false), (0, 0, false), (0, 0, false), (0, 0, false), (0, 0, false), (0, 0, false), (0, 0, false), (0, 0, false), (0, 0, false), (0, 0, false), (0, 0, false), (0, 0, false), (0, 0, true), (1, 1, false), (1, 0, true)]))))))
  (.keep [0, 1, 8, 9, 10, 11] (.ops f22r10)))))

def f22b : ACode := (.seq (.ops f22r0)
  (.keep [0, 1, 8] (.seq (.ops f22r1)
  (.keep [0, 1, 8, 17] (.cond (.tmp 17) (.keep [0, 1, 8] (.seq (.ops f22r2)
  (.keep [0, 1, 8, 9] (.seq (.ops f22r3)
  (.keep [0, 1, 8, 9, 10] (.seq (.ops f22r4)
  (.keep [0, 1, 8, 9, 10, 11] (.block 0 (.loop f22l0))))))))) .skip)))))

def f22 : AFn := ⟨67, [], f22b⟩

theorem f22_ok : compFn Try.prog 22 = some f22.strip := by kernel_rfl

/- function 23: slices.choosePivotCmpFunc[int]; parameters 4; operations that are not compiled: 0 -/
def f23r0 : List AInstr := [
    ⟨(some 8), none, .mov (.const (.int .i64 0))⟩,
    ⟨(some 9), none, .mov (.const (.int .i64 0))⟩]

def f23r1 : List AInstr := [
    ⟨(some 15), none, .mov (.tmp 2)⟩,
    ⟨(some 16), none, .mov (.tmp 1)⟩,
    ⟨(some 17), none, .ibin .sub (.tmp 15) (.tmp 16)⟩,
    ⟨(some 10), none, .mov (.tmp 17)⟩]

def f23r2 : List AInstr := [
    ⟨(some 11), none, .alloc [.int .i64 0]⟩]

def f23r3 : List AInstr := [
    ⟨(some 18), none, .mov (.tmp 1)⟩,
    ⟨(some 19), none, .mov (.tmp 10)⟩,
    ⟨(some 20), none, .ibin .quo (.tmp 19) (.const (.int .i64 4))⟩,
    ⟨(some 21), none, .ibin .mul (.tmp 20) (.const (.int .i64 1))⟩,
    ⟨(some 22), none, .ibin .add (.tmp 18) (.tmp 21)⟩,
    ⟨(some 12), none, .mov (.tmp 22)⟩]

def f23r4 : List AInstr := [
    ⟨(some 23), none, .mov (.tmp 1)⟩,
    ⟨(some 24), none, .mov (.tmp 10)⟩,
    ⟨(some 25), none, .ibin .quo (.tmp 24) (.const (.int .i64 4))⟩,
    ⟨(some 26), none, .ibin .mul (.tmp 25) (.const (.int .i64 2))⟩,
    ⟨(some 27), none, .ibin .add (.tmp 23) (.tmp 26)⟩,
    ⟨(some 13), none, .mov (.tmp 27)⟩]

def f23r5 : List AInstr := [
    ⟨(some 28), none, .mov (.tmp 1)⟩,
    ⟨(some 29), none, .mov (.tmp 10)⟩,
    ⟨(some 30), none, .ibin .quo (.tmp 29) (.const (.int .i64 4))⟩,
    ⟨(some 31), none, .ibin .mul (.tmp 30) (.const (.int .i64 3))⟩,
    ⟨(some 32), none, .ibin .add (.tmp 28) (.tmp 31)⟩,
    ⟨(some 14), none, .mov (.tmp 32)⟩]

def f23r6 : List AInstr := [
    ⟨(some 33), none, .mov (.tmp 10)⟩,
    ⟨(some 34), none, .ibin .geq (.tmp 33) (.const (.int .i64 8))⟩]

def f23r7 : List AInstr := [
    ⟨(some 35), none, .mov (.tmp 10)⟩,
    ⟨(some 36), none, .ibin .geq (.tmp 35) (.const (.int .i64 50))⟩]

def f23r8 : List AInstr := [
    ⟨(some 37), none, .mov (.tmp 0)⟩,
    ⟨(some 38), none, .mov (.tmp 12)⟩,
    ⟨(some 39), none, .mov (.tmp 3)⟩,
    ⟨(some 40), none, .callF 33 [.tmp 37, .tmp 38, .tmp 11, .tmp 39]⟩,
    ⟨(some 12), none, .mov (.tmp 40)⟩]

def f23r9 : List AInstr := [
    ⟨(some 41), none, .mov (.tmp 0)⟩,
    ⟨(some 42), none, .mov (.tmp 13)⟩,
    ⟨(some 43), none, .mov (.tmp 3)⟩,
    ⟨(some 44), none, .callF 33 [.tmp 41, .tmp 42, .tmp 11, .tmp 43]⟩,
    ⟨(some 13), none, .mov (.tmp 44)⟩]

def f23r10 : List AInstr := [
    ⟨(some 45), none, .mov (.tmp 0)⟩,
    ⟨(some 46), none, .mov (.tmp 14)⟩,
    ⟨(some 47), none, .mov (.tmp 3)⟩,
    ⟨(some 48), none, .callF 33 [.tmp 45, .tmp 46, .tmp 11, .tmp 47]⟩,
    ⟨(some 14), none, .mov (.tmp 48)⟩]

def f23r11 : List AInstr := [
    ⟨(some 49), none, .mov (.tmp 0)⟩,
    ⟨(some 50), none, .mov (.tmp 12)⟩,
    ⟨(some 51), none, .mov (.tmp 13)⟩,
    ⟨(some 52), none, .mov (.tmp 14)⟩,
    ⟨(some 53), none, .mov (.tmp 3)⟩,
    ⟨(some 54), none, .callF 34 [.tmp 49, .tmp 50, .tmp 51, .tmp 52, .tmp 11, .tmp 53]⟩,
    ⟨(some 13), none, .mov (.tmp 54)⟩]

def f23r12 : List AInstr := [
    ⟨(some 55), none, .load none (.tmp 11)⟩]

def f23r13 : List AInstr := [
    ⟨(some 58), none, .ibin .eql (.tmp 55) (.const (.int .i64 0))⟩,
    ⟨(some 57), none, .mov (.tmp 58)⟩]

def f23r14 : List AInstr := [
    ⟨(some 59), none, .mov (.tmp 13)⟩,
    ⟨(some 8), none, .mov (.tmp 59)⟩,
    ⟨(some 9), none, .mov (.const (.int .i64 1))⟩]

def f23r15 : List AInstr := [
    ⟨(some 61), none, .ibin .eql (.tmp 55) (.const (.int .i64 12))⟩,
    ⟨(some 60), none, .mov (.tmp 61)⟩]

def f23r16 : List AInstr := [
    ⟨(some 62), none, .mov (.tmp 13)⟩,
    ⟨(some 8), none, .mov (.tmp 62)⟩,
    ⟨(some 9), none, .mov (.const (.int .i64 2))⟩]

def f23r17 : List AInstr := [
    ⟨(some 56), none, .mov (.tmp 13)⟩,
    ⟨(some 8), none, .mov (.tmp 56)⟩,
    ⟨(some 9), none, .mov (.const (.int .i64 0))⟩]

def f23b : ACode := (.seq (.ops f23r0)
  (.keep [0, 1, 2, 3] (.seq (.ops f23r1)
  (.keep [0, 1, 3, 10] (.seq (.ops f23r2)
  (.keep [0, 1, 3, 10, 11] (.seq (.ops f23r3)
  (.keep [0, 1, 3, 10, 11, 12] (.seq (.ops f23r4)
  (.keep [0, 1, 3, 10, 11, 12, 13] (.seq (.ops f23r5)
  (.keep [0, 3, 10, 11, 12, 13, 14] (.seq (.seq (.ops f23r6)
  (.keep [0, 3, 10, 11, 12, 13, 14, 34] (.cond (.tmp 34) (.keep [0, 3, 10, 11, 12, 13, 14] (.seq (.seq (.ops f23r7)
  (.keep [0, 3, 11, 12, 13, 14, 36] (.cond (.tmp 36) (.keep [0, 3, 11, 12, 13, 14] (.seq (.ops f23r8)
  (.keep [0, 3, 11, 12, 13, 14] (.seq (.ops f23r9)
  (.keep [0, 3, 11, 12, 13, 14] (.ops f23r10)))))) .skip)))
  (.keep [0, 3, 11, 12, 13, 14] (.ops f23r11)))) .skip)))
  (.keep [11, 13] (.seq (.ops f23r12)
  (.keep [13, 55] (.block 0 (.seq (.ops f23r13)
  (.keep [13, 55, 57] (.cond (.tmp 57) (.keep [13] (.seq (.ops f23r14)
  (.keep [8, 9] .ret))) (.keep [13, 55] (.seq (.ops f23r15)
  (.keep [13, 60] (.cond (.tmp 60) (.keep [13] (.seq (.ops f23r16)
  (.keep [8, 9] .ret))) (.keep [13] (.seq (.ops f23r17)
  (.keep [8, 9] .ret)))))))))))))))))))))))))))

def f23 : AFn := ⟨63, [.tmp 8, .tmp 9], f23b⟩

theorem f23_ok : compFn Try.prog 23 = some f23.strip := by kernel_rfl

/- function 24: slices.reverseRangeCmpFunc[int]; parameters 4; operations that are not compiled: 0 -/
def f24r0 : List AInstr := [
    ⟨(some 10), none, .mov (.tmp 1)⟩,
    ⟨(some 8), none, .mov (.tmp 10)⟩]

def f24r1 : List AInstr := [
    ⟨(some 11), none, .mov (.tmp 2)⟩,
    ⟨(some 12), none, .ibin .sub (.tmp 11) (.const (.int .i64 1))⟩,
    ⟨(some 9), none, .mov (.tmp 12)⟩]

def f24r2 : List AInstr := [
    ⟨(some 13), none, .mov (.tmp 8)⟩,
    ⟨(some 14), none, .mov (.tmp 9)⟩,
    ⟨(some 15), none, .ibin .lss (.tmp 13) (.tmp 14)⟩]

def f24r3 : List AInstr := [
    ⟨(some 16), none, .mov (.tmp 0)⟩,
    ⟨(some 17), none, .mov (.tmp 8)⟩,
    ⟨(some 18), none, .mov (.tmp 0)⟩,
    ⟨(some 19), none, .mov (.tmp 9)⟩,
    ⟨(some 20), none, .mov (.tmp 0)⟩,
    ⟨(some 21), none, .mov (.tmp 9)⟩,
    ⟨(some 22), none, .indexAddr 1 (.tmp 20) (.tmp 21)⟩,
    ⟨(some 23), none, .load none (.tmp 22)⟩,
    ⟨(some 24), none, .mov (.tmp 0)⟩,
    ⟨(some 25), none, .mov (.tmp 8)⟩,
    ⟨(some 26), none, .indexAddr 1 (.tmp 24) (.tmp 25)⟩,
    ⟨(some 27), none, .load none (.tmp 26)⟩,
    ⟨(some 28), none, .indexAddr 1 (.tmp 16) (.tmp 17)⟩,
    ⟨none, none, .store 1 (.tmp 28) (.tmp 23)⟩,
    ⟨(some 29), none, .indexAddr 1 (.tmp 18) (.tmp 19)⟩,
    ⟨none, none, .store 1 (.tmp 29) (.tmp 27)⟩]

def f24r4 : List AInstr := [
    ⟨(some 30), none, .mov (.tmp 8)⟩,
    ⟨(some 31), none, .ibin .add (.tmp 30) (.const (.int .i64 1))⟩,
    ⟨(some 8), none, .mov (.tmp 31)⟩]

def f24r5 : List AInstr := [
    ⟨(some 32), none, .mov (.tmp 9)⟩,
    ⟨(some 33), none, .ibin .sub (.tmp 32) (.const (.int .i64 1))⟩,
    ⟨(some 9), none, .mov (.tmp 33)⟩]

/-- live: [0, 8, 9] -/
def f24l0 : ACode := (.seq (.seq (.ops f24r2)
  (.keep [0, 8, 9, 15] (.cond (.tmp 15) .skip (.exit 0))))
  (.keep [0, 8, 9] (.block 1 (.seq (.draw f24r3 [(0, 0, false), (0, 0, false), (0, 1, false), (0, 1, false), (0, 0, false), (0, 0, false), (0, 0, false), (0, 0, false), (0, 0, false), (0, 0, false), (0, 0, false), (0, 0, false), (0, 0, false), (0, 0, true), (1, 1, false), (1, 0, true)])
  (.keep [0, 8, 9] (.seq (.ops f24r4)
  (.keep [0, 8, 9] (.ops f24r5))))))))

def f24b : ACode := (.seq (.ops f24r0)
  (.keep [0, 2, 8] (.seq (.ops f24r1)
  (.keep [0, 8, 9] (.block 0 (.loop f24l0))))))

def f24 : AFn := ⟨34, [], f24b⟩

theorem f24_ok : compFn Try.prog 24 = some f24.strip := by kernel_rfl

/- function 25: slices.partialInsertionSortCmpFunc[int]; parameters 4; operations that are not compiled: 0 -/
def f25r0 : List AInstr := [
    ⟨(some 8), none, .mov (.const (.bool false))⟩]

def f25r1 : List AInstr := [
    ⟨(some 13), none, .mov (.tmp 1)⟩,
    ⟨(some 14), none, .ibin .add (.tmp 13) (.const (.int .i64 1))⟩,
    ⟨(some 9), none, .mov (.tmp 14)⟩]

def f25r2 : List AInstr := [
    ⟨(some 10), none, .mov (.const (.int .i64 0))⟩]

def f25r3 : List AInstr := [
    ⟨(some 15), none, .mov (.tmp 10)⟩,
    ⟨(some 16), none, .ibin .lss (.tmp 15) (.const (.int .i64 5))⟩]

def f25r4 : List AInstr := [
    ⟨(some 19), none, .mov (.tmp 9)⟩,
    ⟨(some 20), none, .mov (.tmp 2)⟩,
    ⟨(some 21), none, .ibin .lss (.tmp 19) (.tmp 20)⟩,
    ⟨(some 22), none, .mov (.tmp 21)⟩,
    ⟨(some 23), (some (22, true)), .mov (.tmp 3)⟩,
    ⟨(some 24), (some (22, true)), .mov (.tmp 0)⟩,
    ⟨(some 25), (some (22, true)), .mov (.tmp 9)⟩,
    ⟨(some 26), (some (22, true)), .indexAddr 1 (.tmp 24) (.tmp 25)⟩,
    ⟨(some 27), (some (22, true)), .load none (.tmp 26)⟩,
    ⟨(some 28), (some (22, true)), .mov (.tmp 0)⟩,
    ⟨(some 29), (some (22, true)), .mov (.tmp 9)⟩,
    ⟨(some 30), (some (22, true)), .ibin .sub (.tmp 29) (.const (.int .i64 1))⟩,
    ⟨(some 31), (some (22, true)), .indexAddr 1 (.tmp 28) (.tmp 30)⟩,
    ⟨(some 32), (some (22, true)), .load none (.tmp 31)⟩,
    ⟨(some 33), (some (22, true)), .callV (.tmp 23) [.tmp 27, .tmp 32]⟩,
    ⟨(some 34), (some (22, true)), .ibin .lss (.tmp 33) (.const (.int .i64 0))⟩,
    ⟨(some 35), (some (22, true)), .un .not (.tmp 34)⟩,
    ⟨(some 36), none, .pick (.tmp 22) (.tmp 35) (.const (.bool false))⟩]

def f25r5 : List AInstr := [
    ⟨(some 37), none, .mov (.tmp 9)⟩,
    ⟨(some 38), none, .ibin .add (.tmp 37) (.const (.int .i64 1))⟩,
    ⟨(some 9), none, .mov (.tmp 38)⟩]

/-- live: [0, 1, 2, 3, 9, 10] -/
def f25l0 : ACode := (.seq (.seq (.draw f25r4 [(0, 0, false), (0, 0, false), (0, 0, false), (0, 0, false), (0, 0, false), (0, 0, false), (0, 0, false), (0, 0, false), (0, 0, false), (0, 0, false), (0, 0, false), (0, 0, false), (0, 0, false), (0, 0, false), (0, 0, true), (1, 1, false), (1, 1, false), (1, 1, false)])
  (.keep [0, 1, 2, 3, 9, 10, 36] (.cond (.tmp 36) .skip (.exit 2))))
  (.keep [0, 1, 2, 3, 9, 10] (.block 3 (.ops f25r5))))

def f25r7 : List AInstr := [
    ⟨(some 39), none, .mov (.tmp 9)⟩,
    ⟨(some 40), none, .mov (.tmp 2)⟩,
    ⟨(some 41), none, .ibin .eql (.tmp 39) (.tmp 40)⟩]

def f25r8 : List AInstr := [
    ⟨(some 8), none, .mov (.const (.bool true))⟩]

def f25r9 : List AInstr := [
    ⟨(some 42), none, .mov (.tmp 2)⟩,
    ⟨(some 43), none, .mov (.tmp 1)⟩,
    ⟨(some 44), none, .ibin .sub (.tmp 42) (.tmp 43)⟩,
    ⟨(some 45), none, .ibin .lss (.tmp 44) (.const (.int .i64 50))⟩]

def f25r10 : List AInstr := [
    ⟨(some 8), none, .mov (.const (.bool false))⟩]

def f25r11 : List AInstr := [
    ⟨(some 46), none, .mov (.tmp 0)⟩,
    ⟨(some 47), none, .mov (.tmp 9)⟩,
    ⟨(some 48), none, .mov (.tmp 0)⟩,
    ⟨(some 49), none, .mov (.tmp 9)⟩,
    ⟨(some 50), none, .ibin .sub (.tmp 49) (.const (.int .i64 1))⟩,
    ⟨(some 51), none, .mov (.tmp 0)⟩,
    ⟨(some 52), none, .mov (.tmp 9)⟩,
    ⟨(some 53), none, .ibin .sub (.tmp 52) (.const (.int .i64 1))⟩,
    ⟨(some 54), none, .indexAddr 1 (.tmp 51) (.tmp 53)⟩,
    ⟨(some 55), none, .load none (.tmp 54)⟩,
    ⟨(some 56), none, .mov (.tmp 0)⟩,
    ⟨(some 57), none, .mov (.tmp 9)⟩,
    ⟨(some 58), none, .indexAddr 1 (.tmp 56) (.tmp 57)⟩,
    ⟨(some 59), none, .load none (.tmp 58)⟩,
    ⟨(some 60), none, .indexAddr 1 (.tmp 46) (.tmp 47)⟩,
    ⟨none, none, .store 1 (.tmp 60) (.tmp 55)⟩,
    ⟨(some 61), none, .indexAddr 1 (.tmp 48) (.tmp 50)⟩,
    ⟨none, none, .store 1 (.tmp 61) (.tmp 59)⟩]

def f25r12 : List AInstr := [
    ⟨(some 62), none, .mov (.tmp 9)⟩,
    ⟨(some 63), none, .mov (.tmp 1)⟩,
    ⟨(some 64), none, .ibin .sub (.tmp 62) (.tmp 63)⟩,
    ⟨(some 65), none, .ibin .geq (.tmp 64) (.const (.int .i64 2))⟩]

def f25r13 : List AInstr := [
    ⟨(some 66), none, .mov (.tmp 9)⟩,
    ⟨(some 67), none, .ibin .sub (.tmp 66) (.const (.int .i64 1))⟩,
    ⟨(some 11), none, .mov (.tmp 67)⟩]

def f25r14 : List AInstr := [
    ⟨(some 68), none, .mov (.tmp 11)⟩,
    ⟨(some 69), none, .ibin .geq (.tmp 68) (.const (.int .i64 1))⟩]

def f25r15 : List AInstr := [
    ⟨(some 72), none, .mov (.tmp 3)⟩,
    ⟨(some 73), none, .mov (.tmp 0)⟩,
    ⟨(some 74), none, .mov (.tmp 11)⟩,
    ⟨(some 75), none, .indexAddr 1 (.tmp 73) (.tmp 74)⟩,
    ⟨(some 76), none, .load none (.tmp 75)⟩,
    ⟨(some 77), none, .mov (.tmp 0)⟩,
    ⟨(some 78), none, .mov (.tmp 11)⟩,
    ⟨(some 79), none, .ibin .sub (.tmp 78) (.const (.int .i64 1))⟩,
    ⟨(some 80), none, .indexAddr 1 (.tmp 77) (.tmp 79)⟩,
    ⟨(some 81), none, .load none (.tmp 80)⟩,
    ⟨(some 82), none, .callV (.tmp 72) [.tmp 76, .tmp 81]⟩,
    ⟨(some 83), none, .ibin .lss (.tmp 82) (.const (.int .i64 0))⟩,
    ⟨(some 84), none, .un .not (.tmp 83)⟩]

def f25r16 : List AInstr := [
    ⟨(some 85), none, .mov (.tmp 0)⟩,
    ⟨(some 86), none, .mov (.tmp 11)⟩,
    ⟨(some 87), none, .mov (.tmp 0)⟩,
    ⟨(some 88), none, .mov (.tmp 11)⟩,
    ⟨(some 89), none, .ibin .sub (.tmp 88) (.const (.int .i64 1))⟩,
    ⟨(some 90), none, .mov (.tmp 0)⟩,
    ⟨(some 91), none, .mov (.tmp 11)⟩,
    ⟨(some 92), none, .ibin .sub (.tmp 91) (.const (.int .i64 1))⟩,
    ⟨(some 93), none, .indexAddr 1 (.tmp 90) (.tmp 92)⟩,
    ⟨(some 94), none, .load none (.tmp 93)⟩,
    ⟨(some 95), none, .mov (.tmp 0)⟩,
    ⟨(some 96), none, .mov (.tmp 11)⟩,
    ⟨(some 97), none, .indexAddr 1 (.tmp 95) (.tmp 96)⟩,
    ⟨(some 98), none, .load none (.tmp 97)⟩,
    ⟨(some 99), none, .indexAddr 1 (.tmp 85) (.tmp 86)⟩,
    ⟨none, none, .store 1 (.tmp 99) (.tmp 94)⟩,
    ⟨(some 100), none, .indexAddr 1 (.tmp 87) (.tmp 89)⟩,
    ⟨none, none, .store 1 (.tmp 100) (.tmp 98)⟩]

def f25r17 : List AInstr := [
    ⟨(some 70), none, .mov (.tmp 11)⟩,
    ⟨(some 71), none, .ibin .sub (.tmp 70) (.const (.int .i64 1))⟩,
    ⟨(some 11), none, .mov (.tmp 71)⟩]

/-- live: [0, 1, 2, 3, 9, 10, 11] -/
def f25l1 : ACode := (.seq (.seq (.ops f25r14)
  (.keep [0, 1, 2, 3, 9, 10, 11, 69] (.cond (.tmp 69) .skip (.exit 4))))
  (.keep [0, 1, 2, 3, 9, 10, 11] (.seq (.block 5 (.seq (.seq (.draw f25r15 [(0, 0, false), (0, 0, false), (0, 0, false), (0, 0, false), (0, 0, false), (0, 0, false), (0, 0, false), (0, 0, false), (0, 0, false), (0, 0, false), (0, 0, true), (1, 1, false), (1, 1, false)])
  (.keep [0, 1, 2, 3, 9, 10, 11, 84] (.cond (.tmp 84) (.exit 4) .skip)))
  (.keep [0, 1, 2, 3, 9, 10, 11] (.draw f25r16 [(0, 0, false), (0, 0, false), (0, 1, false), (0, 1, false), (0, 1, false), (0, 0, false), (0, 0, false), (0, 0, false), (0, 0, false), (0, 0, false), (0, 0, false), (0, 0, false), (0, 0, false), (0, 0, false), (0, 0, false), (0, 0, true), (1, 1, false), (1, 0, true)]))))
  (.keep [0, 1, 2, 3, 9, 10, 11] (.ops f25r17)))))

def f25r19 : List AInstr := [
    ⟨(some 101), none, .mov (.tmp 2)⟩,
    ⟨(some 102), none, .mov (.tmp 9)⟩,
    ⟨(some 103), none, .ibin .sub (.tmp 101) (.tmp 102)⟩,
    ⟨(some 104), none, .ibin .geq (.tmp 103) (.const (.int .i64 2))⟩]

def f25r20 : List AInstr := [
    ⟨(some 105), none, .mov (.tmp 9)⟩,
    ⟨(some 106), none, .ibin .add (.tmp 105) (.const (.int .i64 1))⟩,
    ⟨(some 12), none, .mov (.tmp 106)⟩]

def f25r21 : List AInstr := [
    ⟨(some 107), none, .mov (.tmp 12)⟩,
    ⟨(some 108), none, .mov (.tmp 2)⟩,
    ⟨(some 109), none, .ibin .lss (.tmp 107) (.tmp 108)⟩]

def f25r22 : List AInstr := [
    ⟨(some 112), none, .mov (.tmp 3)⟩,
    ⟨(some 113), none, .mov (.tmp 0)⟩,
    ⟨(some 114), none, .mov (.tmp 12)⟩,
    ⟨(some 115), none, .indexAddr 1 (.tmp 113) (.tmp 114)⟩,
    ⟨(some 116), none, .load none (.tmp 115)⟩,
    ⟨(some 117), none, .mov (.tmp 0)⟩,
    ⟨(some 118), none, .mov (.tmp 12)⟩,
    ⟨(some 119), none, .ibin .sub (.tmp 118) (.const (.int .i64 1))⟩,
    ⟨(some 120), none, .indexAddr 1 (.tmp 117) (.tmp 119)⟩,
    ⟨(some 121), none, .load none (.tmp 120)⟩,
    ⟨(some 122), none, .callV (.tmp 112) [.tmp 116, .tmp 121]⟩,
    ⟨(some 123), none, .ibin .lss (.tmp 122) (.const (.int .i64 0))⟩,
    ⟨(some 124), none, .un .not (.tmp 123)⟩]

def f25r23 : List AInstr := [
    ⟨(some 125), none, .mov (.tmp 0)⟩,
    ⟨(some 126), none, .mov (.tmp 12)⟩,
    ⟨(some 127), none, .mov (.tmp 0)⟩,
    ⟨(some 128), none, .mov (.tmp 12)⟩,
    ⟨(some 129), none, .ibin .sub (.tmp 128) (.const (.int .i64 1))⟩,
    ⟨(some 130), none, .mov (.tmp 0)⟩,
    ⟨(some 131), none, .mov (.tmp 12)⟩,
    ⟨(some 132), none, .ibin .sub (.tmp 131) (.const (.int .i64 1))⟩,
    ⟨(some 133), none, .indexAddr 1 (.tmp 130) (.tmp 132)⟩,
    ⟨(some 134), none, .load none (.tmp 133)⟩,
    ⟨(some 135), none, .mov (.tmp 0)⟩,
    ⟨(some 136), none, .mov (.tmp 12)⟩,
    ⟨(some 137), none, .indexAddr 1 (.tmp 135) (.tmp 136)⟩,
    ⟨(some 138), none, .load none (.tmp 137)⟩,
    ⟨(some 139), none, .indexAddr 1 (.tmp 125) (.tmp 126)⟩,
    ⟨none, none, .store 1 (.tmp 139) (.tmp 134)⟩,
    ⟨(some 140), none, .indexAddr 1 (.tmp 127) (.tmp 129)⟩,
    ⟨none, none, .store 1 (.tmp 140) (.tmp 138)⟩]

def f25r24 : List AInstr := [
    ⟨(some 110), none, .mov (.tmp 12)⟩,
    ⟨(some 111), none, .ibin .add (.tmp 110) (.const (.int .i64 1))⟩,
    ⟨(some 12), none, .mov (.tmp 111)⟩]

/-- live: [0, 1, 2, 3, 9, 10, 12] -/
def f25l2 : ACode := (.seq (.seq (.ops f25r21)
  (.keep [0, 1, 2, 3, 9, 10, 12, 109] (.cond (.tmp 109) .skip (.exit 6))))
  (.keep [0, 1, 2, 3, 9, 10, 12] (.seq (.block 7 (.seq (.seq (.draw f25r22 [(0, 0, false), (0, 0, false), (0, 0, false), (0, 0, false), (0, 0, false), (0, 0, false), (0, 0, false), (0, 0, false), (0, 0, false), (0, 0, false), (0, 0, true), (1, 1, false), (1, 1, false)])
  (.keep [0, 1, 2, 3, 9, 10, 12, 124] (.cond (.tmp 124) (.exit 6) .skip)))
  (.keep [0, 1, 2, 3, 9, 10, 12] (.draw f25r23 [(0, 0, false), (0, 0, false), (0, 1, false), (0, 1, false), (0, 1, false), (0, 0, false), (0, 0, false), (0, 0, false), (0, 0, false), (0, 0, false), (0, 0, false), (0, 0, false), (0, 0, false), (0, 0, false), (0, 0, false), (0, 0, true), (1, 1, false), (1, 0, true)]))))
  (.keep [0, 1, 2, 3, 9, 10, 12] (.ops f25r24)))))

def f25r26 : List AInstr := [
    ⟨(some 17), none, .mov (.tmp 10)⟩,
    ⟨(some 18), none, .ibin .add (.tmp 17) (.const (.int .i64 1))⟩,
    ⟨(some 10), none, .mov (.tmp 18)⟩]

/-- live: [0, 1, 2, 3, 9, 10] -/
def f25l3 : ACode := (.seq (.seq (.ops f25r3)
  (.keep [0, 1, 2, 3, 9, 10, 16] (.cond (.tmp 16) .skip (.exit 0))))
  (.keep [0, 1, 2, 3, 9, 10] (.seq (.block 1 (.seq (.block 2 (.loop f25l0))
  (.keep [0, 1, 2, 3, 9, 10] (.seq (.seq (.ops f25r7)
  (.keep [0, 1, 2, 3, 9, 10, 41] (.cond (.tmp 41) (.keep [] (.seq (.ops f25r8)
  (.keep [8] .ret))) .skip)))
  (.keep [0, 1, 2, 3, 9, 10] (.seq (.seq (.ops f25r9)
  (.keep [0, 1, 2, 3, 9, 10, 45] (.cond (.tmp 45) (.keep [] (.seq (.ops f25r10)
  (.keep [8] .ret))) .skip)))
  (.keep [0, 1, 2, 3, 9, 10] (.seq (.draw f25r11 [(0, 0, false), (0, 0, false), (0, 1, false), (0, 1, false), (0, 1, false), (0, 0, false), (0, 0, false), (0, 0, false), (0, 0, false), (0, 0, false), (0, 0, false), (0, 0, false), (0, 0, false), (0, 0, false), (0, 0, false), (0, 0, true), (1, 1, false), (1, 0, true)])
  (.keep [0, 1, 2, 3, 9, 10] (.seq (.seq (.ops f25r12)
  (.keep [0, 1, 2, 3, 9, 10, 65] (.cond (.tmp 65) (.keep [0, 1, 2, 3, 9, 10] (.seq (.ops f25r13)
  (.keep [0, 1, 2, 3, 9, 10, 11] (.block 4 (.loop f25l1))))) .skip)))
  (.keep [0, 1, 2, 3, 9, 10] (.seq (.ops f25r19)
  (.keep [0, 1, 2, 3, 9, 10, 104] (.cond (.tmp 104) (.keep [0, 1, 2, 3, 9, 10] (.seq (.ops f25r20)
  (.keep [0, 1, 2, 3, 9, 10, 12] (.block 6 (.loop f25l2))))) .skip))))))))))))))
  (.keep [0, 1, 2, 3, 9, 10] (.ops f25r26)))))

def f25r28 : List AInstr := [
    ⟨(some 8), none, .mov (.const (.bool false))⟩]

def f25b : ACode := (.seq (.ops f25r0)
  (.keep [0, 1, 2, 3] (.seq (.ops f25r1)
  (.keep [0, 1, 2, 3, 9] (.seq (.seq (.ops f25r2)
  (.keep [0, 1, 2, 3, 9, 10] (.block 0 (.loop f25l3))))
  (.keep [] (.seq (.ops f25r28)
  (.keep [8] .ret))))))))

def f25 : AFn := ⟨141, [.tmp 8], f25b⟩

theorem f25_ok : compFn Try.prog 25 = some f25.strip := by kernel_rfl

/- function 26: slices.partitionEqualCmpFunc[int]; parameters 5; operations that are not compiled: 0 -/
def f26r0 : List AInstr := [
    ⟨(some 10), none, .mov (.const (.int .i64 0))⟩]

def f26r1 : List AInstr := [
    ⟨(some 13), none, .mov (.tmp 0)⟩,
    ⟨(some 14), none, .mov (.tmp 1)⟩,
    ⟨(some 15), none, .mov (.tmp 0)⟩,
    ⟨(some 16), none, .mov (.tmp 3)⟩,
    ⟨(some 17), none, .mov (.tmp 0)⟩,
    ⟨(some 18), none, .mov (.tmp 3)⟩,
    ⟨(some 19), none, .indexAddr 1 (.tmp 17) (.tmp 18)⟩,
    ⟨(some 20), none, .load none (.tmp 19)⟩,
    ⟨(some 21), none, .mov (.tmp 0)⟩,
    ⟨(some 22), none, .mov (.tmp 1)⟩,
    ⟨(some 23), none, .indexAddr 1 (.tmp 21) (.tmp 22)⟩,
    ⟨(some 24), none, .load none (.tmp 23)⟩,
    ⟨(some 25), none, .indexAddr 1 (.tmp 13) (.tmp 14)⟩,
    ⟨none, none, .store 1 (.tmp 25) (.tmp 20)⟩,
    ⟨(some 26), none, .indexAddr 1 (.tmp 15) (.tmp 16)⟩,
    ⟨none, none, .store 1 (.tmp 26) (.tmp 24)⟩]

def f26r2 : List AInstr := [
    ⟨(some 27), none, .mov (.tmp 1)⟩,
    ⟨(some 28), none, .ibin .add (.tmp 27) (.const (.int .i64 1))⟩,
    ⟨(some 29), none, .mov (.tmp 2)⟩,
    ⟨(some 30), none, .ibin .sub (.tmp 29) (.const (.int .i64 1))⟩,
    ⟨(some 11), none, .mov (.tmp 28)⟩,
    ⟨(some 12), none, .mov (.tmp 30)⟩]

def f26r3 : List AInstr := [
    ⟨(some 31), none, .mov (.tmp 11)⟩,
    ⟨(some 32), none, .mov (.tmp 12)⟩,
    ⟨(some 33), none, .ibin .leq (.tmp 31) (.tmp 32)⟩,
    ⟨(some 34), none, .mov (.tmp 33)⟩,
    ⟨(some 35), (some (34, true)), .mov (.tmp 4)⟩,
    ⟨(some 36), (some (34, true)), .mov (.tmp 0)⟩,
    ⟨(some 37), (some (34, true)), .mov (.tmp 1)⟩,
    ⟨(some 38), (some (34, true)), .indexAddr 1 (.tmp 36) (.tmp 37)⟩,
    ⟨(some 39), (some (34, true)), .load none (.tmp 38)⟩,
    ⟨(some 40), (some (34, true)), .mov (.tmp 0)⟩,
    ⟨(some 41), (some (34, true)), .mov (.tmp 11)⟩,
    ⟨(some 42), (some (34, true)), .indexAddr 1 (.tmp 40) (.tmp 41)⟩,
    ⟨(some 43), (some (34, true)), .load none (.tmp 42)⟩,
    ⟨(some 44), (some (34, true)), .callV (.tmp 35) [.tmp 39, .tmp 43]⟩,
    ⟨(some 45), (some (34, true)), .ibin .lss (.tmp 44) (.const (.int .i64 0))⟩,
    ⟨(some 46), (some (34, true)), .un .not (.tmp 45)⟩,
    ⟨(some 47), none, .pick (.tmp 34) (.tmp 46) (.const (.bool false))⟩]

def f26r4 : List AInstr := [
    ⟨(some 48), none, .mov (.tmp 11)⟩,
    ⟨(some 49), none, .ibin .add (.tmp 48) (.const (.int .i64 1))⟩,
    ⟨(some 11), none, .mov (.tmp 49)⟩]

/-- live: [0, 1, 4, 11, 12] -/
def f26l0 : ACode := (.seq (.seq (.draw f26r3 [(0, 0, false), (0, 0, false), (0, 0, false), (0, 0, false), (0, 0, false), (0, 0, false), (0, 0, false), (0, 0, false), (0, 0, false), (0, 0, false), (0, 0, false), (0, 0, false), (0, 0, false), (0, 0, true), (1, 1, false), (1, 1, false), (1, 1, false)])
  (.keep [0, 1, 4, 11, 12, 47] (.cond (.tmp 47) .skip (.exit 2))))
  (.keep [0, 1, 4, 11, 12] (.block 3 (.ops f26r4))))

def f26r6 : List AInstr := [
    ⟨(some 50), none, .mov (.tmp 11)⟩,
    ⟨(some 51), none, .mov (.tmp 12)⟩,
    ⟨(some 52), none, .ibin .leq (.tmp 50) (.tmp 51)⟩,
    ⟨(some 53), none, .mov (.tmp 52)⟩,
    ⟨(some 54), (some (53, true)), .mov (.tmp 4)⟩,
    ⟨(some 55), (some (53, true)), .mov (.tmp 0)⟩,
    ⟨(some 56), (some (53, true)), .mov (.tmp 1)⟩,
    ⟨(some 57), (some (53, true)), .indexAddr 1 (.tmp 55) (.tmp 56)⟩,
    ⟨(some 58), (some (53, true)), .load none (.tmp 57)⟩,
    ⟨(some 59), (some (53, true)), .mov (.tmp 0)⟩,
    ⟨(some 60), (some (53, true)), .mov (.tmp 12)⟩,
    ⟨(some 61), (some (53, true)), .indexAddr 1 (.tmp 59) (.tmp 60)⟩,
    ⟨(some 62), (some (53, true)), .load none (.tmp 61)⟩,
    ⟨(some 63), (some (53, true)), .callV (.tmp 54) [.tmp 58, .tmp 62]⟩,
    ⟨(some 64), (some (53, true)), .ibin .lss (.tmp 63) (.const (.int .i64 0))⟩,
    ⟨(some 65), none, .pick (.tmp 53) (.tmp 64) (.const (.bool false))⟩]

def f26r7 : List AInstr := [
    ⟨(some 66), none, .mov (.tmp 12)⟩,
    ⟨(some 67), none, .ibin .sub (.tmp 66) (.const (.int .i64 1))⟩,
    ⟨(some 12), none, .mov (.tmp 67)⟩]

/-- live: [0, 1, 4, 11, 12] -/
def f26l1 : ACode := (.seq (.seq (.draw f26r6 [(0, 0, false), (0, 0, false), (0, 0, false), (0, 0, false), (0, 0, false), (0, 0, false), (0, 0, false), (0, 0, false), (0, 0, false), (0, 0, false), (0, 0, false), (0, 0, false), (0, 0, false), (0, 0, true), (1, 1, false), (1, 1, false)])
  (.keep [0, 1, 4, 11, 12, 65] (.cond (.tmp 65) .skip (.exit 4))))
  (.keep [0, 1, 4, 11, 12] (.block 5 (.ops f26r7))))

def f26r9 : List AInstr := [
    ⟨(some 68), none, .mov (.tmp 11)⟩,
    ⟨(some 69), none, .mov (.tmp 12)⟩,
    ⟨(some 70), none, .ibin .gtr (.tmp 68) (.tmp 69)⟩]

def f26r10 : List AInstr := [
    ⟨(some 71), none, .mov (.tmp 0)⟩,
    ⟨(some 72), none, .mov (.tmp 11)⟩,
    ⟨(some 73), none, .mov (.tmp 0)⟩,
    ⟨(some 74), none, .mov (.tmp 12)⟩,
    ⟨(some 75), none, .mov (.tmp 0)⟩,
    ⟨(some 76), none, .mov (.tmp 12)⟩,
    ⟨(some 77), none, .indexAddr 1 (.tmp 75) (.tmp 76)⟩,
    ⟨(some 78), none, .load none (.tmp 77)⟩,
    ⟨(some 79), none, .mov (.tmp 0)⟩,
    ⟨(some 80), none, .mov (.tmp 11)⟩,
    ⟨(some 81), none, .indexAddr 1 (.tmp 79) (.tmp 80)⟩,
    ⟨(some 82), none, .load none (.tmp 81)⟩,
    ⟨(some 83), none, .indexAddr 1 (.tmp 71) (.tmp 72)⟩,
    ⟨none, none, .store 1 (.tmp 83) (.tmp 78)⟩,
    ⟨(some 84), none, .indexAddr 1 (.tmp 73) (.tmp 74)⟩,
    ⟨none, none, .store 1 (.tmp 84) (.tmp 82)⟩]

def f26r11 : List AInstr := [
    ⟨(some 85), none, .mov (.tmp 11)⟩,
    ⟨(some 86), none, .ibin .add (.tmp 85) (.const (.int .i64 1))⟩,
    ⟨(some 11), none, .mov (.tmp 86)⟩]

def f26r12 : List AInstr := [
    ⟨(some 87), none, .mov (.tmp 12)⟩,
    ⟨(some 88), none, .ibin .sub (.tmp 87) (.const (.int .i64 1))⟩,
    ⟨(some 12), none, .mov (.tmp 88)⟩]

/-- live: [0, 1, 4, 11, 12] -/
def f26l2 : ACode := (.block 1 (.seq (.block 2 (.loop f26l0))
  (.keep [0, 1, 4, 11, 12] (.seq (.block 4 (.loop f26l1))
  (.keep [0, 1, 4, 11, 12] (.seq (.seq (.ops f26r9)
  (.keep [0, 1, 4, 11, 12, 70] (.cond (.tmp 70) (.exit 0) .skip)))
  (.keep [0, 1, 4, 11, 12] (.seq (.draw f26r10 [(0, 0, false), (0, 0, false), (0, 1, false), (0, 1, false), (0, 0, false), (0, 0, false), (0, 0, false), (0, 0, false), (0, 0, false), (0, 0, false), (0, 0, false), (0, 0, false), (0, 0, false), (0, 0, true), (1, 1, false), (1, 0, true)])
  (.keep [0, 1, 4, 11, 12] (.seq (.ops f26r11)
  (.keep [0, 1, 4, 11, 12] (.ops f26r12))))))))))))

def f26r14 : List AInstr := [
    ⟨(some 89), none, .mov (.tmp 11)⟩,
    ⟨(some 10), none, .mov (.tmp 89)⟩]

def f26b : ACode := (.seq (.ops f26r0)
  (.keep [0, 1, 2, 3, 4] (.seq (.draw f26r1 [(0, 0, false), (0, 0, false), (0, 1, false), (0, 1, false), (0, 0, false), (0, 0, false), (0, 0, false), (0, 0, false), (0, 0, false), (0, 0, false), (0, 0, false), (0, 0, false), (0, 0, false), (0, 0, true), (1, 1, false), (1, 0, true)])
  (.keep [0, 1, 2, 4] (.seq (.ops f26r2)
  (.keep [0, 1, 4, 11, 12] (.seq (.block 0 (.loop f26l2))
  (.keep [11] (.seq (.ops f26r14)
  (.keep [10] .ret))))))))))

def f26 : AFn := ⟨90, [.tmp 10], f26b⟩

theorem f26_ok : compFn Try.prog 26 = some f26.strip := by kernel_rfl

/- function 27: slices.partitionCmpFunc[int]; parameters 5; operations that are not compiled: 0 -/
def f27r0 : List AInstr := [
    ⟨(some 10), none, .mov (.const (.int .i64 0))⟩,
    ⟨(some 11), none, .mov (.const (.bool false))⟩]

def f27r1 : List AInstr := [
    ⟨(some 14), none, .mov (.tmp 0)⟩,
    ⟨(some 15), none, .mov (.tmp 1)⟩,
    ⟨(some 16), none, .mov (.tmp 0)⟩,
    ⟨(some 17), none, .mov (.tmp 3)⟩,
    ⟨(some 18), none, .mov (.tmp 0)⟩,
    ⟨(some 19), none, .mov (.tmp 3)⟩,
    ⟨(some 20), none, .indexAddr 1 (.tmp 18) (.tmp 19)⟩,
    ⟨(some 21), none, .load none (.tmp 20)⟩,
    ⟨(some 22), none, .mov (.tmp 0)⟩,
    ⟨(some 23), none, .mov (.tmp 1)⟩,
    ⟨(some 24), none, .indexAddr 1 (.tmp 22) (.tmp 23)⟩,
    ⟨(some 25), none, .load none (.tmp 24)⟩,
    ⟨(some 26), none, .indexAddr 1 (.tmp 14) (.tmp 15)⟩,
    ⟨none, none, .store 1 (.tmp 26) (.tmp 21)⟩,
    ⟨(some 27), none, .indexAddr 1 (.tmp 16) (.tmp 17)⟩,
    ⟨none, none, .store 1 (.tmp 27) (.tmp 25)⟩]

def f27r2 : List AInstr := [
    ⟨(some 28), none, .mov (.tmp 1)⟩,
    ⟨(some 29), none, .ibin .add (.tmp 28) (.const (.int .i64 1))⟩,
    ⟨(some 30), none, .mov (.tmp 2)⟩,
    ⟨(some 31), none, .ibin .sub (.tmp 30) (.const (.int .i64 1))⟩,
    ⟨(some 12), none, .mov (.tmp 29)⟩,
    ⟨(some 13), none, .mov (.tmp 31)⟩]

def f27r3 : List AInstr := [
    ⟨(some 32), none, .mov (.tmp 12)⟩,
    ⟨(some 33), none, .mov (.tmp 13)⟩,
    ⟨(some 34), none, .ibin .leq (.tmp 32) (.tmp 33)⟩,
    ⟨(some 35), none, .mov (.tmp 34)⟩,
    ⟨(some 36), (some (35, true)), .mov (.tmp 4)⟩,
    ⟨(some 37), (some (35, true)), .mov (.tmp 0)⟩,
    ⟨(some 38), (some (35, true)), .mov (.tmp 12)⟩,
    ⟨(some 39), (some (35, true)), .indexAddr 1 (.tmp 37) (.tmp 38)⟩,
    ⟨(some 40), (some (35, true)), .load none (.tmp 39)⟩,
    ⟨(some 41), (some (35, true)), .mov (.tmp 0)⟩,
    ⟨(some 42), (some (35, true)), .mov (.tmp 1)⟩,
    ⟨(some 43), (some (35, true)), .indexAddr 1 (.tmp 41) (.tmp 42)⟩,
    ⟨(some 44), (some (35, true)), .load none (.tmp 43)⟩,
    ⟨(some 45), (some (35, true)), .callV (.tmp 36) [.tmp 40, .tmp 44]⟩,
    ⟨(some 46), (some (35, true)), .ibin .lss (.tmp 45) (.const (.int .i64 0))⟩,
    ⟨(some 47), none, .pick (.tmp 35) (.tmp 46) (.const (.bool false))⟩]

def f27r4 : List AInstr := [
    ⟨(some 48), none, .mov (.tmp 12)⟩,
    ⟨(some 49), none, .ibin .add (.tmp 48) (.const (.int .i64 1))⟩,
    ⟨(some 12), none, .mov (.tmp 49)⟩]

/-- live: [0, 1, 4, 12, 13] -/
def f27l0 : ACode := (.seq (.seq (.draw f27r3 [(0, 0, false), (0, 0, false), (0, 0, false), (0, 0, false), (0, 0, false), (0, 0, false), (0, 0, false), (0, 0, false), (0, 0, false), (0, 0, false), (0, 0, false), (0, 0, false), (0, 0, false), (0, 0, true), (1, 1, false), (1, 1, false)])
  (.keep [0, 1, 4, 12, 13, 47] (.cond (.tmp 47) .skip (.exit 0))))
  (.keep [0, 1, 4, 12, 13] (.block 1 (.ops f27r4))))

def f27r6 : List AInstr := [
    ⟨(some 50), none, .mov (.tmp 12)⟩,
    ⟨(some 51), none, .mov (.tmp 13)⟩,
    ⟨(some 52), none, .ibin .leq (.tmp 50) (.tmp 51)⟩,
    ⟨(some 53), none, .mov (.tmp 52)⟩,
    ⟨(some 54), (some (53, true)), .mov (.tmp 4)⟩,
    ⟨(some 55), (some (53, true)), .mov (.tmp 0)⟩,
    ⟨(some 56), (some (53, true)), .mov (.tmp 13)⟩,
    ⟨(some 57), (some (53, true)), .indexAddr 1 (.tmp 55) (.tmp 56)⟩,
    ⟨(some 58), (some (53, true)), .load none (.tmp 57)⟩,
    ⟨(some 59), (some (53, true)), .mov (.tmp 0)⟩,
    ⟨(some 60), (some (53, true)), .mov (.tmp 1)⟩,
    ⟨(some 61), (some (53, true)), .indexAddr 1 (.tmp 59) (.tmp 60)⟩,
    ⟨(some 62), (some (53, true)), .load none (.tmp 61)⟩,
    ⟨(some 63), (some (53, true)), .callV (.tmp 54) [.tmp 58, .tmp 62]⟩,
    ⟨(some 64), (some (53, true)), .ibin .lss (.tmp 63) (.const (.int .i64 0))⟩,
    ⟨(some 65), (some (53, true)), .un .not (.tmp 64)⟩,
    ⟨(some 66), none, .pick (.tmp 53) (.tmp 65) (.const (.bool false))⟩]

def f27r7 : List AInstr := [
    ⟨(some 67), none, .mov (.tmp 13)⟩,
    ⟨(some 68), none, .ibin .sub (.tmp 67) (.const (.int .i64 1))⟩,
    ⟨(some 13), none, .mov (.tmp 68)⟩]

/-- live: [0, 1, 4, 12, 13] -/
def f27l1 : ACode := (.seq (.seq (.draw f27r6 [(0, 0, false), (0, 0, false), (0, 0, false), (0, 0, false), (0, 0, false), (0, 0, false), (0, 0, false), (0, 0, false), (0, 0, false), (0, 0, false), (0, 0, false), (0, 0, false), (0, 0, false), (0, 0, true), (1, 1, false), (1, 1, false), (1, 1, false)])
  (.keep [0, 1, 4, 12, 13, 66] (.cond (.tmp 66) .skip (.exit 2))))
  (.keep [0, 1, 4, 12, 13] (.block 3 (.ops f27r7))))

def f27r9 : List AInstr := [
    ⟨(some 69), none, .mov (.tmp 12)⟩,
    ⟨(some 70), none, .mov (.tmp 13)⟩,
    ⟨(some 71), none, .ibin .gtr (.tmp 69) (.tmp 70)⟩]

def f27r10 : List AInstr := [
    ⟨(some 72), none, .mov (.tmp 0)⟩,
    ⟨(some 73), none, .mov (.tmp 13)⟩,
    ⟨(some 74), none, .mov (.tmp 0)⟩,
    ⟨(some 75), none, .mov (.tmp 1)⟩,
    ⟨(some 76), none, .mov (.tmp 0)⟩,
    ⟨(some 77), none, .mov (.tmp 1)⟩,
    ⟨(some 78), none, .indexAddr 1 (.tmp 76) (.tmp 77)⟩,
    ⟨(some 79), none, .load none (.tmp 78)⟩,
    ⟨(some 80), none, .mov (.tmp 0)⟩,
    ⟨(some 81), none, .mov (.tmp 13)⟩,
    ⟨(some 82), none, .indexAddr 1 (.tmp 80) (.tmp 81)⟩,
    ⟨(some 83), none, .load none (.tmp 82)⟩,
    ⟨(some 84), none, .indexAddr 1 (.tmp 72) (.tmp 73)⟩,
    ⟨none, none, .store 1 (.tmp 84) (.tmp 79)⟩,
    ⟨(some 85), none, .indexAddr 1 (.tmp 74) (.tmp 75)⟩,
    ⟨none, none, .store 1 (.tmp 85) (.tmp 83)⟩]

def f27r11 : List AInstr := [
    ⟨(some 86), none, .mov (.tmp 13)⟩,
    ⟨(some 10), none, .mov (.tmp 86)⟩,
    ⟨(some 11), none, .mov (.const (.bool true))⟩]

def f27r12 : List AInstr := [
    ⟨(some 87), none, .mov (.tmp 0)⟩,
    ⟨(some 88), none, .mov (.tmp 12)⟩,
    ⟨(some 89), none, .mov (.tmp 0)⟩,
    ⟨(some 90), none, .mov (.tmp 13)⟩,
    ⟨(some 91), none, .mov (.tmp 0)⟩,
    ⟨(some 92), none, .mov (.tmp 13)⟩,
    ⟨(some 93), none, .indexAddr 1 (.tmp 91) (.tmp 92)⟩,
    ⟨(some 94), none, .load none (.tmp 93)⟩,
    ⟨(some 95), none, .mov (.tmp 0)⟩,
    ⟨(some 96), none, .mov (.tmp 12)⟩,
    ⟨(some 97), none, .indexAddr 1 (.tmp 95) (.tmp 96)⟩,
    ⟨(some 98), none, .load none (.tmp 97)⟩,
    ⟨(some 99), none, .indexAddr 1 (.tmp 87) (.tmp 88)⟩,
    ⟨none, none, .store 1 (.tmp 99) (.tmp 94)⟩,
    ⟨(some 100), none, .indexAddr 1 (.tmp 89) (.tmp 90)⟩,
    ⟨none, none, .store 1 (.tmp 100) (.tmp 98)⟩]

def f27r13 : List AInstr := [
    ⟨(some 101), none, .mov (.tmp 12)⟩,
    ⟨(some 102), none, .ibin .add (.tmp 101) (.const (.int .i64 1))⟩,
    ⟨(some 12), none, .mov (.tmp 102)⟩]

def f27r14 : List AInstr := [
    ⟨(some 103), none, .mov (.tmp 13)⟩,
    ⟨(some 104), none, .ibin .sub (.tmp 103) (.const (.int .i64 1))⟩,
    ⟨(some 13), none, .mov (.tmp 104)⟩]

def f27r15 : List AInstr := [
    ⟨(some 105), none, .mov (.tmp 12)⟩,
    ⟨(some 106), none, .mov (.tmp 13)⟩,
    ⟨(some 107), none, .ibin .leq (.tmp 105) (.tmp 106)⟩,
    ⟨(some 108), none, .mov (.tmp 107)⟩,
    ⟨(some 109), (some (108, true)), .mov (.tmp 4)⟩,
    ⟨(some 110), (some (108, true)), .mov (.tmp 0)⟩,
    ⟨(some 111), (some (108, true)), .mov (.tmp 12)⟩,
    ⟨(some 112), (some (108, true)), .indexAddr 1 (.tmp 110) (.tmp 111)⟩,
    ⟨(some 113), (some (108, true)), .load none (.tmp 112)⟩,
    ⟨(some 114), (some (108, true)), .mov (.tmp 0)⟩,
    ⟨(some 115), (some (108, true)), .mov (.tmp 1)⟩,
    ⟨(some 116), (some (108, true)), .indexAddr 1 (.tmp 114) (.tmp 115)⟩,
    ⟨(some 117), (some (108, true)), .load none (.tmp 116)⟩,
    ⟨(some 118), (some (108, true)), .callV (.tmp 109) [.tmp 113, .tmp 117]⟩,
    ⟨(some 119), (some (108, true)), .ibin .lss (.tmp 118) (.const (.int .i64 0))⟩,
    ⟨(some 120), none, .pick (.tmp 108) (.tmp 119) (.const (.bool false))⟩]

def f27r16 : List AInstr := [
    ⟨(some 121), none, .mov (.tmp 12)⟩,
    ⟨(some 122), none, .ibin .add (.tmp 121) (.const (.int .i64 1))⟩,
    ⟨(some 12), none, .mov (.tmp 122)⟩]

/-- live: [0, 1, 4, 12, 13] -/
def f27l2 : ACode := (.seq (.seq (.draw f27r15 [(0, 0, false), (0, 0, false), (0, 0, false), (0, 0, false), (0, 0, false), (0, 0, false), (0, 0, false), (0, 0, false), (0, 0, false), (0, 0, false), (0, 0, false), (0, 0, false), (0, 0, false), (0, 0, true), (1, 1, false), (1, 1, false)])
  (.keep [0, 1, 4, 12, 13, 120] (.cond (.tmp 120) .skip (.exit 6))))
  (.keep [0, 1, 4, 12, 13] (.block 7 (.ops f27r16))))

def f27r18 : List AInstr := [
    ⟨(some 123), none, .mov (.tmp 12)⟩,
    ⟨(some 124), none, .mov (.tmp 13)⟩,
    ⟨(some 125), none, .ibin .leq (.tmp 123) (.tmp 124)⟩,
    ⟨(some 126), none, .mov (.tmp 125)⟩,
    ⟨(some 127), (some (126, true)), .mov (.tmp 4)⟩,
    ⟨(some 128), (some (126, true)), .mov (.tmp 0)⟩,
    ⟨(some 129), (some (126, true)), .mov (.tmp 13)⟩,
    ⟨(some 130), (some (126, true)), .indexAddr 1 (.tmp 128) (.tmp 129)⟩,
    ⟨(some 131), (some (126, true)), .load none (.tmp 130)⟩,
    ⟨(some 132), (some (126, true)), .mov (.tmp 0)⟩,
    ⟨(some 133), (some (126, true)), .mov (.tmp 1)⟩,
    ⟨(some 134), (some (126, true)), .indexAddr 1 (.tmp 132) (.tmp 133)⟩,
    ⟨(some 135), (some (126, true)), .load none (.tmp 134)⟩,
    ⟨(some 136), (some (126, true)), .callV (.tmp 127) [.tmp 131, .tmp 135]⟩,
    ⟨(some 137), (some (126, true)), .ibin .lss (.tmp 136) (.const (.int .i64 0))⟩,
    ⟨(some 138), (some (126, true)), .un .not (.tmp 137)⟩,
    ⟨(some 139), none, .pick (.tmp 126) (.tmp 138) (.const (.bool false))⟩]

def f27r19 : List AInstr := [
    ⟨(some 140), none, .mov (.tmp 13)⟩,
    ⟨(some 141), none, .ibin .sub (.tmp 140) (.const (.int .i64 1))⟩,
    ⟨(some 13), none, .mov (.tmp 141)⟩]

/-- live: [0, 1, 4, 12, 13] -/
def f27l3 : ACode := (.seq (.seq (.draw f27r18 [(0, 0, false), (0, 0, false), (0, 0, false), (0, 0, false), (0, 0, false), (0, 0, false), (0, 0, false), (0, 0, false), (0, 0, false), (0, 0, false), (0, 0, false), (0, 0, false), (0, 0, false), (0, 0, true), (1, 1, false), (1, 1, false), (1, 1, false)])
  (.keep [0, 1, 4, 12, 13, 139] (.cond (.tmp 139) .skip (.exit 8))))
  (.keep [0, 1, 4, 12, 13] (.block 9 (.ops f27r19))))

def f27r21 : List AInstr := [
    ⟨(some 142), none, .mov (.tmp 12)⟩,
    ⟨(some 143), none, .mov (.tmp 13)⟩,
    ⟨(some 144), none, .ibin .gtr (.tmp 142) (.tmp 143)⟩]

def f27r22 : List AInstr := [
    ⟨(some 145), none, .mov (.tmp 0)⟩,
    ⟨(some 146), none, .mov (.tmp 12)⟩,
    ⟨(some 147), none, .mov (.tmp 0)⟩,
    ⟨(some 148), none, .mov (.tmp 13)⟩,
    ⟨(some 149), none, .mov (.tmp 0)⟩,
    ⟨(some 150), none, .mov (.tmp 13)⟩,
    ⟨(some 151), none, .indexAddr 1 (.tmp 149) (.tmp 150)⟩,
    ⟨(some 152), none, .load none (.tmp 151)⟩,
    ⟨(some 153), none, .mov (.tmp 0)⟩,
    ⟨(some 154), none, .mov (.tmp 12)⟩,
    ⟨(some 155), none, .indexAddr 1 (.tmp 153) (.tmp 154)⟩,
    ⟨(some 156), none, .load none (.tmp 155)⟩,
    ⟨(some 157), none, .indexAddr 1 (.tmp 145) (.tmp 146)⟩,
    ⟨none, none, .store 1 (.tmp 157) (.tmp 152)⟩,
    ⟨(some 158), none, .indexAddr 1 (.tmp 147) (.tmp 148)⟩,
    ⟨none, none, .store 1 (.tmp 158) (.tmp 156)⟩]

def f27r23 : List AInstr := [
    ⟨(some 159), none, .mov (.tmp 12)⟩,
    ⟨(some 160), none, .ibin .add (.tmp 159) (.const (.int .i64 1))⟩,
    ⟨(some 12), none, .mov (.tmp 160)⟩]

def f27r24 : List AInstr := [
    ⟨(some 161), none, .mov (.tmp 13)⟩,
    ⟨(some 162), none, .ibin .sub (.tmp 161) (.const (.int .i64 1))⟩,
    ⟨(some 13), none, .mov (.tmp 162)⟩]

/-- live: [0, 1, 4, 12, 13] -/
def f27l4 : ACode := (.block 5 (.seq (.block 6 (.loop f27l2))
  (.keep [0, 1, 4, 12, 13] (.seq (.block 8 (.loop f27l3))
  (.keep [0, 1, 4, 12, 13] (.seq (.seq (.ops f27r21)
  (.keep [0, 1, 4, 12, 13, 144] (.cond (.tmp 144) (.exit 4) .skip)))
  (.keep [0, 1, 4, 12, 13] (.seq (.draw f27r22 [(0, 0, false), (0, 0, false), (0, 1, false), (0, 1, false), (0, 0, false), (0, 0, false), (0, 0, false), (0, 0, false), (0, 0, false), (0, 0, false), (0, 0, false), (0, 0, false), (0, 0, false), (0, 0, true), (1, 1, false), (1, 0, true)])
  (.keep [0, 1, 4, 12, 13] (.seq (.ops f27r23)
  (.keep [0, 1, 4, 12, 13] (.ops f27r24))))))))))))

def f27r26 : List AInstr := [
    ⟨(some 163), none, .mov (.tmp 0)⟩,
    ⟨(some 164), none, .mov (.tmp 13)⟩,
    ⟨(some 165), none, .mov (.tmp 0)⟩,
    ⟨(some 166), none, .mov (.tmp 1)⟩,
    ⟨(some 167), none, .mov (.tmp 0)⟩,
    ⟨(some 168), none, .mov (.tmp 1)⟩,
    ⟨(some 169), none, .indexAddr 1 (.tmp 167) (.tmp 168)⟩,
    ⟨(some 170), none, .load none (.tmp 169)⟩,
    ⟨(some 171), none, .mov (.tmp 0)⟩,
    ⟨(some 172), none, .mov (.tmp 13)⟩,
    ⟨(some 173), none, .indexAddr 1 (.tmp 171) (.tmp 172)⟩,
    ⟨(some 174), none, .load none (.tmp 173)⟩,
    ⟨(some 175), none, .indexAddr 1 (.tmp 163) (.tmp 164)⟩,
    ⟨none, none, .store 1 (.tmp 175) (.tmp 170)⟩,
    ⟨(some 176), none, .indexAddr 1 (.tmp 165) (.tmp 166)⟩,
    ⟨none, none, .store 1 (.tmp 176) (.tmp 174)⟩]

def f27r27 : List AInstr := [
    ⟨(some 177), none, .mov (.tmp 13)⟩,
    ⟨(some 10), none, .mov (.tmp 177)⟩,
    ⟨(some 11), none, .mov (.const (.bool false))⟩]

def f27b : ACode := (.seq (.ops f27r0)
  (.keep [0, 1, 2, 3, 4] (.seq (.draw f27r1 [(0, 0, false), (0, 0, false), (0, 1, false), (0, 1, false), (0, 0, false), (0, 0, false), (0, 0, false), (0, 0, false), (0, 0, false), (0, 0, false), (0, 0, false), (0, 0, false), (0, 0, false), (0, 0, true), (1, 1, false), (1, 0, true)])
  (.keep [0, 1, 2, 4] (.seq (.ops f27r2)
  (.keep [0, 1, 4, 12, 13] (.seq (.block 0 (.loop f27l0))
  (.keep [0, 1, 4, 12, 13] (.seq (.block 2 (.loop f27l1))
  (.keep [0, 1, 4, 12, 13] (.seq (.seq (.ops f27r9)
  (.keep [0, 1, 4, 12, 13, 71] (.cond (.tmp 71) (.keep [0, 1, 13] (.seq (.draw f27r10 [(0, 0, false), (0, 0, false), (0, 1, false), (0, 1, false), (0, 0, false), (0, 0, false), (0, 0, false), (0, 0, false), (0, 0, false), (0, 0, false), (0, 0, false), (0, 0, false), (0, 0, false), (0, 0, true), (1, 1, false), (1, 0, true)])
  (.keep [13] (.seq (.ops f27r11)
  (.keep [10, 11] .ret))))) .skip)))
  (.keep [0, 1, 4, 12, 13] (.seq (.draw f27r12 [(0, 0, false), (0, 0, false), (0, 1, false), (0, 1, false), (0, 0, false), (0, 0, false), (0, 0, false), (0, 0, false), (0, 0, false), (0, 0, false), (0, 0, false), (0, 0, false), (0, 0, false), (0, 0, true), (1, 1, false), (1, 0, true)])
  (.keep [0, 1, 4, 12, 13] (.seq (.ops f27r13)
  (.keep [0, 1, 4, 12, 13] (.seq (.ops f27r14)
  (.keep [0, 1, 4, 12, 13] (.seq (.block 4 (.loop f27l4))
  (.keep [0, 1, 13] (.seq (.draw f27r26 [(0, 0, false), (0, 0, false), (0, 1, false), (0, 1, false), (0, 0, false), (0, 0, false), (0, 0, false), (0, 0, false), (0, 0, false), (0, 0, false), (0, 0, false), (0, 0, false), (0, 0, false), (0, 0, true), (1, 1, false), (1, 0, true)])
  (.keep [13] (.seq (.ops f27r27)
  (.keep [10, 11] .ret))))))))))))))))))))))))

def f27 : AFn := ⟨178, [.tmp 10, .tmp 11], f27b⟩

theorem f27_ok : compFn Try.prog 27 = some f27.strip := by kernel_rfl

/- function 28: math/bits.Len32; parameters 1; operations that are not compiled: 0 -/
def f28r0 : List AInstr := [
    ⟨(some 2), none, .mov (.const (.int .i64 0))⟩]

def f28r1 : List AInstr := [
    ⟨(some 3), none, .mov (.tmp 0)⟩,
    ⟨(some 4), none, .ibin .geq (.tmp 3) (.const (.int .u32 65536))⟩]

def f28r2 : List AInstr := [
    ⟨(some 5), none, .mov (.tmp 0)⟩,
    ⟨(some 6), none, .ibin .shr (.tmp 5) (.const (.int .u64 16))⟩,
    ⟨(some 0), none, .mov (.tmp 6)⟩]

def f28r3 : List AInstr := [
    ⟨(some 2), none, .mov (.const (.int .i64 16))⟩]

def f28r4 : List AInstr := [
    ⟨(some 7), none, .mov (.tmp 0)⟩,
    ⟨(some 8), none, .ibin .geq (.tmp 7) (.const (.int .u32 256))⟩]

def f28r5 : List AInstr := [
    ⟨(some 9), none, .mov (.tmp 0)⟩,
    ⟨(some 10), none, .ibin .shr (.tmp 9) (.const (.int .u64 8))⟩,
    ⟨(some 0), none, .mov (.tmp 10)⟩]

def f28r6 : List AInstr := [
    ⟨(some 11), none, .mov (.tmp 2)⟩,
    ⟨(some 12), none, .ibin .add (.tmp 11) (.const (.int .i64 8))⟩,
    ⟨(some 2), none, .mov (.tmp 12)⟩]

def f28r7s0 : ByteArray := ⟨#[0, 1, 2, 2, 3, 3, 3, 3, 4, 4, 4, 4, 4, 4, 4, 4, 5, 5, 5, 5, 5, 5, 5, 5, 5, 5, 5, 5, 5, 5, 5, 5, 6, 6, 6, 6, 6, 6, 6, 6, 6, 6, 6, 6, 6, 6, 6, 6, 6, 6, 6, 6, 6, 6, 6, 6, 6, 6, 6, 6, 6, 6, 6, 6, 7, 7, 7, 7, 7, 7, 7, 7, 7, 7, 7, 7, 7, 7, 7, 7, 7, 7, 7, 7, 7, 7, 7, 7, 7, 7, 7, 7, 7, 7, 7, 7, 7, 7, 7, 7, 7, 7, 7, 7, 7, 7, 7, 7, 7, 7, 7, 7, 7, 7, 7, 7, 7, 7, 7, 7, 7, 7, 7, 7, 7, 7, 7, 7, 8, 8, 8, 8, 8, 8, 8, 8, 8, 8, 8, 8, 8, 8, 8, 8, 8, 8, 8, 8, 8, 8, 8, 8, 8, 8, 8, 8, 8, 8, 8, 8, 8, 8, 8, 8, 8, 8, 8, 8, 8, 8, 8, 8, 8, 8, 8, 8, 8, 8, 8, 8, 8, 8, 8, 8, 8, 8, 8, 8, 8, 8, 8, 8, 8, 8, 8, 8, 8, 8, 8, 8, 8, 8, 8, 8, 8, 8, 8, 8, 8, 8, 8, 8, 8, 8, 8, 8, 8, 8, 8, 8, 8, 8, 8, 8, 8, 8, 8, 8, 8, 8, 8, 8, 8, 8, 8, 8, 8, 8, 8, 8, 8, 8, 8, 8, 8, 8, 8, 8, 8, 8, 8, 8, 8, 8, 8, 8]⟩

def f28r7 : List AInstr := [
    ⟨(some 13), none, .mov (.tmp 2)⟩,
    ⟨(some 14), none, .mov (.tmp 0)⟩,
    ⟨(some 15), none, .conv .u8 (.tmp 14)⟩,
    ⟨(some 16), none, .indexStr (.const (.string f28r7s0)) (.tmp 15)⟩,
    ⟨(some 17), none, .conv .i64 (.tmp 16)⟩,
    ⟨(some 18), none, .ibin .add (.tmp 13) (.tmp 17)⟩,
    ⟨(some 2), none, .mov (.tmp 18)⟩]

def f28b : ACode := (.seq (.ops f28r0)
  (.keep [0, 2] (.seq (.seq (.ops f28r1)
  (.keep [0, 2, 4] (.cond (.tmp 4) (.keep [0] (.seq (.ops f28r2)
  (.keep [0] (.ops f28r3)))) .skip)))
  (.keep [0, 2] (.seq (.seq (.ops f28r4)
  (.keep [0, 2, 8] (.cond (.tmp 8) (.keep [0, 2] (.seq (.ops f28r5)
  (.keep [0, 2] (.ops f28r6)))) .skip)))
  (.keep [0, 2] (.seq (.ops f28r7)
  (.keep [2] .ret))))))))

def f28 : AFn := ⟨19, [.tmp 2], f28b⟩

theorem f28_ok : compFn Try.prog 28 = some f28.strip := by kernel_rfl

/- function 29: math/bits.Len64; parameters 1; operations that are not compiled: 0 -/
def f29r0 : List AInstr := [
    ⟨(some 2), none, .mov (.const (.int .i64 0))⟩]

def f29r1 : List AInstr := [
    ⟨(some 3), none, .mov (.tmp 0)⟩,
    ⟨(some 4), none, .ibin .geq (.tmp 3) (.const (.int .u64 4294967296))⟩]

def f29r2 : List AInstr := [
    ⟨(some 5), none, .mov (.tmp 0)⟩,
    ⟨(some 6), none, .ibin .shr (.tmp 5) (.const (.int .u64 32))⟩,
    ⟨(some 0), none, .mov (.tmp 6)⟩]

def f29r3 : List AInstr := [
    ⟨(some 2), none, .mov (.const (.int .i64 32))⟩]

def f29r4 : List AInstr := [
    ⟨(some 7), none, .mov (.tmp 0)⟩,
    ⟨(some 8), none, .ibin .geq (.tmp 7) (.const (.int .u64 65536))⟩]

def f29r5 : List AInstr := [
    ⟨(some 9), none, .mov (.tmp 0)⟩,
    ⟨(some 10), none, .ibin .shr (.tmp 9) (.const (.int .u64 16))⟩,
    ⟨(some 0), none, .mov (.tmp 10)⟩]

def f29r6 : List AInstr := [
    ⟨(some 11), none, .mov (.tmp 2)⟩,
    ⟨(some 12), none, .ibin .add (.tmp 11) (.const (.int .i64 16))⟩,
    ⟨(some 2), none, .mov (.tmp 12)⟩]

def f29r7 : List AInstr := [
    ⟨(some 13), none, .mov (.tmp 0)⟩,
    ⟨(some 14), none, .ibin .geq (.tmp 13) (.const (.int .u64 256))⟩]

def f29r8 : List AInstr := [
    ⟨(some 15), none, .mov (.tmp 0)⟩,
    ⟨(some 16), none, .ibin .shr (.tmp 15) (.const (.int .u64 8))⟩,
    ⟨(some 0), none, .mov (.tmp 16)⟩]

def f29r9 : List AInstr := [
    ⟨(some 17), none, .mov (.tmp 2)⟩,
    ⟨(some 18), none, .ibin .add (.tmp 17) (.const (.int .i64 8))⟩,
    ⟨(some 2), none, .mov (.tmp 18)⟩]

def f29r10s0 : ByteArray := ⟨#[0, 1, 2, 2, 3, 3, 3, 3, 4, 4, 4, 4, 4, 4, 4, 4, 5, 5, 5, 5, 5, 5, 5, 5, 5, 5, 5, 5, 5, 5, 5, 5, 6, 6, 6, 6, 6, 6, 6, 6, 6, 6, 6, 6, 6, 6, 6, 6, 6, 6, 6, 6, 6, 6, 6, 6, 6, 6, 6, 6, 6, 6, 6, 6, 7, 7, 7, 7, 7, 7, 7, 7, 7, 7, 7, 7, 7, 7, 7, 7, 7, 7, 7, 7, 7, 7, 7, 7, 7, 7, 7, 7, 7, 7, 7, 7, 7, 7, 7, 7, 7, 7, 7, 7, 7, 7, 7, 7, 7, 7, 7, 7, 7, 7, 7, 7, 7, 7, 7, 7, 7, 7, 7, 7, 7, 7, 7, 7, 8, 8, 8, 8, 8, 8, 8, 8, 8, 8, 8, 8, 8, 8, 8, 8, 8, 8, 8, 8, 8, 8, 8, 8, 8, 8, 8, 8, 8, 8, 8, 8, 8, 8, 8, 8, 8, 8, 8, 8, 8, 8, 8, 8, 8, 8, 8, 8, 8, 8, 8, 8, 8, 8, 8, 8, 8, 8, 8, 8, 8, 8, 8, 8, 8, 8, 8, 8, 8, 8, 8, 8, 8, 8, 8, 8, 8, 8, 8, 8, 8, 8, 8, 8, 8, 8, 8, 8, 8, 8, 8, 8, 8, 8, 8, 8, 8, 8, 8, 8, 8, 8, 8, 8, 8, 8, 8, 8, 8, 8, 8, 8, 8, 8, 8, 8, 8, 8, 8, 8, 8, 8, 8, 8, 8, 8, 8, 8]⟩

def f29r10 : List AInstr := [
    ⟨(some 19), none, .mov (.tmp 2)⟩,
    ⟨(some 20), none, .mov (.tmp 0)⟩,
    ⟨(some 21), none, .conv .u8 (.tmp 20)⟩,
    ⟨(some 22), none, .indexStr (.const (.string f29r10s0)) (.tmp 21)⟩,
    ⟨(some 23), none, .conv .i64 (.tmp 22)⟩,
    ⟨(some 24), none, .ibin .add (.tmp 19) (.tmp 23)⟩,
    ⟨(some 2), none, .mov (.tmp 24)⟩]

def f29b : ACode := (.seq (.ops f29r0)
  (.keep [0, 2] (.seq (.seq (.ops f29r1)
  (.keep [0, 2, 4] (.cond (.tmp 4) (.keep [0] (.seq (.ops f29r2)
  (.keep [0] (.ops f29r3)))) .skip)))
  (.keep [0, 2] (.seq (.seq (.ops f29r4)
  (.keep [0, 2, 8] (.cond (.tmp 8) (.keep [0, 2] (.seq (.ops f29r5)
  (.keep [0, 2] (.ops f29r6)))) .skip)))
  (.keep [0, 2] (.seq (.seq (.ops f29r7)
  (.keep [0, 2, 14] (.cond (.tmp 14) (.keep [0, 2] (.seq (.ops f29r8)
  (.keep [0, 2] (.ops f29r9)))) .skip)))
  (.keep [0, 2] (.seq (.ops f29r10)
  (.keep [2] .ret))))))))))

def f29 : AFn := ⟨25, [.tmp 2], f29b⟩

theorem f29_ok : compFn Try.prog 29 = some f29.strip := by kernel_rfl

/- function 30: slices.siftDownCmpFunc[int]; parameters 5; operations that are not compiled: 0 -/
def f30r0 : List AInstr := [
    ⟨(some 12), none, .mov (.tmp 1)⟩,
    ⟨(some 10), none, .mov (.tmp 12)⟩]

def f30r1 : List AInstr := [
    ⟨(some 13), none, .mov (.tmp 10)⟩,
    ⟨(some 14), none, .ibin .mul (.const (.int .i64 2)) (.tmp 13)⟩,
    ⟨(some 15), none, .ibin .add (.tmp 14) (.const (.int .i64 1))⟩,
    ⟨(some 11), none, .mov (.tmp 15)⟩]

def f30r2 : List AInstr := [
    ⟨(some 16), none, .mov (.tmp 11)⟩,
    ⟨(some 17), none, .mov (.tmp 2)⟩,
    ⟨(some 18), none, .ibin .geq (.tmp 16) (.tmp 17)⟩]

def f30r3 : List AInstr := [
    ⟨(some 19), none, .mov (.tmp 11)⟩,
    ⟨(some 20), none, .ibin .add (.tmp 19) (.const (.int .i64 1))⟩,
    ⟨(some 21), none, .mov (.tmp 2)⟩,
    ⟨(some 22), none, .ibin .lss (.tmp 20) (.tmp 21)⟩,
    ⟨(some 23), none, .mov (.tmp 22)⟩,
    ⟨(some 24), (some (23, true)), .mov (.tmp 4)⟩,
    ⟨(some 25), (some (23, true)), .mov (.tmp 0)⟩,
    ⟨(some 26), (some (23, true)), .mov (.tmp 3)⟩,
    ⟨(some 27), (some (23, true)), .mov (.tmp 11)⟩,
    ⟨(some 28), (some (23, true)), .ibin .add (.tmp 26) (.tmp 27)⟩,
    ⟨(some 29), (some (23, true)), .indexAddr 1 (.tmp 25) (.tmp 28)⟩,
    ⟨(some 30), (some (23, true)), .load none (.tmp 29)⟩,
    ⟨(some 31), (some (23, true)), .mov (.tmp 0)⟩,
    ⟨(some 32), (some (23, true)), .mov (.tmp 3)⟩,
    ⟨(some 33), (some (23, true)), .mov (.tmp 11)⟩,
    ⟨(some 34), (some (23, true)), .ibin .add (.tmp 32) (.tmp 33)⟩,
    ⟨(some 35), (some (23, true)), .ibin .add (.tmp 34) (.const (.int .i64 1))⟩,
    ⟨(some 36), (some (23, true)), .indexAddr 1 (.tmp 31) (.tmp 35)⟩,
    ⟨(some 37), (some (23, true)), .load none (.tmp 36)⟩,
    ⟨(some 38), (some (23, true)), .callV (.tmp 24) [.tmp 30, .tmp 37]⟩,
    ⟨(some 39), (some (23, true)), .ibin .lss (.tmp 38) (.const (.int .i64 0))⟩,
    ⟨(some 40), none, .pick (.tmp 23) (.tmp 39) (.const (.bool false))⟩]

def f30r4 : List AInstr := [
    ⟨(some 41), none, .mov (.tmp 11)⟩,
    ⟨(some 42), none, .ibin .add (.tmp 41) (.const (.int .i64 1))⟩,
    ⟨(some 11), none, .mov (.tmp 42)⟩]

def f30r5 : List AInstr := [
    ⟨(some 43), none, .mov (.tmp 4)⟩,
    ⟨(some 44), none, .mov (.tmp 0)⟩,
    ⟨(some 45), none, .mov (.tmp 3)⟩,
    ⟨(some 46), none, .mov (.tmp 10)⟩,
    ⟨(some 47), none, .ibin .add (.tmp 45) (.tmp 46)⟩,
    ⟨(some 48), none, .indexAddr 1 (.tmp 44) (.tmp 47)⟩,
    ⟨(some 49), none, .load none (.tmp 48)⟩,
    ⟨(some 50), none, .mov (.tmp 0)⟩,
    ⟨(some 51), none, .mov (.tmp 3)⟩,
    ⟨(some 52), none, .mov (.tmp 11)⟩,
    ⟨(some 53), none, .ibin .add (.tmp 51) (.tmp 52)⟩,
    ⟨(some 54), none, .indexAddr 1 (.tmp 50) (.tmp 53)⟩,
    ⟨(some 55), none, .load none (.tmp 54)⟩,
    ⟨(some 56), none, .callV (.tmp 43) [.tmp 49, .tmp 55]⟩,
    ⟨(some 57), none, .ibin .lss (.tmp 56) (.const (.int .i64 0))⟩,
    ⟨(some 58), none, .un .not (.tmp 57)⟩]

def f30r6 : List AInstr := [
    ⟨(some 59), none, .mov (.tmp 0)⟩,
    ⟨(some 60), none, .mov (.tmp 3)⟩,
    ⟨(some 61), none, .mov (.tmp 10)⟩,
    ⟨(some 62), none, .ibin .add (.tmp 60) (.tmp 61)⟩,
    ⟨(some 63), none, .mov (.tmp 0)⟩,
    ⟨(some 64), none, .mov (.tmp 3)⟩,
    ⟨(some 65), none, .mov (.tmp 11)⟩,
    ⟨(some 66), none, .ibin .add (.tmp 64) (.tmp 65)⟩,
    ⟨(some 67), none, .mov (.tmp 0)⟩,
    ⟨(some 68), none, .mov (.tmp 3)⟩,
    ⟨(some 69), none, .mov (.tmp 11)⟩,
    ⟨(some 70), none, .ibin .add (.tmp 68) (.tmp 69)⟩,
    ⟨(some 71), none, .indexAddr 1 (.tmp 67) (.tmp 70)⟩,
    ⟨(some 72), none, .load none (.tmp 71)⟩,
    ⟨(some 73), none, .mov (.tmp 0)⟩,
    ⟨(some 74), none, .mov (.tmp 3)⟩,
    ⟨(some 75), none, .mov (.tmp 10)⟩,
    ⟨(some 76), none, .ibin .add (.tmp 74) (.tmp 75)⟩,
    ⟨(some 77), none, .indexAddr 1 (.tmp 73) (.tmp 76)⟩,
    ⟨(some 78), none, .load none (.tmp 77)⟩,
    ⟨(some 79), none, .indexAddr 1 (.tmp 59) (.tmp 62)⟩,
    ⟨none, none, .store 1 (.tmp 79) (.tmp 72)⟩,
    ⟨(some 80), none, .indexAddr 1 (.tmp 63) (.tmp 66)⟩,
    ⟨none, none, .store 1 (.tmp 80) (.tmp 78)⟩]

def f30r7 : List AInstr := [
    ⟨(some 81), none, .mov (.tmp 11)⟩,
    ⟨(some 10), none, .mov (.tmp 81)⟩]

/-- live: [0, 2, 3, 4, 10] -/
def f30l0 : ACode := (.block 1 (.seq (.ops f30r1)
  (.keep [0, 2, 3, 4, 10, 11] (.seq (.seq (.ops f30r2)
  (.keep [0, 2, 3, 4, 10, 11, 18] (.cond (.tmp 18) (.exit 0) .skip)))
  (.keep [0, 2, 3, 4, 10, 11] (.seq (.seq (.draw f30r3 [(0, 0, false), (0, 0, false), (0, 0, false), (0, 0, false), (0, 0, false), (0, 0, false), (0, 0, false), (0, 0, false), (0, 0, false), (0, 0, false), (0, 0, false), (0, 0, false), (0, 0, false), (0, 0, false), (0, 0, false), (0, 0, false), (0, 0, false), (0, 0, false), (0, 0, false), (0, 0, true), (1, 1, false), (1, 1, false)])
  (.keep [0, 2, 3, 4, 10, 11, 40] (.cond (.tmp 40) (.keep [0, 2, 3, 4, 10, 11] (.ops f30r4)) .skip)))
  (.keep [0, 2, 3, 4, 10, 11] (.seq (.seq (.draw f30r5 [(0, 0, false), (0, 0, false), (0, 0, false), (0, 0, false), (0, 0, false), (0, 0, false), (0, 0, false), (0, 0, false), (0, 0, false), (0, 0, false), (0, 0, false), (0, 0, false), (0, 0, false), (0, 0, true), (1, 1, false), (1, 1, false)])
  (.keep [0, 2, 3, 4, 10, 11, 58] (.cond (.tmp 58) (.keep [] .ret) .skip)))
  (.keep [0, 2, 3, 4, 10, 11] (.seq (.draw f30r6 [(0, 0, false), (0, 0, false), (0, 0, false), (0, 0, false), (0, 1, false), (0, 1, false), (0, 1, false), (0, 1, false), (0, 0, false), (0, 0, false), (0, 0, false), (0, 0, false), (0, 0, false), (0, 0, false), (0, 0, false), (0, 0, false), (0, 0, false), (0, 0, false), (0, 0, false), (0, 0, false), (0, 0, false), (0, 0, true), (1, 1, false), (1, 0, true)])
  (.keep [0, 2, 3, 4, 11] (.ops f30r7))))))))))))

def f30b : ACode := (.seq (.ops f30r0)
  (.keep [0, 2, 3, 4, 10] (.block 0 (.loop f30l0))))

def f30 : AFn := ⟨82, [], f30b⟩

theorem f30_ok : compFn Try.prog 30 = some f30.strip := by kernel_rfl

/- function 31: slices.nextPowerOfTwo; parameters 1; operations that are not compiled: 0 -/
def f31r0 : List AInstr := [
    ⟨(some 2), none, .mov (.const (.int .u64 0))⟩]

def f31r1 : List AInstr := [
    ⟨(some 3), none, .mov (.tmp 0)⟩,
    ⟨(some 4), none, .conv .u64 (.tmp 3)⟩,
    ⟨(some 5), none, .callF 19 [.tmp 4]⟩,
    ⟨(some 6), none, .ibin .shl (.const (.int .u64 1)) (.tmp 5)⟩,
    ⟨(some 2), none, .mov (.tmp 6)⟩]

def f31b : ACode := (.seq (.ops f31r0)
  (.keep [0] (.seq (.ops f31r1)
  (.keep [2] .ret))))

def f31 : AFn := ⟨7, [.tmp 2], f31b⟩

theorem f31_ok : compFn Try.prog 31 = some f31.strip := by kernel_rfl

/- function 32: (*slices.xorshift).Next; parameters 1; operations that are not compiled: 0 -/
def f32r0 : List AInstr := [
    ⟨(some 2), none, .mov (.const (.int .u64 0))⟩]

def f32r1 : List AInstr := [
    ⟨(some 3), none, .mov (.tmp 0)⟩,
    ⟨(some 4), none, .nilCheck (.tmp 3)⟩,
    ⟨(some 5), none, .load none (.tmp 4)⟩,
    ⟨(some 6), none, .mov (.tmp 0)⟩,
    ⟨(some 7), none, .nilCheck (.tmp 6)⟩,
    ⟨(some 8), none, .load none (.tmp 7)⟩,
    ⟨(some 9), none, .ibin .shl (.tmp 8) (.const (.int .u64 13))⟩,
    ⟨(some 10), none, .ibin .xor (.tmp 5) (.tmp 9)⟩,
    ⟨(some 11), none, .nilCheck (.tmp 3)⟩,
    ⟨none, none, .store 1 (.tmp 11) (.tmp 10)⟩]

def f32r2 : List AInstr := [
    ⟨(some 12), none, .mov (.tmp 0)⟩,
    ⟨(some 13), none, .nilCheck (.tmp 12)⟩,
    ⟨(some 14), none, .load none (.tmp 13)⟩,
    ⟨(some 15), none, .mov (.tmp 0)⟩,
    ⟨(some 16), none, .nilCheck (.tmp 15)⟩,
    ⟨(some 17), none, .load none (.tmp 16)⟩,
    ⟨(some 18), none, .ibin .shr (.tmp 17) (.const (.int .u64 7))⟩,
    ⟨(some 19), none, .ibin .xor (.tmp 14) (.tmp 18)⟩,
    ⟨(some 20), none, .nilCheck (.tmp 12)⟩,
    ⟨none, none, .store 1 (.tmp 20) (.tmp 19)⟩]

def f32r3 : List AInstr := [
    ⟨(some 21), none, .mov (.tmp 0)⟩,
    ⟨(some 22), none, .nilCheck (.tmp 21)⟩,
    ⟨(some 23), none, .load none (.tmp 22)⟩,
    ⟨(some 24), none, .mov (.tmp 0)⟩,
    ⟨(some 25), none, .nilCheck (.tmp 24)⟩,
    ⟨(some 26), none, .load none (.tmp 25)⟩,
    ⟨(some 27), none, .ibin .shl (.tmp 26) (.const (.int .u64 17))⟩,
    ⟨(some 28), none, .ibin .xor (.tmp 23) (.tmp 27)⟩,
    ⟨(some 29), none, .nilCheck (.tmp 21)⟩,
    ⟨none, none, .store 1 (.tmp 29) (.tmp 28)⟩]

def f32r4 : List AInstr := [
    ⟨(some 30), none, .mov (.tmp 0)⟩,
    ⟨(some 31), none, .nilCheck (.tmp 30)⟩,
    ⟨(some 32), none, .load none (.tmp 31)⟩,
    ⟨(some 2), none, .mov (.tmp 32)⟩]

def f32b : ACode := (.seq (.ops f32r0)
  (.keep [0] (.seq (.draw f32r1 [(0, 0, false), (0, 0, false), (0, 0, false), (0, 0, false), (0, 0, false), (0, 0, false), (0, 0, false), (0, 0, false), (0, 0, false), (0, 0, true)])
  (.keep [0] (.seq (.draw f32r2 [(0, 0, false), (0, 0, false), (0, 0, false), (0, 0, false), (0, 0, false), (0, 0, false), (0, 0, false), (0, 0, false), (0, 0, false), (0, 0, true)])
  (.keep [0] (.seq (.draw f32r3 [(0, 0, false), (0, 0, false), (0, 0, false), (0, 0, false), (0, 0, false), (0, 0, false), (0, 0, false), (0, 0, false), (0, 0, false), (0, 0, true)])
  (.keep [0] (.seq (.ops f32r4)
  (.keep [2] .ret))))))))))

def f32 : AFn := ⟨33, [.tmp 2], f32b⟩

theorem f32_ok : compFn Try.prog 32 = some f32.strip := by kernel_rfl

/- function 33: slices.medianAdjacentCmpFunc[int]; parameters 4; operations that are not compiled: 0 -/
def f33r0 : List AInstr := [
    ⟨(some 8), none, .mov (.const (.int .i64 0))⟩]

def f33r1 : List AInstr := [
    ⟨(some 9), none, .mov (.tmp 0)⟩,
    ⟨(some 10), none, .mov (.tmp 1)⟩,
    ⟨(some 11), none, .ibin .sub (.tmp 10) (.const (.int .i64 1))⟩,
    ⟨(some 12), none, .mov (.tmp 1)⟩,
    ⟨(some 13), none, .mov (.tmp 1)⟩,
    ⟨(some 14), none, .ibin .add (.tmp 13) (.const (.int .i64 1))⟩,
    ⟨(some 15), none, .mov (.tmp 2)⟩,
    ⟨(some 16), none, .mov (.tmp 3)⟩,
    ⟨(some 17), none, .callF 34 [.tmp 9, .tmp 11, .tmp 12, .tmp 14, .tmp 15, .tmp 16]⟩,
    ⟨(some 8), none, .mov (.tmp 17)⟩]

def f33b : ACode := (.seq (.ops f33r0)
  (.keep [0, 1, 2, 3] (.seq (.ops f33r1)
  (.keep [8] .ret))))

def f33 : AFn := ⟨18, [.tmp 8], f33b⟩

theorem f33_ok : compFn Try.prog 33 = some f33.strip := by kernel_rfl

/- function 34: slices.medianCmpFunc[int]; parameters 6; operations that are not compiled: 0 -/
def f34r0 : List AInstr := [
    ⟨(some 12), none, .mov (.const (.int .i64 0))⟩]

def f34r1 : List AInstr := [
    ⟨(some 14), none, .mov (.tmp 0)⟩,
    ⟨(some 15), none, .mov (.tmp 1)⟩,
    ⟨(some 16), none, .mov (.tmp 2)⟩,
    ⟨(some 17), none, .mov (.tmp 4)⟩,
    ⟨(some 18), none, .mov (.tmp 5)⟩,
    ⟨(some 19), none, .callF 35 [.tmp 14, .tmp 15, .tmp 16, .tmp 17, .tmp 18]⟩,
    ⟨(some 13), none, .mov (.tmp 19)⟩,
    ⟨(some 20), none, .extract 0 (.tmp 13)⟩,
    ⟨(some 21), none, .extract 1 (.tmp 13)⟩,
    ⟨(some 1), none, .mov (.tmp 20)⟩,
    ⟨(some 2), none, .mov (.tmp 21)⟩]

def f34r2 : List AInstr := [
    ⟨(some 23), none, .mov (.tmp 0)⟩,
    ⟨(some 24), none, .mov (.tmp 2)⟩,
    ⟨(some 25), none, .mov (.tmp 3)⟩,
    ⟨(some 26), none, .mov (.tmp 4)⟩,
    ⟨(some 27), none, .mov (.tmp 5)⟩,
    ⟨(some 28), none, .callF 35 [.tmp 23, .tmp 24, .tmp 25, .tmp 26, .tmp 27]⟩,
    ⟨(some 22), none, .mov (.tmp 28)⟩,
    ⟨(some 29), none, .extract 0 (.tmp 22)⟩,
    ⟨(some 30), none, .extract 1 (.tmp 22)⟩,
    ⟨(some 2), none, .mov (.tmp 29)⟩,
    ⟨(some 3), none, .mov (.tmp 30)⟩]

def f34r3 : List AInstr := [
    ⟨(some 32), none, .mov (.tmp 0)⟩,
    ⟨(some 33), none, .mov (.tmp 1)⟩,
    ⟨(some 34), none, .mov (.tmp 2)⟩,
    ⟨(some 35), none, .mov (.tmp 4)⟩,
    ⟨(some 36), none, .mov (.tmp 5)⟩,
    ⟨(some 37), none, .callF 35 [.tmp 32, .tmp 33, .tmp 34, .tmp 35, .tmp 36]⟩,
    ⟨(some 31), none, .mov (.tmp 37)⟩,
    ⟨(some 38), none, .extract 0 (.tmp 31)⟩,
    ⟨(some 39), none, .extract 1 (.tmp 31)⟩,
    ⟨(some 1), none, .mov (.tmp 38)⟩,
    ⟨(some 2), none, .mov (.tmp 39)⟩]

def f34r4 : List AInstr := [
    ⟨(some 40), none, .mov (.tmp 2)⟩,
    ⟨(some 12), none, .mov (.tmp 40)⟩]

def f34b : ACode := (.seq (.ops f34r0)
  (.keep [0, 1, 2, 3, 4, 5] (.seq (.ops f34r1)
  (.keep [0, 1, 2, 3, 4, 5] (.seq (.ops f34r2)
  (.keep [0, 1, 2, 4, 5] (.seq (.ops f34r3)
  (.keep [2] (.seq (.ops f34r4)
  (.keep [12] .ret))))))))))

def f34 : AFn := ⟨41, [.tmp 12], f34b⟩

theorem f34_ok : compFn Try.prog 34 = some f34.strip := by kernel_rfl

/- function 35: slices.order2CmpFunc[int]; parameters 5; operations that are not compiled: 0 -/
def f35r0 : List AInstr := [
    ⟨(some 10), none, .mov (.const (.int .i64 0))⟩,
    ⟨(some 11), none, .mov (.const (.int .i64 0))⟩]

def f35r1 : List AInstr := [
    ⟨(some 12), none, .mov (.tmp 4)⟩,
    ⟨(some 13), none, .mov (.tmp 0)⟩,
    ⟨(some 14), none, .mov (.tmp 2)⟩,
    ⟨(some 15), none, .indexAddr 1 (.tmp 13) (.tmp 14)⟩,
    ⟨(some 16), none, .load none (.tmp 15)⟩,
    ⟨(some 17), none, .mov (.tmp 0)⟩,
    ⟨(some 18), none, .mov (.tmp 1)⟩,
    ⟨(some 19), none, .indexAddr 1 (.tmp 17) (.tmp 18)⟩,
    ⟨(some 20), none, .load none (.tmp 19)⟩,
    ⟨(some 21), none, .callV (.tmp 12) [.tmp 16, .tmp 20]⟩,
    ⟨(some 22), none, .ibin .lss (.tmp 21) (.const (.int .i64 0))⟩]

def f35r2 : List AInstr := [
    ⟨(some 23), none, .mov (.tmp 3)⟩,
    ⟨(some 24), none, .nilCheck (.tmp 23)⟩,
    ⟨(some 25), none, .load none (.tmp 24)⟩,
    ⟨(some 26), none, .ibin .add (.tmp 25) (.const (.int .i64 1))⟩,
    ⟨(some 27), none, .nilCheck (.tmp 23)⟩,
    ⟨none, none, .store 1 (.tmp 27) (.tmp 26)⟩]

def f35r3 : List AInstr := [
    ⟨(some 28), none, .mov (.tmp 2)⟩,
    ⟨(some 29), none, .mov (.tmp 1)⟩,
    ⟨(some 10), none, .mov (.tmp 28)⟩,
    ⟨(some 11), none, .mov (.tmp 29)⟩]

def f35r4 : List AInstr := [
    ⟨(some 30), none, .mov (.tmp 1)⟩,
    ⟨(some 31), none, .mov (.tmp 2)⟩,
    ⟨(some 10), none, .mov (.tmp 30)⟩,
    ⟨(some 11), none, .mov (.tmp 31)⟩]

def f35b : ACode := (.seq (.ops f35r0)
  (.keep [0, 1, 2, 3, 4] (.seq (.seq (.draw f35r1 [(0, 0, false), (0, 0, false), (0, 0, false), (0, 0, false), (0, 0, false), (0, 0, false), (0, 0, false), (0, 0, false), (0, 0, false), (0, 0, true), (1, 1, false)])
  (.keep [1, 2, 3, 22] (.cond (.tmp 22) (.keep [1, 2, 3] (.seq (.ops f35r2)
  (.keep [1, 2] (.seq (.ops f35r3)
  (.keep [10, 11] .ret))))) .skip)))
  (.keep [1, 2] (.seq (.ops f35r4)
  (.keep [10, 11] .ret))))))

def f35 : AFn := ⟨32, [.tmp 10, .tmp 11], f35b⟩

theorem f35_ok : compFn Try.prog 35 = some f35.strip := by kernel_rfl

end Go.Proofs.Ytabjglejldapgaa
