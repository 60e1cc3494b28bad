/-
  The functions of this seat as abstract code. Printed by a program of this claim's writer.
-/
import Derived.Test.YtklbagfnepphmaaChecked
import Derived.Test.YtklbagfnepphmaaAmS
import Derived.KernelRfl
namespace Go.Proofs.Ytklbagfnepphmaa
open Go Go.Am

/- function 3: weirhouse/weirhousekeep.SlideParts; parameters 2; operations that are not compiled: 0 -/
def f3r0 : List AInstr := [
    ⟨(some 4), none, .mov (.const (.bool false))⟩]

def f3r1 : List AInstr := [
    ⟨(some 14), none, .callF 7 []⟩,
    ⟨(some 15), none, .un .not (.tmp 14)⟩]

def f3r2 : List AInstr := [
    ⟨(some 4), none, .mov (.const (.bool false))⟩]

def f3r3 : List AInstr := [
    ⟨(some 17), none, .mov (.tmp 0)⟩,
    ⟨(some 18), none, .mov (.tmp 1)⟩,
    ⟨(some 19), none, .callF 8 [.tmp 17, .tmp 18]⟩,
    ⟨(some 16), none, .mov (.tmp 19)⟩,
    ⟨(some 20), none, .extract 0 (.tmp 16)⟩,
    ⟨(some 21), none, .extract 1 (.tmp 16)⟩,
    ⟨(some 5), none, .mov (.tmp 20)⟩,
    ⟨(some 6), none, .mov (.tmp 21)⟩]

def f3r4 : List AInstr := [
    ⟨(some 23), none, .mov (.tmp 0)⟩,
    ⟨(some 24), none, .ibin .mul (.const (.int .i64 2)) (.tmp 23)⟩,
    ⟨(some 25), none, .mov (.tmp 1)⟩,
    ⟨(some 26), none, .callF 8 [.tmp 24, .tmp 25]⟩,
    ⟨(some 22), none, .mov (.tmp 26)⟩,
    ⟨(some 27), none, .extract 0 (.tmp 22)⟩,
    ⟨(some 28), none, .extract 1 (.tmp 22)⟩,
    ⟨(some 7), none, .mov (.tmp 27)⟩,
    ⟨(some 8), none, .mov (.tmp 28)⟩]

def f3r5 : List AInstr := [
    ⟨(some 30), none, .mov (.tmp 0)⟩,
    ⟨(some 31), none, .mov (.tmp 1)⟩,
    ⟨(some 32), none, .callF 9 [.tmp 30, .tmp 31]⟩,
    ⟨(some 29), none, .mov (.tmp 32)⟩,
    ⟨(some 33), none, .extract 0 (.tmp 29)⟩,
    ⟨(some 34), none, .extract 1 (.tmp 29)⟩,
    ⟨(some 9), none, .mov (.tmp 33)⟩,
    ⟨(some 10), none, .mov (.tmp 34)⟩]

def f3r6 : List AInstr := [
    ⟨(some 36), none, .mov (.tmp 0)⟩,
    ⟨(some 37), none, .ibin .mul (.const (.int .i64 2)) (.tmp 36)⟩,
    ⟨(some 38), none, .mov (.tmp 1)⟩,
    ⟨(some 39), none, .callF 9 [.tmp 37, .tmp 38]⟩,
    ⟨(some 35), none, .mov (.tmp 39)⟩,
    ⟨(some 40), none, .extract 0 (.tmp 35)⟩,
    ⟨(some 41), none, .extract 1 (.tmp 35)⟩,
    ⟨(some 11), none, .mov (.tmp 40)⟩,
    ⟨(some 12), none, .mov (.tmp 41)⟩]

def f3r7 : List AInstr := [
    ⟨(some 42), none, .mov (.tmp 6)⟩,
    ⟨(some 43), none, .ibin .neq (.tmp 42) (.const (.int .i64 0))⟩,
    ⟨(some 44), none, .mov (.tmp 43)⟩,
    ⟨(some 45), (some (44, false)), .mov (.tmp 8)⟩,
    ⟨(some 46), (some (44, false)), .ibin .neq (.tmp 45) (.const (.int .i64 0))⟩,
    ⟨(some 47), none, .pick (.tmp 44) (.const (.bool true)) (.tmp 46)⟩,
    ⟨(some 48), none, .mov (.tmp 47)⟩,
    ⟨(some 49), (some (48, false)), .mov (.tmp 10)⟩,
    ⟨(some 50), (some (48, false)), .ibin .neq (.tmp 49) (.const (.int .i64 0))⟩,
    ⟨(some 51), none, .pick (.tmp 48) (.const (.bool true)) (.tmp 50)⟩,
    ⟨(some 52), none, .mov (.tmp 51)⟩,
    ⟨(some 53), (some (52, false)), .mov (.tmp 12)⟩,
    ⟨(some 54), (some (52, false)), .ibin .neq (.tmp 53) (.const (.int .i64 0))⟩,
    ⟨(some 55), none, .pick (.tmp 52) (.const (.bool true)) (.tmp 54)⟩]

def f3r8 : List AInstr := [
    ⟨(some 56), none, .mov (.tmp 6)⟩,
    ⟨(some 57), none, .ibin .neq (.tmp 56) (.const (.int .i64 0))⟩,
    ⟨(some 58), none, .mov (.tmp 57)⟩,
    ⟨(some 59), (some (58, false)), .mov (.tmp 8)⟩,
    ⟨(some 60), (some (58, false)), .ibin .neq (.tmp 59) (.const (.int .i64 0))⟩,
    ⟨(some 61), none, .pick (.tmp 58) (.const (.bool true)) (.tmp 60)⟩,
    ⟨(some 4), none, .mov (.tmp 61)⟩]

def f3r9 : List AInstr := [
    ⟨(some 62), none, .mov (.tmp 5)⟩,
    ⟨(some 63), none, .len (.tmp 62)⟩,
    ⟨(some 64), none, .mov (.tmp 1)⟩,
    ⟨(some 65), none, .len (.tmp 64)⟩,
    ⟨(some 66), none, .ibin .neq (.tmp 63) (.tmp 65)⟩,
    ⟨(some 67), none, .mov (.tmp 66)⟩,
    ⟨(some 68), (some (67, false)), .mov (.tmp 7)⟩,
    ⟨(some 69), (some (67, false)), .len (.tmp 68)⟩,
    ⟨(some 70), (some (67, false)), .mov (.tmp 1)⟩,
    ⟨(some 71), (some (67, false)), .len (.tmp 70)⟩,
    ⟨(some 72), (some (67, false)), .ibin .neq (.tmp 69) (.tmp 71)⟩,
    ⟨(some 73), none, .pick (.tmp 67) (.const (.bool true)) (.tmp 72)⟩,
    ⟨(some 74), none, .mov (.tmp 73)⟩,
    ⟨(some 75), (some (74, false)), .mov (.tmp 9)⟩,
    ⟨(some 76), (some (74, false)), .len (.tmp 75)⟩,
    ⟨(some 77), (some (74, false)), .mov (.tmp 1)⟩,
    ⟨(some 78), (some (74, false)), .len (.tmp 77)⟩,
    ⟨(some 79), (some (74, false)), .ibin .neq (.tmp 76) (.tmp 78)⟩,
    ⟨(some 80), none, .pick (.tmp 74) (.const (.bool true)) (.tmp 79)⟩,
    ⟨(some 81), none, .mov (.tmp 80)⟩,
    ⟨(some 82), (some (81, false)), .mov (.tmp 11)⟩,
    ⟨(some 83), (some (81, false)), .len (.tmp 82)⟩,
    ⟨(some 84), (some (81, false)), .mov (.tmp 1)⟩,
    ⟨(some 85), (some (81, false)), .len (.tmp 84)⟩,
    ⟨(some 86), (some (81, false)), .ibin .neq (.tmp 83) (.tmp 85)⟩,
    ⟨(some 87), none, .pick (.tmp 81) (.const (.bool true)) (.tmp 86)⟩]

def f3r10 : List AInstr := [
    ⟨(some 4), none, .mov (.const (.bool false))⟩]

def f3r11 : List AInstr := [
    ⟨(some 88), none, .mov (.tmp 0)⟩,
    ⟨(some 13), none, .mov (.tmp 88)⟩]

def f3r12 : List AInstr := [
    ⟨(some 89), none, .mov (.tmp 13)⟩,
    ⟨(some 90), none, .mov (.tmp 1)⟩,
    ⟨(some 91), none, .len (.tmp 90)⟩,
    ⟨(some 92), none, .ibin .lss (.tmp 89) (.tmp 91)⟩]

def f3r13 : List AInstr := [
    ⟨(some 95), none, .mov (.tmp 7)⟩,
    ⟨(some 96), none, .mov (.tmp 13)⟩,
    ⟨(some 97), none, .indexAddr 1 (.tmp 95) (.tmp 96)⟩,
    ⟨(some 98), none, .load none (.tmp 97)⟩,
    ⟨(some 99), none, .mov (.tmp 5)⟩,
    ⟨(some 100), none, .mov (.tmp 13)⟩,
    ⟨(some 101), none, .indexAddr 1 (.tmp 99) (.tmp 100)⟩,
    ⟨(some 102), none, .load none (.tmp 101)⟩,
    ⟨(some 103), none, .mov (.tmp 5)⟩,
    ⟨(some 104), none, .mov (.tmp 13)⟩,
    ⟨(some 105), none, .mov (.tmp 0)⟩,
    ⟨(some 106), none, .ibin .sub (.tmp 104) (.tmp 105)⟩,
    ⟨(some 107), none, .indexAddr 1 (.tmp 103) (.tmp 106)⟩,
    ⟨(some 108), none, .load none (.tmp 107)⟩,
    ⟨(some 109), none, .ibin .add (.tmp 102) (.tmp 108)⟩,
    ⟨(some 110), none, .ibin .neq (.tmp 98) (.tmp 109)⟩,
    ⟨(some 111), none, .mov (.tmp 110)⟩,
    ⟨(some 112), (some (111, false)), .mov (.tmp 11)⟩,
    ⟨(some 113), (some (111, false)), .mov (.tmp 13)⟩,
    ⟨(some 114), (some (111, false)), .indexAddr 1 (.tmp 112) (.tmp 113)⟩,
    ⟨(some 115), (some (111, false)), .load none (.tmp 114)⟩,
    ⟨(some 116), (some (111, false)), .mov (.tmp 9)⟩,
    ⟨(some 117), (some (111, false)), .mov (.tmp 13)⟩,
    ⟨(some 118), (some (111, false)), .indexAddr 1 (.tmp 116) (.tmp 117)⟩,
    ⟨(some 119), (some (111, false)), .load none (.tmp 118)⟩,
    ⟨(some 120), (some (111, false)), .mov (.tmp 9)⟩,
    ⟨(some 121), (some (111, false)), .mov (.tmp 13)⟩,
    ⟨(some 122), (some (111, false)), .mov (.tmp 0)⟩,
    ⟨(some 123), (some (111, false)), .ibin .sub (.tmp 121) (.tmp 122)⟩,
    ⟨(some 124), (some (111, false)), .indexAddr 1 (.tmp 120) (.tmp 123)⟩,
    ⟨(some 125), (some (111, false)), .load none (.tmp 124)⟩,
    ⟨(some 126), (some (111, false)), .minmax true [.tmp 119, .tmp 125]⟩,
    ⟨(some 127), (some (111, false)), .ibin .neq (.tmp 115) (.tmp 126)⟩,
    ⟨(some 128), none, .pick (.tmp 111) (.const (.bool true)) (.tmp 127)⟩]

def f3r14 : List AInstr := [
    ⟨(some 4), none, .mov (.const (.bool false))⟩]

def f3r15 : List AInstr := [
    ⟨(some 93), none, .mov (.tmp 13)⟩,
    ⟨(some 94), none, .ibin .add (.tmp 93) (.const (.int .i64 1))⟩,
    ⟨(some 13), none, .mov (.tmp 94)⟩]

/-- live: [0, 1, 5, 7, 9, 11, 13] -/
def f3l0 : ACode := (.seq (.seq (.ops f3r12)
  (.keep [0, 1, 5, 7, 9, 11, 13, 92] (.cond (.tmp 92) .skip (.exit 0))))
  (.keep [0, 1, 5, 7, 9, 11, 13] (.seq (.block 1 (.seq (.draw f3r13 [(0, 0, false), (0, 0, false), (0, 0, false), (0, 0, false), (0, 0, false), (0, 0, false), (0, 0, false), (0, 0, false), (0, 0, false), (0, 0, false), (0, 0, false), (0, 0, false), (0, 0, false), (0, 0, false), (0, 0, false), (0, 0, false), (0, 0, false), (0, 0, false), (0, 0, false), (0, 0, false), (0, 0, false), (0, 0, false), (0, 0, false), (0, 0, false), (0, 0, false), (0, 0, false), (0, 0, false), (0, 0, false), (0, 0, false), (0, 0, false), (0, 0, false), (0, 0, false), (0, 0, false), (0, 0, false)])
  (.keep [0, 1, 5, 7, 9, 11, 13, 128] (.cond (.tmp 128) (.keep [] (.seq (.ops f3r14)
  (.keep [4] .ret))) .skip))))
  (.keep [0, 1, 5, 7, 9, 11, 13] (.ops f3r15)))))

def f3r17 : List AInstr := [
    ⟨(some 4), none, .mov (.const (.bool true))⟩]

def f3b : ACode := (.seq (.ops f3r0)
  (.keep [0, 1] (.seq (.seq (.ops f3r1)
  (.keep [0, 1, 15] (.cond (.tmp 15) (.keep [] (.seq (.ops f3r2)
  (.keep [4] .ret))) .skip)))
  (.keep [0, 1] (.seq (.ops f3r3)
  (.keep [0, 1, 5, 6] (.seq (.ops f3r4)
  (.keep [0, 1, 5, 6, 7, 8] (.seq (.ops f3r5)
  (.keep [0, 1, 5, 6, 7, 8, 9, 10] (.seq (.ops f3r6)
  (.keep [0, 1, 5, 6, 7, 8, 9, 10, 11, 12] (.seq (.seq (.ops f3r7)
  (.keep [0, 1, 5, 6, 7, 8, 9, 11, 55] (.cond (.tmp 55) (.keep [6, 8] (.seq (.ops f3r8)
  (.keep [4] .ret))) .skip)))
  (.keep [0, 1, 5, 7, 9, 11] (.seq (.seq (.ops f3r9)
  (.keep [0, 1, 5, 7, 9, 11, 87] (.cond (.tmp 87) (.keep [] (.seq (.ops f3r10)
  (.keep [4] .ret))) .skip)))
  (.keep [0, 1, 5, 7, 9, 11] (.seq (.seq (.ops f3r11)
  (.keep [0, 1, 5, 7, 9, 11, 13] (.block 0 (.loop f3l0))))
  (.keep [] (.seq (.ops f3r17)
  (.keep [4] .ret))))))))))))))))))))

def f3 : AFn := ⟨129, [.tmp 4], f3b⟩

theorem f3_ok : compFn Try.prog 3 = some f3.strip := by kernel_rfl

/- function 4: weirhouse/weirhousekeep.SlideShift; parameters 5; operations that are not compiled: 0 -/
def f4r0 : List AInstr := [
    ⟨(some 10), none, .mov (.const (.bool false))⟩]

def f4r1 : List AInstr := [
    ⟨(some 23), none, .callF 7 []⟩,
    ⟨(some 24), none, .un .not (.tmp 23)⟩]

def f4r2 : List AInstr := [
    ⟨(some 10), none, .mov (.const (.bool false))⟩]

def f4r3 : List AInstr := [
    ⟨(some 25), none, .mov (.tmp 4)⟩,
    ⟨(some 26), none, .ibin .lss (.tmp 25) (.const (.int .i64 (-1000)))⟩,
    ⟨(some 27), none, .mov (.tmp 26)⟩,
    ⟨(some 28), (some (27, false)), .mov (.tmp 4)⟩,
    ⟨(some 29), (some (27, false)), .ibin .gtr (.tmp 28) (.const (.int .i64 1000))⟩,
    ⟨(some 30), none, .pick (.tmp 27) (.const (.bool true)) (.tmp 29)⟩]

def f4r4 : List AInstr := [
    ⟨(some 10), none, .mov (.const (.bool true))⟩]

def f4r5 : List AInstr := [
    ⟨(some 31), none, .mov (.tmp 3)⟩,
    ⟨(some 32), none, .callF 10 [.tmp 31]⟩,
    ⟨(some 11), none, .mov (.tmp 32)⟩]

def f4r6 : List AInstr := [
    ⟨(some 33), none, .mov (.tmp 11)⟩,
    ⟨(some 34), none, .len (.tmp 33)⟩,
    ⟨(some 35), none, .mov (.const (.int .i64 0))⟩]

def f4r7 : List AInstr := [
    ⟨(some 36), none, .ibin .lss (.tmp 35) (.tmp 34)⟩]

def f4r8 : List AInstr := [
    ⟨(some 37), none, .mov (.tmp 35)⟩,
    ⟨(some 12), none, .mov (.tmp 37)⟩]

def f4r9 : List AInstr := [
    ⟨(some 38), none, .mov (.tmp 11)⟩,
    ⟨(some 39), none, .mov (.tmp 12)⟩,
    ⟨(some 40), none, .indexAddr 1 (.tmp 38) (.tmp 39)⟩,
    ⟨(some 41), none, .load none (.tmp 40)⟩,
    ⟨(some 42), none, .mov (.tmp 4)⟩,
    ⟨(some 43), none, .ibin .add (.tmp 41) (.tmp 42)⟩,
    ⟨(some 44), none, .indexAddr 1 (.tmp 38) (.tmp 39)⟩,
    ⟨none, none, .store 1 (.tmp 44) (.tmp 43)⟩]

def f4r10 : List AInstr := [
    ⟨(some 45), none, .ibin .add (.tmp 35) (.const (.int .i64 1))⟩,
    ⟨(some 35), none, .mov (.tmp 45)⟩]

/-- live: [0, 1, 2, 3, 4, 11, 34, 35] -/
def f4l0 : ACode := (.seq (.ops f4r7)
  (.keep [0, 1, 2, 3, 4, 11, 34, 35, 36] (.seq (.cond (.tmp 36) .skip (.exit 0))
  (.keep [0, 1, 2, 3, 4, 11, 34, 35] (.seq (.block 1 (.seq (.ops f4r8)
  (.keep [0, 1, 2, 3, 4, 11, 12, 34, 35] (.ops f4r9))))
  (.keep [0, 1, 2, 3, 4, 11, 34, 35] (.ops f4r10)))))))

def f4r12 : List AInstr := [
    ⟨(some 47), none, .mov (.tmp 0)⟩,
    ⟨(some 48), none, .mov (.tmp 3)⟩,
    ⟨(some 49), none, .callF 9 [.tmp 47, .tmp 48]⟩,
    ⟨(some 46), none, .mov (.tmp 49)⟩,
    ⟨(some 50), none, .extract 0 (.tmp 46)⟩,
    ⟨(some 51), none, .extract 1 (.tmp 46)⟩,
    ⟨(some 13), none, .mov (.tmp 50)⟩,
    ⟨(some 14), none, .mov (.tmp 51)⟩]

def f4r13 : List AInstr := [
    ⟨(some 53), none, .mov (.tmp 0)⟩,
    ⟨(some 54), none, .mov (.tmp 11)⟩,
    ⟨(some 55), none, .callF 9 [.tmp 53, .tmp 54]⟩,
    ⟨(some 52), none, .mov (.tmp 55)⟩,
    ⟨(some 56), none, .extract 0 (.tmp 52)⟩,
    ⟨(some 57), none, .extract 1 (.tmp 52)⟩,
    ⟨(some 15), none, .mov (.tmp 56)⟩,
    ⟨(some 16), none, .mov (.tmp 57)⟩]

def f4r14 : List AInstr := [
    ⟨(some 59), none, .mov (.tmp 1)⟩,
    ⟨(some 60), none, .mov (.tmp 2)⟩,
    ⟨(some 61), none, .mov (.tmp 3)⟩,
    ⟨(some 62), none, .callF 11 [.tmp 59, .tmp 60, .tmp 61]⟩,
    ⟨(some 58), none, .mov (.tmp 62)⟩,
    ⟨(some 63), none, .extract 0 (.tmp 58)⟩,
    ⟨(some 64), none, .extract 1 (.tmp 58)⟩,
    ⟨(some 17), none, .mov (.tmp 63)⟩,
    ⟨(some 18), none, .mov (.tmp 64)⟩]

def f4r15 : List AInstr := [
    ⟨(some 66), none, .mov (.tmp 1)⟩,
    ⟨(some 67), none, .mov (.tmp 2)⟩,
    ⟨(some 68), none, .mov (.tmp 4)⟩,
    ⟨(some 69), none, .ibin .add (.tmp 67) (.tmp 68)⟩,
    ⟨(some 70), none, .mov (.tmp 11)⟩,
    ⟨(some 71), none, .callF 11 [.tmp 66, .tmp 69, .tmp 70]⟩,
    ⟨(some 65), none, .mov (.tmp 71)⟩,
    ⟨(some 72), none, .extract 0 (.tmp 65)⟩,
    ⟨(some 73), none, .extract 1 (.tmp 65)⟩,
    ⟨(some 19), none, .mov (.tmp 72)⟩,
    ⟨(some 20), none, .mov (.tmp 73)⟩]

def f4r16 : List AInstr := [
    ⟨(some 74), none, .mov (.tmp 14)⟩,
    ⟨(some 75), none, .ibin .eql (.tmp 74) (.const (.int .i64 0))⟩,
    ⟨(some 76), none, .mov (.tmp 75)⟩,
    ⟨(some 77), (some (76, true)), .mov (.tmp 16)⟩,
    ⟨(some 78), (some (76, true)), .ibin .eql (.tmp 77) (.const (.int .i64 0))⟩,
    ⟨(some 79), none, .pick (.tmp 76) (.tmp 78) (.const (.bool false))⟩]

def f4r17 : List AInstr := [
    ⟨(some 80), none, .mov (.tmp 13)⟩,
    ⟨(some 81), none, .len (.tmp 80)⟩,
    ⟨(some 82), none, .mov (.const (.int .i64 0))⟩]

def f4r18 : List AInstr := [
    ⟨(some 83), none, .ibin .lss (.tmp 82) (.tmp 81)⟩]

def f4r19 : List AInstr := [
    ⟨(some 84), none, .mov (.tmp 82)⟩,
    ⟨(some 21), none, .mov (.tmp 84)⟩]

def f4r20 : List AInstr := [
    ⟨(some 85), none, .mov (.tmp 21)⟩,
    ⟨(some 86), none, .mov (.tmp 15)⟩,
    ⟨(some 87), none, .len (.tmp 86)⟩,
    ⟨(some 88), none, .ibin .geq (.tmp 85) (.tmp 87)⟩,
    ⟨(some 89), none, .mov (.tmp 88)⟩,
    ⟨(some 90), (some (89, false)), .mov (.tmp 15)⟩,
    ⟨(some 91), (some (89, false)), .mov (.tmp 21)⟩,
    ⟨(some 92), (some (89, false)), .indexAddr 1 (.tmp 90) (.tmp 91)⟩,
    ⟨(some 93), (some (89, false)), .load none (.tmp 92)⟩,
    ⟨(some 94), (some (89, false)), .mov (.tmp 13)⟩,
    ⟨(some 95), (some (89, false)), .mov (.tmp 21)⟩,
    ⟨(some 96), (some (89, false)), .indexAddr 1 (.tmp 94) (.tmp 95)⟩,
    ⟨(some 97), (some (89, false)), .load none (.tmp 96)⟩,
    ⟨(some 98), (some (89, false)), .mov (.tmp 4)⟩,
    ⟨(some 99), (some (89, false)), .ibin .add (.tmp 97) (.tmp 98)⟩,
    ⟨(some 100), (some (89, false)), .ibin .neq (.tmp 93) (.tmp 99)⟩,
    ⟨(some 101), none, .pick (.tmp 89) (.const (.bool true)) (.tmp 100)⟩]

def f4r21 : List AInstr := [
    ⟨(some 10), none, .mov (.const (.bool false))⟩]

def f4r22 : List AInstr := [
    ⟨(some 102), none, .ibin .add (.tmp 82) (.const (.int .i64 1))⟩,
    ⟨(some 82), none, .mov (.tmp 102)⟩]

/-- live: [4, 13, 15, 17, 18, 19, 20, 81, 82] -/
def f4l1 : ACode := (.seq (.ops f4r18)
  (.keep [4, 13, 15, 17, 18, 19, 20, 81, 82, 83] (.seq (.cond (.tmp 83) .skip (.exit 2))
  (.keep [4, 13, 15, 17, 18, 19, 20, 81, 82] (.seq (.block 3 (.seq (.ops f4r19)
  (.keep [4, 13, 15, 17, 18, 19, 20, 21, 81, 82] (.seq (.draw f4r20 [(0, 0, false), (0, 0, false), (0, 0, false), (0, 0, false), (0, 0, false), (0, 0, false), (0, 0, false), (0, 0, false), (0, 0, false), (0, 0, false), (0, 0, false), (0, 0, false), (0, 0, false), (0, 0, false), (0, 0, false), (0, 0, false), (0, 0, false)])
  (.keep [4, 13, 15, 17, 18, 19, 20, 81, 82, 101] (.cond (.tmp 101) (.keep [] (.seq (.ops f4r21)
  (.keep [10] .ret))) .skip))))))
  (.keep [4, 13, 15, 17, 18, 19, 20, 81, 82] (.ops f4r22)))))))

def f4r24 : List AInstr := [
    ⟨(some 103), none, .mov (.tmp 18)⟩,
    ⟨(some 104), none, .ibin .eql (.tmp 103) (.const (.int .i64 0))⟩,
    ⟨(some 105), none, .mov (.tmp 104)⟩,
    ⟨(some 106), (some (105, true)), .mov (.tmp 20)⟩,
    ⟨(some 107), (some (105, true)), .ibin .eql (.tmp 106) (.const (.int .i64 0))⟩,
    ⟨(some 108), none, .pick (.tmp 105) (.tmp 107) (.const (.bool false))⟩]

def f4r25 : List AInstr := [
    ⟨(some 109), none, .mov (.tmp 17)⟩,
    ⟨(some 110), none, .len (.tmp 109)⟩,
    ⟨(some 111), none, .mov (.const (.int .i64 0))⟩]

def f4r26 : List AInstr := [
    ⟨(some 112), none, .ibin .lss (.tmp 111) (.tmp 110)⟩]

def f4r27 : List AInstr := [
    ⟨(some 113), none, .mov (.tmp 111)⟩,
    ⟨(some 22), none, .mov (.tmp 113)⟩]

def f4r28 : List AInstr := [
    ⟨(some 114), none, .mov (.tmp 22)⟩,
    ⟨(some 115), none, .mov (.tmp 19)⟩,
    ⟨(some 116), none, .len (.tmp 115)⟩,
    ⟨(some 117), none, .ibin .geq (.tmp 114) (.tmp 116)⟩,
    ⟨(some 118), none, .mov (.tmp 117)⟩,
    ⟨(some 119), (some (118, false)), .mov (.tmp 19)⟩,
    ⟨(some 120), (some (118, false)), .mov (.tmp 22)⟩,
    ⟨(some 121), (some (118, false)), .indexAddr 1 (.tmp 119) (.tmp 120)⟩,
    ⟨(some 122), (some (118, false)), .load none (.tmp 121)⟩,
    ⟨(some 123), (some (118, false)), .mov (.tmp 17)⟩,
    ⟨(some 124), (some (118, false)), .mov (.tmp 22)⟩,
    ⟨(some 125), (some (118, false)), .indexAddr 1 (.tmp 123) (.tmp 124)⟩,
    ⟨(some 126), (some (118, false)), .load none (.tmp 125)⟩,
    ⟨(some 127), (some (118, false)), .mov (.tmp 4)⟩,
    ⟨(some 128), (some (118, false)), .ibin .add (.tmp 126) (.tmp 127)⟩,
    ⟨(some 129), (some (118, false)), .ibin .neq (.tmp 122) (.tmp 128)⟩,
    ⟨(some 130), none, .pick (.tmp 118) (.const (.bool true)) (.tmp 129)⟩]

def f4r29 : List AInstr := [
    ⟨(some 10), none, .mov (.const (.bool false))⟩]

def f4r30 : List AInstr := [
    ⟨(some 131), none, .ibin .add (.tmp 111) (.const (.int .i64 1))⟩,
    ⟨(some 111), none, .mov (.tmp 131)⟩]

/-- live: [4, 17, 19, 110, 111] -/
def f4l2 : ACode := (.seq (.ops f4r26)
  (.keep [4, 17, 19, 110, 111, 112] (.seq (.cond (.tmp 112) .skip (.exit 4))
  (.keep [4, 17, 19, 110, 111] (.seq (.block 5 (.seq (.ops f4r27)
  (.keep [4, 17, 19, 22, 110, 111] (.seq (.draw f4r28 [(0, 0, false), (0, 0, false), (0, 0, false), (0, 0, false), (0, 0, false), (0, 0, false), (0, 0, false), (0, 0, false), (0, 0, false), (0, 0, false), (0, 0, false), (0, 0, false), (0, 0, false), (0, 0, false), (0, 0, false), (0, 0, false), (0, 0, false)])
  (.keep [4, 17, 19, 110, 111, 130] (.cond (.tmp 130) (.keep [] (.seq (.ops f4r29)
  (.keep [10] .ret))) .skip))))))
  (.keep [4, 17, 19, 110, 111] (.ops f4r30)))))))

def f4r32 : List AInstr := [
    ⟨(some 10), none, .mov (.const (.bool true))⟩]

def f4b : ACode := (.seq (.ops f4r0)
  (.keep [0, 1, 2, 3, 4] (.seq (.seq (.ops f4r1)
  (.keep [0, 1, 2, 3, 4, 24] (.cond (.tmp 24) (.keep [] (.seq (.ops f4r2)
  (.keep [10] .ret))) .skip)))
  (.keep [0, 1, 2, 3, 4] (.seq (.seq (.ops f4r3)
  (.keep [0, 1, 2, 3, 4, 30] (.cond (.tmp 30) (.keep [] (.seq (.ops f4r4)
  (.keep [10] .ret))) .skip)))
  (.keep [0, 1, 2, 3, 4] (.seq (.ops f4r5)
  (.keep [0, 1, 2, 3, 4, 11] (.seq (.seq (.ops f4r6)
  (.keep [0, 1, 2, 3, 4, 11, 34, 35] (.block 0 (.loop f4l0))))
  (.keep [0, 1, 2, 3, 4, 11] (.seq (.ops f4r12)
  (.keep [0, 1, 2, 3, 4, 11, 13, 14] (.seq (.ops f4r13)
  (.keep [1, 2, 3, 4, 11, 13, 14, 15, 16] (.seq (.ops f4r14)
  (.keep [1, 2, 4, 11, 13, 14, 15, 16, 17, 18] (.seq (.ops f4r15)
  (.keep [4, 13, 14, 15, 16, 17, 18, 19, 20] (.seq (.seq (.ops f4r16)
  (.keep [4, 13, 15, 17, 18, 19, 20, 79] (.cond (.tmp 79) (.keep [4, 13, 15, 17, 18, 19, 20] (.seq (.ops f4r17)
  (.keep [4, 13, 15, 17, 18, 19, 20, 81, 82] (.block 2 (.loop f4l1))))) .skip)))
  (.keep [4, 17, 18, 19, 20] (.seq (.seq (.ops f4r24)
  (.keep [4, 17, 19, 108] (.cond (.tmp 108) (.keep [4, 17, 19] (.seq (.ops f4r25)
  (.keep [4, 17, 19, 110, 111] (.block 4 (.loop f4l2))))) .skip)))
  (.keep [] (.seq (.ops f4r32)
  (.keep [10] .ret))))))))))))))))))))))))

def f4 : AFn := ⟨132, [.tmp 10], f4b⟩

theorem f4_ok : compFn Try.prog 4 = some f4.strip := by kernel_rfl

/- function 5: weirhouse/weirhousekeep.SlideMost; parameters 2; operations that are not compiled: 0 -/
def f5r0 : List AInstr := [
    ⟨(some 4), none, .mov (.const (.bool false))⟩]

def f5r1 : List AInstr := [
    ⟨(some 12), none, .callF 7 []⟩,
    ⟨(some 13), none, .un .not (.tmp 12)⟩]

def f5r2 : List AInstr := [
    ⟨(some 4), none, .mov (.const (.bool false))⟩]

def f5r3 : List AInstr := [
    ⟨(some 15), none, .mov (.tmp 0)⟩,
    ⟨(some 16), none, .mov (.tmp 1)⟩,
    ⟨(some 17), none, .callF 9 [.tmp 15, .tmp 16]⟩,
    ⟨(some 14), none, .mov (.tmp 17)⟩,
    ⟨(some 18), none, .extract 0 (.tmp 14)⟩,
    ⟨(some 19), none, .extract 1 (.tmp 14)⟩,
    ⟨(some 5), none, .mov (.tmp 18)⟩,
    ⟨(some 6), none, .mov (.tmp 19)⟩]

def f5r4 : List AInstr := [
    ⟨(some 21), none, .mov (.tmp 0)⟩,
    ⟨(some 22), none, .ibin .add (.tmp 21) (.const (.int .i64 1))⟩,
    ⟨(some 23), none, .mov (.tmp 1)⟩,
    ⟨(some 24), none, .callF 9 [.tmp 22, .tmp 23]⟩,
    ⟨(some 20), none, .mov (.tmp 24)⟩,
    ⟨(some 25), none, .extract 0 (.tmp 20)⟩,
    ⟨(some 26), none, .extract 1 (.tmp 20)⟩,
    ⟨(some 7), none, .mov (.tmp 25)⟩,
    ⟨(some 8), none, .mov (.tmp 26)⟩]

def f5r5 : List AInstr := [
    ⟨(some 27), none, .mov (.tmp 6)⟩,
    ⟨(some 28), none, .ibin .neq (.tmp 27) (.const (.int .i64 0))⟩,
    ⟨(some 29), none, .mov (.tmp 28)⟩,
    ⟨(some 30), (some (29, false)), .mov (.tmp 5)⟩,
    ⟨(some 31), (some (29, false)), .len (.tmp 30)⟩,
    ⟨(some 32), (some (29, false)), .mov (.tmp 1)⟩,
    ⟨(some 33), (some (29, false)), .len (.tmp 32)⟩,
    ⟨(some 34), (some (29, false)), .ibin .neq (.tmp 31) (.tmp 33)⟩,
    ⟨(some 35), none, .pick (.tmp 29) (.const (.bool true)) (.tmp 34)⟩]

def f5r6 : List AInstr := [
    ⟨(some 36), none, .mov (.tmp 6)⟩,
    ⟨(some 37), none, .ibin .neq (.tmp 36) (.const (.int .i64 0))⟩,
    ⟨(some 38), none, .mov (.tmp 37)⟩,
    ⟨(some 39), (some (38, true)), .mov (.tmp 5)⟩,
    ⟨(some 40), (some (38, true)), .len (.tmp 39)⟩,
    ⟨(some 41), (some (38, true)), .ibin .eql (.tmp 40) (.const (.int .i64 0))⟩,
    ⟨(some 42), none, .pick (.tmp 38) (.tmp 41) (.const (.bool false))⟩,
    ⟨(some 4), none, .mov (.tmp 42)⟩]

def f5r7 : List AInstr := [
    ⟨(some 43), none, .mov (.tmp 5)⟩,
    ⟨(some 44), none, .len (.tmp 43)⟩,
    ⟨(some 45), none, .mov (.const (.int .i64 0))⟩]

def f5r8 : List AInstr := [
    ⟨(some 46), none, .ibin .lss (.tmp 45) (.tmp 44)⟩]

def f5r9 : List AInstr := [
    ⟨(some 47), none, .mov (.tmp 45)⟩,
    ⟨(some 48), none, .indexAddr 1 (.tmp 43) (.tmp 45)⟩,
    ⟨(some 49), none, .load none (.tmp 48)⟩,
    ⟨(some 10), none, .alloc [.int .i64 0]⟩,
    ⟨(some 9), none, .mov (.tmp 47)⟩,
    ⟨none, none, .store 1 (.tmp 10) (.tmp 49)⟩]

def f5r10 : List AInstr := [
    ⟨(some 50), none, .mov (.tmp 1)⟩,
    ⟨(some 51), none, .mov (.tmp 9)⟩,
    ⟨(some 52), none, .mov (.tmp 0)⟩,
    ⟨(some 53), none, .ibin .sub (.tmp 51) (.tmp 52)⟩,
    ⟨(some 54), none, .ibin .add (.tmp 53) (.const (.int .i64 1))⟩,
    ⟨(some 55), none, .minmax true [.tmp 54, .const (.int .i64 0)]⟩,
    ⟨(some 56), none, .mov (.tmp 9)⟩,
    ⟨(some 57), none, .ibin .add (.tmp 56) (.const (.int .i64 1))⟩,
    ⟨(some 58), none, .slice 1 (.tmp 50) (some (.tmp 55)) (some (.tmp 57)) none⟩,
    ⟨(some 11), none, .mov (.tmp 58)⟩]

def f5r11 : List AInstr := [
    ⟨(some 59), none, .mov (.tmp 11)⟩,
    ⟨(some 60), none, .func (.func 13) [] [.tmp 10]⟩,
    ⟨(some 61), none, .callF 12 [.tmp 59, .tmp 60]⟩,
    ⟨(some 62), none, .mov (.tmp 61)⟩,
    ⟨(some 63), (some (62, false)), .mov (.tmp 11)⟩,
    ⟨(some 64), (some (62, false)), .load none (.tmp 10)⟩,
    ⟨(some 65), (some (62, false)), .callF 14 [.tmp 63, .tmp 64]⟩,
    ⟨(some 66), (some (62, false)), .un .not (.tmp 65)⟩,
    ⟨(some 67), none, .pick (.tmp 62) (.const (.bool true)) (.tmp 66)⟩,
    ⟨(some 68), none, .mov (.tmp 67)⟩,
    ⟨(some 69), (some (68, false)), .mov (.tmp 8)⟩,
    ⟨(some 70), (some (68, false)), .ibin .eql (.tmp 69) (.const (.int .i64 0))⟩,
    ⟨(some 71), (some (68, false)), .mov (.tmp 70)⟩,
    ⟨(some 72), (some (71, true)), .mov (.tmp 9)⟩,
    ⟨(some 73), (some (71, true)), .mov (.tmp 7)⟩,
    ⟨(some 74), (some (71, true)), .len (.tmp 73)⟩,
    ⟨(some 75), (some (71, true)), .ibin .geq (.tmp 72) (.tmp 74)⟩,
    ⟨(some 76), (some (71, true)), .mov (.tmp 75)⟩,
    ⟨(some 77), (some (76, false)), .mov (.tmp 7)⟩,
    ⟨(some 78), (some (76, false)), .mov (.tmp 9)⟩,
    ⟨(some 79), (some (76, false)), .indexAddr 1 (.tmp 77) (.tmp 78)⟩,
    ⟨(some 80), (some (76, false)), .load none (.tmp 79)⟩,
    ⟨(some 81), (some (76, false)), .load none (.tmp 10)⟩,
    ⟨(some 82), (some (76, false)), .ibin .lss (.tmp 80) (.tmp 81)⟩,
    ⟨(some 83), (some (71, true)), .pick (.tmp 76) (.const (.bool true)) (.tmp 82)⟩,
    ⟨(some 84), (some (68, false)), .pick (.tmp 71) (.tmp 83) (.const (.bool false))⟩,
    ⟨(some 85), none, .pick (.tmp 68) (.const (.bool true)) (.tmp 84)⟩]

def f5r12 : List AInstr := [
    ⟨(some 4), none, .mov (.const (.bool false))⟩]

def f5r13 : List AInstr := [
    ⟨(some 86), none, .ibin .add (.tmp 45) (.const (.int .i64 1))⟩,
    ⟨(some 45), none, .mov (.tmp 86)⟩]

/-- live: [0, 1, 7, 8, 43, 44, 45] -/
def f5l0 : ACode := (.seq (.ops f5r8)
  (.keep [0, 1, 7, 8, 43, 44, 45, 46] (.seq (.cond (.tmp 46) .skip (.exit 0))
  (.keep [0, 1, 7, 8, 43, 44, 45] (.seq (.block 1 (.seq (.ops f5r9)
  (.keep [0, 1, 7, 8, 9, 10, 43, 44, 45] (.seq (.ops f5r10)
  (.keep [0, 1, 7, 8, 9, 10, 11, 43, 44, 45] (.seq (.draw f5r11 [(0, 0, false), (0, 0, false), (0, 1, true), (1, 1, false), (1, 1, false), (1, 1, false), (1, 2, true), (2, 2, false), (2, 2, false), (2, 2, false), (2, 2, false), (2, 2, false), (2, 2, false), (2, 2, false), (2, 2, false), (2, 2, false), (2, 2, false), (2, 2, false), (2, 2, false), (2, 2, false), (2, 2, false), (2, 2, false), (2, 2, false), (2, 2, false), (2, 2, false), (2, 2, false), (2, 2, false)])
  (.keep [0, 1, 7, 8, 43, 44, 45, 85] (.cond (.tmp 85) (.keep [] (.seq (.ops f5r12)
  (.keep [4] .ret))) .skip))))))))
  (.keep [0, 1, 7, 8, 43, 44, 45] (.ops f5r13)))))))

def f5r15 : List AInstr := [
    ⟨(some 4), none, .mov (.const (.bool true))⟩]

def f5b : ACode := (.seq (.ops f5r0)
  (.keep [0, 1] (.seq (.seq (.ops f5r1)
  (.keep [0, 1, 13] (.cond (.tmp 13) (.keep [] (.seq (.ops f5r2)
  (.keep [4] .ret))) .skip)))
  (.keep [0, 1] (.seq (.ops f5r3)
  (.keep [0, 1, 5, 6] (.seq (.ops f5r4)
  (.keep [0, 1, 5, 6, 7, 8] (.seq (.seq (.ops f5r5)
  (.keep [0, 1, 5, 6, 7, 8, 35] (.cond (.tmp 35) (.keep [5, 6] (.seq (.ops f5r6)
  (.keep [4] .ret))) .skip)))
  (.keep [0, 1, 5, 7, 8] (.seq (.seq (.ops f5r7)
  (.keep [0, 1, 7, 8, 43, 44, 45] (.block 0 (.loop f5l0))))
  (.keep [] (.seq (.ops f5r15)
  (.keep [4] .ret))))))))))))))

def f5 : AFn := ⟨87, [.tmp 4], f5b⟩

theorem f5_ok : compFn Try.prog 5 = some f5.strip := by kernel_rfl

/- function 6: weirhouse/weirhousekeep.SlideBetween; parameters 3; operations that are not compiled: 0 -/
def f6r0 : List AInstr := [
    ⟨(some 4), none, .box (.tmp 1)⟩,
    ⟨(some 6), none, .mov (.const (.bool false))⟩]

def f6r1 : List AInstr := [
    ⟨(some 15), none, .callF 7 []⟩,
    ⟨(some 16), none, .un .not (.tmp 15)⟩]

def f6r2 : List AInstr := [
    ⟨(some 6), none, .mov (.const (.bool false))⟩]

def f6r3 : List AInstr := [
    ⟨(some 18), none, .mov (.tmp 0)⟩,
    ⟨(some 19), none, .load none (.tmp 4)⟩,
    ⟨(some 20), none, .mov (.tmp 2)⟩,
    ⟨(some 21), none, .callF 11 [.tmp 18, .tmp 19, .tmp 20]⟩,
    ⟨(some 17), none, .mov (.tmp 21)⟩,
    ⟨(some 22), none, .extract 0 (.tmp 17)⟩,
    ⟨(some 23), none, .extract 1 (.tmp 17)⟩,
    ⟨(some 7), none, .mov (.tmp 22)⟩,
    ⟨(some 8), none, .mov (.tmp 23)⟩]

def f6r4 : List AInstr := [
    ⟨(some 24), none, .mov (.tmp 8)⟩,
    ⟨(some 25), none, .ibin .neq (.tmp 24) (.const (.int .i64 0))⟩,
    ⟨(some 26), none, .mov (.tmp 25)⟩,
    ⟨(some 27), (some (26, false)), .mov (.tmp 7)⟩,
    ⟨(some 28), (some (26, false)), .len (.tmp 27)⟩,
    ⟨(some 29), (some (26, false)), .mov (.tmp 2)⟩,
    ⟨(some 30), (some (26, false)), .len (.tmp 29)⟩,
    ⟨(some 31), (some (26, false)), .ibin .neq (.tmp 28) (.tmp 30)⟩,
    ⟨(some 32), none, .pick (.tmp 26) (.const (.bool true)) (.tmp 31)⟩]

def f6r5 : List AInstr := [
    ⟨(some 33), none, .mov (.tmp 8)⟩,
    ⟨(some 34), none, .ibin .neq (.tmp 33) (.const (.int .i64 0))⟩,
    ⟨(some 35), none, .mov (.tmp 34)⟩,
    ⟨(some 36), (some (35, true)), .mov (.tmp 7)⟩,
    ⟨(some 37), (some (35, true)), .len (.tmp 36)⟩,
    ⟨(some 38), (some (35, true)), .ibin .eql (.tmp 37) (.const (.int .i64 0))⟩,
    ⟨(some 39), none, .pick (.tmp 35) (.tmp 38) (.const (.bool false))⟩,
    ⟨(some 6), none, .mov (.tmp 39)⟩]

def f6r6 : List AInstr := [
    ⟨(some 40), none, .load none (.tmp 4)⟩,
    ⟨(some 41), none, .load none (.tmp 4)⟩,
    ⟨(some 9), none, .mov (.tmp 40)⟩,
    ⟨(some 10), none, .mov (.tmp 41)⟩]

def f6r7 : List AInstr := [
    ⟨(some 42), none, .mov (.tmp 2)⟩,
    ⟨(some 43), none, .len (.tmp 42)⟩,
    ⟨(some 44), none, .mov (.const (.int .i64 0))⟩]

def f6r8 : List AInstr := [
    ⟨(some 45), none, .ibin .lss (.tmp 44) (.tmp 43)⟩]

def f6r9 : List AInstr := [
    ⟨(some 46), none, .mov (.tmp 44)⟩,
    ⟨(some 47), none, .indexAddr 1 (.tmp 42) (.tmp 44)⟩,
    ⟨(some 48), none, .load none (.tmp 47)⟩,
    ⟨(some 11), none, .mov (.tmp 46)⟩,
    ⟨(some 12), none, .mov (.tmp 48)⟩]

def f6r10 : List AInstr := [
    ⟨(some 49), none, .mov (.tmp 9)⟩,
    ⟨(some 50), none, .mov (.tmp 12)⟩,
    ⟨(some 51), none, .minmax false [.tmp 49, .tmp 50]⟩,
    ⟨(some 52), none, .mov (.tmp 10)⟩,
    ⟨(some 53), none, .mov (.tmp 12)⟩,
    ⟨(some 54), none, .minmax true [.tmp 52, .tmp 53]⟩,
    ⟨(some 9), none, .mov (.tmp 51)⟩,
    ⟨(some 10), none, .mov (.tmp 54)⟩]

def f6r11 : List AInstr := [
    ⟨(some 55), none, .mov (.tmp 7)⟩,
    ⟨(some 56), none, .mov (.tmp 11)⟩,
    ⟨(some 57), none, .indexAddr 1 (.tmp 55) (.tmp 56)⟩,
    ⟨(some 58), none, .load none (.tmp 57)⟩,
    ⟨(some 59), none, .mov (.tmp 10)⟩,
    ⟨(some 60), none, .ibin .gtr (.tmp 58) (.tmp 59)⟩,
    ⟨(some 61), none, .mov (.tmp 60)⟩,
    ⟨(some 62), (some (61, false)), .mov (.tmp 7)⟩,
    ⟨(some 63), (some (61, false)), .mov (.tmp 11)⟩,
    ⟨(some 64), (some (61, false)), .indexAddr 1 (.tmp 62) (.tmp 63)⟩,
    ⟨(some 65), (some (61, false)), .load none (.tmp 64)⟩,
    ⟨(some 66), (some (61, false)), .mov (.tmp 9)⟩,
    ⟨(some 67), (some (61, false)), .ibin .lss (.tmp 65) (.tmp 66)⟩,
    ⟨(some 68), none, .pick (.tmp 61) (.const (.bool true)) (.tmp 67)⟩]

def f6r12 : List AInstr := [
    ⟨(some 6), none, .mov (.const (.bool false))⟩]

def f6r13 : List AInstr := [
    ⟨(some 69), none, .ibin .add (.tmp 44) (.const (.int .i64 1))⟩,
    ⟨(some 44), none, .mov (.tmp 69)⟩]

/-- live: [0, 2, 4, 7, 9, 10, 42, 43, 44] -/
def f6l0 : ACode := (.seq (.ops f6r8)
  (.keep [0, 2, 4, 7, 9, 10, 42, 43, 44, 45] (.seq (.cond (.tmp 45) .skip (.exit 0))
  (.keep [0, 2, 4, 7, 9, 10, 42, 43, 44] (.seq (.block 1 (.seq (.ops f6r9)
  (.keep [0, 2, 4, 7, 9, 10, 11, 12, 42, 43, 44] (.seq (.ops f6r10)
  (.keep [0, 2, 4, 7, 9, 10, 11, 42, 43, 44] (.seq (.ops f6r11)
  (.keep [0, 2, 4, 7, 9, 10, 42, 43, 44, 68] (.cond (.tmp 68) (.keep [] (.seq (.ops f6r12)
  (.keep [6] .ret))) .skip))))))))
  (.keep [0, 2, 4, 7, 9, 10, 42, 43, 44] (.ops f6r13)))))))

def f6r15 : List AInstr := [
    ⟨(some 71), none, .mov (.tmp 0)⟩,
    ⟨(some 72), none, .load none (.tmp 4)⟩,
    ⟨(some 73), none, .load none (.tmp 4)⟩,
    ⟨(some 74), none, .buildSlice 1 1 [.int .i64 0] [(0, 1, (.tmp 73))]⟩,
    ⟨(some 75), none, .mov (.tmp 2)⟩,
    ⟨(some 76), none, .len (.tmp 75)⟩,
    ⟨(some 77), none, .callF 15 [.tmp 74, .tmp 76]⟩,
    ⟨(some 78), none, .callF 11 [.tmp 71, .tmp 72, .tmp 77]⟩,
    ⟨(some 70), none, .mov (.tmp 78)⟩,
    ⟨(some 79), none, .extract 0 (.tmp 70)⟩,
    ⟨(some 80), none, .extract 1 (.tmp 70)⟩,
    ⟨(some 13), none, .mov (.tmp 79)⟩,
    ⟨(some 14), none, .mov (.tmp 80)⟩]

def f6r16 : List AInstr := [
    ⟨(some 81), none, .mov (.tmp 14)⟩,
    ⟨(some 82), none, .ibin .eql (.tmp 81) (.const (.int .i64 0))⟩,
    ⟨(some 83), none, .mov (.tmp 82)⟩,
    ⟨(some 84), (some (83, true)), .mov (.tmp 13)⟩,
    ⟨(some 85), (some (83, true)), .func (.func 16) [] [.tmp 4]⟩,
    ⟨(some 86), (some (83, true)), .callF 12 [.tmp 84, .tmp 85]⟩,
    ⟨(some 87), (some (83, true)), .un .not (.tmp 86)⟩,
    ⟨(some 88), none, .pick (.tmp 83) (.tmp 87) (.const (.bool false))⟩,
    ⟨(some 6), none, .mov (.tmp 88)⟩]

def f6b : ACode := (.seq (.ops f6r0)
  (.keep [0, 2, 4] (.seq (.seq (.ops f6r1)
  (.keep [0, 2, 4, 16] (.cond (.tmp 16) (.keep [] (.seq (.ops f6r2)
  (.keep [6] .ret))) .skip)))
  (.keep [0, 2, 4] (.seq (.ops f6r3)
  (.keep [0, 2, 4, 7, 8] (.seq (.seq (.ops f6r4)
  (.keep [0, 2, 4, 7, 8, 32] (.cond (.tmp 32) (.keep [7, 8] (.seq (.ops f6r5)
  (.keep [6] .ret))) .skip)))
  (.keep [0, 2, 4, 7] (.seq (.draw f6r6 [(0, 0, false), (0, 0, false), (0, 0, false), (0, 0, false)])
  (.keep [0, 2, 4, 7, 9, 10] (.seq (.seq (.ops f6r7)
  (.keep [0, 2, 4, 7, 9, 10, 42, 43, 44] (.block 0 (.loop f6l0))))
  (.keep [0, 2, 4] (.seq (.draw f6r15 [(0, 2, false), (0, 2, false), (0, 0, false), (0, 1, true), (0, 1, false), (0, 1, false), (1, 2, true), (2, 3, true), (3, 3, false), (3, 3, false), (3, 3, false), (3, 3, false), (3, 3, false)])
  (.keep [4, 13, 14] (.seq (.ops f6r16)
  (.keep [6] .ret))))))))))))))))

def f6 : AFn := ⟨89, [.tmp 6], f6b⟩

theorem f6_ok : compFn Try.prog 6 = some f6.strip := by kernel_rfl

/- function 7: weirhouse/weirhousekeep.alive21; parameters 0; operations that are not compiled: 0 -/
def f7r0 : List AInstr := [
    ⟨(some 0), none, .mov (.const (.bool false))⟩]

def f7r1 : List AInstr := [
    ⟨(some 8), none, .buildSlice 1 5 [.int .i64 0, .int .i64 0, .int .i64 0, .int .i64 0, .int .i64 0] [(0, 1, (.const (.int .i64 3))), (1, 1, (.const (.int .i64 1))), (2, 1, (.const (.int .i64 2))), (3, 1, (.const (.int .i64 0))), (4, 1, (.const (.int .i64 (-5))))]⟩,
    ⟨(some 9), none, .callF 9 [.const (.int .i64 2), .tmp 8]⟩,
    ⟨(some 7), none, .mov (.tmp 9)⟩,
    ⟨(some 10), none, .extract 0 (.tmp 7)⟩,
    ⟨(some 11), none, .extract 1 (.tmp 7)⟩,
    ⟨(some 1), none, .mov (.tmp 10)⟩,
    ⟨(some 2), none, .mov (.tmp 11)⟩]

def f7r2 : List AInstr := [
    ⟨(some 13), none, .buildSlice 1 4 [.int .i64 0, .int .i64 0, .int .i64 0, .int .i64 0] [(0, 1, (.const (.int .i64 3))), (1, 1, (.const (.int .i64 1))), (2, 1, (.const (.int .i64 2))), (3, 1, (.const (.int .i64 0)))]⟩,
    ⟨(some 14), none, .callF 8 [.const (.int .i64 3), .tmp 13]⟩,
    ⟨(some 12), none, .mov (.tmp 14)⟩,
    ⟨(some 15), none, .extract 0 (.tmp 12)⟩,
    ⟨(some 16), none, .extract 1 (.tmp 12)⟩,
    ⟨(some 3), none, .mov (.tmp 15)⟩,
    ⟨(some 4), none, .mov (.tmp 16)⟩]

def f7r3 : List AInstr := [
    ⟨(some 18), none, .buildSlice 1 3 [.int .i64 0, .int .i64 0, .int .i64 0] [(0, 1, (.const (.int .i64 10))), (1, 1, (.const (.int .i64 10))), (2, 1, (.const (.int .i64 10)))]⟩,
    ⟨(some 19), none, .callF 11 [.const (.int .i64 1), .const (.int .i64 0), .tmp 18]⟩,
    ⟨(some 17), none, .mov (.tmp 19)⟩,
    ⟨(some 20), none, .extract 0 (.tmp 17)⟩,
    ⟨(some 21), none, .extract 1 (.tmp 17)⟩,
    ⟨(some 5), none, .mov (.tmp 20)⟩,
    ⟨(some 6), none, .mov (.tmp 21)⟩]

def f7r4 : List AInstr := [
    ⟨(some 22), none, .mov (.tmp 2)⟩,
    ⟨(some 23), none, .ibin .eql (.tmp 22) (.const (.int .i64 0))⟩,
    ⟨(some 24), none, .mov (.tmp 23)⟩,
    ⟨(some 25), (some (24, true)), .mov (.tmp 4)⟩,
    ⟨(some 26), (some (24, true)), .ibin .eql (.tmp 25) (.const (.int .i64 0))⟩,
    ⟨(some 27), none, .pick (.tmp 24) (.tmp 26) (.const (.bool false))⟩,
    ⟨(some 28), none, .mov (.tmp 27)⟩,
    ⟨(some 29), (some (28, true)), .mov (.tmp 6)⟩,
    ⟨(some 30), (some (28, true)), .ibin .eql (.tmp 29) (.const (.int .i64 0))⟩,
    ⟨(some 31), none, .pick (.tmp 28) (.tmp 30) (.const (.bool false))⟩,
    ⟨(some 32), none, .mov (.tmp 31)⟩,
    ⟨(some 33), (some (32, true)), .mov (.tmp 1)⟩,
    ⟨(some 34), (some (32, true)), .buildSlice 1 5 [.int .i64 0, .int .i64 0, .int .i64 0, .int .i64 0, .int .i64 0] [(0, 1, (.const (.int .i64 3))), (1, 1, (.const (.int .i64 3))), (2, 1, (.const (.int .i64 2))), (3, 1, (.const (.int .i64 2))), (4, 1, (.const (.int .i64 0)))]⟩,
    ⟨(some 35), (some (32, true)), .callF 17 [.tmp 33, .tmp 34]⟩,
    ⟨(some 36), none, .pick (.tmp 32) (.tmp 35) (.const (.bool false))⟩,
    ⟨(some 37), none, .mov (.tmp 36)⟩,
    ⟨(some 38), (some (37, true)), .mov (.tmp 3)⟩,
    ⟨(some 39), (some (37, true)), .buildSlice 1 4 [.int .i64 0, .int .i64 0, .int .i64 0, .int .i64 0] [(0, 1, (.const (.int .i64 3))), (1, 1, (.const (.int .i64 4))), (2, 1, (.const (.int .i64 6))), (3, 1, (.const (.int .i64 3)))]⟩,
    ⟨(some 40), (some (37, true)), .callF 17 [.tmp 38, .tmp 39]⟩,
    ⟨(some 41), none, .pick (.tmp 37) (.tmp 40) (.const (.bool false))⟩,
    ⟨(some 42), none, .mov (.tmp 41)⟩,
    ⟨(some 43), (some (42, true)), .mov (.tmp 5)⟩,
    ⟨(some 44), (some (42, true)), .buildSlice 1 3 [.int .i64 0, .int .i64 0, .int .i64 0] [(0, 1, (.const (.int .i64 5))), (1, 1, (.const (.int .i64 7))), (2, 1, (.const (.int .i64 9)))]⟩,
    ⟨(some 45), (some (42, true)), .callF 17 [.tmp 43, .tmp 44]⟩,
    ⟨(some 46), none, .pick (.tmp 42) (.tmp 45) (.const (.bool false))⟩,
    ⟨(some 0), none, .mov (.tmp 46)⟩]

def f7b : ACode := (.seq (.ops f7r0)
  (.keep [] (.seq (.ops f7r1)
  (.keep [1, 2] (.seq (.ops f7r2)
  (.keep [1, 2, 3, 4] (.seq (.ops f7r3)
  (.keep [1, 2, 3, 4, 5, 6] (.seq (.ops f7r4)
  (.keep [0] .ret))))))))))

def f7 : AFn := ⟨47, [.tmp 0], f7b⟩

theorem f7_ok : compFn Try.prog 7 = some f7.strip := by kernel_rfl

/- function 8: weirhouse/slide.Sum; parameters 2; operations that are not compiled: 0 -/
def f8r0 : List AInstr := [
    ⟨(some 4), none, .mov (.const (.slice none 0 0))⟩,
    ⟨(some 5), none, .mov (.const (.int .i64 0))⟩]

def f8r1 : List AInstr := [
    ⟨(some 10), none, .mov (.tmp 0)⟩,
    ⟨(some 11), none, .mov (.tmp 1)⟩,
    ⟨(some 12), none, .callF 18 [.tmp 10, .tmp 11]⟩]

def f8r2 : List AInstr := [
    ⟨(some 4), none, .mov (.const (.slice none 0 0))⟩,
    ⟨(some 5), none, .mov (.const (.int .i64 2))⟩]

def f8r3 : List AInstr := [
    ⟨(some 6), none, .mov (.const (.int .i64 0))⟩]

def f8r4 : List AInstr := [
    ⟨(some 7), none, .mov (.const (.slice none 0 0))⟩]

def f8r5 : List AInstr := [
    ⟨(some 13), none, .mov (.tmp 1)⟩,
    ⟨(some 14), none, .len (.tmp 13)⟩,
    ⟨(some 15), none, .mov (.const (.int .i64 0))⟩]

def f8r6 : List AInstr := [
    ⟨(some 16), none, .ibin .lss (.tmp 15) (.tmp 14)⟩]

def f8r7 : List AInstr := [
    ⟨(some 17), none, .mov (.tmp 15)⟩,
    ⟨(some 18), none, .indexAddr 1 (.tmp 13) (.tmp 15)⟩,
    ⟨(some 19), none, .load none (.tmp 18)⟩,
    ⟨(some 8), none, .mov (.tmp 17)⟩,
    ⟨(some 9), none, .mov (.tmp 19)⟩]

def f8r8 : List AInstr := [
    ⟨(some 20), none, .mov (.tmp 6)⟩,
    ⟨(some 21), none, .mov (.tmp 9)⟩,
    ⟨(some 22), none, .ibin .add (.tmp 20) (.tmp 21)⟩,
    ⟨(some 6), none, .mov (.tmp 22)⟩]

def f8r9 : List AInstr := [
    ⟨(some 23), none, .mov (.tmp 8)⟩,
    ⟨(some 24), none, .mov (.tmp 0)⟩,
    ⟨(some 25), none, .ibin .geq (.tmp 23) (.tmp 24)⟩]

def f8r10 : List AInstr := [
    ⟨(some 26), none, .mov (.tmp 6)⟩,
    ⟨(some 27), none, .mov (.tmp 1)⟩,
    ⟨(some 28), none, .mov (.tmp 8)⟩,
    ⟨(some 29), none, .mov (.tmp 0)⟩,
    ⟨(some 30), none, .ibin .sub (.tmp 28) (.tmp 29)⟩,
    ⟨(some 31), none, .indexAddr 1 (.tmp 27) (.tmp 30)⟩,
    ⟨(some 32), none, .load none (.tmp 31)⟩,
    ⟨(some 33), none, .ibin .sub (.tmp 26) (.tmp 32)⟩,
    ⟨(some 6), none, .mov (.tmp 33)⟩]

def f8r11 : List AInstr := [
    ⟨(some 34), none, .mov (.tmp 7)⟩,
    ⟨(some 35), none, .mov (.tmp 6)⟩,
    ⟨(some 36), none, .buildSlice 1 1 [.int .i64 0] [(0, 1, (.tmp 35))]⟩,
    ⟨(some 37), none, .append 1 8 (.tmp 34) (.tmp 36)⟩,
    ⟨(some 7), none, .mov (.tmp 37)⟩]

def f8r12 : List AInstr := [
    ⟨(some 38), none, .ibin .add (.tmp 15) (.const (.int .i64 1))⟩,
    ⟨(some 15), none, .mov (.tmp 38)⟩]

/-- live: [0, 1, 6, 7, 13, 14, 15] -/
def f8l0 : ACode := (.seq (.ops f8r6)
  (.keep [0, 1, 6, 7, 13, 14, 15, 16] (.seq (.cond (.tmp 16) .skip (.exit 0))
  (.keep [0, 1, 6, 7, 13, 14, 15] (.seq (.block 1 (.seq (.ops f8r7)
  (.keep [0, 1, 6, 7, 8, 9, 13, 14, 15] (.seq (.ops f8r8)
  (.keep [0, 1, 6, 7, 8, 13, 14, 15] (.seq (.seq (.ops f8r9)
  (.keep [0, 1, 6, 7, 8, 13, 14, 15, 25] (.cond (.tmp 25) (.keep [0, 1, 6, 7, 8, 13, 14, 15] (.ops f8r10)) .skip)))
  (.keep [0, 1, 6, 7, 13, 14, 15] (.ops f8r11))))))))
  (.keep [0, 1, 6, 7, 13, 14, 15] (.ops f8r12)))))))

def f8r14 : List AInstr := [
    ⟨(some 39), none, .mov (.tmp 7)⟩,
    ⟨(some 4), none, .mov (.tmp 39)⟩,
    ⟨(some 5), none, .mov (.const (.int .i64 0))⟩]

def f8b : ACode := (.seq (.ops f8r0)
  (.keep [0, 1] (.seq (.seq (.ops f8r1)
  (.keep [0, 1, 12] (.cond (.tmp 12) (.keep [] (.seq (.ops f8r2)
  (.keep [4, 5] .ret))) .skip)))
  (.keep [0, 1] (.seq (.ops f8r3)
  (.keep [0, 1, 6] (.seq (.ops f8r4)
  (.keep [0, 1, 6, 7] (.seq (.seq (.ops f8r5)
  (.keep [0, 1, 6, 7, 13, 14, 15] (.block 0 (.loop f8l0))))
  (.keep [7] (.seq (.ops f8r14)
  (.keep [4, 5] .ret))))))))))))

def f8 : AFn := ⟨40, [.tmp 4, .tmp 5], f8b⟩

theorem f8_ok : compFn Try.prog 8 = some f8.strip := by kernel_rfl

/- function 9: weirhouse/slide.Most; parameters 2; operations that are not compiled: 0 -/
def f9r0 : List AInstr := [
    ⟨(some 4), none, .mov (.const (.slice none 0 0))⟩,
    ⟨(some 5), none, .mov (.const (.int .i64 0))⟩]

def f9r1 : List AInstr := [
    ⟨(some 10), none, .mov (.tmp 0)⟩,
    ⟨(some 11), none, .mov (.tmp 1)⟩,
    ⟨(some 12), none, .callF 18 [.tmp 10, .tmp 11]⟩]

def f9r2 : List AInstr := [
    ⟨(some 4), none, .mov (.const (.slice none 0 0))⟩,
    ⟨(some 5), none, .mov (.const (.int .i64 2))⟩]

def f9r3 : List AInstr := [
    ⟨(some 6), none, .mov (.const (.slice none 0 0))⟩]

def f9r4 : List AInstr := [
    ⟨(some 7), none, .mov (.const (.slice none 0 0))⟩]

def f9r5 : List AInstr := [
    ⟨(some 13), none, .mov (.tmp 1)⟩,
    ⟨(some 14), none, .len (.tmp 13)⟩,
    ⟨(some 15), none, .mov (.const (.int .i64 0))⟩]

def f9r6 : List AInstr := [
    ⟨(some 16), none, .ibin .lss (.tmp 15) (.tmp 14)⟩]

def f9r7 : List AInstr := [
    ⟨(some 17), none, .mov (.tmp 15)⟩,
    ⟨(some 18), none, .indexAddr 1 (.tmp 13) (.tmp 15)⟩,
    ⟨(some 19), none, .load none (.tmp 18)⟩,
    ⟨(some 8), none, .mov (.tmp 17)⟩,
    ⟨(some 9), none, .mov (.tmp 19)⟩]

def f9r8 : List AInstr := [
    ⟨(some 20), none, .mov (.tmp 6)⟩,
    ⟨(some 21), none, .len (.tmp 20)⟩,
    ⟨(some 22), none, .ibin .gtr (.tmp 21) (.const (.int .i64 0))⟩,
    ⟨(some 23), none, .mov (.tmp 22)⟩,
    ⟨(some 24), (some (23, true)), .mov (.tmp 6)⟩,
    ⟨(some 25), (some (23, true)), .mov (.tmp 6)⟩,
    ⟨(some 26), (some (23, true)), .len (.tmp 25)⟩,
    ⟨(some 27), (some (23, true)), .ibin .sub (.tmp 26) (.const (.int .i64 1))⟩,
    ⟨(some 28), (some (23, true)), .indexAddr 2 (.tmp 24) (.tmp 27)⟩,
    ⟨(some 29), (some (23, true)), .fieldAddr 1 (.tmp 28)⟩,
    ⟨(some 30), (some (23, true)), .load none (.tmp 29)⟩,
    ⟨(some 31), (some (23, true)), .mov (.tmp 9)⟩,
    ⟨(some 32), (some (23, true)), .ibin .leq (.tmp 30) (.tmp 31)⟩,
    ⟨(some 33), none, .pick (.tmp 23) (.tmp 32) (.const (.bool false))⟩]

def f9r9 : List AInstr := [
    ⟨(some 34), none, .mov (.tmp 6)⟩,
    ⟨(some 35), none, .mov (.tmp 6)⟩,
    ⟨(some 36), none, .len (.tmp 35)⟩,
    ⟨(some 37), none, .ibin .sub (.tmp 36) (.const (.int .i64 1))⟩,
    ⟨(some 38), none, .slice 2 (.tmp 34) none (some (.tmp 37)) none⟩,
    ⟨(some 6), none, .mov (.tmp 38)⟩]

/-- live: [0, 6, 7, 8, 9, 13, 14, 15] -/
def f9l0 : ACode := (.seq (.seq (.ops f9r8)
  (.keep [0, 6, 7, 8, 9, 13, 14, 15, 33] (.cond (.tmp 33) .skip (.exit 2))))
  (.keep [0, 6, 7, 8, 9, 13, 14, 15] (.block 3 (.ops f9r9))))

def f9r11 : List AInstr := [
    ⟨(some 39), none, .mov (.tmp 6)⟩,
    ⟨(some 40), none, .mov (.tmp 8)⟩,
    ⟨(some 41), none, .mov (.tmp 9)⟩,
    ⟨(some 42), none, .build [.int .i64 0, .int .i64 0] [(0, 1, (.tmp 40)), (1, 1, (.tmp 41))]⟩,
    ⟨(some 43), none, .buildSlice 2 1 [.int .i64 0, .int .i64 0] [(0, 2, (.tmp 42))]⟩,
    ⟨(some 44), none, .append 2 16 (.tmp 39) (.tmp 43)⟩,
    ⟨(some 6), none, .mov (.tmp 44)⟩]

def f9r12 : List AInstr := [
    ⟨(some 45), none, .mov (.tmp 6)⟩,
    ⟨(some 46), none, .indexAddr 2 (.tmp 45) (.const (.int .i64 0))⟩,
    ⟨(some 47), none, .fieldAddr 0 (.tmp 46)⟩,
    ⟨(some 48), none, .load none (.tmp 47)⟩,
    ⟨(some 49), none, .mov (.tmp 8)⟩,
    ⟨(some 50), none, .mov (.tmp 0)⟩,
    ⟨(some 51), none, .ibin .sub (.tmp 49) (.tmp 50)⟩,
    ⟨(some 52), none, .ibin .leq (.tmp 48) (.tmp 51)⟩]

def f9r13 : List AInstr := [
    ⟨(some 53), none, .mov (.tmp 6)⟩,
    ⟨(some 54), none, .slice 2 (.tmp 53) (some (.const (.int .i64 1))) none none⟩,
    ⟨(some 6), none, .mov (.tmp 54)⟩]

def f9r14 : List AInstr := [
    ⟨(some 55), none, .mov (.tmp 7)⟩,
    ⟨(some 56), none, .mov (.tmp 6)⟩,
    ⟨(some 57), none, .indexAddr 2 (.tmp 56) (.const (.int .i64 0))⟩,
    ⟨(some 58), none, .fieldAddr 1 (.tmp 57)⟩,
    ⟨(some 59), none, .load none (.tmp 58)⟩,
    ⟨(some 60), none, .buildSlice 1 1 [.int .i64 0] [(0, 1, (.tmp 59))]⟩,
    ⟨(some 61), none, .append 1 8 (.tmp 55) (.tmp 60)⟩,
    ⟨(some 7), none, .mov (.tmp 61)⟩]

def f9r15 : List AInstr := [
    ⟨(some 62), none, .ibin .add (.tmp 15) (.const (.int .i64 1))⟩,
    ⟨(some 15), none, .mov (.tmp 62)⟩]

/-- live: [0, 6, 7, 13, 14, 15] -/
def f9l1 : ACode := (.seq (.ops f9r6)
  (.keep [0, 6, 7, 13, 14, 15, 16] (.seq (.cond (.tmp 16) .skip (.exit 0))
  (.keep [0, 6, 7, 13, 14, 15] (.seq (.block 1 (.seq (.ops f9r7)
  (.keep [0, 6, 7, 8, 9, 13, 14, 15] (.seq (.block 2 (.loop f9l0))
  (.keep [0, 6, 7, 8, 9, 13, 14, 15] (.seq (.ops f9r11)
  (.keep [0, 6, 7, 8, 13, 14, 15] (.seq (.seq (.ops f9r12)
  (.keep [0, 6, 7, 13, 14, 15, 52] (.cond (.tmp 52) (.keep [0, 6, 7, 13, 14, 15] (.ops f9r13)) .skip)))
  (.keep [0, 6, 7, 13, 14, 15] (.ops f9r14))))))))))
  (.keep [0, 6, 7, 13, 14, 15] (.ops f9r15)))))))

def f9r17 : List AInstr := [
    ⟨(some 63), none, .mov (.tmp 7)⟩,
    ⟨(some 4), none, .mov (.tmp 63)⟩,
    ⟨(some 5), none, .mov (.const (.int .i64 0))⟩]

def f9b : ACode := (.seq (.ops f9r0)
  (.keep [0, 1] (.seq (.seq (.ops f9r1)
  (.keep [0, 1, 12] (.cond (.tmp 12) (.keep [] (.seq (.ops f9r2)
  (.keep [4, 5] .ret))) .skip)))
  (.keep [0, 1] (.seq (.ops f9r3)
  (.keep [0, 1, 6] (.seq (.ops f9r4)
  (.keep [0, 1, 6, 7] (.seq (.seq (.ops f9r5)
  (.keep [0, 6, 7, 13, 14, 15] (.block 0 (.loop f9l1))))
  (.keep [7] (.seq (.ops f9r17)
  (.keep [4, 5] .ret))))))))))))

def f9 : AFn := ⟨64, [.tmp 4, .tmp 5], f9b⟩

theorem f9_ok : compFn Try.prog 9 = some f9.strip := by kernel_rfl

/- function 10: slices.Clone[[]int,int]; parameters 1; operations that are not compiled: 0 -/
def f10r0 : List AInstr := [
    ⟨(some 2), none, .mov (.const (.slice none 0 0))⟩]

def f10r1 : List AInstr := [
    ⟨(some 3), none, .mov (.tmp 0)⟩,
    ⟨(some 4), none, .eqS false (.tmp 3) (.const (.slice none 0 0))⟩]

def f10r2 : List AInstr := [
    ⟨(some 2), none, .mov (.const (.slice none 0 0))⟩]

def f10r3 : List AInstr := [
    ⟨(some 5), none, .buildSlice 1 0 [] []⟩,
    ⟨(some 6), none, .mov (.tmp 0)⟩,
    ⟨(some 7), none, .append 1 8 (.tmp 5) (.tmp 6)⟩,
    ⟨(some 2), none, .mov (.tmp 7)⟩]

def f10b : ACode := (.seq (.ops f10r0)
  (.keep [0] (.seq (.seq (.ops f10r1)
  (.keep [0, 4] (.cond (.tmp 4) (.keep [] (.seq (.ops f10r2)
  (.keep [2] .ret))) .skip)))
  (.keep [0] (.seq (.ops f10r3)
  (.keep [2] .ret))))))

def f10 : AFn := ⟨8, [.tmp 2], f10b⟩

theorem f10_ok : compFn Try.prog 10 = some f10.strip := by kernel_rfl

/- function 11: weirhouse/slide.Smooth; parameters 3; operations that are not compiled: 0 -/
def f11r0 : List AInstr := [
    ⟨(some 6), none, .mov (.const (.slice none 0 0))⟩,
    ⟨(some 7), none, .mov (.const (.int .i64 0))⟩]

def f11r1 : List AInstr := [
    ⟨(some 12), none, .mov (.tmp 0)⟩,
    ⟨(some 13), none, .ibin .lss (.tmp 12) (.const (.int .i64 0))⟩,
    ⟨(some 14), none, .mov (.tmp 13)⟩,
    ⟨(some 15), (some (14, false)), .mov (.tmp 0)⟩,
    ⟨(some 16), (some (14, false)), .ibin .gtr (.tmp 15) (.const (.int .i64 10))⟩,
    ⟨(some 17), none, .pick (.tmp 14) (.const (.bool true)) (.tmp 16)⟩,
    ⟨(some 18), none, .mov (.tmp 17)⟩,
    ⟨(some 19), (some (18, false)), .mov (.tmp 2)⟩,
    ⟨(some 20), (some (18, false)), .callF 18 [.const (.int .i64 1), .tmp 19]⟩,
    ⟨(some 21), none, .pick (.tmp 18) (.const (.bool true)) (.tmp 20)⟩,
    ⟨(some 22), none, .mov (.tmp 21)⟩,
    ⟨(some 23), (some (22, false)), .mov (.tmp 1)⟩,
    ⟨(some 24), (some (22, false)), .ibin .lss (.tmp 23) (.const (.int .i64 (-1073741824)))⟩,
    ⟨(some 25), none, .pick (.tmp 22) (.const (.bool true)) (.tmp 24)⟩,
    ⟨(some 26), none, .mov (.tmp 25)⟩,
    ⟨(some 27), (some (26, false)), .mov (.tmp 1)⟩,
    ⟨(some 28), (some (26, false)), .ibin .gtr (.tmp 27) (.const (.int .i64 1073741824))⟩,
    ⟨(some 29), none, .pick (.tmp 26) (.const (.bool true)) (.tmp 28)⟩]

def f11r2 : List AInstr := [
    ⟨(some 6), none, .mov (.const (.slice none 0 0))⟩,
    ⟨(some 7), none, .mov (.const (.int .i64 2))⟩]

def f11r3 : List AInstr := [
    ⟨(some 30), none, .mov (.tmp 1)⟩,
    ⟨(some 31), none, .mov (.tmp 0)⟩,
    ⟨(some 32), none, .ibin .shl (.tmp 30) (.tmp 31)⟩,
    ⟨(some 8), none, .mov (.tmp 32)⟩]

def f11r4 : List AInstr := [
    ⟨(some 9), none, .mov (.const (.slice none 0 0))⟩]

def f11r5 : List AInstr := [
    ⟨(some 33), none, .mov (.tmp 2)⟩,
    ⟨(some 34), none, .len (.tmp 33)⟩,
    ⟨(some 35), none, .mov (.const (.int .i64 0))⟩]

def f11r6 : List AInstr := [
    ⟨(some 36), none, .ibin .lss (.tmp 35) (.tmp 34)⟩]

def f11r7 : List AInstr := [
    ⟨(some 37), none, .indexAddr 1 (.tmp 33) (.tmp 35)⟩,
    ⟨(some 38), none, .load none (.tmp 37)⟩,
    ⟨(some 11), none, .mov (.tmp 38)⟩]

def f11r8 : List AInstr := [
    ⟨(some 39), none, .mov (.tmp 8)⟩,
    ⟨(some 40), none, .mov (.tmp 11)⟩,
    ⟨(some 41), none, .mov (.tmp 8)⟩,
    ⟨(some 42), none, .mov (.tmp 0)⟩,
    ⟨(some 43), none, .ibin .shr (.tmp 41) (.tmp 42)⟩,
    ⟨(some 44), none, .ibin .sub (.tmp 40) (.tmp 43)⟩,
    ⟨(some 45), none, .ibin .add (.tmp 39) (.tmp 44)⟩,
    ⟨(some 8), none, .mov (.tmp 45)⟩]

def f11r9 : List AInstr := [
    ⟨(some 46), none, .mov (.tmp 9)⟩,
    ⟨(some 47), none, .mov (.tmp 8)⟩,
    ⟨(some 48), none, .mov (.tmp 0)⟩,
    ⟨(some 49), none, .ibin .shr (.tmp 47) (.tmp 48)⟩,
    ⟨(some 50), none, .buildSlice 1 1 [.int .i64 0] [(0, 1, (.tmp 49))]⟩,
    ⟨(some 51), none, .append 1 8 (.tmp 46) (.tmp 50)⟩,
    ⟨(some 9), none, .mov (.tmp 51)⟩]

def f11r10 : List AInstr := [
    ⟨(some 52), none, .ibin .add (.tmp 35) (.const (.int .i64 1))⟩,
    ⟨(some 35), none, .mov (.tmp 52)⟩]

/-- live: [0, 8, 9, 33, 34, 35] -/
def f11l0 : ACode := (.seq (.ops f11r6)
  (.keep [0, 8, 9, 33, 34, 35, 36] (.seq (.cond (.tmp 36) .skip (.exit 0))
  (.keep [0, 8, 9, 33, 34, 35] (.seq (.block 1 (.seq (.ops f11r7)
  (.keep [0, 8, 9, 11, 33, 34, 35] (.seq (.ops f11r8)
  (.keep [0, 8, 9, 33, 34, 35] (.ops f11r9))))))
  (.keep [0, 8, 9, 33, 34, 35] (.ops f11r10)))))))

def f11r12 : List AInstr := [
    ⟨(some 53), none, .mov (.tmp 9)⟩,
    ⟨(some 6), none, .mov (.tmp 53)⟩,
    ⟨(some 7), none, .mov (.const (.int .i64 0))⟩]

def f11b : ACode := (.seq (.ops f11r0)
  (.keep [0, 1, 2] (.seq (.seq (.ops f11r1)
  (.keep [0, 1, 2, 29] (.cond (.tmp 29) (.keep [] (.seq (.ops f11r2)
  (.keep [6, 7] .ret))) .skip)))
  (.keep [0, 1, 2] (.seq (.ops f11r3)
  (.keep [0, 2, 8] (.seq (.ops f11r4)
  (.keep [0, 2, 8, 9] (.seq (.seq (.ops f11r5)
  (.keep [0, 8, 9, 33, 34, 35] (.block 0 (.loop f11l0))))
  (.keep [9] (.seq (.ops f11r12)
  (.keep [6, 7] .ret))))))))))))

def f11 : AFn := ⟨54, [.tmp 6, .tmp 7], f11b⟩

theorem f11_ok : compFn Try.prog 11 = some f11.strip := by kernel_rfl

/- function 12: slices.ContainsFunc[[]int,int]; parameters 2; operations that are not compiled: 0 -/
def f12r0 : List AInstr := [
    ⟨(some 4), none, .mov (.const (.bool false))⟩]

def f12r1 : List AInstr := [
    ⟨(some 5), none, .mov (.tmp 0)⟩,
    ⟨(some 6), none, .mov (.tmp 1)⟩,
    ⟨(some 7), none, .callF 19 [.tmp 5, .tmp 6]⟩,
    ⟨(some 8), none, .ibin .geq (.tmp 7) (.const (.int .i64 0))⟩,
    ⟨(some 4), none, .mov (.tmp 8)⟩]

def f12b : ACode := (.seq (.ops f12r0)
  (.keep [0, 1] (.seq (.ops f12r1)
  (.keep [4] .ret))))

def f12 : AFn := ⟨9, [.tmp 4], f12b⟩

theorem f12_ok : compFn Try.prog 12 = some f12.strip := by kernel_rfl

/- function 13: weirhouse/weirhousekeep.SlideMost$1; parameters 1; operations that are not compiled: 0 -/
def f13r0 : List AInstr := [
    ⟨(some 3), none, .mov (.const (.bool false))⟩]

def f13r1 : List AInstr := [
    ⟨(some 4), none, .mov (.tmp 0)⟩,
    ⟨(some 5), none, .load none (.tmp 1)⟩,
    ⟨(some 6), none, .ibin .gtr (.tmp 4) (.tmp 5)⟩,
    ⟨(some 3), none, .mov (.tmp 6)⟩]

def f13b : ACode := (.seq (.ops f13r0)
  (.keep [0, 1] (.seq (.ops f13r1)
  (.keep [3] .ret))))

def f13 : AFn := ⟨7, [.tmp 3], f13b⟩

theorem f13_ok : compFn Try.prog 13 = some f13.strip := by kernel_rfl

/- function 14: slices.Contains[[]int,int]; parameters 2; operations that are not compiled: 0 -/
def f14r0 : List AInstr := [
    ⟨(some 4), none, .mov (.const (.bool false))⟩]

def f14r1 : List AInstr := [
    ⟨(some 5), none, .mov (.tmp 0)⟩,
    ⟨(some 6), none, .mov (.tmp 1)⟩,
    ⟨(some 7), none, .callF 20 [.tmp 5, .tmp 6]⟩,
    ⟨(some 8), none, .ibin .geq (.tmp 7) (.const (.int .i64 0))⟩,
    ⟨(some 4), none, .mov (.tmp 8)⟩]

def f14b : ACode := (.seq (.ops f14r0)
  (.keep [0, 1] (.seq (.ops f14r1)
  (.keep [4] .ret))))

def f14 : AFn := ⟨9, [.tmp 4], f14b⟩

theorem f14_ok : compFn Try.prog 14 = some f14.strip := by kernel_rfl

/- function 15: slices.Repeat[[]int,int]; parameters 2; operations that are not compiled: 4 -/
def f15r0 : List AInstr := [
    ⟨(some 4), none, .mov (.const (.slice none 0 0))⟩]

def f15r1 : List AInstr := [
    ⟨(some 9), none, .mov (.tmp 1)⟩,
    ⟨(some 10), none, .ibin .lss (.tmp 9) (.const (.int .i64 0))⟩]

def f15r2 : List AInstr := [
    ⟨(some 11), none, .bad⟩,
    ⟨none, none, .bad⟩]

def f15r3 : List AInstr := [
    ⟨(some 13), none, .mov (.tmp 0)⟩,
    ⟨(some 14), none, .len (.tmp 13)⟩,
    ⟨(some 15), none, .conv .u64 (.tmp 14)⟩,
    ⟨(some 16), none, .mov (.tmp 1)⟩,
    ⟨(some 17), none, .conv .u64 (.tmp 16)⟩,
    ⟨(some 18), none, .callF 21 [.tmp 15, .tmp 17]⟩,
    ⟨(some 12), none, .mov (.tmp 18)⟩,
    ⟨(some 19), none, .extract 0 (.tmp 12)⟩,
    ⟨(some 20), none, .extract 1 (.tmp 12)⟩,
    ⟨(some 5), none, .mov (.tmp 19)⟩,
    ⟨(some 6), none, .mov (.tmp 20)⟩]

def f15r4 : List AInstr := [
    ⟨(some 21), none, .mov (.tmp 5)⟩,
    ⟨(some 22), none, .ibin .gtr (.tmp 21) (.const (.int .u64 0))⟩,
    ⟨(some 23), none, .mov (.tmp 22)⟩,
    ⟨(some 24), (some (23, false)), .mov (.tmp 6)⟩,
    ⟨(some 25), (some (23, false)), .ibin .gtr (.tmp 24) (.const (.int .u64 9223372036854775807))⟩,
    ⟨(some 26), none, .pick (.tmp 23) (.const (.bool true)) (.tmp 25)⟩]

def f15r5 : List AInstr := [
    ⟨(some 27), none, .bad⟩,
    ⟨none, none, .bad⟩]

def f15r6 : List AInstr := [
    ⟨(some 28), none, .mov (.tmp 6)⟩,
    ⟨(some 29), none, .conv .i64 (.tmp 28)⟩,
    ⟨(some 30), none, .makeSlice 1 8 [.int .i64 0] (.tmp 29) (.tmp 29)⟩,
    ⟨(some 7), none, .mov (.tmp 30)⟩]

def f15r7 : List AInstr := [
    ⟨(some 31), none, .mov (.tmp 7)⟩,
    ⟨(some 32), none, .mov (.tmp 0)⟩,
    ⟨(some 33), none, .copy 1 (.tmp 31) (.tmp 32)⟩,
    ⟨(some 8), none, .mov (.tmp 33)⟩]

def f15r8 : List AInstr := [
    ⟨(some 34), none, .mov (.tmp 8)⟩,
    ⟨(some 35), none, .mov (.tmp 7)⟩,
    ⟨(some 36), none, .len (.tmp 35)⟩,
    ⟨(some 37), none, .ibin .lss (.tmp 34) (.tmp 36)⟩]

def f15r9 : List AInstr := [
    ⟨(some 38), none, .mov (.tmp 8)⟩,
    ⟨(some 39), none, .mov (.tmp 7)⟩,
    ⟨(some 40), none, .mov (.tmp 8)⟩,
    ⟨(some 41), none, .slice 1 (.tmp 39) (some (.tmp 40)) none none⟩,
    ⟨(some 42), none, .mov (.tmp 7)⟩,
    ⟨(some 43), none, .mov (.tmp 8)⟩,
    ⟨(some 44), none, .slice 1 (.tmp 42) none (some (.tmp 43)) none⟩,
    ⟨(some 45), none, .copy 1 (.tmp 41) (.tmp 44)⟩,
    ⟨(some 46), none, .ibin .add (.tmp 38) (.tmp 45)⟩,
    ⟨(some 8), none, .mov (.tmp 46)⟩]

/-- live: [7, 8] -/
def f15l0 : ACode := (.seq (.seq (.ops f15r8)
  (.keep [7, 8, 37] (.cond (.tmp 37) .skip (.exit 0))))
  (.keep [7, 8] (.block 1 (.draw f15r9 [(0, 1, false), (0, 0, false), (0, 0, false), (0, 0, false), (0, 0, false), (0, 0, false), (0, 0, false), (0, 1, true), (1, 1, false), (1, 1, false)]))))

def f15r11 : List AInstr := [
    ⟨(some 47), none, .mov (.tmp 7)⟩,
    ⟨(some 4), none, .mov (.tmp 47)⟩]

def f15b : ACode := (.seq (.ops f15r0)
  (.keep [0, 1] (.seq (.seq (.ops f15r1)
  (.keep [0, 1, 10] (.cond (.tmp 10) (.keep [0, 1] (.ops f15r2)) .skip)))
  (.keep [0, 1] (.seq (.ops f15r3)
  (.keep [0, 5, 6] (.seq (.seq (.ops f15r4)
  (.keep [0, 6, 26] (.cond (.tmp 26) (.keep [0, 6] (.ops f15r5)) .skip)))
  (.keep [0, 6] (.seq (.ops f15r6)
  (.keep [0, 7] (.seq (.ops f15r7)
  (.keep [7, 8] (.seq (.block 0 (.loop f15l0))
  (.keep [7] (.seq (.ops f15r11)
  (.keep [4] .ret))))))))))))))))

def f15 : AFn := ⟨48, [.tmp 4], f15b⟩

theorem f15_ok : compFn Try.prog 15 = some f15.strip := by kernel_rfl

/- function 16: weirhouse/weirhousekeep.SlideBetween$1; parameters 1; operations that are not compiled: 0 -/
def f16r0 : List AInstr := [
    ⟨(some 3), none, .mov (.const (.bool false))⟩]

def f16r1 : List AInstr := [
    ⟨(some 4), none, .mov (.tmp 0)⟩,
    ⟨(some 5), none, .load none (.tmp 1)⟩,
    ⟨(some 6), none, .ibin .neq (.tmp 4) (.tmp 5)⟩,
    ⟨(some 3), none, .mov (.tmp 6)⟩]

def f16b : ACode := (.seq (.ops f16r0)
  (.keep [0, 1] (.seq (.ops f16r1)
  (.keep [3] .ret))))

def f16 : AFn := ⟨7, [.tmp 3], f16b⟩

theorem f16_ok : compFn Try.prog 16 = some f16.strip := by kernel_rfl

/- function 17: slices.Equal[[]int,int]; parameters 2; operations that are not compiled: 0 -/
def f17r0 : List AInstr := [
    ⟨(some 4), none, .mov (.const (.bool false))⟩]

def f17r1 : List AInstr := [
    ⟨(some 6), none, .mov (.tmp 0)⟩,
    ⟨(some 7), none, .len (.tmp 6)⟩,
    ⟨(some 8), none, .mov (.tmp 1)⟩,
    ⟨(some 9), none, .len (.tmp 8)⟩,
    ⟨(some 10), none, .ibin .neq (.tmp 7) (.tmp 9)⟩]

def f17r2 : List AInstr := [
    ⟨(some 4), none, .mov (.const (.bool false))⟩]

def f17r3 : List AInstr := [
    ⟨(some 11), none, .mov (.tmp 0)⟩,
    ⟨(some 12), none, .len (.tmp 11)⟩,
    ⟨(some 13), none, .mov (.const (.int .i64 0))⟩]

def f17r4 : List AInstr := [
    ⟨(some 14), none, .ibin .lss (.tmp 13) (.tmp 12)⟩]

def f17r5 : List AInstr := [
    ⟨(some 15), none, .mov (.tmp 13)⟩,
    ⟨(some 5), none, .mov (.tmp 15)⟩]

def f17r6 : List AInstr := [
    ⟨(some 16), none, .mov (.tmp 0)⟩,
    ⟨(some 17), none, .mov (.tmp 5)⟩,
    ⟨(some 18), none, .indexAddr 1 (.tmp 16) (.tmp 17)⟩,
    ⟨(some 19), none, .load none (.tmp 18)⟩,
    ⟨(some 20), none, .mov (.tmp 1)⟩,
    ⟨(some 21), none, .mov (.tmp 5)⟩,
    ⟨(some 22), none, .indexAddr 1 (.tmp 20) (.tmp 21)⟩,
    ⟨(some 23), none, .load none (.tmp 22)⟩,
    ⟨(some 24), none, .ibin .neq (.tmp 19) (.tmp 23)⟩]

def f17r7 : List AInstr := [
    ⟨(some 4), none, .mov (.const (.bool false))⟩]

def f17r8 : List AInstr := [
    ⟨(some 25), none, .ibin .add (.tmp 13) (.const (.int .i64 1))⟩,
    ⟨(some 13), none, .mov (.tmp 25)⟩]

/-- live: [0, 1, 12, 13] -/
def f17l0 : ACode := (.seq (.ops f17r4)
  (.keep [0, 1, 12, 13, 14] (.seq (.cond (.tmp 14) .skip (.exit 0))
  (.keep [0, 1, 12, 13] (.seq (.block 1 (.seq (.ops f17r5)
  (.keep [0, 1, 5, 12, 13] (.seq (.draw f17r6 [(0, 0, false), (0, 0, false), (0, 0, false), (0, 0, false), (0, 0, false), (0, 0, false), (0, 0, false), (0, 0, false), (0, 0, false)])
  (.keep [0, 1, 12, 13, 24] (.cond (.tmp 24) (.keep [] (.seq (.ops f17r7)
  (.keep [4] .ret))) .skip))))))
  (.keep [0, 1, 12, 13] (.ops f17r8)))))))

def f17r10 : List AInstr := [
    ⟨(some 4), none, .mov (.const (.bool true))⟩]

def f17b : ACode := (.seq (.ops f17r0)
  (.keep [0, 1] (.seq (.seq (.ops f17r1)
  (.keep [0, 1, 10] (.cond (.tmp 10) (.keep [] (.seq (.ops f17r2)
  (.keep [4] .ret))) .skip)))
  (.keep [0, 1] (.seq (.seq (.ops f17r3)
  (.keep [0, 1, 12, 13] (.block 0 (.loop f17l0))))
  (.keep [] (.seq (.ops f17r10)
  (.keep [4] .ret))))))))

def f17 : AFn := ⟨26, [.tmp 4], f17b⟩

theorem f17_ok : compFn Try.prog 17 = some f17.strip := by kernel_rfl

/- function 18: weirhouse/slide.wrong; parameters 2; operations that are not compiled: 0 -/
def f18r0 : List AInstr := [
    ⟨(some 4), none, .mov (.const (.bool false))⟩]

def f18r1 : List AInstr := [
    ⟨(some 7), none, .mov (.tmp 0)⟩,
    ⟨(some 8), none, .ibin .lss (.tmp 7) (.const (.int .i64 1))⟩,
    ⟨(some 9), none, .mov (.tmp 8)⟩,
    ⟨(some 10), (some (9, false)), .mov (.tmp 0)⟩,
    ⟨(some 11), (some (9, false)), .ibin .gtr (.tmp 10) (.const (.int .i64 400))⟩,
    ⟨(some 12), none, .pick (.tmp 9) (.const (.bool true)) (.tmp 11)⟩,
    ⟨(some 13), none, .mov (.tmp 12)⟩,
    ⟨(some 14), (some (13, false)), .mov (.tmp 1)⟩,
    ⟨(some 15), (some (13, false)), .len (.tmp 14)⟩,
    ⟨(some 16), (some (13, false)), .ibin .gtr (.tmp 15) (.const (.int .i64 400))⟩,
    ⟨(some 17), none, .pick (.tmp 13) (.const (.bool true)) (.tmp 16)⟩]

def f18r2 : List AInstr := [
    ⟨(some 4), none, .mov (.const (.bool true))⟩]

def f18r3 : List AInstr := [
    ⟨(some 18), none, .mov (.tmp 1)⟩,
    ⟨(some 19), none, .len (.tmp 18)⟩,
    ⟨(some 20), none, .mov (.const (.int .i64 0))⟩]

def f18r4 : List AInstr := [
    ⟨(some 21), none, .ibin .lss (.tmp 20) (.tmp 19)⟩]

def f18r5 : List AInstr := [
    ⟨(some 22), none, .indexAddr 1 (.tmp 18) (.tmp 20)⟩,
    ⟨(some 23), none, .load none (.tmp 22)⟩,
    ⟨(some 6), none, .mov (.tmp 23)⟩]

def f18r6 : List AInstr := [
    ⟨(some 24), none, .mov (.tmp 6)⟩,
    ⟨(some 25), none, .ibin .lss (.tmp 24) (.const (.int .i64 (-1073741824)))⟩,
    ⟨(some 26), none, .mov (.tmp 25)⟩,
    ⟨(some 27), (some (26, false)), .mov (.tmp 6)⟩,
    ⟨(some 28), (some (26, false)), .ibin .gtr (.tmp 27) (.const (.int .i64 1073741824))⟩,
    ⟨(some 29), none, .pick (.tmp 26) (.const (.bool true)) (.tmp 28)⟩]

def f18r7 : List AInstr := [
    ⟨(some 4), none, .mov (.const (.bool true))⟩]

def f18r8 : List AInstr := [
    ⟨(some 30), none, .ibin .add (.tmp 20) (.const (.int .i64 1))⟩,
    ⟨(some 20), none, .mov (.tmp 30)⟩]

/-- live: [18, 19, 20] -/
def f18l0 : ACode := (.seq (.ops f18r4)
  (.keep [18, 19, 20, 21] (.seq (.cond (.tmp 21) .skip (.exit 0))
  (.keep [18, 19, 20] (.seq (.block 1 (.seq (.ops f18r5)
  (.keep [6, 18, 19, 20] (.seq (.ops f18r6)
  (.keep [18, 19, 20, 29] (.cond (.tmp 29) (.keep [] (.seq (.ops f18r7)
  (.keep [4] .ret))) .skip))))))
  (.keep [18, 19, 20] (.ops f18r8)))))))

def f18r10 : List AInstr := [
    ⟨(some 4), none, .mov (.const (.bool false))⟩]

def f18b : ACode := (.seq (.ops f18r0)
  (.keep [0, 1] (.seq (.seq (.ops f18r1)
  (.keep [1, 17] (.cond (.tmp 17) (.keep [] (.seq (.ops f18r2)
  (.keep [4] .ret))) .skip)))
  (.keep [1] (.seq (.seq (.ops f18r3)
  (.keep [18, 19, 20] (.block 0 (.loop f18l0))))
  (.keep [] (.seq (.ops f18r10)
  (.keep [4] .ret))))))))

def f18 : AFn := ⟨31, [.tmp 4], f18b⟩

theorem f18_ok : compFn Try.prog 18 = some f18.strip := by kernel_rfl

/- function 19: slices.IndexFunc[[]int,int]; parameters 2; operations that are not compiled: 0 -/
def f19r0 : List AInstr := [
    ⟨(some 4), none, .mov (.const (.int .i64 0))⟩]

def f19r1 : List AInstr := [
    ⟨(some 6), none, .mov (.tmp 0)⟩,
    ⟨(some 7), none, .len (.tmp 6)⟩,
    ⟨(some 8), none, .mov (.const (.int .i64 0))⟩]

def f19r2 : List AInstr := [
    ⟨(some 9), none, .ibin .lss (.tmp 8) (.tmp 7)⟩]

def f19r3 : List AInstr := [
    ⟨(some 10), none, .mov (.tmp 8)⟩,
    ⟨(some 5), none, .mov (.tmp 10)⟩]

def f19r4 : List AInstr := [
    ⟨(some 11), none, .mov (.tmp 1)⟩,
    ⟨(some 12), none, .mov (.tmp 0)⟩,
    ⟨(some 13), none, .mov (.tmp 5)⟩,
    ⟨(some 14), none, .indexAddr 1 (.tmp 12) (.tmp 13)⟩,
    ⟨(some 15), none, .load none (.tmp 14)⟩,
    ⟨(some 16), none, .callV (.tmp 11) [.tmp 15]⟩]

def f19r5 : List AInstr := [
    ⟨(some 17), none, .mov (.tmp 5)⟩,
    ⟨(some 4), none, .mov (.tmp 17)⟩]

def f19r6 : List AInstr := [
    ⟨(some 18), none, .ibin .add (.tmp 8) (.const (.int .i64 1))⟩,
    ⟨(some 8), none, .mov (.tmp 18)⟩]

/-- live: [0, 1, 7, 8] -/
def f19l0 : ACode := (.seq (.ops f19r2)
  (.keep [0, 1, 7, 8, 9] (.seq (.cond (.tmp 9) .skip (.exit 0))
  (.keep [0, 1, 7, 8] (.seq (.block 1 (.seq (.ops f19r3)
  (.keep [0, 1, 5, 7, 8] (.seq (.ops f19r4)
  (.keep [0, 1, 5, 7, 8, 16] (.cond (.tmp 16) (.keep [5] (.seq (.ops f19r5)
  (.keep [4] .ret))) .skip))))))
  (.keep [0, 1, 7, 8] (.ops f19r6)))))))

def f19r8 : List AInstr := [
    ⟨(some 4), none, .mov (.const (.int .i64 (-1)))⟩]

def f19b : ACode := (.seq (.ops f19r0)
  (.keep [0, 1] (.seq (.seq (.ops f19r1)
  (.keep [0, 1, 7, 8] (.block 0 (.loop f19l0))))
  (.keep [] (.seq (.ops f19r8)
  (.keep [4] .ret))))))

def f19 : AFn := ⟨19, [.tmp 4], f19b⟩

theorem f19_ok : compFn Try.prog 19 = some f19.strip := by kernel_rfl

/- function 20: slices.Index[[]int,int]; parameters 2; operations that are not compiled: 0 -/
def f20r0 : List AInstr := [
    ⟨(some 4), none, .mov (.const (.int .i64 0))⟩]

def f20r1 : List AInstr := [
    ⟨(some 6), none, .mov (.tmp 0)⟩,
    ⟨(some 7), none, .len (.tmp 6)⟩,
    ⟨(some 8), none, .mov (.const (.int .i64 0))⟩]

def f20r2 : List AInstr := [
    ⟨(some 9), none, .ibin .lss (.tmp 8) (.tmp 7)⟩]

def f20r3 : List AInstr := [
    ⟨(some 10), none, .mov (.tmp 8)⟩,
    ⟨(some 5), none, .mov (.tmp 10)⟩]

def f20r4 : List AInstr := [
    ⟨(some 11), none, .mov (.tmp 1)⟩,
    ⟨(some 12), none, .mov (.tmp 0)⟩,
    ⟨(some 13), none, .mov (.tmp 5)⟩,
    ⟨(some 14), none, .indexAddr 1 (.tmp 12) (.tmp 13)⟩,
    ⟨(some 15), none, .load none (.tmp 14)⟩,
    ⟨(some 16), none, .ibin .eql (.tmp 11) (.tmp 15)⟩]

def f20r5 : List AInstr := [
    ⟨(some 17), none, .mov (.tmp 5)⟩,
    ⟨(some 4), none, .mov (.tmp 17)⟩]

def f20r6 : List AInstr := [
    ⟨(some 18), none, .ibin .add (.tmp 8) (.const (.int .i64 1))⟩,
    ⟨(some 8), none, .mov (.tmp 18)⟩]

/-- live: [0, 1, 7, 8] -/
def f20l0 : ACode := (.seq (.ops f20r2)
  (.keep [0, 1, 7, 8, 9] (.seq (.cond (.tmp 9) .skip (.exit 0))
  (.keep [0, 1, 7, 8] (.seq (.block 1 (.seq (.ops f20r3)
  (.keep [0, 1, 5, 7, 8] (.seq (.ops f20r4)
  (.keep [0, 1, 5, 7, 8, 16] (.cond (.tmp 16) (.keep [5] (.seq (.ops f20r5)
  (.keep [4] .ret))) .skip))))))
  (.keep [0, 1, 7, 8] (.ops f20r6)))))))

def f20r8 : List AInstr := [
    ⟨(some 4), none, .mov (.const (.int .i64 (-1)))⟩]

def f20b : ACode := (.seq (.ops f20r0)
  (.keep [0, 1] (.seq (.seq (.ops f20r1)
  (.keep [0, 1, 7, 8] (.block 0 (.loop f20l0))))
  (.keep [] (.seq (.ops f20r8)
  (.keep [4] .ret))))))

def f20 : AFn := ⟨19, [.tmp 4], f20b⟩

theorem f20_ok : compFn Try.prog 20 = some f20.strip := by kernel_rfl

/- function 21: math/bits.Mul; parameters 2; operations that are not compiled: 0 -/
def f21r0 : List AInstr := [
    ⟨(some 4), none, .mov (.const (.int .u64 0))⟩,
    ⟨(some 5), none, .mov (.const (.int .u64 0))⟩]

def f21r1 : List AInstr := [
    ⟨(some 11), none, .mov (.tmp 0)⟩,
    ⟨(some 12), none, .conv .u32 (.tmp 11)⟩,
    ⟨(some 13), none, .mov (.tmp 1)⟩,
    ⟨(some 14), none, .conv .u32 (.tmp 13)⟩,
    ⟨(some 15), none, .callF 22 [.tmp 12, .tmp 14]⟩,
    ⟨(some 10), none, .mov (.tmp 15)⟩,
    ⟨(some 16), none, .extract 0 (.tmp 10)⟩,
    ⟨(some 17), none, .extract 1 (.tmp 10)⟩,
    ⟨(some 6), none, .mov (.tmp 16)⟩,
    ⟨(some 7), none, .mov (.tmp 17)⟩]

def f21r2 : List AInstr := [
    ⟨(some 18), none, .mov (.tmp 6)⟩,
    ⟨(some 19), none, .conv .u64 (.tmp 18)⟩,
    ⟨(some 20), none, .mov (.tmp 7)⟩,
    ⟨(some 21), none, .conv .u64 (.tmp 20)⟩,
    ⟨(some 4), none, .mov (.tmp 19)⟩,
    ⟨(some 5), none, .mov (.tmp 21)⟩]

def f21r3 : List AInstr := [
    ⟨(some 23), none, .mov (.tmp 0)⟩,
    ⟨(some 24), none, .mov (.tmp 1)⟩,
    ⟨(some 25), none, .callF 23 [.tmp 23, .tmp 24]⟩,
    ⟨(some 22), none, .mov (.tmp 25)⟩,
    ⟨(some 26), none, .extract 0 (.tmp 22)⟩,
    ⟨(some 27), none, .extract 1 (.tmp 22)⟩,
    ⟨(some 8), none, .mov (.tmp 26)⟩,
    ⟨(some 9), none, .mov (.tmp 27)⟩]

def f21r4 : List AInstr := [
    ⟨(some 28), none, .mov (.tmp 8)⟩,
    ⟨(some 29), none, .mov (.tmp 9)⟩,
    ⟨(some 4), none, .mov (.tmp 28)⟩,
    ⟨(some 5), none, .mov (.tmp 29)⟩]

def f21b : ACode := (.seq (.ops f21r0)
  (.keep [0, 1] (.seq (.cond (.const (.bool false)) (.keep [0, 1] (.seq (.ops f21r1)
  (.keep [6, 7] (.seq (.ops f21r2)
  (.keep [4, 5] .ret))))) .skip)
  (.keep [0, 1] (.seq (.ops f21r3)
  (.keep [8, 9] (.seq (.ops f21r4)
  (.keep [4, 5] .ret))))))))

def f21 : AFn := ⟨30, [.tmp 4, .tmp 5], f21b⟩

theorem f21_ok : compFn Try.prog 21 = some f21.strip := by kernel_rfl

/- function 22: math/bits.Mul32; parameters 2; operations that are not compiled: 0 -/
def f22r0 : List AInstr := [
    ⟨(some 4), none, .mov (.const (.int .u32 0))⟩,
    ⟨(some 5), none, .mov (.const (.int .u32 0))⟩]

def f22r1 : List AInstr := [
    ⟨(some 7), none, .mov (.tmp 0)⟩,
    ⟨(some 8), none, .conv .u64 (.tmp 7)⟩,
    ⟨(some 9), none, .mov (.tmp 1)⟩,
    ⟨(some 10), none, .conv .u64 (.tmp 9)⟩,
    ⟨(some 11), none, .ibin .mul (.tmp 8) (.tmp 10)⟩,
    ⟨(some 6), none, .mov (.tmp 11)⟩]

def f22r2 : List AInstr := [
    ⟨(some 12), none, .mov (.tmp 6)⟩,
    ⟨(some 13), none, .ibin .shr (.tmp 12) (.const (.int .u64 32))⟩,
    ⟨(some 14), none, .conv .u32 (.tmp 13)⟩,
    ⟨(some 15), none, .mov (.tmp 6)⟩,
    ⟨(some 16), none, .conv .u32 (.tmp 15)⟩,
    ⟨(some 4), none, .mov (.tmp 14)⟩,
    ⟨(some 5), none, .mov (.tmp 16)⟩]

def f22b : ACode := (.seq (.ops f22r0)
  (.keep [0, 1] (.seq (.ops f22r1)
  (.keep [6] (.seq (.ops f22r2)
  (.keep [4, 5] .ret))))))

def f22 : AFn := ⟨17, [.tmp 4, .tmp 5], f22b⟩

theorem f22_ok : compFn Try.prog 22 = some f22.strip := by kernel_rfl

/- function 23: math/bits.Mul64; parameters 2; operations that are not compiled: 0 -/
def f23r0 : List AInstr := [
    ⟨(some 4), none, .mov (.const (.int .u64 0))⟩,
    ⟨(some 5), none, .mov (.const (.int .u64 0))⟩]

def f23r1 : List AInstr := [
    ⟨(some 14), none, .mov (.tmp 0)⟩,
    ⟨(some 15), none, .ibin .and (.tmp 14) (.const (.int .u64 4294967295))⟩,
    ⟨(some 6), none, .mov (.tmp 15)⟩]

def f23r2 : List AInstr := [
    ⟨(some 16), none, .mov (.tmp 0)⟩,
    ⟨(some 17), none, .ibin .shr (.tmp 16) (.const (.int .u64 32))⟩,
    ⟨(some 7), none, .mov (.tmp 17)⟩]

def f23r3 : List AInstr := [
    ⟨(some 18), none, .mov (.tmp 1)⟩,
    ⟨(some 19), none, .ibin .and (.tmp 18) (.const (.int .u64 4294967295))⟩,
    ⟨(some 8), none, .mov (.tmp 19)⟩]

def f23r4 : List AInstr := [
    ⟨(some 20), none, .mov (.tmp 1)⟩,
    ⟨(some 21), none, .ibin .shr (.tmp 20) (.const (.int .u64 32))⟩,
    ⟨(some 9), none, .mov (.tmp 21)⟩]

def f23r5 : List AInstr := [
    ⟨(some 22), none, .mov (.tmp 6)⟩,
    ⟨(some 23), none, .mov (.tmp 8)⟩,
    ⟨(some 24), none, .ibin .mul (.tmp 22) (.tmp 23)⟩,
    ⟨(some 10), none, .mov (.tmp 24)⟩]

def f23r6 : List AInstr := [
    ⟨(some 25), none, .mov (.tmp 7)⟩,
    ⟨(some 26), none, .mov (.tmp 8)⟩,
    ⟨(some 27), none, .ibin .mul (.tmp 25) (.tmp 26)⟩,
    ⟨(some 28), none, .mov (.tmp 10)⟩,
    ⟨(some 29), none, .ibin .shr (.tmp 28) (.const (.int .u64 32))⟩,
    ⟨(some 30), none, .ibin .add (.tmp 27) (.tmp 29)⟩,
    ⟨(some 11), none, .mov (.tmp 30)⟩]

def f23r7 : List AInstr := [
    ⟨(some 31), none, .mov (.tmp 11)⟩,
    ⟨(some 32), none, .ibin .and (.tmp 31) (.const (.int .u64 4294967295))⟩,
    ⟨(some 12), none, .mov (.tmp 32)⟩]

def f23r8 : List AInstr := [
    ⟨(some 33), none, .mov (.tmp 11)⟩,
    ⟨(some 34), none, .ibin .shr (.tmp 33) (.const (.int .u64 32))⟩,
    ⟨(some 13), none, .mov (.tmp 34)⟩]

def f23r9 : List AInstr := [
    ⟨(some 35), none, .mov (.tmp 12)⟩,
    ⟨(some 36), none, .mov (.tmp 6)⟩,
    ⟨(some 37), none, .mov (.tmp 9)⟩,
    ⟨(some 38), none, .ibin .mul (.tmp 36) (.tmp 37)⟩,
    ⟨(some 39), none, .ibin .add (.tmp 35) (.tmp 38)⟩,
    ⟨(some 12), none, .mov (.tmp 39)⟩]

def f23r10 : List AInstr := [
    ⟨(some 40), none, .mov (.tmp 7)⟩,
    ⟨(some 41), none, .mov (.tmp 9)⟩,
    ⟨(some 42), none, .ibin .mul (.tmp 40) (.tmp 41)⟩,
    ⟨(some 43), none, .mov (.tmp 13)⟩,
    ⟨(some 44), none, .ibin .add (.tmp 42) (.tmp 43)⟩,
    ⟨(some 45), none, .mov (.tmp 12)⟩,
    ⟨(some 46), none, .ibin .shr (.tmp 45) (.const (.int .u64 32))⟩,
    ⟨(some 47), none, .ibin .add (.tmp 44) (.tmp 46)⟩,
    ⟨(some 4), none, .mov (.tmp 47)⟩]

def f23r11 : List AInstr := [
    ⟨(some 48), none, .mov (.tmp 0)⟩,
    ⟨(some 49), none, .mov (.tmp 1)⟩,
    ⟨(some 50), none, .ibin .mul (.tmp 48) (.tmp 49)⟩,
    ⟨(some 5), none, .mov (.tmp 50)⟩]

def f23b : ACode := (.seq (.ops f23r0)
  (.keep [0, 1] (.seq (.ops f23r1)
  (.keep [0, 1, 6] (.seq (.ops f23r2)
  (.keep [0, 1, 6, 7] (.seq (.ops f23r3)
  (.keep [0, 1, 6, 7, 8] (.seq (.ops f23r4)
  (.keep [0, 1, 6, 7, 8, 9] (.seq (.ops f23r5)
  (.keep [0, 1, 6, 7, 8, 9, 10] (.seq (.ops f23r6)
  (.keep [0, 1, 6, 7, 9, 11] (.seq (.ops f23r7)
  (.keep [0, 1, 6, 7, 9, 11, 12] (.seq (.ops f23r8)
  (.keep [0, 1, 6, 7, 9, 12, 13] (.seq (.ops f23r9)
  (.keep [0, 1, 7, 9, 12, 13] (.seq (.ops f23r10)
  (.keep [0, 1, 4] (.seq (.ops f23r11)
  (.keep [4, 5] .ret))))))))))))))))))))))))

def f23 : AFn := ⟨51, [.tmp 4, .tmp 5], f23b⟩

theorem f23_ok : compFn Try.prog 23 = some f23.strip := by kernel_rfl

end Go.Proofs.Ytklbagfnepphmaa
