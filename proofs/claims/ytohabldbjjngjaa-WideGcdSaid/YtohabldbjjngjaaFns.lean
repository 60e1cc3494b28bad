/-
  The functions of this seat as abstract code. Printed by a program of this claim's writer.
-/
import Derived.Test.YtohabldbjjngjaaChecked
import Derived.Test.YtohabldbjjngjaaAmS
import Derived.KernelRfl
namespace Go.Proofs.Ytohabldbjjngjaa
open Go Go.Am

/- function 3: weirhouse/weirhousekeep.WideDivides; parameters 2; operations that are not compiled: 0 -/
def f3r0 : List AInstr := [
    ⟨(some 2), none, .box (.tmp 0)⟩,
    ⟨(some 4), none, .mov (.const (.bool false))⟩]

def f3r1 : List AInstr := [
    ⟨(some 13), none, .callF 7 []⟩,
    ⟨(some 14), none, .un .not (.tmp 13)⟩]

def f3r2 : List AInstr := [
    ⟨(some 4), none, .mov (.const (.bool false))⟩]

def f3r3 : List AInstr := [
    ⟨(some 16), none, .load (some 2) (.tmp 2)⟩,
    ⟨(some 17), none, .mov (.tmp 1)⟩,
    ⟨(some 18), none, .callF 8 [.tmp 16, .tmp 17]⟩,
    ⟨(some 15), none, .mov (.tmp 18)⟩,
    ⟨(some 19), none, .extract 0 (.tmp 15)⟩,
    ⟨(some 20), none, .extract 1 (.tmp 15)⟩,
    ⟨(some 21), none, .extract 2 (.tmp 15)⟩,
    ⟨(some 5), none, .alloc [.int .u64 0, .int .u64 0]⟩,
    ⟨none, none, .store 2 (.tmp 5) (.tmp 19)⟩,
    ⟨(some 6), none, .mov (.tmp 20)⟩,
    ⟨(some 7), none, .mov (.tmp 21)⟩]

def f3r4 : List AInstr := [
    ⟨(some 22), none, .mov (.tmp 1)⟩,
    ⟨(some 23), none, .ibin .eql (.tmp 22) (.const (.int .u64 0))⟩]

def f3r5 : List AInstr := [
    ⟨(some 24), none, .mov (.tmp 7)⟩,
    ⟨(some 25), none, .ibin .eql (.tmp 24) (.const (.int .i64 2))⟩,
    ⟨(some 4), none, .mov (.tmp 25)⟩]

def f3r6 : List AInstr := [
    ⟨(some 26), none, .fieldAddr 1 (.tmp 5)⟩,
    ⟨(some 27), none, .load none (.tmp 26)⟩,
    ⟨(some 28), none, .mov (.tmp 1)⟩,
    ⟨(some 29), none, .callF 9 [.tmp 27, .tmp 28]⟩,
    ⟨(some 8), none, .alloc [.int .u64 0, .int .u64 0]⟩,
    ⟨none, none, .store 2 (.tmp 8) (.tmp 29)⟩]

def f3r7 : List AInstr := [
    ⟨(some 30), none, .fieldAddr 0 (.tmp 5)⟩,
    ⟨(some 31), none, .load none (.tmp 30)⟩,
    ⟨(some 32), none, .mov (.tmp 1)⟩,
    ⟨(some 33), none, .callF 9 [.tmp 31, .tmp 32]⟩,
    ⟨(some 9), none, .alloc [.int .u64 0, .int .u64 0]⟩,
    ⟨none, none, .store 2 (.tmp 9) (.tmp 33)⟩]

def f3r8 : List AInstr := [
    ⟨(some 34), none, .mov (.tmp 7)⟩,
    ⟨(some 35), none, .ibin .neq (.tmp 34) (.const (.int .i64 0))⟩,
    ⟨(some 36), none, .mov (.tmp 35)⟩,
    ⟨(some 37), (some (36, false)), .mov (.tmp 6)⟩,
    ⟨(some 38), (some (36, false)), .mov (.tmp 1)⟩,
    ⟨(some 39), (some (36, false)), .ibin .geq (.tmp 37) (.tmp 38)⟩,
    ⟨(some 40), none, .pick (.tmp 36) (.const (.bool true)) (.tmp 39)⟩,
    ⟨(some 41), none, .mov (.tmp 40)⟩,
    ⟨(some 42), (some (41, false)), .fieldAddr 0 (.tmp 9)⟩,
    ⟨(some 43), (some (41, false)), .load none (.tmp 42)⟩,
    ⟨(some 44), (some (41, false)), .ibin .neq (.tmp 43) (.const (.int .u64 0))⟩,
    ⟨(some 45), none, .pick (.tmp 41) (.const (.bool true)) (.tmp 44)⟩]

def f3r9 : List AInstr := [
    ⟨(some 4), none, .mov (.const (.bool false))⟩]

def f3r10 : List AInstr := [
    ⟨(some 47), none, .load (some 2) (.tmp 8)⟩,
    ⟨(some 48), none, .fieldAddr 1 (.tmp 9)⟩,
    ⟨(some 49), none, .load none (.tmp 48)⟩,
    ⟨(some 50), none, .build [.int .u64 0, .int .u64 0] [(0, 1, (.tmp 49))]⟩,
    ⟨(some 51), none, .callF 10 [.tmp 47, .tmp 50]⟩,
    ⟨(some 46), none, .mov (.tmp 51)⟩,
    ⟨(some 52), none, .extract 0 (.tmp 46)⟩,
    ⟨(some 53), none, .extract 1 (.tmp 46)⟩,
    ⟨(some 10), none, .alloc [.int .u64 0, .int .u64 0]⟩,
    ⟨none, none, .store 2 (.tmp 10) (.tmp 52)⟩,
    ⟨(some 11), none, .mov (.tmp 53)⟩]

def f3r11 : List AInstr := [
    ⟨(some 55), none, .load (some 2) (.tmp 10)⟩,
    ⟨(some 56), none, .mov (.tmp 6)⟩,
    ⟨(some 57), none, .build [.int .u64 0, .int .u64 0] [(1, 1, (.tmp 56))]⟩,
    ⟨(some 58), none, .callF 10 [.tmp 55, .tmp 57]⟩,
    ⟨(some 54), none, .mov (.tmp 58)⟩,
    ⟨(some 59), none, .extract 0 (.tmp 54)⟩,
    ⟨(some 60), none, .extract 1 (.tmp 54)⟩,
    ⟨none, none, .store 2 (.tmp 10) (.tmp 59)⟩,
    ⟨(some 12), none, .mov (.tmp 60)⟩]

def f3r12 : List AInstr := [
    ⟨(some 61), none, .load (some 2) (.tmp 10)⟩,
    ⟨(some 62), none, .load (some 2) (.tmp 2)⟩,
    ⟨(some 63), none, .eqA false [false, false] (.tmp 61) (.tmp 62)⟩,
    ⟨(some 64), none, .mov (.tmp 63)⟩,
    ⟨(some 65), (some (64, true)), .mov (.tmp 11)⟩,
    ⟨(some 66), (some (64, true)), .un .not (.tmp 65)⟩,
    ⟨(some 67), none, .pick (.tmp 64) (.tmp 66) (.const (.bool false))⟩,
    ⟨(some 68), none, .mov (.tmp 67)⟩,
    ⟨(some 69), (some (68, true)), .mov (.tmp 12)⟩,
    ⟨(some 70), (some (68, true)), .un .not (.tmp 69)⟩,
    ⟨(some 71), none, .pick (.tmp 68) (.tmp 70) (.const (.bool false))⟩,
    ⟨(some 4), none, .mov (.tmp 71)⟩]

def f3b : ACode := (.seq (.ops f3r0)
  (.keep [1, 2] (.seq (.seq (.ops f3r1)
  (.keep [1, 2, 14] (.cond (.tmp 14) (.keep [] (.seq (.ops f3r2)
  (.keep [4] .ret))) .skip)))
  (.keep [1, 2] (.seq (.ops f3r3)
  (.keep [1, 2, 5, 6, 7] (.seq (.seq (.ops f3r4)
  (.keep [1, 2, 5, 6, 7, 23] (.cond (.tmp 23) (.keep [7] (.seq (.ops f3r5)
  (.keep [4] .ret))) .skip)))
  (.keep [1, 2, 5, 6, 7] (.seq (.ops f3r6)
  (.keep [1, 2, 5, 6, 7, 8] (.seq (.ops f3r7)
  (.keep [1, 2, 6, 7, 8, 9] (.seq (.seq (.ops f3r8)
  (.keep [2, 6, 8, 9, 45] (.cond (.tmp 45) (.keep [] (.seq (.ops f3r9)
  (.keep [4] .ret))) .skip)))
  (.keep [2, 6, 8, 9] (.seq (.ops f3r10)
  (.keep [2, 6, 10, 11] (.seq (.ops f3r11)
  (.keep [2, 10, 11, 12] (.seq (.ops f3r12)
  (.keep [4] .ret))))))))))))))))))))

def f3 : AFn := ⟨72, [.tmp 4], f3b⟩

theorem f3_ok : compFn Try.prog 3 = some f3.strip := by kernel_rfl

/- function 4: weirhouse/weirhousekeep.WideGcd; parameters 3; operations that are not compiled: 0 -/
def f4r0 : List AInstr := [
    ⟨(some 6), none, .mov (.const (.bool false))⟩]

def f4r1 : List AInstr := [
    ⟨(some 18), none, .callF 7 []⟩,
    ⟨(some 19), none, .un .not (.tmp 18)⟩]

def f4r2 : List AInstr := [
    ⟨(some 6), none, .mov (.const (.bool false))⟩]

def f4r3 : List AInstr := [
    ⟨(some 20), none, .mov (.tmp 0)⟩,
    ⟨(some 21), none, .mov (.tmp 1)⟩,
    ⟨(some 22), none, .callF 11 [.tmp 20, .tmp 21]⟩,
    ⟨(some 7), none, .mov (.tmp 22)⟩]

def f4r4 : List AInstr := [
    ⟨(some 23), none, .mov (.tmp 0)⟩,
    ⟨(some 24), none, .ibin .eql (.tmp 23) (.const (.int .u64 0))⟩,
    ⟨(some 25), none, .mov (.tmp 24)⟩,
    ⟨(some 26), (some (25, true)), .mov (.tmp 1)⟩,
    ⟨(some 27), (some (25, true)), .ibin .eql (.tmp 26) (.const (.int .u64 0))⟩,
    ⟨(some 28), none, .pick (.tmp 25) (.tmp 27) (.const (.bool false))⟩]

def f4r5 : List AInstr := [
    ⟨(some 29), none, .mov (.tmp 7)⟩,
    ⟨(some 30), none, .ibin .eql (.tmp 29) (.const (.int .u64 0))⟩,
    ⟨(some 6), none, .mov (.tmp 30)⟩]

def f4r6 : List AInstr := [
    ⟨(some 31), none, .mov (.tmp 7)⟩,
    ⟨(some 32), none, .ibin .eql (.tmp 31) (.const (.int .u64 0))⟩,
    ⟨(some 33), none, .mov (.tmp 32)⟩,
    ⟨(some 34), (some (33, false)), .mov (.tmp 0)⟩,
    ⟨(some 35), (some (33, false)), .mov (.tmp 7)⟩,
    ⟨(some 36), (some (33, false)), .ibin .rem (.tmp 34) (.tmp 35)⟩,
    ⟨(some 37), (some (33, false)), .ibin .neq (.tmp 36) (.const (.int .u64 0))⟩,
    ⟨(some 38), none, .pick (.tmp 33) (.const (.bool true)) (.tmp 37)⟩,
    ⟨(some 39), none, .mov (.tmp 38)⟩,
    ⟨(some 40), (some (39, false)), .mov (.tmp 1)⟩,
    ⟨(some 41), (some (39, false)), .mov (.tmp 7)⟩,
    ⟨(some 42), (some (39, false)), .ibin .rem (.tmp 40) (.tmp 41)⟩,
    ⟨(some 43), (some (39, false)), .ibin .neq (.tmp 42) (.const (.int .u64 0))⟩,
    ⟨(some 44), none, .pick (.tmp 39) (.const (.bool true)) (.tmp 43)⟩,
    ⟨(some 45), none, .mov (.tmp 44)⟩,
    ⟨(some 46), (some (45, false)), .mov (.tmp 7)⟩,
    ⟨(some 47), (some (45, false)), .mov (.tmp 1)⟩,
    ⟨(some 48), (some (45, false)), .mov (.tmp 0)⟩,
    ⟨(some 49), (some (45, false)), .callF 11 [.tmp 47, .tmp 48]⟩,
    ⟨(some 50), (some (45, false)), .ibin .neq (.tmp 46) (.tmp 49)⟩,
    ⟨(some 51), none, .pick (.tmp 45) (.const (.bool true)) (.tmp 50)⟩,
    ⟨(some 52), none, .mov (.tmp 51)⟩,
    ⟨(some 53), (some (52, false)), .mov (.tmp 2)⟩,
    ⟨(some 54), (some (52, false)), .ibin .gtr (.tmp 53) (.const (.int .u64 0))⟩,
    ⟨(some 55), (some (52, false)), .mov (.tmp 54)⟩,
    ⟨(some 56), (some (55, true)), .mov (.tmp 0)⟩,
    ⟨(some 57), (some (55, true)), .mov (.tmp 2)⟩,
    ⟨(some 58), (some (55, true)), .ibin .rem (.tmp 56) (.tmp 57)⟩,
    ⟨(some 59), (some (55, true)), .ibin .eql (.tmp 58) (.const (.int .u64 0))⟩,
    ⟨(some 60), (some (52, false)), .pick (.tmp 55) (.tmp 59) (.const (.bool false))⟩,
    ⟨(some 61), (some (52, false)), .mov (.tmp 60)⟩,
    ⟨(some 62), (some (61, true)), .mov (.tmp 1)⟩,
    ⟨(some 63), (some (61, true)), .mov (.tmp 2)⟩,
    ⟨(some 64), (some (61, true)), .ibin .rem (.tmp 62) (.tmp 63)⟩,
    ⟨(some 65), (some (61, true)), .ibin .eql (.tmp 64) (.const (.int .u64 0))⟩,
    ⟨(some 66), (some (52, false)), .pick (.tmp 61) (.tmp 65) (.const (.bool false))⟩,
    ⟨(some 67), (some (52, false)), .mov (.tmp 66)⟩,
    ⟨(some 68), (some (67, true)), .mov (.tmp 7)⟩,
    ⟨(some 69), (some (67, true)), .mov (.tmp 2)⟩,
    ⟨(some 70), (some (67, true)), .ibin .rem (.tmp 68) (.tmp 69)⟩,
    ⟨(some 71), (some (67, true)), .ibin .neq (.tmp 70) (.const (.int .u64 0))⟩,
    ⟨(some 72), (some (52, false)), .pick (.tmp 67) (.tmp 71) (.const (.bool false))⟩,
    ⟨(some 73), none, .pick (.tmp 52) (.const (.bool true)) (.tmp 72)⟩]

def f4r7 : List AInstr := [
    ⟨(some 6), none, .mov (.const (.bool false))⟩]

def f4r8 : List AInstr := [
    ⟨(some 74), none, .mov (.tmp 0)⟩,
    ⟨(some 75), none, .ibin .eql (.tmp 74) (.const (.int .u64 0))⟩,
    ⟨(some 76), none, .mov (.tmp 75)⟩,
    ⟨(some 77), (some (76, false)), .mov (.tmp 1)⟩,
    ⟨(some 78), (some (76, false)), .ibin .eql (.tmp 77) (.const (.int .u64 0))⟩,
    ⟨(some 79), none, .pick (.tmp 76) (.const (.bool true)) (.tmp 78)⟩]

def f4r9 : List AInstr := [
    ⟨(some 80), none, .mov (.tmp 0)⟩,
    ⟨(some 81), none, .mov (.tmp 1)⟩,
    ⟨(some 82), none, .callF 12 [.tmp 80, .tmp 81]⟩,
    ⟨(some 83), none, .build [.int .u64 0, .int .u64 0] []⟩,
    ⟨(some 84), none, .eqA false [false, false] (.tmp 82) (.tmp 83)⟩,
    ⟨(some 85), none, .mov (.tmp 84)⟩,
    ⟨(some 86), (some (85, true)), .mov (.tmp 7)⟩,
    ⟨(some 87), (some (85, true)), .mov (.tmp 0)⟩,
    ⟨(some 88), (some (85, true)), .mov (.tmp 1)⟩,
    ⟨(some 89), (some (85, true)), .minmax true [.tmp 87, .tmp 88]⟩,
    ⟨(some 90), (some (85, true)), .ibin .eql (.tmp 86) (.tmp 89)⟩,
    ⟨(some 91), none, .pick (.tmp 85) (.tmp 90) (.const (.bool false))⟩,
    ⟨(some 6), none, .mov (.tmp 91)⟩]

def f4r10 : List AInstr := [
    ⟨(some 92), none, .mov (.tmp 0)⟩,
    ⟨(some 93), none, .mov (.tmp 1)⟩,
    ⟨(some 94), none, .callF 12 [.tmp 92, .tmp 93]⟩,
    ⟨(some 8), none, .alloc [.int .u64 0, .int .u64 0]⟩,
    ⟨none, none, .store 2 (.tmp 8) (.tmp 94)⟩]

def f4r11 : List AInstr := [
    ⟨(some 96), none, .load (some 2) (.tmp 8)⟩,
    ⟨(some 97), none, .mov (.tmp 0)⟩,
    ⟨(some 98), none, .callF 8 [.tmp 96, .tmp 97]⟩,
    ⟨(some 95), none, .mov (.tmp 98)⟩,
    ⟨(some 99), none, .extract 0 (.tmp 95)⟩,
    ⟨(some 100), none, .extract 1 (.tmp 95)⟩,
    ⟨(some 101), none, .extract 2 (.tmp 95)⟩,
    ⟨(some 9), none, .alloc [.int .u64 0, .int .u64 0]⟩,
    ⟨none, none, .store 2 (.tmp 9) (.tmp 99)⟩,
    ⟨(some 10), none, .mov (.tmp 100)⟩,
    ⟨(some 11), none, .mov (.tmp 101)⟩]

def f4r12 : List AInstr := [
    ⟨(some 103), none, .load (some 2) (.tmp 8)⟩,
    ⟨(some 104), none, .mov (.tmp 1)⟩,
    ⟨(some 105), none, .callF 8 [.tmp 103, .tmp 104]⟩,
    ⟨(some 102), none, .mov (.tmp 105)⟩,
    ⟨(some 106), none, .extract 0 (.tmp 102)⟩,
    ⟨(some 107), none, .extract 1 (.tmp 102)⟩,
    ⟨(some 108), none, .extract 2 (.tmp 102)⟩,
    ⟨(some 12), none, .alloc [.int .u64 0, .int .u64 0]⟩,
    ⟨none, none, .store 2 (.tmp 12) (.tmp 106)⟩,
    ⟨(some 13), none, .mov (.tmp 107)⟩,
    ⟨(some 14), none, .mov (.tmp 108)⟩]

def f4r13 : List AInstr := [
    ⟨(some 110), none, .mov (.tmp 0)⟩,
    ⟨(some 111), none, .mov (.tmp 1)⟩,
    ⟨(some 112), none, .callF 9 [.tmp 110, .tmp 111]⟩,
    ⟨(some 113), none, .mov (.tmp 7)⟩,
    ⟨(some 114), none, .callF 8 [.tmp 112, .tmp 113]⟩,
    ⟨(some 109), none, .mov (.tmp 114)⟩,
    ⟨(some 115), none, .extract 0 (.tmp 109)⟩,
    ⟨(some 116), none, .extract 1 (.tmp 109)⟩,
    ⟨(some 117), none, .extract 2 (.tmp 109)⟩,
    ⟨(some 15), none, .alloc [.int .u64 0, .int .u64 0]⟩,
    ⟨none, none, .store 2 (.tmp 15) (.tmp 115)⟩,
    ⟨(some 16), none, .mov (.tmp 116)⟩,
    ⟨(some 17), none, .mov (.tmp 117)⟩]

def f4r14 : List AInstr := [
    ⟨(some 118), none, .mov (.tmp 11)⟩,
    ⟨(some 119), none, .ibin .eql (.tmp 118) (.const (.int .i64 0))⟩,
    ⟨(some 120), none, .mov (.tmp 119)⟩,
    ⟨(some 121), (some (120, true)), .mov (.tmp 14)⟩,
    ⟨(some 122), (some (120, true)), .ibin .eql (.tmp 121) (.const (.int .i64 0))⟩,
    ⟨(some 123), none, .pick (.tmp 120) (.tmp 122) (.const (.bool false))⟩,
    ⟨(some 124), none, .mov (.tmp 123)⟩,
    ⟨(some 125), (some (124, true)), .mov (.tmp 17)⟩,
    ⟨(some 126), (some (124, true)), .ibin .eql (.tmp 125) (.const (.int .i64 0))⟩,
    ⟨(some 127), none, .pick (.tmp 124) (.tmp 126) (.const (.bool false))⟩,
    ⟨(some 128), none, .mov (.tmp 127)⟩,
    ⟨(some 129), (some (128, true)), .mov (.tmp 10)⟩,
    ⟨(some 130), (some (128, true)), .ibin .eql (.tmp 129) (.const (.int .u64 0))⟩,
    ⟨(some 131), none, .pick (.tmp 128) (.tmp 130) (.const (.bool false))⟩,
    ⟨(some 132), none, .mov (.tmp 131)⟩,
    ⟨(some 133), (some (132, true)), .mov (.tmp 13)⟩,
    ⟨(some 134), (some (132, true)), .ibin .eql (.tmp 133) (.const (.int .u64 0))⟩,
    ⟨(some 135), none, .pick (.tmp 132) (.tmp 134) (.const (.bool false))⟩,
    ⟨(some 136), none, .mov (.tmp 135)⟩,
    ⟨(some 137), (some (136, true)), .mov (.tmp 16)⟩,
    ⟨(some 138), (some (136, true)), .ibin .eql (.tmp 137) (.const (.int .u64 0))⟩,
    ⟨(some 139), none, .pick (.tmp 136) (.tmp 138) (.const (.bool false))⟩,
    ⟨(some 140), none, .mov (.tmp 139)⟩,
    ⟨(some 141), (some (140, true)), .load (some 2) (.tmp 15)⟩,
    ⟨(some 142), (some (140, true)), .load (some 2) (.tmp 8)⟩,
    ⟨(some 143), (some (140, true)), .eqA false [false, false] (.tmp 141) (.tmp 142)⟩,
    ⟨(some 144), none, .pick (.tmp 140) (.tmp 143) (.const (.bool false))⟩,
    ⟨(some 6), none, .mov (.tmp 144)⟩]

def f4b : ACode := (.seq (.ops f4r0)
  (.keep [0, 1, 2] (.seq (.seq (.ops f4r1)
  (.keep [0, 1, 2, 19] (.cond (.tmp 19) (.keep [] (.seq (.ops f4r2)
  (.keep [6] .ret))) .skip)))
  (.keep [0, 1, 2] (.seq (.ops f4r3)
  (.keep [0, 1, 2, 7] (.seq (.seq (.ops f4r4)
  (.keep [0, 1, 2, 7, 28] (.cond (.tmp 28) (.keep [7] (.seq (.ops f4r5)
  (.keep [6] .ret))) .skip)))
  (.keep [0, 1, 2, 7] (.seq (.seq (.ops f4r6)
  (.keep [0, 1, 7, 73] (.cond (.tmp 73) (.keep [] (.seq (.ops f4r7)
  (.keep [6] .ret))) .skip)))
  (.keep [0, 1, 7] (.seq (.seq (.ops f4r8)
  (.keep [0, 1, 7, 79] (.cond (.tmp 79) (.keep [0, 1, 7] (.seq (.ops f4r9)
  (.keep [6] .ret))) .skip)))
  (.keep [0, 1, 7] (.seq (.ops f4r10)
  (.keep [0, 1, 7, 8] (.seq (.ops f4r11)
  (.keep [0, 1, 7, 8, 10, 11] (.seq (.ops f4r12)
  (.keep [0, 1, 7, 8, 10, 11, 13, 14] (.seq (.ops f4r13)
  (.keep [8, 10, 11, 13, 14, 15, 16, 17] (.seq (.ops f4r14)
  (.keep [6] .ret))))))))))))))))))))))

def f4 : AFn := ⟨145, [.tmp 6], f4b⟩

theorem f4_ok : compFn Try.prog 4 = some f4.strip := by kernel_rfl

/- function 5: weirhouse/weirhousekeep.WideOrder; parameters 3; operations that are not compiled: 0 -/
def f5r0 : List AInstr := [
    ⟨(some 3), none, .box (.tmp 0)⟩,
    ⟨(some 4), none, .box (.tmp 1)⟩,
    ⟨(some 5), none, .box (.tmp 2)⟩,
    ⟨(some 6), none, .mov (.const (.bool false))⟩]

def f5r1 : List AInstr := [
    ⟨(some 11), none, .callF 7 []⟩,
    ⟨(some 12), none, .un .not (.tmp 11)⟩]

def f5r2 : List AInstr := [
    ⟨(some 6), none, .mov (.const (.bool false))⟩]

def f5r3 : List AInstr := [
    ⟨(some 14), none, .load (some 2) (.tmp 3)⟩,
    ⟨(some 15), none, .load (some 2) (.tmp 5)⟩,
    ⟨(some 16), none, .callF 10 [.tmp 14, .tmp 15]⟩,
    ⟨(some 13), none, .mov (.tmp 16)⟩,
    ⟨(some 17), none, .extract 0 (.tmp 13)⟩,
    ⟨(some 18), none, .extract 1 (.tmp 13)⟩,
    ⟨(some 7), none, .alloc [.int .u64 0, .int .u64 0]⟩,
    ⟨none, none, .store 2 (.tmp 7) (.tmp 17)⟩,
    ⟨(some 8), none, .mov (.tmp 18)⟩]

def f5r4 : List AInstr := [
    ⟨(some 20), none, .load (some 2) (.tmp 4)⟩,
    ⟨(some 21), none, .load (some 2) (.tmp 5)⟩,
    ⟨(some 22), none, .callF 10 [.tmp 20, .tmp 21]⟩,
    ⟨(some 19), none, .mov (.tmp 22)⟩,
    ⟨(some 23), none, .extract 0 (.tmp 19)⟩,
    ⟨(some 24), none, .extract 1 (.tmp 19)⟩,
    ⟨(some 9), none, .alloc [.int .u64 0, .int .u64 0]⟩,
    ⟨none, none, .store 2 (.tmp 9) (.tmp 23)⟩,
    ⟨(some 10), none, .mov (.tmp 24)⟩]

def f5r5 : List AInstr := [
    ⟨(some 25), none, .mov (.tmp 8)⟩,
    ⟨(some 26), none, .un .not (.tmp 25)⟩,
    ⟨(some 27), none, .mov (.tmp 26)⟩,
    ⟨(some 28), (some (27, true)), .mov (.tmp 10)⟩,
    ⟨(some 29), (some (27, true)), .un .not (.tmp 28)⟩,
    ⟨(some 30), none, .pick (.tmp 27) (.tmp 29) (.const (.bool false))⟩,
    ⟨(some 31), none, .mov (.tmp 30)⟩,
    ⟨(some 32), (some (31, true)), .load (some 2) (.tmp 7)⟩,
    ⟨(some 33), (some (31, true)), .load (some 2) (.tmp 9)⟩,
    ⟨(some 34), (some (31, true)), .callF 13 [.tmp 32, .tmp 33]⟩,
    ⟨(some 35), (some (31, true)), .load (some 2) (.tmp 3)⟩,
    ⟨(some 36), (some (31, true)), .load (some 2) (.tmp 4)⟩,
    ⟨(some 37), (some (31, true)), .callF 13 [.tmp 35, .tmp 36]⟩,
    ⟨(some 38), (some (31, true)), .ibin .neq (.tmp 34) (.tmp 37)⟩,
    ⟨(some 39), none, .pick (.tmp 31) (.tmp 38) (.const (.bool false))⟩,
    ⟨(some 40), none, .mov (.tmp 39)⟩,
    ⟨(some 41), (some (40, false)), .load (some 2) (.tmp 3)⟩,
    ⟨(some 42), (some (40, false)), .load (some 2) (.tmp 4)⟩,
    ⟨(some 43), (some (40, false)), .callF 13 [.tmp 41, .tmp 42]⟩,
    ⟨(some 44), (some (40, false)), .load (some 2) (.tmp 4)⟩,
    ⟨(some 45), (some (40, false)), .load (some 2) (.tmp 3)⟩,
    ⟨(some 46), (some (40, false)), .callF 13 [.tmp 44, .tmp 45]⟩,
    ⟨(some 47), (some (40, false)), .un .neg (.tmp 46)⟩,
    ⟨(some 48), (some (40, false)), .ibin .neq (.tmp 43) (.tmp 47)⟩,
    ⟨(some 49), none, .pick (.tmp 40) (.const (.bool true)) (.tmp 48)⟩,
    ⟨(some 50), none, .mov (.tmp 49)⟩,
    ⟨(some 51), (some (50, false)), .load (some 2) (.tmp 3)⟩,
    ⟨(some 52), (some (50, false)), .load (some 2) (.tmp 4)⟩,
    ⟨(some 53), (some (50, false)), .callF 13 [.tmp 51, .tmp 52]⟩,
    ⟨(some 54), (some (50, false)), .ibin .eql (.tmp 53) (.const (.int .i64 0))⟩,
    ⟨(some 55), (some (50, false)), .load (some 2) (.tmp 3)⟩,
    ⟨(some 56), (some (50, false)), .load (some 2) (.tmp 4)⟩,
    ⟨(some 57), (some (50, false)), .eqA false [false, false] (.tmp 55) (.tmp 56)⟩,
    ⟨(some 58), (some (50, false)), .eqB true (.tmp 54) (.tmp 57)⟩,
    ⟨(some 59), none, .pick (.tmp 50) (.const (.bool true)) (.tmp 58)⟩]

def f5r6 : List AInstr := [
    ⟨(some 6), none, .mov (.const (.bool false))⟩]

def f5r7 : List AInstr := [
    ⟨(some 60), none, .load (some 2) (.tmp 3)⟩,
    ⟨(some 61), none, .load (some 2) (.tmp 4)⟩,
    ⟨(some 62), none, .callF 13 [.tmp 60, .tmp 61]⟩,
    ⟨(some 63), none, .ibin .leq (.tmp 62) (.const (.int .i64 0))⟩,
    ⟨(some 64), none, .mov (.tmp 63)⟩,
    ⟨(some 65), (some (64, true)), .load (some 2) (.tmp 4)⟩,
    ⟨(some 66), (some (64, true)), .load (some 2) (.tmp 5)⟩,
    ⟨(some 67), (some (64, true)), .callF 13 [.tmp 65, .tmp 66]⟩,
    ⟨(some 68), (some (64, true)), .ibin .leq (.tmp 67) (.const (.int .i64 0))⟩,
    ⟨(some 69), none, .pick (.tmp 64) (.tmp 68) (.const (.bool false))⟩,
    ⟨(some 70), none, .mov (.tmp 69)⟩,
    ⟨(some 71), (some (70, true)), .load (some 2) (.tmp 3)⟩,
    ⟨(some 72), (some (70, true)), .load (some 2) (.tmp 5)⟩,
    ⟨(some 73), (some (70, true)), .callF 13 [.tmp 71, .tmp 72]⟩,
    ⟨(some 74), (some (70, true)), .ibin .gtr (.tmp 73) (.const (.int .i64 0))⟩,
    ⟨(some 75), none, .pick (.tmp 70) (.tmp 74) (.const (.bool false))⟩]

def f5r8 : List AInstr := [
    ⟨(some 6), none, .mov (.const (.bool false))⟩]

def f5r9 : List AInstr := [
    ⟨(some 76), none, .load (some 2) (.tmp 3)⟩,
    ⟨(some 77), none, .load (some 2) (.tmp 4)⟩,
    ⟨(some 78), none, .callF 14 [.tmp 76, .tmp 77]⟩,
    ⟨(some 79), none, .load (some 2) (.tmp 3)⟩,
    ⟨(some 80), none, .callF 13 [.tmp 78, .tmp 79]⟩,
    ⟨(some 81), none, .ibin .geq (.tmp 80) (.const (.int .i64 0))⟩,
    ⟨(some 82), none, .mov (.tmp 81)⟩,
    ⟨(some 83), (some (82, true)), .load (some 2) (.tmp 3)⟩,
    ⟨(some 84), (some (82, true)), .load (some 2) (.tmp 4)⟩,
    ⟨(some 85), (some (82, true)), .callF 14 [.tmp 83, .tmp 84]⟩,
    ⟨(some 86), (some (82, true)), .load (some 2) (.tmp 5)⟩,
    ⟨(some 87), (some (82, true)), .callF 14 [.tmp 85, .tmp 86]⟩,
    ⟨(some 88), (some (82, true)), .load (some 2) (.tmp 3)⟩,
    ⟨(some 89), (some (82, true)), .load (some 2) (.tmp 4)⟩,
    ⟨(some 90), (some (82, true)), .load (some 2) (.tmp 5)⟩,
    ⟨(some 91), (some (82, true)), .callF 14 [.tmp 89, .tmp 90]⟩,
    ⟨(some 92), (some (82, true)), .callF 14 [.tmp 88, .tmp 91]⟩,
    ⟨(some 93), (some (82, true)), .eqA false [false, false] (.tmp 87) (.tmp 92)⟩,
    ⟨(some 94), none, .pick (.tmp 82) (.tmp 93) (.const (.bool false))⟩,
    ⟨(some 6), none, .mov (.tmp 94)⟩]

def f5b : ACode := (.seq (.ops f5r0)
  (.keep [3, 4, 5] (.seq (.seq (.ops f5r1)
  (.keep [3, 4, 5, 12] (.cond (.tmp 12) (.keep [] (.seq (.ops f5r2)
  (.keep [6] .ret))) .skip)))
  (.keep [3, 4, 5] (.seq (.ops f5r3)
  (.keep [3, 4, 5, 7, 8] (.seq (.ops f5r4)
  (.keep [3, 4, 5, 7, 8, 9, 10] (.seq (.seq (.draw f5r5 [(0, 0, false), (0, 0, false), (0, 0, false), (0, 0, false), (0, 0, false), (0, 0, false), (0, 0, false), (0, 0, false), (0, 0, false), (0, 1, true), (0, 1, false), (0, 1, false), (1, 2, true), (2, 2, false), (2, 2, false), (2, 2, false), (2, 2, false), (2, 2, false), (2, 3, true), (2, 3, false), (2, 3, false), (3, 4, true), (4, 4, false), (4, 4, false), (4, 4, false), (4, 4, false), (4, 4, false), (4, 4, false), (4, 5, true), (5, 5, false), (4, 5, false), (4, 5, false), (4, 5, false), (5, 5, false), (5, 5, false)])
  (.keep [3, 4, 5, 59] (.cond (.tmp 59) (.keep [] (.seq (.ops f5r6)
  (.keep [6] .ret))) .skip)))
  (.keep [3, 4, 5] (.seq (.seq (.ops f5r7)
  (.keep [3, 4, 5, 75] (.cond (.tmp 75) (.keep [] (.seq (.ops f5r8)
  (.keep [6] .ret))) .skip)))
  (.keep [3, 4, 5] (.seq (.draw f5r9 [(0, 0, false), (0, 0, false), (0, 1, true), (0, 1, false), (1, 2, true), (2, 2, false), (2, 2, false), (2, 2, false), (2, 2, false), (2, 3, true), (2, 3, false), (3, 4, true), (2, 5, false), (2, 4, false), (2, 4, false), (4, 5, true), (5, 6, true), (6, 6, false), (6, 6, false), (6, 6, false)])
  (.keep [6] .ret))))))))))))))

def f5 : AFn := ⟨95, [.tmp 6], f5b⟩

theorem f5_ok : compFn Try.prog 5 = some f5.strip := by kernel_rfl

/- function 6: weirhouse/weirhousekeep.WideBack; parameters 3; operations that are not compiled: 0 -/
def f6r0 : List AInstr := [
    ⟨(some 3), none, .box (.tmp 0)⟩,
    ⟨(some 4), none, .box (.tmp 1)⟩,
    ⟨(some 5), none, .box (.tmp 2)⟩,
    ⟨(some 6), none, .mov (.const (.bool false))⟩]

def f6r1 : List AInstr := [
    ⟨(some 19), none, .callF 7 []⟩,
    ⟨(some 20), none, .un .not (.tmp 19)⟩]

def f6r2 : List AInstr := [
    ⟨(some 6), none, .mov (.const (.bool false))⟩]

def f6r3 : List AInstr := [
    ⟨(some 22), none, .load (some 2) (.tmp 3)⟩,
    ⟨(some 23), none, .load (some 2) (.tmp 4)⟩,
    ⟨(some 24), none, .callF 10 [.tmp 22, .tmp 23]⟩,
    ⟨(some 21), none, .mov (.tmp 24)⟩,
    ⟨(some 25), none, .extract 0 (.tmp 21)⟩,
    ⟨(some 26), none, .extract 1 (.tmp 21)⟩,
    ⟨(some 7), none, .alloc [.int .u64 0, .int .u64 0]⟩,
    ⟨none, none, .store 2 (.tmp 7) (.tmp 25)⟩,
    ⟨(some 8), none, .mov (.tmp 26)⟩]

def f6r4 : List AInstr := [
    ⟨(some 28), none, .load (some 2) (.tmp 7)⟩,
    ⟨(some 29), none, .load (some 2) (.tmp 4)⟩,
    ⟨(some 30), none, .callF 15 [.tmp 28, .tmp 29]⟩,
    ⟨(some 27), none, .mov (.tmp 30)⟩,
    ⟨(some 31), none, .extract 0 (.tmp 27)⟩,
    ⟨(some 32), none, .extract 1 (.tmp 27)⟩,
    ⟨(some 9), none, .alloc [.int .u64 0, .int .u64 0]⟩,
    ⟨none, none, .store 2 (.tmp 9) (.tmp 31)⟩,
    ⟨(some 10), none, .mov (.tmp 32)⟩]

def f6r5 : List AInstr := [
    ⟨(some 34), none, .load (some 2) (.tmp 4)⟩,
    ⟨(some 35), none, .load (some 2) (.tmp 3)⟩,
    ⟨(some 36), none, .callF 10 [.tmp 34, .tmp 35]⟩,
    ⟨(some 33), none, .mov (.tmp 36)⟩,
    ⟨(some 37), none, .extract 0 (.tmp 33)⟩,
    ⟨(some 38), none, .extract 1 (.tmp 33)⟩,
    ⟨(some 11), none, .alloc [.int .u64 0, .int .u64 0]⟩,
    ⟨none, none, .store 2 (.tmp 11) (.tmp 37)⟩,
    ⟨(some 12), none, .mov (.tmp 38)⟩]

def f6r6 : List AInstr := [
    ⟨(some 40), none, .load (some 2) (.tmp 7)⟩,
    ⟨(some 41), none, .load (some 2) (.tmp 5)⟩,
    ⟨(some 42), none, .callF 10 [.tmp 40, .tmp 41]⟩,
    ⟨(some 39), none, .mov (.tmp 42)⟩,
    ⟨(some 43), none, .extract 0 (.tmp 39)⟩,
    ⟨(some 44), none, .extract 1 (.tmp 39)⟩,
    ⟨(some 13), none, .alloc [.int .u64 0, .int .u64 0]⟩,
    ⟨none, none, .store 2 (.tmp 13) (.tmp 43)⟩,
    ⟨(some 14), none, .mov (.tmp 44)⟩]

def f6r7 : List AInstr := [
    ⟨(some 46), none, .load (some 2) (.tmp 4)⟩,
    ⟨(some 47), none, .load (some 2) (.tmp 5)⟩,
    ⟨(some 48), none, .callF 10 [.tmp 46, .tmp 47]⟩,
    ⟨(some 45), none, .mov (.tmp 48)⟩,
    ⟨(some 49), none, .extract 0 (.tmp 45)⟩,
    ⟨(some 50), none, .extract 1 (.tmp 45)⟩,
    ⟨(some 15), none, .alloc [.int .u64 0, .int .u64 0]⟩,
    ⟨none, none, .store 2 (.tmp 15) (.tmp 49)⟩,
    ⟨(some 16), none, .mov (.tmp 50)⟩]

def f6r8 : List AInstr := [
    ⟨(some 52), none, .load (some 2) (.tmp 3)⟩,
    ⟨(some 53), none, .load (some 2) (.tmp 15)⟩,
    ⟨(some 54), none, .callF 10 [.tmp 52, .tmp 53]⟩,
    ⟨(some 51), none, .mov (.tmp 54)⟩,
    ⟨(some 55), none, .extract 0 (.tmp 51)⟩,
    ⟨(some 56), none, .extract 1 (.tmp 51)⟩,
    ⟨(some 17), none, .alloc [.int .u64 0, .int .u64 0]⟩,
    ⟨none, none, .store 2 (.tmp 17) (.tmp 55)⟩,
    ⟨(some 18), none, .mov (.tmp 56)⟩]

def f6r9 : List AInstr := [
    ⟨(some 57), none, .load (some 2) (.tmp 9)⟩,
    ⟨(some 58), none, .load (some 2) (.tmp 3)⟩,
    ⟨(some 59), none, .eqA false [false, false] (.tmp 57) (.tmp 58)⟩,
    ⟨(some 60), none, .mov (.tmp 59)⟩,
    ⟨(some 61), (some (60, true)), .mov (.tmp 8)⟩,
    ⟨(some 62), (some (60, true)), .mov (.tmp 10)⟩,
    ⟨(some 63), (some (60, true)), .eqB false (.tmp 61) (.tmp 62)⟩,
    ⟨(some 64), none, .pick (.tmp 60) (.tmp 63) (.const (.bool false))⟩,
    ⟨(some 65), none, .mov (.tmp 64)⟩,
    ⟨(some 66), (some (65, true)), .load (some 2) (.tmp 7)⟩,
    ⟨(some 67), (some (65, true)), .load (some 2) (.tmp 11)⟩,
    ⟨(some 68), (some (65, true)), .eqA false [false, false] (.tmp 66) (.tmp 67)⟩,
    ⟨(some 69), none, .pick (.tmp 65) (.tmp 68) (.const (.bool false))⟩,
    ⟨(some 70), none, .mov (.tmp 69)⟩,
    ⟨(some 71), (some (70, true)), .mov (.tmp 8)⟩,
    ⟨(some 72), (some (70, true)), .mov (.tmp 12)⟩,
    ⟨(some 73), (some (70, true)), .eqB false (.tmp 71) (.tmp 72)⟩,
    ⟨(some 74), none, .pick (.tmp 70) (.tmp 73) (.const (.bool false))⟩,
    ⟨(some 75), none, .mov (.tmp 74)⟩,
    ⟨(some 76), (some (75, true)), .load (some 2) (.tmp 13)⟩,
    ⟨(some 77), (some (75, true)), .load (some 2) (.tmp 17)⟩,
    ⟨(some 78), (some (75, true)), .eqA false [false, false] (.tmp 76) (.tmp 77)⟩,
    ⟨(some 79), none, .pick (.tmp 75) (.tmp 78) (.const (.bool false))⟩,
    ⟨(some 80), none, .mov (.tmp 79)⟩,
    ⟨(some 81), (some (80, true)), .mov (.tmp 8)⟩,
    ⟨(some 82), (some (80, true)), .load (some 2) (.tmp 7)⟩,
    ⟨(some 83), (some (80, true)), .load (some 2) (.tmp 3)⟩,
    ⟨(some 84), (some (80, true)), .callF 13 [.tmp 82, .tmp 83]⟩,
    ⟨(some 85), (some (80, true)), .ibin .lss (.tmp 84) (.const (.int .i64 0))⟩,
    ⟨(some 86), (some (80, true)), .eqB false (.tmp 81) (.tmp 85)⟩,
    ⟨(some 87), none, .pick (.tmp 80) (.tmp 86) (.const (.bool false))⟩,
    ⟨(some 6), none, .mov (.tmp 87)⟩]

def f6b : ACode := (.seq (.ops f6r0)
  (.keep [3, 4, 5] (.seq (.seq (.ops f6r1)
  (.keep [3, 4, 5, 20] (.cond (.tmp 20) (.keep [] (.seq (.ops f6r2)
  (.keep [6] .ret))) .skip)))
  (.keep [3, 4, 5] (.seq (.ops f6r3)
  (.keep [3, 4, 5, 7, 8] (.seq (.ops f6r4)
  (.keep [3, 4, 5, 7, 8, 9, 10] (.seq (.ops f6r5)
  (.keep [3, 4, 5, 7, 8, 9, 10, 11, 12] (.seq (.ops f6r6)
  (.keep [3, 4, 5, 7, 8, 9, 10, 11, 12, 13] (.seq (.ops f6r7)
  (.keep [3, 7, 8, 9, 10, 11, 12, 13, 15] (.seq (.ops f6r8)
  (.keep [3, 7, 8, 9, 10, 11, 12, 13, 17] (.seq (.ops f6r9)
  (.keep [6] .ret))))))))))))))))))

def f6 : AFn := ⟨88, [.tmp 6], f6b⟩

theorem f6_ok : compFn Try.prog 6 = some f6.strip := by kernel_rfl

/- function 7: weirhouse/weirhousekeep.alive1; parameters 0; operations that are not compiled: 0 -/
def f7r0 : List AInstr := [
    ⟨(some 0), none, .mov (.const (.bool false))⟩]

def f7r1 : List AInstr := [
    ⟨(some 7), none, .build [.int .u64 0, .int .u64 0] [(1, 1, (.const (.int .u64 18446744073709551615)))]⟩,
    ⟨(some 8), none, .build [.int .u64 0, .int .u64 0] [(1, 1, (.const (.int .u64 1)))]⟩,
    ⟨(some 9), none, .callF 10 [.tmp 7, .tmp 8]⟩,
    ⟨(some 6), none, .mov (.tmp 9)⟩,
    ⟨(some 10), none, .extract 0 (.tmp 6)⟩,
    ⟨(some 11), none, .extract 1 (.tmp 6)⟩,
    ⟨(some 1), none, .alloc [.int .u64 0, .int .u64 0]⟩,
    ⟨none, none, .store 2 (.tmp 1) (.tmp 10)⟩,
    ⟨(some 2), none, .mov (.tmp 11)⟩]

def f7r2 : List AInstr := [
    ⟨(some 13), none, .build [.int .u64 0, .int .u64 0] [(0, 1, (.const (.int .u64 1)))]⟩,
    ⟨(some 14), none, .callF 8 [.tmp 13, .const (.int .u64 3)]⟩,
    ⟨(some 12), none, .mov (.tmp 14)⟩,
    ⟨(some 15), none, .extract 0 (.tmp 12)⟩,
    ⟨(some 16), none, .extract 1 (.tmp 12)⟩,
    ⟨(some 17), none, .extract 2 (.tmp 12)⟩,
    ⟨(some 3), none, .alloc [.int .u64 0, .int .u64 0]⟩,
    ⟨none, none, .store 2 (.tmp 3) (.tmp 15)⟩,
    ⟨(some 4), none, .mov (.tmp 16)⟩,
    ⟨(some 5), none, .mov (.tmp 17)⟩]

def f7r3 : List AInstr := [
    ⟨(some 18), none, .load (some 2) (.tmp 1)⟩,
    ⟨(some 19), none, .build [.int .u64 0, .int .u64 0] [(0, 1, (.const (.int .u64 1)))]⟩,
    ⟨(some 20), none, .eqA false [false, false] (.tmp 18) (.tmp 19)⟩,
    ⟨(some 21), none, .mov (.tmp 20)⟩,
    ⟨(some 22), (some (21, true)), .mov (.tmp 2)⟩,
    ⟨(some 23), (some (21, true)), .un .not (.tmp 22)⟩,
    ⟨(some 24), none, .pick (.tmp 21) (.tmp 23) (.const (.bool false))⟩,
    ⟨(some 25), none, .mov (.tmp 24)⟩,
    ⟨(some 26), (some (25, true)), .mov (.tmp 5)⟩,
    ⟨(some 27), (some (25, true)), .ibin .eql (.tmp 26) (.const (.int .i64 0))⟩,
    ⟨(some 28), none, .pick (.tmp 25) (.tmp 27) (.const (.bool false))⟩,
    ⟨(some 29), none, .mov (.tmp 28)⟩,
    ⟨(some 30), (some (29, true)), .load (some 2) (.tmp 3)⟩,
    ⟨(some 31), (some (29, true)), .build [.int .u64 0, .int .u64 0] [(1, 1, (.const (.int .u64 6148914691236517205)))]⟩,
    ⟨(some 32), (some (29, true)), .eqA false [false, false] (.tmp 30) (.tmp 31)⟩,
    ⟨(some 33), none, .pick (.tmp 29) (.tmp 32) (.const (.bool false))⟩,
    ⟨(some 34), none, .mov (.tmp 33)⟩,
    ⟨(some 35), (some (34, true)), .mov (.tmp 4)⟩,
    ⟨(some 36), (some (34, true)), .ibin .eql (.tmp 35) (.const (.int .u64 1))⟩,
    ⟨(some 37), none, .pick (.tmp 34) (.tmp 36) (.const (.bool false))⟩,
    ⟨(some 38), none, .mov (.tmp 37)⟩,
    ⟨(some 39), (some (38, true)), .callF 11 [.const (.int .u64 12), .const (.int .u64 18)]⟩,
    ⟨(some 40), (some (38, true)), .ibin .eql (.tmp 39) (.const (.int .u64 6))⟩,
    ⟨(some 41), none, .pick (.tmp 38) (.tmp 40) (.const (.bool false))⟩,
    ⟨(some 42), none, .mov (.tmp 41)⟩,
    ⟨(some 43), (some (42, true)), .callF 12 [.const (.int .u64 4), .const (.int .u64 6)]⟩,
    ⟨(some 44), (some (42, true)), .build [.int .u64 0, .int .u64 0] [(1, 1, (.const (.int .u64 12)))]⟩,
    ⟨(some 45), (some (42, true)), .eqA false [false, false] (.tmp 43) (.tmp 44)⟩,
    ⟨(some 46), none, .pick (.tmp 42) (.tmp 45) (.const (.bool false))⟩,
    ⟨(some 47), none, .mov (.tmp 46)⟩,
    ⟨(some 48), (some (47, true)), .callF 9 [.const (.int .u64 9223372036854775808), .const (.int .u64 4)]⟩,
    ⟨(some 49), (some (47, true)), .build [.int .u64 0, .int .u64 0] [(0, 1, (.const (.int .u64 2)))]⟩,
    ⟨(some 50), (some (47, true)), .eqA false [false, false] (.tmp 48) (.tmp 49)⟩,
    ⟨(some 51), none, .pick (.tmp 47) (.tmp 50) (.const (.bool false))⟩,
    ⟨(some 0), none, .mov (.tmp 51)⟩]

def f7b : ACode := (.seq (.ops f7r0)
  (.keep [] (.seq (.ops f7r1)
  (.keep [1, 2] (.seq (.ops f7r2)
  (.keep [1, 2, 3, 4, 5] (.seq (.ops f7r3)
  (.keep [0] .ret))))))))

def f7 : AFn := ⟨52, [.tmp 0], f7b⟩

theorem f7_ok : compFn Try.prog 7 = some f7.strip := by kernel_rfl

/- function 8: weirhouse/wide.Div; parameters 2; operations that are not compiled: 0 -/
def f8r0 : List AInstr := [
    ⟨(some 2), none, .box (.tmp 0)⟩,
    ⟨(some 4), none, .alloc [.int .u64 0, .int .u64 0]⟩,
    ⟨(some 5), none, .mov (.const (.int .u64 0))⟩,
    ⟨(some 6), none, .mov (.const (.int .i64 0))⟩]

def f8r1 : List AInstr := [
    ⟨(some 10), none, .mov (.tmp 1)⟩,
    ⟨(some 11), none, .ibin .eql (.tmp 10) (.const (.int .u64 0))⟩]

def f8r2 : List AInstr := [
    ⟨(some 12), none, .build [.int .u64 0, .int .u64 0] []⟩,
    ⟨none, none, .store 2 (.tmp 4) (.tmp 12)⟩,
    ⟨(some 5), none, .mov (.const (.int .u64 0))⟩,
    ⟨(some 6), none, .mov (.const (.int .i64 2))⟩]

def f8r3 : List AInstr := [
    ⟨(some 13), none, .fieldAddr 0 (.tmp 2)⟩,
    ⟨(some 14), none, .load none (.tmp 13)⟩,
    ⟨(some 15), none, .mov (.tmp 1)⟩,
    ⟨(some 16), none, .ibin .quo (.tmp 14) (.tmp 15)⟩,
    ⟨(some 17), none, .fieldAddr 0 (.tmp 2)⟩,
    ⟨(some 18), none, .load none (.tmp 17)⟩,
    ⟨(some 19), none, .mov (.tmp 1)⟩,
    ⟨(some 20), none, .ibin .rem (.tmp 18) (.tmp 19)⟩,
    ⟨(some 7), none, .mov (.tmp 16)⟩,
    ⟨(some 8), none, .mov (.tmp 20)⟩]

def f8r4 : List AInstr := [
    ⟨(some 22), none, .mov (.tmp 8)⟩,
    ⟨(some 23), none, .fieldAddr 1 (.tmp 2)⟩,
    ⟨(some 24), none, .load none (.tmp 23)⟩,
    ⟨(some 25), none, .mov (.tmp 1)⟩,
    ⟨(some 26), none, .callF 16 [.tmp 22, .tmp 24, .tmp 25]⟩,
    ⟨(some 21), none, .mov (.tmp 26)⟩,
    ⟨(some 27), none, .extract 0 (.tmp 21)⟩,
    ⟨(some 28), none, .extract 1 (.tmp 21)⟩,
    ⟨(some 9), none, .mov (.tmp 27)⟩,
    ⟨(some 8), none, .mov (.tmp 28)⟩]

def f8r5 : List AInstr := [
    ⟨(some 29), none, .mov (.tmp 7)⟩,
    ⟨(some 30), none, .mov (.tmp 9)⟩,
    ⟨(some 31), none, .build [.int .u64 0, .int .u64 0] [(0, 1, (.tmp 29)), (1, 1, (.tmp 30))]⟩,
    ⟨(some 32), none, .mov (.tmp 8)⟩,
    ⟨none, none, .store 2 (.tmp 4) (.tmp 31)⟩,
    ⟨(some 5), none, .mov (.tmp 32)⟩,
    ⟨(some 6), none, .mov (.const (.int .i64 0))⟩]

def f8b : ACode := (.seq (.ops f8r0)
  (.keep [1, 2, 4] (.seq (.seq (.ops f8r1)
  (.keep [1, 2, 4, 11] (.cond (.tmp 11) (.keep [4] (.seq (.ops f8r2)
  (.keep [4, 5, 6] .ret))) .skip)))
  (.keep [1, 2, 4] (.seq (.draw f8r3 [(0, 0, false), (0, 0, false), (0, 0, false), (0, 0, false), (0, 0, false), (0, 0, false), (0, 0, false), (0, 0, false), (0, 0, false), (0, 0, false)])
  (.keep [1, 2, 4, 7, 8] (.seq (.ops f8r4)
  (.keep [4, 7, 8, 9] (.seq (.ops f8r5)
  (.keep [4, 5, 6] .ret))))))))))

def f8 : AFn := ⟨33, [.cell 4 (some 2), .tmp 5, .tmp 6], f8b⟩

theorem f8_ok : compFn Try.prog 8 = some f8.strip := by kernel_rfl

/- function 9: weirhouse/wide.Mul; parameters 2; operations that are not compiled: 0 -/
def f9r0 : List AInstr := [
    ⟨(some 4), none, .alloc [.int .u64 0, .int .u64 0]⟩]

def f9r1 : List AInstr := [
    ⟨(some 8), none, .mov (.tmp 0)⟩,
    ⟨(some 9), none, .mov (.tmp 1)⟩,
    ⟨(some 10), none, .callF 17 [.tmp 8, .tmp 9]⟩,
    ⟨(some 7), none, .mov (.tmp 10)⟩,
    ⟨(some 11), none, .extract 0 (.tmp 7)⟩,
    ⟨(some 12), none, .extract 1 (.tmp 7)⟩,
    ⟨(some 5), none, .mov (.tmp 11)⟩,
    ⟨(some 6), none, .mov (.tmp 12)⟩]

def f9r2 : List AInstr := [
    ⟨(some 13), none, .mov (.tmp 5)⟩,
    ⟨(some 14), none, .mov (.tmp 6)⟩,
    ⟨(some 15), none, .build [.int .u64 0, .int .u64 0] [(0, 1, (.tmp 13)), (1, 1, (.tmp 14))]⟩,
    ⟨none, none, .store 2 (.tmp 4) (.tmp 15)⟩]

def f9b : ACode := (.seq (.ops f9r0)
  (.keep [0, 1, 4] (.seq (.ops f9r1)
  (.keep [4, 5, 6] (.seq (.ops f9r2)
  (.keep [4] .ret))))))

def f9 : AFn := ⟨16, [.cell 4 (some 2)], f9b⟩

theorem f9_ok : compFn Try.prog 9 = some f9.strip := by kernel_rfl

/- function 10: weirhouse/wide.Add; parameters 2; operations that are not compiled: 0 -/
def f10r0 : List AInstr := [
    ⟨(some 2), none, .box (.tmp 0)⟩,
    ⟨(some 3), none, .box (.tmp 1)⟩,
    ⟨(some 4), none, .alloc [.int .u64 0, .int .u64 0]⟩,
    ⟨(some 5), none, .mov (.const (.bool false))⟩]

def f10r1 : List AInstr := [
    ⟨(some 11), none, .fieldAddr 1 (.tmp 2)⟩,
    ⟨(some 12), none, .load none (.tmp 11)⟩,
    ⟨(some 13), none, .fieldAddr 1 (.tmp 3)⟩,
    ⟨(some 14), none, .load none (.tmp 13)⟩,
    ⟨(some 15), none, .carry false (.tmp 12) (.tmp 14) (.const (.int .u64 0))⟩,
    ⟨(some 10), none, .mov (.tmp 15)⟩,
    ⟨(some 16), none, .extract 0 (.tmp 10)⟩,
    ⟨(some 17), none, .extract 1 (.tmp 10)⟩,
    ⟨(some 6), none, .mov (.tmp 16)⟩,
    ⟨(some 7), none, .mov (.tmp 17)⟩]

def f10r2 : List AInstr := [
    ⟨(some 19), none, .fieldAddr 0 (.tmp 2)⟩,
    ⟨(some 20), none, .load none (.tmp 19)⟩,
    ⟨(some 21), none, .fieldAddr 0 (.tmp 3)⟩,
    ⟨(some 22), none, .load none (.tmp 21)⟩,
    ⟨(some 23), none, .mov (.tmp 7)⟩,
    ⟨(some 24), none, .carry false (.tmp 20) (.tmp 22) (.tmp 23)⟩,
    ⟨(some 18), none, .mov (.tmp 24)⟩,
    ⟨(some 25), none, .extract 0 (.tmp 18)⟩,
    ⟨(some 26), none, .extract 1 (.tmp 18)⟩,
    ⟨(some 8), none, .mov (.tmp 25)⟩,
    ⟨(some 9), none, .mov (.tmp 26)⟩]

def f10r3 : List AInstr := [
    ⟨(some 27), none, .mov (.tmp 8)⟩,
    ⟨(some 28), none, .mov (.tmp 6)⟩,
    ⟨(some 29), none, .build [.int .u64 0, .int .u64 0] [(0, 1, (.tmp 27)), (1, 1, (.tmp 28))]⟩,
    ⟨(some 30), none, .mov (.tmp 9)⟩,
    ⟨(some 31), none, .ibin .eql (.tmp 30) (.const (.int .u64 1))⟩,
    ⟨none, none, .store 2 (.tmp 4) (.tmp 29)⟩,
    ⟨(some 5), none, .mov (.tmp 31)⟩]

def f10b : ACode := (.seq (.ops f10r0)
  (.keep [2, 3, 4] (.seq (.ops f10r1)
  (.keep [2, 3, 4, 6, 7] (.seq (.ops f10r2)
  (.keep [4, 6, 8, 9] (.seq (.ops f10r3)
  (.keep [4, 5] .ret))))))))

def f10 : AFn := ⟨32, [.cell 4 (some 2), .tmp 5], f10b⟩

theorem f10_ok : compFn Try.prog 10 = some f10.strip := by kernel_rfl

/- function 11: weirhouse/wide.Gcd; parameters 2; operations that are not compiled: 0 -/
def f11r0 : List AInstr := [
    ⟨(some 4), none, .mov (.const (.int .u64 0))⟩]

def f11r1 : List AInstr := [
    ⟨(some 5), none, .mov (.tmp 1)⟩,
    ⟨(some 6), none, .ibin .gtr (.tmp 5) (.const (.int .u64 0))⟩]

def f11r2 : List AInstr := [
    ⟨(some 7), none, .mov (.tmp 1)⟩,
    ⟨(some 8), none, .mov (.tmp 0)⟩,
    ⟨(some 9), none, .mov (.tmp 1)⟩,
    ⟨(some 10), none, .ibin .rem (.tmp 8) (.tmp 9)⟩,
    ⟨(some 0), none, .mov (.tmp 7)⟩,
    ⟨(some 1), none, .mov (.tmp 10)⟩]

/-- live: [0, 1] -/
def f11l0 : ACode := (.seq (.seq (.ops f11r1)
  (.keep [0, 1, 6] (.cond (.tmp 6) .skip (.exit 0))))
  (.keep [0, 1] (.block 1 (.draw f11r2 [(0, 0, false), (0, 0, false), (0, 0, false), (0, 0, false), (0, 0, false), (0, 0, false)]))))

def f11r4 : List AInstr := [
    ⟨(some 11), none, .mov (.tmp 0)⟩,
    ⟨(some 4), none, .mov (.tmp 11)⟩]

def f11b : ACode := (.seq (.ops f11r0)
  (.keep [0, 1] (.seq (.block 0 (.loop f11l0))
  (.keep [0] (.seq (.ops f11r4)
  (.keep [4] .ret))))))

def f11 : AFn := ⟨12, [.tmp 4], f11b⟩

theorem f11_ok : compFn Try.prog 11 = some f11.strip := by kernel_rfl

/- function 12: weirhouse/wide.Lcm; parameters 2; operations that are not compiled: 0 -/
def f12r0 : List AInstr := [
    ⟨(some 4), none, .alloc [.int .u64 0, .int .u64 0]⟩]

def f12r1 : List AInstr := [
    ⟨(some 5), none, .mov (.tmp 0)⟩,
    ⟨(some 6), none, .ibin .eql (.tmp 5) (.const (.int .u64 0))⟩,
    ⟨(some 7), none, .mov (.tmp 6)⟩,
    ⟨(some 8), (some (7, false)), .mov (.tmp 1)⟩,
    ⟨(some 9), (some (7, false)), .ibin .eql (.tmp 8) (.const (.int .u64 0))⟩,
    ⟨(some 10), none, .pick (.tmp 7) (.const (.bool true)) (.tmp 9)⟩]

def f12r2 : List AInstr := [
    ⟨(some 11), none, .build [.int .u64 0, .int .u64 0] []⟩,
    ⟨none, none, .store 2 (.tmp 4) (.tmp 11)⟩]

def f12r3 : List AInstr := [
    ⟨(some 12), none, .mov (.tmp 0)⟩,
    ⟨(some 13), none, .mov (.tmp 0)⟩,
    ⟨(some 14), none, .mov (.tmp 1)⟩,
    ⟨(some 15), none, .callF 11 [.tmp 13, .tmp 14]⟩,
    ⟨(some 16), none, .ibin .quo (.tmp 12) (.tmp 15)⟩,
    ⟨(some 17), none, .mov (.tmp 1)⟩,
    ⟨(some 18), none, .callF 9 [.tmp 16, .tmp 17]⟩,
    ⟨none, none, .store 2 (.tmp 4) (.tmp 18)⟩]

def f12b : ACode := (.seq (.ops f12r0)
  (.keep [0, 1, 4] (.seq (.seq (.ops f12r1)
  (.keep [0, 1, 4, 10] (.cond (.tmp 10) (.keep [4] (.seq (.ops f12r2)
  (.keep [4] .ret))) .skip)))
  (.keep [0, 1, 4] (.seq (.ops f12r3)
  (.keep [4] .ret))))))

def f12 : AFn := ⟨19, [.cell 4 (some 2)], f12b⟩

theorem f12_ok : compFn Try.prog 12 = some f12.strip := by kernel_rfl

/- function 13: weirhouse/wide.Cmp; parameters 2; operations that are not compiled: 0 -/
def f13r0 : List AInstr := [
    ⟨(some 2), none, .box (.tmp 0)⟩,
    ⟨(some 3), none, .box (.tmp 1)⟩,
    ⟨(some 4), none, .mov (.const (.int .i64 0))⟩]

def f13r1 : List AInstr := [
    ⟨(some 5), none, .fieldAddr 0 (.tmp 2)⟩,
    ⟨(some 6), none, .load none (.tmp 5)⟩,
    ⟨(some 7), none, .fieldAddr 0 (.tmp 3)⟩,
    ⟨(some 8), none, .load none (.tmp 7)⟩,
    ⟨(some 9), none, .callF 20 [.tmp 6, .tmp 8]⟩,
    ⟨(some 10), none, .fieldAddr 1 (.tmp 2)⟩,
    ⟨(some 11), none, .load none (.tmp 10)⟩,
    ⟨(some 12), none, .fieldAddr 1 (.tmp 3)⟩,
    ⟨(some 13), none, .load none (.tmp 12)⟩,
    ⟨(some 14), none, .callF 20 [.tmp 11, .tmp 13]⟩,
    ⟨(some 15), none, .buildSlice 1 2 [.int .i64 0, .int .i64 0] [(0, 1, (.tmp 9)), (1, 1, (.tmp 14))]⟩,
    ⟨(some 16), none, .callF 19 [.tmp 15]⟩,
    ⟨(some 4), none, .mov (.tmp 16)⟩]

def f13b : ACode := (.seq (.ops f13r0)
  (.keep [2, 3] (.seq (.draw f13r1 [(0, 0, false), (0, 0, false), (0, 0, false), (0, 0, false), (0, 1, true), (0, 1, false), (0, 1, false), (0, 1, false), (0, 1, false), (1, 2, true), (2, 3, true), (3, 4, true), (4, 4, false)])
  (.keep [4] .ret))))

def f13 : AFn := ⟨17, [.tmp 4], f13b⟩

theorem f13_ok : compFn Try.prog 13 = some f13.strip := by kernel_rfl

/- function 14: weirhouse/wide.Sat; parameters 2; operations that are not compiled: 0 -/
def f14r0 : List AInstr := [
    ⟨(some 2), none, .box (.tmp 0)⟩,
    ⟨(some 3), none, .box (.tmp 1)⟩,
    ⟨(some 4), none, .alloc [.int .u64 0, .int .u64 0]⟩]

def f14r1 : List AInstr := [
    ⟨(some 8), none, .load (some 2) (.tmp 2)⟩,
    ⟨(some 9), none, .load (some 2) (.tmp 3)⟩,
    ⟨(some 10), none, .callF 10 [.tmp 8, .tmp 9]⟩,
    ⟨(some 7), none, .mov (.tmp 10)⟩,
    ⟨(some 11), none, .extract 0 (.tmp 7)⟩,
    ⟨(some 12), none, .extract 1 (.tmp 7)⟩,
    ⟨(some 5), none, .alloc [.int .u64 0, .int .u64 0]⟩,
    ⟨none, none, .store 2 (.tmp 5) (.tmp 11)⟩,
    ⟨(some 6), none, .mov (.tmp 12)⟩]

def f14r2 : List AInstr := [
    ⟨(some 13), none, .mov (.tmp 6)⟩]

def f14r3 : List AInstr := [
    ⟨(some 14), none, .build [.int .u64 0, .int .u64 0] [(0, 1, (.const (.int .u64 18446744073709551615))), (1, 1, (.const (.int .u64 18446744073709551615)))]⟩,
    ⟨none, none, .store 2 (.tmp 4) (.tmp 14)⟩]

def f14r4 : List AInstr := [
    ⟨(some 15), none, .load (some 2) (.tmp 5)⟩,
    ⟨none, none, .store 2 (.tmp 4) (.tmp 15)⟩]

def f14b : ACode := (.seq (.ops f14r0)
  (.keep [2, 3, 4] (.seq (.ops f14r1)
  (.keep [4, 5, 6] (.seq (.seq (.ops f14r2)
  (.keep [4, 5, 13] (.cond (.tmp 13) (.keep [4] (.seq (.ops f14r3)
  (.keep [4] .ret))) .skip)))
  (.keep [4, 5] (.seq (.ops f14r4)
  (.keep [4] .ret))))))))

def f14 : AFn := ⟨16, [.cell 4 (some 2)], f14b⟩

theorem f14_ok : compFn Try.prog 14 = some f14.strip := by kernel_rfl

/- function 15: weirhouse/wide.Sub; parameters 2; operations that are not compiled: 0 -/
def f15r0 : List AInstr := [
    ⟨(some 2), none, .box (.tmp 0)⟩,
    ⟨(some 3), none, .box (.tmp 1)⟩,
    ⟨(some 4), none, .alloc [.int .u64 0, .int .u64 0]⟩,
    ⟨(some 5), none, .mov (.const (.bool false))⟩]

def f15r1 : List AInstr := [
    ⟨(some 11), none, .fieldAddr 1 (.tmp 2)⟩,
    ⟨(some 12), none, .load none (.tmp 11)⟩,
    ⟨(some 13), none, .fieldAddr 1 (.tmp 3)⟩,
    ⟨(some 14), none, .load none (.tmp 13)⟩,
    ⟨(some 15), none, .carry true (.tmp 12) (.tmp 14) (.const (.int .u64 0))⟩,
    ⟨(some 10), none, .mov (.tmp 15)⟩,
    ⟨(some 16), none, .extract 0 (.tmp 10)⟩,
    ⟨(some 17), none, .extract 1 (.tmp 10)⟩,
    ⟨(some 6), none, .mov (.tmp 16)⟩,
    ⟨(some 7), none, .mov (.tmp 17)⟩]

def f15r2 : List AInstr := [
    ⟨(some 19), none, .fieldAddr 0 (.tmp 2)⟩,
    ⟨(some 20), none, .load none (.tmp 19)⟩,
    ⟨(some 21), none, .fieldAddr 0 (.tmp 3)⟩,
    ⟨(some 22), none, .load none (.tmp 21)⟩,
    ⟨(some 23), none, .mov (.tmp 7)⟩,
    ⟨(some 24), none, .carry true (.tmp 20) (.tmp 22) (.tmp 23)⟩,
    ⟨(some 18), none, .mov (.tmp 24)⟩,
    ⟨(some 25), none, .extract 0 (.tmp 18)⟩,
    ⟨(some 26), none, .extract 1 (.tmp 18)⟩,
    ⟨(some 8), none, .mov (.tmp 25)⟩,
    ⟨(some 9), none, .mov (.tmp 26)⟩]

def f15r3 : List AInstr := [
    ⟨(some 27), none, .mov (.tmp 8)⟩,
    ⟨(some 28), none, .mov (.tmp 6)⟩,
    ⟨(some 29), none, .build [.int .u64 0, .int .u64 0] [(0, 1, (.tmp 27)), (1, 1, (.tmp 28))]⟩,
    ⟨(some 30), none, .mov (.tmp 9)⟩,
    ⟨(some 31), none, .ibin .eql (.tmp 30) (.const (.int .u64 1))⟩,
    ⟨none, none, .store 2 (.tmp 4) (.tmp 29)⟩,
    ⟨(some 5), none, .mov (.tmp 31)⟩]

def f15b : ACode := (.seq (.ops f15r0)
  (.keep [2, 3, 4] (.seq (.ops f15r1)
  (.keep [2, 3, 4, 6, 7] (.seq (.ops f15r2)
  (.keep [4, 6, 8, 9] (.seq (.ops f15r3)
  (.keep [4, 5] .ret))))))))

def f15 : AFn := ⟨32, [.cell 4 (some 2), .tmp 5], f15b⟩

theorem f15_ok : compFn Try.prog 15 = some f15.strip := by kernel_rfl

/- function 16: math/bits.Div64; parameters 3; operations that are not compiled: 2 -/
def f16r0 : List AInstr := [
    ⟨(some 6), none, .mov (.const (.int .u64 0))⟩,
    ⟨(some 7), none, .mov (.const (.int .u64 0))⟩]

def f16r1 : List AInstr := [
    ⟨(some 19), none, .mov (.tmp 2)⟩,
    ⟨(some 20), none, .ibin .eql (.tmp 19) (.const (.int .u64 0))⟩]

def f16r2 : List AInstr := [
    ⟨(some 21), none, .load none .bad⟩,
    ⟨none, none, .bad⟩]

def f16r3 : List AInstr := [
    ⟨(some 22), none, .mov (.tmp 2)⟩,
    ⟨(some 23), none, .mov (.tmp 0)⟩,
    ⟨(some 24), none, .ibin .leq (.tmp 22) (.tmp 23)⟩]

def f16r4 : List AInstr := [
    ⟨(some 25), none, .load none .bad⟩,
    ⟨none, none, .bad⟩]

def f16r5 : List AInstr := [
    ⟨(some 26), none, .mov (.tmp 0)⟩,
    ⟨(some 27), none, .ibin .eql (.tmp 26) (.const (.int .u64 0))⟩]

def f16r6 : List AInstr := [
    ⟨(some 28), none, .mov (.tmp 1)⟩,
    ⟨(some 29), none, .mov (.tmp 2)⟩,
    ⟨(some 30), none, .ibin .quo (.tmp 28) (.tmp 29)⟩,
    ⟨(some 31), none, .mov (.tmp 1)⟩,
    ⟨(some 32), none, .mov (.tmp 2)⟩,
    ⟨(some 33), none, .ibin .rem (.tmp 31) (.tmp 32)⟩,
    ⟨(some 6), none, .mov (.tmp 30)⟩,
    ⟨(some 7), none, .mov (.tmp 33)⟩]

def f16r7 : List AInstr := [
    ⟨(some 34), none, .mov (.tmp 2)⟩,
    ⟨(some 35), none, .callF 22 [.tmp 34]⟩,
    ⟨(some 36), none, .conv .u64 (.tmp 35)⟩,
    ⟨(some 8), none, .mov (.tmp 36)⟩]

def f16r8 : List AInstr := [
    ⟨(some 37), none, .mov (.tmp 2)⟩,
    ⟨(some 38), none, .mov (.tmp 8)⟩,
    ⟨(some 39), none, .ibin .shl (.tmp 37) (.tmp 38)⟩,
    ⟨(some 2), none, .mov (.tmp 39)⟩]

def f16r9 : List AInstr := [
    ⟨(some 40), none, .mov (.tmp 2)⟩,
    ⟨(some 41), none, .ibin .shr (.tmp 40) (.const (.int .u64 32))⟩,
    ⟨(some 9), none, .mov (.tmp 41)⟩]

def f16r10 : List AInstr := [
    ⟨(some 42), none, .mov (.tmp 2)⟩,
    ⟨(some 43), none, .ibin .and (.tmp 42) (.const (.int .u64 4294967295))⟩,
    ⟨(some 10), none, .mov (.tmp 43)⟩]

def f16r11 : List AInstr := [
    ⟨(some 44), none, .mov (.tmp 0)⟩,
    ⟨(some 45), none, .mov (.tmp 8)⟩,
    ⟨(some 46), none, .ibin .shl (.tmp 44) (.tmp 45)⟩,
    ⟨(some 47), none, .mov (.tmp 1)⟩,
    ⟨(some 48), none, .mov (.tmp 8)⟩,
    ⟨(some 49), none, .ibin .sub (.const (.int .u64 64)) (.tmp 48)⟩,
    ⟨(some 50), none, .ibin .shr (.tmp 47) (.tmp 49)⟩,
    ⟨(some 51), none, .ibin .or (.tmp 46) (.tmp 50)⟩,
    ⟨(some 11), none, .mov (.tmp 51)⟩]

def f16r12 : List AInstr := [
    ⟨(some 52), none, .mov (.tmp 1)⟩,
    ⟨(some 53), none, .mov (.tmp 8)⟩,
    ⟨(some 54), none, .ibin .shl (.tmp 52) (.tmp 53)⟩,
    ⟨(some 12), none, .mov (.tmp 54)⟩]

def f16r13 : List AInstr := [
    ⟨(some 55), none, .mov (.tmp 12)⟩,
    ⟨(some 56), none, .ibin .shr (.tmp 55) (.const (.int .u64 32))⟩,
    ⟨(some 13), none, .mov (.tmp 56)⟩]

def f16r14 : List AInstr := [
    ⟨(some 57), none, .mov (.tmp 12)⟩,
    ⟨(some 58), none, .ibin .and (.tmp 57) (.const (.int .u64 4294967295))⟩,
    ⟨(some 14), none, .mov (.tmp 58)⟩]

def f16r15 : List AInstr := [
    ⟨(some 59), none, .mov (.tmp 11)⟩,
    ⟨(some 60), none, .mov (.tmp 9)⟩,
    ⟨(some 61), none, .ibin .quo (.tmp 59) (.tmp 60)⟩,
    ⟨(some 15), none, .mov (.tmp 61)⟩]

def f16r16 : List AInstr := [
    ⟨(some 62), none, .mov (.tmp 11)⟩,
    ⟨(some 63), none, .mov (.tmp 15)⟩,
    ⟨(some 64), none, .mov (.tmp 9)⟩,
    ⟨(some 65), none, .ibin .mul (.tmp 63) (.tmp 64)⟩,
    ⟨(some 66), none, .ibin .sub (.tmp 62) (.tmp 65)⟩,
    ⟨(some 16), none, .mov (.tmp 66)⟩]

def f16r17 : List AInstr := [
    ⟨(some 67), none, .mov (.tmp 15)⟩,
    ⟨(some 68), none, .ibin .geq (.tmp 67) (.const (.int .u64 4294967296))⟩,
    ⟨(some 69), none, .mov (.tmp 68)⟩,
    ⟨(some 70), (some (69, false)), .mov (.tmp 15)⟩,
    ⟨(some 71), (some (69, false)), .mov (.tmp 10)⟩,
    ⟨(some 72), (some (69, false)), .ibin .mul (.tmp 70) (.tmp 71)⟩,
    ⟨(some 73), (some (69, false)), .mov (.tmp 16)⟩,
    ⟨(some 74), (some (69, false)), .ibin .mul (.const (.int .u64 4294967296)) (.tmp 73)⟩,
    ⟨(some 75), (some (69, false)), .mov (.tmp 13)⟩,
    ⟨(some 76), (some (69, false)), .ibin .add (.tmp 74) (.tmp 75)⟩,
    ⟨(some 77), (some (69, false)), .ibin .gtr (.tmp 72) (.tmp 76)⟩,
    ⟨(some 78), none, .pick (.tmp 69) (.const (.bool true)) (.tmp 77)⟩]

def f16r18 : List AInstr := [
    ⟨(some 79), none, .mov (.tmp 15)⟩,
    ⟨(some 80), none, .ibin .sub (.tmp 79) (.const (.int .u64 1))⟩,
    ⟨(some 15), none, .mov (.tmp 80)⟩]

def f16r19 : List AInstr := [
    ⟨(some 81), none, .mov (.tmp 16)⟩,
    ⟨(some 82), none, .mov (.tmp 9)⟩,
    ⟨(some 83), none, .ibin .add (.tmp 81) (.tmp 82)⟩,
    ⟨(some 16), none, .mov (.tmp 83)⟩]

def f16r20 : List AInstr := [
    ⟨(some 84), none, .mov (.tmp 16)⟩,
    ⟨(some 85), none, .ibin .geq (.tmp 84) (.const (.int .u64 4294967296))⟩]

/-- live: [2, 8, 9, 10, 11, 13, 14, 15, 16] -/
def f16l0 : ACode := (.seq (.seq (.ops f16r17)
  (.keep [2, 8, 9, 10, 11, 13, 14, 15, 16, 78] (.cond (.tmp 78) .skip (.exit 0))))
  (.keep [2, 8, 9, 10, 11, 13, 14, 15, 16] (.block 1 (.seq (.ops f16r18)
  (.keep [2, 8, 9, 10, 11, 13, 14, 15, 16] (.seq (.ops f16r19)
  (.keep [2, 8, 9, 10, 11, 13, 14, 15, 16] (.seq (.ops f16r20)
  (.keep [2, 8, 9, 10, 11, 13, 14, 15, 16, 85] (.cond (.tmp 85) (.exit 0) .skip))))))))))

def f16r22 : List AInstr := [
    ⟨(some 86), none, .mov (.tmp 11)⟩,
    ⟨(some 87), none, .ibin .mul (.tmp 86) (.const (.int .u64 4294967296))⟩,
    ⟨(some 88), none, .mov (.tmp 13)⟩,
    ⟨(some 89), none, .ibin .add (.tmp 87) (.tmp 88)⟩,
    ⟨(some 90), none, .mov (.tmp 15)⟩,
    ⟨(some 91), none, .mov (.tmp 2)⟩,
    ⟨(some 92), none, .ibin .mul (.tmp 90) (.tmp 91)⟩,
    ⟨(some 93), none, .ibin .sub (.tmp 89) (.tmp 92)⟩,
    ⟨(some 17), none, .mov (.tmp 93)⟩]

def f16r23 : List AInstr := [
    ⟨(some 94), none, .mov (.tmp 17)⟩,
    ⟨(some 95), none, .mov (.tmp 9)⟩,
    ⟨(some 96), none, .ibin .quo (.tmp 94) (.tmp 95)⟩,
    ⟨(some 18), none, .mov (.tmp 96)⟩]

def f16r24 : List AInstr := [
    ⟨(some 97), none, .mov (.tmp 17)⟩,
    ⟨(some 98), none, .mov (.tmp 18)⟩,
    ⟨(some 99), none, .mov (.tmp 9)⟩,
    ⟨(some 100), none, .ibin .mul (.tmp 98) (.tmp 99)⟩,
    ⟨(some 101), none, .ibin .sub (.tmp 97) (.tmp 100)⟩,
    ⟨(some 16), none, .mov (.tmp 101)⟩]

def f16r25 : List AInstr := [
    ⟨(some 102), none, .mov (.tmp 18)⟩,
    ⟨(some 103), none, .ibin .geq (.tmp 102) (.const (.int .u64 4294967296))⟩,
    ⟨(some 104), none, .mov (.tmp 103)⟩,
    ⟨(some 105), (some (104, false)), .mov (.tmp 18)⟩,
    ⟨(some 106), (some (104, false)), .mov (.tmp 10)⟩,
    ⟨(some 107), (some (104, false)), .ibin .mul (.tmp 105) (.tmp 106)⟩,
    ⟨(some 108), (some (104, false)), .mov (.tmp 16)⟩,
    ⟨(some 109), (some (104, false)), .ibin .mul (.const (.int .u64 4294967296)) (.tmp 108)⟩,
    ⟨(some 110), (some (104, false)), .mov (.tmp 14)⟩,
    ⟨(some 111), (some (104, false)), .ibin .add (.tmp 109) (.tmp 110)⟩,
    ⟨(some 112), (some (104, false)), .ibin .gtr (.tmp 107) (.tmp 111)⟩,
    ⟨(some 113), none, .pick (.tmp 104) (.const (.bool true)) (.tmp 112)⟩]

def f16r26 : List AInstr := [
    ⟨(some 114), none, .mov (.tmp 18)⟩,
    ⟨(some 115), none, .ibin .sub (.tmp 114) (.const (.int .u64 1))⟩,
    ⟨(some 18), none, .mov (.tmp 115)⟩]

def f16r27 : List AInstr := [
    ⟨(some 116), none, .mov (.tmp 16)⟩,
    ⟨(some 117), none, .mov (.tmp 9)⟩,
    ⟨(some 118), none, .ibin .add (.tmp 116) (.tmp 117)⟩,
    ⟨(some 16), none, .mov (.tmp 118)⟩]

def f16r28 : List AInstr := [
    ⟨(some 119), none, .mov (.tmp 16)⟩,
    ⟨(some 120), none, .ibin .geq (.tmp 119) (.const (.int .u64 4294967296))⟩]

/-- live: [2, 8, 9, 10, 14, 15, 16, 17, 18] -/
def f16l1 : ACode := (.seq (.seq (.ops f16r25)
  (.keep [2, 8, 9, 10, 14, 15, 16, 17, 18, 113] (.cond (.tmp 113) .skip (.exit 2))))
  (.keep [2, 8, 9, 10, 14, 15, 16, 17, 18] (.block 3 (.seq (.ops f16r26)
  (.keep [2, 8, 9, 10, 14, 15, 16, 17, 18] (.seq (.ops f16r27)
  (.keep [2, 8, 9, 10, 14, 15, 16, 17, 18] (.seq (.ops f16r28)
  (.keep [2, 8, 9, 10, 14, 15, 16, 17, 18, 120] (.cond (.tmp 120) (.exit 2) .skip))))))))))

def f16r30 : List AInstr := [
    ⟨(some 121), none, .mov (.tmp 15)⟩,
    ⟨(some 122), none, .ibin .mul (.tmp 121) (.const (.int .u64 4294967296))⟩,
    ⟨(some 123), none, .mov (.tmp 18)⟩,
    ⟨(some 124), none, .ibin .add (.tmp 122) (.tmp 123)⟩,
    ⟨(some 125), none, .mov (.tmp 17)⟩,
    ⟨(some 126), none, .ibin .mul (.tmp 125) (.const (.int .u64 4294967296))⟩,
    ⟨(some 127), none, .mov (.tmp 14)⟩,
    ⟨(some 128), none, .ibin .add (.tmp 126) (.tmp 127)⟩,
    ⟨(some 129), none, .mov (.tmp 18)⟩,
    ⟨(some 130), none, .mov (.tmp 2)⟩,
    ⟨(some 131), none, .ibin .mul (.tmp 129) (.tmp 130)⟩,
    ⟨(some 132), none, .ibin .sub (.tmp 128) (.tmp 131)⟩,
    ⟨(some 133), none, .mov (.tmp 8)⟩,
    ⟨(some 134), none, .ibin .shr (.tmp 132) (.tmp 133)⟩,
    ⟨(some 6), none, .mov (.tmp 124)⟩,
    ⟨(some 7), none, .mov (.tmp 134)⟩]

def f16b : ACode := (.seq (.ops f16r0)
  (.keep [0, 1, 2] (.seq (.seq (.ops f16r1)
  (.keep [0, 1, 2, 20] (.cond (.tmp 20) (.keep [0, 1, 2] (.ops f16r2)) .skip)))
  (.keep [0, 1, 2] (.seq (.seq (.ops f16r3)
  (.keep [0, 1, 2, 24] (.cond (.tmp 24) (.keep [0, 1, 2] (.ops f16r4)) .skip)))
  (.keep [0, 1, 2] (.seq (.seq (.ops f16r5)
  (.keep [0, 1, 2, 27] (.cond (.tmp 27) (.keep [1, 2] (.seq (.draw f16r6 [(0, 0, false), (0, 0, false), (0, 0, false), (0, 0, false), (0, 0, false), (0, 0, false), (0, 0, false), (0, 0, false)])
  (.keep [6, 7] .ret))) .skip)))
  (.keep [0, 1, 2] (.seq (.ops f16r7)
  (.keep [0, 1, 2, 8] (.seq (.ops f16r8)
  (.keep [0, 1, 2, 8] (.seq (.ops f16r9)
  (.keep [0, 1, 2, 8, 9] (.seq (.ops f16r10)
  (.keep [0, 1, 2, 8, 9, 10] (.seq (.ops f16r11)
  (.keep [1, 2, 8, 9, 10, 11] (.seq (.ops f16r12)
  (.keep [2, 8, 9, 10, 11, 12] (.seq (.ops f16r13)
  (.keep [2, 8, 9, 10, 11, 12, 13] (.seq (.ops f16r14)
  (.keep [2, 8, 9, 10, 11, 13, 14] (.seq (.ops f16r15)
  (.keep [2, 8, 9, 10, 11, 13, 14, 15] (.seq (.ops f16r16)
  (.keep [2, 8, 9, 10, 11, 13, 14, 15, 16] (.seq (.block 0 (.loop f16l0))
  (.keep [2, 8, 9, 10, 11, 13, 14, 15] (.seq (.ops f16r22)
  (.keep [2, 8, 9, 10, 14, 15, 17] (.seq (.ops f16r23)
  (.keep [2, 8, 9, 10, 14, 15, 17, 18] (.seq (.ops f16r24)
  (.keep [2, 8, 9, 10, 14, 15, 16, 17, 18] (.seq (.block 2 (.loop f16l1))
  (.keep [2, 8, 14, 15, 17, 18] (.seq (.ops f16r30)
  (.keep [6, 7] .ret))))))))))))))))))))))))))))))))))))))))

def f16 : AFn := ⟨135, [.tmp 6, .tmp 7], f16b⟩

theorem f16_ok : compFn Try.prog 16 = some f16.strip := by kernel_rfl

/- function 17: math/bits.Mul64; parameters 2; operations that are not compiled: 0 -/
def f17r0 : List AInstr := [
    ⟨(some 4), none, .mov (.const (.int .u64 0))⟩,
    ⟨(some 5), none, .mov (.const (.int .u64 0))⟩]

def f17r1 : List AInstr := [
    ⟨(some 14), none, .mov (.tmp 0)⟩,
    ⟨(some 15), none, .ibin .and (.tmp 14) (.const (.int .u64 4294967295))⟩,
    ⟨(some 6), none, .mov (.tmp 15)⟩]

def f17r2 : List AInstr := [
    ⟨(some 16), none, .mov (.tmp 0)⟩,
    ⟨(some 17), none, .ibin .shr (.tmp 16) (.const (.int .u64 32))⟩,
    ⟨(some 7), none, .mov (.tmp 17)⟩]

def f17r3 : List AInstr := [
    ⟨(some 18), none, .mov (.tmp 1)⟩,
    ⟨(some 19), none, .ibin .and (.tmp 18) (.const (.int .u64 4294967295))⟩,
    ⟨(some 8), none, .mov (.tmp 19)⟩]

def f17r4 : List AInstr := [
    ⟨(some 20), none, .mov (.tmp 1)⟩,
    ⟨(some 21), none, .ibin .shr (.tmp 20) (.const (.int .u64 32))⟩,
    ⟨(some 9), none, .mov (.tmp 21)⟩]

def f17r5 : List AInstr := [
    ⟨(some 22), none, .mov (.tmp 6)⟩,
    ⟨(some 23), none, .mov (.tmp 8)⟩,
    ⟨(some 24), none, .ibin .mul (.tmp 22) (.tmp 23)⟩,
    ⟨(some 10), none, .mov (.tmp 24)⟩]

def f17r6 : List AInstr := [
    ⟨(some 25), none, .mov (.tmp 7)⟩,
    ⟨(some 26), none, .mov (.tmp 8)⟩,
    ⟨(some 27), none, .ibin .mul (.tmp 25) (.tmp 26)⟩,
    ⟨(some 28), none, .mov (.tmp 10)⟩,
    ⟨(some 29), none, .ibin .shr (.tmp 28) (.const (.int .u64 32))⟩,
    ⟨(some 30), none, .ibin .add (.tmp 27) (.tmp 29)⟩,
    ⟨(some 11), none, .mov (.tmp 30)⟩]

def f17r7 : List AInstr := [
    ⟨(some 31), none, .mov (.tmp 11)⟩,
    ⟨(some 32), none, .ibin .and (.tmp 31) (.const (.int .u64 4294967295))⟩,
    ⟨(some 12), none, .mov (.tmp 32)⟩]

def f17r8 : List AInstr := [
    ⟨(some 33), none, .mov (.tmp 11)⟩,
    ⟨(some 34), none, .ibin .shr (.tmp 33) (.const (.int .u64 32))⟩,
    ⟨(some 13), none, .mov (.tmp 34)⟩]

def f17r9 : List AInstr := [
    ⟨(some 35), none, .mov (.tmp 12)⟩,
    ⟨(some 36), none, .mov (.tmp 6)⟩,
    ⟨(some 37), none, .mov (.tmp 9)⟩,
    ⟨(some 38), none, .ibin .mul (.tmp 36) (.tmp 37)⟩,
    ⟨(some 39), none, .ibin .add (.tmp 35) (.tmp 38)⟩,
    ⟨(some 12), none, .mov (.tmp 39)⟩]

def f17r10 : List AInstr := [
    ⟨(some 40), none, .mov (.tmp 7)⟩,
    ⟨(some 41), none, .mov (.tmp 9)⟩,
    ⟨(some 42), none, .ibin .mul (.tmp 40) (.tmp 41)⟩,
    ⟨(some 43), none, .mov (.tmp 13)⟩,
    ⟨(some 44), none, .ibin .add (.tmp 42) (.tmp 43)⟩,
    ⟨(some 45), none, .mov (.tmp 12)⟩,
    ⟨(some 46), none, .ibin .shr (.tmp 45) (.const (.int .u64 32))⟩,
    ⟨(some 47), none, .ibin .add (.tmp 44) (.tmp 46)⟩,
    ⟨(some 4), none, .mov (.tmp 47)⟩]

def f17r11 : List AInstr := [
    ⟨(some 48), none, .mov (.tmp 0)⟩,
    ⟨(some 49), none, .mov (.tmp 1)⟩,
    ⟨(some 50), none, .ibin .mul (.tmp 48) (.tmp 49)⟩,
    ⟨(some 5), none, .mov (.tmp 50)⟩]

def f17b : ACode := (.seq (.ops f17r0)
  (.keep [0, 1] (.seq (.ops f17r1)
  (.keep [0, 1, 6] (.seq (.ops f17r2)
  (.keep [0, 1, 6, 7] (.seq (.ops f17r3)
  (.keep [0, 1, 6, 7, 8] (.seq (.ops f17r4)
  (.keep [0, 1, 6, 7, 8, 9] (.seq (.ops f17r5)
  (.keep [0, 1, 6, 7, 8, 9, 10] (.seq (.ops f17r6)
  (.keep [0, 1, 6, 7, 9, 11] (.seq (.ops f17r7)
  (.keep [0, 1, 6, 7, 9, 11, 12] (.seq (.ops f17r8)
  (.keep [0, 1, 6, 7, 9, 12, 13] (.seq (.ops f17r9)
  (.keep [0, 1, 7, 9, 12, 13] (.seq (.ops f17r10)
  (.keep [0, 1, 4] (.seq (.ops f17r11)
  (.keep [4, 5] .ret))))))))))))))))))))))))

def f17 : AFn := ⟨51, [.tmp 4, .tmp 5], f17b⟩

theorem f17_ok : compFn Try.prog 17 = some f17.strip := by kernel_rfl

/- function 19: cmp.Or[int]; parameters 1; operations that are not compiled: 0 -/
def f19r0 : List AInstr := [
    ⟨(some 2), none, .mov (.const (.int .i64 0))⟩]

def f19r1 : List AInstr := [
    ⟨(some 3), none, .mov (.const (.int .i64 0))⟩]

def f19r2 : List AInstr := [
    ⟨(some 6), none, .mov (.tmp 0)⟩,
    ⟨(some 7), none, .len (.tmp 6)⟩,
    ⟨(some 8), none, .mov (.const (.int .i64 0))⟩]

def f19r3 : List AInstr := [
    ⟨(some 9), none, .ibin .lss (.tmp 8) (.tmp 7)⟩]

def f19r4 : List AInstr := [
    ⟨(some 10), none, .indexAddr 1 (.tmp 6) (.tmp 8)⟩,
    ⟨(some 11), none, .load none (.tmp 10)⟩,
    ⟨(some 5), none, .mov (.tmp 11)⟩]

def f19r5 : List AInstr := [
    ⟨(some 12), none, .mov (.tmp 5)⟩,
    ⟨(some 13), none, .mov (.tmp 3)⟩,
    ⟨(some 14), none, .ibin .neq (.tmp 12) (.tmp 13)⟩]

def f19r6 : List AInstr := [
    ⟨(some 15), none, .mov (.tmp 5)⟩,
    ⟨(some 2), none, .mov (.tmp 15)⟩]

def f19r7 : List AInstr := [
    ⟨(some 16), none, .ibin .add (.tmp 8) (.const (.int .i64 1))⟩,
    ⟨(some 8), none, .mov (.tmp 16)⟩]

/-- live: [3, 6, 7, 8] -/
def f19l0 : ACode := (.seq (.ops f19r3)
  (.keep [3, 6, 7, 8, 9] (.seq (.cond (.tmp 9) .skip (.exit 0))
  (.keep [3, 6, 7, 8] (.seq (.block 1 (.seq (.ops f19r4)
  (.keep [3, 5, 6, 7, 8] (.seq (.ops f19r5)
  (.keep [3, 5, 6, 7, 8, 14] (.cond (.tmp 14) (.keep [5] (.seq (.ops f19r6)
  (.keep [2] .ret))) .skip))))))
  (.keep [3, 6, 7, 8] (.ops f19r7)))))))

def f19r9 : List AInstr := [
    ⟨(some 17), none, .mov (.tmp 3)⟩,
    ⟨(some 2), none, .mov (.tmp 17)⟩]

def f19b : ACode := (.seq (.ops f19r0)
  (.keep [0] (.seq (.ops f19r1)
  (.keep [0, 3] (.seq (.seq (.ops f19r2)
  (.keep [3, 6, 7, 8] (.block 0 (.loop f19l0))))
  (.keep [3] (.seq (.ops f19r9)
  (.keep [2] .ret))))))))

def f19 : AFn := ⟨18, [.tmp 2], f19b⟩

theorem f19_ok : compFn Try.prog 19 = some f19.strip := by kernel_rfl

/- function 20: cmp.Compare[uint64]; parameters 2; operations that are not compiled: 0 -/
def f20r0 : List AInstr := [
    ⟨(some 4), none, .mov (.const (.int .i64 0))⟩]

def f20r1 : List AInstr := [
    ⟨(some 7), none, .mov (.tmp 0)⟩,
    ⟨(some 8), none, .callF 23 [.tmp 7]⟩,
    ⟨(some 5), none, .mov (.tmp 8)⟩]

def f20r2 : List AInstr := [
    ⟨(some 9), none, .mov (.tmp 1)⟩,
    ⟨(some 10), none, .callF 23 [.tmp 9]⟩,
    ⟨(some 6), none, .mov (.tmp 10)⟩]

def f20r3 : List AInstr := [
    ⟨(some 11), none, .mov (.tmp 5)⟩]

def f20r4 : List AInstr := [
    ⟨(some 12), none, .mov (.tmp 6)⟩]

def f20r5 : List AInstr := [
    ⟨(some 4), none, .mov (.const (.int .i64 0))⟩]

def f20r6 : List AInstr := [
    ⟨(some 4), none, .mov (.const (.int .i64 (-1)))⟩]

def f20r7 : List AInstr := [
    ⟨(some 13), none, .mov (.tmp 6)⟩]

def f20r8 : List AInstr := [
    ⟨(some 4), none, .mov (.const (.int .i64 1))⟩]

def f20r9 : List AInstr := [
    ⟨(some 14), none, .mov (.tmp 0)⟩,
    ⟨(some 15), none, .mov (.tmp 1)⟩,
    ⟨(some 16), none, .ibin .lss (.tmp 14) (.tmp 15)⟩]

def f20r10 : List AInstr := [
    ⟨(some 4), none, .mov (.const (.int .i64 (-1)))⟩]

def f20r11 : List AInstr := [
    ⟨(some 17), none, .mov (.tmp 0)⟩,
    ⟨(some 18), none, .mov (.tmp 1)⟩,
    ⟨(some 19), none, .ibin .gtr (.tmp 17) (.tmp 18)⟩]

def f20r12 : List AInstr := [
    ⟨(some 4), none, .mov (.const (.int .i64 1))⟩]

def f20r13 : List AInstr := [
    ⟨(some 4), none, .mov (.const (.int .i64 0))⟩]

def f20b : ACode := (.seq (.ops f20r0)
  (.keep [0, 1] (.seq (.ops f20r1)
  (.keep [0, 1, 5] (.seq (.ops f20r2)
  (.keep [0, 1, 5, 6] (.seq (.seq (.ops f20r3)
  (.keep [0, 1, 6, 11] (.cond (.tmp 11) (.keep [6] (.seq (.seq (.ops f20r4)
  (.keep [12] (.cond (.tmp 12) (.keep [] (.seq (.ops f20r5)
  (.keep [4] .ret))) .skip)))
  (.keep [] (.seq (.ops f20r6)
  (.keep [4] .ret))))) .skip)))
  (.keep [0, 1, 6] (.seq (.seq (.ops f20r7)
  (.keep [0, 1, 13] (.cond (.tmp 13) (.keep [] (.seq (.ops f20r8)
  (.keep [4] .ret))) .skip)))
  (.keep [0, 1] (.seq (.seq (.ops f20r9)
  (.keep [0, 1, 16] (.cond (.tmp 16) (.keep [] (.seq (.ops f20r10)
  (.keep [4] .ret))) .skip)))
  (.keep [0, 1] (.seq (.seq (.ops f20r11)
  (.keep [19] (.cond (.tmp 19) (.keep [] (.seq (.ops f20r12)
  (.keep [4] .ret))) .skip)))
  (.keep [] (.seq (.ops f20r13)
  (.keep [4] .ret))))))))))))))))

def f20 : AFn := ⟨20, [.tmp 4], f20b⟩

theorem f20_ok : compFn Try.prog 20 = some f20.strip := by kernel_rfl

/- function 22: math/bits.LeadingZeros64; parameters 1; operations that are not compiled: 0 -/
def f22r0 : List AInstr := [
    ⟨(some 2), none, .mov (.const (.int .i64 0))⟩]

def f22r1 : List AInstr := [
    ⟨(some 3), none, .mov (.tmp 0)⟩,
    ⟨(some 4), none, .callF 24 [.tmp 3]⟩,
    ⟨(some 5), none, .ibin .sub (.const (.int .i64 64)) (.tmp 4)⟩,
    ⟨(some 2), none, .mov (.tmp 5)⟩]

def f22b : ACode := (.seq (.ops f22r0)
  (.keep [0] (.seq (.ops f22r1)
  (.keep [2] .ret))))

def f22 : AFn := ⟨6, [.tmp 2], f22b⟩

theorem f22_ok : compFn Try.prog 22 = some f22.strip := by kernel_rfl

/- function 23: cmp.isNaN[uint64]; parameters 1; operations that are not compiled: 0 -/
def f23r0 : List AInstr := [
    ⟨(some 2), none, .mov (.const (.bool false))⟩]

def f23r1 : List AInstr := [
    ⟨(some 3), none, .mov (.tmp 0)⟩,
    ⟨(some 4), none, .mov (.tmp 0)⟩,
    ⟨(some 5), none, .ibin .neq (.tmp 3) (.tmp 4)⟩,
    ⟨(some 2), none, .mov (.tmp 5)⟩]

def f23b : ACode := (.seq (.ops f23r0)
  (.keep [0] (.seq (.ops f23r1)
  (.keep [2] .ret))))

def f23 : AFn := ⟨6, [.tmp 2], f23b⟩

theorem f23_ok : compFn Try.prog 23 = some f23.strip := by kernel_rfl

/- function 24: math/bits.Len64; parameters 1; operations that are not compiled: 0 -/
def f24r0 : List AInstr := [
    ⟨(some 2), none, .mov (.const (.int .i64 0))⟩]

def f24r1 : List AInstr := [
    ⟨(some 3), none, .mov (.tmp 0)⟩,
    ⟨(some 4), none, .ibin .geq (.tmp 3) (.const (.int .u64 4294967296))⟩]

def f24r2 : List AInstr := [
    ⟨(some 5), none, .mov (.tmp 0)⟩,
    ⟨(some 6), none, .ibin .shr (.tmp 5) (.const (.int .u64 32))⟩,
    ⟨(some 0), none, .mov (.tmp 6)⟩]

def f24r3 : List AInstr := [
    ⟨(some 2), none, .mov (.const (.int .i64 32))⟩]

def f24r4 : List AInstr := [
    ⟨(some 7), none, .mov (.tmp 0)⟩,
    ⟨(some 8), none, .ibin .geq (.tmp 7) (.const (.int .u64 65536))⟩]

def f24r5 : List AInstr := [
    ⟨(some 9), none, .mov (.tmp 0)⟩,
    ⟨(some 10), none, .ibin .shr (.tmp 9) (.const (.int .u64 16))⟩,
    ⟨(some 0), none, .mov (.tmp 10)⟩]

def f24r6 : List AInstr := [
    ⟨(some 11), none, .mov (.tmp 2)⟩,
    ⟨(some 12), none, .ibin .add (.tmp 11) (.const (.int .i64 16))⟩,
    ⟨(some 2), none, .mov (.tmp 12)⟩]

def f24r7 : List AInstr := [
    ⟨(some 13), none, .mov (.tmp 0)⟩,
    ⟨(some 14), none, .ibin .geq (.tmp 13) (.const (.int .u64 256))⟩]

def f24r8 : List AInstr := [
    ⟨(some 15), none, .mov (.tmp 0)⟩,
    ⟨(some 16), none, .ibin .shr (.tmp 15) (.const (.int .u64 8))⟩,
    ⟨(some 0), none, .mov (.tmp 16)⟩]

def f24r9 : List AInstr := [
    ⟨(some 17), none, .mov (.tmp 2)⟩,
    ⟨(some 18), none, .ibin .add (.tmp 17) (.const (.int .i64 8))⟩,
    ⟨(some 2), none, .mov (.tmp 18)⟩]

def f24r10s0 : ByteArray := ⟨#[0, 1, 2, 2, 3, 3, 3, 3, 4, 4, 4, 4, 4, 4, 4, 4, 5, 5, 5, 5, 5, 5, 5, 5, 5, 5, 5, 5, 5, 5, 5, 5, 6, 6, 6, 6, 6, 6, 6, 6, 6, 6, 6, 6, 6, 6, 6, 6, 6, 6, 6, 6, 6, 6, 6, 6, 6, 6, 6, 6, 6, 6, 6, 6, 7, 7, 7, 7, 7, 7, 7, 7, 7, 7, 7, 7, 7, 7, 7, 7, 7, 7, 7, 7, 7, 7, 7, 7, 7, 7, 7, 7, 7, 7, 7, 7, 7, 7, 7, 7, 7, 7, 7, 7, 7, 7, 7, 7, 7, 7, 7, 7, 7, 7, 7, 7, 7, 7, 7, 7, 7, 7, 7, 7, 7, 7, 7, 7, 8, 8, 8, 8, 8, 8, 8, 8, 8, 8, 8, 8, 8, 8, 8, 8, 8, 8, 8, 8, 8, 8, 8, 8, 8, 8, 8, 8, 8, 8, 8, 8, 8, 8, 8, 8, 8, 8, 8, 8, 8, 8, 8, 8, 8, 8, 8, 8, 8, 8, 8, 8, 8, 8, 8, 8, 8, 8, 8, 8, 8, 8, 8, 8, 8, 8, 8, 8, 8, 8, 8, 8, 8, 8, 8, 8, 8, 8, 8, 8, 8, 8, 8, 8, 8, 8, 8, 8, 8, 8, 8, 8, 8, 8, 8, 8, 8, 8, 8, 8, 8, 8, 8, 8, 8, 8, 8, 8, 8, 8, 8, 8, 8, 8, 8, 8, 8, 8, 8, 8, 8, 8, 8, 8, 8, 8, 8, 8]⟩

def f24r10 : List AInstr := [
    ⟨(some 19), none, .mov (.tmp 2)⟩,
    ⟨(some 20), none, .mov (.tmp 0)⟩,
    ⟨(some 21), none, .conv .u8 (.tmp 20)⟩,
    ⟨(some 22), none, .indexStr (.const (.string f24r10s0)) (.tmp 21)⟩,
    ⟨(some 23), none, .conv .i64 (.tmp 22)⟩,
    ⟨(some 24), none, .ibin .add (.tmp 19) (.tmp 23)⟩,
    ⟨(some 2), none, .mov (.tmp 24)⟩]

def f24b : ACode := (.seq (.ops f24r0)
  (.keep [0, 2] (.seq (.seq (.ops f24r1)
  (.keep [0, 2, 4] (.cond (.tmp 4) (.keep [0] (.seq (.ops f24r2)
  (.keep [0] (.ops f24r3)))) .skip)))
  (.keep [0, 2] (.seq (.seq (.ops f24r4)
  (.keep [0, 2, 8] (.cond (.tmp 8) (.keep [0, 2] (.seq (.ops f24r5)
  (.keep [0, 2] (.ops f24r6)))) .skip)))
  (.keep [0, 2] (.seq (.seq (.ops f24r7)
  (.keep [0, 2, 14] (.cond (.tmp 14) (.keep [0, 2] (.seq (.ops f24r8)
  (.keep [0, 2] (.ops f24r9)))) .skip)))
  (.keep [0, 2] (.seq (.ops f24r10)
  (.keep [2] .ret))))))))))

def f24 : AFn := ⟨25, [.tmp 2], f24b⟩

theorem f24_ok : compFn Try.prog 24 = some f24.strip := by kernel_rfl

end Go.Proofs.Ytohabldbjjngjaa
