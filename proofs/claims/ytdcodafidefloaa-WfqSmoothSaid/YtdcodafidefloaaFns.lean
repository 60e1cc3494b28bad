/-
  The functions of this seat as abstract code. Printed by a program of this claim's writer.
-/
import Derived.Test.YtdcodafidefloaaChecked
import Derived.Test.YtdcodafidefloaaAmS
import Derived.KernelRfl
namespace Go.Proofs.Ytdcodafidefloaa
open Go Go.Am

/- function 3: weirhouse/weirhousekeep.WfqOrder; parameters 2; operations that are not compiled: 0 -/
def f3r0 : List AInstr := [
    ⟨(some 4), none, .mov (.const (.bool false))⟩]

def f3r1 : List AInstr := [
    ⟨(some 12), none, .callF 7 []⟩,
    ⟨(some 13), none, .un .not (.tmp 12)⟩]

def f3r2 : List AInstr := [
    ⟨(some 4), none, .mov (.const (.bool false))⟩]

def f3r3 : List AInstr := [
    ⟨(some 15), none, .mov (.tmp 0)⟩,
    ⟨(some 16), none, .mov (.tmp 1)⟩,
    ⟨(some 17), none, .callF 8 [.tmp 15, .tmp 16]⟩,
    ⟨(some 14), none, .mov (.tmp 17)⟩,
    ⟨(some 18), none, .extract 0 (.tmp 14)⟩,
    ⟨(some 19), none, .extract 1 (.tmp 14)⟩,
    ⟨(some 20), none, .extract 2 (.tmp 14)⟩,
    ⟨(some 21), none, .extract 3 (.tmp 14)⟩,
    ⟨(some 5), none, .mov (.tmp 18)⟩,
    ⟨(some 6), none, .mov (.tmp 19)⟩,
    ⟨(some 7), none, .mov (.tmp 20)⟩,
    ⟨(some 8), none, .mov (.tmp 21)⟩]

def f3r4 : List AInstr := [
    ⟨(some 22), none, .mov (.tmp 8)⟩,
    ⟨(some 23), none, .ibin .neq (.tmp 22) (.const (.int .i64 0))⟩]

def f3r5 : List AInstr := [
    ⟨(some 24), none, .mov (.tmp 6)⟩,
    ⟨(some 25), none, .len (.tmp 24)⟩,
    ⟨(some 26), none, .ibin .eql (.tmp 25) (.const (.int .i64 0))⟩,
    ⟨(some 4), none, .mov (.tmp 26)⟩]

def f3r6 : List AInstr := [
    ⟨(some 9), none, .mov (.const (.int .i64 0))⟩]

def f3r7 : List AInstr := [
    ⟨(some 27), none, .mov (.tmp 1)⟩,
    ⟨(some 28), none, .len (.tmp 27)⟩,
    ⟨(some 29), none, .mov (.const (.int .i64 0))⟩]

def f3r8 : List AInstr := [
    ⟨(some 30), none, .ibin .lss (.tmp 29) (.tmp 28)⟩]

def f3r9 : List AInstr := [
    ⟨(some 31), none, .mov (.tmp 29)⟩,
    ⟨(some 32), none, .indexAddr 3 (.tmp 27) (.tmp 29)⟩,
    ⟨(some 33), none, .load (some 3) (.tmp 32)⟩,
    ⟨(some 11), none, .alloc [.int .i64 0, .int .i64 0, .int .i64 0]⟩,
    ⟨(some 10), none, .mov (.tmp 31)⟩,
    ⟨none, none, .store 3 (.tmp 11) (.tmp 33)⟩]

def f3r10 : List AInstr := [
    ⟨(some 34), none, .mov (.tmp 10)⟩,
    ⟨(some 35), none, .mov (.tmp 5)⟩,
    ⟨(some 36), none, .len (.tmp 35)⟩,
    ⟨(some 37), none, .ibin .geq (.tmp 34) (.tmp 36)⟩]

def f3r11 : List AInstr := [
    ⟨(some 4), none, .mov (.const (.bool false))⟩]

def f3r12 : List AInstr := [
    ⟨(some 41), none, .fieldAddr 0 (.tmp 11)⟩,
    ⟨(some 42), none, .load none (.tmp 41)⟩,
    ⟨(some 43), none, .ibin .eql (.tmp 42) (.const (.int .i64 2))⟩,
    ⟨(some 44), none, .mov (.tmp 43)⟩,
    ⟨(some 45), (some (44, true)), .mov (.tmp 5)⟩,
    ⟨(some 46), (some (44, true)), .mov (.tmp 10)⟩,
    ⟨(some 47), (some (44, true)), .indexAddr 1 (.tmp 45) (.tmp 46)⟩,
    ⟨(some 48), (some (44, true)), .load none (.tmp 47)⟩,
    ⟨(some 49), (some (44, true)), .ibin .eql (.tmp 48) (.const (.int .i64 0))⟩,
    ⟨(some 50), (some (44, true)), .mov (.tmp 9)⟩,
    ⟨(some 51), (some (44, true)), .ibin .gtr (.tmp 50) (.const (.int .i64 0))⟩,
    ⟨(some 52), (some (44, true)), .eqB true (.tmp 49) (.tmp 51)⟩,
    ⟨(some 53), none, .pick (.tmp 44) (.tmp 52) (.const (.bool false))⟩,
    ⟨(some 40), none, .mov (.tmp 53)⟩]

def f3r13 : List AInstr := [
    ⟨(some 4), none, .mov (.const (.bool false))⟩]

def f3r14 : List AInstr := [
    ⟨(some 55), none, .mov (.tmp 5)⟩,
    ⟨(some 56), none, .mov (.tmp 10)⟩,
    ⟨(some 57), none, .indexAddr 1 (.tmp 55) (.tmp 56)⟩,
    ⟨(some 58), none, .load none (.tmp 57)⟩,
    ⟨(some 59), none, .ibin .neq (.tmp 58) (.const (.int .i64 0))⟩,
    ⟨(some 54), none, .mov (.tmp 59)⟩]

def f3r15 : List AInstr := [
    ⟨(some 61), none, .fieldAddr 0 (.tmp 11)⟩,
    ⟨(some 62), none, .load none (.tmp 61)⟩,
    ⟨(some 63), none, .ibin .eql (.tmp 62) (.const (.int .i64 1))⟩,
    ⟨(some 60), none, .mov (.tmp 63)⟩]

def f3r16 : List AInstr := [
    ⟨(some 64), none, .mov (.tmp 9)⟩,
    ⟨(some 65), none, .ibin .add (.tmp 64) (.const (.int .i64 1))⟩,
    ⟨(some 9), none, .mov (.tmp 65)⟩]

def f3r17 : List AInstr := [
    ⟨(some 38), none, .mov (.tmp 9)⟩,
    ⟨(some 39), none, .ibin .sub (.tmp 38) (.const (.int .i64 1))⟩,
    ⟨(some 9), none, .mov (.tmp 39)⟩]

def f3r18 : List AInstr := [
    ⟨(some 66), none, .ibin .add (.tmp 29) (.const (.int .i64 1))⟩,
    ⟨(some 29), none, .mov (.tmp 66)⟩]

/-- live: [0, 1, 5, 6, 7, 9, 27, 28, 29] -/
def f3l0 : ACode := (.seq (.ops f3r8)
  (.keep [0, 1, 5, 6, 7, 9, 27, 28, 29, 30] (.seq (.cond (.tmp 30) .skip (.exit 0))
  (.keep [0, 1, 5, 6, 7, 9, 27, 28, 29] (.seq (.block 1 (.seq (.ops f3r9)
  (.keep [0, 1, 5, 6, 7, 9, 10, 11, 27, 28, 29] (.seq (.seq (.ops f3r10)
  (.keep [0, 1, 5, 6, 7, 9, 10, 11, 27, 28, 29, 37] (.cond (.tmp 37) (.keep [] (.seq (.ops f3r11)
  (.keep [4] .ret))) .skip)))
  (.keep [0, 1, 5, 6, 7, 9, 10, 11, 27, 28, 29] (.block 2 (.seq (.ops f3r12)
  (.keep [0, 1, 5, 6, 7, 9, 10, 11, 27, 28, 29, 40] (.cond (.tmp 40) (.keep [] (.seq (.ops f3r13)
  (.keep [4] .ret))) (.keep [0, 1, 5, 6, 7, 9, 10, 11, 27, 28, 29] (.seq (.ops f3r14)
  (.keep [0, 1, 5, 6, 7, 9, 11, 27, 28, 29, 54] (.cond (.tmp 54) .skip (.keep [0, 1, 5, 6, 7, 9, 11, 27, 28, 29] (.seq (.ops f3r15)
  (.keep [0, 1, 5, 6, 7, 9, 27, 28, 29, 60] (.cond (.tmp 60) (.keep [0, 1, 5, 6, 7, 9, 27, 28, 29] (.ops f3r16)) (.keep [0, 1, 5, 6, 7, 9, 27, 28, 29] (.ops f3r17)))))))))))))))))))
  (.keep [0, 1, 5, 6, 7, 9, 27, 28, 29] (.ops f3r18)))))))

def f3r20 : List AInstr := [
    ⟨(some 67), none, .mov (.tmp 0)⟩,
    ⟨(some 68), none, .len (.tmp 67)⟩,
    ⟨(some 69), none, .mov (.tmp 1)⟩,
    ⟨(some 70), none, .mov (.tmp 5)⟩,
    ⟨(some 71), none, .mov (.tmp 6)⟩,
    ⟨(some 72), none, .mov (.tmp 7)⟩,
    ⟨(some 73), none, .callF 9 [.tmp 68, .tmp 69, .tmp 70, .tmp 71, .tmp 72]⟩,
    ⟨(some 4), none, .mov (.tmp 73)⟩]

def f3b : ACode := (.seq (.ops f3r0)
  (.keep [0, 1] (.seq (.seq (.ops f3r1)
  (.keep [0, 1, 13] (.cond (.tmp 13) (.keep [] (.seq (.ops f3r2)
  (.keep [4] .ret))) .skip)))
  (.keep [0, 1] (.seq (.ops f3r3)
  (.keep [0, 1, 5, 6, 7, 8] (.seq (.seq (.ops f3r4)
  (.keep [0, 1, 5, 6, 7, 23] (.cond (.tmp 23) (.keep [6] (.seq (.ops f3r5)
  (.keep [4] .ret))) .skip)))
  (.keep [0, 1, 5, 6, 7] (.seq (.ops f3r6)
  (.keep [0, 1, 5, 6, 7, 9] (.seq (.seq (.ops f3r7)
  (.keep [0, 1, 5, 6, 7, 9, 27, 28, 29] (.block 0 (.loop f3l0))))
  (.keep [0, 1, 5, 6, 7] (.seq (.ops f3r20)
  (.keep [4] .ret))))))))))))))

def f3 : AFn := ⟨74, [.tmp 4], f3b⟩

theorem f3_ok : compFn Try.prog 3 = some f3.strip := by kernel_rfl

/- function 4: weirhouse/weirhousekeep.WfqShare; parameters 3; operations that are not compiled: 0 -/
def f4r0 : List AInstr := [
    ⟨(some 6), none, .mov (.const (.bool false))⟩]

def f4r1 : List AInstr := [
    ⟨(some 21), none, .callF 7 []⟩,
    ⟨(some 22), none, .un .not (.tmp 21)⟩]

def f4r2 : List AInstr := [
    ⟨(some 6), none, .mov (.const (.bool false))⟩]

def f4r3 : List AInstr := [
    ⟨(some 24), none, .mov (.tmp 0)⟩,
    ⟨(some 25), none, .mov (.tmp 1)⟩,
    ⟨(some 26), none, .callF 8 [.tmp 24, .tmp 25]⟩,
    ⟨(some 23), none, .mov (.tmp 26)⟩,
    ⟨(some 27), none, .extract 0 (.tmp 23)⟩,
    ⟨(some 28), none, .extract 1 (.tmp 23)⟩,
    ⟨(some 29), none, .extract 2 (.tmp 23)⟩,
    ⟨(some 30), none, .extract 3 (.tmp 23)⟩,
    ⟨(some 7), none, .mov (.tmp 27)⟩,
    ⟨(some 8), none, .mov (.tmp 28)⟩,
    ⟨(some 9), none, .mov (.tmp 29)⟩,
    ⟨(some 10), none, .mov (.tmp 30)⟩]

def f4r4 : List AInstr := [
    ⟨(some 31), none, .mov (.tmp 10)⟩,
    ⟨(some 32), none, .ibin .neq (.tmp 31) (.const (.int .i64 0))⟩,
    ⟨(some 33), none, .mov (.tmp 32)⟩,
    ⟨(some 34), (some (33, false)), .mov (.tmp 2)⟩,
    ⟨(some 35), (some (33, false)), .ibin .lss (.tmp 34) (.const (.int .i64 0))⟩,
    ⟨(some 36), none, .pick (.tmp 33) (.const (.bool true)) (.tmp 35)⟩,
    ⟨(some 37), none, .mov (.tmp 36)⟩,
    ⟨(some 38), (some (37, false)), .mov (.tmp 2)⟩,
    ⟨(some 39), (some (37, false)), .mov (.tmp 0)⟩,
    ⟨(some 40), (some (37, false)), .len (.tmp 39)⟩,
    ⟨(some 41), (some (37, false)), .ibin .geq (.tmp 38) (.tmp 40)⟩,
    ⟨(some 42), none, .pick (.tmp 37) (.const (.bool true)) (.tmp 41)⟩,
    ⟨(some 43), none, .mov (.tmp 42)⟩,
    ⟨(some 44), (some (43, false)), .mov (.tmp 7)⟩,
    ⟨(some 45), (some (43, false)), .len (.tmp 44)⟩,
    ⟨(some 46), (some (43, false)), .mov (.tmp 1)⟩,
    ⟨(some 47), (some (43, false)), .len (.tmp 46)⟩,
    ⟨(some 48), (some (43, false)), .ibin .neq (.tmp 45) (.tmp 47)⟩,
    ⟨(some 49), none, .pick (.tmp 43) (.const (.bool true)) (.tmp 48)⟩]

def f4r5 : List AInstr := [
    ⟨(some 50), none, .mov (.tmp 10)⟩,
    ⟨(some 51), none, .ibin .neq (.tmp 50) (.const (.int .i64 0))⟩,
    ⟨(some 52), none, .mov (.tmp 51)⟩,
    ⟨(some 53), (some (52, false)), .mov (.tmp 7)⟩,
    ⟨(some 54), (some (52, false)), .len (.tmp 53)⟩,
    ⟨(some 55), (some (52, false)), .mov (.tmp 1)⟩,
    ⟨(some 56), (some (52, false)), .len (.tmp 55)⟩,
    ⟨(some 57), (some (52, false)), .ibin .eql (.tmp 54) (.tmp 56)⟩,
    ⟨(some 58), none, .pick (.tmp 52) (.const (.bool true)) (.tmp 57)⟩,
    ⟨(some 6), none, .mov (.tmp 58)⟩]

def f4r6 : List AInstr := [
    ⟨(some 11), none, .mov (.const (.int .i64 0))⟩]

def f4r7 : List AInstr := [
    ⟨(some 59), none, .mov (.tmp 0)⟩,
    ⟨(some 60), none, .len (.tmp 59)⟩,
    ⟨(some 61), none, .mov (.const (.int .i64 0))⟩]

def f4r8 : List AInstr := [
    ⟨(some 62), none, .ibin .lss (.tmp 61) (.tmp 60)⟩]

def f4r9 : List AInstr := [
    ⟨(some 63), none, .indexAddr 1 (.tmp 59) (.tmp 61)⟩,
    ⟨(some 64), none, .load none (.tmp 63)⟩,
    ⟨(some 13), none, .mov (.tmp 64)⟩]

def f4r10 : List AInstr := [
    ⟨(some 65), none, .mov (.tmp 11)⟩,
    ⟨(some 66), none, .mov (.tmp 13)⟩,
    ⟨(some 67), none, .ibin .add (.tmp 65) (.tmp 66)⟩,
    ⟨(some 11), none, .mov (.tmp 67)⟩]

def f4r11 : List AInstr := [
    ⟨(some 68), none, .ibin .add (.tmp 61) (.const (.int .i64 1))⟩,
    ⟨(some 61), none, .mov (.tmp 68)⟩]

/-- live: [0, 1, 2, 7, 8, 11, 59, 60, 61] -/
def f4l0 : ACode := (.seq (.ops f4r8)
  (.keep [0, 1, 2, 7, 8, 11, 59, 60, 61, 62] (.seq (.cond (.tmp 62) .skip (.exit 0))
  (.keep [0, 1, 2, 7, 8, 11, 59, 60, 61] (.seq (.block 1 (.seq (.ops f4r9)
  (.keep [0, 1, 2, 7, 8, 11, 13, 59, 60, 61] (.ops f4r10))))
  (.keep [0, 1, 2, 7, 8, 11, 59, 60, 61] (.ops f4r11)))))))

def f4r13 : List AInstr := [
    ⟨(some 14), none, .mov (.const (.int .i64 0))⟩,
    ⟨(some 15), none, .mov (.const (.int .i64 0))⟩]

def f4r14 : List AInstr := [
    ⟨(some 16), none, .mov (.const (.int .i64 0))⟩]

def f4r15 : List AInstr := [
    ⟨(some 17), none, .mov (.const (.int .i64 0))⟩]

def f4r16 : List AInstr := [
    ⟨(some 69), none, .mov (.tmp 1)⟩,
    ⟨(some 70), none, .len (.tmp 69)⟩,
    ⟨(some 71), none, .mov (.const (.int .i64 0))⟩]

def f4r17 : List AInstr := [
    ⟨(some 72), none, .ibin .lss (.tmp 71) (.tmp 70)⟩]

def f4r18 : List AInstr := [
    ⟨(some 73), none, .mov (.tmp 71)⟩,
    ⟨(some 74), none, .indexAddr 3 (.tmp 69) (.tmp 71)⟩,
    ⟨(some 75), none, .load (some 3) (.tmp 74)⟩,
    ⟨(some 19), none, .alloc [.int .i64 0, .int .i64 0, .int .i64 0]⟩,
    ⟨(some 18), none, .mov (.tmp 73)⟩,
    ⟨none, none, .store 3 (.tmp 19) (.tmp 75)⟩]

def f4r19 : List AInstr := [
    ⟨(some 76), none, .mov (.tmp 7)⟩,
    ⟨(some 77), none, .mov (.tmp 18)⟩,
    ⟨(some 78), none, .indexAddr 1 (.tmp 76) (.tmp 77)⟩,
    ⟨(some 79), none, .load none (.tmp 78)⟩,
    ⟨(some 80), none, .ibin .neq (.tmp 79) (.const (.int .i64 0))⟩]

def f4r20 : List AInstr := [
    ⟨(some 81), none, .fieldAddr 0 (.tmp 19)⟩,
    ⟨(some 82), none, .load none (.tmp 81)⟩,
    ⟨(some 83), none, .ibin .eql (.tmp 82) (.const (.int .i64 1))⟩]

def f4r21 : List AInstr := [
    ⟨(some 84), none, .fieldAddr 1 (.tmp 19)⟩,
    ⟨(some 85), none, .load none (.tmp 84)⟩,
    ⟨(some 86), none, .mov (.tmp 2)⟩,
    ⟨(some 87), none, .ibin .eql (.tmp 85) (.tmp 86)⟩]

def f4r22 : List AInstr := [
    ⟨(some 88), none, .mov (.tmp 14)⟩,
    ⟨(some 89), none, .ibin .add (.tmp 88) (.const (.int .i64 1))⟩,
    ⟨(some 14), none, .mov (.tmp 89)⟩]

def f4r23 : List AInstr := [
    ⟨(some 90), none, .mov (.tmp 14)⟩,
    ⟨(some 91), none, .ibin .eql (.tmp 90) (.const (.int .i64 1))⟩]

def f4r24 : List AInstr := [
    ⟨(some 92), none, .mov (.tmp 17)⟩,
    ⟨(some 16), none, .mov (.tmp 92)⟩]

def f4r25 : List AInstr := [
    ⟨(some 93), none, .mov (.tmp 15)⟩,
    ⟨(some 94), none, .mov (.tmp 8)⟩,
    ⟨(some 95), none, .len (.tmp 94)⟩,
    ⟨(some 96), none, .ibin .geq (.tmp 93) (.tmp 95)⟩]

def f4r26 : List AInstr := [
    ⟨(some 6), none, .mov (.const (.bool false))⟩]

def f4r27 : List AInstr := [
    ⟨(some 97), none, .mov (.tmp 8)⟩,
    ⟨(some 98), none, .mov (.tmp 15)⟩,
    ⟨(some 99), none, .indexAddr 2 (.tmp 97) (.tmp 98)⟩,
    ⟨(some 100), none, .load (some 2) (.tmp 99)⟩,
    ⟨(some 20), none, .alloc [.int .i64 0, .int .i64 0]⟩,
    ⟨none, none, .store 2 (.tmp 20) (.tmp 100)⟩]

def f4r28 : List AInstr := [
    ⟨(some 101), none, .mov (.tmp 15)⟩,
    ⟨(some 102), none, .ibin .add (.tmp 101) (.const (.int .i64 1))⟩,
    ⟨(some 15), none, .mov (.tmp 102)⟩]

def f4r29 : List AInstr := [
    ⟨(some 103), none, .mov (.tmp 17)⟩,
    ⟨(some 104), none, .fieldAddr 1 (.tmp 20)⟩,
    ⟨(some 105), none, .load none (.tmp 104)⟩,
    ⟨(some 106), none, .mov (.tmp 0)⟩,
    ⟨(some 107), none, .mov (.tmp 2)⟩,
    ⟨(some 108), none, .indexAddr 1 (.tmp 106) (.tmp 107)⟩,
    ⟨(some 109), none, .load none (.tmp 108)⟩,
    ⟨(some 110), none, .ibin .mul (.tmp 105) (.tmp 109)⟩,
    ⟨(some 111), none, .ibin .sub (.tmp 103) (.tmp 110)⟩,
    ⟨(some 17), none, .mov (.tmp 111)⟩]

def f4r30 : List AInstr := [
    ⟨(some 112), none, .fieldAddr 0 (.tmp 20)⟩,
    ⟨(some 113), none, .load none (.tmp 112)⟩,
    ⟨(some 114), none, .mov (.tmp 2)⟩,
    ⟨(some 115), none, .ibin .eql (.tmp 113) (.tmp 114)⟩]

def f4r31 : List AInstr := [
    ⟨(some 116), none, .mov (.tmp 17)⟩,
    ⟨(some 117), none, .fieldAddr 1 (.tmp 20)⟩,
    ⟨(some 118), none, .load none (.tmp 117)⟩,
    ⟨(some 119), none, .mov (.tmp 11)⟩,
    ⟨(some 120), none, .ibin .mul (.tmp 118) (.tmp 119)⟩,
    ⟨(some 121), none, .ibin .add (.tmp 116) (.tmp 120)⟩,
    ⟨(some 17), none, .mov (.tmp 121)⟩]

def f4r32 : List AInstr := [
    ⟨(some 122), none, .mov (.tmp 14)⟩,
    ⟨(some 123), none, .ibin .sub (.tmp 122) (.const (.int .i64 1))⟩,
    ⟨(some 14), none, .mov (.tmp 123)⟩]

def f4r33 : List AInstr := [
    ⟨(some 124), none, .mov (.tmp 16)⟩,
    ⟨(some 125), none, .mov (.tmp 17)⟩,
    ⟨(some 126), none, .minmax true [.tmp 124, .tmp 125]⟩,
    ⟨(some 16), none, .mov (.tmp 126)⟩]

def f4r34 : List AInstr := [
    ⟨(some 127), none, .mov (.tmp 14)⟩,
    ⟨(some 128), none, .ibin .gtr (.tmp 127) (.const (.int .i64 0))⟩,
    ⟨(some 129), none, .mov (.tmp 128)⟩,
    ⟨(some 130), (some (129, true)), .mov (.tmp 16)⟩,
    ⟨(some 131), (some (129, true)), .mov (.tmp 17)⟩,
    ⟨(some 132), (some (129, true)), .ibin .sub (.tmp 130) (.tmp 131)⟩,
    ⟨(some 133), (some (129, true)), .mov (.tmp 11)⟩,
    ⟨(some 134), (some (129, true)), .ibin .mul (.const (.int .i64 4500)) (.tmp 133)⟩,
    ⟨(some 135), (some (129, true)), .ibin .gtr (.tmp 132) (.tmp 134)⟩,
    ⟨(some 136), none, .pick (.tmp 129) (.tmp 135) (.const (.bool false))⟩]

def f4r35 : List AInstr := [
    ⟨(some 6), none, .mov (.const (.bool false))⟩]

def f4r36 : List AInstr := [
    ⟨(some 137), none, .ibin .add (.tmp 71) (.const (.int .i64 1))⟩,
    ⟨(some 71), none, .mov (.tmp 137)⟩]

/-- live: [0, 2, 7, 8, 11, 14, 15, 16, 17, 69, 70, 71] -/
def f4l1 : ACode := (.seq (.ops f4r17)
  (.keep [0, 2, 7, 8, 11, 14, 15, 16, 17, 69, 70, 71, 72] (.seq (.cond (.tmp 72) .skip (.exit 2))
  (.keep [0, 2, 7, 8, 11, 14, 15, 16, 17, 69, 70, 71] (.seq (.block 3 (.seq (.ops f4r18)
  (.keep [0, 2, 7, 8, 11, 14, 15, 16, 17, 18, 19, 69, 70, 71] (.seq (.seq (.ops f4r19)
  (.keep [0, 2, 7, 8, 11, 14, 15, 16, 17, 19, 69, 70, 71, 80] (.cond (.tmp 80) (.exit 3) .skip)))
  (.keep [0, 2, 7, 8, 11, 14, 15, 16, 17, 19, 69, 70, 71] (.seq (.seq (.ops f4r20)
  (.keep [0, 2, 7, 8, 11, 14, 15, 16, 17, 19, 69, 70, 71, 83] (.cond (.tmp 83) (.keep [0, 2, 7, 8, 11, 14, 15, 16, 17, 19, 69, 70, 71] (.seq (.seq (.ops f4r21)
  (.keep [0, 2, 7, 8, 11, 14, 15, 16, 17, 69, 70, 71, 87] (.cond (.tmp 87) (.keep [0, 2, 7, 8, 11, 14, 15, 16, 17, 69, 70, 71] (.seq (.ops f4r22)
  (.keep [0, 2, 7, 8, 11, 14, 15, 16, 17, 69, 70, 71] (.seq (.ops f4r23)
  (.keep [0, 2, 7, 8, 11, 14, 15, 16, 17, 69, 70, 71, 91] (.cond (.tmp 91) (.keep [0, 2, 7, 8, 11, 14, 15, 17, 69, 70, 71] (.ops f4r24)) .skip)))))) .skip)))
  (.exit 3))) .skip)))
  (.keep [0, 2, 7, 8, 11, 14, 15, 16, 17, 69, 70, 71] (.seq (.seq (.ops f4r25)
  (.keep [0, 2, 7, 8, 11, 14, 15, 16, 17, 69, 70, 71, 96] (.cond (.tmp 96) (.keep [] (.seq (.ops f4r26)
  (.keep [6] .ret))) .skip)))
  (.keep [0, 2, 7, 8, 11, 14, 15, 16, 17, 69, 70, 71] (.seq (.ops f4r27)
  (.keep [0, 2, 7, 8, 11, 14, 15, 16, 17, 20, 69, 70, 71] (.seq (.ops f4r28)
  (.keep [0, 2, 7, 8, 11, 14, 15, 16, 17, 20, 69, 70, 71] (.seq (.draw f4r29 [(0, 0, false), (0, 0, false), (0, 0, false), (0, 0, false), (0, 0, false), (0, 0, false), (0, 0, false), (0, 0, false), (0, 0, false), (0, 0, false)])
  (.keep [0, 2, 7, 8, 11, 14, 15, 16, 17, 20, 69, 70, 71] (.seq (.seq (.ops f4r30)
  (.keep [0, 2, 7, 8, 11, 14, 15, 16, 17, 20, 69, 70, 71, 115] (.cond (.tmp 115) (.keep [0, 2, 7, 8, 11, 14, 15, 16, 17, 20, 69, 70, 71] (.seq (.ops f4r31)
  (.keep [0, 2, 7, 8, 11, 14, 15, 16, 17, 69, 70, 71] (.ops f4r32)))) .skip)))
  (.keep [0, 2, 7, 8, 11, 14, 15, 16, 17, 69, 70, 71] (.seq (.ops f4r33)
  (.keep [0, 2, 7, 8, 11, 14, 15, 16, 17, 69, 70, 71] (.seq (.ops f4r34)
  (.keep [0, 2, 7, 8, 11, 14, 15, 16, 17, 69, 70, 71, 136] (.cond (.tmp 136) (.keep [] (.seq (.ops f4r35)
  (.keep [6] .ret))) .skip))))))))))))))))))))))
  (.keep [0, 2, 7, 8, 11, 14, 15, 16, 17, 69, 70, 71] (.ops f4r36)))))))

def f4r38 : List AInstr := [
    ⟨(some 6), none, .mov (.const (.bool true))⟩]

def f4b : ACode := (.seq (.ops f4r0)
  (.keep [0, 1, 2] (.seq (.seq (.ops f4r1)
  (.keep [0, 1, 2, 22] (.cond (.tmp 22) (.keep [] (.seq (.ops f4r2)
  (.keep [6] .ret))) .skip)))
  (.keep [0, 1, 2] (.seq (.ops f4r3)
  (.keep [0, 1, 2, 7, 8, 10] (.seq (.seq (.ops f4r4)
  (.keep [0, 1, 2, 7, 8, 10, 49] (.cond (.tmp 49) (.keep [1, 7, 10] (.seq (.ops f4r5)
  (.keep [6] .ret))) .skip)))
  (.keep [0, 1, 2, 7, 8] (.seq (.ops f4r6)
  (.keep [0, 1, 2, 7, 8, 11] (.seq (.seq (.ops f4r7)
  (.keep [0, 1, 2, 7, 8, 11, 59, 60, 61] (.block 0 (.loop f4l0))))
  (.keep [0, 1, 2, 7, 8, 11] (.seq (.ops f4r13)
  (.keep [0, 1, 2, 7, 8, 11, 14, 15] (.seq (.ops f4r14)
  (.keep [0, 1, 2, 7, 8, 11, 14, 15, 16] (.seq (.ops f4r15)
  (.keep [0, 1, 2, 7, 8, 11, 14, 15, 16, 17] (.seq (.seq (.ops f4r16)
  (.keep [0, 2, 7, 8, 11, 14, 15, 16, 17, 69, 70, 71] (.block 2 (.loop f4l1))))
  (.keep [] (.seq (.ops f4r38)
  (.keep [6] .ret))))))))))))))))))))))

def f4 : AFn := ⟨138, [.tmp 6], f4b⟩

theorem f4_ok : compFn Try.prog 4 = some f4.strip := by kernel_rfl

/- function 5: weirhouse/weirhousekeep.WfqAlone; parameters 3; operations that are not compiled: 0 -/
def f5r0 : List AInstr := [
    ⟨(some 6), none, .mov (.const (.bool false))⟩]

def f5r1 : List AInstr := [
    ⟨(some 21), none, .callF 7 []⟩,
    ⟨(some 22), none, .un .not (.tmp 21)⟩]

def f5r2 : List AInstr := [
    ⟨(some 6), none, .mov (.const (.bool false))⟩]

def f5r3 : List AInstr := [
    ⟨(some 7), none, .mov (.const (.slice none 0 0))⟩]

def f5r4 : List AInstr := [
    ⟨(some 23), none, .mov (.tmp 0)⟩,
    ⟨(some 24), none, .len (.tmp 23)⟩,
    ⟨(some 25), none, .mov (.const (.int .i64 0))⟩]

def f5r5 : List AInstr := [
    ⟨(some 26), none, .ibin .lss (.tmp 25) (.tmp 24)⟩]

def f5r6 : List AInstr := [
    ⟨(some 27), none, .indexAddr 1 (.tmp 23) (.tmp 25)⟩,
    ⟨(some 28), none, .load none (.tmp 27)⟩,
    ⟨(some 9), none, .mov (.tmp 28)⟩]

def f5r7 : List AInstr := [
    ⟨(some 29), none, .mov (.tmp 7)⟩,
    ⟨(some 30), none, .mov (.tmp 9)⟩,
    ⟨(some 31), none, .build [.int .i64 0, .int .i64 0, .int .i64 0] [(0, 1, (.const (.int .i64 1))), (1, 1, (.const (.int .i64 1))), (2, 1, (.tmp 30))]⟩,
    ⟨(some 32), none, .build [.int .i64 0, .int .i64 0, .int .i64 0] [(0, 1, (.const (.int .i64 2)))]⟩,
    ⟨(some 33), none, .buildSlice 3 2 [.int .i64 0, .int .i64 0, .int .i64 0, .int .i64 0, .int .i64 0, .int .i64 0] [(0, 3, (.tmp 31)), (3, 3, (.tmp 32))]⟩,
    ⟨(some 34), none, .append 3 24 (.tmp 29) (.tmp 33)⟩,
    ⟨(some 7), none, .mov (.tmp 34)⟩]

def f5r8 : List AInstr := [
    ⟨(some 35), none, .ibin .add (.tmp 25) (.const (.int .i64 1))⟩,
    ⟨(some 25), none, .mov (.tmp 35)⟩]

/-- live: [0, 1, 2, 7, 23, 24, 25] -/
def f5l0 : ACode := (.seq (.ops f5r5)
  (.keep [0, 1, 2, 7, 23, 24, 25, 26] (.seq (.cond (.tmp 26) .skip (.exit 0))
  (.keep [0, 1, 2, 7, 23, 24, 25] (.seq (.block 1 (.seq (.ops f5r6)
  (.keep [0, 1, 2, 7, 9, 23, 24, 25] (.ops f5r7))))
  (.keep [0, 1, 2, 7, 23, 24, 25] (.ops f5r8)))))))

def f5r10 : List AInstr := [
    ⟨(some 37), none, .mov (.tmp 2)⟩,
    ⟨(some 38), none, .mov (.tmp 1)⟩,
    ⟨(some 39), none, .buildSlice 1 2 [.int .i64 0, .int .i64 0] [(0, 1, (.tmp 37)), (1, 1, (.tmp 38))]⟩,
    ⟨(some 40), none, .mov (.tmp 7)⟩,
    ⟨(some 41), none, .callF 8 [.tmp 39, .tmp 40]⟩,
    ⟨(some 36), none, .mov (.tmp 41)⟩,
    ⟨(some 42), none, .extract 0 (.tmp 36)⟩,
    ⟨(some 43), none, .extract 1 (.tmp 36)⟩,
    ⟨(some 44), none, .extract 2 (.tmp 36)⟩,
    ⟨(some 45), none, .extract 3 (.tmp 36)⟩,
    ⟨(some 10), none, .mov (.tmp 42)⟩,
    ⟨(some 11), none, .mov (.tmp 43)⟩,
    ⟨(some 12), none, .mov (.tmp 44)⟩,
    ⟨(some 13), none, .mov (.tmp 45)⟩]

def f5r11 : List AInstr := [
    ⟨(some 47), none, .mov (.tmp 1)⟩,
    ⟨(some 48), none, .mov (.tmp 2)⟩,
    ⟨(some 49), none, .buildSlice 1 2 [.int .i64 0, .int .i64 0] [(0, 1, (.tmp 47)), (1, 1, (.tmp 48))]⟩,
    ⟨(some 50), none, .mov (.tmp 7)⟩,
    ⟨(some 51), none, .callF 8 [.tmp 49, .tmp 50]⟩,
    ⟨(some 46), none, .mov (.tmp 51)⟩,
    ⟨(some 52), none, .extract 0 (.tmp 46)⟩,
    ⟨(some 53), none, .extract 1 (.tmp 46)⟩,
    ⟨(some 54), none, .extract 2 (.tmp 46)⟩,
    ⟨(some 55), none, .extract 3 (.tmp 46)⟩,
    ⟨(some 14), none, .mov (.tmp 52)⟩,
    ⟨(some 15), none, .mov (.tmp 53)⟩,
    ⟨(some 16), none, .mov (.tmp 54)⟩,
    ⟨(some 17), none, .mov (.tmp 55)⟩]

def f5r12 : List AInstr := [
    ⟨(some 56), none, .mov (.tmp 13)⟩,
    ⟨(some 57), none, .ibin .neq (.tmp 56) (.const (.int .i64 0))⟩,
    ⟨(some 58), none, .mov (.tmp 57)⟩,
    ⟨(some 59), (some (58, false)), .mov (.tmp 17)⟩,
    ⟨(some 60), (some (58, false)), .ibin .neq (.tmp 59) (.const (.int .i64 0))⟩,
    ⟨(some 61), none, .pick (.tmp 58) (.const (.bool true)) (.tmp 60)⟩]

def f5r13 : List AInstr := [
    ⟨(some 62), none, .mov (.tmp 13)⟩,
    ⟨(some 63), none, .mov (.tmp 17)⟩,
    ⟨(some 64), none, .ibin .eql (.tmp 62) (.tmp 63)⟩,
    ⟨(some 6), none, .mov (.tmp 64)⟩]

def f5r14 : List AInstr := [
    ⟨(some 18), none, .mov (.const (.slice none 0 0))⟩]

def f5r15 : List AInstr := [
    ⟨(some 65), none, .mov (.tmp 0)⟩,
    ⟨(some 66), none, .len (.tmp 65)⟩,
    ⟨(some 67), none, .mov (.const (.int .i64 0))⟩]

def f5r16 : List AInstr := [
    ⟨(some 68), none, .ibin .lss (.tmp 67) (.tmp 66)⟩]

def f5r17 : List AInstr := [
    ⟨(some 69), none, .indexAddr 1 (.tmp 65) (.tmp 67)⟩,
    ⟨(some 70), none, .load none (.tmp 69)⟩,
    ⟨(some 20), none, .mov (.tmp 70)⟩]

def f5r18 : List AInstr := [
    ⟨(some 71), none, .mov (.tmp 20)⟩,
    ⟨(some 72), none, .ibin .geq (.tmp 71) (.const (.int .i64 1))⟩,
    ⟨(some 73), none, .mov (.tmp 72)⟩,
    ⟨(some 74), (some (73, true)), .mov (.tmp 20)⟩,
    ⟨(some 75), (some (73, true)), .ibin .leq (.tmp 74) (.const (.int .i64 1500))⟩,
    ⟨(some 76), none, .pick (.tmp 73) (.tmp 75) (.const (.bool false))⟩]

def f5r19 : List AInstr := [
    ⟨(some 77), none, .mov (.tmp 18)⟩,
    ⟨(some 78), none, .mov (.tmp 20)⟩,
    ⟨(some 79), none, .build [.int .i64 0, .int .i64 0] [(0, 1, (.const (.int .i64 1))), (1, 1, (.tmp 78))]⟩,
    ⟨(some 80), none, .buildSlice 2 1 [.int .i64 0, .int .i64 0] [(0, 2, (.tmp 79))]⟩,
    ⟨(some 81), none, .append 2 16 (.tmp 77) (.tmp 80)⟩,
    ⟨(some 18), none, .mov (.tmp 81)⟩]

def f5r20 : List AInstr := [
    ⟨(some 82), none, .ibin .add (.tmp 67) (.const (.int .i64 1))⟩,
    ⟨(some 67), none, .mov (.tmp 82)⟩]

/-- live: [11, 15, 18, 65, 66, 67] -/
def f5l1 : ACode := (.seq (.ops f5r16)
  (.keep [11, 15, 18, 65, 66, 67, 68] (.seq (.cond (.tmp 68) .skip (.exit 2))
  (.keep [11, 15, 18, 65, 66, 67] (.seq (.block 3 (.seq (.ops f5r17)
  (.keep [11, 15, 18, 20, 65, 66, 67] (.seq (.ops f5r18)
  (.keep [11, 15, 18, 20, 65, 66, 67, 76] (.cond (.tmp 76) (.keep [11, 15, 18, 20, 65, 66, 67] (.ops f5r19)) .skip))))))
  (.keep [11, 15, 18, 65, 66, 67] (.ops f5r20)))))))

def f5r22 : List AInstr := [
    ⟨(some 83), none, .mov (.tmp 11)⟩,
    ⟨(some 84), none, .mov (.tmp 18)⟩,
    ⟨(some 85), none, .callF 10 [.tmp 83, .tmp 84]⟩,
    ⟨(some 86), none, .mov (.tmp 85)⟩,
    ⟨(some 87), (some (86, true)), .mov (.tmp 15)⟩,
    ⟨(some 88), (some (86, true)), .mov (.tmp 18)⟩,
    ⟨(some 89), (some (86, true)), .callF 10 [.tmp 87, .tmp 88]⟩,
    ⟨(some 90), none, .pick (.tmp 86) (.tmp 89) (.const (.bool false))⟩,
    ⟨(some 6), none, .mov (.tmp 90)⟩]

def f5b : ACode := (.seq (.ops f5r0)
  (.keep [0, 1, 2] (.seq (.seq (.ops f5r1)
  (.keep [0, 1, 2, 22] (.cond (.tmp 22) (.keep [] (.seq (.ops f5r2)
  (.keep [6] .ret))) .skip)))
  (.keep [0, 1, 2] (.seq (.ops f5r3)
  (.keep [0, 1, 2, 7] (.seq (.seq (.ops f5r4)
  (.keep [0, 1, 2, 7, 23, 24, 25] (.block 0 (.loop f5l0))))
  (.keep [0, 1, 2, 7] (.seq (.ops f5r10)
  (.keep [0, 1, 2, 7, 11, 13] (.seq (.ops f5r11)
  (.keep [0, 11, 13, 15, 17] (.seq (.seq (.ops f5r12)
  (.keep [0, 11, 13, 15, 17, 61] (.cond (.tmp 61) (.keep [13, 17] (.seq (.ops f5r13)
  (.keep [6] .ret))) .skip)))
  (.keep [0, 11, 15] (.seq (.ops f5r14)
  (.keep [0, 11, 15, 18] (.seq (.seq (.ops f5r15)
  (.keep [11, 15, 18, 65, 66, 67] (.block 2 (.loop f5l1))))
  (.keep [11, 15, 18] (.seq (.ops f5r22)
  (.keep [6] .ret))))))))))))))))))))

def f5 : AFn := ⟨91, [.tmp 6], f5b⟩

theorem f5_ok : compFn Try.prog 5 = some f5.strip := by kernel_rfl

/- function 6: weirhouse/weirhousekeep.WfqSmooth; parameters 2; operations that are not compiled: 0 -/
def f6r0 : List AInstr := [
    ⟨(some 4), none, .mov (.const (.bool false))⟩]

def f6r1 : List AInstr := [
    ⟨(some 13), none, .callF 7 []⟩,
    ⟨(some 14), none, .un .not (.tmp 13)⟩]

def f6r2 : List AInstr := [
    ⟨(some 4), none, .mov (.const (.bool false))⟩]

def f6r3 : List AInstr := [
    ⟨(some 15), none, .mov (.tmp 0)⟩,
    ⟨(some 16), none, .ibin .lss (.tmp 15) (.const (.int .i64 1))⟩,
    ⟨(some 17), none, .mov (.tmp 16)⟩,
    ⟨(some 18), (some (17, false)), .mov (.tmp 0)⟩,
    ⟨(some 19), (some (17, false)), .ibin .gtr (.tmp 18) (.const (.int .i64 1500))⟩,
    ⟨(some 20), none, .pick (.tmp 17) (.const (.bool true)) (.tmp 19)⟩,
    ⟨(some 21), none, .mov (.tmp 20)⟩,
    ⟨(some 22), (some (21, false)), .mov (.tmp 1)⟩,
    ⟨(some 23), (some (21, false)), .ibin .lss (.tmp 22) (.const (.int .i64 1))⟩,
    ⟨(some 24), none, .pick (.tmp 21) (.const (.bool true)) (.tmp 23)⟩,
    ⟨(some 25), none, .mov (.tmp 24)⟩,
    ⟨(some 26), (some (25, false)), .mov (.tmp 1)⟩,
    ⟨(some 27), (some (25, false)), .ibin .gtr (.tmp 26) (.const (.int .i64 12))⟩,
    ⟨(some 28), none, .pick (.tmp 25) (.const (.bool true)) (.tmp 27)⟩]

def f6r4 : List AInstr := [
    ⟨(some 4), none, .mov (.const (.bool true))⟩]

def f6r5 : List AInstr := [
    ⟨(some 29), none, .mov (.tmp 1)⟩,
    ⟨(some 30), none, .buildSlice 1 1 [.int .i64 0] [(0, 1, (.tmp 29))]⟩,
    ⟨(some 5), none, .mov (.tmp 30)⟩]

def f6r6 : List AInstr := [
    ⟨(some 6), none, .mov (.const (.slice none 0 0))⟩]

def f6r7 : List AInstr := [
    ⟨(some 31), none, .mov (.tmp 1)⟩,
    ⟨(some 32), none, .mov (.const (.int .i64 0))⟩]

def f6r8 : List AInstr := [
    ⟨(some 33), none, .ibin .lss (.tmp 32) (.tmp 31)⟩]

def f6r9 : List AInstr := [
    ⟨(some 34), none, .mov (.tmp 6)⟩,
    ⟨(some 35), none, .mov (.tmp 0)⟩,
    ⟨(some 36), none, .build [.int .i64 0, .int .i64 0, .int .i64 0] [(0, 1, (.const (.int .i64 1))), (2, 1, (.tmp 35))]⟩,
    ⟨(some 37), none, .buildSlice 3 1 [.int .i64 0, .int .i64 0, .int .i64 0] [(0, 3, (.tmp 36))]⟩,
    ⟨(some 38), none, .append 3 24 (.tmp 34) (.tmp 37)⟩,
    ⟨(some 6), none, .mov (.tmp 38)⟩]

def f6r10 : List AInstr := [
    ⟨(some 39), none, .ibin .add (.tmp 32) (.const (.int .i64 1))⟩,
    ⟨(some 32), none, .mov (.tmp 39)⟩]

/-- live: [0, 1, 5, 6, 31, 32] -/
def f6l0 : ACode := (.seq (.ops f6r8)
  (.keep [0, 1, 5, 6, 31, 32, 33] (.seq (.cond (.tmp 33) .skip (.exit 0))
  (.keep [0, 1, 5, 6, 31, 32] (.seq (.block 1 (.ops f6r9))
  (.keep [0, 1, 5, 6, 31, 32] (.ops f6r10)))))))

def f6r12 : List AInstr := [
    ⟨(some 40), none, .mov (.tmp 1)⟩,
    ⟨(some 41), none, .mov (.const (.int .i64 0))⟩]

def f6r13 : List AInstr := [
    ⟨(some 42), none, .ibin .lss (.tmp 41) (.tmp 40)⟩]

def f6r14 : List AInstr := [
    ⟨(some 43), none, .mov (.tmp 41)⟩,
    ⟨(some 7), none, .mov (.tmp 43)⟩]

def f6r15 : List AInstr := [
    ⟨(some 44), none, .mov (.tmp 5)⟩,
    ⟨(some 45), none, .buildSlice 1 1 [.int .i64 0] [(0, 1, (.const (.int .i64 1)))]⟩,
    ⟨(some 46), none, .append 1 8 (.tmp 44) (.tmp 45)⟩,
    ⟨(some 5), none, .mov (.tmp 46)⟩]

def f6r16 : List AInstr := [
    ⟨(some 47), none, .mov (.tmp 6)⟩,
    ⟨(some 48), none, .mov (.tmp 7)⟩,
    ⟨(some 49), none, .ibin .add (.tmp 48) (.const (.int .i64 1))⟩,
    ⟨(some 50), none, .mov (.tmp 0)⟩,
    ⟨(some 51), none, .build [.int .i64 0, .int .i64 0, .int .i64 0] [(0, 1, (.const (.int .i64 1))), (1, 1, (.tmp 49)), (2, 1, (.tmp 50))]⟩,
    ⟨(some 52), none, .buildSlice 3 1 [.int .i64 0, .int .i64 0, .int .i64 0] [(0, 3, (.tmp 51))]⟩,
    ⟨(some 53), none, .append 3 24 (.tmp 47) (.tmp 52)⟩,
    ⟨(some 6), none, .mov (.tmp 53)⟩]

def f6r17 : List AInstr := [
    ⟨(some 54), none, .ibin .add (.tmp 41) (.const (.int .i64 1))⟩,
    ⟨(some 41), none, .mov (.tmp 54)⟩]

/-- live: [0, 1, 5, 6, 40, 41] -/
def f6l1 : ACode := (.seq (.ops f6r13)
  (.keep [0, 1, 5, 6, 40, 41, 42] (.seq (.cond (.tmp 42) .skip (.exit 2))
  (.keep [0, 1, 5, 6, 40, 41] (.seq (.block 3 (.seq (.ops f6r14)
  (.keep [0, 1, 5, 6, 7, 40, 41] (.seq (.ops f6r15)
  (.keep [0, 1, 5, 6, 7, 40, 41] (.ops f6r16))))))
  (.keep [0, 1, 5, 6, 40, 41] (.ops f6r17)))))))

def f6r19 : List AInstr := [
    ⟨(some 55), none, .mov (.tmp 1)⟩,
    ⟨(some 56), none, .ibin .mul (.const (.int .i64 2)) (.tmp 55)⟩,
    ⟨(some 57), none, .mov (.const (.int .i64 0))⟩]

def f6r20 : List AInstr := [
    ⟨(some 58), none, .ibin .lss (.tmp 57) (.tmp 56)⟩]

def f6r21 : List AInstr := [
    ⟨(some 59), none, .mov (.tmp 6)⟩,
    ⟨(some 60), none, .build [.int .i64 0, .int .i64 0, .int .i64 0] [(0, 1, (.const (.int .i64 2)))]⟩,
    ⟨(some 61), none, .buildSlice 3 1 [.int .i64 0, .int .i64 0, .int .i64 0] [(0, 3, (.tmp 60))]⟩,
    ⟨(some 62), none, .append 3 24 (.tmp 59) (.tmp 61)⟩,
    ⟨(some 6), none, .mov (.tmp 62)⟩]

def f6r22 : List AInstr := [
    ⟨(some 63), none, .ibin .add (.tmp 57) (.const (.int .i64 1))⟩,
    ⟨(some 57), none, .mov (.tmp 63)⟩]

/-- live: [1, 5, 6, 56, 57] -/
def f6l2 : ACode := (.seq (.ops f6r20)
  (.keep [1, 5, 6, 56, 57, 58] (.seq (.cond (.tmp 58) .skip (.exit 4))
  (.keep [1, 5, 6, 56, 57] (.seq (.block 5 (.ops f6r21))
  (.keep [1, 5, 6, 56, 57] (.ops f6r22)))))))

def f6r24 : List AInstr := [
    ⟨(some 65), none, .mov (.tmp 5)⟩,
    ⟨(some 66), none, .mov (.tmp 6)⟩,
    ⟨(some 67), none, .callF 8 [.tmp 65, .tmp 66]⟩,
    ⟨(some 64), none, .mov (.tmp 67)⟩,
    ⟨(some 68), none, .extract 0 (.tmp 64)⟩,
    ⟨(some 69), none, .extract 1 (.tmp 64)⟩,
    ⟨(some 70), none, .extract 2 (.tmp 64)⟩,
    ⟨(some 71), none, .extract 3 (.tmp 64)⟩,
    ⟨(some 8), none, .mov (.tmp 68)⟩,
    ⟨(some 9), none, .mov (.tmp 69)⟩,
    ⟨(some 10), none, .mov (.tmp 70)⟩,
    ⟨(some 11), none, .mov (.tmp 71)⟩]

def f6r25 : List AInstr := [
    ⟨(some 72), none, .mov (.tmp 11)⟩,
    ⟨(some 73), none, .ibin .neq (.tmp 72) (.const (.int .i64 0))⟩,
    ⟨(some 74), none, .mov (.tmp 73)⟩,
    ⟨(some 75), (some (74, false)), .mov (.tmp 9)⟩,
    ⟨(some 76), (some (74, false)), .len (.tmp 75)⟩,
    ⟨(some 77), (some (74, false)), .mov (.tmp 1)⟩,
    ⟨(some 78), (some (74, false)), .ibin .mul (.const (.int .i64 2)) (.tmp 77)⟩,
    ⟨(some 79), (some (74, false)), .ibin .neq (.tmp 76) (.tmp 78)⟩,
    ⟨(some 80), none, .pick (.tmp 74) (.const (.bool true)) (.tmp 79)⟩]

def f6r26 : List AInstr := [
    ⟨(some 4), none, .mov (.const (.bool false))⟩]

def f6r27 : List AInstr := [
    ⟨(some 12), none, .mov (.const (.int .i64 1))⟩]

def f6r28 : List AInstr := [
    ⟨(some 81), none, .mov (.tmp 12)⟩,
    ⟨(some 82), none, .mov (.tmp 9)⟩,
    ⟨(some 83), none, .len (.tmp 82)⟩,
    ⟨(some 84), none, .ibin .lss (.tmp 81) (.tmp 83)⟩]

def f6r29 : List AInstr := [
    ⟨(some 87), none, .mov (.tmp 9)⟩,
    ⟨(some 88), none, .mov (.tmp 12)⟩,
    ⟨(some 89), none, .indexAddr 2 (.tmp 87) (.tmp 88)⟩,
    ⟨(some 90), none, .fieldAddr 0 (.tmp 89)⟩,
    ⟨(some 91), none, .load none (.tmp 90)⟩,
    ⟨(some 92), none, .ibin .eql (.tmp 91) (.const (.int .i64 0))⟩,
    ⟨(some 93), none, .mov (.tmp 92)⟩,
    ⟨(some 94), (some (93, true)), .mov (.tmp 9)⟩,
    ⟨(some 95), (some (93, true)), .mov (.tmp 12)⟩,
    ⟨(some 96), (some (93, true)), .ibin .sub (.tmp 95) (.const (.int .i64 1))⟩,
    ⟨(some 97), (some (93, true)), .indexAddr 2 (.tmp 94) (.tmp 96)⟩,
    ⟨(some 98), (some (93, true)), .fieldAddr 0 (.tmp 97)⟩,
    ⟨(some 99), (some (93, true)), .load none (.tmp 98)⟩,
    ⟨(some 100), (some (93, true)), .ibin .eql (.tmp 99) (.const (.int .i64 0))⟩,
    ⟨(some 101), none, .pick (.tmp 93) (.tmp 100) (.const (.bool false))⟩]

def f6r30 : List AInstr := [
    ⟨(some 4), none, .mov (.const (.bool false))⟩]

def f6r31 : List AInstr := [
    ⟨(some 85), none, .mov (.tmp 12)⟩,
    ⟨(some 86), none, .ibin .add (.tmp 85) (.const (.int .i64 1))⟩,
    ⟨(some 12), none, .mov (.tmp 86)⟩]

/-- live: [9, 12] -/
def f6l3 : ACode := (.seq (.seq (.ops f6r28)
  (.keep [9, 12, 84] (.cond (.tmp 84) .skip (.exit 6))))
  (.keep [9, 12] (.seq (.block 7 (.seq (.ops f6r29)
  (.keep [9, 12, 101] (.cond (.tmp 101) (.keep [] (.seq (.ops f6r30)
  (.keep [4] .ret))) .skip))))
  (.keep [9, 12] (.ops f6r31)))))

def f6r33 : List AInstr := [
    ⟨(some 4), none, .mov (.const (.bool true))⟩]

def f6b : ACode := (.seq (.ops f6r0)
  (.keep [0, 1] (.seq (.seq (.ops f6r1)
  (.keep [0, 1, 14] (.cond (.tmp 14) (.keep [] (.seq (.ops f6r2)
  (.keep [4] .ret))) .skip)))
  (.keep [0, 1] (.seq (.seq (.ops f6r3)
  (.keep [0, 1, 28] (.cond (.tmp 28) (.keep [] (.seq (.ops f6r4)
  (.keep [4] .ret))) .skip)))
  (.keep [0, 1] (.seq (.ops f6r5)
  (.keep [0, 1, 5] (.seq (.ops f6r6)
  (.keep [0, 1, 5, 6] (.seq (.seq (.ops f6r7)
  (.keep [0, 1, 5, 6, 31, 32] (.block 0 (.loop f6l0))))
  (.keep [0, 1, 5, 6] (.seq (.seq (.ops f6r12)
  (.keep [0, 1, 5, 6, 40, 41] (.block 2 (.loop f6l1))))
  (.keep [1, 5, 6] (.seq (.seq (.ops f6r19)
  (.keep [1, 5, 6, 56, 57] (.block 4 (.loop f6l2))))
  (.keep [1, 5, 6] (.seq (.ops f6r24)
  (.keep [1, 9, 11] (.seq (.seq (.ops f6r25)
  (.keep [9, 80] (.cond (.tmp 80) (.keep [] (.seq (.ops f6r26)
  (.keep [4] .ret))) .skip)))
  (.keep [9] (.seq (.seq (.ops f6r27)
  (.keep [9, 12] (.block 6 (.loop f6l3))))
  (.keep [] (.seq (.ops f6r33)
  (.keep [4] .ret))))))))))))))))))))))))

def f6 : AFn := ⟨102, [.tmp 4], f6b⟩

theorem f6_ok : compFn Try.prog 6 = some f6.strip := by kernel_rfl

/- function 7: weirhouse/weirhousekeep.alive16; parameters 0; operations that are not compiled: 0 -/
def f7r0 : List AInstr := [
    ⟨(some 0), none, .mov (.const (.bool false))⟩]

def f7r1 : List AInstr := [
    ⟨(some 6), none, .build [.int .i64 0, .int .i64 0, .int .i64 0] [(0, 1, (.const (.int .i64 1))), (2, 1, (.const (.int .i64 100)))]⟩,
    ⟨(some 7), none, .build [.int .i64 0, .int .i64 0, .int .i64 0] [(0, 1, (.const (.int .i64 1))), (2, 1, (.const (.int .i64 100)))]⟩,
    ⟨(some 8), none, .build [.int .i64 0, .int .i64 0, .int .i64 0] [(0, 1, (.const (.int .i64 1))), (1, 1, (.const (.int .i64 1))), (2, 1, (.const (.int .i64 100)))]⟩,
    ⟨(some 9), none, .build [.int .i64 0, .int .i64 0, .int .i64 0] [(0, 1, (.const (.int .i64 1))), (1, 1, (.const (.int .i64 1))), (2, 1, (.const (.int .i64 100)))]⟩,
    ⟨(some 10), none, .build [.int .i64 0, .int .i64 0, .int .i64 0] [(0, 1, (.const (.int .i64 2)))]⟩,
    ⟨(some 11), none, .build [.int .i64 0, .int .i64 0, .int .i64 0] [(0, 1, (.const (.int .i64 2)))]⟩,
    ⟨(some 12), none, .build [.int .i64 0, .int .i64 0, .int .i64 0] [(0, 1, (.const (.int .i64 2)))]⟩,
    ⟨(some 13), none, .build [.int .i64 0, .int .i64 0, .int .i64 0] [(0, 1, (.const (.int .i64 2)))]⟩,
    ⟨(some 14), none, .build [.int .i64 0, .int .i64 0, .int .i64 0] [(0, 1, (.const (.int .i64 2)))]⟩,
    ⟨(some 15), none, .buildSlice 3 9 [.int .i64 0, .int .i64 0, .int .i64 0, .int .i64 0, .int .i64 0, .int .i64 0, .int .i64 0, .int .i64 0, .int .i64 0, .int .i64 0, .int .i64 0, .int .i64 0, .int .i64 0, .int .i64 0, .int .i64 0, .int .i64 0, .int .i64 0, .int .i64 0, .int .i64 0, .int .i64 0, .int .i64 0, .int .i64 0, .int .i64 0, .int .i64 0, .int .i64 0, .int .i64 0, .int .i64 0] [(0, 3, (.tmp 6)), (3, 3, (.tmp 7)), (6, 3, (.tmp 8)), (9, 3, (.tmp 9)), (12, 3, (.tmp 10)), (15, 3, (.tmp 11)), (18, 3, (.tmp 12)), (21, 3, (.tmp 13)), (24, 3, (.tmp 14))]⟩,
    ⟨(some 1), none, .mov (.tmp 15)⟩]

def f7r2 : List AInstr := [
    ⟨(some 17), none, .buildSlice 1 2 [.int .i64 0, .int .i64 0] [(0, 1, (.const (.int .i64 1))), (1, 1, (.const (.int .i64 3)))]⟩,
    ⟨(some 18), none, .mov (.tmp 1)⟩,
    ⟨(some 19), none, .callF 8 [.tmp 17, .tmp 18]⟩,
    ⟨(some 16), none, .mov (.tmp 19)⟩,
    ⟨(some 20), none, .extract 0 (.tmp 16)⟩,
    ⟨(some 21), none, .extract 1 (.tmp 16)⟩,
    ⟨(some 22), none, .extract 2 (.tmp 16)⟩,
    ⟨(some 23), none, .extract 3 (.tmp 16)⟩,
    ⟨(some 2), none, .mov (.tmp 20)⟩,
    ⟨(some 3), none, .mov (.tmp 21)⟩,
    ⟨(some 4), none, .mov (.tmp 22)⟩,
    ⟨(some 5), none, .mov (.tmp 23)⟩]

def f7r3 : List AInstr := [
    ⟨(some 24), none, .mov (.tmp 5)⟩,
    ⟨(some 25), none, .ibin .eql (.tmp 24) (.const (.int .i64 0))⟩,
    ⟨(some 26), none, .mov (.tmp 25)⟩,
    ⟨(some 27), (some (26, true)), .mov (.tmp 2)⟩,
    ⟨(some 28), (some (26, true)), .len (.tmp 27)⟩,
    ⟨(some 29), (some (26, true)), .ibin .eql (.tmp 28) (.const (.int .i64 9))⟩,
    ⟨(some 30), none, .pick (.tmp 26) (.tmp 29) (.const (.bool false))⟩,
    ⟨(some 31), none, .mov (.tmp 30)⟩,
    ⟨(some 32), (some (31, true)), .mov (.tmp 2)⟩,
    ⟨(some 33), (some (31, true)), .indexAddr 1 (.tmp 32) (.const (.int .i64 8))⟩,
    ⟨(some 34), (some (31, true)), .load none (.tmp 33)⟩,
    ⟨(some 35), (some (31, true)), .ibin .eql (.tmp 34) (.const (.int .i64 3))⟩,
    ⟨(some 36), none, .pick (.tmp 31) (.tmp 35) (.const (.bool false))⟩,
    ⟨(some 37), none, .mov (.tmp 36)⟩,
    ⟨(some 38), (some (37, true)), .mov (.tmp 3)⟩,
    ⟨(some 39), (some (37, true)), .build [.int .i64 0, .int .i64 0] [(0, 1, (.const (.int .i64 1))), (1, 1, (.const (.int .i64 100)))]⟩,
    ⟨(some 40), (some (37, true)), .build [.int .i64 0, .int .i64 0] [(0, 1, (.const (.int .i64 0))), (1, 1, (.const (.int .i64 100)))]⟩,
    ⟨(some 41), (some (37, true)), .build [.int .i64 0, .int .i64 0] [(0, 1, (.const (.int .i64 1))), (1, 1, (.const (.int .i64 100)))]⟩,
    ⟨(some 42), (some (37, true)), .build [.int .i64 0, .int .i64 0] [(0, 1, (.const (.int .i64 0))), (1, 1, (.const (.int .i64 100)))]⟩,
    ⟨(some 43), (some (37, true)), .buildSlice 2 4 [.int .i64 0, .int .i64 0, .int .i64 0, .int .i64 0, .int .i64 0, .int .i64 0, .int .i64 0, .int .i64 0] [(0, 2, (.tmp 39)), (2, 2, (.tmp 40)), (4, 2, (.tmp 41)), (6, 2, (.tmp 42))]⟩,
    ⟨(some 44), (some (37, true)), .callF 10 [.tmp 38, .tmp 43]⟩,
    ⟨(some 45), none, .pick (.tmp 37) (.tmp 44) (.const (.bool false))⟩,
    ⟨(some 46), none, .mov (.tmp 45)⟩,
    ⟨(some 47), (some (46, true)), .mov (.tmp 4)⟩,
    ⟨(some 48), (some (46, true)), .buildSlice 1 2 [.int .i64 0, .int .i64 0] [(0, 1, (.const (.int .i64 0))), (1, 1, (.const (.int .i64 0)))]⟩,
    ⟨(some 49), (some (46, true)), .callF 11 [.tmp 47, .tmp 48]⟩,
    ⟨(some 50), none, .pick (.tmp 46) (.tmp 49) (.const (.bool false))⟩,
    ⟨(some 0), none, .mov (.tmp 50)⟩]

def f7b : ACode := (.seq (.ops f7r0)
  (.keep [] (.seq (.ops f7r1)
  (.keep [1] (.seq (.ops f7r2)
  (.keep [2, 3, 4, 5] (.seq (.ops f7r3)
  (.keep [0] .ret))))))))

def f7 : AFn := ⟨51, [.tmp 0], f7b⟩

theorem f7_ok : compFn Try.prog 7 = some f7.strip := by kernel_rfl

/- function 8: weirhouse/wfq.Play; parameters 2; operations that are not compiled: 0 -/
def f8r0 : List AInstr := [
    ⟨(some 4), none, .mov (.const (.slice none 0 0))⟩,
    ⟨(some 5), none, .mov (.const (.slice none 0 0))⟩,
    ⟨(some 6), none, .mov (.const (.slice none 0 0))⟩,
    ⟨(some 7), none, .mov (.const (.int .i64 0))⟩]

def f8r1 : List AInstr := [
    ⟨(some 22), none, .mov (.tmp 0)⟩,
    ⟨(some 23), none, .callF 12 [.tmp 22]⟩,
    ⟨(some 8), none, .mov (.tmp 23)⟩]

def f8r2 : List AInstr := [
    ⟨(some 24), none, .mov (.tmp 8)⟩,
    ⟨(some 25), none, .ibin .neq (.tmp 24) (.const (.int .i64 0))⟩]

def f8r3 : List AInstr := [
    ⟨(some 26), none, .mov (.tmp 8)⟩,
    ⟨(some 4), none, .mov (.const (.slice none 0 0))⟩,
    ⟨(some 5), none, .mov (.const (.slice none 0 0))⟩,
    ⟨(some 6), none, .mov (.const (.slice none 0 0))⟩,
    ⟨(some 7), none, .mov (.tmp 26)⟩]

def f8r4 : List AInstr := [
    ⟨(some 27), none, .mov (.tmp 1)⟩,
    ⟨(some 28), none, .len (.tmp 27)⟩,
    ⟨(some 29), none, .ibin .gtr (.tmp 28) (.const (.int .i64 400))⟩]

def f8r5 : List AInstr := [
    ⟨(some 4), none, .mov (.const (.slice none 0 0))⟩,
    ⟨(some 5), none, .mov (.const (.slice none 0 0))⟩,
    ⟨(some 6), none, .mov (.const (.slice none 0 0))⟩,
    ⟨(some 7), none, .mov (.const (.int .i64 2))⟩]

def f8r6 : List AInstr := [
    ⟨(some 30), none, .mov (.tmp 0)⟩,
    ⟨(some 31), none, .mov (.tmp 0)⟩,
    ⟨(some 32), none, .len (.tmp 31)⟩,
    ⟨(some 33), none, .makeSlice 3 40 [.slice none 0 0, .int .i64 0, .int .i64 0] (.tmp 32) (.tmp 32)⟩,
    ⟨(some 34), none, .build [.slice none 0 0, .slice none 0 0, .int .i64 0, .int .i64 0] [(0, 1, (.tmp 30)), (1, 1, (.tmp 33))]⟩,
    ⟨(some 35), none, .box (.tmp 34)⟩,
    ⟨(some 9), none, .mov (.tmp 35)⟩]

def f8r7 : List AInstr := [
    ⟨(some 36), none, .mov (.tmp 0)⟩,
    ⟨(some 37), none, .len (.tmp 36)⟩,
    ⟨(some 38), none, .mov (.const (.int .i64 0))⟩]

def f8r8 : List AInstr := [
    ⟨(some 39), none, .ibin .lss (.tmp 38) (.tmp 37)⟩]

def f8r9 : List AInstr := [
    ⟨(some 40), none, .indexAddr 1 (.tmp 36) (.tmp 38)⟩,
    ⟨(some 41), none, .load none (.tmp 40)⟩,
    ⟨(some 11), none, .mov (.tmp 41)⟩]

def f8r10 : List AInstr := [
    ⟨(some 42), none, .mov (.tmp 9)⟩,
    ⟨(some 43), none, .nilCheck (.tmp 42)⟩,
    ⟨(some 44), none, .fieldAddr 2 (.tmp 43)⟩,
    ⟨(some 45), none, .load none (.tmp 44)⟩,
    ⟨(some 46), none, .mov (.tmp 11)⟩,
    ⟨(some 47), none, .ibin .add (.tmp 45) (.tmp 46)⟩,
    ⟨(some 48), none, .nilCheck (.tmp 42)⟩,
    ⟨(some 49), none, .fieldAddr 2 (.tmp 48)⟩,
    ⟨none, none, .store 1 (.tmp 49) (.tmp 47)⟩]

def f8r11 : List AInstr := [
    ⟨(some 50), none, .ibin .add (.tmp 38) (.const (.int .i64 1))⟩,
    ⟨(some 38), none, .mov (.tmp 50)⟩]

/-- live: [0, 1, 9, 36, 37, 38] -/
def f8l0 : ACode := (.seq (.ops f8r8)
  (.keep [0, 1, 9, 36, 37, 38, 39] (.seq (.cond (.tmp 39) .skip (.exit 0))
  (.keep [0, 1, 9, 36, 37, 38] (.seq (.block 1 (.seq (.ops f8r9)
  (.keep [0, 1, 9, 11, 36, 37, 38] (.ops f8r10))))
  (.keep [0, 1, 9, 36, 37, 38] (.ops f8r11)))))))

def f8r13 : List AInstr := [
    ⟨(some 12), none, .mov (.const (.slice none 0 0))⟩]

def f8r14 : List AInstr := [
    ⟨(some 13), none, .mov (.const (.slice none 0 0))⟩]

def f8r15 : List AInstr := [
    ⟨(some 51), none, .mov (.tmp 1)⟩,
    ⟨(some 52), none, .len (.tmp 51)⟩,
    ⟨(some 53), none, .mov (.const (.int .i64 0))⟩]

def f8r16 : List AInstr := [
    ⟨(some 54), none, .ibin .lss (.tmp 53) (.tmp 52)⟩]

def f8r17 : List AInstr := [
    ⟨(some 55), none, .indexAddr 3 (.tmp 51) (.tmp 53)⟩,
    ⟨(some 56), none, .load (some 3) (.tmp 55)⟩,
    ⟨(some 15), none, .alloc [.int .i64 0, .int .i64 0, .int .i64 0]⟩,
    ⟨none, none, .store 3 (.tmp 15) (.tmp 56)⟩]

def f8r18 : List AInstr := [
    ⟨(some 16), none, .mov (.const (.int .i64 0))⟩]

def f8r19 : List AInstr := [
    ⟨(some 64), none, .fieldAddr 0 (.tmp 15)⟩,
    ⟨(some 65), none, .load none (.tmp 64)⟩,
    ⟨(some 66), none, .ibin .neq (.tmp 65) (.const (.int .i64 1))⟩,
    ⟨(some 67), none, .mov (.tmp 66)⟩,
    ⟨(some 68), (some (67, true)), .fieldAddr 0 (.tmp 15)⟩,
    ⟨(some 69), (some (67, true)), .load none (.tmp 68)⟩,
    ⟨(some 70), (some (67, true)), .ibin .neq (.tmp 69) (.const (.int .i64 2))⟩,
    ⟨(some 71), none, .pick (.tmp 67) (.tmp 70) (.const (.bool false))⟩,
    ⟨(some 63), none, .mov (.tmp 71)⟩]

def f8r20 : List AInstr := [
    ⟨(some 16), none, .mov (.const (.int .i64 5))⟩]

def f8r21 : List AInstr := [
    ⟨(some 73), none, .fieldAddr 0 (.tmp 15)⟩,
    ⟨(some 74), none, .load none (.tmp 73)⟩,
    ⟨(some 75), none, .ibin .eql (.tmp 74) (.const (.int .i64 2))⟩,
    ⟨(some 72), none, .mov (.tmp 75)⟩]

def f8r22 : List AInstr := [
    ⟨(some 77), none, .mov (.tmp 9)⟩,
    ⟨(some 78), none, .callF 13 [.tmp 77]⟩,
    ⟨(some 76), none, .mov (.tmp 78)⟩,
    ⟨(some 79), none, .extract 0 (.tmp 76)⟩,
    ⟨(some 80), none, .extract 1 (.tmp 76)⟩,
    ⟨(some 17), none, .alloc [.int .i64 0, .int .i64 0]⟩,
    ⟨none, none, .store 2 (.tmp 17) (.tmp 79)⟩,
    ⟨(some 18), none, .mov (.tmp 80)⟩]

def f8r23 : List AInstr := [
    ⟨(some 81), none, .mov (.tmp 18)⟩]

def f8r24 : List AInstr := [
    ⟨(some 82), none, .mov (.tmp 13)⟩,
    ⟨(some 83), none, .load (some 2) (.tmp 17)⟩,
    ⟨(some 84), none, .buildSlice 2 1 [.int .i64 0, .int .i64 0] [(0, 2, (.tmp 83))]⟩,
    ⟨(some 85), none, .append 2 16 (.tmp 82) (.tmp 84)⟩,
    ⟨(some 13), none, .mov (.tmp 85)⟩]

def f8r25 : List AInstr := [
    ⟨(some 16), none, .mov (.const (.int .i64 3))⟩]

def f8r26 : List AInstr := [
    ⟨(some 87), none, .fieldAddr 1 (.tmp 15)⟩,
    ⟨(some 88), none, .load none (.tmp 87)⟩,
    ⟨(some 89), none, .ibin .lss (.tmp 88) (.const (.int .i64 0))⟩,
    ⟨(some 90), none, .mov (.tmp 89)⟩,
    ⟨(some 91), (some (90, false)), .fieldAddr 1 (.tmp 15)⟩,
    ⟨(some 92), (some (90, false)), .load none (.tmp 91)⟩,
    ⟨(some 93), (some (90, false)), .mov (.tmp 0)⟩,
    ⟨(some 94), (some (90, false)), .len (.tmp 93)⟩,
    ⟨(some 95), (some (90, false)), .ibin .geq (.tmp 92) (.tmp 94)⟩,
    ⟨(some 96), none, .pick (.tmp 90) (.const (.bool true)) (.tmp 95)⟩,
    ⟨(some 86), none, .mov (.tmp 96)⟩]

def f8r27 : List AInstr := [
    ⟨(some 16), none, .mov (.const (.int .i64 3))⟩]

def f8r28 : List AInstr := [
    ⟨(some 98), none, .fieldAddr 2 (.tmp 15)⟩,
    ⟨(some 99), none, .load none (.tmp 98)⟩,
    ⟨(some 100), none, .ibin .lss (.tmp 99) (.const (.int .i64 1))⟩,
    ⟨(some 101), none, .mov (.tmp 100)⟩,
    ⟨(some 102), (some (101, false)), .fieldAddr 2 (.tmp 15)⟩,
    ⟨(some 103), (some (101, false)), .load none (.tmp 102)⟩,
    ⟨(some 104), (some (101, false)), .ibin .gtr (.tmp 103) (.const (.int .i64 1500))⟩,
    ⟨(some 105), none, .pick (.tmp 101) (.const (.bool true)) (.tmp 104)⟩,
    ⟨(some 97), none, .mov (.tmp 105)⟩]

def f8r29 : List AInstr := [
    ⟨(some 16), none, .mov (.const (.int .i64 2))⟩]

def f8r30 : List AInstr := [
    ⟨(some 57), none, .mov (.tmp 9)⟩,
    ⟨(some 58), none, .fieldAddr 1 (.tmp 15)⟩,
    ⟨(some 59), none, .load none (.tmp 58)⟩,
    ⟨(some 60), none, .fieldAddr 2 (.tmp 15)⟩,
    ⟨(some 61), none, .load none (.tmp 60)⟩,
    ⟨(some 62), none, .callF 14 [.tmp 57, .tmp 59, .tmp 61]⟩]

def f8r31 : List AInstr := [
    ⟨(some 106), none, .mov (.tmp 12)⟩,
    ⟨(some 107), none, .mov (.tmp 16)⟩,
    ⟨(some 108), none, .buildSlice 1 1 [.int .i64 0] [(0, 1, (.tmp 107))]⟩,
    ⟨(some 109), none, .append 1 8 (.tmp 106) (.tmp 108)⟩,
    ⟨(some 12), none, .mov (.tmp 109)⟩]

def f8r32 : List AInstr := [
    ⟨(some 110), none, .ibin .add (.tmp 53) (.const (.int .i64 1))⟩,
    ⟨(some 53), none, .mov (.tmp 110)⟩]

/-- live: [0, 9, 12, 13, 51, 52, 53] -/
def f8l1 : ACode := (.seq (.ops f8r16)
  (.keep [0, 9, 12, 13, 51, 52, 53, 54] (.seq (.cond (.tmp 54) .skip (.exit 2))
  (.keep [0, 9, 12, 13, 51, 52, 53] (.seq (.block 3 (.seq (.ops f8r17)
  (.keep [0, 9, 12, 13, 15, 51, 52, 53] (.seq (.ops f8r18)
  (.keep [0, 9, 12, 13, 15, 16, 51, 52, 53] (.seq (.block 4 (.seq (.ops f8r19)
  (.keep [0, 9, 12, 13, 15, 16, 51, 52, 53, 63] (.cond (.tmp 63) (.keep [0, 9, 12, 13, 51, 52, 53] (.ops f8r20)) (.keep [0, 9, 12, 13, 15, 16, 51, 52, 53] (.seq (.ops f8r21)
  (.keep [0, 9, 12, 13, 15, 16, 51, 52, 53, 72] (.cond (.tmp 72) (.keep [0, 9, 12, 13, 16, 51, 52, 53] (.seq (.ops f8r22)
  (.keep [0, 9, 12, 13, 16, 17, 18, 51, 52, 53] (.seq (.ops f8r23)
  (.keep [0, 9, 12, 13, 16, 17, 51, 52, 53, 81] (.cond (.tmp 81) (.keep [0, 9, 12, 13, 16, 17, 51, 52, 53] (.ops f8r24)) (.keep [0, 9, 12, 13, 51, 52, 53] (.ops f8r25)))))))) (.keep [0, 9, 12, 13, 15, 16, 51, 52, 53] (.seq (.ops f8r26)
  (.keep [0, 9, 12, 13, 15, 16, 51, 52, 53, 86] (.cond (.tmp 86) (.keep [0, 9, 12, 13, 51, 52, 53] (.ops f8r27)) (.keep [0, 9, 12, 13, 15, 16, 51, 52, 53] (.seq (.ops f8r28)
  (.keep [0, 9, 12, 13, 15, 16, 51, 52, 53, 97] (.cond (.tmp 97) (.keep [0, 9, 12, 13, 51, 52, 53] (.ops f8r29)) (.keep [0, 9, 12, 13, 15, 16, 51, 52, 53] (.ops f8r30))))))))))))))))))
  (.keep [0, 9, 12, 13, 16, 51, 52, 53] (.ops f8r31))))))))
  (.keep [0, 9, 12, 13, 51, 52, 53] (.ops f8r32)))))))

def f8r34 : List AInstr := [
    ⟨(some 19), none, .mov (.const (.slice none 0 0))⟩]

def f8r35 : List AInstr := [
    ⟨(some 111), none, .mov (.tmp 9)⟩,
    ⟨(some 112), none, .nilCheck (.tmp 111)⟩,
    ⟨(some 113), none, .fieldAddr 1 (.tmp 112)⟩,
    ⟨(some 114), none, .load none (.tmp 113)⟩,
    ⟨(some 115), none, .len (.tmp 114)⟩,
    ⟨(some 116), none, .mov (.const (.int .i64 0))⟩]

def f8r36 : List AInstr := [
    ⟨(some 117), none, .ibin .lss (.tmp 116) (.tmp 115)⟩]

def f8r37 : List AInstr := [
    ⟨(some 118), none, .indexAddr 3 (.tmp 114) (.tmp 116)⟩,
    ⟨(some 119), none, .load (some 3) (.tmp 118)⟩,
    ⟨(some 21), none, .alloc [.slice none 0 0, .int .i64 0, .int .i64 0]⟩,
    ⟨none, none, .store 3 (.tmp 21) (.tmp 119)⟩]

def f8r38 : List AInstr := [
    ⟨(some 120), none, .mov (.tmp 19)⟩,
    ⟨(some 121), none, .fieldAddr 0 (.tmp 21)⟩,
    ⟨(some 122), none, .load none (.tmp 121)⟩,
    ⟨(some 123), none, .len (.tmp 122)⟩,
    ⟨(some 124), none, .buildSlice 1 1 [.int .i64 0] [(0, 1, (.tmp 123))]⟩,
    ⟨(some 125), none, .append 1 8 (.tmp 120) (.tmp 124)⟩,
    ⟨(some 19), none, .mov (.tmp 125)⟩]

def f8r39 : List AInstr := [
    ⟨(some 126), none, .ibin .add (.tmp 116) (.const (.int .i64 1))⟩,
    ⟨(some 116), none, .mov (.tmp 126)⟩]

/-- live: [12, 13, 19, 114, 115, 116] -/
def f8l2 : ACode := (.seq (.ops f8r36)
  (.keep [12, 13, 19, 114, 115, 116, 117] (.seq (.cond (.tmp 117) .skip (.exit 5))
  (.keep [12, 13, 19, 114, 115, 116] (.seq (.block 6 (.seq (.ops f8r37)
  (.keep [12, 13, 19, 21, 114, 115, 116] (.ops f8r38))))
  (.keep [12, 13, 19, 114, 115, 116] (.ops f8r39)))))))

def f8r41 : List AInstr := [
    ⟨(some 127), none, .mov (.tmp 12)⟩,
    ⟨(some 128), none, .mov (.tmp 13)⟩,
    ⟨(some 129), none, .mov (.tmp 19)⟩,
    ⟨(some 4), none, .mov (.tmp 127)⟩,
    ⟨(some 5), none, .mov (.tmp 128)⟩,
    ⟨(some 6), none, .mov (.tmp 129)⟩,
    ⟨(some 7), none, .mov (.const (.int .i64 0))⟩]

def f8b : ACode := (.seq (.ops f8r0)
  (.keep [0, 1] (.seq (.seq (.ops f8r1)
  (.keep [0, 1, 8] (.seq (.ops f8r2)
  (.keep [0, 1, 8, 25] (.cond (.tmp 25) (.keep [8] (.seq (.ops f8r3)
  (.keep [4, 5, 6, 7] .ret))) .skip)))))
  (.keep [0, 1] (.seq (.seq (.ops f8r4)
  (.keep [0, 1, 29] (.cond (.tmp 29) (.keep [] (.seq (.ops f8r5)
  (.keep [4, 5, 6, 7] .ret))) .skip)))
  (.keep [0, 1] (.seq (.ops f8r6)
  (.keep [0, 1, 9] (.seq (.seq (.ops f8r7)
  (.keep [0, 1, 9, 36, 37, 38] (.block 0 (.loop f8l0))))
  (.keep [0, 1, 9] (.seq (.ops f8r13)
  (.keep [0, 1, 9, 12] (.seq (.ops f8r14)
  (.keep [0, 1, 9, 12, 13] (.seq (.seq (.ops f8r15)
  (.keep [0, 9, 12, 13, 51, 52, 53] (.block 2 (.loop f8l1))))
  (.keep [9, 12, 13] (.seq (.ops f8r34)
  (.keep [9, 12, 13, 19] (.seq (.seq (.ops f8r35)
  (.keep [12, 13, 19, 114, 115, 116] (.block 5 (.loop f8l2))))
  (.keep [12, 13, 19] (.seq (.ops f8r41)
  (.keep [4, 5, 6, 7] .ret))))))))))))))))))))))

def f8 : AFn := ⟨130, [.tmp 4, .tmp 5, .tmp 6, .tmp 7], f8b⟩

theorem f8_ok : compFn Try.prog 8 = some f8.strip := by kernel_rfl

/- function 9: weirhouse/weirhousekeep.flowsKept; parameters 5; operations that are not compiled: 0 -/
def f9r0 : List AInstr := [
    ⟨(some 10), none, .mov (.const (.bool false))⟩]

def f9r1 : List AInstr := [
    ⟨(some 18), none, .mov (.tmp 2)⟩,
    ⟨(some 19), none, .len (.tmp 18)⟩,
    ⟨(some 20), none, .mov (.tmp 1)⟩,
    ⟨(some 21), none, .len (.tmp 20)⟩,
    ⟨(some 22), none, .ibin .neq (.tmp 19) (.tmp 21)⟩,
    ⟨(some 23), none, .mov (.tmp 22)⟩,
    ⟨(some 24), (some (23, false)), .mov (.tmp 4)⟩,
    ⟨(some 25), (some (23, false)), .len (.tmp 24)⟩,
    ⟨(some 26), (some (23, false)), .mov (.tmp 0)⟩,
    ⟨(some 27), (some (23, false)), .ibin .neq (.tmp 25) (.tmp 26)⟩,
    ⟨(some 28), none, .pick (.tmp 23) (.const (.bool true)) (.tmp 27)⟩]

def f9r2 : List AInstr := [
    ⟨(some 10), none, .mov (.const (.bool false))⟩]

def f9r3 : List AInstr := [
    ⟨(some 29), none, .mov (.tmp 0)⟩,
    ⟨(some 30), none, .makeSlice 1 24 [.slice none 0 0] (.tmp 29) (.tmp 29)⟩,
    ⟨(some 11), none, .mov (.tmp 30)⟩]

def f9r4 : List AInstr := [
    ⟨(some 31), none, .mov (.tmp 1)⟩,
    ⟨(some 32), none, .len (.tmp 31)⟩,
    ⟨(some 33), none, .mov (.const (.int .i64 0))⟩]

def f9r5 : List AInstr := [
    ⟨(some 34), none, .ibin .lss (.tmp 33) (.tmp 32)⟩]

def f9r6 : List AInstr := [
    ⟨(some 35), none, .mov (.tmp 33)⟩,
    ⟨(some 36), none, .indexAddr 3 (.tmp 31) (.tmp 33)⟩,
    ⟨(some 37), none, .load (some 3) (.tmp 36)⟩,
    ⟨(some 13), none, .alloc [.int .i64 0, .int .i64 0, .int .i64 0]⟩,
    ⟨(some 12), none, .mov (.tmp 35)⟩,
    ⟨none, none, .store 3 (.tmp 13) (.tmp 37)⟩]

def f9r7 : List AInstr := [
    ⟨(some 38), none, .mov (.tmp 2)⟩,
    ⟨(some 39), none, .mov (.tmp 12)⟩,
    ⟨(some 40), none, .indexAddr 1 (.tmp 38) (.tmp 39)⟩,
    ⟨(some 41), none, .load none (.tmp 40)⟩,
    ⟨(some 42), none, .ibin .eql (.tmp 41) (.const (.int .i64 0))⟩,
    ⟨(some 43), none, .mov (.tmp 42)⟩,
    ⟨(some 44), (some (43, true)), .fieldAddr 0 (.tmp 13)⟩,
    ⟨(some 45), (some (43, true)), .load none (.tmp 44)⟩,
    ⟨(some 46), (some (43, true)), .ibin .eql (.tmp 45) (.const (.int .i64 1))⟩,
    ⟨(some 47), none, .pick (.tmp 43) (.tmp 46) (.const (.bool false))⟩]

def f9r8 : List AInstr := [
    ⟨(some 48), none, .fieldAddr 1 (.tmp 13)⟩,
    ⟨(some 49), none, .load none (.tmp 48)⟩,
    ⟨(some 50), none, .ibin .lss (.tmp 49) (.const (.int .i64 0))⟩,
    ⟨(some 51), none, .mov (.tmp 50)⟩,
    ⟨(some 52), (some (51, false)), .fieldAddr 1 (.tmp 13)⟩,
    ⟨(some 53), (some (51, false)), .load none (.tmp 52)⟩,
    ⟨(some 54), (some (51, false)), .mov (.tmp 0)⟩,
    ⟨(some 55), (some (51, false)), .ibin .geq (.tmp 53) (.tmp 54)⟩,
    ⟨(some 56), none, .pick (.tmp 51) (.const (.bool true)) (.tmp 55)⟩]

def f9r9 : List AInstr := [
    ⟨(some 10), none, .mov (.const (.bool false))⟩]

def f9r10 : List AInstr := [
    ⟨(some 57), none, .mov (.tmp 11)⟩,
    ⟨(some 58), none, .fieldAddr 1 (.tmp 13)⟩,
    ⟨(some 59), none, .load none (.tmp 58)⟩,
    ⟨(some 60), none, .mov (.tmp 11)⟩,
    ⟨(some 61), none, .fieldAddr 1 (.tmp 13)⟩,
    ⟨(some 62), none, .load none (.tmp 61)⟩,
    ⟨(some 63), none, .indexAddr 1 (.tmp 60) (.tmp 62)⟩,
    ⟨(some 64), none, .load none (.tmp 63)⟩,
    ⟨(some 65), none, .fieldAddr 2 (.tmp 13)⟩,
    ⟨(some 66), none, .load none (.tmp 65)⟩,
    ⟨(some 67), none, .buildSlice 1 1 [.int .i64 0] [(0, 1, (.tmp 66))]⟩,
    ⟨(some 68), none, .append 1 8 (.tmp 64) (.tmp 67)⟩,
    ⟨(some 69), none, .indexAddr 1 (.tmp 57) (.tmp 59)⟩,
    ⟨none, none, .store 1 (.tmp 69) (.tmp 68)⟩]

def f9r11 : List AInstr := [
    ⟨(some 70), none, .ibin .add (.tmp 33) (.const (.int .i64 1))⟩,
    ⟨(some 33), none, .mov (.tmp 70)⟩]

/-- live: [0, 2, 3, 4, 11, 31, 32, 33] -/
def f9l0 : ACode := (.seq (.ops f9r5)
  (.keep [0, 2, 3, 4, 11, 31, 32, 33, 34] (.seq (.cond (.tmp 34) .skip (.exit 0))
  (.keep [0, 2, 3, 4, 11, 31, 32, 33] (.seq (.block 1 (.seq (.ops f9r6)
  (.keep [0, 2, 3, 4, 11, 12, 13, 31, 32, 33] (.seq (.ops f9r7)
  (.keep [0, 2, 3, 4, 11, 13, 31, 32, 33, 47] (.cond (.tmp 47) (.keep [0, 2, 3, 4, 11, 13, 31, 32, 33] (.seq (.seq (.ops f9r8)
  (.keep [0, 2, 3, 4, 11, 13, 31, 32, 33, 56] (.cond (.tmp 56) (.keep [] (.seq (.ops f9r9)
  (.keep [10] .ret))) .skip)))
  (.keep [0, 2, 3, 4, 11, 13, 31, 32, 33] (.draw f9r10 [(0, 2, false), (0, 2, false), (0, 2, false), (0, 1, false), (0, 1, false), (0, 1, false), (0, 1, false), (0, 1, false), (0, 0, false), (0, 0, false), (0, 1, true), (1, 2, true), (2, 2, false), (2, 3, true)])))) .skip))))))
  (.keep [0, 2, 3, 4, 11, 31, 32, 33] (.ops f9r11)))))))

def f9r13 : List AInstr := [
    ⟨(some 71), none, .mov (.tmp 3)⟩,
    ⟨(some 72), none, .len (.tmp 71)⟩,
    ⟨(some 73), none, .mov (.const (.int .i64 0))⟩]

def f9r14 : List AInstr := [
    ⟨(some 74), none, .ibin .lss (.tmp 73) (.tmp 72)⟩]

def f9r15 : List AInstr := [
    ⟨(some 75), none, .indexAddr 2 (.tmp 71) (.tmp 73)⟩,
    ⟨(some 76), none, .load (some 2) (.tmp 75)⟩,
    ⟨(some 15), none, .alloc [.int .i64 0, .int .i64 0]⟩,
    ⟨none, none, .store 2 (.tmp 15) (.tmp 76)⟩]

def f9r16 : List AInstr := [
    ⟨(some 77), none, .fieldAddr 0 (.tmp 15)⟩,
    ⟨(some 78), none, .load none (.tmp 77)⟩,
    ⟨(some 79), none, .ibin .lss (.tmp 78) (.const (.int .i64 0))⟩,
    ⟨(some 80), none, .mov (.tmp 79)⟩,
    ⟨(some 81), (some (80, false)), .fieldAddr 0 (.tmp 15)⟩,
    ⟨(some 82), (some (80, false)), .load none (.tmp 81)⟩,
    ⟨(some 83), (some (80, false)), .mov (.tmp 0)⟩,
    ⟨(some 84), (some (80, false)), .ibin .geq (.tmp 82) (.tmp 83)⟩,
    ⟨(some 85), none, .pick (.tmp 80) (.const (.bool true)) (.tmp 84)⟩,
    ⟨(some 86), none, .mov (.tmp 85)⟩,
    ⟨(some 87), (some (86, false)), .mov (.tmp 11)⟩,
    ⟨(some 88), (some (86, false)), .fieldAddr 0 (.tmp 15)⟩,
    ⟨(some 89), (some (86, false)), .load none (.tmp 88)⟩,
    ⟨(some 90), (some (86, false)), .indexAddr 1 (.tmp 87) (.tmp 89)⟩,
    ⟨(some 91), (some (86, false)), .load none (.tmp 90)⟩,
    ⟨(some 92), (some (86, false)), .len (.tmp 91)⟩,
    ⟨(some 93), (some (86, false)), .ibin .eql (.tmp 92) (.const (.int .i64 0))⟩,
    ⟨(some 94), none, .pick (.tmp 86) (.const (.bool true)) (.tmp 93)⟩,
    ⟨(some 95), none, .mov (.tmp 94)⟩,
    ⟨(some 96), (some (95, false)), .mov (.tmp 11)⟩,
    ⟨(some 97), (some (95, false)), .fieldAddr 0 (.tmp 15)⟩,
    ⟨(some 98), (some (95, false)), .load none (.tmp 97)⟩,
    ⟨(some 99), (some (95, false)), .indexAddr 1 (.tmp 96) (.tmp 98)⟩,
    ⟨(some 100), (some (95, false)), .load none (.tmp 99)⟩,
    ⟨(some 101), (some (95, false)), .indexAddr 1 (.tmp 100) (.const (.int .i64 0))⟩,
    ⟨(some 102), (some (95, false)), .load none (.tmp 101)⟩,
    ⟨(some 103), (some (95, false)), .fieldAddr 1 (.tmp 15)⟩,
    ⟨(some 104), (some (95, false)), .load none (.tmp 103)⟩,
    ⟨(some 105), (some (95, false)), .ibin .neq (.tmp 102) (.tmp 104)⟩,
    ⟨(some 106), none, .pick (.tmp 95) (.const (.bool true)) (.tmp 105)⟩]

def f9r17 : List AInstr := [
    ⟨(some 10), none, .mov (.const (.bool false))⟩]

def f9r18 : List AInstr := [
    ⟨(some 107), none, .mov (.tmp 11)⟩,
    ⟨(some 108), none, .fieldAddr 0 (.tmp 15)⟩,
    ⟨(some 109), none, .load none (.tmp 108)⟩,
    ⟨(some 110), none, .mov (.tmp 11)⟩,
    ⟨(some 111), none, .fieldAddr 0 (.tmp 15)⟩,
    ⟨(some 112), none, .load none (.tmp 111)⟩,
    ⟨(some 113), none, .indexAddr 1 (.tmp 110) (.tmp 112)⟩,
    ⟨(some 114), none, .load none (.tmp 113)⟩,
    ⟨(some 115), none, .slice 1 (.tmp 114) (some (.const (.int .i64 1))) none none⟩,
    ⟨(some 116), none, .indexAddr 1 (.tmp 107) (.tmp 109)⟩,
    ⟨none, none, .store 1 (.tmp 116) (.tmp 115)⟩]

def f9r19 : List AInstr := [
    ⟨(some 117), none, .ibin .add (.tmp 73) (.const (.int .i64 1))⟩,
    ⟨(some 73), none, .mov (.tmp 117)⟩]

/-- live: [0, 4, 11, 71, 72, 73] -/
def f9l1 : ACode := (.seq (.ops f9r14)
  (.keep [0, 4, 11, 71, 72, 73, 74] (.seq (.cond (.tmp 74) .skip (.exit 2))
  (.keep [0, 4, 11, 71, 72, 73] (.seq (.block 3 (.seq (.ops f9r15)
  (.keep [0, 4, 11, 15, 71, 72, 73] (.seq (.seq (.draw f9r16 [(0, 0, false), (0, 0, false), (0, 0, false), (0, 0, false), (0, 0, false), (0, 0, false), (0, 0, false), (0, 0, false), (0, 0, false), (0, 0, false), (0, 0, false), (0, 0, false), (0, 0, false), (0, 0, false), (0, 0, false), (0, 0, false), (0, 0, false), (0, 0, false), (0, 0, false), (0, 0, false), (0, 0, false), (0, 0, false), (0, 0, false), (0, 0, false), (0, 0, false), (0, 0, false), (0, 0, false), (0, 0, false), (0, 0, false), (0, 0, false)])
  (.keep [0, 4, 11, 15, 71, 72, 73, 106] (.cond (.tmp 106) (.keep [] (.seq (.ops f9r17)
  (.keep [10] .ret))) .skip)))
  (.keep [0, 4, 11, 15, 71, 72, 73] (.draw f9r18 [(0, 0, false), (0, 0, false), (0, 0, false), (0, 0, false), (0, 0, false), (0, 0, false), (0, 0, false), (0, 0, false), (0, 0, false), (0, 0, false), (0, 1, true)]))))))
  (.keep [0, 4, 11, 71, 72, 73] (.ops f9r19)))))))

def f9r21 : List AInstr := [
    ⟨(some 118), none, .mov (.tmp 11)⟩,
    ⟨(some 119), none, .len (.tmp 118)⟩,
    ⟨(some 120), none, .mov (.const (.int .i64 0))⟩]

def f9r22 : List AInstr := [
    ⟨(some 121), none, .ibin .lss (.tmp 120) (.tmp 119)⟩]

def f9r23 : List AInstr := [
    ⟨(some 122), none, .mov (.tmp 120)⟩,
    ⟨(some 123), none, .indexAddr 1 (.tmp 118) (.tmp 120)⟩,
    ⟨(some 124), none, .load none (.tmp 123)⟩,
    ⟨(some 16), none, .mov (.tmp 122)⟩,
    ⟨(some 17), none, .mov (.tmp 124)⟩]

def f9r24 : List AInstr := [
    ⟨(some 125), none, .mov (.tmp 17)⟩,
    ⟨(some 126), none, .len (.tmp 125)⟩,
    ⟨(some 127), none, .mov (.tmp 4)⟩,
    ⟨(some 128), none, .mov (.tmp 16)⟩,
    ⟨(some 129), none, .indexAddr 1 (.tmp 127) (.tmp 128)⟩,
    ⟨(some 130), none, .load none (.tmp 129)⟩,
    ⟨(some 131), none, .ibin .neq (.tmp 126) (.tmp 130)⟩]

def f9r25 : List AInstr := [
    ⟨(some 10), none, .mov (.const (.bool false))⟩]

def f9r26 : List AInstr := [
    ⟨(some 132), none, .ibin .add (.tmp 120) (.const (.int .i64 1))⟩,
    ⟨(some 120), none, .mov (.tmp 132)⟩]

/-- live: [4, 118, 119, 120] -/
def f9l2 : ACode := (.seq (.ops f9r22)
  (.keep [4, 118, 119, 120, 121] (.seq (.cond (.tmp 121) .skip (.exit 4))
  (.keep [4, 118, 119, 120] (.seq (.block 5 (.seq (.ops f9r23)
  (.keep [4, 16, 17, 118, 119, 120] (.seq (.ops f9r24)
  (.keep [4, 118, 119, 120, 131] (.cond (.tmp 131) (.keep [] (.seq (.ops f9r25)
  (.keep [10] .ret))) .skip))))))
  (.keep [4, 118, 119, 120] (.ops f9r26)))))))

def f9r28 : List AInstr := [
    ⟨(some 10), none, .mov (.const (.bool true))⟩]

def f9b : ACode := (.seq (.ops f9r0)
  (.keep [0, 1, 2, 3, 4] (.seq (.seq (.ops f9r1)
  (.keep [0, 1, 2, 3, 4, 28] (.cond (.tmp 28) (.keep [] (.seq (.ops f9r2)
  (.keep [10] .ret))) .skip)))
  (.keep [0, 1, 2, 3, 4] (.seq (.ops f9r3)
  (.keep [0, 1, 2, 3, 4, 11] (.seq (.seq (.ops f9r4)
  (.keep [0, 2, 3, 4, 11, 31, 32, 33] (.block 0 (.loop f9l0))))
  (.keep [0, 3, 4, 11] (.seq (.seq (.ops f9r13)
  (.keep [0, 4, 11, 71, 72, 73] (.block 2 (.loop f9l1))))
  (.keep [4, 11] (.seq (.seq (.ops f9r21)
  (.keep [4, 118, 119, 120] (.block 4 (.loop f9l2))))
  (.keep [] (.seq (.ops f9r28)
  (.keep [10] .ret))))))))))))))

def f9 : AFn := ⟨133, [.tmp 10], f9b⟩

theorem f9_ok : compFn Try.prog 9 = some f9.strip := by kernel_rfl

/- function 10: slices.Equal[[]weirhouse/api.Sent,weirhouse/api.Sent]; parameters 2; operations that are not compiled: 0 -/
def f10r0 : List AInstr := [
    ⟨(some 4), none, .mov (.const (.bool false))⟩]

def f10r1 : List AInstr := [
    ⟨(some 6), none, .mov (.tmp 0)⟩,
    ⟨(some 7), none, .len (.tmp 6)⟩,
    ⟨(some 8), none, .mov (.tmp 1)⟩,
    ⟨(some 9), none, .len (.tmp 8)⟩,
    ⟨(some 10), none, .ibin .neq (.tmp 7) (.tmp 9)⟩]

def f10r2 : List AInstr := [
    ⟨(some 4), none, .mov (.const (.bool false))⟩]

def f10r3 : List AInstr := [
    ⟨(some 11), none, .mov (.tmp 0)⟩,
    ⟨(some 12), none, .len (.tmp 11)⟩,
    ⟨(some 13), none, .mov (.const (.int .i64 0))⟩]

def f10r4 : List AInstr := [
    ⟨(some 14), none, .ibin .lss (.tmp 13) (.tmp 12)⟩]

def f10r5 : List AInstr := [
    ⟨(some 15), none, .mov (.tmp 13)⟩,
    ⟨(some 5), none, .mov (.tmp 15)⟩]

def f10r6 : List AInstr := [
    ⟨(some 16), none, .mov (.tmp 0)⟩,
    ⟨(some 17), none, .mov (.tmp 5)⟩,
    ⟨(some 18), none, .indexAddr 2 (.tmp 16) (.tmp 17)⟩,
    ⟨(some 19), none, .load (some 2) (.tmp 18)⟩,
    ⟨(some 20), none, .mov (.tmp 1)⟩,
    ⟨(some 21), none, .mov (.tmp 5)⟩,
    ⟨(some 22), none, .indexAddr 2 (.tmp 20) (.tmp 21)⟩,
    ⟨(some 23), none, .load (some 2) (.tmp 22)⟩,
    ⟨(some 24), none, .eqA true [false, false] (.tmp 19) (.tmp 23)⟩]

def f10r7 : List AInstr := [
    ⟨(some 4), none, .mov (.const (.bool false))⟩]

def f10r8 : List AInstr := [
    ⟨(some 25), none, .ibin .add (.tmp 13) (.const (.int .i64 1))⟩,
    ⟨(some 13), none, .mov (.tmp 25)⟩]

/-- live: [0, 1, 12, 13] -/
def f10l0 : ACode := (.seq (.ops f10r4)
  (.keep [0, 1, 12, 13, 14] (.seq (.cond (.tmp 14) .skip (.exit 0))
  (.keep [0, 1, 12, 13] (.seq (.block 1 (.seq (.ops f10r5)
  (.keep [0, 1, 5, 12, 13] (.seq (.draw f10r6 [(0, 0, false), (0, 0, false), (0, 0, false), (0, 0, false), (0, 0, false), (0, 0, false), (0, 0, false), (0, 0, false), (0, 0, false)])
  (.keep [0, 1, 12, 13, 24] (.cond (.tmp 24) (.keep [] (.seq (.ops f10r7)
  (.keep [4] .ret))) .skip))))))
  (.keep [0, 1, 12, 13] (.ops f10r8)))))))

def f10r10 : List AInstr := [
    ⟨(some 4), none, .mov (.const (.bool true))⟩]

def f10b : ACode := (.seq (.ops f10r0)
  (.keep [0, 1] (.seq (.seq (.ops f10r1)
  (.keep [0, 1, 10] (.cond (.tmp 10) (.keep [] (.seq (.ops f10r2)
  (.keep [4] .ret))) .skip)))
  (.keep [0, 1] (.seq (.seq (.ops f10r3)
  (.keep [0, 1, 12, 13] (.block 0 (.loop f10l0))))
  (.keep [] (.seq (.ops f10r10)
  (.keep [4] .ret))))))))

def f10 : AFn := ⟨26, [.tmp 4], f10b⟩

theorem f10_ok : compFn Try.prog 10 = some f10.strip := by kernel_rfl

/- function 11: slices.Equal[[]int,int]; parameters 2; operations that are not compiled: 0 -/
def f11r0 : List AInstr := [
    ⟨(some 4), none, .mov (.const (.bool false))⟩]

def f11r1 : List AInstr := [
    ⟨(some 6), none, .mov (.tmp 0)⟩,
    ⟨(some 7), none, .len (.tmp 6)⟩,
    ⟨(some 8), none, .mov (.tmp 1)⟩,
    ⟨(some 9), none, .len (.tmp 8)⟩,
    ⟨(some 10), none, .ibin .neq (.tmp 7) (.tmp 9)⟩]

def f11r2 : List AInstr := [
    ⟨(some 4), none, .mov (.const (.bool false))⟩]

def f11r3 : List AInstr := [
    ⟨(some 11), none, .mov (.tmp 0)⟩,
    ⟨(some 12), none, .len (.tmp 11)⟩,
    ⟨(some 13), none, .mov (.const (.int .i64 0))⟩]

def f11r4 : List AInstr := [
    ⟨(some 14), none, .ibin .lss (.tmp 13) (.tmp 12)⟩]

def f11r5 : List AInstr := [
    ⟨(some 15), none, .mov (.tmp 13)⟩,
    ⟨(some 5), none, .mov (.tmp 15)⟩]

def f11r6 : List AInstr := [
    ⟨(some 16), none, .mov (.tmp 0)⟩,
    ⟨(some 17), none, .mov (.tmp 5)⟩,
    ⟨(some 18), none, .indexAddr 1 (.tmp 16) (.tmp 17)⟩,
    ⟨(some 19), none, .load none (.tmp 18)⟩,
    ⟨(some 20), none, .mov (.tmp 1)⟩,
    ⟨(some 21), none, .mov (.tmp 5)⟩,
    ⟨(some 22), none, .indexAddr 1 (.tmp 20) (.tmp 21)⟩,
    ⟨(some 23), none, .load none (.tmp 22)⟩,
    ⟨(some 24), none, .ibin .neq (.tmp 19) (.tmp 23)⟩]

def f11r7 : List AInstr := [
    ⟨(some 4), none, .mov (.const (.bool false))⟩]

def f11r8 : List AInstr := [
    ⟨(some 25), none, .ibin .add (.tmp 13) (.const (.int .i64 1))⟩,
    ⟨(some 13), none, .mov (.tmp 25)⟩]

/-- live: [0, 1, 12, 13] -/
def f11l0 : ACode := (.seq (.ops f11r4)
  (.keep [0, 1, 12, 13, 14] (.seq (.cond (.tmp 14) .skip (.exit 0))
  (.keep [0, 1, 12, 13] (.seq (.block 1 (.seq (.ops f11r5)
  (.keep [0, 1, 5, 12, 13] (.seq (.draw f11r6 [(0, 0, false), (0, 0, false), (0, 0, false), (0, 0, false), (0, 0, false), (0, 0, false), (0, 0, false), (0, 0, false), (0, 0, false)])
  (.keep [0, 1, 12, 13, 24] (.cond (.tmp 24) (.keep [] (.seq (.ops f11r7)
  (.keep [4] .ret))) .skip))))))
  (.keep [0, 1, 12, 13] (.ops f11r8)))))))

def f11r10 : List AInstr := [
    ⟨(some 4), none, .mov (.const (.bool true))⟩]

def f11b : ACode := (.seq (.ops f11r0)
  (.keep [0, 1] (.seq (.seq (.ops f11r1)
  (.keep [0, 1, 10] (.cond (.tmp 10) (.keep [] (.seq (.ops f11r2)
  (.keep [4] .ret))) .skip)))
  (.keep [0, 1] (.seq (.seq (.ops f11r3)
  (.keep [0, 1, 12, 13] (.block 0 (.loop f11l0))))
  (.keep [] (.seq (.ops f11r10)
  (.keep [4] .ret))))))))

def f11 : AFn := ⟨26, [.tmp 4], f11b⟩

theorem f11_ok : compFn Try.prog 11 = some f11.strip := by kernel_rfl

/- function 12: weirhouse/wfq.Wrong; parameters 1; operations that are not compiled: 0 -/
def f12r0 : List AInstr := [
    ⟨(some 2), none, .mov (.const (.int .i64 0))⟩]

def f12r1 : List AInstr := [
    ⟨(some 5), none, .mov (.tmp 0)⟩,
    ⟨(some 6), none, .len (.tmp 5)⟩,
    ⟨(some 7), none, .ibin .gtr (.tmp 6) (.const (.int .i64 16))⟩]

def f12r2 : List AInstr := [
    ⟨(some 2), none, .mov (.const (.int .i64 2))⟩]

def f12r3 : List AInstr := [
    ⟨(some 8), none, .mov (.tmp 0)⟩,
    ⟨(some 9), none, .len (.tmp 8)⟩,
    ⟨(some 10), none, .mov (.const (.int .i64 0))⟩]

def f12r4 : List AInstr := [
    ⟨(some 11), none, .ibin .lss (.tmp 10) (.tmp 9)⟩]

def f12r5 : List AInstr := [
    ⟨(some 12), none, .indexAddr 1 (.tmp 8) (.tmp 10)⟩,
    ⟨(some 13), none, .load none (.tmp 12)⟩,
    ⟨(some 4), none, .mov (.tmp 13)⟩]

def f12r6 : List AInstr := [
    ⟨(some 14), none, .mov (.tmp 4)⟩,
    ⟨(some 15), none, .ibin .lss (.tmp 14) (.const (.int .i64 1))⟩,
    ⟨(some 16), none, .mov (.tmp 15)⟩,
    ⟨(some 17), (some (16, false)), .mov (.tmp 4)⟩,
    ⟨(some 18), (some (16, false)), .ibin .gtr (.tmp 17) (.const (.int .i64 12))⟩,
    ⟨(some 19), none, .pick (.tmp 16) (.const (.bool true)) (.tmp 18)⟩]

def f12r7 : List AInstr := [
    ⟨(some 2), none, .mov (.const (.int .i64 2))⟩]

def f12r8 : List AInstr := [
    ⟨(some 20), none, .ibin .add (.tmp 10) (.const (.int .i64 1))⟩,
    ⟨(some 10), none, .mov (.tmp 20)⟩]

/-- live: [8, 9, 10] -/
def f12l0 : ACode := (.seq (.ops f12r4)
  (.keep [8, 9, 10, 11] (.seq (.cond (.tmp 11) .skip (.exit 0))
  (.keep [8, 9, 10] (.seq (.block 1 (.seq (.ops f12r5)
  (.keep [4, 8, 9, 10] (.seq (.ops f12r6)
  (.keep [8, 9, 10, 19] (.cond (.tmp 19) (.keep [] (.seq (.ops f12r7)
  (.keep [2] .ret))) .skip))))))
  (.keep [8, 9, 10] (.ops f12r8)))))))

def f12r10 : List AInstr := [
    ⟨(some 2), none, .mov (.const (.int .i64 0))⟩]

def f12b : ACode := (.seq (.ops f12r0)
  (.keep [0] (.seq (.seq (.ops f12r1)
  (.keep [0, 7] (.cond (.tmp 7) (.keep [] (.seq (.ops f12r2)
  (.keep [2] .ret))) .skip)))
  (.keep [0] (.seq (.seq (.ops f12r3)
  (.keep [8, 9, 10] (.block 0 (.loop f12l0))))
  (.keep [] (.seq (.ops f12r10)
  (.keep [2] .ret))))))))

def f12 : AFn := ⟨21, [.tmp 2], f12b⟩

theorem f12_ok : compFn Try.prog 12 = some f12.strip := by kernel_rfl

/- function 13: (*weirhouse/wfq.node).out; parameters 1; operations that are not compiled: 0 -/
def f13r0 : List AInstr := [
    ⟨(some 2), none, .alloc [.int .i64 0, .int .i64 0]⟩,
    ⟨(some 3), none, .mov (.const (.bool false))⟩]

def f13r1 : List AInstr := [
    ⟨(some 7), none, .mov (.tmp 0)⟩,
    ⟨(some 8), none, .callF 15 [.tmp 7]⟩,
    ⟨(some 4), none, .mov (.tmp 8)⟩]

def f13r2 : List AInstr := [
    ⟨(some 9), none, .mov (.tmp 4)⟩,
    ⟨(some 10), none, .ibin .lss (.tmp 9) (.const (.int .i64 0))⟩]

def f13r3 : List AInstr := [
    ⟨(some 11), none, .build [.int .i64 0, .int .i64 0] []⟩,
    ⟨none, none, .store 2 (.tmp 2) (.tmp 11)⟩,
    ⟨(some 3), none, .mov (.const (.bool false))⟩]

def f13r4 : List AInstr := [
    ⟨(some 12), none, .mov (.tmp 0)⟩,
    ⟨(some 13), none, .nilCheck (.tmp 12)⟩,
    ⟨(some 14), none, .fieldAddr 1 (.tmp 13)⟩,
    ⟨(some 15), none, .load none (.tmp 14)⟩,
    ⟨(some 16), none, .mov (.tmp 4)⟩,
    ⟨(some 17), none, .indexAddr 3 (.tmp 15) (.tmp 16)⟩,
    ⟨(some 5), none, .mov (.tmp 17)⟩]

def f13r5 : List AInstr := [
    ⟨(some 18), none, .mov (.tmp 4)⟩,
    ⟨(some 19), none, .mov (.tmp 5)⟩,
    ⟨(some 20), none, .nilCheck (.tmp 19)⟩,
    ⟨(some 21), none, .fieldAddr 0 (.tmp 20)⟩,
    ⟨(some 22), none, .load none (.tmp 21)⟩,
    ⟨(some 23), none, .indexAddr 1 (.tmp 22) (.const (.int .i64 0))⟩,
    ⟨(some 24), none, .load none (.tmp 23)⟩,
    ⟨(some 25), none, .build [.int .i64 0, .int .i64 0] [(0, 1, (.tmp 18)), (1, 1, (.tmp 24))]⟩,
    ⟨(some 6), none, .alloc [.int .i64 0, .int .i64 0]⟩,
    ⟨none, none, .store 2 (.tmp 6) (.tmp 25)⟩]

def f13r6 : List AInstr := [
    ⟨(some 26), none, .mov (.tmp 5)⟩,
    ⟨(some 27), none, .mov (.tmp 5)⟩,
    ⟨(some 28), none, .nilCheck (.tmp 27)⟩,
    ⟨(some 29), none, .fieldAddr 0 (.tmp 28)⟩,
    ⟨(some 30), none, .load none (.tmp 29)⟩,
    ⟨(some 31), none, .slice 1 (.tmp 30) (some (.const (.int .i64 1))) none none⟩,
    ⟨(some 32), none, .nilCheck (.tmp 26)⟩,
    ⟨(some 33), none, .fieldAddr 0 (.tmp 32)⟩,
    ⟨none, none, .store 1 (.tmp 33) (.tmp 31)⟩]

def f13r7 : List AInstr := [
    ⟨(some 34), none, .mov (.tmp 0)⟩,
    ⟨(some 35), none, .nilCheck (.tmp 34)⟩,
    ⟨(some 36), none, .fieldAddr 3 (.tmp 35)⟩,
    ⟨(some 37), none, .load none (.tmp 36)⟩,
    ⟨(some 38), none, .fieldAddr 1 (.tmp 6)⟩,
    ⟨(some 39), none, .load none (.tmp 38)⟩,
    ⟨(some 40), none, .ibin .mul (.tmp 39) (.const (.int .i64 27720))⟩,
    ⟨(some 41), none, .ibin .add (.tmp 37) (.tmp 40)⟩,
    ⟨(some 42), none, .nilCheck (.tmp 34)⟩,
    ⟨(some 43), none, .fieldAddr 3 (.tmp 42)⟩,
    ⟨none, none, .store 1 (.tmp 43) (.tmp 41)⟩]

def f13r8 : List AInstr := [
    ⟨(some 44), none, .mov (.tmp 5)⟩,
    ⟨(some 45), none, .nilCheck (.tmp 44)⟩,
    ⟨(some 46), none, .fieldAddr 0 (.tmp 45)⟩,
    ⟨(some 47), none, .load none (.tmp 46)⟩,
    ⟨(some 48), none, .len (.tmp 47)⟩,
    ⟨(some 49), none, .ibin .gtr (.tmp 48) (.const (.int .i64 0))⟩]

def f13r9 : List AInstr := [
    ⟨(some 50), none, .mov (.tmp 0)⟩,
    ⟨(some 51), none, .mov (.tmp 4)⟩,
    ⟨(some 52), none, .mov (.tmp 5)⟩,
    ⟨(some 53), none, .nilCheck (.tmp 52)⟩,
    ⟨(some 54), none, .fieldAddr 2 (.tmp 53)⟩,
    ⟨(some 55), none, .load none (.tmp 54)⟩,
    ⟨(some 56), none, .callF 16 [.tmp 50, .tmp 51, .tmp 55]⟩]

def f13r10 : List AInstr := [
    ⟨(some 57), none, .load (some 2) (.tmp 6)⟩,
    ⟨none, none, .store 2 (.tmp 2) (.tmp 57)⟩,
    ⟨(some 3), none, .mov (.const (.bool true))⟩]

def f13b : ACode := (.seq (.ops f13r0)
  (.keep [0, 2] (.seq (.ops f13r1)
  (.keep [0, 2, 4] (.seq (.seq (.ops f13r2)
  (.keep [0, 2, 4, 10] (.cond (.tmp 10) (.keep [2] (.seq (.ops f13r3)
  (.keep [2, 3] .ret))) .skip)))
  (.keep [0, 2, 4] (.seq (.ops f13r4)
  (.keep [0, 2, 4, 5] (.seq (.ops f13r5)
  (.keep [0, 2, 4, 5, 6] (.seq (.ops f13r6)
  (.keep [0, 2, 4, 5, 6] (.seq (.draw f13r7 [(0, 0, false), (0, 0, false), (0, 0, false), (0, 0, false), (0, 0, false), (0, 0, false), (0, 0, false), (0, 0, false), (0, 0, false), (0, 0, false), (0, 1, true)])
  (.keep [0, 2, 4, 5, 6] (.seq (.seq (.ops f13r8)
  (.keep [0, 2, 4, 5, 6, 49] (.cond (.tmp 49) (.keep [0, 2, 4, 5, 6] (.ops f13r9)) .skip)))
  (.keep [2, 6] (.seq (.ops f13r10)
  (.keep [2, 3] .ret))))))))))))))))))

def f13 : AFn := ⟨58, [.cell 2 (some 2), .tmp 3], f13b⟩

theorem f13_ok : compFn Try.prog 13 = some f13.strip := by kernel_rfl

/- function 14: (*weirhouse/wfq.node).in; parameters 3; operations that are not compiled: 0 -/
def f14r0 : List AInstr := [
    ⟨(some 7), none, .mov (.tmp 0)⟩,
    ⟨(some 8), none, .nilCheck (.tmp 7)⟩,
    ⟨(some 9), none, .fieldAddr 1 (.tmp 8)⟩,
    ⟨(some 10), none, .load none (.tmp 9)⟩,
    ⟨(some 11), none, .mov (.tmp 1)⟩,
    ⟨(some 12), none, .indexAddr 3 (.tmp 10) (.tmp 11)⟩,
    ⟨(some 6), none, .mov (.tmp 12)⟩]

def f14r1 : List AInstr := [
    ⟨(some 13), none, .mov (.tmp 6)⟩,
    ⟨(some 14), none, .mov (.tmp 6)⟩,
    ⟨(some 15), none, .nilCheck (.tmp 14)⟩,
    ⟨(some 16), none, .fieldAddr 0 (.tmp 15)⟩,
    ⟨(some 17), none, .load none (.tmp 16)⟩,
    ⟨(some 18), none, .mov (.tmp 2)⟩,
    ⟨(some 19), none, .buildSlice 1 1 [.int .i64 0] [(0, 1, (.tmp 18))]⟩,
    ⟨(some 20), none, .append 1 8 (.tmp 17) (.tmp 19)⟩,
    ⟨(some 21), none, .nilCheck (.tmp 13)⟩,
    ⟨(some 22), none, .fieldAddr 0 (.tmp 21)⟩,
    ⟨none, none, .store 1 (.tmp 22) (.tmp 20)⟩]

def f14r2 : List AInstr := [
    ⟨(some 23), none, .mov (.tmp 6)⟩,
    ⟨(some 24), none, .nilCheck (.tmp 23)⟩,
    ⟨(some 25), none, .fieldAddr 0 (.tmp 24)⟩,
    ⟨(some 26), none, .load none (.tmp 25)⟩,
    ⟨(some 27), none, .len (.tmp 26)⟩,
    ⟨(some 28), none, .ibin .eql (.tmp 27) (.const (.int .i64 1))⟩]

def f14r3 : List AInstr := [
    ⟨(some 29), none, .mov (.tmp 0)⟩,
    ⟨(some 30), none, .mov (.tmp 1)⟩,
    ⟨(some 31), none, .mov (.tmp 6)⟩,
    ⟨(some 32), none, .nilCheck (.tmp 31)⟩,
    ⟨(some 33), none, .fieldAddr 2 (.tmp 32)⟩,
    ⟨(some 34), none, .load none (.tmp 33)⟩,
    ⟨(some 35), none, .mov (.tmp 0)⟩,
    ⟨(some 36), none, .nilCheck (.tmp 35)⟩,
    ⟨(some 37), none, .fieldAddr 3 (.tmp 36)⟩,
    ⟨(some 38), none, .load none (.tmp 37)⟩,
    ⟨(some 39), none, .minmax true [.tmp 34, .tmp 38]⟩,
    ⟨(some 40), none, .callF 16 [.tmp 29, .tmp 30, .tmp 39]⟩]

def f14b : ACode := (.seq (.ops f14r0)
  (.keep [0, 1, 2, 6] (.seq (.ops f14r1)
  (.keep [0, 1, 6] (.seq (.ops f14r2)
  (.keep [0, 1, 6, 28] (.cond (.tmp 28) (.keep [0, 1, 6] (.draw f14r3 [(0, 0, false), (0, 0, false), (0, 0, false), (0, 0, false), (0, 0, false), (0, 0, false), (0, 0, false), (0, 0, false), (0, 0, false), (0, 0, false), (0, 0, false), (0, 1, true)])) .skip)))))))

def f14 : AFn := ⟨41, [], f14b⟩

theorem f14_ok : compFn Try.prog 14 = some f14.strip := by kernel_rfl

/- function 15: (*weirhouse/wfq.node).pick; parameters 1; operations that are not compiled: 0 -/
def f15r0 : List AInstr := [
    ⟨(some 2), none, .mov (.const (.int .i64 0))⟩]

def f15r1 : List AInstr := [
    ⟨(some 3), none, .mov (.const (.int .i64 (-1)))⟩]

def f15r2 : List AInstr := [
    ⟨(some 9), none, .mov (.tmp 0)⟩,
    ⟨(some 10), none, .nilCheck (.tmp 9)⟩,
    ⟨(some 11), none, .fieldAddr 1 (.tmp 10)⟩,
    ⟨(some 12), none, .load none (.tmp 11)⟩,
    ⟨(some 13), none, .len (.tmp 12)⟩,
    ⟨(some 14), none, .mov (.const (.int .i64 0))⟩]

def f15r3 : List AInstr := [
    ⟨(some 15), none, .ibin .lss (.tmp 14) (.tmp 13)⟩]

def f15r4 : List AInstr := [
    ⟨(some 16), none, .indexAddr 3 (.tmp 12) (.tmp 14)⟩,
    ⟨(some 17), none, .load (some 3) (.tmp 16)⟩,
    ⟨(some 5), none, .alloc [.slice none 0 0, .int .i64 0, .int .i64 0]⟩,
    ⟨none, none, .store 3 (.tmp 5) (.tmp 17)⟩]

def f15r5 : List AInstr := [
    ⟨(some 18), none, .fieldAddr 0 (.tmp 5)⟩,
    ⟨(some 19), none, .load none (.tmp 18)⟩,
    ⟨(some 20), none, .len (.tmp 19)⟩,
    ⟨(some 21), none, .ibin .gtr (.tmp 20) (.const (.int .i64 0))⟩,
    ⟨(some 22), none, .mov (.tmp 21)⟩,
    ⟨(some 23), (some (22, true)), .mov (.tmp 3)⟩,
    ⟨(some 24), (some (22, true)), .ibin .lss (.tmp 23) (.const (.int .i64 0))⟩,
    ⟨(some 25), (some (22, true)), .mov (.tmp 24)⟩,
    ⟨(some 26), (some (25, false)), .fieldAddr 1 (.tmp 5)⟩,
    ⟨(some 27), (some (25, false)), .load none (.tmp 26)⟩,
    ⟨(some 28), (some (25, false)), .mov (.tmp 3)⟩,
    ⟨(some 29), (some (25, false)), .ibin .lss (.tmp 27) (.tmp 28)⟩,
    ⟨(some 30), (some (22, true)), .pick (.tmp 25) (.const (.bool true)) (.tmp 29)⟩,
    ⟨(some 31), none, .pick (.tmp 22) (.tmp 30) (.const (.bool false))⟩]

def f15r6 : List AInstr := [
    ⟨(some 32), none, .fieldAddr 1 (.tmp 5)⟩,
    ⟨(some 33), none, .load none (.tmp 32)⟩,
    ⟨(some 3), none, .mov (.tmp 33)⟩]

def f15r7 : List AInstr := [
    ⟨(some 34), none, .ibin .add (.tmp 14) (.const (.int .i64 1))⟩,
    ⟨(some 14), none, .mov (.tmp 34)⟩]

/-- live: [0, 3, 12, 13, 14] -/
def f15l0 : ACode := (.seq (.ops f15r3)
  (.keep [0, 3, 12, 13, 14, 15] (.seq (.cond (.tmp 15) .skip (.exit 0))
  (.keep [0, 3, 12, 13, 14] (.seq (.block 1 (.seq (.ops f15r4)
  (.keep [0, 3, 5, 12, 13, 14] (.seq (.ops f15r5)
  (.keep [0, 3, 5, 12, 13, 14, 31] (.cond (.tmp 31) (.keep [0, 5, 12, 13, 14] (.ops f15r6)) .skip))))))
  (.keep [0, 3, 12, 13, 14] (.ops f15r7)))))))

def f15r9 : List AInstr := [
    ⟨(some 35), none, .mov (.tmp 3)⟩,
    ⟨(some 36), none, .ibin .lss (.tmp 35) (.const (.int .i64 0))⟩]

def f15r10 : List AInstr := [
    ⟨(some 2), none, .mov (.const (.int .i64 (-1)))⟩]

def f15r11 : List AInstr := [
    ⟨(some 37), none, .mov (.tmp 0)⟩,
    ⟨(some 38), none, .mov (.tmp 0)⟩,
    ⟨(some 39), none, .nilCheck (.tmp 38)⟩,
    ⟨(some 40), none, .fieldAddr 3 (.tmp 39)⟩,
    ⟨(some 41), none, .load none (.tmp 40)⟩,
    ⟨(some 42), none, .mov (.tmp 3)⟩,
    ⟨(some 43), none, .minmax true [.tmp 41, .tmp 42]⟩,
    ⟨(some 44), none, .nilCheck (.tmp 37)⟩,
    ⟨(some 45), none, .fieldAddr 3 (.tmp 44)⟩,
    ⟨none, none, .store 1 (.tmp 45) (.tmp 43)⟩]

def f15r12 : List AInstr := [
    ⟨(some 6), none, .mov (.const (.int .i64 (-1)))⟩]

def f15r13 : List AInstr := [
    ⟨(some 46), none, .mov (.tmp 0)⟩,
    ⟨(some 47), none, .nilCheck (.tmp 46)⟩,
    ⟨(some 48), none, .fieldAddr 1 (.tmp 47)⟩,
    ⟨(some 49), none, .load none (.tmp 48)⟩,
    ⟨(some 50), none, .len (.tmp 49)⟩,
    ⟨(some 51), none, .mov (.const (.int .i64 0))⟩]

def f15r14 : List AInstr := [
    ⟨(some 52), none, .ibin .lss (.tmp 51) (.tmp 50)⟩]

def f15r15 : List AInstr := [
    ⟨(some 53), none, .mov (.tmp 51)⟩,
    ⟨(some 54), none, .indexAddr 3 (.tmp 49) (.tmp 51)⟩,
    ⟨(some 55), none, .load (some 3) (.tmp 54)⟩,
    ⟨(some 8), none, .alloc [.slice none 0 0, .int .i64 0, .int .i64 0]⟩,
    ⟨(some 7), none, .mov (.tmp 53)⟩,
    ⟨none, none, .store 3 (.tmp 8) (.tmp 55)⟩]

def f15r16 : List AInstr := [
    ⟨(some 56), none, .fieldAddr 0 (.tmp 8)⟩,
    ⟨(some 57), none, .load none (.tmp 56)⟩,
    ⟨(some 58), none, .len (.tmp 57)⟩,
    ⟨(some 59), none, .ibin .gtr (.tmp 58) (.const (.int .i64 0))⟩,
    ⟨(some 60), none, .mov (.tmp 59)⟩,
    ⟨(some 61), (some (60, true)), .fieldAddr 1 (.tmp 8)⟩,
    ⟨(some 62), (some (60, true)), .load none (.tmp 61)⟩,
    ⟨(some 63), (some (60, true)), .mov (.tmp 0)⟩,
    ⟨(some 64), (some (60, true)), .nilCheck (.tmp 63)⟩,
    ⟨(some 65), (some (60, true)), .fieldAddr 3 (.tmp 64)⟩,
    ⟨(some 66), (some (60, true)), .load none (.tmp 65)⟩,
    ⟨(some 67), (some (60, true)), .ibin .leq (.tmp 62) (.tmp 66)⟩,
    ⟨(some 68), none, .pick (.tmp 60) (.tmp 67) (.const (.bool false))⟩,
    ⟨(some 69), none, .mov (.tmp 68)⟩,
    ⟨(some 70), (some (69, true)), .mov (.tmp 6)⟩,
    ⟨(some 71), (some (69, true)), .ibin .lss (.tmp 70) (.const (.int .i64 0))⟩,
    ⟨(some 72), (some (69, true)), .mov (.tmp 71)⟩,
    ⟨(some 73), (some (72, false)), .fieldAddr 2 (.tmp 8)⟩,
    ⟨(some 74), (some (72, false)), .load none (.tmp 73)⟩,
    ⟨(some 75), (some (72, false)), .mov (.tmp 0)⟩,
    ⟨(some 76), (some (72, false)), .nilCheck (.tmp 75)⟩,
    ⟨(some 77), (some (72, false)), .fieldAddr 1 (.tmp 76)⟩,
    ⟨(some 78), (some (72, false)), .load none (.tmp 77)⟩,
    ⟨(some 79), (some (72, false)), .mov (.tmp 6)⟩,
    ⟨(some 80), (some (72, false)), .indexAddr 3 (.tmp 78) (.tmp 79)⟩,
    ⟨(some 81), (some (72, false)), .fieldAddr 2 (.tmp 80)⟩,
    ⟨(some 82), (some (72, false)), .load none (.tmp 81)⟩,
    ⟨(some 83), (some (72, false)), .ibin .lss (.tmp 74) (.tmp 82)⟩,
    ⟨(some 84), (some (69, true)), .pick (.tmp 72) (.const (.bool true)) (.tmp 83)⟩,
    ⟨(some 85), none, .pick (.tmp 69) (.tmp 84) (.const (.bool false))⟩]

def f15r17 : List AInstr := [
    ⟨(some 86), none, .mov (.tmp 7)⟩,
    ⟨(some 6), none, .mov (.tmp 86)⟩]

def f15r18 : List AInstr := [
    ⟨(some 87), none, .ibin .add (.tmp 51) (.const (.int .i64 1))⟩,
    ⟨(some 51), none, .mov (.tmp 87)⟩]

/-- live: [0, 6, 49, 50, 51] -/
def f15l1 : ACode := (.seq (.ops f15r14)
  (.keep [0, 6, 49, 50, 51, 52] (.seq (.cond (.tmp 52) .skip (.exit 2))
  (.keep [0, 6, 49, 50, 51] (.seq (.block 3 (.seq (.ops f15r15)
  (.keep [0, 6, 7, 8, 49, 50, 51] (.seq (.draw f15r16 [(0, 0, false), (0, 0, false), (0, 0, false), (0, 0, false), (0, 0, false), (0, 0, false), (0, 0, false), (0, 0, false), (0, 0, false), (0, 0, false), (0, 0, false), (0, 0, false), (0, 0, false), (0, 0, false), (0, 0, false), (0, 0, false), (0, 0, false), (0, 0, false), (0, 0, false), (0, 0, false), (0, 0, false), (0, 0, false), (0, 0, false), (0, 0, false), (0, 0, false), (0, 0, false), (0, 0, false), (0, 0, false), (0, 0, false), (0, 0, false)])
  (.keep [0, 6, 7, 49, 50, 51, 85] (.cond (.tmp 85) (.keep [0, 7, 49, 50, 51] (.ops f15r17)) .skip))))))
  (.keep [0, 6, 49, 50, 51] (.ops f15r18)))))))

def f15r20 : List AInstr := [
    ⟨(some 88), none, .mov (.tmp 6)⟩,
    ⟨(some 2), none, .mov (.tmp 88)⟩]

def f15b : ACode := (.seq (.ops f15r0)
  (.keep [0] (.seq (.ops f15r1)
  (.keep [0, 3] (.seq (.seq (.ops f15r2)
  (.keep [0, 3, 12, 13, 14] (.block 0 (.loop f15l0))))
  (.keep [0, 3] (.seq (.seq (.ops f15r9)
  (.keep [0, 3, 36] (.cond (.tmp 36) (.keep [] (.seq (.ops f15r10)
  (.keep [2] .ret))) .skip)))
  (.keep [0, 3] (.seq (.ops f15r11)
  (.keep [0] (.seq (.ops f15r12)
  (.keep [0, 6] (.seq (.seq (.ops f15r13)
  (.keep [0, 6, 49, 50, 51] (.block 2 (.loop f15l1))))
  (.keep [6] (.seq (.ops f15r20)
  (.keep [2] .ret))))))))))))))))

def f15 : AFn := ⟨89, [.tmp 2], f15b⟩

theorem f15_ok : compFn Try.prog 15 = some f15.strip := by kernel_rfl

/- function 16: (*weirhouse/wfq.node).head; parameters 3; operations that are not compiled: 0 -/
def f16r0 : List AInstr := [
    ⟨(some 7), none, .mov (.tmp 0)⟩,
    ⟨(some 8), none, .nilCheck (.tmp 7)⟩,
    ⟨(some 9), none, .fieldAddr 1 (.tmp 8)⟩,
    ⟨(some 10), none, .load none (.tmp 9)⟩,
    ⟨(some 11), none, .mov (.tmp 1)⟩,
    ⟨(some 12), none, .indexAddr 3 (.tmp 10) (.tmp 11)⟩,
    ⟨(some 6), none, .mov (.tmp 12)⟩]

def f16r1 : List AInstr := [
    ⟨(some 13), none, .mov (.tmp 6)⟩,
    ⟨(some 14), none, .mov (.tmp 2)⟩,
    ⟨(some 15), none, .nilCheck (.tmp 13)⟩,
    ⟨(some 16), none, .fieldAddr 1 (.tmp 15)⟩,
    ⟨none, none, .store 1 (.tmp 16) (.tmp 14)⟩]

def f16r2 : List AInstr := [
    ⟨(some 17), none, .mov (.tmp 6)⟩,
    ⟨(some 18), none, .mov (.tmp 2)⟩,
    ⟨(some 19), none, .mov (.tmp 6)⟩,
    ⟨(some 20), none, .nilCheck (.tmp 19)⟩,
    ⟨(some 21), none, .fieldAddr 0 (.tmp 20)⟩,
    ⟨(some 22), none, .load none (.tmp 21)⟩,
    ⟨(some 23), none, .indexAddr 1 (.tmp 22) (.const (.int .i64 0))⟩,
    ⟨(some 24), none, .load none (.tmp 23)⟩,
    ⟨(some 25), none, .mov (.tmp 0)⟩,
    ⟨(some 26), none, .nilCheck (.tmp 25)⟩,
    ⟨(some 27), none, .fieldAddr 0 (.tmp 26)⟩,
    ⟨(some 28), none, .load none (.tmp 27)⟩,
    ⟨(some 29), none, .mov (.tmp 1)⟩,
    ⟨(some 30), none, .indexAddr 1 (.tmp 28) (.tmp 29)⟩,
    ⟨(some 31), none, .load none (.tmp 30)⟩,
    ⟨(some 32), none, .ibin .quo (.const (.int .i64 27720)) (.tmp 31)⟩,
    ⟨(some 33), none, .ibin .mul (.tmp 24) (.tmp 32)⟩,
    ⟨(some 34), none, .mov (.tmp 0)⟩,
    ⟨(some 35), none, .nilCheck (.tmp 34)⟩,
    ⟨(some 36), none, .fieldAddr 2 (.tmp 35)⟩,
    ⟨(some 37), none, .load none (.tmp 36)⟩,
    ⟨(some 38), none, .ibin .mul (.tmp 33) (.tmp 37)⟩,
    ⟨(some 39), none, .ibin .add (.tmp 18) (.tmp 38)⟩,
    ⟨(some 40), none, .nilCheck (.tmp 17)⟩,
    ⟨(some 41), none, .fieldAddr 2 (.tmp 40)⟩,
    ⟨none, none, .store 1 (.tmp 41) (.tmp 39)⟩]

def f16b : ACode := (.seq (.ops f16r0)
  (.keep [0, 1, 2, 6] (.seq (.ops f16r1)
  (.keep [0, 1, 2, 6] (.draw f16r2 [(0, 0, false), (0, 0, false), (0, 0, false), (0, 0, false), (0, 0, false), (0, 0, false), (0, 0, false), (0, 0, false), (0, 0, false), (0, 0, false), (0, 0, false), (0, 0, false), (0, 0, false), (0, 0, false), (0, 0, false), (0, 0, false), (0, 0, false), (0, 0, false), (0, 0, false), (0, 0, false), (0, 0, false), (0, 0, false), (0, 0, false), (0, 0, false), (0, 0, false), (0, 1, true)])))))

def f16 : AFn := ⟨42, [], f16b⟩

theorem f16_ok : compFn Try.prog 16 = some f16.strip := by kernel_rfl

end Go.Proofs.Ytdcodafidefloaa
