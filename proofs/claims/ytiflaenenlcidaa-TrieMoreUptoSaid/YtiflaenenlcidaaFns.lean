/-
  The functions of this seat as abstract code. Printed by a program of this claim's writer.
-/
import Derived.Test.YtiflaenenlcidaaChecked
import Derived.Test.YtiflaenenlcidaaAmS
import Derived.KernelRfl
namespace Go.Proofs.Ytiflaenenlcidaa
open Go Go.Am

/- function 3: weirhouse/weirhousekeep.TrieAll; parameters 3; operations that are not compiled: 0 -/
def f3r0 : List AInstr := [
    ⟨(some 6), none, .mov (.const (.bool false))⟩]

def f3r1 : List AInstr := [
    ⟨(some 15), none, .callF 8 []⟩,
    ⟨(some 16), none, .un .not (.tmp 15)⟩]

def f3r2 : List AInstr := [
    ⟨(some 6), none, .mov (.const (.bool false))⟩]

def f3r3 : List AInstr := [
    ⟨(some 17), none, .mov (.tmp 0)⟩,
    ⟨(some 18), none, .callF 9 [.tmp 17]⟩,
    ⟨(some 19), none, .mov (.tmp 2)⟩,
    ⟨(some 20), none, .build [.int .u8 0, .int .u8 0, .int .u8 0, .int .u8 0, .int .i64 0, .int .i64 0] [(5, 1, (.tmp 19))]⟩,
    ⟨(some 21), none, .buildSlice 6 1 [.int .u8 0, .int .u8 0, .int .u8 0, .int .u8 0, .int .i64 0, .int .i64 0] [(0, 6, (.tmp 20))]⟩,
    ⟨(some 22), none, .append 6 24 (.tmp 18) (.tmp 21)⟩,
    ⟨(some 7), none, .mov (.tmp 22)⟩]

def f3r4 : List AInstr := [
    ⟨(some 24), none, .mov (.tmp 0)⟩,
    ⟨(some 25), none, .mov (.tmp 1)⟩,
    ⟨(some 26), none, .callF 10 [.tmp 24, .tmp 25]⟩,
    ⟨(some 23), none, .mov (.tmp 26)⟩,
    ⟨(some 27), none, .extract 0 (.tmp 23)⟩,
    ⟨(some 28), none, .extract 1 (.tmp 23)⟩,
    ⟨(some 29), none, .extract 2 (.tmp 23)⟩,
    ⟨(some 8), none, .mov (.tmp 27)⟩,
    ⟨(some 9), none, .mov (.tmp 28)⟩,
    ⟨(some 10), none, .mov (.tmp 29)⟩]

def f3r5 : List AInstr := [
    ⟨(some 31), none, .mov (.tmp 7)⟩,
    ⟨(some 32), none, .mov (.tmp 1)⟩,
    ⟨(some 33), none, .callF 10 [.tmp 31, .tmp 32]⟩,
    ⟨(some 30), none, .mov (.tmp 33)⟩,
    ⟨(some 34), none, .extract 0 (.tmp 30)⟩,
    ⟨(some 35), none, .extract 1 (.tmp 30)⟩,
    ⟨(some 36), none, .extract 2 (.tmp 30)⟩,
    ⟨(some 11), none, .mov (.tmp 34)⟩,
    ⟨(some 12), none, .mov (.tmp 35)⟩,
    ⟨(some 13), none, .mov (.tmp 36)⟩]

def f3r6 : List AInstr := [
    ⟨(some 37), none, .mov (.tmp 10)⟩,
    ⟨(some 38), none, .ibin .neq (.tmp 37) (.const (.int .i64 0))⟩,
    ⟨(some 39), none, .mov (.tmp 38)⟩,
    ⟨(some 40), (some (39, false)), .mov (.tmp 13)⟩,
    ⟨(some 41), (some (39, false)), .ibin .neq (.tmp 40) (.const (.int .i64 0))⟩,
    ⟨(some 42), none, .pick (.tmp 39) (.const (.bool true)) (.tmp 41)⟩]

def f3r7 : List AInstr := [
    ⟨(some 6), none, .mov (.const (.bool true))⟩]

def f3r8 : List AInstr := [
    ⟨(some 43), none, .mov (.tmp 8)⟩,
    ⟨(some 44), none, .len (.tmp 43)⟩,
    ⟨(some 45), none, .mov (.tmp 1)⟩,
    ⟨(some 46), none, .len (.tmp 45)⟩,
    ⟨(some 47), none, .ibin .neq (.tmp 44) (.tmp 46)⟩,
    ⟨(some 48), none, .mov (.tmp 47)⟩,
    ⟨(some 49), (some (48, false)), .mov (.tmp 11)⟩,
    ⟨(some 50), (some (48, false)), .len (.tmp 49)⟩,
    ⟨(some 51), (some (48, false)), .mov (.tmp 1)⟩,
    ⟨(some 52), (some (48, false)), .len (.tmp 51)⟩,
    ⟨(some 53), (some (48, false)), .ibin .neq (.tmp 50) (.tmp 52)⟩,
    ⟨(some 54), none, .pick (.tmp 48) (.const (.bool true)) (.tmp 53)⟩,
    ⟨(some 55), none, .mov (.tmp 54)⟩,
    ⟨(some 56), (some (55, false)), .mov (.tmp 9)⟩,
    ⟨(some 57), (some (55, false)), .len (.tmp 56)⟩,
    ⟨(some 58), (some (55, false)), .mov (.tmp 1)⟩,
    ⟨(some 59), (some (55, false)), .len (.tmp 58)⟩,
    ⟨(some 60), (some (55, false)), .ibin .neq (.tmp 57) (.tmp 59)⟩,
    ⟨(some 61), none, .pick (.tmp 55) (.const (.bool true)) (.tmp 60)⟩,
    ⟨(some 62), none, .mov (.tmp 61)⟩,
    ⟨(some 63), (some (62, false)), .mov (.tmp 12)⟩,
    ⟨(some 64), (some (62, false)), .len (.tmp 63)⟩,
    ⟨(some 65), (some (62, false)), .mov (.tmp 1)⟩,
    ⟨(some 66), (some (62, false)), .len (.tmp 65)⟩,
    ⟨(some 67), (some (62, false)), .ibin .neq (.tmp 64) (.tmp 66)⟩,
    ⟨(some 68), none, .pick (.tmp 62) (.const (.bool true)) (.tmp 67)⟩]

def f3r9 : List AInstr := [
    ⟨(some 6), none, .mov (.const (.bool false))⟩]

def f3r10 : List AInstr := [
    ⟨(some 69), none, .mov (.tmp 1)⟩,
    ⟨(some 70), none, .len (.tmp 69)⟩,
    ⟨(some 71), none, .mov (.const (.int .i64 0))⟩]

def f3r11 : List AInstr := [
    ⟨(some 72), none, .ibin .lss (.tmp 71) (.tmp 70)⟩]

def f3r12 : List AInstr := [
    ⟨(some 73), none, .mov (.tmp 71)⟩,
    ⟨(some 14), none, .mov (.tmp 73)⟩]

def f3r13 : List AInstr := [
    ⟨(some 74), none, .mov (.tmp 12)⟩,
    ⟨(some 75), none, .mov (.tmp 14)⟩,
    ⟨(some 76), none, .indexAddr 1 (.tmp 74) (.tmp 75)⟩,
    ⟨(some 77), none, .load none (.tmp 76)⟩,
    ⟨(some 78), none, .un .not (.tmp 77)⟩,
    ⟨(some 79), none, .mov (.tmp 78)⟩,
    ⟨(some 80), (some (79, false)), .mov (.tmp 9)⟩,
    ⟨(some 81), (some (79, false)), .mov (.tmp 14)⟩,
    ⟨(some 82), (some (79, false)), .indexAddr 1 (.tmp 80) (.tmp 81)⟩,
    ⟨(some 83), (some (79, false)), .load none (.tmp 82)⟩,
    ⟨(some 84), (some (79, false)), .mov (.tmp 83)⟩,
    ⟨(some 85), (some (84, true)), .mov (.tmp 8)⟩,
    ⟨(some 86), (some (84, true)), .mov (.tmp 14)⟩,
    ⟨(some 87), (some (84, true)), .indexAddr 1 (.tmp 85) (.tmp 86)⟩,
    ⟨(some 88), (some (84, true)), .load none (.tmp 87)⟩,
    ⟨(some 89), (some (84, true)), .mov (.tmp 11)⟩,
    ⟨(some 90), (some (84, true)), .mov (.tmp 14)⟩,
    ⟨(some 91), (some (84, true)), .indexAddr 1 (.tmp 89) (.tmp 90)⟩,
    ⟨(some 92), (some (84, true)), .load none (.tmp 91)⟩,
    ⟨(some 93), (some (84, true)), .ibin .neq (.tmp 88) (.tmp 92)⟩,
    ⟨(some 94), (some (79, false)), .pick (.tmp 84) (.tmp 93) (.const (.bool false))⟩,
    ⟨(some 95), none, .pick (.tmp 79) (.const (.bool true)) (.tmp 94)⟩,
    ⟨(some 96), none, .mov (.tmp 95)⟩,
    ⟨(some 97), (some (96, false)), .mov (.tmp 9)⟩,
    ⟨(some 98), (some (96, false)), .mov (.tmp 14)⟩,
    ⟨(some 99), (some (96, false)), .indexAddr 1 (.tmp 97) (.tmp 98)⟩,
    ⟨(some 100), (some (96, false)), .load none (.tmp 99)⟩,
    ⟨(some 101), (some (96, false)), .un .not (.tmp 100)⟩,
    ⟨(some 102), (some (96, false)), .mov (.tmp 101)⟩,
    ⟨(some 103), (some (102, true)), .mov (.tmp 11)⟩,
    ⟨(some 104), (some (102, true)), .mov (.tmp 14)⟩,
    ⟨(some 105), (some (102, true)), .indexAddr 1 (.tmp 103) (.tmp 104)⟩,
    ⟨(some 106), (some (102, true)), .load none (.tmp 105)⟩,
    ⟨(some 107), (some (102, true)), .mov (.tmp 2)⟩,
    ⟨(some 108), (some (102, true)), .ibin .neq (.tmp 106) (.tmp 107)⟩,
    ⟨(some 109), (some (96, false)), .pick (.tmp 102) (.tmp 108) (.const (.bool false))⟩,
    ⟨(some 110), none, .pick (.tmp 96) (.const (.bool true)) (.tmp 109)⟩]

def f3r14 : List AInstr := [
    ⟨(some 6), none, .mov (.const (.bool false))⟩]

def f3r15 : List AInstr := [
    ⟨(some 111), none, .ibin .add (.tmp 71) (.const (.int .i64 1))⟩,
    ⟨(some 71), none, .mov (.tmp 111)⟩]

/-- live: [2, 8, 9, 11, 12, 70, 71] -/
def f3l0 : ACode := (.seq (.ops f3r11)
  (.keep [2, 8, 9, 11, 12, 70, 71, 72] (.seq (.cond (.tmp 72) .skip (.exit 0))
  (.keep [2, 8, 9, 11, 12, 70, 71] (.seq (.block 1 (.seq (.ops f3r12)
  (.keep [2, 8, 9, 11, 12, 14, 70, 71] (.seq (.draw f3r13 [(0, 0, false), (0, 0, false), (0, 0, false), (0, 0, false), (0, 0, false), (0, 0, false), (0, 0, false), (0, 0, false), (0, 0, false), (0, 0, false), (0, 0, false), (0, 0, false), (0, 0, false), (0, 0, false), (0, 0, false), (0, 0, false), (0, 0, false), (0, 0, false), (0, 0, false), (0, 0, false), (0, 0, false), (0, 0, false), (0, 0, false), (0, 0, false), (0, 0, false), (0, 0, false), (0, 0, false), (0, 0, false), (0, 0, false), (0, 0, false), (0, 0, false), (0, 0, false), (0, 0, false), (0, 0, false), (0, 0, false), (0, 0, false), (0, 0, false)])
  (.keep [2, 8, 9, 11, 12, 70, 71, 110] (.cond (.tmp 110) (.keep [] (.seq (.ops f3r14)
  (.keep [6] .ret))) .skip))))))
  (.keep [2, 8, 9, 11, 12, 70, 71] (.ops f3r15)))))))

def f3r17 : List AInstr := [
    ⟨(some 6), none, .mov (.const (.bool true))⟩]

def f3b : ACode := (.seq (.ops f3r0)
  (.keep [0, 1, 2] (.seq (.seq (.ops f3r1)
  (.keep [0, 1, 2, 16] (.cond (.tmp 16) (.keep [] (.seq (.ops f3r2)
  (.keep [6] .ret))) .skip)))
  (.keep [0, 1, 2] (.seq (.ops f3r3)
  (.keep [0, 1, 2, 7] (.seq (.ops f3r4)
  (.keep [1, 2, 7, 8, 9, 10] (.seq (.ops f3r5)
  (.keep [1, 2, 8, 9, 10, 11, 12, 13] (.seq (.seq (.ops f3r6)
  (.keep [1, 2, 8, 9, 11, 12, 42] (.cond (.tmp 42) (.keep [] (.seq (.ops f3r7)
  (.keep [6] .ret))) .skip)))
  (.keep [1, 2, 8, 9, 11, 12] (.seq (.seq (.ops f3r8)
  (.keep [1, 2, 8, 9, 11, 12, 68] (.cond (.tmp 68) (.keep [] (.seq (.ops f3r9)
  (.keep [6] .ret))) .skip)))
  (.keep [1, 2, 8, 9, 11, 12] (.seq (.seq (.ops f3r10)
  (.keep [2, 8, 9, 11, 12, 70, 71] (.block 0 (.loop f3l0))))
  (.keep [] (.seq (.ops f3r17)
  (.keep [6] .ret))))))))))))))))))

def f3 : AFn := ⟨112, [.tmp 6], f3b⟩

theorem f3_ok : compFn Try.prog 3 = some f3.strip := by kernel_rfl

/- function 4: weirhouse/weirhousekeep.TrieNest; parameters 3; operations that are not compiled: 0 -/
def f4r0 : List AInstr := [
    ⟨(some 3), none, .box (.tmp 0)⟩,
    ⟨(some 4), none, .box (.tmp 1)⟩,
    ⟨(some 5), none, .box (.tmp 2)⟩,
    ⟨(some 6), none, .mov (.const (.bool false))⟩]

def f4r1 : List AInstr := [
    ⟨(some 7), none, .callF 8 []⟩,
    ⟨(some 8), none, .un .not (.tmp 7)⟩]

def f4r2 : List AInstr := [
    ⟨(some 6), none, .mov (.const (.bool false))⟩]

def f4r3 : List AInstr := [
    ⟨(some 9), none, .load (some 6) (.tmp 3)⟩,
    ⟨(some 10), none, .buildSlice 6 1 [.int .u8 0, .int .u8 0, .int .u8 0, .int .u8 0, .int .i64 0, .int .i64 0] [(0, 6, (.tmp 9))]⟩,
    ⟨(some 11), none, .callF 11 [.tmp 10]⟩,
    ⟨(some 12), none, .ibin .neq (.tmp 11) (.const (.int .i64 0))⟩,
    ⟨(some 13), none, .mov (.tmp 12)⟩,
    ⟨(some 14), (some (13, false)), .load (some 6) (.tmp 4)⟩,
    ⟨(some 15), (some (13, false)), .buildSlice 6 1 [.int .u8 0, .int .u8 0, .int .u8 0, .int .u8 0, .int .i64 0, .int .i64 0] [(0, 6, (.tmp 14))]⟩,
    ⟨(some 16), (some (13, false)), .callF 11 [.tmp 15]⟩,
    ⟨(some 17), (some (13, false)), .ibin .neq (.tmp 16) (.const (.int .i64 0))⟩,
    ⟨(some 18), none, .pick (.tmp 13) (.const (.bool true)) (.tmp 17)⟩,
    ⟨(some 19), none, .mov (.tmp 18)⟩,
    ⟨(some 20), (some (19, false)), .fieldAddr 4 (.tmp 3)⟩,
    ⟨(some 21), (some (19, false)), .load none (.tmp 20)⟩,
    ⟨(some 22), (some (19, false)), .fieldAddr 4 (.tmp 4)⟩,
    ⟨(some 23), (some (19, false)), .load none (.tmp 22)⟩,
    ⟨(some 24), (some (19, false)), .ibin .gtr (.tmp 21) (.tmp 23)⟩,
    ⟨(some 25), none, .pick (.tmp 19) (.const (.bool true)) (.tmp 24)⟩]

def f4r4 : List AInstr := [
    ⟨(some 6), none, .mov (.const (.bool true))⟩]

def f4r5 : List AInstr := [
    ⟨(some 26), none, .load (some 4) (.tmp 5)⟩,
    ⟨(some 27), none, .load (some 6) (.tmp 3)⟩,
    ⟨(some 28), none, .callF 12 [.tmp 26, .tmp 27]⟩,
    ⟨(some 29), none, .mov (.tmp 28)⟩,
    ⟨(some 30), (some (29, true)), .load (some 4) (.tmp 5)⟩,
    ⟨(some 31), (some (29, true)), .load (some 6) (.tmp 4)⟩,
    ⟨(some 32), (some (29, true)), .callF 12 [.tmp 30, .tmp 31]⟩,
    ⟨(some 33), none, .pick (.tmp 29) (.tmp 32) (.const (.bool false))⟩]

def f4r6 : List AInstr := [
    ⟨(some 34), none, .fieldAddr 0 (.tmp 4)⟩,
    ⟨(some 35), none, .load (some 4) (.tmp 34)⟩,
    ⟨(some 36), none, .load (some 6) (.tmp 3)⟩,
    ⟨(some 37), none, .callF 12 [.tmp 35, .tmp 36]⟩,
    ⟨(some 6), none, .mov (.tmp 37)⟩]

def f4r7 : List AInstr := [
    ⟨(some 38), none, .load (some 4) (.tmp 5)⟩,
    ⟨(some 39), none, .load (some 6) (.tmp 4)⟩,
    ⟨(some 40), none, .callF 12 [.tmp 38, .tmp 39]⟩,
    ⟨(some 41), none, .un .not (.tmp 40)⟩,
    ⟨(some 42), none, .mov (.tmp 41)⟩,
    ⟨(some 43), (some (42, false)), .fieldAddr 0 (.tmp 4)⟩,
    ⟨(some 44), (some (42, false)), .load (some 4) (.tmp 43)⟩,
    ⟨(some 45), (some (42, false)), .load (some 6) (.tmp 3)⟩,
    ⟨(some 46), (some (42, false)), .callF 12 [.tmp 44, .tmp 45]⟩,
    ⟨(some 47), (some (42, false)), .un .not (.tmp 46)⟩,
    ⟨(some 48), none, .pick (.tmp 42) (.const (.bool true)) (.tmp 47)⟩,
    ⟨(some 6), none, .mov (.tmp 48)⟩]

def f4b : ACode := (.seq (.ops f4r0)
  (.keep [3, 4, 5] (.seq (.seq (.ops f4r1)
  (.keep [3, 4, 5, 8] (.cond (.tmp 8) (.keep [] (.seq (.ops f4r2)
  (.keep [6] .ret))) .skip)))
  (.keep [3, 4, 5] (.seq (.seq (.ops f4r3)
  (.keep [3, 4, 5, 25] (.cond (.tmp 25) (.keep [] (.seq (.ops f4r4)
  (.keep [6] .ret))) .skip)))
  (.keep [3, 4, 5] (.seq (.seq (.ops f4r5)
  (.keep [3, 4, 5, 33] (.cond (.tmp 33) (.keep [3, 4] (.seq (.ops f4r6)
  (.keep [6] .ret))) .skip)))
  (.keep [3, 4, 5] (.seq (.ops f4r7)
  (.keep [6] .ret))))))))))

def f4 : AFn := ⟨49, [.tmp 6], f4b⟩

theorem f4_ok : compFn Try.prog 4 = some f4.strip := by kernel_rfl

/- function 5: weirhouse/weirhousekeep.TrieOrder; parameters 2; operations that are not compiled: 0 -/
def f5r0 : List AInstr := [
    ⟨(some 4), none, .mov (.const (.bool false))⟩]

def f5r1 : List AInstr := [
    ⟨(some 12), none, .callF 8 []⟩,
    ⟨(some 13), none, .un .not (.tmp 12)⟩]

def f5r2 : List AInstr := [
    ⟨(some 4), none, .mov (.const (.bool false))⟩]

def f5r3 : List AInstr := [
    ⟨(some 14), none, .mov (.tmp 0)⟩,
    ⟨(some 15), none, .callF 9 [.tmp 14]⟩,
    ⟨(some 5), none, .mov (.tmp 15)⟩]

def f5r4 : List AInstr := [
    ⟨(some 16), none, .mov (.tmp 5)⟩,
    ⟨(some 17), none, .callF 13 [.tmp 16]⟩]

def f5r5 : List AInstr := [
    ⟨(some 19), none, .mov (.tmp 0)⟩,
    ⟨(some 20), none, .mov (.tmp 1)⟩,
    ⟨(some 21), none, .callF 10 [.tmp 19, .tmp 20]⟩,
    ⟨(some 18), none, .mov (.tmp 21)⟩,
    ⟨(some 22), none, .extract 0 (.tmp 18)⟩,
    ⟨(some 23), none, .extract 1 (.tmp 18)⟩,
    ⟨(some 24), none, .extract 2 (.tmp 18)⟩,
    ⟨(some 6), none, .mov (.tmp 22)⟩,
    ⟨(some 7), none, .mov (.tmp 23)⟩,
    ⟨(some 8), none, .mov (.tmp 24)⟩]

def f5r6 : List AInstr := [
    ⟨(some 26), none, .mov (.tmp 5)⟩,
    ⟨(some 27), none, .mov (.tmp 1)⟩,
    ⟨(some 28), none, .callF 10 [.tmp 26, .tmp 27]⟩,
    ⟨(some 25), none, .mov (.tmp 28)⟩,
    ⟨(some 29), none, .extract 0 (.tmp 25)⟩,
    ⟨(some 30), none, .extract 1 (.tmp 25)⟩,
    ⟨(some 31), none, .extract 2 (.tmp 25)⟩,
    ⟨(some 9), none, .mov (.tmp 29)⟩,
    ⟨(some 10), none, .mov (.tmp 30)⟩,
    ⟨(some 11), none, .mov (.tmp 31)⟩]

def f5r7 : List AInstr := [
    ⟨(some 32), none, .mov (.tmp 8)⟩,
    ⟨(some 33), none, .ibin .neq (.tmp 32) (.const (.int .i64 0))⟩,
    ⟨(some 34), none, .mov (.tmp 33)⟩,
    ⟨(some 35), (some (34, true)), .mov (.tmp 11)⟩,
    ⟨(some 36), (some (34, true)), .ibin .neq (.tmp 35) (.const (.int .i64 0))⟩,
    ⟨(some 37), none, .pick (.tmp 34) (.tmp 36) (.const (.bool false))⟩,
    ⟨(some 38), none, .mov (.tmp 37)⟩,
    ⟨(some 39), (some (38, false)), .mov (.tmp 8)⟩,
    ⟨(some 40), (some (38, false)), .ibin .eql (.tmp 39) (.const (.int .i64 0))⟩,
    ⟨(some 41), (some (38, false)), .mov (.tmp 40)⟩,
    ⟨(some 42), (some (41, true)), .mov (.tmp 11)⟩,
    ⟨(some 43), (some (41, true)), .ibin .eql (.tmp 42) (.const (.int .i64 0))⟩,
    ⟨(some 44), (some (38, false)), .pick (.tmp 41) (.tmp 43) (.const (.bool false))⟩,
    ⟨(some 45), (some (38, false)), .mov (.tmp 44)⟩,
    ⟨(some 46), (some (45, true)), .mov (.tmp 6)⟩,
    ⟨(some 47), (some (45, true)), .mov (.tmp 9)⟩,
    ⟨(some 48), (some (45, true)), .callF 14 [.tmp 46, .tmp 47]⟩,
    ⟨(some 49), (some (38, false)), .pick (.tmp 45) (.tmp 48) (.const (.bool false))⟩,
    ⟨(some 50), (some (38, false)), .mov (.tmp 49)⟩,
    ⟨(some 51), (some (50, true)), .mov (.tmp 7)⟩,
    ⟨(some 52), (some (50, true)), .mov (.tmp 10)⟩,
    ⟨(some 53), (some (50, true)), .callF 15 [.tmp 51, .tmp 52]⟩,
    ⟨(some 54), (some (38, false)), .pick (.tmp 50) (.tmp 53) (.const (.bool false))⟩,
    ⟨(some 55), none, .pick (.tmp 38) (.const (.bool true)) (.tmp 54)⟩,
    ⟨(some 4), none, .mov (.tmp 55)⟩]

def f5b : ACode := (.seq (.ops f5r0)
  (.keep [0, 1] (.seq (.seq (.ops f5r1)
  (.keep [0, 1, 13] (.cond (.tmp 13) (.keep [] (.seq (.ops f5r2)
  (.keep [4] .ret))) .skip)))
  (.keep [0, 1] (.seq (.ops f5r3)
  (.keep [0, 1, 5] (.seq (.ops f5r4)
  (.keep [0, 1, 5] (.seq (.ops f5r5)
  (.keep [1, 5, 6, 7, 8] (.seq (.ops f5r6)
  (.keep [6, 7, 8, 9, 10, 11] (.seq (.ops f5r7)
  (.keep [4] .ret))))))))))))))

def f5 : AFn := ⟨56, [.tmp 4], f5b⟩

theorem f5_ok : compFn Try.prog 5 = some f5.strip := by kernel_rfl

/- function 6: weirhouse/weirhousekeep.TrieMore; parameters 3; operations that are not compiled: 0 -/
def f6r0 : List AInstr := [
    ⟨(some 4), none, .box (.tmp 1)⟩,
    ⟨(some 5), none, .box (.tmp 2)⟩,
    ⟨(some 6), none, .mov (.const (.bool false))⟩]

def f6r1 : List AInstr := [
    ⟨(some 13), none, .callF 8 []⟩,
    ⟨(some 14), none, .un .not (.tmp 13)⟩]

def f6r2 : List AInstr := [
    ⟨(some 6), none, .mov (.const (.bool false))⟩]

def f6r3 : List AInstr := [
    ⟨(some 16), none, .mov (.tmp 0)⟩,
    ⟨(some 17), none, .load (some 4) (.tmp 5)⟩,
    ⟨(some 18), none, .buildSlice 4 1 [.int .u8 0, .int .u8 0, .int .u8 0, .int .u8 0] [(0, 4, (.tmp 17))]⟩,
    ⟨(some 19), none, .callF 10 [.tmp 16, .tmp 18]⟩,
    ⟨(some 15), none, .mov (.tmp 19)⟩,
    ⟨(some 20), none, .extract 0 (.tmp 15)⟩,
    ⟨(some 21), none, .extract 1 (.tmp 15)⟩,
    ⟨(some 22), none, .extract 2 (.tmp 15)⟩,
    ⟨(some 7), none, .mov (.tmp 20)⟩,
    ⟨(some 8), none, .mov (.tmp 21)⟩,
    ⟨(some 9), none, .mov (.tmp 22)⟩]

def f6r4 : List AInstr := [
    ⟨(some 24), none, .mov (.tmp 0)⟩,
    ⟨(some 26), none, .load (some 6) (.tmp 4)⟩,
    ⟨(some 29), none, .load (some 4) (.tmp 5)⟩,
    ⟨(some 25), none, .callF 9 [.tmp 24]⟩,
    ⟨(some 27), none, .buildSlice 6 1 [.int .u8 0, .int .u8 0, .int .u8 0, .int .u8 0, .int .i64 0, .int .i64 0] [(0, 6, (.tmp 26))]⟩,
    ⟨(some 28), none, .append 6 24 (.tmp 25) (.tmp 27)⟩,
    ⟨(some 30), none, .buildSlice 4 1 [.int .u8 0, .int .u8 0, .int .u8 0, .int .u8 0] [(0, 4, (.tmp 29))]⟩,
    ⟨(some 31), none, .callF 10 [.tmp 28, .tmp 30]⟩,
    ⟨(some 23), none, .mov (.tmp 31)⟩,
    ⟨(some 32), none, .extract 0 (.tmp 23)⟩,
    ⟨(some 33), none, .extract 1 (.tmp 23)⟩,
    ⟨(some 34), none, .extract 2 (.tmp 23)⟩,
    ⟨(some 10), none, .mov (.tmp 32)⟩,
    ⟨(some 11), none, .mov (.tmp 33)⟩,
    ⟨(some 12), none, .mov (.tmp 34)⟩]

def f6r5 : List AInstr := [
    ⟨(some 24), none, .mov (.tmp 0)⟩,
    ⟨(some 26), none, .load (some 6) (.tmp 4)⟩,
    ⟨(some 29), none, .load (some 4) (.tmp 5)⟩,
    ⟨(some 25), none, .callF 9 [.tmp 24]⟩,
    ⟨(some 27), none, .buildSlice 6 1 [.int .u8 0, .int .u8 0, .int .u8 0, .int .u8 0, .int .i64 0, .int .i64 0] [(0, 6, (.tmp 26))]⟩,
    ⟨(some 30), none, .buildSlice 4 1 [.int .u8 0, .int .u8 0, .int .u8 0, .int .u8 0] [(0, 4, (.tmp 29))]⟩,
    ⟨(some 28), none, .append 6 24 (.tmp 25) (.tmp 27)⟩,
    ⟨(some 31), none, .callF 10 [.tmp 28, .tmp 30]⟩,
    ⟨(some 23), none, .mov (.tmp 31)⟩,
    ⟨(some 32), none, .extract 0 (.tmp 23)⟩,
    ⟨(some 33), none, .extract 1 (.tmp 23)⟩,
    ⟨(some 34), none, .extract 2 (.tmp 23)⟩,
    ⟨(some 10), none, .mov (.tmp 32)⟩,
    ⟨(some 11), none, .mov (.tmp 33)⟩,
    ⟨(some 12), none, .mov (.tmp 34)⟩]

def f6r6 : List AInstr := [
    ⟨(some 24), none, .mov (.tmp 0)⟩,
    ⟨(some 26), none, .load (some 6) (.tmp 4)⟩,
    ⟨(some 29), none, .load (some 4) (.tmp 5)⟩,
    ⟨(some 25), none, .callF 9 [.tmp 24]⟩,
    ⟨(some 30), none, .buildSlice 4 1 [.int .u8 0, .int .u8 0, .int .u8 0, .int .u8 0] [(0, 4, (.tmp 29))]⟩,
    ⟨(some 27), none, .buildSlice 6 1 [.int .u8 0, .int .u8 0, .int .u8 0, .int .u8 0, .int .i64 0, .int .i64 0] [(0, 6, (.tmp 26))]⟩,
    ⟨(some 28), none, .append 6 24 (.tmp 25) (.tmp 27)⟩,
    ⟨(some 31), none, .callF 10 [.tmp 28, .tmp 30]⟩,
    ⟨(some 23), none, .mov (.tmp 31)⟩,
    ⟨(some 32), none, .extract 0 (.tmp 23)⟩,
    ⟨(some 33), none, .extract 1 (.tmp 23)⟩,
    ⟨(some 34), none, .extract 2 (.tmp 23)⟩,
    ⟨(some 10), none, .mov (.tmp 32)⟩,
    ⟨(some 11), none, .mov (.tmp 33)⟩,
    ⟨(some 12), none, .mov (.tmp 34)⟩]

def f6r7 : List AInstr := [
    ⟨(some 24), none, .mov (.tmp 0)⟩,
    ⟨(some 26), none, .load (some 6) (.tmp 4)⟩,
    ⟨(some 29), none, .load (some 4) (.tmp 5)⟩,
    ⟨(some 27), none, .buildSlice 6 1 [.int .u8 0, .int .u8 0, .int .u8 0, .int .u8 0, .int .i64 0, .int .i64 0] [(0, 6, (.tmp 26))]⟩,
    ⟨(some 25), none, .callF 9 [.tmp 24]⟩,
    ⟨(some 28), none, .append 6 24 (.tmp 25) (.tmp 27)⟩,
    ⟨(some 30), none, .buildSlice 4 1 [.int .u8 0, .int .u8 0, .int .u8 0, .int .u8 0] [(0, 4, (.tmp 29))]⟩,
    ⟨(some 31), none, .callF 10 [.tmp 28, .tmp 30]⟩,
    ⟨(some 23), none, .mov (.tmp 31)⟩,
    ⟨(some 32), none, .extract 0 (.tmp 23)⟩,
    ⟨(some 33), none, .extract 1 (.tmp 23)⟩,
    ⟨(some 34), none, .extract 2 (.tmp 23)⟩,
    ⟨(some 10), none, .mov (.tmp 32)⟩,
    ⟨(some 11), none, .mov (.tmp 33)⟩,
    ⟨(some 12), none, .mov (.tmp 34)⟩]

def f6r8 : List AInstr := [
    ⟨(some 24), none, .mov (.tmp 0)⟩,
    ⟨(some 26), none, .load (some 6) (.tmp 4)⟩,
    ⟨(some 29), none, .load (some 4) (.tmp 5)⟩,
    ⟨(some 27), none, .buildSlice 6 1 [.int .u8 0, .int .u8 0, .int .u8 0, .int .u8 0, .int .i64 0, .int .i64 0] [(0, 6, (.tmp 26))]⟩,
    ⟨(some 25), none, .callF 9 [.tmp 24]⟩,
    ⟨(some 30), none, .buildSlice 4 1 [.int .u8 0, .int .u8 0, .int .u8 0, .int .u8 0] [(0, 4, (.tmp 29))]⟩,
    ⟨(some 28), none, .append 6 24 (.tmp 25) (.tmp 27)⟩,
    ⟨(some 31), none, .callF 10 [.tmp 28, .tmp 30]⟩,
    ⟨(some 23), none, .mov (.tmp 31)⟩,
    ⟨(some 32), none, .extract 0 (.tmp 23)⟩,
    ⟨(some 33), none, .extract 1 (.tmp 23)⟩,
    ⟨(some 34), none, .extract 2 (.tmp 23)⟩,
    ⟨(some 10), none, .mov (.tmp 32)⟩,
    ⟨(some 11), none, .mov (.tmp 33)⟩,
    ⟨(some 12), none, .mov (.tmp 34)⟩]

def f6r9 : List AInstr := [
    ⟨(some 24), none, .mov (.tmp 0)⟩,
    ⟨(some 26), none, .load (some 6) (.tmp 4)⟩,
    ⟨(some 29), none, .load (some 4) (.tmp 5)⟩,
    ⟨(some 27), none, .buildSlice 6 1 [.int .u8 0, .int .u8 0, .int .u8 0, .int .u8 0, .int .i64 0, .int .i64 0] [(0, 6, (.tmp 26))]⟩,
    ⟨(some 30), none, .buildSlice 4 1 [.int .u8 0, .int .u8 0, .int .u8 0, .int .u8 0] [(0, 4, (.tmp 29))]⟩,
    ⟨(some 25), none, .callF 9 [.tmp 24]⟩,
    ⟨(some 28), none, .append 6 24 (.tmp 25) (.tmp 27)⟩,
    ⟨(some 31), none, .callF 10 [.tmp 28, .tmp 30]⟩,
    ⟨(some 23), none, .mov (.tmp 31)⟩,
    ⟨(some 32), none, .extract 0 (.tmp 23)⟩,
    ⟨(some 33), none, .extract 1 (.tmp 23)⟩,
    ⟨(some 34), none, .extract 2 (.tmp 23)⟩,
    ⟨(some 10), none, .mov (.tmp 32)⟩,
    ⟨(some 11), none, .mov (.tmp 33)⟩,
    ⟨(some 12), none, .mov (.tmp 34)⟩]

def f6r10 : List AInstr := [
    ⟨(some 24), none, .mov (.tmp 0)⟩,
    ⟨(some 26), none, .load (some 6) (.tmp 4)⟩,
    ⟨(some 29), none, .load (some 4) (.tmp 5)⟩,
    ⟨(some 30), none, .buildSlice 4 1 [.int .u8 0, .int .u8 0, .int .u8 0, .int .u8 0] [(0, 4, (.tmp 29))]⟩,
    ⟨(some 25), none, .callF 9 [.tmp 24]⟩,
    ⟨(some 27), none, .buildSlice 6 1 [.int .u8 0, .int .u8 0, .int .u8 0, .int .u8 0, .int .i64 0, .int .i64 0] [(0, 6, (.tmp 26))]⟩,
    ⟨(some 28), none, .append 6 24 (.tmp 25) (.tmp 27)⟩,
    ⟨(some 31), none, .callF 10 [.tmp 28, .tmp 30]⟩,
    ⟨(some 23), none, .mov (.tmp 31)⟩,
    ⟨(some 32), none, .extract 0 (.tmp 23)⟩,
    ⟨(some 33), none, .extract 1 (.tmp 23)⟩,
    ⟨(some 34), none, .extract 2 (.tmp 23)⟩,
    ⟨(some 10), none, .mov (.tmp 32)⟩,
    ⟨(some 11), none, .mov (.tmp 33)⟩,
    ⟨(some 12), none, .mov (.tmp 34)⟩]

def f6r11 : List AInstr := [
    ⟨(some 24), none, .mov (.tmp 0)⟩,
    ⟨(some 26), none, .load (some 6) (.tmp 4)⟩,
    ⟨(some 29), none, .load (some 4) (.tmp 5)⟩,
    ⟨(some 30), none, .buildSlice 4 1 [.int .u8 0, .int .u8 0, .int .u8 0, .int .u8 0] [(0, 4, (.tmp 29))]⟩,
    ⟨(some 27), none, .buildSlice 6 1 [.int .u8 0, .int .u8 0, .int .u8 0, .int .u8 0, .int .i64 0, .int .i64 0] [(0, 6, (.tmp 26))]⟩,
    ⟨(some 25), none, .callF 9 [.tmp 24]⟩,
    ⟨(some 28), none, .append 6 24 (.tmp 25) (.tmp 27)⟩,
    ⟨(some 31), none, .callF 10 [.tmp 28, .tmp 30]⟩,
    ⟨(some 23), none, .mov (.tmp 31)⟩,
    ⟨(some 32), none, .extract 0 (.tmp 23)⟩,
    ⟨(some 33), none, .extract 1 (.tmp 23)⟩,
    ⟨(some 34), none, .extract 2 (.tmp 23)⟩,
    ⟨(some 10), none, .mov (.tmp 32)⟩,
    ⟨(some 11), none, .mov (.tmp 33)⟩,
    ⟨(some 12), none, .mov (.tmp 34)⟩]

def f6r12 : List AInstr := [
    ⟨(some 35), none, .mov (.tmp 9)⟩,
    ⟨(some 36), none, .ibin .neq (.tmp 35) (.const (.int .i64 0))⟩,
    ⟨(some 37), none, .mov (.tmp 36)⟩,
    ⟨(some 38), (some (37, false)), .mov (.tmp 12)⟩,
    ⟨(some 39), (some (37, false)), .ibin .neq (.tmp 38) (.const (.int .i64 0))⟩,
    ⟨(some 40), none, .pick (.tmp 37) (.const (.bool true)) (.tmp 39)⟩,
    ⟨(some 41), none, .mov (.tmp 40)⟩,
    ⟨(some 42), (some (41, false)), .mov (.tmp 7)⟩,
    ⟨(some 43), (some (41, false)), .len (.tmp 42)⟩,
    ⟨(some 44), (some (41, false)), .ibin .neq (.tmp 43) (.const (.int .i64 1))⟩,
    ⟨(some 45), none, .pick (.tmp 41) (.const (.bool true)) (.tmp 44)⟩,
    ⟨(some 46), none, .mov (.tmp 45)⟩,
    ⟨(some 47), (some (46, false)), .mov (.tmp 10)⟩,
    ⟨(some 48), (some (46, false)), .len (.tmp 47)⟩,
    ⟨(some 49), (some (46, false)), .ibin .neq (.tmp 48) (.const (.int .i64 1))⟩,
    ⟨(some 50), none, .pick (.tmp 46) (.const (.bool true)) (.tmp 49)⟩,
    ⟨(some 51), none, .mov (.tmp 50)⟩,
    ⟨(some 52), (some (51, false)), .mov (.tmp 11)⟩,
    ⟨(some 53), (some (51, false)), .len (.tmp 52)⟩,
    ⟨(some 54), (some (51, false)), .ibin .neq (.tmp 53) (.const (.int .i64 1))⟩,
    ⟨(some 55), none, .pick (.tmp 51) (.const (.bool true)) (.tmp 54)⟩]

def f6r13 : List AInstr := [
    ⟨(some 56), none, .mov (.tmp 9)⟩,
    ⟨(some 57), none, .ibin .neq (.tmp 56) (.const (.int .i64 0))⟩,
    ⟨(some 58), none, .mov (.tmp 57)⟩,
    ⟨(some 59), (some (58, false)), .mov (.tmp 12)⟩,
    ⟨(some 60), (some (58, false)), .ibin .neq (.tmp 59) (.const (.int .i64 0))⟩,
    ⟨(some 61), none, .pick (.tmp 58) (.const (.bool true)) (.tmp 60)⟩,
    ⟨(some 6), none, .mov (.tmp 61)⟩]

def f6r14 : List AInstr := [
    ⟨(some 62), none, .load (some 4) (.tmp 5)⟩,
    ⟨(some 63), none, .load (some 6) (.tmp 4)⟩,
    ⟨(some 64), none, .callF 12 [.tmp 62, .tmp 63]⟩]

def f6r15 : List AInstr := [
    ⟨(some 65), none, .mov (.tmp 11)⟩,
    ⟨(some 66), none, .indexAddr 1 (.tmp 65) (.const (.int .i64 0))⟩,
    ⟨(some 67), none, .load none (.tmp 66)⟩,
    ⟨(some 68), none, .mov (.tmp 67)⟩,
    ⟨(some 69), (some (68, true)), .mov (.tmp 10)⟩,
    ⟨(some 70), (some (68, true)), .indexAddr 1 (.tmp 69) (.const (.int .i64 0))⟩,
    ⟨(some 71), (some (68, true)), .load none (.tmp 70)⟩,
    ⟨(some 72), (some (68, true)), .mov (.tmp 7)⟩,
    ⟨(some 73), (some (68, true)), .indexAddr 1 (.tmp 72) (.const (.int .i64 0))⟩,
    ⟨(some 74), (some (68, true)), .load none (.tmp 73)⟩,
    ⟨(some 75), (some (68, true)), .ibin .eql (.tmp 71) (.tmp 74)⟩,
    ⟨(some 76), (some (68, true)), .mov (.tmp 75)⟩,
    ⟨(some 77), (some (76, false)), .mov (.tmp 10)⟩,
    ⟨(some 78), (some (76, false)), .indexAddr 1 (.tmp 77) (.const (.int .i64 0))⟩,
    ⟨(some 79), (some (76, false)), .load none (.tmp 78)⟩,
    ⟨(some 80), (some (76, false)), .fieldAddr 5 (.tmp 4)⟩,
    ⟨(some 81), (some (76, false)), .load none (.tmp 80)⟩,
    ⟨(some 82), (some (76, false)), .ibin .eql (.tmp 79) (.tmp 81)⟩,
    ⟨(some 83), (some (68, true)), .pick (.tmp 76) (.const (.bool true)) (.tmp 82)⟩,
    ⟨(some 84), none, .pick (.tmp 68) (.tmp 83) (.const (.bool false))⟩,
    ⟨(some 6), none, .mov (.tmp 84)⟩]

def f6r16 : List AInstr := [
    ⟨(some 85), none, .mov (.tmp 10)⟩,
    ⟨(some 86), none, .indexAddr 1 (.tmp 85) (.const (.int .i64 0))⟩,
    ⟨(some 87), none, .load none (.tmp 86)⟩,
    ⟨(some 88), none, .mov (.tmp 7)⟩,
    ⟨(some 89), none, .indexAddr 1 (.tmp 88) (.const (.int .i64 0))⟩,
    ⟨(some 90), none, .load none (.tmp 89)⟩,
    ⟨(some 91), none, .ibin .eql (.tmp 87) (.tmp 90)⟩,
    ⟨(some 6), none, .mov (.tmp 91)⟩]

def f6b : ACode := (.seq (.ops f6r0)
  (.keep [0, 4, 5] (.seq (.seq (.ops f6r1)
  (.keep [0, 4, 5, 14] (.cond (.tmp 14) (.keep [] (.seq (.ops f6r2)
  (.keep [6] .ret))) .skip)))
  (.keep [0, 4, 5] (.seq (.ops f6r3)
  (.keep [0, 4, 5, 7, 9] (.seq (.alt [(f6r4, [(0, 0, false), (0, 1, false), (0, 3, false), (0, 0, true), (1, 0, true), (2, 0, true), (3, 0, true), (4, 0, true), (5, 5, false), (5, 5, false), (5, 5, false), (5, 5, false), (5, 5, false), (5, 5, false), (5, 5, false)]), (f6r5, [(0, 0, false), (0, 1, false), (0, 2, false), (0, 0, true), (1, 0, true), (2, 0, true), (3, 0, true), (4, 0, true), (5, 5, false), (5, 5, false), (5, 5, false), (5, 5, false), (5, 5, false), (5, 5, false), (5, 5, false)]), (f6r6, [(0, 0, false), (0, 2, false), (0, 1, false), (0, 0, true), (1, 0, true), (2, 0, true), (3, 0, true), (4, 0, true), (5, 5, false), (5, 5, false), (5, 5, false), (5, 5, false), (5, 5, false), (5, 5, false), (5, 5, false)]), (f6r7, [(0, 1, false), (0, 0, false), (0, 3, false), (0, 0, true), (1, 0, true), (2, 0, true), (3, 0, true), (4, 0, true), (5, 5, false), (5, 5, false), (5, 5, false), (5, 5, false), (5, 5, false), (5, 5, false), (5, 5, false)]), (f6r8, [(0, 1, false), (0, 0, false), (0, 2, false), (0, 0, true), (1, 0, true), (2, 0, true), (3, 0, true), (4, 0, true), (5, 5, false), (5, 5, false), (5, 5, false), (5, 5, false), (5, 5, false), (5, 5, false), (5, 5, false)]), (f6r9, [(0, 2, false), (0, 0, false), (0, 1, false), (0, 0, true), (1, 0, true), (2, 0, true), (3, 0, true), (4, 0, true), (5, 5, false), (5, 5, false), (5, 5, false), (5, 5, false), (5, 5, false), (5, 5, false), (5, 5, false)]), (f6r10, [(0, 1, false), (0, 2, false), (0, 0, false), (0, 0, true), (1, 0, true), (2, 0, true), (3, 0, true), (4, 0, true), (5, 5, false), (5, 5, false), (5, 5, false), (5, 5, false), (5, 5, false), (5, 5, false), (5, 5, false)]), (f6r11, [(0, 2, false), (0, 1, false), (0, 0, false), (0, 0, true), (1, 0, true), (2, 0, true), (3, 0, true), (4, 0, true), (5, 5, false), (5, 5, false), (5, 5, false), (5, 5, false), (5, 5, false), (5, 5, false), (5, 5, false)])])
  (.keep [4, 5, 7, 9, 10, 11, 12] (.seq (.seq (.ops f6r12)
  (.keep [4, 5, 7, 9, 10, 11, 12, 55] (.cond (.tmp 55) (.keep [9, 12] (.seq (.ops f6r13)
  (.keep [6] .ret))) .skip)))
  (.keep [4, 5, 7, 10, 11] (.seq (.seq (.ops f6r14)
  (.keep [4, 7, 10, 11, 64] (.cond (.tmp 64) (.keep [4, 7, 10, 11] (.seq (.draw f6r15 [(0, 0, false), (0, 0, false), (0, 0, false), (0, 0, false), (0, 0, false), (0, 0, false), (0, 0, false), (0, 0, false), (0, 0, false), (0, 0, false), (0, 0, false), (0, 0, false), (0, 0, false), (0, 0, false), (0, 0, false), (0, 0, false), (0, 0, false), (0, 0, false), (0, 0, false), (0, 0, false), (0, 0, false)])
  (.keep [6] .ret))) .skip)))
  (.keep [7, 10] (.seq (.draw f6r16 [(0, 0, false), (0, 0, false), (0, 0, false), (0, 0, false), (0, 0, false), (0, 0, false), (0, 0, false), (0, 0, false)])
  (.keep [6] .ret))))))))))))))

def f6 : AFn := ⟨92, [.tmp 6], f6b⟩

theorem f6_ok : compFn Try.prog 6 = some f6.strip := by kernel_rfl

/- function 7: weirhouse/weirhousekeep.TrieLongest; parameters 2; operations that are not compiled: 0 -/
def f7r0 : List AInstr := [
    ⟨(some 3), none, .box (.tmp 1)⟩,
    ⟨(some 4), none, .mov (.const (.bool false))⟩]

def f7r1 : List AInstr := [
    ⟨(some 12), none, .callF 8 []⟩,
    ⟨(some 13), none, .un .not (.tmp 12)⟩]

def f7r2 : List AInstr := [
    ⟨(some 4), none, .mov (.const (.bool false))⟩]

def f7r3 : List AInstr := [
    ⟨(some 15), none, .mov (.tmp 0)⟩,
    ⟨(some 16), none, .load (some 4) (.tmp 3)⟩,
    ⟨(some 17), none, .buildSlice 4 1 [.int .u8 0, .int .u8 0, .int .u8 0, .int .u8 0] [(0, 4, (.tmp 16))]⟩,
    ⟨(some 18), none, .callF 10 [.tmp 15, .tmp 17]⟩,
    ⟨(some 14), none, .mov (.tmp 18)⟩,
    ⟨(some 19), none, .extract 0 (.tmp 14)⟩,
    ⟨(some 20), none, .extract 1 (.tmp 14)⟩,
    ⟨(some 21), none, .extract 2 (.tmp 14)⟩,
    ⟨(some 5), none, .alloc [.slice none 0 0]⟩,
    ⟨none, none, .store 1 (.tmp 5) (.tmp 19)⟩,
    ⟨(some 6), none, .mov (.tmp 20)⟩,
    ⟨(some 7), none, .mov (.tmp 21)⟩]

def f7r4 : List AInstr := [
    ⟨(some 22), none, .mov (.tmp 7)⟩,
    ⟨(some 23), none, .ibin .neq (.tmp 22) (.const (.int .i64 0))⟩,
    ⟨(some 24), none, .mov (.tmp 23)⟩,
    ⟨(some 25), (some (24, false)), .load none (.tmp 5)⟩,
    ⟨(some 26), (some (24, false)), .len (.tmp 25)⟩,
    ⟨(some 27), (some (24, false)), .ibin .neq (.tmp 26) (.const (.int .i64 1))⟩,
    ⟨(some 28), none, .pick (.tmp 24) (.const (.bool true)) (.tmp 27)⟩,
    ⟨(some 29), none, .mov (.tmp 28)⟩,
    ⟨(some 30), (some (29, false)), .mov (.tmp 6)⟩,
    ⟨(some 31), (some (29, false)), .len (.tmp 30)⟩,
    ⟨(some 32), (some (29, false)), .ibin .neq (.tmp 31) (.const (.int .i64 1))⟩,
    ⟨(some 33), none, .pick (.tmp 29) (.const (.bool true)) (.tmp 32)⟩]

def f7r5 : List AInstr := [
    ⟨(some 34), none, .mov (.tmp 7)⟩,
    ⟨(some 35), none, .ibin .neq (.tmp 34) (.const (.int .i64 0))⟩,
    ⟨(some 36), none, .mov (.tmp 35)⟩,
    ⟨(some 37), (some (36, true)), .load none (.tmp 5)⟩,
    ⟨(some 38), (some (36, true)), .len (.tmp 37)⟩,
    ⟨(some 39), (some (36, true)), .mov (.tmp 6)⟩,
    ⟨(some 40), (some (36, true)), .len (.tmp 39)⟩,
    ⟨(some 41), (some (36, true)), .ibin .add (.tmp 38) (.tmp 40)⟩,
    ⟨(some 42), (some (36, true)), .ibin .eql (.tmp 41) (.const (.int .i64 0))⟩,
    ⟨(some 43), none, .pick (.tmp 36) (.tmp 42) (.const (.bool false))⟩,
    ⟨(some 4), none, .mov (.tmp 43)⟩]

def f7r6 : List AInstr := [
    ⟨(some 8), none, .alloc [.int .i64 0]⟩,
    ⟨none, none, .store 1 (.tmp 8) (.const (.int .i64 (-1)))⟩]

def f7r7 : List AInstr := [
    ⟨(some 44), none, .mov (.tmp 0)⟩,
    ⟨(some 45), none, .len (.tmp 44)⟩,
    ⟨(some 46), none, .mov (.const (.int .i64 0))⟩]

def f7r8 : List AInstr := [
    ⟨(some 47), none, .ibin .lss (.tmp 46) (.tmp 45)⟩]

def f7r9 : List AInstr := [
    ⟨(some 48), none, .indexAddr 6 (.tmp 44) (.tmp 46)⟩,
    ⟨(some 49), none, .load (some 6) (.tmp 48)⟩,
    ⟨(some 10), none, .alloc [.int .u8 0, .int .u8 0, .int .u8 0, .int .u8 0, .int .i64 0, .int .i64 0]⟩,
    ⟨none, none, .store 6 (.tmp 10) (.tmp 49)⟩]

def f7r10 : List AInstr := [
    ⟨(some 50), none, .load (some 4) (.tmp 3)⟩,
    ⟨(some 51), none, .load (some 6) (.tmp 10)⟩,
    ⟨(some 52), none, .callF 12 [.tmp 50, .tmp 51]⟩]

def f7r11 : List AInstr := [
    ⟨(some 53), none, .load none (.tmp 8)⟩,
    ⟨(some 54), none, .fieldAddr 4 (.tmp 10)⟩,
    ⟨(some 55), none, .load none (.tmp 54)⟩,
    ⟨(some 56), none, .minmax true [.tmp 53, .tmp 55]⟩,
    ⟨none, none, .store 1 (.tmp 8) (.tmp 56)⟩]

def f7r12 : List AInstr := [
    ⟨(some 57), none, .ibin .add (.tmp 46) (.const (.int .i64 1))⟩,
    ⟨(some 46), none, .mov (.tmp 57)⟩]

/-- live: [0, 3, 5, 6, 8, 44, 45, 46] -/
def f7l0 : ACode := (.seq (.ops f7r8)
  (.keep [0, 3, 5, 6, 8, 44, 45, 46, 47] (.seq (.cond (.tmp 47) .skip (.exit 0))
  (.keep [0, 3, 5, 6, 8, 44, 45, 46] (.seq (.block 1 (.seq (.ops f7r9)
  (.keep [0, 3, 5, 6, 8, 10, 44, 45, 46] (.seq (.ops f7r10)
  (.keep [0, 3, 5, 6, 8, 10, 44, 45, 46, 52] (.cond (.tmp 52) (.keep [0, 3, 5, 6, 8, 10, 44, 45, 46] (.ops f7r11)) .skip))))))
  (.keep [0, 3, 5, 6, 8, 44, 45, 46] (.ops f7r12)))))))

def f7r14 : List AInstr := [
    ⟨(some 58), none, .mov (.tmp 0)⟩,
    ⟨(some 59), none, .func (.func 17) [] [.tmp 8, .tmp 5, .tmp 3]⟩,
    ⟨(some 60), none, .callF 16 [.tmp 58, .tmp 59]⟩,
    ⟨(some 11), none, .mov (.tmp 60)⟩]

def f7r15 : List AInstr := [
    ⟨(some 61), none, .mov (.tmp 6)⟩,
    ⟨(some 62), none, .indexAddr 1 (.tmp 61) (.const (.int .i64 0))⟩,
    ⟨(some 63), none, .load none (.tmp 62)⟩,
    ⟨(some 64), none, .load none (.tmp 8)⟩,
    ⟨(some 65), none, .ibin .geq (.tmp 64) (.const (.int .i64 0))⟩,
    ⟨(some 66), none, .eqB false (.tmp 63) (.tmp 65)⟩,
    ⟨(some 67), none, .mov (.tmp 66)⟩,
    ⟨(some 68), (some (67, true)), .mov (.tmp 6)⟩,
    ⟨(some 69), (some (67, true)), .indexAddr 1 (.tmp 68) (.const (.int .i64 0))⟩,
    ⟨(some 70), (some (67, true)), .load none (.tmp 69)⟩,
    ⟨(some 71), (some (67, true)), .un .not (.tmp 70)⟩,
    ⟨(some 72), (some (67, true)), .mov (.tmp 71)⟩,
    ⟨(some 73), (some (72, false)), .mov (.tmp 11)⟩,
    ⟨(some 74), (some (67, true)), .pick (.tmp 72) (.const (.bool true)) (.tmp 73)⟩,
    ⟨(some 75), none, .pick (.tmp 67) (.tmp 74) (.const (.bool false))⟩,
    ⟨(some 76), none, .mov (.tmp 75)⟩,
    ⟨(some 77), (some (76, true)), .mov (.tmp 6)⟩,
    ⟨(some 78), (some (76, true)), .indexAddr 1 (.tmp 77) (.const (.int .i64 0))⟩,
    ⟨(some 79), (some (76, true)), .load none (.tmp 78)⟩,
    ⟨(some 80), (some (76, true)), .mov (.tmp 79)⟩,
    ⟨(some 81), (some (80, false)), .load none (.tmp 5)⟩,
    ⟨(some 82), (some (80, false)), .indexAddr 1 (.tmp 81) (.const (.int .i64 0))⟩,
    ⟨(some 83), (some (80, false)), .load none (.tmp 82)⟩,
    ⟨(some 84), (some (80, false)), .ibin .eql (.tmp 83) (.const (.int .i64 0))⟩,
    ⟨(some 85), (some (76, true)), .pick (.tmp 80) (.const (.bool true)) (.tmp 84)⟩,
    ⟨(some 86), none, .pick (.tmp 76) (.tmp 85) (.const (.bool false))⟩,
    ⟨(some 4), none, .mov (.tmp 86)⟩]

def f7b : ACode := (.seq (.ops f7r0)
  (.keep [0, 3] (.seq (.seq (.ops f7r1)
  (.keep [0, 3, 13] (.cond (.tmp 13) (.keep [] (.seq (.ops f7r2)
  (.keep [4] .ret))) .skip)))
  (.keep [0, 3] (.seq (.ops f7r3)
  (.keep [0, 3, 5, 6, 7] (.seq (.seq (.ops f7r4)
  (.keep [0, 3, 5, 6, 7, 33] (.cond (.tmp 33) (.keep [5, 6, 7] (.seq (.ops f7r5)
  (.keep [4] .ret))) .skip)))
  (.keep [0, 3, 5, 6] (.seq (.ops f7r6)
  (.keep [0, 3, 5, 6, 8] (.seq (.seq (.ops f7r7)
  (.keep [0, 3, 5, 6, 8, 44, 45, 46] (.block 0 (.loop f7l0))))
  (.keep [0, 3, 5, 6, 8] (.seq (.ops f7r14)
  (.keep [5, 6, 8, 11] (.seq (.draw f7r15 [(0, 0, false), (0, 0, false), (0, 0, false), (0, 0, false), (0, 0, false), (0, 0, false), (0, 0, false), (0, 0, false), (0, 0, false), (0, 0, false), (0, 0, false), (0, 0, false), (0, 0, false), (0, 0, false), (0, 0, false), (0, 0, false), (0, 0, false), (0, 0, false), (0, 0, false), (0, 0, false), (0, 0, false), (0, 0, false), (0, 0, false), (0, 0, false), (0, 0, false), (0, 0, false), (0, 0, false)])
  (.keep [4] .ret))))))))))))))))

def f7 : AFn := ⟨87, [.tmp 4], f7b⟩

theorem f7_ok : compFn Try.prog 7 = some f7.strip := by kernel_rfl

/- function 8: weirhouse/weirhousekeep.alive6; parameters 0; operations that are not compiled: 0 -/
def f8r0 : List AInstr := [
    ⟨(some 0), none, .mov (.const (.bool false))⟩]

def f8r1 : List AInstr := [
    ⟨(some 5), none, .build [.int .u8 0, .int .u8 0, .int .u8 0, .int .u8 0] [(0, 1, (.const (.int .u8 10)))]⟩,
    ⟨(some 6), none, .build [.int .u8 0, .int .u8 0, .int .u8 0, .int .u8 0, .int .i64 0, .int .i64 0] [(0, 4, (.tmp 5)), (4, 1, (.const (.int .i64 8))), (5, 1, (.const (.int .i64 1)))]⟩,
    ⟨(some 7), none, .build [.int .u8 0, .int .u8 0, .int .u8 0, .int .u8 0] [(0, 1, (.const (.int .u8 10))), (1, 1, (.const (.int .u8 1)))]⟩,
    ⟨(some 8), none, .build [.int .u8 0, .int .u8 0, .int .u8 0, .int .u8 0, .int .i64 0, .int .i64 0] [(0, 4, (.tmp 7)), (4, 1, (.const (.int .i64 16))), (5, 1, (.const (.int .i64 2)))]⟩,
    ⟨(some 9), none, .buildSlice 6 2 [.int .u8 0, .int .u8 0, .int .u8 0, .int .u8 0, .int .i64 0, .int .i64 0, .int .u8 0, .int .u8 0, .int .u8 0, .int .u8 0, .int .i64 0, .int .i64 0] [(0, 6, (.tmp 6)), (6, 6, (.tmp 8))]⟩,
    ⟨(some 10), none, .build [.int .u8 0, .int .u8 0, .int .u8 0, .int .u8 0] [(0, 1, (.const (.int .u8 10))), (1, 1, (.const (.int .u8 1))), (2, 1, (.const (.int .u8 2))), (3, 1, (.const (.int .u8 3)))]⟩,
    ⟨(some 11), none, .build [.int .u8 0, .int .u8 0, .int .u8 0, .int .u8 0] [(0, 1, (.const (.int .u8 10))), (1, 1, (.const (.int .u8 2)))]⟩,
    ⟨(some 12), none, .build [.int .u8 0, .int .u8 0, .int .u8 0, .int .u8 0] [(0, 1, (.const (.int .u8 11)))]⟩,
    ⟨(some 13), none, .buildSlice 4 3 [.int .u8 0, .int .u8 0, .int .u8 0, .int .u8 0, .int .u8 0, .int .u8 0, .int .u8 0, .int .u8 0, .int .u8 0, .int .u8 0, .int .u8 0, .int .u8 0] [(0, 4, (.tmp 10)), (4, 4, (.tmp 11)), (8, 4, (.tmp 12))]⟩,
    ⟨(some 14), none, .callF 10 [.tmp 9, .tmp 13]⟩,
    ⟨(some 4), none, .mov (.tmp 14)⟩,
    ⟨(some 15), none, .extract 0 (.tmp 4)⟩,
    ⟨(some 16), none, .extract 1 (.tmp 4)⟩,
    ⟨(some 17), none, .extract 2 (.tmp 4)⟩,
    ⟨(some 1), none, .mov (.tmp 15)⟩,
    ⟨(some 2), none, .mov (.tmp 16)⟩,
    ⟨(some 3), none, .mov (.tmp 17)⟩]

def f8r2 : List AInstr := [
    ⟨(some 18), none, .mov (.tmp 3)⟩,
    ⟨(some 19), none, .ibin .eql (.tmp 18) (.const (.int .i64 0))⟩,
    ⟨(some 20), none, .mov (.tmp 19)⟩,
    ⟨(some 21), (some (20, true)), .mov (.tmp 1)⟩,
    ⟨(some 22), (some (20, true)), .buildSlice 1 3 [.int .i64 0, .int .i64 0, .int .i64 0] [(0, 1, (.const (.int .i64 2))), (1, 1, (.const (.int .i64 1))), (2, 1, (.const (.int .i64 0)))]⟩,
    ⟨(some 23), (some (20, true)), .callF 14 [.tmp 21, .tmp 22]⟩,
    ⟨(some 24), none, .pick (.tmp 20) (.tmp 23) (.const (.bool false))⟩,
    ⟨(some 25), none, .mov (.tmp 24)⟩,
    ⟨(some 26), (some (25, true)), .mov (.tmp 2)⟩,
    ⟨(some 27), (some (25, true)), .buildSlice 1 3 [.bool false, .bool false, .bool false] [(0, 1, (.const (.bool true))), (1, 1, (.const (.bool true))), (2, 1, (.const (.bool false)))]⟩,
    ⟨(some 28), (some (25, true)), .callF 15 [.tmp 26, .tmp 27]⟩,
    ⟨(some 29), none, .pick (.tmp 25) (.tmp 28) (.const (.bool false))⟩,
    ⟨(some 0), none, .mov (.tmp 29)⟩]

def f8b : ACode := (.seq (.ops f8r0)
  (.keep [] (.seq (.ops f8r1)
  (.keep [1, 2, 3] (.seq (.ops f8r2)
  (.keep [0] .ret))))))

def f8 : AFn := ⟨30, [.tmp 0], f8b⟩

theorem f8_ok : compFn Try.prog 8 = some f8.strip := by kernel_rfl

/- function 9: slices.Clone[[]weirhouse/api.Prefix,weirhouse/api.Prefix]; parameters 1; operations that are not compiled: 0 -/
def f9r0 : List AInstr := [
    ⟨(some 2), none, .mov (.const (.slice none 0 0))⟩]

def f9r1 : List AInstr := [
    ⟨(some 3), none, .mov (.tmp 0)⟩,
    ⟨(some 4), none, .eqS false (.tmp 3) (.const (.slice none 0 0))⟩]

def f9r2 : List AInstr := [
    ⟨(some 2), none, .mov (.const (.slice none 0 0))⟩]

def f9r3 : List AInstr := [
    ⟨(some 5), none, .buildSlice 6 0 [] []⟩,
    ⟨(some 6), none, .mov (.tmp 0)⟩,
    ⟨(some 7), none, .append 6 24 (.tmp 5) (.tmp 6)⟩,
    ⟨(some 2), none, .mov (.tmp 7)⟩]

def f9b : ACode := (.seq (.ops f9r0)
  (.keep [0] (.seq (.seq (.ops f9r1)
  (.keep [0, 4] (.cond (.tmp 4) (.keep [] (.seq (.ops f9r2)
  (.keep [2] .ret))) .skip)))
  (.keep [0] (.seq (.ops f9r3)
  (.keep [2] .ret))))))

def f9 : AFn := ⟨8, [.tmp 2], f9b⟩

theorem f9_ok : compFn Try.prog 9 = some f9.strip := by kernel_rfl

/- function 10: weirhouse/trie.Find; parameters 2; operations that are not compiled: 0 -/
def f10r0 : List AInstr := [
    ⟨(some 4), none, .mov (.const (.slice none 0 0))⟩,
    ⟨(some 5), none, .mov (.const (.slice none 0 0))⟩,
    ⟨(some 6), none, .mov (.const (.int .i64 0))⟩]

def f10r1 : List AInstr := [
    ⟨(some 17), none, .mov (.tmp 0)⟩,
    ⟨(some 18), none, .callF 11 [.tmp 17]⟩,
    ⟨(some 7), none, .mov (.tmp 18)⟩]

def f10r2 : List AInstr := [
    ⟨(some 19), none, .mov (.tmp 7)⟩,
    ⟨(some 20), none, .ibin .neq (.tmp 19) (.const (.int .i64 0))⟩]

def f10r3 : List AInstr := [
    ⟨(some 21), none, .mov (.tmp 7)⟩,
    ⟨(some 4), none, .mov (.const (.slice none 0 0))⟩,
    ⟨(some 5), none, .mov (.const (.slice none 0 0))⟩,
    ⟨(some 6), none, .mov (.tmp 21)⟩]

def f10r4 : List AInstr := [
    ⟨(some 22), none, .mov (.tmp 0)⟩,
    ⟨(some 23), none, .callF 18 [.tmp 22]⟩,
    ⟨(some 8), none, .mov (.tmp 23)⟩]

def f10r5 : List AInstr := [
    ⟨(some 9), none, .mov (.const (.slice none 0 0))⟩]

def f10r6 : List AInstr := [
    ⟨(some 10), none, .mov (.const (.slice none 0 0))⟩]

def f10r7 : List AInstr := [
    ⟨(some 24), none, .mov (.tmp 1)⟩,
    ⟨(some 25), none, .len (.tmp 24)⟩,
    ⟨(some 26), none, .mov (.const (.int .i64 0))⟩]

def f10r8 : List AInstr := [
    ⟨(some 27), none, .ibin .lss (.tmp 26) (.tmp 25)⟩]

def f10r9 : List AInstr := [
    ⟨(some 28), none, .indexAddr 4 (.tmp 24) (.tmp 26)⟩,
    ⟨(some 29), none, .load (some 4) (.tmp 28)⟩,
    ⟨(some 12), none, .alloc [.int .u8 0, .int .u8 0, .int .u8 0, .int .u8 0]⟩,
    ⟨none, none, .store 4 (.tmp 12) (.tmp 29)⟩]

def f10r10 : List AInstr := [
    ⟨(some 13), none, .mov (.const (.int .i64 0))⟩,
    ⟨(some 14), none, .mov (.const (.bool false))⟩]

def f10r11 : List AInstr := [
    ⟨(some 30), none, .mov (.tmp 8)⟩,
    ⟨(some 15), none, .mov (.tmp 30)⟩]

def f10r12 : List AInstr := [
    ⟨(some 16), none, .mov (.const (.int .i64 0))⟩]

def f10r13 : List AInstr := [
    ⟨(some 31), none, .mov (.tmp 15)⟩,
    ⟨(some 32), none, .eqP true (.tmp 31) (.const (.pointer none))⟩]

def f10r14 : List AInstr := [
    ⟨(some 35), none, .mov (.tmp 15)⟩,
    ⟨(some 36), none, .nilCheck (.tmp 35)⟩,
    ⟨(some 37), none, .fieldAddr 2 (.tmp 36)⟩,
    ⟨(some 38), none, .load none (.tmp 37)⟩,
    ⟨(some 39), none, .eqP true (.tmp 38) (.const (.pointer none))⟩]

def f10r15 : List AInstr := [
    ⟨(some 40), none, .mov (.tmp 15)⟩,
    ⟨(some 41), none, .nilCheck (.tmp 40)⟩,
    ⟨(some 42), none, .fieldAddr 2 (.tmp 41)⟩,
    ⟨(some 43), none, .load none (.tmp 42)⟩,
    ⟨(some 44), none, .nilCheck (.tmp 43)⟩,
    ⟨(some 45), none, .load none (.tmp 44)⟩,
    ⟨(some 13), none, .mov (.tmp 45)⟩,
    ⟨(some 14), none, .mov (.const (.bool true))⟩]

def f10r16 : List AInstr := [
    ⟨(some 46), none, .mov (.tmp 16)⟩,
    ⟨(some 47), none, .ibin .eql (.tmp 46) (.const (.int .i64 32))⟩]

def f10r17 : List AInstr := [
    ⟨(some 48), none, .mov (.tmp 15)⟩,
    ⟨(some 49), none, .load (some 4) (.tmp 12)⟩,
    ⟨(some 50), none, .mov (.tmp 16)⟩,
    ⟨(some 52), none, .nilCheck (.tmp 48)⟩,
    ⟨(some 53), none, .fieldAddr 0 (.tmp 52)⟩,
    ⟨(some 51), none, .callF 19 [.tmp 49, .tmp 50]⟩,
    ⟨(some 54), none, .indexArr 1 2 (.tmp 53) (.tmp 51)⟩,
    ⟨(some 55), none, .load none (.tmp 54)⟩,
    ⟨(some 15), none, .mov (.tmp 55)⟩]

def f10r18 : List AInstr := [
    ⟨(some 33), none, .mov (.tmp 16)⟩,
    ⟨(some 34), none, .ibin .add (.tmp 33) (.const (.int .i64 1))⟩,
    ⟨(some 16), none, .mov (.tmp 34)⟩]

/-- live: [8, 9, 10, 12, 13, 14, 15, 16, 24, 25, 26] -/
def f10l0 : ACode := (.seq (.seq (.ops f10r13)
  (.keep [8, 9, 10, 12, 13, 14, 15, 16, 24, 25, 26, 32] (.cond (.tmp 32) .skip (.exit 2))))
  (.keep [8, 9, 10, 12, 13, 14, 15, 16, 24, 25, 26] (.seq (.block 3 (.seq (.seq (.ops f10r14)
  (.keep [8, 9, 10, 12, 13, 14, 15, 16, 24, 25, 26, 39] (.cond (.tmp 39) (.keep [8, 9, 10, 12, 15, 16, 24, 25, 26] (.ops f10r15)) .skip)))
  (.keep [8, 9, 10, 12, 13, 14, 15, 16, 24, 25, 26] (.seq (.seq (.ops f10r16)
  (.keep [8, 9, 10, 12, 13, 14, 15, 16, 24, 25, 26, 47] (.cond (.tmp 47) (.exit 2) .skip)))
  (.keep [8, 9, 10, 12, 13, 14, 15, 16, 24, 25, 26] (.alt [(f10r17, [(0, 1, false), (0, 0, false), (0, 0, false), (0, 1, false), (0, 1, false), (0, 0, true), (1, 1, false), (1, 1, false), (1, 1, false)])]))))))
  (.keep [8, 9, 10, 12, 13, 14, 15, 16, 24, 25, 26] (.ops f10r18)))))

def f10r20 : List AInstr := [
    ⟨(some 56), none, .mov (.tmp 9)⟩,
    ⟨(some 57), none, .mov (.tmp 13)⟩,
    ⟨(some 58), none, .buildSlice 1 1 [.int .i64 0] [(0, 1, (.tmp 57))]⟩,
    ⟨(some 59), none, .append 1 8 (.tmp 56) (.tmp 58)⟩,
    ⟨(some 60), none, .mov (.tmp 10)⟩,
    ⟨(some 61), none, .mov (.tmp 14)⟩,
    ⟨(some 62), none, .buildSlice 1 1 [.bool false] [(0, 1, (.tmp 61))]⟩,
    ⟨(some 63), none, .append 1 1 (.tmp 60) (.tmp 62)⟩,
    ⟨(some 9), none, .mov (.tmp 59)⟩,
    ⟨(some 10), none, .mov (.tmp 63)⟩]

def f10r21 : List AInstr := [
    ⟨(some 64), none, .ibin .add (.tmp 26) (.const (.int .i64 1))⟩,
    ⟨(some 26), none, .mov (.tmp 64)⟩]

/-- live: [8, 9, 10, 24, 25, 26] -/
def f10l1 : ACode := (.seq (.ops f10r8)
  (.keep [8, 9, 10, 24, 25, 26, 27] (.seq (.cond (.tmp 27) .skip (.exit 0))
  (.keep [8, 9, 10, 24, 25, 26] (.seq (.block 1 (.seq (.ops f10r9)
  (.keep [8, 9, 10, 12, 24, 25, 26] (.seq (.ops f10r10)
  (.keep [8, 9, 10, 12, 13, 14, 24, 25, 26] (.seq (.ops f10r11)
  (.keep [8, 9, 10, 12, 13, 14, 15, 24, 25, 26] (.seq (.seq (.ops f10r12)
  (.keep [8, 9, 10, 12, 13, 14, 15, 16, 24, 25, 26] (.block 2 (.loop f10l0))))
  (.keep [8, 9, 10, 13, 14, 24, 25, 26] (.ops f10r20))))))))))
  (.keep [8, 9, 10, 24, 25, 26] (.ops f10r21)))))))

def f10r23 : List AInstr := [
    ⟨(some 65), none, .mov (.tmp 9)⟩,
    ⟨(some 66), none, .mov (.tmp 10)⟩,
    ⟨(some 4), none, .mov (.tmp 65)⟩,
    ⟨(some 5), none, .mov (.tmp 66)⟩,
    ⟨(some 6), none, .mov (.const (.int .i64 0))⟩]

def f10b : ACode := (.seq (.ops f10r0)
  (.keep [0, 1] (.seq (.seq (.ops f10r1)
  (.keep [0, 1, 7] (.seq (.ops f10r2)
  (.keep [0, 1, 7, 20] (.cond (.tmp 20) (.keep [7] (.seq (.ops f10r3)
  (.keep [4, 5, 6] .ret))) .skip)))))
  (.keep [0, 1] (.seq (.ops f10r4)
  (.keep [1, 8] (.seq (.ops f10r5)
  (.keep [1, 8, 9] (.seq (.ops f10r6)
  (.keep [1, 8, 9, 10] (.seq (.seq (.ops f10r7)
  (.keep [8, 9, 10, 24, 25, 26] (.block 0 (.loop f10l1))))
  (.keep [9, 10] (.seq (.ops f10r23)
  (.keep [4, 5, 6] .ret))))))))))))))

def f10 : AFn := ⟨67, [.tmp 4, .tmp 5, .tmp 6], f10b⟩

theorem f10_ok : compFn Try.prog 10 = some f10.strip := by kernel_rfl

/- function 11: weirhouse/trie.Wrong; parameters 1; operations that are not compiled: 0 -/
def f11r0 : List AInstr := [
    ⟨(some 2), none, .mov (.const (.int .i64 0))⟩]

def f11r1 : List AInstr := [
    ⟨(some 8), none, .mov (.tmp 0)⟩,
    ⟨(some 9), none, .len (.tmp 8)⟩,
    ⟨(some 10), none, .ibin .gtr (.tmp 9) (.const (.int .i64 400))⟩]

def f11r2 : List AInstr := [
    ⟨(some 2), none, .mov (.const (.int .i64 2))⟩]

def f11r3 : List AInstr := [
    ⟨(some 11), none, .mov (.tmp 0)⟩,
    ⟨(some 12), none, .len (.tmp 11)⟩,
    ⟨(some 13), none, .mov (.const (.int .i64 0))⟩]

def f11r4 : List AInstr := [
    ⟨(some 14), none, .ibin .lss (.tmp 13) (.tmp 12)⟩]

def f11r5 : List AInstr := [
    ⟨(some 15), none, .mov (.tmp 13)⟩,
    ⟨(some 16), none, .indexAddr 6 (.tmp 11) (.tmp 13)⟩,
    ⟨(some 17), none, .load (some 6) (.tmp 16)⟩,
    ⟨(some 4), none, .alloc [.int .u8 0, .int .u8 0, .int .u8 0, .int .u8 0, .int .i64 0, .int .i64 0]⟩,
    ⟨(some 3), none, .mov (.tmp 15)⟩,
    ⟨none, none, .store 6 (.tmp 4) (.tmp 17)⟩]

def f11r6 : List AInstr := [
    ⟨(some 18), none, .fieldAddr 4 (.tmp 4)⟩,
    ⟨(some 19), none, .load none (.tmp 18)⟩,
    ⟨(some 20), none, .ibin .lss (.tmp 19) (.const (.int .i64 0))⟩,
    ⟨(some 21), none, .mov (.tmp 20)⟩,
    ⟨(some 22), (some (21, false)), .fieldAddr 4 (.tmp 4)⟩,
    ⟨(some 23), (some (21, false)), .load none (.tmp 22)⟩,
    ⟨(some 24), (some (21, false)), .ibin .gtr (.tmp 23) (.const (.int .i64 32))⟩,
    ⟨(some 25), none, .pick (.tmp 21) (.const (.bool true)) (.tmp 24)⟩]

def f11r7 : List AInstr := [
    ⟨(some 2), none, .mov (.const (.int .i64 2))⟩]

def f11r8 : List AInstr := [
    ⟨(some 26), none, .fieldAddr 4 (.tmp 4)⟩,
    ⟨(some 27), none, .load none (.tmp 26)⟩,
    ⟨(some 5), none, .mov (.tmp 27)⟩]

def f11r9 : List AInstr := [
    ⟨(some 28), none, .mov (.tmp 5)⟩,
    ⟨(some 29), none, .ibin .lss (.tmp 28) (.const (.int .i64 32))⟩]

def f11r10 : List AInstr := [
    ⟨(some 32), none, .fieldAddr 0 (.tmp 4)⟩,
    ⟨(some 33), none, .load (some 4) (.tmp 32)⟩,
    ⟨(some 34), none, .mov (.tmp 5)⟩,
    ⟨(some 35), none, .callF 19 [.tmp 33, .tmp 34]⟩,
    ⟨(some 36), none, .ibin .eql (.tmp 35) (.const (.int .u8 1))⟩]

def f11r11 : List AInstr := [
    ⟨(some 2), none, .mov (.const (.int .i64 1))⟩]

def f11r12 : List AInstr := [
    ⟨(some 30), none, .mov (.tmp 5)⟩,
    ⟨(some 31), none, .ibin .add (.tmp 30) (.const (.int .i64 1))⟩,
    ⟨(some 5), none, .mov (.tmp 31)⟩]

/-- live: [0, 3, 4, 5, 11, 12, 13] -/
def f11l0 : ACode := (.seq (.seq (.ops f11r9)
  (.keep [0, 3, 4, 5, 11, 12, 13, 29] (.cond (.tmp 29) .skip (.exit 2))))
  (.keep [0, 3, 4, 5, 11, 12, 13] (.seq (.block 3 (.seq (.ops f11r10)
  (.keep [0, 3, 4, 5, 11, 12, 13, 36] (.cond (.tmp 36) (.keep [] (.seq (.ops f11r11)
  (.keep [2] .ret))) .skip))))
  (.keep [0, 3, 4, 5, 11, 12, 13] (.ops f11r12)))))

def f11r14 : List AInstr := [
    ⟨(some 37), none, .mov (.tmp 0)⟩,
    ⟨(some 38), none, .mov (.tmp 3)⟩,
    ⟨(some 39), none, .slice 6 (.tmp 37) none (some (.tmp 38)) none⟩,
    ⟨(some 40), none, .len (.tmp 39)⟩,
    ⟨(some 41), none, .mov (.const (.int .i64 0))⟩]

def f11r15 : List AInstr := [
    ⟨(some 42), none, .ibin .lss (.tmp 41) (.tmp 40)⟩]

def f11r16 : List AInstr := [
    ⟨(some 43), none, .indexAddr 6 (.tmp 39) (.tmp 41)⟩,
    ⟨(some 44), none, .load (some 6) (.tmp 43)⟩,
    ⟨(some 7), none, .alloc [.int .u8 0, .int .u8 0, .int .u8 0, .int .u8 0, .int .i64 0, .int .i64 0]⟩,
    ⟨none, none, .store 6 (.tmp 7) (.tmp 44)⟩]

def f11r17 : List AInstr := [
    ⟨(some 45), none, .fieldAddr 4 (.tmp 7)⟩,
    ⟨(some 46), none, .load none (.tmp 45)⟩,
    ⟨(some 47), none, .fieldAddr 4 (.tmp 4)⟩,
    ⟨(some 48), none, .load none (.tmp 47)⟩,
    ⟨(some 49), none, .ibin .eql (.tmp 46) (.tmp 48)⟩,
    ⟨(some 50), none, .mov (.tmp 49)⟩,
    ⟨(some 51), (some (50, true)), .fieldAddr 0 (.tmp 7)⟩,
    ⟨(some 52), (some (50, true)), .load (some 4) (.tmp 51)⟩,
    ⟨(some 53), (some (50, true)), .fieldAddr 0 (.tmp 4)⟩,
    ⟨(some 54), (some (50, true)), .load (some 4) (.tmp 53)⟩,
    ⟨(some 55), (some (50, true)), .eqA false [false, false, false, false] (.tmp 52) (.tmp 54)⟩,
    ⟨(some 56), none, .pick (.tmp 50) (.tmp 55) (.const (.bool false))⟩]

def f11r18 : List AInstr := [
    ⟨(some 2), none, .mov (.const (.int .i64 6))⟩]

def f11r19 : List AInstr := [
    ⟨(some 57), none, .ibin .add (.tmp 41) (.const (.int .i64 1))⟩,
    ⟨(some 41), none, .mov (.tmp 57)⟩]

/-- live: [0, 4, 11, 12, 13, 39, 40, 41] -/
def f11l1 : ACode := (.seq (.ops f11r15)
  (.keep [0, 4, 11, 12, 13, 39, 40, 41, 42] (.seq (.cond (.tmp 42) .skip (.exit 4))
  (.keep [0, 4, 11, 12, 13, 39, 40, 41] (.seq (.block 5 (.seq (.ops f11r16)
  (.keep [0, 4, 7, 11, 12, 13, 39, 40, 41] (.seq (.ops f11r17)
  (.keep [0, 4, 11, 12, 13, 39, 40, 41, 56] (.cond (.tmp 56) (.keep [] (.seq (.ops f11r18)
  (.keep [2] .ret))) .skip))))))
  (.keep [0, 4, 11, 12, 13, 39, 40, 41] (.ops f11r19)))))))

def f11r21 : List AInstr := [
    ⟨(some 58), none, .ibin .add (.tmp 13) (.const (.int .i64 1))⟩,
    ⟨(some 13), none, .mov (.tmp 58)⟩]

/-- live: [0, 11, 12, 13] -/
def f11l2 : ACode := (.seq (.ops f11r4)
  (.keep [0, 11, 12, 13, 14] (.seq (.cond (.tmp 14) .skip (.exit 0))
  (.keep [0, 11, 12, 13] (.seq (.block 1 (.seq (.ops f11r5)
  (.keep [0, 3, 4, 11, 12, 13] (.seq (.seq (.ops f11r6)
  (.keep [0, 3, 4, 11, 12, 13, 25] (.cond (.tmp 25) (.keep [] (.seq (.ops f11r7)
  (.keep [2] .ret))) .skip)))
  (.keep [0, 3, 4, 11, 12, 13] (.seq (.seq (.ops f11r8)
  (.keep [0, 3, 4, 5, 11, 12, 13] (.block 2 (.loop f11l0))))
  (.keep [0, 3, 4, 11, 12, 13] (.seq (.ops f11r14)
  (.keep [0, 4, 11, 12, 13, 39, 40, 41] (.block 4 (.loop f11l1)))))))))))
  (.keep [0, 11, 12, 13] (.ops f11r21)))))))

def f11r23 : List AInstr := [
    ⟨(some 2), none, .mov (.const (.int .i64 0))⟩]

def f11b : ACode := (.seq (.ops f11r0)
  (.keep [0] (.seq (.seq (.ops f11r1)
  (.keep [0, 10] (.cond (.tmp 10) (.keep [] (.seq (.ops f11r2)
  (.keep [2] .ret))) .skip)))
  (.keep [0] (.seq (.seq (.ops f11r3)
  (.keep [0, 11, 12, 13] (.block 0 (.loop f11l2))))
  (.keep [] (.seq (.ops f11r23)
  (.keep [2] .ret))))))))

def f11 : AFn := ⟨59, [.tmp 2], f11b⟩

theorem f11_ok : compFn Try.prog 11 = some f11.strip := by kernel_rfl

/- function 12: weirhouse/trie.Within; parameters 2; operations that are not compiled: 0 -/
def f12r0 : List AInstr := [
    ⟨(some 2), none, .box (.tmp 0)⟩,
    ⟨(some 3), none, .box (.tmp 1)⟩,
    ⟨(some 4), none, .mov (.const (.bool false))⟩]

def f12r1 : List AInstr := [
    ⟨(some 6), none, .fieldAddr 4 (.tmp 3)⟩,
    ⟨(some 7), none, .load none (.tmp 6)⟩,
    ⟨(some 8), none, .ibin .lss (.tmp 7) (.const (.int .i64 0))⟩,
    ⟨(some 9), none, .mov (.tmp 8)⟩,
    ⟨(some 10), (some (9, false)), .fieldAddr 4 (.tmp 3)⟩,
    ⟨(some 11), (some (9, false)), .load none (.tmp 10)⟩,
    ⟨(some 12), (some (9, false)), .ibin .gtr (.tmp 11) (.const (.int .i64 32))⟩,
    ⟨(some 13), none, .pick (.tmp 9) (.const (.bool true)) (.tmp 12)⟩]

def f12r2 : List AInstr := [
    ⟨(some 4), none, .mov (.const (.bool false))⟩]

def f12r3 : List AInstr := [
    ⟨(some 14), none, .fieldAddr 4 (.tmp 3)⟩,
    ⟨(some 15), none, .load none (.tmp 14)⟩,
    ⟨(some 16), none, .mov (.const (.int .i64 0))⟩]

def f12r4 : List AInstr := [
    ⟨(some 17), none, .ibin .lss (.tmp 16) (.tmp 15)⟩]

def f12r5 : List AInstr := [
    ⟨(some 18), none, .mov (.tmp 16)⟩,
    ⟨(some 5), none, .mov (.tmp 18)⟩]

def f12r6 : List AInstr := [
    ⟨(some 19), none, .load (some 4) (.tmp 2)⟩,
    ⟨(some 20), none, .mov (.tmp 5)⟩,
    ⟨(some 22), none, .fieldAddr 0 (.tmp 3)⟩,
    ⟨(some 23), none, .load (some 4) (.tmp 22)⟩,
    ⟨(some 24), none, .mov (.tmp 5)⟩,
    ⟨(some 21), none, .callF 19 [.tmp 19, .tmp 20]⟩,
    ⟨(some 25), none, .callF 19 [.tmp 23, .tmp 24]⟩,
    ⟨(some 26), none, .ibin .neq (.tmp 21) (.tmp 25)⟩]

def f12r7 : List AInstr := [
    ⟨(some 4), none, .mov (.const (.bool false))⟩]

def f12r8 : List AInstr := [
    ⟨(some 27), none, .ibin .add (.tmp 16) (.const (.int .i64 1))⟩,
    ⟨(some 16), none, .mov (.tmp 27)⟩]

/-- live: [2, 3, 15, 16] -/
def f12l0 : ACode := (.seq (.ops f12r4)
  (.keep [2, 3, 15, 16, 17] (.seq (.cond (.tmp 17) .skip (.exit 0))
  (.keep [2, 3, 15, 16] (.seq (.block 1 (.seq (.ops f12r5)
  (.keep [2, 3, 5, 15, 16] (.seq (.alt [(f12r6, [(0, 0, false), (0, 0, false), (0, 1, false), (0, 1, false), (0, 1, false), (0, 0, true), (1, 0, true), (2, 2, false)])])
  (.keep [2, 3, 15, 16, 26] (.cond (.tmp 26) (.keep [] (.seq (.ops f12r7)
  (.keep [4] .ret))) .skip))))))
  (.keep [2, 3, 15, 16] (.ops f12r8)))))))

def f12r10 : List AInstr := [
    ⟨(some 4), none, .mov (.const (.bool true))⟩]

def f12b : ACode := (.seq (.ops f12r0)
  (.keep [2, 3] (.seq (.seq (.ops f12r1)
  (.keep [2, 3, 13] (.cond (.tmp 13) (.keep [] (.seq (.ops f12r2)
  (.keep [4] .ret))) .skip)))
  (.keep [2, 3] (.seq (.seq (.ops f12r3)
  (.keep [2, 3, 15, 16] (.block 0 (.loop f12l0))))
  (.keep [] (.seq (.ops f12r10)
  (.keep [4] .ret))))))))

def f12 : AFn := ⟨28, [.tmp 4], f12b⟩

theorem f12_ok : compFn Try.prog 12 = some f12.strip := by kernel_rfl

/- function 13: slices.Reverse[[]weirhouse/api.Prefix,weirhouse/api.Prefix]; parameters 1; operations that are not compiled: 0 -/
def f13r0 : List AInstr := [
    ⟨(some 4), none, .mov (.tmp 0)⟩,
    ⟨(some 5), none, .len (.tmp 4)⟩,
    ⟨(some 6), none, .ibin .sub (.tmp 5) (.const (.int .i64 1))⟩,
    ⟨(some 2), none, .mov (.const (.int .i64 0))⟩,
    ⟨(some 3), none, .mov (.tmp 6)⟩]

def f13r1 : List AInstr := [
    ⟨(some 7), none, .mov (.tmp 2)⟩,
    ⟨(some 8), none, .mov (.tmp 3)⟩,
    ⟨(some 9), none, .ibin .lss (.tmp 7) (.tmp 8)⟩]

def f13r2 : List AInstr := [
    ⟨(some 14), none, .mov (.tmp 0)⟩,
    ⟨(some 15), none, .mov (.tmp 2)⟩,
    ⟨(some 16), none, .mov (.tmp 0)⟩,
    ⟨(some 17), none, .mov (.tmp 3)⟩,
    ⟨(some 18), none, .mov (.tmp 0)⟩,
    ⟨(some 19), none, .mov (.tmp 3)⟩,
    ⟨(some 20), none, .indexAddr 6 (.tmp 18) (.tmp 19)⟩,
    ⟨(some 21), none, .load (some 6) (.tmp 20)⟩,
    ⟨(some 22), none, .mov (.tmp 0)⟩,
    ⟨(some 23), none, .mov (.tmp 2)⟩,
    ⟨(some 24), none, .indexAddr 6 (.tmp 22) (.tmp 23)⟩,
    ⟨(some 25), none, .load (some 6) (.tmp 24)⟩,
    ⟨(some 26), none, .indexAddr 6 (.tmp 14) (.tmp 15)⟩,
    ⟨none, none, .store 6 (.tmp 26) (.tmp 21)⟩,
    ⟨(some 27), none, .indexAddr 6 (.tmp 16) (.tmp 17)⟩,
    ⟨none, none, .store 6 (.tmp 27) (.tmp 25)⟩]

def f13r3 : List AInstr := [
    ⟨(some 10), none, .mov (.tmp 2)⟩,
    ⟨(some 11), none, .ibin .add (.tmp 10) (.const (.int .i64 1))⟩,
    ⟨(some 12), none, .mov (.tmp 3)⟩,
    ⟨(some 13), none, .ibin .sub (.tmp 12) (.const (.int .i64 1))⟩,
    ⟨(some 2), none, .mov (.tmp 11)⟩,
    ⟨(some 3), none, .mov (.tmp 13)⟩]

/-- live: [0, 2, 3] -/
def f13l0 : ACode := (.seq (.seq (.ops f13r1)
  (.keep [0, 2, 3, 9] (.cond (.tmp 9) .skip (.exit 0))))
  (.keep [0, 2, 3] (.seq (.block 1 (.draw f13r2 [(0, 0, false), (0, 0, false), (0, 1, false), (0, 1, false), (0, 0, false), (0, 0, false), (0, 0, false), (0, 0, false), (0, 0, false), (0, 0, false), (0, 0, false), (0, 0, false), (0, 0, false), (0, 0, true), (1, 1, false), (1, 0, true)]))
  (.keep [0, 2, 3] (.ops f13r3)))))

def f13b : ACode := (.seq (.ops f13r0)
  (.keep [0, 2, 3] (.block 0 (.loop f13l0))))

def f13 : AFn := ⟨28, [], f13b⟩

theorem f13_ok : compFn Try.prog 13 = some f13.strip := by kernel_rfl

/- function 14: slices.Equal[[]int,int]; parameters 2; operations that are not compiled: 0 -/
def f14r0 : List AInstr := [
    ⟨(some 4), none, .mov (.const (.bool false))⟩]

def f14r1 : List AInstr := [
    ⟨(some 6), none, .mov (.tmp 0)⟩,
    ⟨(some 7), none, .len (.tmp 6)⟩,
    ⟨(some 8), none, .mov (.tmp 1)⟩,
    ⟨(some 9), none, .len (.tmp 8)⟩,
    ⟨(some 10), none, .ibin .neq (.tmp 7) (.tmp 9)⟩]

def f14r2 : List AInstr := [
    ⟨(some 4), none, .mov (.const (.bool false))⟩]

def f14r3 : List AInstr := [
    ⟨(some 11), none, .mov (.tmp 0)⟩,
    ⟨(some 12), none, .len (.tmp 11)⟩,
    ⟨(some 13), none, .mov (.const (.int .i64 0))⟩]

def f14r4 : List AInstr := [
    ⟨(some 14), none, .ibin .lss (.tmp 13) (.tmp 12)⟩]

def f14r5 : List AInstr := [
    ⟨(some 15), none, .mov (.tmp 13)⟩,
    ⟨(some 5), none, .mov (.tmp 15)⟩]

def f14r6 : List AInstr := [
    ⟨(some 16), none, .mov (.tmp 0)⟩,
    ⟨(some 17), none, .mov (.tmp 5)⟩,
    ⟨(some 18), none, .indexAddr 1 (.tmp 16) (.tmp 17)⟩,
    ⟨(some 19), none, .load none (.tmp 18)⟩,
    ⟨(some 20), none, .mov (.tmp 1)⟩,
    ⟨(some 21), none, .mov (.tmp 5)⟩,
    ⟨(some 22), none, .indexAddr 1 (.tmp 20) (.tmp 21)⟩,
    ⟨(some 23), none, .load none (.tmp 22)⟩,
    ⟨(some 24), none, .ibin .neq (.tmp 19) (.tmp 23)⟩]

def f14r7 : List AInstr := [
    ⟨(some 4), none, .mov (.const (.bool false))⟩]

def f14r8 : List AInstr := [
    ⟨(some 25), none, .ibin .add (.tmp 13) (.const (.int .i64 1))⟩,
    ⟨(some 13), none, .mov (.tmp 25)⟩]

/-- live: [0, 1, 12, 13] -/
def f14l0 : ACode := (.seq (.ops f14r4)
  (.keep [0, 1, 12, 13, 14] (.seq (.cond (.tmp 14) .skip (.exit 0))
  (.keep [0, 1, 12, 13] (.seq (.block 1 (.seq (.ops f14r5)
  (.keep [0, 1, 5, 12, 13] (.seq (.draw f14r6 [(0, 0, false), (0, 0, false), (0, 0, false), (0, 0, false), (0, 0, false), (0, 0, false), (0, 0, false), (0, 0, false), (0, 0, false)])
  (.keep [0, 1, 12, 13, 24] (.cond (.tmp 24) (.keep [] (.seq (.ops f14r7)
  (.keep [4] .ret))) .skip))))))
  (.keep [0, 1, 12, 13] (.ops f14r8)))))))

def f14r10 : List AInstr := [
    ⟨(some 4), none, .mov (.const (.bool true))⟩]

def f14b : ACode := (.seq (.ops f14r0)
  (.keep [0, 1] (.seq (.seq (.ops f14r1)
  (.keep [0, 1, 10] (.cond (.tmp 10) (.keep [] (.seq (.ops f14r2)
  (.keep [4] .ret))) .skip)))
  (.keep [0, 1] (.seq (.seq (.ops f14r3)
  (.keep [0, 1, 12, 13] (.block 0 (.loop f14l0))))
  (.keep [] (.seq (.ops f14r10)
  (.keep [4] .ret))))))))

def f14 : AFn := ⟨26, [.tmp 4], f14b⟩

theorem f14_ok : compFn Try.prog 14 = some f14.strip := by kernel_rfl

/- function 15: slices.Equal[[]bool,bool]; parameters 2; operations that are not compiled: 0 -/
def f15r0 : List AInstr := [
    ⟨(some 4), none, .mov (.const (.bool false))⟩]

def f15r1 : List AInstr := [
    ⟨(some 6), none, .mov (.tmp 0)⟩,
    ⟨(some 7), none, .len (.tmp 6)⟩,
    ⟨(some 8), none, .mov (.tmp 1)⟩,
    ⟨(some 9), none, .len (.tmp 8)⟩,
    ⟨(some 10), none, .ibin .neq (.tmp 7) (.tmp 9)⟩]

def f15r2 : List AInstr := [
    ⟨(some 4), none, .mov (.const (.bool false))⟩]

def f15r3 : List AInstr := [
    ⟨(some 11), none, .mov (.tmp 0)⟩,
    ⟨(some 12), none, .len (.tmp 11)⟩,
    ⟨(some 13), none, .mov (.const (.int .i64 0))⟩]

def f15r4 : List AInstr := [
    ⟨(some 14), none, .ibin .lss (.tmp 13) (.tmp 12)⟩]

def f15r5 : List AInstr := [
    ⟨(some 15), none, .mov (.tmp 13)⟩,
    ⟨(some 5), none, .mov (.tmp 15)⟩]

def f15r6 : List AInstr := [
    ⟨(some 16), none, .mov (.tmp 0)⟩,
    ⟨(some 17), none, .mov (.tmp 5)⟩,
    ⟨(some 18), none, .indexAddr 1 (.tmp 16) (.tmp 17)⟩,
    ⟨(some 19), none, .load none (.tmp 18)⟩,
    ⟨(some 20), none, .mov (.tmp 1)⟩,
    ⟨(some 21), none, .mov (.tmp 5)⟩,
    ⟨(some 22), none, .indexAddr 1 (.tmp 20) (.tmp 21)⟩,
    ⟨(some 23), none, .load none (.tmp 22)⟩,
    ⟨(some 24), none, .eqB true (.tmp 19) (.tmp 23)⟩]

def f15r7 : List AInstr := [
    ⟨(some 4), none, .mov (.const (.bool false))⟩]

def f15r8 : List AInstr := [
    ⟨(some 25), none, .ibin .add (.tmp 13) (.const (.int .i64 1))⟩,
    ⟨(some 13), none, .mov (.tmp 25)⟩]

/-- live: [0, 1, 12, 13] -/
def f15l0 : ACode := (.seq (.ops f15r4)
  (.keep [0, 1, 12, 13, 14] (.seq (.cond (.tmp 14) .skip (.exit 0))
  (.keep [0, 1, 12, 13] (.seq (.block 1 (.seq (.ops f15r5)
  (.keep [0, 1, 5, 12, 13] (.seq (.draw f15r6 [(0, 0, false), (0, 0, false), (0, 0, false), (0, 0, false), (0, 0, false), (0, 0, false), (0, 0, false), (0, 0, false), (0, 0, false)])
  (.keep [0, 1, 12, 13, 24] (.cond (.tmp 24) (.keep [] (.seq (.ops f15r7)
  (.keep [4] .ret))) .skip))))))
  (.keep [0, 1, 12, 13] (.ops f15r8)))))))

def f15r10 : List AInstr := [
    ⟨(some 4), none, .mov (.const (.bool true))⟩]

def f15b : ACode := (.seq (.ops f15r0)
  (.keep [0, 1] (.seq (.seq (.ops f15r1)
  (.keep [0, 1, 10] (.cond (.tmp 10) (.keep [] (.seq (.ops f15r2)
  (.keep [4] .ret))) .skip)))
  (.keep [0, 1] (.seq (.seq (.ops f15r3)
  (.keep [0, 1, 12, 13] (.block 0 (.loop f15l0))))
  (.keep [] (.seq (.ops f15r10)
  (.keep [4] .ret))))))))

def f15 : AFn := ⟨26, [.tmp 4], f15b⟩

theorem f15_ok : compFn Try.prog 15 = some f15.strip := by kernel_rfl

/- function 16: slices.ContainsFunc[[]weirhouse/api.Prefix,weirhouse/api.Prefix]; parameters 2; operations that are not compiled: 0 -/
def f16r0 : List AInstr := [
    ⟨(some 4), none, .mov (.const (.bool false))⟩]

def f16r1 : List AInstr := [
    ⟨(some 5), none, .mov (.tmp 0)⟩,
    ⟨(some 6), none, .mov (.tmp 1)⟩,
    ⟨(some 7), none, .callF 20 [.tmp 5, .tmp 6]⟩,
    ⟨(some 8), none, .ibin .geq (.tmp 7) (.const (.int .i64 0))⟩,
    ⟨(some 4), none, .mov (.tmp 8)⟩]

def f16b : ACode := (.seq (.ops f16r0)
  (.keep [0, 1] (.seq (.ops f16r1)
  (.keep [4] .ret))))

def f16 : AFn := ⟨9, [.tmp 4], f16b⟩

theorem f16_ok : compFn Try.prog 16 = some f16.strip := by kernel_rfl

/- function 17: weirhouse/weirhousekeep.TrieLongest$1; parameters 1; operations that are not compiled: 0 -/
def f17r0 : List AInstr := [
    ⟨(some 4), none, .box (.tmp 0)⟩,
    ⟨(some 5), none, .mov (.const (.bool false))⟩]

def f17r1 : List AInstr := [
    ⟨(some 6), none, .fieldAddr 4 (.tmp 4)⟩,
    ⟨(some 7), none, .load none (.tmp 6)⟩,
    ⟨(some 8), none, .load none (.tmp 1)⟩,
    ⟨(some 9), none, .ibin .eql (.tmp 7) (.tmp 8)⟩,
    ⟨(some 10), none, .mov (.tmp 9)⟩,
    ⟨(some 11), (some (10, true)), .fieldAddr 5 (.tmp 4)⟩,
    ⟨(some 12), (some (10, true)), .load none (.tmp 11)⟩,
    ⟨(some 13), (some (10, true)), .load none (.tmp 2)⟩,
    ⟨(some 14), (some (10, true)), .indexAddr 1 (.tmp 13) (.const (.int .i64 0))⟩,
    ⟨(some 15), (some (10, true)), .load none (.tmp 14)⟩,
    ⟨(some 16), (some (10, true)), .ibin .eql (.tmp 12) (.tmp 15)⟩,
    ⟨(some 17), none, .pick (.tmp 10) (.tmp 16) (.const (.bool false))⟩,
    ⟨(some 18), none, .mov (.tmp 17)⟩,
    ⟨(some 19), (some (18, true)), .load (some 4) (.tmp 3)⟩,
    ⟨(some 20), (some (18, true)), .load (some 6) (.tmp 4)⟩,
    ⟨(some 21), (some (18, true)), .callF 12 [.tmp 19, .tmp 20]⟩,
    ⟨(some 22), none, .pick (.tmp 18) (.tmp 21) (.const (.bool false))⟩,
    ⟨(some 5), none, .mov (.tmp 22)⟩]

def f17b : ACode := (.seq (.ops f17r0)
  (.keep [1, 2, 3, 4] (.seq (.draw f17r1 [(0, 0, false), (0, 0, false), (0, 0, false), (0, 0, false), (0, 0, false), (0, 0, false), (0, 0, false), (0, 0, false), (0, 0, false), (0, 0, false), (0, 0, false), (0, 0, false), (0, 0, false), (0, 0, false), (0, 0, false), (0, 0, true), (1, 1, false), (1, 1, false)])
  (.keep [5] .ret))))

def f17 : AFn := ⟨23, [.tmp 5], f17b⟩

theorem f17_ok : compFn Try.prog 17 = some f17.strip := by kernel_rfl

/- function 18: weirhouse/trie.build; parameters 1; operations that are not compiled: 0 -/
def f18r0 : List AInstr := [
    ⟨(some 2), none, .mov (.const (.pointer none))⟩]

def f18r1 : List AInstr := [
    ⟨(some 10), none, .build [.pointer none, .pointer none, .pointer none] []⟩,
    ⟨(some 11), none, .box (.tmp 10)⟩,
    ⟨(some 3), none, .mov (.tmp 11)⟩]

def f18r2 : List AInstr := [
    ⟨(some 12), none, .mov (.tmp 0)⟩,
    ⟨(some 13), none, .len (.tmp 12)⟩,
    ⟨(some 14), none, .mov (.const (.int .i64 0))⟩]

def f18r3 : List AInstr := [
    ⟨(some 15), none, .ibin .lss (.tmp 14) (.tmp 13)⟩]

def f18r4 : List AInstr := [
    ⟨(some 16), none, .indexAddr 6 (.tmp 12) (.tmp 14)⟩,
    ⟨(some 17), none, .load (some 6) (.tmp 16)⟩,
    ⟨(some 5), none, .alloc [.int .u8 0, .int .u8 0, .int .u8 0, .int .u8 0, .int .i64 0, .int .i64 0]⟩,
    ⟨none, none, .store 6 (.tmp 5) (.tmp 17)⟩]

def f18r5 : List AInstr := [
    ⟨(some 18), none, .mov (.tmp 3)⟩,
    ⟨(some 6), none, .mov (.tmp 18)⟩]

def f18r6 : List AInstr := [
    ⟨(some 19), none, .fieldAddr 4 (.tmp 5)⟩,
    ⟨(some 20), none, .load none (.tmp 19)⟩,
    ⟨(some 21), none, .mov (.const (.int .i64 0))⟩]

def f18r7 : List AInstr := [
    ⟨(some 22), none, .ibin .lss (.tmp 21) (.tmp 20)⟩]

def f18r8 : List AInstr := [
    ⟨(some 23), none, .mov (.tmp 21)⟩,
    ⟨(some 7), none, .mov (.tmp 23)⟩]

def f18r9 : List AInstr := [
    ⟨(some 24), none, .fieldAddr 0 (.tmp 5)⟩,
    ⟨(some 25), none, .load (some 4) (.tmp 24)⟩,
    ⟨(some 26), none, .mov (.tmp 7)⟩,
    ⟨(some 27), none, .callF 19 [.tmp 25, .tmp 26]⟩,
    ⟨(some 8), none, .mov (.tmp 27)⟩]

def f18r10 : List AInstr := [
    ⟨(some 28), none, .mov (.tmp 6)⟩,
    ⟨(some 29), none, .mov (.tmp 8)⟩,
    ⟨(some 30), none, .nilCheck (.tmp 28)⟩,
    ⟨(some 31), none, .fieldAddr 0 (.tmp 30)⟩,
    ⟨(some 32), none, .indexArr 1 2 (.tmp 31) (.tmp 29)⟩,
    ⟨(some 33), none, .load none (.tmp 32)⟩,
    ⟨(some 34), none, .eqP false (.tmp 33) (.const (.pointer none))⟩]

def f18r11 : List AInstr := [
    ⟨(some 35), none, .mov (.tmp 6)⟩,
    ⟨(some 36), none, .mov (.tmp 8)⟩,
    ⟨(some 37), none, .build [.pointer none, .pointer none, .pointer none] []⟩,
    ⟨(some 38), none, .box (.tmp 37)⟩,
    ⟨(some 39), none, .nilCheck (.tmp 35)⟩,
    ⟨(some 40), none, .fieldAddr 0 (.tmp 39)⟩,
    ⟨(some 41), none, .indexArr 1 2 (.tmp 40) (.tmp 36)⟩,
    ⟨none, none, .store 1 (.tmp 41) (.tmp 38)⟩]

def f18r12 : List AInstr := [
    ⟨(some 42), none, .mov (.tmp 6)⟩,
    ⟨(some 43), none, .mov (.tmp 8)⟩,
    ⟨(some 44), none, .nilCheck (.tmp 42)⟩,
    ⟨(some 45), none, .fieldAddr 0 (.tmp 44)⟩,
    ⟨(some 46), none, .indexArr 1 2 (.tmp 45) (.tmp 43)⟩,
    ⟨(some 47), none, .load none (.tmp 46)⟩,
    ⟨(some 6), none, .mov (.tmp 47)⟩]

def f18r13 : List AInstr := [
    ⟨(some 48), none, .ibin .add (.tmp 21) (.const (.int .i64 1))⟩,
    ⟨(some 21), none, .mov (.tmp 48)⟩]

/-- live: [3, 5, 6, 12, 13, 14, 20, 21] -/
def f18l0 : ACode := (.seq (.ops f18r7)
  (.keep [3, 5, 6, 12, 13, 14, 20, 21, 22] (.seq (.cond (.tmp 22) .skip (.exit 2))
  (.keep [3, 5, 6, 12, 13, 14, 20, 21] (.seq (.block 3 (.seq (.ops f18r8)
  (.keep [3, 5, 6, 7, 12, 13, 14, 20, 21] (.seq (.ops f18r9)
  (.keep [3, 5, 6, 8, 12, 13, 14, 20, 21] (.seq (.seq (.ops f18r10)
  (.keep [3, 5, 6, 8, 12, 13, 14, 20, 21, 34] (.cond (.tmp 34) (.keep [3, 5, 6, 8, 12, 13, 14, 20, 21] (.ops f18r11)) .skip)))
  (.keep [3, 5, 6, 8, 12, 13, 14, 20, 21] (.ops f18r12))))))))
  (.keep [3, 5, 6, 12, 13, 14, 20, 21] (.ops f18r13)))))))

def f18r15 : List AInstr := [
    ⟨(some 49), none, .fieldAddr 5 (.tmp 5)⟩,
    ⟨(some 50), none, .load none (.tmp 49)⟩,
    ⟨(some 9), none, .alloc [.int .i64 0]⟩,
    ⟨none, none, .store 1 (.tmp 9) (.tmp 50)⟩]

def f18r16 : List AInstr := [
    ⟨(some 51), none, .mov (.tmp 6)⟩,
    ⟨(some 52), none, .nilCheck (.tmp 51)⟩,
    ⟨(some 53), none, .fieldAddr 2 (.tmp 52)⟩,
    ⟨none, none, .store 1 (.tmp 53) (.tmp 9)⟩]

def f18r17 : List AInstr := [
    ⟨(some 54), none, .ibin .add (.tmp 14) (.const (.int .i64 1))⟩,
    ⟨(some 14), none, .mov (.tmp 54)⟩]

/-- live: [3, 12, 13, 14] -/
def f18l1 : ACode := (.seq (.ops f18r3)
  (.keep [3, 12, 13, 14, 15] (.seq (.cond (.tmp 15) .skip (.exit 0))
  (.keep [3, 12, 13, 14] (.seq (.block 1 (.seq (.ops f18r4)
  (.keep [3, 5, 12, 13, 14] (.seq (.ops f18r5)
  (.keep [3, 5, 6, 12, 13, 14] (.seq (.seq (.ops f18r6)
  (.keep [3, 5, 6, 12, 13, 14, 20, 21] (.block 2 (.loop f18l0))))
  (.keep [3, 5, 6, 12, 13, 14] (.seq (.ops f18r15)
  (.keep [3, 6, 9, 12, 13, 14] (.ops f18r16))))))))))
  (.keep [3, 12, 13, 14] (.ops f18r17)))))))

def f18r19 : List AInstr := [
    ⟨(some 55), none, .mov (.tmp 3)⟩,
    ⟨(some 2), none, .mov (.tmp 55)⟩]

def f18b : ACode := (.seq (.ops f18r0)
  (.keep [0] (.seq (.ops f18r1)
  (.keep [0, 3] (.seq (.seq (.ops f18r2)
  (.keep [3, 12, 13, 14] (.block 0 (.loop f18l1))))
  (.keep [3] (.seq (.ops f18r19)
  (.keep [2] .ret))))))))

def f18 : AFn := ⟨56, [.tmp 2], f18b⟩

theorem f18_ok : compFn Try.prog 18 = some f18.strip := by kernel_rfl

/- function 19: weirhouse/trie.bit; parameters 2; operations that are not compiled: 0 -/
def f19r0 : List AInstr := [
    ⟨(some 2), none, .box (.tmp 0)⟩,
    ⟨(some 4), none, .mov (.const (.int .u8 0))⟩]

def f19r1 : List AInstr := [
    ⟨(some 5), none, .mov (.tmp 1)⟩,
    ⟨(some 6), none, .ibin .quo (.tmp 5) (.const (.int .i64 8))⟩,
    ⟨(some 7), none, .indexArr 1 4 (.tmp 2) (.tmp 6)⟩,
    ⟨(some 8), none, .load none (.tmp 7)⟩,
    ⟨(some 9), none, .mov (.tmp 1)⟩,
    ⟨(some 10), none, .ibin .rem (.tmp 9) (.const (.int .i64 8))⟩,
    ⟨(some 11), none, .ibin .sub (.const (.int .i64 7)) (.tmp 10)⟩,
    ⟨(some 12), none, .ibin .shr (.tmp 8) (.tmp 11)⟩,
    ⟨(some 13), none, .ibin .and (.tmp 12) (.const (.int .u8 1))⟩,
    ⟨(some 4), none, .mov (.tmp 13)⟩]

def f19b : ACode := (.seq (.ops f19r0)
  (.keep [1, 2] (.seq (.ops f19r1)
  (.keep [4] .ret))))

def f19 : AFn := ⟨14, [.tmp 4], f19b⟩

theorem f19_ok : compFn Try.prog 19 = some f19.strip := by kernel_rfl

/- function 20: slices.IndexFunc[[]weirhouse/api.Prefix,weirhouse/api.Prefix]; parameters 2; operations that are not compiled: 0 -/
def f20r0 : List AInstr := [
    ⟨(some 4), none, .mov (.const (.int .i64 0))⟩]

def f20r1 : List AInstr := [
    ⟨(some 6), none, .mov (.tmp 0)⟩,
    ⟨(some 7), none, .len (.tmp 6)⟩,
    ⟨(some 8), none, .mov (.const (.int .i64 0))⟩]

def f20r2 : List AInstr := [
    ⟨(some 9), none, .ibin .lss (.tmp 8) (.tmp 7)⟩]

def f20r3 : List AInstr := [
    ⟨(some 10), none, .mov (.tmp 8)⟩,
    ⟨(some 5), none, .mov (.tmp 10)⟩]

def f20r4 : List AInstr := [
    ⟨(some 11), none, .mov (.tmp 1)⟩,
    ⟨(some 12), none, .mov (.tmp 0)⟩,
    ⟨(some 13), none, .mov (.tmp 5)⟩,
    ⟨(some 14), none, .indexAddr 6 (.tmp 12) (.tmp 13)⟩,
    ⟨(some 15), none, .load (some 6) (.tmp 14)⟩,
    ⟨(some 16), none, .callV (.tmp 11) [.tmp 15]⟩]

def f20r5 : List AInstr := [
    ⟨(some 17), none, .mov (.tmp 5)⟩,
    ⟨(some 4), none, .mov (.tmp 17)⟩]

def f20r6 : List AInstr := [
    ⟨(some 18), none, .ibin .add (.tmp 8) (.const (.int .i64 1))⟩,
    ⟨(some 8), none, .mov (.tmp 18)⟩]

/-- live: [0, 1, 7, 8] -/
def f20l0 : ACode := (.seq (.ops f20r2)
  (.keep [0, 1, 7, 8, 9] (.seq (.cond (.tmp 9) .skip (.exit 0))
  (.keep [0, 1, 7, 8] (.seq (.block 1 (.seq (.ops f20r3)
  (.keep [0, 1, 5, 7, 8] (.seq (.ops f20r4)
  (.keep [0, 1, 5, 7, 8, 16] (.cond (.tmp 16) (.keep [5] (.seq (.ops f20r5)
  (.keep [4] .ret))) .skip))))))
  (.keep [0, 1, 7, 8] (.ops f20r6)))))))

def f20r8 : List AInstr := [
    ⟨(some 4), none, .mov (.const (.int .i64 (-1)))⟩]

def f20b : ACode := (.seq (.ops f20r0)
  (.keep [0, 1] (.seq (.seq (.ops f20r1)
  (.keep [0, 1, 7, 8] (.block 0 (.loop f20l0))))
  (.keep [] (.seq (.ops f20r8)
  (.keep [4] .ret))))))

def f20 : AFn := ⟨19, [.tmp 4], f20b⟩

theorem f20_ok : compFn Try.prog 20 = some f20.strip := by kernel_rfl

end Go.Proofs.Ytiflaenenlcidaa
