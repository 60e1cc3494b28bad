/-
  The functions of this seat as abstract code. Printed by a program of this claim's writer.
-/
import Derived.Test.YtmfcccgfifaojaaChecked
import Derived.Test.YtmfcccgfifaojaaAmS
import Derived.KernelRfl
namespace Go.Proofs.Ytmfcccgfifaojaa
open Go Go.Am

/- function 3: weirhouse/weirhousekeep.SumsCheck; parameters 3; operations that are not compiled: 0 -/
def f3r0 : List AInstr := [
    ⟨(some 6), none, .mov (.const (.bool false))⟩]

def f3r1 : List AInstr := [
    ⟨(some 9), none, .callF 6 []⟩,
    ⟨(some 10), none, .un .not (.tmp 9)⟩]

def f3r2 : List AInstr := [
    ⟨(some 6), none, .mov (.const (.bool false))⟩]

def f3r3 : List AInstr := [
    ⟨(some 11), none, .mov (.tmp 0)⟩,
    ⟨(some 12), none, .len (.tmp 11)⟩,
    ⟨(some 13), none, .ibin .rem (.tmp 12) (.const (.int .i64 2))⟩,
    ⟨(some 14), none, .ibin .gtr (.tmp 13) (.const (.int .i64 0))⟩]

def f3r4 : List AInstr := [
    ⟨(some 6), none, .mov (.const (.bool true))⟩]

def f3r5 : List AInstr := [
    ⟨(some 15), none, .mov (.tmp 0)⟩,
    ⟨(some 16), none, .callF 7 [.tmp 15]⟩,
    ⟨(some 7), none, .mov (.tmp 16)⟩]

def f3r6 : List AInstr := [
    ⟨(some 17), none, .mov (.tmp 0)⟩,
    ⟨(some 18), none, .callF 8 [.tmp 17]⟩,
    ⟨(some 19), none, .mov (.tmp 7)⟩,
    ⟨(some 20), none, .ibin .shr (.tmp 19) (.const (.int .u64 8))⟩,
    ⟨(some 21), none, .conv .u8 (.tmp 20)⟩,
    ⟨(some 22), none, .mov (.tmp 7)⟩,
    ⟨(some 23), none, .conv .u8 (.tmp 22)⟩,
    ⟨(some 24), none, .buildSlice 1 2 [.int .u8 0, .int .u8 0] [(0, 1, (.tmp 21)), (1, 1, (.tmp 23))]⟩,
    ⟨(some 25), none, .append 1 1 (.tmp 18) (.tmp 24)⟩,
    ⟨(some 8), none, .mov (.tmp 25)⟩]

def f3r7 : List AInstr := [
    ⟨(some 26), none, .mov (.tmp 8)⟩,
    ⟨(some 27), none, .callF 9 [.tmp 26]⟩,
    ⟨(some 28), none, .ibin .neq (.tmp 27) (.const (.int .u16 65535))⟩]

def f3r8 : List AInstr := [
    ⟨(some 6), none, .mov (.const (.bool false))⟩]

def f3r9 : List AInstr := [
    ⟨(some 29), none, .mov (.tmp 1)⟩,
    ⟨(some 30), none, .ibin .lss (.tmp 29) (.const (.int .i64 0))⟩,
    ⟨(some 31), none, .mov (.tmp 30)⟩,
    ⟨(some 32), (some (31, false)), .mov (.tmp 1)⟩,
    ⟨(some 33), (some (31, false)), .mov (.tmp 8)⟩,
    ⟨(some 34), (some (31, false)), .len (.tmp 33)⟩,
    ⟨(some 35), (some (31, false)), .ibin .geq (.tmp 32) (.tmp 34)⟩,
    ⟨(some 36), none, .pick (.tmp 31) (.const (.bool true)) (.tmp 35)⟩,
    ⟨(some 37), none, .mov (.tmp 36)⟩,
    ⟨(some 38), (some (37, false)), .mov (.tmp 2)⟩,
    ⟨(some 39), (some (37, false)), .ibin .eql (.tmp 38) (.const (.int .u8 0))⟩,
    ⟨(some 40), none, .pick (.tmp 37) (.const (.bool true)) (.tmp 39)⟩]

def f3r10 : List AInstr := [
    ⟨(some 6), none, .mov (.const (.bool true))⟩]

def f3r11 : List AInstr := [
    ⟨(some 41), none, .mov (.tmp 8)⟩,
    ⟨(some 42), none, .mov (.tmp 1)⟩,
    ⟨(some 43), none, .indexAddr 1 (.tmp 41) (.tmp 42)⟩,
    ⟨(some 44), none, .load none (.tmp 43)⟩,
    ⟨(some 45), none, .mov (.tmp 2)⟩,
    ⟨(some 46), none, .ibin .xor (.tmp 44) (.tmp 45)⟩,
    ⟨(some 47), none, .indexAddr 1 (.tmp 41) (.tmp 42)⟩,
    ⟨none, none, .store 1 (.tmp 47) (.tmp 46)⟩]

def f3r12 : List AInstr := [
    ⟨(some 48), none, .mov (.tmp 8)⟩,
    ⟨(some 49), none, .callF 9 [.tmp 48]⟩,
    ⟨(some 50), none, .ibin .neq (.tmp 49) (.const (.int .u16 65535))⟩,
    ⟨(some 6), none, .mov (.tmp 50)⟩]

def f3b : ACode := (.seq (.ops f3r0)
  (.keep [0, 1, 2] (.seq (.seq (.ops f3r1)
  (.keep [0, 1, 2, 10] (.cond (.tmp 10) (.keep [] (.seq (.ops f3r2)
  (.keep [6] .ret))) .skip)))
  (.keep [0, 1, 2] (.seq (.seq (.ops f3r3)
  (.keep [0, 1, 2, 14] (.cond (.tmp 14) (.keep [] (.seq (.ops f3r4)
  (.keep [6] .ret))) .skip)))
  (.keep [0, 1, 2] (.seq (.ops f3r5)
  (.keep [0, 1, 2, 7] (.seq (.ops f3r6)
  (.keep [1, 2, 8] (.seq (.seq (.ops f3r7)
  (.keep [1, 2, 8, 28] (.cond (.tmp 28) (.keep [] (.seq (.ops f3r8)
  (.keep [6] .ret))) .skip)))
  (.keep [1, 2, 8] (.seq (.seq (.ops f3r9)
  (.keep [1, 2, 8, 40] (.cond (.tmp 40) (.keep [] (.seq (.ops f3r10)
  (.keep [6] .ret))) .skip)))
  (.keep [1, 2, 8] (.seq (.ops f3r11)
  (.keep [8] (.seq (.ops f3r12)
  (.keep [6] .ret))))))))))))))))))

def f3 : AFn := ⟨51, [.tmp 6], f3b⟩

theorem f3_ok : compFn Try.prog 3 = some f3.strip := by kernel_rfl

/- function 4: weirhouse/weirhousekeep.SumsTurn; parameters 3; operations that are not compiled: 0 -/
def f4r0 : List AInstr := [
    ⟨(some 6), none, .mov (.const (.bool false))⟩]

def f4r1 : List AInstr := [
    ⟨(some 9), none, .callF 6 []⟩,
    ⟨(some 10), none, .un .not (.tmp 9)⟩]

def f4r2 : List AInstr := [
    ⟨(some 6), none, .mov (.const (.bool false))⟩]

def f4r3 : List AInstr := [
    ⟨(some 11), none, .mov (.tmp 1)⟩,
    ⟨(some 12), none, .ibin .lss (.tmp 11) (.const (.int .i64 0))⟩,
    ⟨(some 13), none, .mov (.tmp 12)⟩,
    ⟨(some 14), (some (13, false)), .mov (.tmp 1)⟩,
    ⟨(some 15), (some (13, false)), .mov (.tmp 0)⟩,
    ⟨(some 16), (some (13, false)), .len (.tmp 15)⟩,
    ⟨(some 17), (some (13, false)), .ibin .gtr (.tmp 14) (.tmp 16)⟩,
    ⟨(some 18), none, .pick (.tmp 13) (.const (.bool true)) (.tmp 17)⟩,
    ⟨(some 19), none, .mov (.tmp 18)⟩,
    ⟨(some 20), (some (19, false)), .mov (.tmp 1)⟩,
    ⟨(some 21), (some (19, false)), .ibin .mul (.const (.int .i64 2)) (.tmp 20)⟩,
    ⟨(some 22), (some (19, false)), .ibin .add (.tmp 21) (.const (.int .i64 1))⟩,
    ⟨(some 23), (some (19, false)), .mov (.tmp 0)⟩,
    ⟨(some 24), (some (19, false)), .len (.tmp 23)⟩,
    ⟨(some 25), (some (19, false)), .ibin .geq (.tmp 22) (.tmp 24)⟩,
    ⟨(some 26), none, .pick (.tmp 19) (.const (.bool true)) (.tmp 25)⟩]

def f4r4 : List AInstr := [
    ⟨(some 6), none, .mov (.const (.bool true))⟩]

def f4r5 : List AInstr := [
    ⟨(some 27), none, .mov (.tmp 0)⟩,
    ⟨(some 28), none, .mov (.tmp 1)⟩,
    ⟨(some 29), none, .ibin .mul (.const (.int .i64 2)) (.tmp 28)⟩,
    ⟨(some 30), none, .indexAddr 1 (.tmp 27) (.tmp 29)⟩,
    ⟨(some 31), none, .load none (.tmp 30)⟩,
    ⟨(some 32), none, .conv .u16 (.tmp 31)⟩,
    ⟨(some 33), none, .ibin .shl (.tmp 32) (.const (.int .u64 8))⟩,
    ⟨(some 34), none, .mov (.tmp 0)⟩,
    ⟨(some 35), none, .mov (.tmp 1)⟩,
    ⟨(some 36), none, .ibin .mul (.const (.int .i64 2)) (.tmp 35)⟩,
    ⟨(some 37), none, .ibin .add (.tmp 36) (.const (.int .i64 1))⟩,
    ⟨(some 38), none, .indexAddr 1 (.tmp 34) (.tmp 37)⟩,
    ⟨(some 39), none, .load none (.tmp 38)⟩,
    ⟨(some 40), none, .conv .u16 (.tmp 39)⟩,
    ⟨(some 41), none, .ibin .or (.tmp 33) (.tmp 40)⟩,
    ⟨(some 7), none, .mov (.tmp 41)⟩]

def f4r6 : List AInstr := [
    ⟨(some 42), none, .mov (.tmp 0)⟩,
    ⟨(some 43), none, .callF 8 [.tmp 42]⟩,
    ⟨(some 8), none, .mov (.tmp 43)⟩]

def f4r7 : List AInstr := [
    ⟨(some 44), none, .mov (.tmp 8)⟩,
    ⟨(some 45), none, .mov (.tmp 1)⟩,
    ⟨(some 46), none, .ibin .mul (.const (.int .i64 2)) (.tmp 45)⟩,
    ⟨(some 47), none, .mov (.tmp 8)⟩,
    ⟨(some 48), none, .mov (.tmp 1)⟩,
    ⟨(some 49), none, .ibin .mul (.const (.int .i64 2)) (.tmp 48)⟩,
    ⟨(some 50), none, .ibin .add (.tmp 49) (.const (.int .i64 1))⟩,
    ⟨(some 51), none, .mov (.tmp 2)⟩,
    ⟨(some 52), none, .ibin .shr (.tmp 51) (.const (.int .u64 8))⟩,
    ⟨(some 53), none, .conv .u8 (.tmp 52)⟩,
    ⟨(some 54), none, .mov (.tmp 2)⟩,
    ⟨(some 55), none, .conv .u8 (.tmp 54)⟩,
    ⟨(some 56), none, .indexAddr 1 (.tmp 44) (.tmp 46)⟩,
    ⟨none, none, .store 1 (.tmp 56) (.tmp 53)⟩,
    ⟨(some 57), none, .indexAddr 1 (.tmp 47) (.tmp 50)⟩,
    ⟨none, none, .store 1 (.tmp 57) (.tmp 55)⟩]

def f4r8 : List AInstr := [
    ⟨(some 58), none, .mov (.tmp 0)⟩,
    ⟨(some 59), none, .callF 7 [.tmp 58]⟩,
    ⟨(some 60), none, .mov (.tmp 7)⟩,
    ⟨(some 61), none, .mov (.tmp 2)⟩,
    ⟨(some 62), none, .callF 11 [.tmp 59, .tmp 60, .tmp 61]⟩,
    ⟨(some 63), none, .mov (.tmp 8)⟩,
    ⟨(some 64), none, .callF 7 [.tmp 63]⟩,
    ⟨(some 65), none, .callF 10 [.tmp 62, .tmp 64]⟩,
    ⟨(some 6), none, .mov (.tmp 65)⟩]

def f4b : ACode := (.seq (.ops f4r0)
  (.keep [0, 1, 2] (.seq (.seq (.ops f4r1)
  (.keep [0, 1, 2, 10] (.cond (.tmp 10) (.keep [] (.seq (.ops f4r2)
  (.keep [6] .ret))) .skip)))
  (.keep [0, 1, 2] (.seq (.seq (.ops f4r3)
  (.keep [0, 1, 2, 26] (.cond (.tmp 26) (.keep [] (.seq (.ops f4r4)
  (.keep [6] .ret))) .skip)))
  (.keep [0, 1, 2] (.seq (.draw f4r5 [(0, 0, false), (0, 0, false), (0, 0, false), (0, 0, false), (0, 0, false), (0, 0, false), (0, 0, false), (0, 0, false), (0, 0, false), (0, 0, false), (0, 0, false), (0, 0, false), (0, 0, false), (0, 0, false), (0, 0, false), (0, 0, false)])
  (.keep [0, 1, 2, 7] (.seq (.ops f4r6)
  (.keep [0, 1, 2, 7, 8] (.seq (.ops f4r7)
  (.keep [0, 2, 7, 8] (.seq (.ops f4r8)
  (.keep [6] .ret))))))))))))))

def f4 : AFn := ⟨66, [.tmp 6], f4b⟩

theorem f4_ok : compFn Try.prog 4 = some f4.strip := by kernel_rfl

/- function 5: weirhouse/weirhousekeep.SumsGroup; parameters 5; operations that are not compiled: 0 -/
def f5r0 : List AInstr := [
    ⟨(some 10), none, .mov (.const (.bool false))⟩]

def f5r1 : List AInstr := [
    ⟨(some 12), none, .callF 6 []⟩,
    ⟨(some 13), none, .un .not (.tmp 12)⟩]

def f5r2 : List AInstr := [
    ⟨(some 10), none, .mov (.const (.bool false))⟩]

def f5r3 : List AInstr := [
    ⟨(some 14), none, .mov (.tmp 0)⟩,
    ⟨(some 15), none, .mov (.tmp 1)⟩,
    ⟨(some 16), none, .callF 12 [.tmp 14, .tmp 15]⟩,
    ⟨(some 17), none, .mov (.tmp 1)⟩,
    ⟨(some 18), none, .mov (.tmp 0)⟩,
    ⟨(some 19), none, .callF 12 [.tmp 17, .tmp 18]⟩,
    ⟨(some 20), none, .ibin .neq (.tmp 16) (.tmp 19)⟩,
    ⟨(some 21), none, .mov (.tmp 20)⟩,
    ⟨(some 22), (some (21, false)), .mov (.tmp 0)⟩,
    ⟨(some 23), (some (21, false)), .mov (.tmp 1)⟩,
    ⟨(some 24), (some (21, false)), .callF 12 [.tmp 22, .tmp 23]⟩,
    ⟨(some 25), (some (21, false)), .mov (.tmp 2)⟩,
    ⟨(some 26), (some (21, false)), .callF 12 [.tmp 24, .tmp 25]⟩,
    ⟨(some 27), (some (21, false)), .mov (.tmp 0)⟩,
    ⟨(some 28), (some (21, false)), .mov (.tmp 1)⟩,
    ⟨(some 29), (some (21, false)), .mov (.tmp 2)⟩,
    ⟨(some 30), (some (21, false)), .callF 12 [.tmp 28, .tmp 29]⟩,
    ⟨(some 31), (some (21, false)), .callF 12 [.tmp 27, .tmp 30]⟩,
    ⟨(some 32), (some (21, false)), .ibin .neq (.tmp 26) (.tmp 31)⟩,
    ⟨(some 33), none, .pick (.tmp 21) (.const (.bool true)) (.tmp 32)⟩,
    ⟨(some 34), none, .mov (.tmp 33)⟩,
    ⟨(some 35), (some (34, false)), .mov (.tmp 0)⟩,
    ⟨(some 36), (some (34, false)), .mov (.tmp 0)⟩,
    ⟨(some 37), (some (34, false)), .un .xor (.tmp 36)⟩,
    ⟨(some 38), (some (34, false)), .callF 12 [.tmp 35, .tmp 37]⟩,
    ⟨(some 39), (some (34, false)), .callF 10 [.tmp 38, .const (.int .u16 0)]⟩,
    ⟨(some 40), (some (34, false)), .un .not (.tmp 39)⟩,
    ⟨(some 41), none, .pick (.tmp 34) (.const (.bool true)) (.tmp 40)⟩]

def f5r4 : List AInstr := [
    ⟨(some 10), none, .mov (.const (.bool false))⟩]

def f5r5 : List AInstr := [
    ⟨(some 42), none, .mov (.tmp 3)⟩,
    ⟨(some 43), none, .len (.tmp 42)⟩,
    ⟨(some 44), none, .ibin .rem (.tmp 43) (.const (.int .i64 2))⟩,
    ⟨(some 45), none, .ibin .gtr (.tmp 44) (.const (.int .i64 0))⟩,
    ⟨(some 46), none, .mov (.tmp 45)⟩,
    ⟨(some 47), (some (46, false)), .mov (.tmp 4)⟩,
    ⟨(some 48), (some (46, false)), .len (.tmp 47)⟩,
    ⟨(some 49), (some (46, false)), .ibin .rem (.tmp 48) (.const (.int .i64 2))⟩,
    ⟨(some 50), (some (46, false)), .ibin .gtr (.tmp 49) (.const (.int .i64 0))⟩,
    ⟨(some 51), none, .pick (.tmp 46) (.const (.bool true)) (.tmp 50)⟩]

def f5r6 : List AInstr := [
    ⟨(some 10), none, .mov (.const (.bool true))⟩]

def f5r7 : List AInstr := [
    ⟨(some 52), none, .mov (.tmp 3)⟩,
    ⟨(some 53), none, .mov (.tmp 4)⟩,
    ⟨(some 54), none, .buildSlice 1 2 [.slice none 0 0, .slice none 0 0] [(0, 1, (.tmp 52)), (1, 1, (.tmp 53))]⟩,
    ⟨(some 55), none, .callF 13 [.tmp 54]⟩,
    ⟨(some 56), none, .callF 9 [.tmp 55]⟩,
    ⟨(some 11), none, .mov (.tmp 56)⟩]

def f5r8 : List AInstr := [
    ⟨(some 57), none, .mov (.tmp 11)⟩,
    ⟨(some 58), none, .mov (.tmp 3)⟩,
    ⟨(some 59), none, .callF 9 [.tmp 58]⟩,
    ⟨(some 60), none, .mov (.tmp 4)⟩,
    ⟨(some 61), none, .callF 9 [.tmp 60]⟩,
    ⟨(some 62), none, .callF 12 [.tmp 59, .tmp 61]⟩,
    ⟨(some 63), none, .ibin .eql (.tmp 57) (.tmp 62)⟩,
    ⟨(some 64), none, .mov (.tmp 63)⟩,
    ⟨(some 65), (some (64, true)), .mov (.tmp 11)⟩,
    ⟨(some 66), (some (64, true)), .mov (.tmp 4)⟩,
    ⟨(some 67), (some (64, true)), .mov (.tmp 3)⟩,
    ⟨(some 68), (some (64, true)), .buildSlice 1 2 [.slice none 0 0, .slice none 0 0] [(0, 1, (.tmp 66)), (1, 1, (.tmp 67))]⟩,
    ⟨(some 69), (some (64, true)), .callF 13 [.tmp 68]⟩,
    ⟨(some 70), (some (64, true)), .callF 9 [.tmp 69]⟩,
    ⟨(some 71), (some (64, true)), .ibin .eql (.tmp 65) (.tmp 70)⟩,
    ⟨(some 72), none, .pick (.tmp 64) (.tmp 71) (.const (.bool false))⟩,
    ⟨(some 10), none, .mov (.tmp 72)⟩]

def f5b : ACode := (.seq (.ops f5r0)
  (.keep [0, 1, 2, 3, 4] (.seq (.seq (.ops f5r1)
  (.keep [0, 1, 2, 3, 4, 13] (.cond (.tmp 13) (.keep [] (.seq (.ops f5r2)
  (.keep [10] .ret))) .skip)))
  (.keep [0, 1, 2, 3, 4] (.seq (.seq (.ops f5r3)
  (.keep [3, 4, 41] (.cond (.tmp 41) (.keep [] (.seq (.ops f5r4)
  (.keep [10] .ret))) .skip)))
  (.keep [3, 4] (.seq (.seq (.ops f5r5)
  (.keep [3, 4, 51] (.cond (.tmp 51) (.keep [] (.seq (.ops f5r6)
  (.keep [10] .ret))) .skip)))
  (.keep [3, 4] (.seq (.ops f5r7)
  (.keep [3, 4, 11] (.seq (.ops f5r8)
  (.keep [10] .ret))))))))))))

def f5 : AFn := ⟨73, [.tmp 10], f5b⟩

theorem f5_ok : compFn Try.prog 5 = some f5.strip := by kernel_rfl

/- function 6: weirhouse/weirhousekeep.alive4; parameters 0; operations that are not compiled: 0 -/
def f6r0 : List AInstr := [
    ⟨(some 0), none, .mov (.const (.bool false))⟩]

def f6r1 : List AInstr := [
    ⟨(some 1), none, .buildSlice 1 4 [.int .u8 0, .int .u8 0, .int .u8 0, .int .u8 0] [(0, 1, (.const (.int .u8 255))), (1, 1, (.const (.int .u8 255))), (2, 1, (.const (.int .u8 0))), (3, 1, (.const (.int .u8 2)))]⟩,
    ⟨(some 2), none, .callF 9 [.tmp 1]⟩,
    ⟨(some 3), none, .ibin .eql (.tmp 2) (.const (.int .u16 2))⟩,
    ⟨(some 4), none, .mov (.tmp 3)⟩,
    ⟨(some 5), (some (4, true)), .buildSlice 1 1 [.int .u8 0] [(0, 1, (.const (.int .u8 1)))]⟩,
    ⟨(some 6), (some (4, true)), .callF 7 [.tmp 5]⟩,
    ⟨(some 7), (some (4, true)), .ibin .eql (.tmp 6) (.const (.int .u16 65279))⟩,
    ⟨(some 8), none, .pick (.tmp 4) (.tmp 7) (.const (.bool false))⟩,
    ⟨(some 9), none, .mov (.tmp 8)⟩,
    ⟨(some 10), (some (9, true)), .callF 12 [.const (.int .u16 65535), .const (.int .u16 1)]⟩,
    ⟨(some 11), (some (9, true)), .ibin .eql (.tmp 10) (.const (.int .u16 1))⟩,
    ⟨(some 12), none, .pick (.tmp 9) (.tmp 11) (.const (.bool false))⟩,
    ⟨(some 13), none, .mov (.tmp 12)⟩,
    ⟨(some 14), (some (13, true)), .callF 10 [.const (.int .u16 0), .const (.int .u16 65535)]⟩,
    ⟨(some 15), none, .pick (.tmp 13) (.tmp 14) (.const (.bool false))⟩,
    ⟨(some 16), none, .mov (.tmp 15)⟩,
    ⟨(some 17), (some (16, true)), .callF 10 [.const (.int .u16 0), .const (.int .u16 1)]⟩,
    ⟨(some 18), (some (16, true)), .un .not (.tmp 17)⟩,
    ⟨(some 19), none, .pick (.tmp 16) (.tmp 18) (.const (.bool false))⟩,
    ⟨(some 20), none, .mov (.tmp 19)⟩,
    ⟨(some 21), (some (20, true)), .callF 11 [.const (.int .u16 65534), .const (.int .u16 1), .const (.int .u16 2)]⟩,
    ⟨(some 22), (some (20, true)), .ibin .eql (.tmp 21) (.const (.int .u16 65533))⟩,
    ⟨(some 23), none, .pick (.tmp 20) (.tmp 22) (.const (.bool false))⟩,
    ⟨(some 0), none, .mov (.tmp 23)⟩]

def f6b : ACode := (.seq (.ops f6r0)
  (.keep [] (.seq (.ops f6r1)
  (.keep [0] .ret))))

def f6 : AFn := ⟨24, [.tmp 0], f6b⟩

theorem f6_ok : compFn Try.prog 6 = some f6.strip := by kernel_rfl

/- function 7: weirhouse/sums.Check; parameters 1; operations that are not compiled: 0 -/
def f7r0 : List AInstr := [
    ⟨(some 2), none, .mov (.const (.int .u16 0))⟩]

def f7r1 : List AInstr := [
    ⟨(some 3), none, .mov (.tmp 0)⟩,
    ⟨(some 4), none, .callF 9 [.tmp 3]⟩,
    ⟨(some 5), none, .un .xor (.tmp 4)⟩,
    ⟨(some 2), none, .mov (.tmp 5)⟩]

def f7b : ACode := (.seq (.ops f7r0)
  (.keep [0] (.seq (.ops f7r1)
  (.keep [2] .ret))))

def f7 : AFn := ⟨6, [.tmp 2], f7b⟩

theorem f7_ok : compFn Try.prog 7 = some f7.strip := by kernel_rfl

/- function 8: slices.Clone[[]byte,byte]; parameters 1; operations that are not compiled: 0 -/
def f8r0 : List AInstr := [
    ⟨(some 2), none, .mov (.const (.slice none 0 0))⟩]

def f8r1 : List AInstr := [
    ⟨(some 3), none, .mov (.tmp 0)⟩,
    ⟨(some 4), none, .eqS false (.tmp 3) (.const (.slice none 0 0))⟩]

def f8r2 : List AInstr := [
    ⟨(some 2), none, .mov (.const (.slice none 0 0))⟩]

def f8r3 : List AInstr := [
    ⟨(some 5), none, .buildSlice 1 0 [] []⟩,
    ⟨(some 6), none, .mov (.tmp 0)⟩,
    ⟨(some 7), none, .append 1 1 (.tmp 5) (.tmp 6)⟩,
    ⟨(some 2), none, .mov (.tmp 7)⟩]

def f8b : ACode := (.seq (.ops f8r0)
  (.keep [0] (.seq (.seq (.ops f8r1)
  (.keep [0, 4] (.cond (.tmp 4) (.keep [] (.seq (.ops f8r2)
  (.keep [2] .ret))) .skip)))
  (.keep [0] (.seq (.ops f8r3)
  (.keep [2] .ret))))))

def f8 : AFn := ⟨8, [.tmp 2], f8b⟩

theorem f8_ok : compFn Try.prog 8 = some f8.strip := by kernel_rfl

/- function 9: weirhouse/sums.Of; parameters 1; operations that are not compiled: 0 -/
def f9r0 : List AInstr := [
    ⟨(some 2), none, .mov (.const (.int .u16 0))⟩]

def f9r1 : List AInstr := [
    ⟨(some 3), none, .mov (.const (.int .u64 0))⟩]

def f9r2 : List AInstr := [
    ⟨(some 4), none, .mov (.const (.int .i64 0))⟩]

def f9r3 : List AInstr := [
    ⟨(some 5), none, .mov (.tmp 4)⟩,
    ⟨(some 6), none, .mov (.tmp 0)⟩,
    ⟨(some 7), none, .len (.tmp 6)⟩,
    ⟨(some 8), none, .ibin .lss (.tmp 5) (.tmp 7)⟩]

def f9r4 : List AInstr := [
    ⟨(some 11), none, .mov (.tmp 3)⟩,
    ⟨(some 12), none, .mov (.tmp 0)⟩,
    ⟨(some 13), none, .mov (.tmp 4)⟩,
    ⟨(some 14), none, .indexAddr 1 (.tmp 12) (.tmp 13)⟩,
    ⟨(some 15), none, .load none (.tmp 14)⟩,
    ⟨(some 16), none, .conv .u64 (.tmp 15)⟩,
    ⟨(some 17), none, .ibin .shl (.tmp 16) (.const (.int .u64 8))⟩,
    ⟨(some 18), none, .ibin .add (.tmp 11) (.tmp 17)⟩,
    ⟨(some 3), none, .mov (.tmp 18)⟩]

def f9r5 : List AInstr := [
    ⟨(some 19), none, .mov (.tmp 4)⟩,
    ⟨(some 20), none, .ibin .add (.tmp 19) (.const (.int .i64 1))⟩,
    ⟨(some 21), none, .mov (.tmp 0)⟩,
    ⟨(some 22), none, .len (.tmp 21)⟩,
    ⟨(some 23), none, .ibin .lss (.tmp 20) (.tmp 22)⟩]

def f9r6 : List AInstr := [
    ⟨(some 24), none, .mov (.tmp 3)⟩,
    ⟨(some 25), none, .mov (.tmp 0)⟩,
    ⟨(some 26), none, .mov (.tmp 4)⟩,
    ⟨(some 27), none, .ibin .add (.tmp 26) (.const (.int .i64 1))⟩,
    ⟨(some 28), none, .indexAddr 1 (.tmp 25) (.tmp 27)⟩,
    ⟨(some 29), none, .load none (.tmp 28)⟩,
    ⟨(some 30), none, .conv .u64 (.tmp 29)⟩,
    ⟨(some 31), none, .ibin .add (.tmp 24) (.tmp 30)⟩,
    ⟨(some 3), none, .mov (.tmp 31)⟩]

def f9r7 : List AInstr := [
    ⟨(some 9), none, .mov (.tmp 4)⟩,
    ⟨(some 10), none, .ibin .add (.tmp 9) (.const (.int .i64 2))⟩,
    ⟨(some 4), none, .mov (.tmp 10)⟩]

/-- live: [0, 3, 4] -/
def f9l0 : ACode := (.seq (.seq (.ops f9r3)
  (.keep [0, 3, 4, 8] (.cond (.tmp 8) .skip (.exit 0))))
  (.keep [0, 3, 4] (.seq (.block 1 (.seq (.ops f9r4)
  (.keep [0, 3, 4] (.seq (.ops f9r5)
  (.keep [0, 3, 4, 23] (.cond (.tmp 23) (.keep [0, 3, 4] (.ops f9r6)) .skip))))))
  (.keep [0, 3, 4] (.ops f9r7)))))

def f9r9 : List AInstr := [
    ⟨(some 32), none, .mov (.tmp 3)⟩,
    ⟨(some 33), none, .callF 14 [.tmp 32]⟩,
    ⟨(some 2), none, .mov (.tmp 33)⟩]

def f9b : ACode := (.seq (.ops f9r0)
  (.keep [0] (.seq (.ops f9r1)
  (.keep [0, 3] (.seq (.seq (.ops f9r2)
  (.keep [0, 3, 4] (.block 0 (.loop f9l0))))
  (.keep [3] (.seq (.ops f9r9)
  (.keep [2] .ret))))))))

def f9 : AFn := ⟨34, [.tmp 2], f9b⟩

theorem f9_ok : compFn Try.prog 9 = some f9.strip := by kernel_rfl

/- function 10: weirhouse/sums.Same; parameters 2; operations that are not compiled: 0 -/
def f10r0 : List AInstr := [
    ⟨(some 4), none, .mov (.const (.bool false))⟩]

def f10r1 : List AInstr := [
    ⟨(some 5), none, .mov (.tmp 0)⟩,
    ⟨(some 6), none, .mov (.tmp 1)⟩,
    ⟨(some 7), none, .ibin .eql (.tmp 5) (.tmp 6)⟩,
    ⟨(some 8), none, .mov (.tmp 7)⟩,
    ⟨(some 9), (some (8, false)), .mov (.tmp 0)⟩,
    ⟨(some 10), (some (8, false)), .ibin .rem (.tmp 9) (.const (.int .u16 65535))⟩,
    ⟨(some 11), (some (8, false)), .ibin .eql (.tmp 10) (.const (.int .u16 0))⟩,
    ⟨(some 12), (some (8, false)), .mov (.tmp 11)⟩,
    ⟨(some 13), (some (12, true)), .mov (.tmp 1)⟩,
    ⟨(some 14), (some (12, true)), .ibin .rem (.tmp 13) (.const (.int .u16 65535))⟩,
    ⟨(some 15), (some (12, true)), .ibin .eql (.tmp 14) (.const (.int .u16 0))⟩,
    ⟨(some 16), (some (8, false)), .pick (.tmp 12) (.tmp 15) (.const (.bool false))⟩,
    ⟨(some 17), none, .pick (.tmp 8) (.const (.bool true)) (.tmp 16)⟩,
    ⟨(some 4), none, .mov (.tmp 17)⟩]

def f10b : ACode := (.seq (.ops f10r0)
  (.keep [0, 1] (.seq (.ops f10r1)
  (.keep [4] .ret))))

def f10 : AFn := ⟨18, [.tmp 4], f10b⟩

theorem f10_ok : compFn Try.prog 10 = some f10.strip := by kernel_rfl

/- function 11: weirhouse/sums.Turn; parameters 3; operations that are not compiled: 0 -/
def f11r0 : List AInstr := [
    ⟨(some 6), none, .mov (.const (.int .u16 0))⟩]

def f11r1 : List AInstr := [
    ⟨(some 7), none, .mov (.tmp 0)⟩,
    ⟨(some 8), none, .un .xor (.tmp 7)⟩,
    ⟨(some 9), none, .mov (.tmp 1)⟩,
    ⟨(some 10), none, .un .xor (.tmp 9)⟩,
    ⟨(some 11), none, .callF 12 [.tmp 8, .tmp 10]⟩,
    ⟨(some 12), none, .mov (.tmp 2)⟩,
    ⟨(some 13), none, .callF 12 [.tmp 11, .tmp 12]⟩,
    ⟨(some 14), none, .un .xor (.tmp 13)⟩,
    ⟨(some 6), none, .mov (.tmp 14)⟩]

def f11b : ACode := (.seq (.ops f11r0)
  (.keep [0, 1, 2] (.seq (.ops f11r1)
  (.keep [6] .ret))))

def f11 : AFn := ⟨15, [.tmp 6], f11b⟩

theorem f11_ok : compFn Try.prog 11 = some f11.strip := by kernel_rfl

/- function 12: weirhouse/sums.Add; parameters 2; operations that are not compiled: 0 -/
def f12r0 : List AInstr := [
    ⟨(some 4), none, .mov (.const (.int .u16 0))⟩]

def f12r1 : List AInstr := [
    ⟨(some 5), none, .mov (.tmp 0)⟩,
    ⟨(some 6), none, .conv .u64 (.tmp 5)⟩,
    ⟨(some 7), none, .mov (.tmp 1)⟩,
    ⟨(some 8), none, .conv .u64 (.tmp 7)⟩,
    ⟨(some 9), none, .ibin .add (.tmp 6) (.tmp 8)⟩,
    ⟨(some 10), none, .callF 14 [.tmp 9]⟩,
    ⟨(some 4), none, .mov (.tmp 10)⟩]

def f12b : ACode := (.seq (.ops f12r0)
  (.keep [0, 1] (.seq (.ops f12r1)
  (.keep [4] .ret))))

def f12 : AFn := ⟨11, [.tmp 4], f12b⟩

theorem f12_ok : compFn Try.prog 12 = some f12.strip := by kernel_rfl

/- function 13: slices.Concat[[]byte,byte]; parameters 1; operations that are not compiled: 2 -/
def f13r0 : List AInstr := [
    ⟨(some 2), none, .mov (.const (.slice none 0 0))⟩]

def f13r1 : List AInstr := [
    ⟨(some 3), none, .mov (.const (.int .i64 0))⟩]

def f13r2 : List AInstr := [
    ⟨(some 9), none, .mov (.tmp 0)⟩,
    ⟨(some 10), none, .len (.tmp 9)⟩,
    ⟨(some 11), none, .mov (.const (.int .i64 0))⟩]

def f13r3 : List AInstr := [
    ⟨(some 12), none, .ibin .lss (.tmp 11) (.tmp 10)⟩]

def f13r4 : List AInstr := [
    ⟨(some 13), none, .indexAddr 1 (.tmp 9) (.tmp 11)⟩,
    ⟨(some 14), none, .load none (.tmp 13)⟩,
    ⟨(some 5), none, .mov (.tmp 14)⟩]

def f13r5 : List AInstr := [
    ⟨(some 15), none, .mov (.tmp 3)⟩,
    ⟨(some 16), none, .mov (.tmp 5)⟩,
    ⟨(some 17), none, .len (.tmp 16)⟩,
    ⟨(some 18), none, .ibin .add (.tmp 15) (.tmp 17)⟩,
    ⟨(some 3), none, .mov (.tmp 18)⟩]

def f13r6 : List AInstr := [
    ⟨(some 19), none, .mov (.tmp 3)⟩,
    ⟨(some 20), none, .ibin .lss (.tmp 19) (.const (.int .i64 0))⟩]

def f13r7 : List AInstr := [
    ⟨(some 21), none, .bad⟩,
    ⟨none, none, .bad⟩]

def f13r8 : List AInstr := [
    ⟨(some 22), none, .ibin .add (.tmp 11) (.const (.int .i64 1))⟩,
    ⟨(some 11), none, .mov (.tmp 22)⟩]

/-- live: [0, 3, 9, 10, 11] -/
def f13l0 : ACode := (.seq (.ops f13r3)
  (.keep [0, 3, 9, 10, 11, 12] (.seq (.cond (.tmp 12) .skip (.exit 0))
  (.keep [0, 3, 9, 10, 11] (.seq (.block 1 (.seq (.ops f13r4)
  (.keep [0, 3, 5, 9, 10, 11] (.seq (.ops f13r5)
  (.keep [0, 3, 9, 10, 11] (.seq (.ops f13r6)
  (.keep [0, 3, 9, 10, 11, 20] (.cond (.tmp 20) (.keep [0, 3, 9, 10, 11] (.ops f13r7)) .skip))))))))
  (.keep [0, 3, 9, 10, 11] (.ops f13r8)))))))

def f13r10 : List AInstr := [
    ⟨(some 23), none, .mov (.tmp 3)⟩,
    ⟨(some 24), none, .callF 15 [.const (.slice none 0 0), .tmp 23]⟩,
    ⟨(some 6), none, .mov (.tmp 24)⟩]

def f13r11 : List AInstr := [
    ⟨(some 25), none, .mov (.tmp 0)⟩,
    ⟨(some 26), none, .len (.tmp 25)⟩,
    ⟨(some 27), none, .mov (.const (.int .i64 0))⟩]

def f13r12 : List AInstr := [
    ⟨(some 28), none, .ibin .lss (.tmp 27) (.tmp 26)⟩]

def f13r13 : List AInstr := [
    ⟨(some 29), none, .indexAddr 1 (.tmp 25) (.tmp 27)⟩,
    ⟨(some 30), none, .load none (.tmp 29)⟩,
    ⟨(some 8), none, .mov (.tmp 30)⟩]

def f13r14 : List AInstr := [
    ⟨(some 31), none, .mov (.tmp 6)⟩,
    ⟨(some 32), none, .mov (.tmp 8)⟩,
    ⟨(some 33), none, .append 1 1 (.tmp 31) (.tmp 32)⟩,
    ⟨(some 6), none, .mov (.tmp 33)⟩]

def f13r15 : List AInstr := [
    ⟨(some 34), none, .ibin .add (.tmp 27) (.const (.int .i64 1))⟩,
    ⟨(some 27), none, .mov (.tmp 34)⟩]

/-- live: [6, 25, 26, 27] -/
def f13l1 : ACode := (.seq (.ops f13r12)
  (.keep [6, 25, 26, 27, 28] (.seq (.cond (.tmp 28) .skip (.exit 2))
  (.keep [6, 25, 26, 27] (.seq (.block 3 (.seq (.ops f13r13)
  (.keep [6, 8, 25, 26, 27] (.ops f13r14))))
  (.keep [6, 25, 26, 27] (.ops f13r15)))))))

def f13r17 : List AInstr := [
    ⟨(some 35), none, .mov (.tmp 6)⟩,
    ⟨(some 2), none, .mov (.tmp 35)⟩]

def f13b : ACode := (.seq (.ops f13r0)
  (.keep [0] (.seq (.ops f13r1)
  (.keep [0, 3] (.seq (.seq (.ops f13r2)
  (.keep [0, 3, 9, 10, 11] (.block 0 (.loop f13l0))))
  (.keep [0, 3] (.seq (.ops f13r10)
  (.keep [0, 6] (.seq (.seq (.ops f13r11)
  (.keep [6, 25, 26, 27] (.block 2 (.loop f13l1))))
  (.keep [6] (.seq (.ops f13r17)
  (.keep [2] .ret))))))))))))

def f13 : AFn := ⟨36, [.tmp 2], f13b⟩

theorem f13_ok : compFn Try.prog 13 = some f13.strip := by kernel_rfl

/- function 14: weirhouse/sums.fold; parameters 1; operations that are not compiled: 0 -/
def f14r0 : List AInstr := [
    ⟨(some 2), none, .mov (.const (.int .u16 0))⟩]

def f14r1 : List AInstr := [
    ⟨(some 3), none, .mov (.tmp 0)⟩,
    ⟨(some 4), none, .ibin .gtr (.tmp 3) (.const (.int .u64 65535))⟩]

def f14r2 : List AInstr := [
    ⟨(some 5), none, .mov (.tmp 0)⟩,
    ⟨(some 6), none, .ibin .shr (.tmp 5) (.const (.int .u64 16))⟩,
    ⟨(some 7), none, .mov (.tmp 0)⟩,
    ⟨(some 8), none, .ibin .and (.tmp 7) (.const (.int .u64 65535))⟩,
    ⟨(some 9), none, .ibin .add (.tmp 6) (.tmp 8)⟩,
    ⟨(some 0), none, .mov (.tmp 9)⟩]

/-- live: [0] -/
def f14l0 : ACode := (.seq (.seq (.ops f14r1)
  (.keep [0, 4] (.cond (.tmp 4) .skip (.exit 0))))
  (.keep [0] (.block 1 (.ops f14r2))))

def f14r4 : List AInstr := [
    ⟨(some 10), none, .mov (.tmp 0)⟩,
    ⟨(some 11), none, .conv .u16 (.tmp 10)⟩,
    ⟨(some 2), none, .mov (.tmp 11)⟩]

def f14b : ACode := (.seq (.ops f14r0)
  (.keep [0] (.seq (.block 0 (.loop f14l0))
  (.keep [0] (.seq (.ops f14r4)
  (.keep [2] .ret))))))

def f14 : AFn := ⟨12, [.tmp 2], f14b⟩

theorem f14_ok : compFn Try.prog 14 = some f14.strip := by kernel_rfl

/- function 15: slices.Grow[[]byte,byte]; parameters 2; operations that are not compiled: 2 -/
def f15r0 : List AInstr := [
    ⟨(some 4), none, .mov (.const (.slice none 0 0))⟩]

def f15r1 : List AInstr := [
    ⟨(some 5), none, .mov (.tmp 1)⟩,
    ⟨(some 6), none, .ibin .lss (.tmp 5) (.const (.int .i64 0))⟩]

def f15r2 : List AInstr := [
    ⟨(some 7), none, .bad⟩,
    ⟨none, none, .bad⟩]

def f15r3 : List AInstr := [
    ⟨(some 8), none, .mov (.tmp 1)⟩,
    ⟨(some 9), none, .mov (.tmp 0)⟩,
    ⟨(some 10), none, .cap (.tmp 9)⟩,
    ⟨(some 11), none, .mov (.tmp 0)⟩,
    ⟨(some 12), none, .len (.tmp 11)⟩,
    ⟨(some 13), none, .ibin .sub (.tmp 10) (.tmp 12)⟩,
    ⟨(some 14), none, .ibin .sub (.tmp 8) (.tmp 13)⟩,
    ⟨(some 1), none, .mov (.tmp 14)⟩]

def f15r4 : List AInstr := [
    ⟨(some 15), none, .mov (.tmp 1)⟩,
    ⟨(some 16), none, .ibin .gtr (.tmp 15) (.const (.int .i64 0))⟩]

def f15r5 : List AInstr := [
    ⟨(some 17), none, .mov (.tmp 0)⟩,
    ⟨(some 18), none, .mov (.tmp 0)⟩,
    ⟨(some 19), none, .cap (.tmp 18)⟩,
    ⟨(some 20), none, .slice 1 (.tmp 17) none (some (.tmp 19)) none⟩,
    ⟨(some 21), none, .mov (.tmp 1)⟩,
    ⟨(some 22), none, .appendZ 1 1 [.int .u8 0] (.tmp 20) (.tmp 21)⟩,
    ⟨(some 23), none, .mov (.tmp 0)⟩,
    ⟨(some 24), none, .len (.tmp 23)⟩,
    ⟨(some 25), none, .slice 1 (.tmp 22) none (some (.tmp 24)) none⟩,
    ⟨(some 0), none, .mov (.tmp 25)⟩]

def f15r6 : List AInstr := [
    ⟨(some 26), none, .mov (.tmp 0)⟩,
    ⟨(some 4), none, .mov (.tmp 26)⟩]

def f15b : ACode := (.seq (.ops f15r0)
  (.keep [0, 1] (.seq (.seq (.ops f15r1)
  (.keep [0, 1, 6] (.cond (.tmp 6) (.keep [0, 1] (.ops f15r2)) .skip)))
  (.keep [0, 1] (.seq (.seq (.ops f15r3)
  (.keep [0, 1] (.seq (.ops f15r4)
  (.keep [0, 1, 16] (.cond (.tmp 16) (.keep [0, 1] (.ops f15r5)) .skip)))))
  (.keep [0] (.seq (.ops f15r6)
  (.keep [4] .ret))))))))

def f15 : AFn := ⟨27, [.tmp 4], f15b⟩

theorem f15_ok : compFn Try.prog 15 = some f15.strip := by kernel_rfl

end Go.Proofs.Ytmfcccgfifaojaa
