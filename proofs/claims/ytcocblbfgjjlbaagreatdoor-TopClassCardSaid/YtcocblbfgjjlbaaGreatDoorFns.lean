/-
  The functions of this seat as abstract code. Printed by a program of this claim's writer.
-/
import Derived.Test.YtcocblbfgjjlbaaGreatDoorChecked
import Derived.Test.YtcocblbfgjjlbaaGreatDoorAmS
import Derived.KernelRfl
namespace Go.Proofs.YtcocblbfgjjlbaaGreatDoor
open Go Go.Am

/- function 3: weirhouse/weirhousetop.TopClass; parameters 2; operations that are not compiled: 0 -/
def f3r0 : List AInstr := [
    ⟨(some 2), none, .box (.tmp 0)⟩,
    ⟨(some 4), none, .mov (.const (.bool false))⟩]

def f3r1 : List AInstr := [
    ⟨(some 18), none, .callF 4 []⟩,
    ⟨(some 19), none, .un .not (.tmp 18)⟩]

def f3r2 : List AInstr := [
    ⟨(some 4), none, .mov (.const (.bool false))⟩]

def f3r3 : List AInstr := [
    ⟨(some 21), none, .load (some 13) (.tmp 2)⟩,
    ⟨(some 22), none, .callF 5 [.tmp 21]⟩,
    ⟨(some 20), none, .mov (.tmp 22)⟩,
    ⟨(some 23), none, .extract 0 (.tmp 20)⟩,
    ⟨(some 24), none, .extract 1 (.tmp 20)⟩,
    ⟨(some 5), none, .mov (.tmp 23)⟩,
    ⟨(some 6), none, .mov (.tmp 24)⟩]

def f3r4 : List AInstr := [
    ⟨(some 25), none, .mov (.tmp 6)⟩,
    ⟨(some 26), none, .ibin .neq (.tmp 25) (.const (.int .i64 0))⟩,
    ⟨(some 27), none, .mov (.tmp 26)⟩,
    ⟨(some 28), (some (27, false)), .mov (.tmp 1)⟩,
    ⟨(some 29), (some (27, false)), .callF 6 [.tmp 28]⟩,
    ⟨(some 30), (some (27, false)), .ibin .neq (.tmp 29) (.const (.int .i64 0))⟩,
    ⟨(some 31), none, .pick (.tmp 27) (.const (.bool true)) (.tmp 30)⟩]

def f3r5 : List AInstr := [
    ⟨(some 4), none, .mov (.const (.bool true))⟩]

def f3r6 : List AInstr := [
    ⟨(some 32), none, .mov (.tmp 1)⟩,
    ⟨(some 33), none, .callF 7 [.tmp 32]⟩,
    ⟨(some 7), none, .mov (.tmp 33)⟩]

def f3r7 : List AInstr := [
    ⟨(some 34), none, .mov (.tmp 7)⟩,
    ⟨(some 35), none, .callF 8 [.tmp 34, .const (.func (.func 9) #[] #[])]⟩]

def f3r8 : List AInstr := [
    ⟨(some 8), none, .mov (.const (.slice none 0 0))⟩]

def f3r9 : List AInstr := [
    ⟨(some 36), none, .mov (.tmp 7)⟩,
    ⟨(some 37), none, .len (.tmp 36)⟩,
    ⟨(some 38), none, .mov (.const (.int .i64 0))⟩]

def f3r10 : List AInstr := [
    ⟨(some 39), none, .ibin .lss (.tmp 38) (.tmp 37)⟩]

def f3r11 : List AInstr := [
    ⟨(some 40), none, .indexAddr 6 (.tmp 36) (.tmp 38)⟩,
    ⟨(some 41), none, .load (some 6) (.tmp 40)⟩,
    ⟨(some 10), none, .alloc [.int .u8 0, .int .u8 0, .int .u8 0, .int .u8 0, .int .i64 0, .int .i64 0]⟩,
    ⟨none, none, .store 6 (.tmp 10) (.tmp 41)⟩]

def f3r12 : List AInstr := [
    ⟨(some 42), none, .fieldAddr 5 (.tmp 10)⟩,
    ⟨(some 43), none, .load none (.tmp 42)⟩,
    ⟨(some 44), none, .ibin .lss (.tmp 43) (.const (.int .i64 0))⟩,
    ⟨(some 45), none, .mov (.tmp 44)⟩,
    ⟨(some 46), (some (45, false)), .fieldAddr 5 (.tmp 10)⟩,
    ⟨(some 47), (some (45, false)), .load none (.tmp 46)⟩,
    ⟨(some 48), (some (45, false)), .ibin .geq (.tmp 47) (.const (.int .i64 16))⟩,
    ⟨(some 49), none, .pick (.tmp 45) (.const (.bool true)) (.tmp 48)⟩]

def f3r13 : List AInstr := [
    ⟨(some 4), none, .mov (.const (.bool true))⟩]

def f3r14 : List AInstr := [
    ⟨(some 50), none, .mov (.tmp 8)⟩,
    ⟨(some 51), none, .fieldAddr 0 (.tmp 10)⟩,
    ⟨(some 52), none, .load (some 4) (.tmp 51)⟩,
    ⟨(some 53), none, .fieldAddr 4 (.tmp 10)⟩,
    ⟨(some 54), none, .load none (.tmp 53)⟩,
    ⟨(some 55), none, .fieldAddr 5 (.tmp 10)⟩,
    ⟨(some 56), none, .load none (.tmp 55)⟩,
    ⟨(some 57), none, .build [.int .u8 0, .int .u8 0, .int .u8 0, .int .u8 0, .int .u8 0, .int .u8 0, .int .u8 0, .int .u8 0, .int .i64 0, .int .i64 0, .int .i64 0, .int .i64 0, .int .i64 0, .int .i64 0] [(4, 4, (.tmp 52)), (9, 1, (.tmp 54)), (12, 1, (.const (.int .i64 65535))), (13, 1, (.tmp 56))]⟩,
    ⟨(some 58), none, .buildSlice 14 1 [.int .u8 0, .int .u8 0, .int .u8 0, .int .u8 0, .int .u8 0, .int .u8 0, .int .u8 0, .int .u8 0, .int .i64 0, .int .i64 0, .int .i64 0, .int .i64 0, .int .i64 0, .int .i64 0] [(0, 14, (.tmp 57))]⟩,
    ⟨(some 59), none, .append 14 56 (.tmp 50) (.tmp 58)⟩,
    ⟨(some 8), none, .mov (.tmp 59)⟩]

def f3r15 : List AInstr := [
    ⟨(some 60), none, .ibin .add (.tmp 38) (.const (.int .i64 1))⟩,
    ⟨(some 38), none, .mov (.tmp 60)⟩]

/-- live: [1, 2, 5, 8, 36, 37, 38] -/
def f3l0 : ACode := (.seq (.ops f3r10)
  (.keep [1, 2, 5, 8, 36, 37, 38, 39] (.seq (.cond (.tmp 39) .skip (.exit 0))
  (.keep [1, 2, 5, 8, 36, 37, 38] (.seq (.block 1 (.seq (.ops f3r11)
  (.keep [1, 2, 5, 8, 10, 36, 37, 38] (.seq (.seq (.ops f3r12)
  (.keep [1, 2, 5, 8, 10, 36, 37, 38, 49] (.cond (.tmp 49) (.keep [] (.seq (.ops f3r13)
  (.keep [4] .ret))) .skip)))
  (.keep [1, 2, 5, 8, 10, 36, 37, 38] (.ops f3r14))))))
  (.keep [1, 2, 5, 8, 36, 37, 38] (.ops f3r15)))))))

def f3r17 : List AInstr := [
    ⟨(some 62), none, .mov (.tmp 5)⟩,
    ⟨(some 63), none, .callF 10 [.tmp 62]⟩,
    ⟨(some 61), none, .mov (.tmp 63)⟩,
    ⟨(some 64), none, .extract 0 (.tmp 61)⟩,
    ⟨(some 65), none, .extract 1 (.tmp 61)⟩,
    ⟨(some 11), none, .alloc [.int .u8 0, .int .u8 0, .int .u8 0, .int .u8 0, .int .u8 0, .int .u8 0, .int .u8 0, .int .u8 0, .int .i64 0, .int .i64 0, .int .i64 0, .int .i64 0, .int .i64 0]⟩,
    ⟨none, none, .store 13 (.tmp 11) (.tmp 64)⟩,
    ⟨(some 12), none, .mov (.tmp 65)⟩]

def f3r18 : List AInstr := [
    ⟨(some 67), none, .mov (.tmp 8)⟩,
    ⟨(some 68), none, .load (some 13) (.tmp 11)⟩,
    ⟨(some 69), none, .callF 11 [.tmp 67, .tmp 68]⟩,
    ⟨(some 66), none, .mov (.tmp 69)⟩,
    ⟨(some 70), none, .extract 0 (.tmp 66)⟩,
    ⟨(some 71), none, .extract 1 (.tmp 66)⟩,
    ⟨(some 13), none, .mov (.tmp 70)⟩,
    ⟨(some 14), none, .mov (.tmp 71)⟩]

def f3r19 : List AInstr := [
    ⟨(some 73), none, .mov (.tmp 1)⟩,
    ⟨(some 74), none, .fieldAddr 4 (.tmp 2)⟩,
    ⟨(some 75), none, .load (some 4) (.tmp 74)⟩,
    ⟨(some 76), none, .buildSlice 4 1 [.int .u8 0, .int .u8 0, .int .u8 0, .int .u8 0] [(0, 4, (.tmp 75))]⟩,
    ⟨(some 77), none, .callF 12 [.tmp 73, .tmp 76]⟩,
    ⟨(some 72), none, .mov (.tmp 77)⟩,
    ⟨(some 78), none, .extract 0 (.tmp 72)⟩,
    ⟨(some 79), none, .extract 1 (.tmp 72)⟩,
    ⟨(some 80), none, .extract 2 (.tmp 72)⟩,
    ⟨(some 15), none, .mov (.tmp 78)⟩,
    ⟨(some 16), none, .mov (.tmp 79)⟩,
    ⟨(some 17), none, .mov (.tmp 80)⟩]

def f3r20 : List AInstr := [
    ⟨(some 81), none, .mov (.tmp 12)⟩,
    ⟨(some 82), none, .ibin .neq (.tmp 81) (.const (.int .i64 0))⟩,
    ⟨(some 83), none, .mov (.tmp 82)⟩,
    ⟨(some 84), (some (83, false)), .mov (.tmp 17)⟩,
    ⟨(some 85), (some (83, false)), .ibin .neq (.tmp 84) (.const (.int .i64 0))⟩,
    ⟨(some 86), none, .pick (.tmp 83) (.const (.bool true)) (.tmp 85)⟩,
    ⟨(some 87), none, .mov (.tmp 86)⟩,
    ⟨(some 88), (some (87, false)), .mov (.tmp 15)⟩,
    ⟨(some 89), (some (87, false)), .len (.tmp 88)⟩,
    ⟨(some 90), (some (87, false)), .ibin .neq (.tmp 89) (.const (.int .i64 1))⟩,
    ⟨(some 91), none, .pick (.tmp 87) (.const (.bool true)) (.tmp 90)⟩,
    ⟨(some 92), none, .mov (.tmp 91)⟩,
    ⟨(some 93), (some (92, false)), .mov (.tmp 16)⟩,
    ⟨(some 94), (some (92, false)), .len (.tmp 93)⟩,
    ⟨(some 95), (some (92, false)), .ibin .neq (.tmp 94) (.const (.int .i64 1))⟩,
    ⟨(some 96), none, .pick (.tmp 92) (.const (.bool true)) (.tmp 95)⟩]

def f3r21 : List AInstr := [
    ⟨(some 4), none, .mov (.const (.bool false))⟩]

def f3r22 : List AInstr := [
    ⟨(some 97), none, .mov (.tmp 14)⟩,
    ⟨(some 98), none, .ibin .eql (.tmp 97) (.const (.int .i64 0))⟩,
    ⟨(some 99), none, .mov (.tmp 16)⟩,
    ⟨(some 100), none, .indexAddr 1 (.tmp 99) (.const (.int .i64 0))⟩,
    ⟨(some 101), none, .load none (.tmp 100)⟩,
    ⟨(some 102), none, .eqB false (.tmp 98) (.tmp 101)⟩,
    ⟨(some 103), none, .mov (.tmp 102)⟩,
    ⟨(some 104), (some (103, true)), .mov (.tmp 13)⟩,
    ⟨(some 105), (some (103, true)), .mov (.tmp 15)⟩,
    ⟨(some 106), (some (103, true)), .indexAddr 1 (.tmp 105) (.const (.int .i64 0))⟩,
    ⟨(some 107), (some (103, true)), .load none (.tmp 106)⟩,
    ⟨(some 108), (some (103, true)), .ibin .eql (.tmp 104) (.tmp 107)⟩,
    ⟨(some 109), none, .pick (.tmp 103) (.tmp 108) (.const (.bool false))⟩,
    ⟨(some 4), none, .mov (.tmp 109)⟩]

def f3b : ACode := (.seq (.ops f3r0)
  (.keep [1, 2] (.seq (.seq (.ops f3r1)
  (.keep [1, 2, 19] (.cond (.tmp 19) (.keep [] (.seq (.ops f3r2)
  (.keep [4] .ret))) .skip)))
  (.keep [1, 2] (.seq (.ops f3r3)
  (.keep [1, 2, 5, 6] (.seq (.seq (.ops f3r4)
  (.keep [1, 2, 5, 31] (.cond (.tmp 31) (.keep [] (.seq (.ops f3r5)
  (.keep [4] .ret))) .skip)))
  (.keep [1, 2, 5] (.seq (.ops f3r6)
  (.keep [1, 2, 5, 7] (.seq (.ops f3r7)
  (.keep [1, 2, 5, 7] (.seq (.ops f3r8)
  (.keep [1, 2, 5, 7, 8] (.seq (.seq (.ops f3r9)
  (.keep [1, 2, 5, 8, 36, 37, 38] (.block 0 (.loop f3l0))))
  (.keep [1, 2, 5, 8] (.seq (.ops f3r17)
  (.keep [1, 2, 8, 11, 12] (.seq (.ops f3r18)
  (.keep [1, 2, 12, 13, 14] (.seq (.ops f3r19)
  (.keep [12, 13, 14, 15, 16, 17] (.seq (.seq (.ops f3r20)
  (.keep [13, 14, 15, 16, 96] (.cond (.tmp 96) (.keep [] (.seq (.ops f3r21)
  (.keep [4] .ret))) .skip)))
  (.keep [13, 14, 15, 16] (.seq (.ops f3r22)
  (.keep [4] .ret))))))))))))))))))))))))))

def f3 : AFn := ⟨110, [.tmp 4], f3b⟩

theorem f3_ok : compFn Tryz.prog 3 = some f3.strip := by kernel_rfl

/- function 4: weirhouse/weirhousetop.alive; parameters 0; operations that are not compiled: 0 -/
def f4r0 : List AInstr := [
    ⟨(some 0), none, .mov (.const (.bool false))⟩]

def f4r1s0 : ByteArray := ⟨#[114, 97, 116, 101, 32, 49, 32, 49, 32, 49, 53, 48, 48, 10, 105, 110, 32, 55, 48, 48, 10, 112, 111, 108, 108, 32, 54, 57, 57, 10, 112, 111, 108, 108, 32, 55, 48, 48, 10]⟩

def f4r1 : List AInstr := [
    ⟨(some 4), none, .callF 13 [.const (.string f4r1s0)]⟩,
    ⟨(some 3), none, .mov (.tmp 4)⟩,
    ⟨(some 5), none, .extract 0 (.tmp 3)⟩,
    ⟨(some 6), none, .extract 1 (.tmp 3)⟩,
    ⟨(some 1), none, .mov (.tmp 5)⟩,
    ⟨(some 2), none, .mov (.tmp 6)⟩]

def f4r2 : List AInstr := [
    ⟨(some 7), none, .mov (.tmp 2)⟩,
    ⟨(some 8), none, .ibin .eql (.tmp 7) (.const (.int .i64 0))⟩,
    ⟨(some 9), none, .mov (.tmp 8)⟩,
    ⟨(some 10), (some (9, true)), .mov (.tmp 1)⟩,
    ⟨(some 11), (some (9, true)), .buildSlice 1 4 [.string ⟨#[]⟩, .string ⟨#[]⟩, .string ⟨#[]⟩, .string ⟨#[]⟩] [(0, 1, (.const (.string ⟨#[111, 107]⟩))), (1, 1, (.const (.string ⟨#[115, 101, 110, 116]⟩))), (2, 1, (.const (.string ⟨#[115, 101, 110, 116, 32, 55, 48, 48]⟩))), (3, 1, (.const (.string ⟨#[108, 101, 102, 116, 32, 48, 32, 48, 32, 55, 48, 48, 32, 56, 48, 48, 32, 48]⟩)))]⟩,
    ⟨(some 12), (some (9, true)), .callF 14 [.tmp 10, .tmp 11]⟩,
    ⟨(some 13), none, .pick (.tmp 9) (.tmp 12) (.const (.bool false))⟩,
    ⟨(some 0), none, .mov (.tmp 13)⟩]

def f4b : ACode := (.seq (.ops f4r0)
  (.keep [] (.seq (.ops f4r1)
  (.keep [1, 2] (.seq (.ops f4r2)
  (.keep [0] .ret))))))

def f4 : AFn := ⟨14, [.tmp 0], f4b⟩

theorem f4_ok : compFn Tryz.prog 4 = some f4.strip := by kernel_rfl

/- function 5: weirhouse/head.Write; parameters 1; operations that are not compiled: 0 -/
def f5r0 : List AInstr := [
    ⟨(some 1), none, .box (.tmp 0)⟩,
    ⟨(some 2), none, .mov (.const (.slice none 0 0))⟩,
    ⟨(some 3), none, .mov (.const (.int .i64 0))⟩]

def f5r1 : List AInstr := [
    ⟨(some 10), none, .load (some 13) (.tmp 1)⟩,
    ⟨(some 11), none, .callF 15 [.tmp 10]⟩,
    ⟨(some 4), none, .mov (.tmp 11)⟩]

def f5r2 : List AInstr := [
    ⟨(some 12), none, .mov (.tmp 4)⟩,
    ⟨(some 13), none, .ibin .neq (.tmp 12) (.const (.int .i64 0))⟩]

def f5r3 : List AInstr := [
    ⟨(some 14), none, .mov (.tmp 4)⟩,
    ⟨(some 2), none, .mov (.const (.slice none 0 0))⟩,
    ⟨(some 3), none, .mov (.tmp 14)⟩]

def f5r4 : List AInstr := [
    ⟨(some 15), none, .fieldAddr 11 (.tmp 1)⟩,
    ⟨(some 16), none, .load none (.tmp 15)⟩,
    ⟨(some 17), none, .makeSlice 1 1 [.int .u8 0] (.tmp 16) (.tmp 16)⟩,
    ⟨(some 5), none, .mov (.tmp 17)⟩]

def f5r5 : List AInstr := [
    ⟨(some 18), none, .mov (.tmp 5)⟩,
    ⟨(some 19), none, .mov (.tmp 5)⟩,
    ⟨(some 20), none, .fieldAddr 12 (.tmp 1)⟩,
    ⟨(some 21), none, .load none (.tmp 20)⟩,
    ⟨(some 22), none, .ibin .shl (.tmp 21) (.const (.int .u64 2))⟩,
    ⟨(some 23), none, .conv .u8 (.tmp 22)⟩,
    ⟨(some 24), none, .indexAddr 1 (.tmp 18) (.const (.int .i64 0))⟩,
    ⟨none, none, .store 1 (.tmp 24) (.const (.int .u8 69))⟩,
    ⟨(some 25), none, .indexAddr 1 (.tmp 19) (.const (.int .i64 1))⟩,
    ⟨none, none, .store 1 (.tmp 25) (.tmp 23)⟩]

def f5r6 : List AInstr := [
    ⟨(some 26), none, .mov (.tmp 5)⟩,
    ⟨(some 27), none, .mov (.tmp 5)⟩,
    ⟨(some 28), none, .fieldAddr 11 (.tmp 1)⟩,
    ⟨(some 29), none, .load none (.tmp 28)⟩,
    ⟨(some 30), none, .ibin .shr (.tmp 29) (.const (.int .u64 8))⟩,
    ⟨(some 31), none, .conv .u8 (.tmp 30)⟩,
    ⟨(some 32), none, .fieldAddr 11 (.tmp 1)⟩,
    ⟨(some 33), none, .load none (.tmp 32)⟩,
    ⟨(some 34), none, .conv .u8 (.tmp 33)⟩,
    ⟨(some 35), none, .indexAddr 1 (.tmp 26) (.const (.int .i64 2))⟩,
    ⟨none, none, .store 1 (.tmp 35) (.tmp 31)⟩,
    ⟨(some 36), none, .indexAddr 1 (.tmp 27) (.const (.int .i64 3))⟩,
    ⟨none, none, .store 1 (.tmp 36) (.tmp 34)⟩]

def f5r7 : List AInstr := [
    ⟨(some 37), none, .mov (.tmp 5)⟩,
    ⟨(some 38), none, .mov (.tmp 5)⟩,
    ⟨(some 39), none, .fieldAddr 8 (.tmp 1)⟩,
    ⟨(some 40), none, .load none (.tmp 39)⟩,
    ⟨(some 41), none, .conv .u8 (.tmp 40)⟩,
    ⟨(some 42), none, .indexAddr 1 (.tmp 37) (.const (.int .i64 8))⟩,
    ⟨none, none, .store 1 (.tmp 42) (.const (.int .u8 64))⟩,
    ⟨(some 43), none, .indexAddr 1 (.tmp 38) (.const (.int .i64 9))⟩,
    ⟨none, none, .store 1 (.tmp 43) (.tmp 41)⟩]

def f5r8 : List AInstr := [
    ⟨(some 44), none, .fieldAddr 0 (.tmp 1)⟩,
    ⟨(some 45), none, .sliceA 1 4 (.tmp 44) none none⟩,
    ⟨(some 46), none, .fieldAddr 4 (.tmp 1)⟩,
    ⟨(some 47), none, .sliceA 1 4 (.tmp 46) none none⟩,
    ⟨(some 48), none, .buildSlice 1 2 [.slice none 0 0, .slice none 0 0] [(0, 1, (.tmp 45)), (1, 1, (.tmp 47))]⟩,
    ⟨(some 49), none, .callF 16 [.tmp 48]⟩,
    ⟨(some 6), none, .mov (.tmp 49)⟩]

def f5r9 : List AInstr := [
    ⟨(some 50), none, .mov (.tmp 6)⟩,
    ⟨(some 51), none, .len (.tmp 50)⟩,
    ⟨(some 52), none, .mov (.const (.int .i64 0))⟩]

def f5r10 : List AInstr := [
    ⟨(some 53), none, .ibin .lss (.tmp 52) (.tmp 51)⟩]

def f5r11 : List AInstr := [
    ⟨(some 54), none, .mov (.tmp 52)⟩,
    ⟨(some 55), none, .indexAddr 1 (.tmp 50) (.tmp 52)⟩,
    ⟨(some 56), none, .load none (.tmp 55)⟩,
    ⟨(some 7), none, .mov (.tmp 54)⟩,
    ⟨(some 8), none, .mov (.tmp 56)⟩]

def f5r12 : List AInstr := [
    ⟨(some 57), none, .mov (.tmp 5)⟩,
    ⟨(some 58), none, .mov (.tmp 7)⟩,
    ⟨(some 59), none, .ibin .add (.const (.int .i64 12)) (.tmp 58)⟩,
    ⟨(some 60), none, .mov (.tmp 8)⟩,
    ⟨(some 61), none, .indexAddr 1 (.tmp 57) (.tmp 59)⟩,
    ⟨none, none, .store 1 (.tmp 61) (.tmp 60)⟩]

def f5r13 : List AInstr := [
    ⟨(some 62), none, .ibin .add (.tmp 52) (.const (.int .i64 1))⟩,
    ⟨(some 52), none, .mov (.tmp 62)⟩]

/-- live: [1, 5, 50, 51, 52] -/
def f5l0 : ACode := (.seq (.ops f5r10)
  (.keep [1, 5, 50, 51, 52, 53] (.seq (.cond (.tmp 53) .skip (.exit 0))
  (.keep [1, 5, 50, 51, 52] (.seq (.block 1 (.seq (.ops f5r11)
  (.keep [1, 5, 7, 8, 50, 51, 52] (.ops f5r12))))
  (.keep [1, 5, 50, 51, 52] (.ops f5r13)))))))

def f5r15 : List AInstr := [
    ⟨(some 63), none, .mov (.tmp 5)⟩,
    ⟨(some 64), none, .slice 1 (.tmp 63) none (some (.const (.int .i64 20))) none⟩,
    ⟨(some 65), none, .callF 17 [.tmp 64]⟩,
    ⟨(some 9), none, .mov (.tmp 65)⟩]

def f5r16 : List AInstr := [
    ⟨(some 66), none, .mov (.tmp 5)⟩,
    ⟨(some 67), none, .mov (.tmp 5)⟩,
    ⟨(some 68), none, .mov (.tmp 9)⟩,
    ⟨(some 69), none, .ibin .shr (.tmp 68) (.const (.int .u64 8))⟩,
    ⟨(some 70), none, .conv .u8 (.tmp 69)⟩,
    ⟨(some 71), none, .mov (.tmp 9)⟩,
    ⟨(some 72), none, .conv .u8 (.tmp 71)⟩,
    ⟨(some 73), none, .indexAddr 1 (.tmp 66) (.const (.int .i64 10))⟩,
    ⟨none, none, .store 1 (.tmp 73) (.tmp 70)⟩,
    ⟨(some 74), none, .indexAddr 1 (.tmp 67) (.const (.int .i64 11))⟩,
    ⟨none, none, .store 1 (.tmp 74) (.tmp 72)⟩]

def f5r17 : List AInstr := [
    ⟨(some 75), none, .fieldAddr 8 (.tmp 1)⟩,
    ⟨(some 76), none, .load none (.tmp 75)⟩,
    ⟨(some 77), none, .ibin .eql (.tmp 76) (.const (.int .i64 6))⟩,
    ⟨(some 78), none, .mov (.tmp 77)⟩,
    ⟨(some 79), (some (78, false)), .fieldAddr 8 (.tmp 1)⟩,
    ⟨(some 80), (some (78, false)), .load none (.tmp 79)⟩,
    ⟨(some 81), (some (78, false)), .ibin .eql (.tmp 80) (.const (.int .i64 17))⟩,
    ⟨(some 82), none, .pick (.tmp 78) (.const (.bool true)) (.tmp 81)⟩]

def f5r18 : List AInstr := [
    ⟨(some 83), none, .mov (.tmp 5)⟩,
    ⟨(some 84), none, .mov (.tmp 5)⟩,
    ⟨(some 85), none, .fieldAddr 9 (.tmp 1)⟩,
    ⟨(some 86), none, .load none (.tmp 85)⟩,
    ⟨(some 87), none, .ibin .shr (.tmp 86) (.const (.int .u64 8))⟩,
    ⟨(some 88), none, .conv .u8 (.tmp 87)⟩,
    ⟨(some 89), none, .fieldAddr 9 (.tmp 1)⟩,
    ⟨(some 90), none, .load none (.tmp 89)⟩,
    ⟨(some 91), none, .conv .u8 (.tmp 90)⟩,
    ⟨(some 92), none, .indexAddr 1 (.tmp 83) (.const (.int .i64 20))⟩,
    ⟨none, none, .store 1 (.tmp 92) (.tmp 88)⟩,
    ⟨(some 93), none, .indexAddr 1 (.tmp 84) (.const (.int .i64 21))⟩,
    ⟨none, none, .store 1 (.tmp 93) (.tmp 91)⟩]

def f5r19 : List AInstr := [
    ⟨(some 94), none, .mov (.tmp 5)⟩,
    ⟨(some 95), none, .mov (.tmp 5)⟩,
    ⟨(some 96), none, .fieldAddr 10 (.tmp 1)⟩,
    ⟨(some 97), none, .load none (.tmp 96)⟩,
    ⟨(some 98), none, .ibin .shr (.tmp 97) (.const (.int .u64 8))⟩,
    ⟨(some 99), none, .conv .u8 (.tmp 98)⟩,
    ⟨(some 100), none, .fieldAddr 10 (.tmp 1)⟩,
    ⟨(some 101), none, .load none (.tmp 100)⟩,
    ⟨(some 102), none, .conv .u8 (.tmp 101)⟩,
    ⟨(some 103), none, .indexAddr 1 (.tmp 94) (.const (.int .i64 22))⟩,
    ⟨none, none, .store 1 (.tmp 103) (.tmp 99)⟩,
    ⟨(some 104), none, .indexAddr 1 (.tmp 95) (.const (.int .i64 23))⟩,
    ⟨none, none, .store 1 (.tmp 104) (.tmp 102)⟩]

def f5r20 : List AInstr := [
    ⟨(some 105), none, .mov (.tmp 5)⟩,
    ⟨(some 2), none, .mov (.tmp 105)⟩,
    ⟨(some 3), none, .mov (.const (.int .i64 0))⟩]

def f5b : ACode := (.seq (.ops f5r0)
  (.keep [1] (.seq (.seq (.ops f5r1)
  (.keep [1, 4] (.seq (.ops f5r2)
  (.keep [1, 4, 13] (.cond (.tmp 13) (.keep [4] (.seq (.ops f5r3)
  (.keep [2, 3] .ret))) .skip)))))
  (.keep [1] (.seq (.ops f5r4)
  (.keep [1, 5] (.seq (.ops f5r5)
  (.keep [1, 5] (.seq (.ops f5r6)
  (.keep [1, 5] (.seq (.ops f5r7)
  (.keep [1, 5] (.seq (.draw f5r8 [(0, 0, false), (0, 0, false), (0, 0, false), (0, 0, false), (0, 0, true), (1, 0, true), (2, 2, false)])
  (.keep [1, 5, 6] (.seq (.seq (.ops f5r9)
  (.keep [1, 5, 50, 51, 52] (.block 0 (.loop f5l0))))
  (.keep [1, 5] (.seq (.ops f5r15)
  (.keep [1, 5, 9] (.seq (.ops f5r16)
  (.keep [1, 5] (.seq (.seq (.ops f5r17)
  (.keep [1, 5, 82] (.cond (.tmp 82) (.keep [1, 5] (.seq (.ops f5r18)
  (.keep [1, 5] (.ops f5r19)))) .skip)))
  (.keep [5] (.seq (.ops f5r20)
  (.keep [2, 3] .ret))))))))))))))))))))))))

def f5 : AFn := ⟨106, [.tmp 2, .tmp 3], f5b⟩

theorem f5_ok : compFn Tryz.prog 5 = some f5.strip := by kernel_rfl

/- function 6: weirhouse/trie.Wrong; parameters 1; operations that are not compiled: 0 -/
def f6r0 : List AInstr := [
    ⟨(some 2), none, .mov (.const (.int .i64 0))⟩]

def f6r1 : List AInstr := [
    ⟨(some 8), none, .mov (.tmp 0)⟩,
    ⟨(some 9), none, .len (.tmp 8)⟩,
    ⟨(some 10), none, .ibin .gtr (.tmp 9) (.const (.int .i64 400))⟩]

def f6r2 : List AInstr := [
    ⟨(some 2), none, .mov (.const (.int .i64 2))⟩]

def f6r3 : List AInstr := [
    ⟨(some 11), none, .mov (.tmp 0)⟩,
    ⟨(some 12), none, .len (.tmp 11)⟩,
    ⟨(some 13), none, .mov (.const (.int .i64 0))⟩]

def f6r4 : List AInstr := [
    ⟨(some 14), none, .ibin .lss (.tmp 13) (.tmp 12)⟩]

def f6r5 : List AInstr := [
    ⟨(some 15), none, .mov (.tmp 13)⟩,
    ⟨(some 16), none, .indexAddr 6 (.tmp 11) (.tmp 13)⟩,
    ⟨(some 17), none, .load (some 6) (.tmp 16)⟩,
    ⟨(some 4), none, .alloc [.int .u8 0, .int .u8 0, .int .u8 0, .int .u8 0, .int .i64 0, .int .i64 0]⟩,
    ⟨(some 3), none, .mov (.tmp 15)⟩,
    ⟨none, none, .store 6 (.tmp 4) (.tmp 17)⟩]

def f6r6 : List AInstr := [
    ⟨(some 18), none, .fieldAddr 4 (.tmp 4)⟩,
    ⟨(some 19), none, .load none (.tmp 18)⟩,
    ⟨(some 20), none, .ibin .lss (.tmp 19) (.const (.int .i64 0))⟩,
    ⟨(some 21), none, .mov (.tmp 20)⟩,
    ⟨(some 22), (some (21, false)), .fieldAddr 4 (.tmp 4)⟩,
    ⟨(some 23), (some (21, false)), .load none (.tmp 22)⟩,
    ⟨(some 24), (some (21, false)), .ibin .gtr (.tmp 23) (.const (.int .i64 32))⟩,
    ⟨(some 25), none, .pick (.tmp 21) (.const (.bool true)) (.tmp 24)⟩]

def f6r7 : List AInstr := [
    ⟨(some 2), none, .mov (.const (.int .i64 2))⟩]

def f6r8 : List AInstr := [
    ⟨(some 26), none, .fieldAddr 4 (.tmp 4)⟩,
    ⟨(some 27), none, .load none (.tmp 26)⟩,
    ⟨(some 5), none, .mov (.tmp 27)⟩]

def f6r9 : List AInstr := [
    ⟨(some 28), none, .mov (.tmp 5)⟩,
    ⟨(some 29), none, .ibin .lss (.tmp 28) (.const (.int .i64 32))⟩]

def f6r10 : List AInstr := [
    ⟨(some 32), none, .fieldAddr 0 (.tmp 4)⟩,
    ⟨(some 33), none, .load (some 4) (.tmp 32)⟩,
    ⟨(some 34), none, .mov (.tmp 5)⟩,
    ⟨(some 35), none, .callF 18 [.tmp 33, .tmp 34]⟩,
    ⟨(some 36), none, .ibin .eql (.tmp 35) (.const (.int .u8 1))⟩]

def f6r11 : List AInstr := [
    ⟨(some 2), none, .mov (.const (.int .i64 1))⟩]

def f6r12 : List AInstr := [
    ⟨(some 30), none, .mov (.tmp 5)⟩,
    ⟨(some 31), none, .ibin .add (.tmp 30) (.const (.int .i64 1))⟩,
    ⟨(some 5), none, .mov (.tmp 31)⟩]

/-- live: [0, 3, 4, 5, 11, 12, 13] -/
def f6l0 : ACode := (.seq (.seq (.ops f6r9)
  (.keep [0, 3, 4, 5, 11, 12, 13, 29] (.cond (.tmp 29) .skip (.exit 2))))
  (.keep [0, 3, 4, 5, 11, 12, 13] (.seq (.block 3 (.seq (.ops f6r10)
  (.keep [0, 3, 4, 5, 11, 12, 13, 36] (.cond (.tmp 36) (.keep [] (.seq (.ops f6r11)
  (.keep [2] .ret))) .skip))))
  (.keep [0, 3, 4, 5, 11, 12, 13] (.ops f6r12)))))

def f6r14 : List AInstr := [
    ⟨(some 37), none, .mov (.tmp 0)⟩,
    ⟨(some 38), none, .mov (.tmp 3)⟩,
    ⟨(some 39), none, .slice 6 (.tmp 37) none (some (.tmp 38)) none⟩,
    ⟨(some 40), none, .len (.tmp 39)⟩,
    ⟨(some 41), none, .mov (.const (.int .i64 0))⟩]

def f6r15 : List AInstr := [
    ⟨(some 42), none, .ibin .lss (.tmp 41) (.tmp 40)⟩]

def f6r16 : List AInstr := [
    ⟨(some 43), none, .indexAddr 6 (.tmp 39) (.tmp 41)⟩,
    ⟨(some 44), none, .load (some 6) (.tmp 43)⟩,
    ⟨(some 7), none, .alloc [.int .u8 0, .int .u8 0, .int .u8 0, .int .u8 0, .int .i64 0, .int .i64 0]⟩,
    ⟨none, none, .store 6 (.tmp 7) (.tmp 44)⟩]

def f6r17 : List AInstr := [
    ⟨(some 45), none, .fieldAddr 4 (.tmp 7)⟩,
    ⟨(some 46), none, .load none (.tmp 45)⟩,
    ⟨(some 47), none, .fieldAddr 4 (.tmp 4)⟩,
    ⟨(some 48), none, .load none (.tmp 47)⟩,
    ⟨(some 49), none, .ibin .eql (.tmp 46) (.tmp 48)⟩,
    ⟨(some 50), none, .mov (.tmp 49)⟩,
    ⟨(some 51), (some (50, true)), .fieldAddr 0 (.tmp 7)⟩,
    ⟨(some 52), (some (50, true)), .load (some 4) (.tmp 51)⟩,
    ⟨(some 53), (some (50, true)), .fieldAddr 0 (.tmp 4)⟩,
    ⟨(some 54), (some (50, true)), .load (some 4) (.tmp 53)⟩,
    ⟨(some 55), (some (50, true)), .eqA false [false, false, false, false] (.tmp 52) (.tmp 54)⟩,
    ⟨(some 56), none, .pick (.tmp 50) (.tmp 55) (.const (.bool false))⟩]

def f6r18 : List AInstr := [
    ⟨(some 2), none, .mov (.const (.int .i64 6))⟩]

def f6r19 : List AInstr := [
    ⟨(some 57), none, .ibin .add (.tmp 41) (.const (.int .i64 1))⟩,
    ⟨(some 41), none, .mov (.tmp 57)⟩]

/-- live: [0, 4, 11, 12, 13, 39, 40, 41] -/
def f6l1 : ACode := (.seq (.ops f6r15)
  (.keep [0, 4, 11, 12, 13, 39, 40, 41, 42] (.seq (.cond (.tmp 42) .skip (.exit 4))
  (.keep [0, 4, 11, 12, 13, 39, 40, 41] (.seq (.block 5 (.seq (.ops f6r16)
  (.keep [0, 4, 7, 11, 12, 13, 39, 40, 41] (.seq (.ops f6r17)
  (.keep [0, 4, 11, 12, 13, 39, 40, 41, 56] (.cond (.tmp 56) (.keep [] (.seq (.ops f6r18)
  (.keep [2] .ret))) .skip))))))
  (.keep [0, 4, 11, 12, 13, 39, 40, 41] (.ops f6r19)))))))

def f6r21 : List AInstr := [
    ⟨(some 58), none, .ibin .add (.tmp 13) (.const (.int .i64 1))⟩,
    ⟨(some 13), none, .mov (.tmp 58)⟩]

/-- live: [0, 11, 12, 13] -/
def f6l2 : ACode := (.seq (.ops f6r4)
  (.keep [0, 11, 12, 13, 14] (.seq (.cond (.tmp 14) .skip (.exit 0))
  (.keep [0, 11, 12, 13] (.seq (.block 1 (.seq (.ops f6r5)
  (.keep [0, 3, 4, 11, 12, 13] (.seq (.seq (.ops f6r6)
  (.keep [0, 3, 4, 11, 12, 13, 25] (.cond (.tmp 25) (.keep [] (.seq (.ops f6r7)
  (.keep [2] .ret))) .skip)))
  (.keep [0, 3, 4, 11, 12, 13] (.seq (.seq (.ops f6r8)
  (.keep [0, 3, 4, 5, 11, 12, 13] (.block 2 (.loop f6l0))))
  (.keep [0, 3, 4, 11, 12, 13] (.seq (.ops f6r14)
  (.keep [0, 4, 11, 12, 13, 39, 40, 41] (.block 4 (.loop f6l1)))))))))))
  (.keep [0, 11, 12, 13] (.ops f6r21)))))))

def f6r23 : List AInstr := [
    ⟨(some 2), none, .mov (.const (.int .i64 0))⟩]

def f6b : ACode := (.seq (.ops f6r0)
  (.keep [0] (.seq (.seq (.ops f6r1)
  (.keep [0, 10] (.cond (.tmp 10) (.keep [] (.seq (.ops f6r2)
  (.keep [2] .ret))) .skip)))
  (.keep [0] (.seq (.seq (.ops f6r3)
  (.keep [0, 11, 12, 13] (.block 0 (.loop f6l2))))
  (.keep [] (.seq (.ops f6r23)
  (.keep [2] .ret))))))))

def f6 : AFn := ⟨59, [.tmp 2], f6b⟩

theorem f6_ok : compFn Tryz.prog 6 = some f6.strip := by kernel_rfl

/- function 7: slices.Clone[[]weirhouse/api.Prefix,weirhouse/api.Prefix]; parameters 1; operations that are not compiled: 0 -/
def f7r0 : List AInstr := [
    ⟨(some 2), none, .mov (.const (.slice none 0 0))⟩]

def f7r1 : List AInstr := [
    ⟨(some 3), none, .mov (.tmp 0)⟩,
    ⟨(some 4), none, .eqS false (.tmp 3) (.const (.slice none 0 0))⟩]

def f7r2 : List AInstr := [
    ⟨(some 2), none, .mov (.const (.slice none 0 0))⟩]

def f7r3 : List AInstr := [
    ⟨(some 5), none, .buildSlice 6 0 [] []⟩,
    ⟨(some 6), none, .mov (.tmp 0)⟩,
    ⟨(some 7), none, .append 6 24 (.tmp 5) (.tmp 6)⟩,
    ⟨(some 2), none, .mov (.tmp 7)⟩]

def f7b : ACode := (.seq (.ops f7r0)
  (.keep [0] (.seq (.seq (.ops f7r1)
  (.keep [0, 4] (.cond (.tmp 4) (.keep [] (.seq (.ops f7r2)
  (.keep [2] .ret))) .skip)))
  (.keep [0] (.seq (.ops f7r3)
  (.keep [2] .ret))))))

def f7 : AFn := ⟨8, [.tmp 2], f7b⟩

theorem f7_ok : compFn Tryz.prog 7 = some f7.strip := by kernel_rfl

/- function 8: slices.SortStableFunc[[]weirhouse/api.Prefix,weirhouse/api.Prefix]; parameters 2; operations that are not compiled: 0 -/
def f8r0 : List AInstr := [
    ⟨(some 4), none, .mov (.tmp 0)⟩,
    ⟨(some 5), none, .mov (.tmp 0)⟩,
    ⟨(some 6), none, .len (.tmp 5)⟩,
    ⟨(some 7), none, .mov (.tmp 1)⟩,
    ⟨(some 8), none, .callF 19 [.tmp 4, .tmp 6, .tmp 7]⟩]

def f8b : ACode := (.ops f8r0)

def f8 : AFn := ⟨9, [], f8b⟩

theorem f8_ok : compFn Tryz.prog 8 = some f8.strip := by kernel_rfl

/- function 9: weirhouse/weirhousetop.TopClass$1; parameters 2; operations that are not compiled: 0 -/
def f9r0 : List AInstr := [
    ⟨(some 2), none, .box (.tmp 0)⟩,
    ⟨(some 3), none, .box (.tmp 1)⟩,
    ⟨(some 4), none, .mov (.const (.int .i64 0))⟩]

def f9r1 : List AInstr := [
    ⟨(some 5), none, .fieldAddr 4 (.tmp 3)⟩,
    ⟨(some 6), none, .load none (.tmp 5)⟩,
    ⟨(some 7), none, .fieldAddr 4 (.tmp 2)⟩,
    ⟨(some 8), none, .load none (.tmp 7)⟩,
    ⟨(some 9), none, .ibin .sub (.tmp 6) (.tmp 8)⟩,
    ⟨(some 4), none, .mov (.tmp 9)⟩]

def f9b : ACode := (.seq (.ops f9r0)
  (.keep [2, 3] (.seq (.ops f9r1)
  (.keep [4] .ret))))

def f9 : AFn := ⟨10, [.tmp 4], f9b⟩

theorem f9_ok : compFn Tryz.prog 9 = some f9.strip := by kernel_rfl

/- function 10: weirhouse/head.Read; parameters 1; operations that are not compiled: 0 -/
def f10r0 : List AInstr := [
    ⟨(some 1), none, .box (.tmp 0)⟩,
    ⟨(some 2), none, .alloc [.int .u8 0, .int .u8 0, .int .u8 0, .int .u8 0, .int .u8 0, .int .u8 0, .int .u8 0, .int .u8 0, .int .i64 0, .int .i64 0, .int .i64 0, .int .i64 0, .int .i64 0]⟩,
    ⟨(some 3), none, .mov (.const (.int .i64 0))⟩]

def f10r1 : List AInstr := [
    ⟨(some 4), none, .mov (.const (.func (.func 20) #[] #[]))⟩]

def f10r2 : List AInstr := [
    ⟨(some 10), none, .load none (.tmp 1)⟩,
    ⟨(some 11), none, .len (.tmp 10)⟩,
    ⟨(some 12), none, .ibin .lss (.tmp 11) (.const (.int .i64 20))⟩]

def f10r3 : List AInstr := [
    ⟨(some 13), none, .mov (.tmp 4)⟩,
    ⟨(some 14), none, .callV (.tmp 13) [.const (.int .i64 8)]⟩,
    ⟨(some 15), none, .extract 0 (.tmp 14)⟩,
    ⟨(some 16), none, .extract 1 (.tmp 14)⟩,
    ⟨none, none, .store 13 (.tmp 2) (.tmp 15)⟩,
    ⟨(some 3), none, .mov (.tmp 16)⟩]

def f10r4 : List AInstr := [
    ⟨(some 17), none, .load none (.tmp 1)⟩,
    ⟨(some 18), none, .indexAddr 1 (.tmp 17) (.const (.int .i64 0))⟩,
    ⟨(some 19), none, .load none (.tmp 18)⟩,
    ⟨(some 20), none, .ibin .shr (.tmp 19) (.const (.int .u64 4))⟩,
    ⟨(some 21), none, .ibin .neq (.tmp 20) (.const (.int .u8 4))⟩,
    ⟨(some 22), none, .mov (.tmp 21)⟩,
    ⟨(some 23), (some (22, false)), .load none (.tmp 1)⟩,
    ⟨(some 24), (some (22, false)), .indexAddr 1 (.tmp 23) (.const (.int .i64 0))⟩,
    ⟨(some 25), (some (22, false)), .load none (.tmp 24)⟩,
    ⟨(some 26), (some (22, false)), .ibin .and (.tmp 25) (.const (.int .u8 15))⟩,
    ⟨(some 27), (some (22, false)), .ibin .lss (.tmp 26) (.const (.int .u8 5))⟩,
    ⟨(some 28), none, .pick (.tmp 22) (.const (.bool true)) (.tmp 27)⟩]

def f10r5 : List AInstr := [
    ⟨(some 29), none, .mov (.tmp 4)⟩,
    ⟨(some 30), none, .callV (.tmp 29) [.const (.int .i64 1)]⟩,
    ⟨(some 31), none, .extract 0 (.tmp 30)⟩,
    ⟨(some 32), none, .extract 1 (.tmp 30)⟩,
    ⟨none, none, .store 13 (.tmp 2) (.tmp 31)⟩,
    ⟨(some 3), none, .mov (.tmp 32)⟩]

def f10r6 : List AInstr := [
    ⟨(some 33), none, .load none (.tmp 1)⟩,
    ⟨(some 34), none, .indexAddr 1 (.tmp 33) (.const (.int .i64 0))⟩,
    ⟨(some 35), none, .load none (.tmp 34)⟩,
    ⟨(some 36), none, .ibin .and (.tmp 35) (.const (.int .u8 15))⟩,
    ⟨(some 37), none, .conv .i64 (.tmp 36)⟩,
    ⟨(some 38), none, .ibin .mul (.const (.int .i64 4)) (.tmp 37)⟩,
    ⟨(some 5), none, .mov (.tmp 38)⟩]

def f10r7 : List AInstr := [
    ⟨(some 39), none, .func (.func 21) [] [.tmp 1]⟩,
    ⟨(some 6), none, .mov (.tmp 39)⟩]

def f10r8 : List AInstr := [
    ⟨(some 40), none, .load none (.tmp 1)⟩,
    ⟨(some 41), none, .indexAddr 1 (.tmp 40) (.const (.int .i64 9))⟩,
    ⟨(some 42), none, .load none (.tmp 41)⟩,
    ⟨(some 43), none, .conv .i64 (.tmp 42)⟩,
    ⟨(some 44), none, .mov (.tmp 6)⟩,
    ⟨(some 46), none, .load none (.tmp 1)⟩,
    ⟨(some 47), none, .indexAddr 1 (.tmp 46) (.const (.int .i64 1))⟩,
    ⟨(some 48), none, .load none (.tmp 47)⟩,
    ⟨(some 49), none, .ibin .shr (.tmp 48) (.const (.int .u64 2))⟩,
    ⟨(some 50), none, .conv .i64 (.tmp 49)⟩,
    ⟨(some 45), none, .callV (.tmp 44) [.const (.int .i64 2)]⟩,
    ⟨(some 51), none, .build [.int .u8 0, .int .u8 0, .int .u8 0, .int .u8 0, .int .u8 0, .int .u8 0, .int .u8 0, .int .u8 0, .int .i64 0, .int .i64 0, .int .i64 0, .int .i64 0, .int .i64 0] [(8, 1, (.tmp 43)), (11, 1, (.tmp 45)), (12, 1, (.tmp 50))]⟩,
    ⟨(some 7), none, .alloc [.int .u8 0, .int .u8 0, .int .u8 0, .int .u8 0, .int .u8 0, .int .u8 0, .int .u8 0, .int .u8 0, .int .i64 0, .int .i64 0, .int .i64 0, .int .i64 0, .int .i64 0]⟩,
    ⟨none, none, .store 13 (.tmp 7) (.tmp 51)⟩]

def f10r9 : List AInstr := [
    ⟨(some 40), none, .load none (.tmp 1)⟩,
    ⟨(some 41), none, .indexAddr 1 (.tmp 40) (.const (.int .i64 9))⟩,
    ⟨(some 42), none, .load none (.tmp 41)⟩,
    ⟨(some 43), none, .conv .i64 (.tmp 42)⟩,
    ⟨(some 44), none, .mov (.tmp 6)⟩,
    ⟨(some 46), none, .load none (.tmp 1)⟩,
    ⟨(some 47), none, .indexAddr 1 (.tmp 46) (.const (.int .i64 1))⟩,
    ⟨(some 48), none, .load none (.tmp 47)⟩,
    ⟨(some 49), none, .ibin .shr (.tmp 48) (.const (.int .u64 2))⟩,
    ⟨(some 50), none, .conv .i64 (.tmp 49)⟩,
    ⟨(some 7), none, .alloc [.int .u8 0, .int .u8 0, .int .u8 0, .int .u8 0, .int .u8 0, .int .u8 0, .int .u8 0, .int .u8 0, .int .i64 0, .int .i64 0, .int .i64 0, .int .i64 0, .int .i64 0]⟩,
    ⟨(some 45), none, .callV (.tmp 44) [.const (.int .i64 2)]⟩,
    ⟨(some 51), none, .build [.int .u8 0, .int .u8 0, .int .u8 0, .int .u8 0, .int .u8 0, .int .u8 0, .int .u8 0, .int .u8 0, .int .i64 0, .int .i64 0, .int .i64 0, .int .i64 0, .int .i64 0] [(8, 1, (.tmp 43)), (11, 1, (.tmp 45)), (12, 1, (.tmp 50))]⟩,
    ⟨none, none, .store 13 (.tmp 7) (.tmp 51)⟩]

def f10r10 : List AInstr := [
    ⟨(some 52), none, .mov (.const (.int .i64 0))⟩]

def f10r11 : List AInstr := [
    ⟨(some 53), none, .ibin .lss (.tmp 52) (.const (.int .i64 4))⟩]

def f10r12 : List AInstr := [
    ⟨(some 54), none, .mov (.tmp 52)⟩,
    ⟨(some 8), none, .mov (.tmp 54)⟩]

def f10r13 : List AInstr := [
    ⟨(some 55), none, .mov (.tmp 8)⟩,
    ⟨(some 56), none, .mov (.tmp 8)⟩,
    ⟨(some 57), none, .load none (.tmp 1)⟩,
    ⟨(some 58), none, .mov (.tmp 8)⟩,
    ⟨(some 59), none, .ibin .add (.const (.int .i64 12)) (.tmp 58)⟩,
    ⟨(some 60), none, .indexAddr 1 (.tmp 57) (.tmp 59)⟩,
    ⟨(some 61), none, .load none (.tmp 60)⟩,
    ⟨(some 62), none, .load none (.tmp 1)⟩,
    ⟨(some 63), none, .mov (.tmp 8)⟩,
    ⟨(some 64), none, .ibin .add (.const (.int .i64 16)) (.tmp 63)⟩,
    ⟨(some 65), none, .indexAddr 1 (.tmp 62) (.tmp 64)⟩,
    ⟨(some 66), none, .load none (.tmp 65)⟩,
    ⟨(some 67), none, .fieldAddr 0 (.tmp 7)⟩,
    ⟨(some 68), none, .indexArr 1 4 (.tmp 67) (.tmp 55)⟩,
    ⟨none, none, .store 1 (.tmp 68) (.tmp 61)⟩,
    ⟨(some 69), none, .fieldAddr 4 (.tmp 7)⟩,
    ⟨(some 70), none, .indexArr 1 4 (.tmp 69) (.tmp 56)⟩,
    ⟨none, none, .store 1 (.tmp 70) (.tmp 66)⟩]

def f10r14 : List AInstr := [
    ⟨(some 71), none, .ibin .add (.tmp 52) (.const (.int .i64 1))⟩,
    ⟨(some 52), none, .mov (.tmp 71)⟩]

/-- live: [1, 2, 4, 5, 6, 7, 52] -/
def f10l0 : ACode := (.seq (.ops f10r11)
  (.keep [1, 2, 4, 5, 6, 7, 52, 53] (.seq (.cond (.tmp 53) .skip (.exit 0))
  (.keep [1, 2, 4, 5, 6, 7, 52] (.seq (.block 1 (.seq (.ops f10r12)
  (.keep [1, 2, 4, 5, 6, 7, 8, 52] (.draw f10r13 [(0, 0, false), (0, 1, false), (0, 0, false), (0, 0, false), (0, 0, false), (0, 0, false), (0, 0, false), (0, 1, false), (0, 1, false), (0, 1, false), (0, 1, false), (0, 1, false), (0, 0, false), (0, 0, false), (0, 2, true), (0, 1, false), (1, 1, false), (1, 0, true)]))))
  (.keep [1, 2, 4, 5, 6, 7, 52] (.ops f10r14)))))))

def f10r16 : List AInstr := [
    ⟨(some 72), none, .fieldAddr 8 (.tmp 7)⟩,
    ⟨(some 73), none, .load none (.tmp 72)⟩,
    ⟨(some 74), none, .ibin .eql (.tmp 73) (.const (.int .i64 6))⟩,
    ⟨(some 75), none, .mov (.tmp 74)⟩,
    ⟨(some 76), (some (75, false)), .fieldAddr 8 (.tmp 7)⟩,
    ⟨(some 77), (some (75, false)), .load none (.tmp 76)⟩,
    ⟨(some 78), (some (75, false)), .ibin .eql (.tmp 77) (.const (.int .i64 17))⟩,
    ⟨(some 79), none, .pick (.tmp 75) (.const (.bool true)) (.tmp 78)⟩,
    ⟨(some 80), none, .mov (.tmp 79)⟩,
    ⟨(some 81), (some (80, true)), .mov (.tmp 6)⟩,
    ⟨(some 82), (some (80, true)), .callV (.tmp 81) [.const (.int .i64 6)]⟩,
    ⟨(some 83), (some (80, true)), .ibin .and (.tmp 82) (.const (.int .i64 8191))⟩,
    ⟨(some 84), (some (80, true)), .ibin .eql (.tmp 83) (.const (.int .i64 0))⟩,
    ⟨(some 85), none, .pick (.tmp 80) (.tmp 84) (.const (.bool false))⟩,
    ⟨(some 9), none, .mov (.tmp 85)⟩]

def f10r17 : List AInstr := [
    ⟨(some 87), none, .load none (.tmp 1)⟩,
    ⟨(some 88), none, .len (.tmp 87)⟩,
    ⟨(some 89), none, .mov (.tmp 5)⟩,
    ⟨(some 90), none, .ibin .lss (.tmp 88) (.tmp 89)⟩,
    ⟨(some 91), none, .mov (.tmp 90)⟩,
    ⟨(some 92), (some (91, false)), .load none (.tmp 1)⟩,
    ⟨(some 93), (some (91, false)), .len (.tmp 92)⟩,
    ⟨(some 94), (some (91, false)), .fieldAddr 11 (.tmp 7)⟩,
    ⟨(some 95), (some (91, false)), .load none (.tmp 94)⟩,
    ⟨(some 96), (some (91, false)), .ibin .lss (.tmp 93) (.tmp 95)⟩,
    ⟨(some 97), none, .pick (.tmp 91) (.const (.bool true)) (.tmp 96)⟩,
    ⟨(some 86), none, .mov (.tmp 97)⟩]

def f10r18 : List AInstr := [
    ⟨(some 98), none, .mov (.tmp 4)⟩,
    ⟨(some 99), none, .callV (.tmp 98) [.const (.int .i64 8)]⟩,
    ⟨(some 100), none, .extract 0 (.tmp 99)⟩,
    ⟨(some 101), none, .extract 1 (.tmp 99)⟩,
    ⟨none, none, .store 13 (.tmp 2) (.tmp 100)⟩,
    ⟨(some 3), none, .mov (.tmp 101)⟩]

def f10r19 : List AInstr := [
    ⟨(some 103), none, .fieldAddr 11 (.tmp 7)⟩,
    ⟨(some 104), none, .load none (.tmp 103)⟩,
    ⟨(some 105), none, .mov (.tmp 5)⟩,
    ⟨(some 106), none, .ibin .lss (.tmp 104) (.tmp 105)⟩,
    ⟨(some 102), none, .mov (.tmp 106)⟩]

def f10r20 : List AInstr := [
    ⟨(some 107), none, .mov (.tmp 4)⟩,
    ⟨(some 108), none, .callV (.tmp 107) [.const (.int .i64 1)]⟩,
    ⟨(some 109), none, .extract 0 (.tmp 108)⟩,
    ⟨(some 110), none, .extract 1 (.tmp 108)⟩,
    ⟨none, none, .store 13 (.tmp 2) (.tmp 109)⟩,
    ⟨(some 3), none, .mov (.tmp 110)⟩]

def f10r21 : List AInstr := [
    ⟨(some 112), none, .load none (.tmp 1)⟩,
    ⟨(some 113), none, .mov (.tmp 5)⟩,
    ⟨(some 114), none, .slice 1 (.tmp 112) none (some (.tmp 113)) none⟩,
    ⟨(some 115), none, .callF 22 [.tmp 114]⟩,
    ⟨(some 116), none, .ibin .neq (.tmp 115) (.const (.int .u16 65535))⟩,
    ⟨(some 111), none, .mov (.tmp 116)⟩]

def f10r22 : List AInstr := [
    ⟨(some 117), none, .mov (.tmp 4)⟩,
    ⟨(some 118), none, .callV (.tmp 117) [.const (.int .i64 7)]⟩,
    ⟨(some 119), none, .extract 0 (.tmp 118)⟩,
    ⟨(some 120), none, .extract 1 (.tmp 118)⟩,
    ⟨none, none, .store 13 (.tmp 2) (.tmp 119)⟩,
    ⟨(some 3), none, .mov (.tmp 120)⟩]

def f10r23 : List AInstr := [
    ⟨(some 122), none, .mov (.tmp 9)⟩,
    ⟨(some 123), none, .mov (.tmp 122)⟩,
    ⟨(some 124), (some (123, true)), .fieldAddr 11 (.tmp 7)⟩,
    ⟨(some 125), (some (123, true)), .load none (.tmp 124)⟩,
    ⟨(some 126), (some (123, true)), .mov (.tmp 5)⟩,
    ⟨(some 127), (some (123, true)), .ibin .add (.tmp 126) (.const (.int .i64 4))⟩,
    ⟨(some 128), (some (123, true)), .ibin .lss (.tmp 125) (.tmp 127)⟩,
    ⟨(some 129), none, .pick (.tmp 123) (.tmp 128) (.const (.bool false))⟩,
    ⟨(some 121), none, .mov (.tmp 129)⟩]

def f10r24 : List AInstr := [
    ⟨(some 130), none, .mov (.tmp 4)⟩,
    ⟨(some 131), none, .callV (.tmp 130) [.const (.int .i64 8)]⟩,
    ⟨(some 132), none, .extract 0 (.tmp 131)⟩,
    ⟨(some 133), none, .extract 1 (.tmp 131)⟩,
    ⟨none, none, .store 13 (.tmp 2) (.tmp 132)⟩,
    ⟨(some 3), none, .mov (.tmp 133)⟩]

def f10r25 : List AInstr := [
    ⟨(some 134), none, .mov (.tmp 9)⟩]

def f10r26 : List AInstr := [
    ⟨(some 135), none, .mov (.tmp 6)⟩,
    ⟨(some 136), none, .mov (.tmp 5)⟩,
    ⟨(some 137), none, .callV (.tmp 135) [.tmp 136]⟩,
    ⟨(some 138), none, .mov (.tmp 6)⟩,
    ⟨(some 139), none, .mov (.tmp 5)⟩,
    ⟨(some 140), none, .ibin .add (.tmp 139) (.const (.int .i64 2))⟩,
    ⟨(some 141), none, .callV (.tmp 138) [.tmp 140]⟩,
    ⟨(some 142), none, .fieldAddr 9 (.tmp 7)⟩,
    ⟨none, none, .store 1 (.tmp 142) (.tmp 137)⟩,
    ⟨(some 143), none, .fieldAddr 10 (.tmp 7)⟩,
    ⟨none, none, .store 1 (.tmp 143) (.tmp 141)⟩]

def f10r27 : List AInstr := [
    ⟨(some 144), none, .load (some 13) (.tmp 7)⟩,
    ⟨none, none, .store 13 (.tmp 2) (.tmp 144)⟩,
    ⟨(some 3), none, .mov (.const (.int .i64 0))⟩]

def f10b : ACode := (.seq (.ops f10r0)
  (.keep [1, 2] (.seq (.ops f10r1)
  (.keep [1, 2, 4] (.seq (.seq (.ops f10r2)
  (.keep [1, 2, 4, 12] (.cond (.tmp 12) (.keep [2, 4] (.seq (.ops f10r3)
  (.keep [2, 3] .ret))) .skip)))
  (.keep [1, 2, 4] (.seq (.seq (.ops f10r4)
  (.keep [1, 2, 4, 28] (.cond (.tmp 28) (.keep [2, 4] (.seq (.ops f10r5)
  (.keep [2, 3] .ret))) .skip)))
  (.keep [1, 2, 4] (.seq (.ops f10r6)
  (.keep [1, 2, 4, 5] (.seq (.ops f10r7)
  (.keep [1, 2, 4, 5, 6] (.seq (.alt [(f10r8, [(0, 2, false), (0, 2, false), (0, 2, false), (0, 2, false), (0, 0, false), (0, 2, false), (0, 2, false), (0, 2, false), (0, 2, false), (0, 2, false), (0, 0, true), (1, 2, false), (1, 0, true), (2, 0, true)]), (f10r9, [(0, 2, false), (0, 2, false), (0, 2, false), (0, 2, false), (0, 1, false), (0, 2, false), (0, 2, false), (0, 2, false), (0, 2, false), (0, 2, false), (0, 0, true), (1, 0, true), (2, 2, false), (2, 0, true)])])
  (.keep [1, 2, 4, 5, 6, 7] (.seq (.seq (.ops f10r10)
  (.keep [1, 2, 4, 5, 6, 7, 52] (.block 0 (.loop f10l0))))
  (.keep [1, 2, 4, 5, 6, 7] (.seq (.ops f10r16)
  (.keep [1, 2, 4, 5, 6, 7, 9] (.seq (.block 2 (.seq (.ops f10r17)
  (.keep [1, 2, 4, 5, 6, 7, 9, 86] (.cond (.tmp 86) (.keep [2, 4] (.seq (.ops f10r18)
  (.keep [2, 3] .ret))) (.keep [1, 2, 4, 5, 6, 7, 9] (.seq (.ops f10r19)
  (.keep [1, 2, 4, 5, 6, 7, 9, 102] (.cond (.tmp 102) (.keep [2, 4] (.seq (.ops f10r20)
  (.keep [2, 3] .ret))) (.keep [1, 2, 4, 5, 6, 7, 9] (.seq (.ops f10r21)
  (.keep [2, 4, 5, 6, 7, 9, 111] (.cond (.tmp 111) (.keep [2, 4] (.seq (.ops f10r22)
  (.keep [2, 3] .ret))) (.keep [2, 4, 5, 6, 7, 9] (.seq (.ops f10r23)
  (.keep [2, 4, 5, 6, 7, 9, 121] (.cond (.tmp 121) (.keep [2, 4] (.seq (.ops f10r24)
  (.keep [2, 3] .ret))) .skip))))))))))))))))
  (.keep [2, 5, 6, 7, 9] (.seq (.seq (.ops f10r25)
  (.keep [2, 5, 6, 7, 134] (.cond (.tmp 134) (.keep [2, 5, 6, 7] (.ops f10r26)) .skip)))
  (.keep [2, 7] (.seq (.ops f10r27)
  (.keep [2, 3] .ret))))))))))))))))))))))))

def f10 : AFn := ⟨145, [.cell 2 (some 13), .tmp 3], f10b⟩

theorem f10_ok : compFn Tryz.prog 10 = some f10.strip := by kernel_rfl

/- function 11: weirhouse/rules.Class; parameters 2; operations that are not compiled: 0 -/
def f11r0 : List AInstr := [
    ⟨(some 3), none, .box (.tmp 1)⟩,
    ⟨(some 4), none, .mov (.const (.int .i64 0))⟩,
    ⟨(some 5), none, .mov (.const (.int .i64 0))⟩]

def f11r1 : List AInstr := [
    ⟨(some 8), none, .mov (.tmp 0)⟩,
    ⟨(some 9), none, .callF 23 [.tmp 8]⟩,
    ⟨(some 6), none, .mov (.tmp 9)⟩]

def f11r2 : List AInstr := [
    ⟨(some 10), none, .mov (.tmp 6)⟩,
    ⟨(some 11), none, .ibin .neq (.tmp 10) (.const (.int .i64 0))⟩]

def f11r3 : List AInstr := [
    ⟨(some 12), none, .mov (.tmp 6)⟩,
    ⟨(some 4), none, .mov (.const (.int .i64 0))⟩,
    ⟨(some 5), none, .mov (.tmp 12)⟩]

def f11r4 : List AInstr := [
    ⟨(some 13), none, .mov (.tmp 0)⟩,
    ⟨(some 14), none, .func (.func 25) [] [.tmp 3]⟩,
    ⟨(some 15), none, .callF 24 [.tmp 13, .tmp 14]⟩,
    ⟨(some 7), none, .mov (.tmp 15)⟩]

def f11r5 : List AInstr := [
    ⟨(some 16), none, .mov (.tmp 7)⟩,
    ⟨(some 17), none, .ibin .lss (.tmp 16) (.const (.int .i64 0))⟩]

def f11r6 : List AInstr := [
    ⟨(some 4), none, .mov (.const (.int .i64 0))⟩,
    ⟨(some 5), none, .mov (.const (.int .i64 3))⟩]

def f11r7 : List AInstr := [
    ⟨(some 18), none, .mov (.tmp 0)⟩,
    ⟨(some 19), none, .mov (.tmp 7)⟩,
    ⟨(some 20), none, .indexAddr 14 (.tmp 18) (.tmp 19)⟩,
    ⟨(some 21), none, .fieldAddr 13 (.tmp 20)⟩,
    ⟨(some 22), none, .load none (.tmp 21)⟩,
    ⟨(some 4), none, .mov (.tmp 22)⟩,
    ⟨(some 5), none, .mov (.const (.int .i64 0))⟩]

def f11b : ACode := (.seq (.ops f11r0)
  (.keep [0, 3] (.seq (.seq (.ops f11r1)
  (.keep [0, 3, 6] (.seq (.ops f11r2)
  (.keep [0, 3, 6, 11] (.cond (.tmp 11) (.keep [6] (.seq (.ops f11r3)
  (.keep [4, 5] .ret))) .skip)))))
  (.keep [0, 3] (.seq (.ops f11r4)
  (.keep [0, 7] (.seq (.seq (.ops f11r5)
  (.keep [0, 7, 17] (.cond (.tmp 17) (.keep [] (.seq (.ops f11r6)
  (.keep [4, 5] .ret))) .skip)))
  (.keep [0, 7] (.seq (.ops f11r7)
  (.keep [4, 5] .ret))))))))))

def f11 : AFn := ⟨23, [.tmp 4, .tmp 5], f11b⟩

theorem f11_ok : compFn Tryz.prog 11 = some f11.strip := by kernel_rfl

/- function 12: weirhouse/trie.Find; parameters 2; operations that are not compiled: 0 -/
def f12r0 : List AInstr := [
    ⟨(some 4), none, .mov (.const (.slice none 0 0))⟩,
    ⟨(some 5), none, .mov (.const (.slice none 0 0))⟩,
    ⟨(some 6), none, .mov (.const (.int .i64 0))⟩]

def f12r1 : List AInstr := [
    ⟨(some 17), none, .mov (.tmp 0)⟩,
    ⟨(some 18), none, .callF 6 [.tmp 17]⟩,
    ⟨(some 7), none, .mov (.tmp 18)⟩]

def f12r2 : List AInstr := [
    ⟨(some 19), none, .mov (.tmp 7)⟩,
    ⟨(some 20), none, .ibin .neq (.tmp 19) (.const (.int .i64 0))⟩]

def f12r3 : List AInstr := [
    ⟨(some 21), none, .mov (.tmp 7)⟩,
    ⟨(some 4), none, .mov (.const (.slice none 0 0))⟩,
    ⟨(some 5), none, .mov (.const (.slice none 0 0))⟩,
    ⟨(some 6), none, .mov (.tmp 21)⟩]

def f12r4 : List AInstr := [
    ⟨(some 22), none, .mov (.tmp 0)⟩,
    ⟨(some 23), none, .callF 27 [.tmp 22]⟩,
    ⟨(some 8), none, .mov (.tmp 23)⟩]

def f12r5 : List AInstr := [
    ⟨(some 9), none, .mov (.const (.slice none 0 0))⟩]

def f12r6 : List AInstr := [
    ⟨(some 10), none, .mov (.const (.slice none 0 0))⟩]

def f12r7 : List AInstr := [
    ⟨(some 24), none, .mov (.tmp 1)⟩,
    ⟨(some 25), none, .len (.tmp 24)⟩,
    ⟨(some 26), none, .mov (.const (.int .i64 0))⟩]

def f12r8 : List AInstr := [
    ⟨(some 27), none, .ibin .lss (.tmp 26) (.tmp 25)⟩]

def f12r9 : List AInstr := [
    ⟨(some 28), none, .indexAddr 4 (.tmp 24) (.tmp 26)⟩,
    ⟨(some 29), none, .load (some 4) (.tmp 28)⟩,
    ⟨(some 12), none, .alloc [.int .u8 0, .int .u8 0, .int .u8 0, .int .u8 0]⟩,
    ⟨none, none, .store 4 (.tmp 12) (.tmp 29)⟩]

def f12r10 : List AInstr := [
    ⟨(some 13), none, .mov (.const (.int .i64 0))⟩,
    ⟨(some 14), none, .mov (.const (.bool false))⟩]

def f12r11 : List AInstr := [
    ⟨(some 30), none, .mov (.tmp 8)⟩,
    ⟨(some 15), none, .mov (.tmp 30)⟩]

def f12r12 : List AInstr := [
    ⟨(some 16), none, .mov (.const (.int .i64 0))⟩]

def f12r13 : List AInstr := [
    ⟨(some 31), none, .mov (.tmp 15)⟩,
    ⟨(some 32), none, .eqP true (.tmp 31) (.const (.pointer none))⟩]

def f12r14 : List AInstr := [
    ⟨(some 35), none, .mov (.tmp 15)⟩,
    ⟨(some 36), none, .nilCheck (.tmp 35)⟩,
    ⟨(some 37), none, .fieldAddr 2 (.tmp 36)⟩,
    ⟨(some 38), none, .load none (.tmp 37)⟩,
    ⟨(some 39), none, .eqP true (.tmp 38) (.const (.pointer none))⟩]

def f12r15 : List AInstr := [
    ⟨(some 40), none, .mov (.tmp 15)⟩,
    ⟨(some 41), none, .nilCheck (.tmp 40)⟩,
    ⟨(some 42), none, .fieldAddr 2 (.tmp 41)⟩,
    ⟨(some 43), none, .load none (.tmp 42)⟩,
    ⟨(some 44), none, .nilCheck (.tmp 43)⟩,
    ⟨(some 45), none, .load none (.tmp 44)⟩,
    ⟨(some 13), none, .mov (.tmp 45)⟩,
    ⟨(some 14), none, .mov (.const (.bool true))⟩]

def f12r16 : List AInstr := [
    ⟨(some 46), none, .mov (.tmp 16)⟩,
    ⟨(some 47), none, .ibin .eql (.tmp 46) (.const (.int .i64 32))⟩]

def f12r17 : List AInstr := [
    ⟨(some 48), none, .mov (.tmp 15)⟩,
    ⟨(some 49), none, .load (some 4) (.tmp 12)⟩,
    ⟨(some 50), none, .mov (.tmp 16)⟩,
    ⟨(some 52), none, .nilCheck (.tmp 48)⟩,
    ⟨(some 53), none, .fieldAddr 0 (.tmp 52)⟩,
    ⟨(some 51), none, .callF 18 [.tmp 49, .tmp 50]⟩,
    ⟨(some 54), none, .indexArr 1 2 (.tmp 53) (.tmp 51)⟩,
    ⟨(some 55), none, .load none (.tmp 54)⟩,
    ⟨(some 15), none, .mov (.tmp 55)⟩]

def f12r18 : List AInstr := [
    ⟨(some 33), none, .mov (.tmp 16)⟩,
    ⟨(some 34), none, .ibin .add (.tmp 33) (.const (.int .i64 1))⟩,
    ⟨(some 16), none, .mov (.tmp 34)⟩]

/-- live: [8, 9, 10, 12, 13, 14, 15, 16, 24, 25, 26] -/
def f12l0 : ACode := (.seq (.seq (.ops f12r13)
  (.keep [8, 9, 10, 12, 13, 14, 15, 16, 24, 25, 26, 32] (.cond (.tmp 32) .skip (.exit 2))))
  (.keep [8, 9, 10, 12, 13, 14, 15, 16, 24, 25, 26] (.seq (.block 3 (.seq (.seq (.ops f12r14)
  (.keep [8, 9, 10, 12, 13, 14, 15, 16, 24, 25, 26, 39] (.cond (.tmp 39) (.keep [8, 9, 10, 12, 15, 16, 24, 25, 26] (.ops f12r15)) .skip)))
  (.keep [8, 9, 10, 12, 13, 14, 15, 16, 24, 25, 26] (.seq (.seq (.ops f12r16)
  (.keep [8, 9, 10, 12, 13, 14, 15, 16, 24, 25, 26, 47] (.cond (.tmp 47) (.exit 2) .skip)))
  (.keep [8, 9, 10, 12, 13, 14, 15, 16, 24, 25, 26] (.alt [(f12r17, [(0, 1, false), (0, 0, false), (0, 0, false), (0, 1, false), (0, 1, false), (0, 0, true), (1, 1, false), (1, 1, false), (1, 1, false)])]))))))
  (.keep [8, 9, 10, 12, 13, 14, 15, 16, 24, 25, 26] (.ops f12r18)))))

def f12r20 : List AInstr := [
    ⟨(some 56), none, .mov (.tmp 9)⟩,
    ⟨(some 57), none, .mov (.tmp 13)⟩,
    ⟨(some 58), none, .buildSlice 1 1 [.int .i64 0] [(0, 1, (.tmp 57))]⟩,
    ⟨(some 59), none, .append 1 8 (.tmp 56) (.tmp 58)⟩,
    ⟨(some 60), none, .mov (.tmp 10)⟩,
    ⟨(some 61), none, .mov (.tmp 14)⟩,
    ⟨(some 62), none, .buildSlice 1 1 [.bool false] [(0, 1, (.tmp 61))]⟩,
    ⟨(some 63), none, .append 1 1 (.tmp 60) (.tmp 62)⟩,
    ⟨(some 9), none, .mov (.tmp 59)⟩,
    ⟨(some 10), none, .mov (.tmp 63)⟩]

def f12r21 : List AInstr := [
    ⟨(some 64), none, .ibin .add (.tmp 26) (.const (.int .i64 1))⟩,
    ⟨(some 26), none, .mov (.tmp 64)⟩]

/-- live: [8, 9, 10, 24, 25, 26] -/
def f12l1 : ACode := (.seq (.ops f12r8)
  (.keep [8, 9, 10, 24, 25, 26, 27] (.seq (.cond (.tmp 27) .skip (.exit 0))
  (.keep [8, 9, 10, 24, 25, 26] (.seq (.block 1 (.seq (.ops f12r9)
  (.keep [8, 9, 10, 12, 24, 25, 26] (.seq (.ops f12r10)
  (.keep [8, 9, 10, 12, 13, 14, 24, 25, 26] (.seq (.ops f12r11)
  (.keep [8, 9, 10, 12, 13, 14, 15, 24, 25, 26] (.seq (.seq (.ops f12r12)
  (.keep [8, 9, 10, 12, 13, 14, 15, 16, 24, 25, 26] (.block 2 (.loop f12l0))))
  (.keep [8, 9, 10, 13, 14, 24, 25, 26] (.ops f12r20))))))))))
  (.keep [8, 9, 10, 24, 25, 26] (.ops f12r21)))))))

def f12r23 : List AInstr := [
    ⟨(some 65), none, .mov (.tmp 9)⟩,
    ⟨(some 66), none, .mov (.tmp 10)⟩,
    ⟨(some 4), none, .mov (.tmp 65)⟩,
    ⟨(some 5), none, .mov (.tmp 66)⟩,
    ⟨(some 6), none, .mov (.const (.int .i64 0))⟩]

def f12b : ACode := (.seq (.ops f12r0)
  (.keep [0, 1] (.seq (.seq (.ops f12r1)
  (.keep [0, 1, 7] (.seq (.ops f12r2)
  (.keep [0, 1, 7, 20] (.cond (.tmp 20) (.keep [7] (.seq (.ops f12r3)
  (.keep [4, 5, 6] .ret))) .skip)))))
  (.keep [0, 1] (.seq (.ops f12r4)
  (.keep [1, 8] (.seq (.ops f12r5)
  (.keep [1, 8, 9] (.seq (.ops f12r6)
  (.keep [1, 8, 9, 10] (.seq (.seq (.ops f12r7)
  (.keep [8, 9, 10, 24, 25, 26] (.block 0 (.loop f12l1))))
  (.keep [9, 10] (.seq (.ops f12r23)
  (.keep [4, 5, 6] .ret))))))))))))))

def f12 : AFn := ⟨67, [.tmp 4, .tmp 5, .tmp 6], f12b⟩

theorem f12_ok : compFn Tryz.prog 12 = some f12.strip := by kernel_rfl

/- function 13: weirhouse/bench.Tell; parameters 1; operations that are not compiled: 0 -/
def f13r0 : List AInstr := [
    ⟨(some 2), none, .mov (.const (.slice none 0 0))⟩,
    ⟨(some 3), none, .mov (.const (.int .i64 0))⟩]

def f13r1 : List AInstr := [
    ⟨(some 19), none, .mov (.tmp 0)⟩,
    ⟨(some 20), none, .callF 28 [.tmp 19]⟩,
    ⟨(some 18), none, .mov (.tmp 20)⟩,
    ⟨(some 21), none, .extract 0 (.tmp 18)⟩,
    ⟨(some 22), none, .extract 1 (.tmp 18)⟩,
    ⟨(some 23), none, .extract 2 (.tmp 18)⟩,
    ⟨(some 4), none, .alloc [.int .i64 0, .int .i64 0, .int .i64 0, .slice none 0 0]⟩,
    ⟨none, none, .store 4 (.tmp 4) (.tmp 21)⟩,
    ⟨(some 5), none, .mov (.tmp 22)⟩,
    ⟨(some 6), none, .mov (.tmp 23)⟩]

def f13r2 : List AInstr := [
    ⟨(some 24), none, .mov (.tmp 6)⟩,
    ⟨(some 25), none, .ibin .neq (.tmp 24) (.const (.int .i64 0))⟩]

def f13r3 : List AInstr := [
    ⟨(some 26), none, .mov (.tmp 6)⟩,
    ⟨(some 2), none, .mov (.const (.slice none 0 0))⟩,
    ⟨(some 3), none, .mov (.tmp 26)⟩]

def f13r4 : List AInstr := [
    ⟨(some 28), none, .fieldAddr 0 (.tmp 4)⟩,
    ⟨(some 29), none, .load none (.tmp 28)⟩,
    ⟨(some 30), none, .fieldAddr 1 (.tmp 4)⟩,
    ⟨(some 31), none, .load none (.tmp 30)⟩,
    ⟨(some 32), none, .fieldAddr 2 (.tmp 4)⟩,
    ⟨(some 33), none, .load none (.tmp 32)⟩,
    ⟨(some 34), none, .fieldAddr 3 (.tmp 4)⟩,
    ⟨(some 35), none, .load none (.tmp 34)⟩,
    ⟨(some 36), none, .callF 29 [.tmp 29, .tmp 31, .tmp 33, .tmp 35]⟩,
    ⟨(some 27), none, .mov (.tmp 36)⟩,
    ⟨(some 37), none, .extract 0 (.tmp 27)⟩,
    ⟨(some 38), none, .extract 1 (.tmp 27)⟩,
    ⟨(some 39), none, .extract 2 (.tmp 27)⟩,
    ⟨(some 8), none, .alloc [.slice none 0 0, .int .i64 0, .int .i64 0, .int .i64 0, .int .i64 0, .int .i64 0, .int .i64 0, .int .i64 0, .int .i64 0, .int .i64 0]⟩,
    ⟨(some 7), none, .mov (.tmp 37)⟩,
    ⟨none, none, .store 10 (.tmp 8) (.tmp 38)⟩,
    ⟨(some 6), none, .mov (.tmp 39)⟩]

def f13r5 : List AInstr := [
    ⟨(some 40), none, .mov (.tmp 6)⟩,
    ⟨(some 41), none, .ibin .neq (.tmp 40) (.const (.int .i64 0))⟩]

def f13r6 : List AInstr := [
    ⟨(some 42), none, .mov (.tmp 6)⟩,
    ⟨(some 2), none, .mov (.const (.slice none 0 0))⟩,
    ⟨(some 3), none, .mov (.tmp 42)⟩]

def f13r7 : List AInstr := [
    ⟨(some 9), none, .mov (.const (.slice none 0 0))⟩]

def f13r8 : List AInstr := [
    ⟨(some 43), none, .mov (.tmp 7)⟩,
    ⟨(some 44), none, .len (.tmp 43)⟩,
    ⟨(some 45), none, .mov (.const (.int .i64 0))⟩]

def f13r9 : List AInstr := [
    ⟨(some 46), none, .ibin .lss (.tmp 45) (.tmp 44)⟩]

def f13r10 : List AInstr := [
    ⟨(some 47), none, .mov (.tmp 45)⟩,
    ⟨(some 48), none, .indexAddr 2 (.tmp 43) (.tmp 45)⟩,
    ⟨(some 49), none, .load (some 2) (.tmp 48)⟩,
    ⟨(some 11), none, .alloc [.int .i64 0, .slice none 0 0]⟩,
    ⟨(some 10), none, .mov (.tmp 47)⟩,
    ⟨none, none, .store 2 (.tmp 11) (.tmp 49)⟩]

def f13r11 : List AInstr := [
    ⟨(some 12), none, .mov (.const (.string ⟨#[111, 107]⟩))⟩]

def f13r12 : List AInstr := [
    ⟨(some 50), none, .fieldAddr 0 (.tmp 11)⟩,
    ⟨(some 51), none, .load none (.tmp 50)⟩,
    ⟨(some 52), none, .ibin .neq (.tmp 51) (.const (.int .i64 0))⟩]

def f13r13 : List AInstr := [
    ⟨(some 53), none, .fieldAddr 0 (.tmp 11)⟩,
    ⟨(some 54), none, .load none (.tmp 53)⟩,
    ⟨(some 55), none, .callF 30 [.tmp 54]⟩,
    ⟨(some 56), none, .str .add [.const (.string ⟨#[101, 114, 114, 111, 114, 32]⟩), .tmp 55]⟩,
    ⟨(some 12), none, .mov (.tmp 56)⟩]

def f13r14 : List AInstr := [
    ⟨(some 57), none, .fieldAddr 3 (.tmp 4)⟩,
    ⟨(some 58), none, .load none (.tmp 57)⟩,
    ⟨(some 59), none, .mov (.tmp 10)⟩,
    ⟨(some 60), none, .indexAddr 2 (.tmp 58) (.tmp 59)⟩,
    ⟨(some 61), none, .fieldAddr 0 (.tmp 60)⟩,
    ⟨(some 62), none, .load none (.tmp 61)⟩,
    ⟨(some 63), none, .ibin .eql (.tmp 62) (.const (.int .i64 3))⟩]

def f13r15 : List AInstr := [
    ⟨(some 12), none, .mov (.const (.string ⟨#[115, 101, 110, 116]⟩))⟩]

def f13r16 : List AInstr := [
    ⟨(some 64), none, .fieldAddr 1 (.tmp 11)⟩,
    ⟨(some 65), none, .load none (.tmp 64)⟩,
    ⟨(some 66), none, .len (.tmp 65)⟩,
    ⟨(some 67), none, .mov (.const (.int .i64 0))⟩]

def f13r17 : List AInstr := [
    ⟨(some 68), none, .ibin .lss (.tmp 67) (.tmp 66)⟩]

def f13r18 : List AInstr := [
    ⟨(some 69), none, .indexAddr 1 (.tmp 65) (.tmp 67)⟩,
    ⟨(some 70), none, .load none (.tmp 69)⟩,
    ⟨(some 14), none, .mov (.tmp 70)⟩]

def f13r19 : List AInstr := [
    ⟨(some 71), none, .mov (.tmp 12)⟩,
    ⟨(some 72), none, .mov (.tmp 14)⟩,
    ⟨(some 73), none, .callF 30 [.tmp 72]⟩,
    ⟨(some 74), none, .str .add [.const (.string ⟨#[32]⟩), .tmp 73]⟩,
    ⟨(some 75), none, .str .add [.tmp 71, .tmp 74]⟩,
    ⟨(some 12), none, .mov (.tmp 75)⟩]

def f13r20 : List AInstr := [
    ⟨(some 76), none, .ibin .add (.tmp 67) (.const (.int .i64 1))⟩,
    ⟨(some 67), none, .mov (.tmp 76)⟩]

/-- live: [4, 8, 9, 12, 43, 44, 45, 65, 66, 67] -/
def f13l0 : ACode := (.seq (.ops f13r17)
  (.keep [4, 8, 9, 12, 43, 44, 45, 65, 66, 67, 68] (.seq (.cond (.tmp 68) .skip (.exit 2))
  (.keep [4, 8, 9, 12, 43, 44, 45, 65, 66, 67] (.seq (.block 3 (.seq (.ops f13r18)
  (.keep [4, 8, 9, 12, 14, 43, 44, 45, 65, 66, 67] (.ops f13r19))))
  (.keep [4, 8, 9, 12, 43, 44, 45, 65, 66, 67] (.ops f13r20)))))))

def f13r22 : List AInstr := [
    ⟨(some 77), none, .mov (.tmp 9)⟩,
    ⟨(some 78), none, .mov (.tmp 12)⟩,
    ⟨(some 79), none, .buildSlice 1 1 [.string ⟨#[]⟩] [(0, 1, (.tmp 78))]⟩,
    ⟨(some 80), none, .append 1 16 (.tmp 77) (.tmp 79)⟩,
    ⟨(some 9), none, .mov (.tmp 80)⟩]

def f13r23 : List AInstr := [
    ⟨(some 81), none, .ibin .add (.tmp 45) (.const (.int .i64 1))⟩,
    ⟨(some 45), none, .mov (.tmp 81)⟩]

/-- live: [4, 8, 9, 43, 44, 45] -/
def f13l1 : ACode := (.seq (.ops f13r9)
  (.keep [4, 8, 9, 43, 44, 45, 46] (.seq (.cond (.tmp 46) .skip (.exit 0))
  (.keep [4, 8, 9, 43, 44, 45] (.seq (.block 1 (.seq (.ops f13r10)
  (.keep [4, 8, 9, 10, 11, 43, 44, 45] (.seq (.ops f13r11)
  (.keep [4, 8, 9, 10, 11, 12, 43, 44, 45] (.seq (.seq (.ops f13r12)
  (.keep [4, 8, 9, 10, 11, 12, 43, 44, 45, 52] (.cond (.tmp 52) (.keep [4, 8, 9, 11, 43, 44, 45] (.ops f13r13)) (.keep [4, 8, 9, 10, 11, 12, 43, 44, 45] (.seq (.ops f13r14)
  (.keep [4, 8, 9, 11, 12, 43, 44, 45, 63] (.cond (.tmp 63) (.keep [4, 8, 9, 11, 43, 44, 45] (.seq (.ops f13r15)
  (.keep [4, 8, 9, 11, 12, 43, 44, 45] (.seq (.ops f13r16)
  (.keep [4, 8, 9, 12, 43, 44, 45, 65, 66, 67] (.block 2 (.loop f13l0))))))) .skip)))))))
  (.keep [4, 8, 9, 12, 43, 44, 45] (.ops f13r22))))))))
  (.keep [4, 8, 9, 43, 44, 45] (.ops f13r23)))))))

def f13r25 : List AInstr := [
    ⟨(some 15), none, .mov (.const (.string ⟨#[108, 101, 102, 116]⟩))⟩]

def f13r26 : List AInstr := [
    ⟨(some 82), none, .fieldAddr 0 (.tmp 8)⟩,
    ⟨(some 83), none, .fieldAddr 0 (.tmp 82)⟩,
    ⟨(some 84), none, .load none (.tmp 83)⟩,
    ⟨(some 85), none, .len (.tmp 84)⟩,
    ⟨(some 86), none, .fieldAddr 0 (.tmp 8)⟩,
    ⟨(some 87), none, .fieldAddr 3 (.tmp 86)⟩,
    ⟨(some 88), none, .load none (.tmp 87)⟩,
    ⟨(some 89), none, .fieldAddr 9 (.tmp 8)⟩,
    ⟨(some 90), none, .load none (.tmp 89)⟩,
    ⟨(some 91), none, .fieldAddr 4 (.tmp 8)⟩,
    ⟨(some 92), none, .fieldAddr 3 (.tmp 91)⟩,
    ⟨(some 93), none, .load none (.tmp 92)⟩,
    ⟨(some 94), none, .fieldAddr 4 (.tmp 8)⟩,
    ⟨(some 95), none, .fieldAddr 4 (.tmp 94)⟩,
    ⟨(some 96), none, .load none (.tmp 95)⟩,
    ⟨(some 97), none, .buildSlice 1 5 [.int .i64 0, .int .i64 0, .int .i64 0, .int .i64 0, .int .i64 0] [(0, 1, (.tmp 85)), (1, 1, (.tmp 88)), (2, 1, (.tmp 90)), (3, 1, (.tmp 93)), (4, 1, (.tmp 96))]⟩,
    ⟨(some 98), none, .len (.tmp 97)⟩,
    ⟨(some 99), none, .mov (.const (.int .i64 0))⟩]

def f13r27 : List AInstr := [
    ⟨(some 100), none, .ibin .lss (.tmp 99) (.tmp 98)⟩]

def f13r28 : List AInstr := [
    ⟨(some 101), none, .indexAddr 1 (.tmp 97) (.tmp 99)⟩,
    ⟨(some 102), none, .load none (.tmp 101)⟩,
    ⟨(some 17), none, .mov (.tmp 102)⟩]

def f13r29 : List AInstr := [
    ⟨(some 103), none, .mov (.tmp 15)⟩,
    ⟨(some 104), none, .mov (.tmp 17)⟩,
    ⟨(some 105), none, .callF 30 [.tmp 104]⟩,
    ⟨(some 106), none, .str .add [.const (.string ⟨#[32]⟩), .tmp 105]⟩,
    ⟨(some 107), none, .str .add [.tmp 103, .tmp 106]⟩,
    ⟨(some 15), none, .mov (.tmp 107)⟩]

def f13r30 : List AInstr := [
    ⟨(some 108), none, .ibin .add (.tmp 99) (.const (.int .i64 1))⟩,
    ⟨(some 99), none, .mov (.tmp 108)⟩]

/-- live: [9, 15, 97, 98, 99] -/
def f13l2 : ACode := (.seq (.ops f13r27)
  (.keep [9, 15, 97, 98, 99, 100] (.seq (.cond (.tmp 100) .skip (.exit 4))
  (.keep [9, 15, 97, 98, 99] (.seq (.block 5 (.seq (.ops f13r28)
  (.keep [9, 15, 17, 97, 98, 99] (.ops f13r29))))
  (.keep [9, 15, 97, 98, 99] (.ops f13r30)))))))

def f13r32 : List AInstr := [
    ⟨(some 109), none, .mov (.tmp 9)⟩,
    ⟨(some 110), none, .mov (.tmp 15)⟩,
    ⟨(some 111), none, .buildSlice 1 1 [.string ⟨#[]⟩] [(0, 1, (.tmp 110))]⟩,
    ⟨(some 112), none, .append 1 16 (.tmp 109) (.tmp 111)⟩,
    ⟨(some 2), none, .mov (.tmp 112)⟩,
    ⟨(some 3), none, .mov (.const (.int .i64 0))⟩]

def f13b : ACode := (.seq (.ops f13r0)
  (.keep [0] (.seq (.ops f13r1)
  (.keep [4, 6] (.seq (.seq (.ops f13r2)
  (.keep [4, 6, 25] (.cond (.tmp 25) (.keep [6] (.seq (.ops f13r3)
  (.keep [2, 3] .ret))) .skip)))
  (.keep [4] (.seq (.ops f13r4)
  (.keep [4, 6, 7, 8] (.seq (.seq (.ops f13r5)
  (.keep [4, 6, 7, 8, 41] (.cond (.tmp 41) (.keep [6] (.seq (.ops f13r6)
  (.keep [2, 3] .ret))) .skip)))
  (.keep [4, 7, 8] (.seq (.ops f13r7)
  (.keep [4, 7, 8, 9] (.seq (.seq (.ops f13r8)
  (.keep [4, 8, 9, 43, 44, 45] (.block 0 (.loop f13l1))))
  (.keep [8, 9] (.seq (.ops f13r25)
  (.keep [8, 9, 15] (.seq (.seq (.ops f13r26)
  (.keep [9, 15, 97, 98, 99] (.block 4 (.loop f13l2))))
  (.keep [9, 15] (.seq (.ops f13r32)
  (.keep [2, 3] .ret))))))))))))))))))))

def f13 : AFn := ⟨113, [.tmp 2, .tmp 3], f13b⟩

theorem f13_ok : compFn Tryz.prog 13 = some f13.strip := by kernel_rfl

/- function 14: slices.Equal[[]string,string]; parameters 2; operations that are not compiled: 0 -/
def f14r0 : List AInstr := [
    ⟨(some 4), none, .mov (.const (.bool false))⟩]

def f14r1 : List AInstr := [
    ⟨(some 6), none, .mov (.tmp 0)⟩,
    ⟨(some 7), none, .len (.tmp 6)⟩,
    ⟨(some 8), none, .mov (.tmp 1)⟩,
    ⟨(some 9), none, .len (.tmp 8)⟩,
    ⟨(some 10), none, .ibin .neq (.tmp 7) (.tmp 9)⟩]

def f14r2 : List AInstr := [
    ⟨(some 4), none, .mov (.const (.bool false))⟩]

def f14r3 : List AInstr := [
    ⟨(some 11), none, .mov (.tmp 0)⟩,
    ⟨(some 12), none, .len (.tmp 11)⟩,
    ⟨(some 13), none, .mov (.const (.int .i64 0))⟩]

def f14r4 : List AInstr := [
    ⟨(some 14), none, .ibin .lss (.tmp 13) (.tmp 12)⟩]

def f14r5 : List AInstr := [
    ⟨(some 15), none, .mov (.tmp 13)⟩,
    ⟨(some 5), none, .mov (.tmp 15)⟩]

def f14r6 : List AInstr := [
    ⟨(some 16), none, .mov (.tmp 0)⟩,
    ⟨(some 17), none, .mov (.tmp 5)⟩,
    ⟨(some 18), none, .indexAddr 1 (.tmp 16) (.tmp 17)⟩,
    ⟨(some 19), none, .load none (.tmp 18)⟩,
    ⟨(some 20), none, .mov (.tmp 1)⟩,
    ⟨(some 21), none, .mov (.tmp 5)⟩,
    ⟨(some 22), none, .indexAddr 1 (.tmp 20) (.tmp 21)⟩,
    ⟨(some 23), none, .load none (.tmp 22)⟩,
    ⟨(some 24), none, .str (.cmp true) [.tmp 19, .tmp 23]⟩]

def f14r7 : List AInstr := [
    ⟨(some 4), none, .mov (.const (.bool false))⟩]

def f14r8 : List AInstr := [
    ⟨(some 25), none, .ibin .add (.tmp 13) (.const (.int .i64 1))⟩,
    ⟨(some 13), none, .mov (.tmp 25)⟩]

/-- live: [0, 1, 12, 13] -/
def f14l0 : ACode := (.seq (.ops f14r4)
  (.keep [0, 1, 12, 13, 14] (.seq (.cond (.tmp 14) .skip (.exit 0))
  (.keep [0, 1, 12, 13] (.seq (.block 1 (.seq (.ops f14r5)
  (.keep [0, 1, 5, 12, 13] (.seq (.draw f14r6 [(0, 0, false), (0, 0, false), (0, 0, false), (0, 0, false), (0, 0, false), (0, 0, false), (0, 0, false), (0, 0, false), (0, 0, false)])
  (.keep [0, 1, 12, 13, 24] (.cond (.tmp 24) (.keep [] (.seq (.ops f14r7)
  (.keep [4] .ret))) .skip))))))
  (.keep [0, 1, 12, 13] (.ops f14r8)))))))

def f14r10 : List AInstr := [
    ⟨(some 4), none, .mov (.const (.bool true))⟩]

def f14b : ACode := (.seq (.ops f14r0)
  (.keep [0, 1] (.seq (.seq (.ops f14r1)
  (.keep [0, 1, 10] (.cond (.tmp 10) (.keep [] (.seq (.ops f14r2)
  (.keep [4] .ret))) .skip)))
  (.keep [0, 1] (.seq (.seq (.ops f14r3)
  (.keep [0, 1, 12, 13] (.block 0 (.loop f14l0))))
  (.keep [] (.seq (.ops f14r10)
  (.keep [4] .ret))))))))

def f14 : AFn := ⟨26, [.tmp 4], f14b⟩

theorem f14_ok : compFn Tryz.prog 14 = some f14.strip := by kernel_rfl

/- function 15: weirhouse/head.Wrong; parameters 1; operations that are not compiled: 0 -/
def f15r0 : List AInstr := [
    ⟨(some 1), none, .box (.tmp 0)⟩,
    ⟨(some 2), none, .mov (.const (.int .i64 0))⟩]

def f15r1 : List AInstr := [
    ⟨(some 3), none, .mov (.const (.func (.func 31) #[] #[]))⟩]

def f15r2 : List AInstr := [
    ⟨(some 5), none, .fieldAddr 8 (.tmp 1)⟩,
    ⟨(some 6), none, .load none (.tmp 5)⟩,
    ⟨(some 7), none, .ibin .eql (.tmp 6) (.const (.int .i64 6))⟩,
    ⟨(some 8), none, .mov (.tmp 7)⟩,
    ⟨(some 9), (some (8, false)), .fieldAddr 8 (.tmp 1)⟩,
    ⟨(some 10), (some (8, false)), .load none (.tmp 9)⟩,
    ⟨(some 11), (some (8, false)), .ibin .eql (.tmp 10) (.const (.int .i64 17))⟩,
    ⟨(some 12), none, .pick (.tmp 8) (.const (.bool true)) (.tmp 11)⟩,
    ⟨(some 4), none, .mov (.tmp 12)⟩]

def f15r3 : List AInstr := [
    ⟨(some 14), none, .fieldAddr 8 (.tmp 1)⟩,
    ⟨(some 15), none, .load none (.tmp 14)⟩,
    ⟨(some 16), none, .ibin .lss (.tmp 15) (.const (.int .i64 0))⟩,
    ⟨(some 17), none, .mov (.tmp 16)⟩,
    ⟨(some 18), (some (17, false)), .fieldAddr 8 (.tmp 1)⟩,
    ⟨(some 19), (some (17, false)), .load none (.tmp 18)⟩,
    ⟨(some 20), (some (17, false)), .ibin .gtr (.tmp 19) (.const (.int .i64 255))⟩,
    ⟨(some 21), none, .pick (.tmp 17) (.const (.bool true)) (.tmp 20)⟩,
    ⟨(some 22), none, .mov (.tmp 21)⟩,
    ⟨(some 23), (some (22, false)), .fieldAddr 12 (.tmp 1)⟩,
    ⟨(some 24), (some (22, false)), .load none (.tmp 23)⟩,
    ⟨(some 25), (some (22, false)), .ibin .lss (.tmp 24) (.const (.int .i64 0))⟩,
    ⟨(some 26), none, .pick (.tmp 22) (.const (.bool true)) (.tmp 25)⟩,
    ⟨(some 27), none, .mov (.tmp 26)⟩,
    ⟨(some 28), (some (27, false)), .fieldAddr 12 (.tmp 1)⟩,
    ⟨(some 29), (some (27, false)), .load none (.tmp 28)⟩,
    ⟨(some 30), (some (27, false)), .ibin .gtr (.tmp 29) (.const (.int .i64 63))⟩,
    ⟨(some 31), none, .pick (.tmp 27) (.const (.bool true)) (.tmp 30)⟩,
    ⟨(some 32), none, .mov (.tmp 31)⟩,
    ⟨(some 33), (some (32, false)), .mov (.tmp 3)⟩,
    ⟨(some 34), (some (32, false)), .fieldAddr 9 (.tmp 1)⟩,
    ⟨(some 35), (some (32, false)), .load none (.tmp 34)⟩,
    ⟨(some 36), (some (32, false)), .callV (.tmp 33) [.tmp 35]⟩,
    ⟨(some 37), (some (32, false)), .un .not (.tmp 36)⟩,
    ⟨(some 38), none, .pick (.tmp 32) (.const (.bool true)) (.tmp 37)⟩,
    ⟨(some 39), none, .mov (.tmp 38)⟩,
    ⟨(some 40), (some (39, false)), .mov (.tmp 3)⟩,
    ⟨(some 41), (some (39, false)), .fieldAddr 10 (.tmp 1)⟩,
    ⟨(some 42), (some (39, false)), .load none (.tmp 41)⟩,
    ⟨(some 43), (some (39, false)), .callV (.tmp 40) [.tmp 42]⟩,
    ⟨(some 44), (some (39, false)), .un .not (.tmp 43)⟩,
    ⟨(some 45), none, .pick (.tmp 39) (.const (.bool true)) (.tmp 44)⟩,
    ⟨(some 13), none, .mov (.tmp 45)⟩]

def f15r4 : List AInstr := [
    ⟨(some 2), none, .mov (.const (.int .i64 2))⟩]

def f15r5 : List AInstr := [
    ⟨(some 47), none, .mov (.tmp 4)⟩,
    ⟨(some 48), none, .un .not (.tmp 47)⟩,
    ⟨(some 49), none, .mov (.tmp 48)⟩,
    ⟨(some 50), (some (49, true)), .fieldAddr 9 (.tmp 1)⟩,
    ⟨(some 51), (some (49, true)), .load none (.tmp 50)⟩,
    ⟨(some 52), (some (49, true)), .ibin .gtr (.tmp 51) (.const (.int .i64 0))⟩,
    ⟨(some 53), (some (49, true)), .mov (.tmp 52)⟩,
    ⟨(some 54), (some (53, false)), .fieldAddr 10 (.tmp 1)⟩,
    ⟨(some 55), (some (53, false)), .load none (.tmp 54)⟩,
    ⟨(some 56), (some (53, false)), .ibin .gtr (.tmp 55) (.const (.int .i64 0))⟩,
    ⟨(some 57), (some (49, true)), .pick (.tmp 53) (.const (.bool true)) (.tmp 56)⟩,
    ⟨(some 58), none, .pick (.tmp 49) (.tmp 57) (.const (.bool false))⟩,
    ⟨(some 46), none, .mov (.tmp 58)⟩]

def f15r6 : List AInstr := [
    ⟨(some 2), none, .mov (.const (.int .i64 1))⟩]

def f15r7 : List AInstr := [
    ⟨(some 60), none, .fieldAddr 11 (.tmp 1)⟩,
    ⟨(some 61), none, .load none (.tmp 60)⟩,
    ⟨(some 62), none, .ibin .gtr (.tmp 61) (.const (.int .i64 65535))⟩,
    ⟨(some 63), none, .mov (.tmp 62)⟩,
    ⟨(some 64), (some (63, false)), .mov (.tmp 4)⟩,
    ⟨(some 65), (some (63, false)), .mov (.tmp 64)⟩,
    ⟨(some 66), (some (65, true)), .fieldAddr 11 (.tmp 1)⟩,
    ⟨(some 67), (some (65, true)), .load none (.tmp 66)⟩,
    ⟨(some 68), (some (65, true)), .ibin .lss (.tmp 67) (.const (.int .i64 24))⟩,
    ⟨(some 69), (some (63, false)), .pick (.tmp 65) (.tmp 68) (.const (.bool false))⟩,
    ⟨(some 70), none, .pick (.tmp 63) (.const (.bool true)) (.tmp 69)⟩,
    ⟨(some 71), none, .mov (.tmp 70)⟩,
    ⟨(some 72), (some (71, false)), .fieldAddr 11 (.tmp 1)⟩,
    ⟨(some 73), (some (71, false)), .load none (.tmp 72)⟩,
    ⟨(some 74), (some (71, false)), .ibin .lss (.tmp 73) (.const (.int .i64 20))⟩,
    ⟨(some 75), none, .pick (.tmp 71) (.const (.bool true)) (.tmp 74)⟩,
    ⟨(some 59), none, .mov (.tmp 75)⟩]

def f15r8 : List AInstr := [
    ⟨(some 2), none, .mov (.const (.int .i64 2))⟩]

def f15r9 : List AInstr := [
    ⟨(some 2), none, .mov (.const (.int .i64 0))⟩]

def f15b : ACode := (.seq (.ops f15r0)
  (.keep [1] (.seq (.ops f15r1)
  (.keep [1, 3] (.seq (.ops f15r2)
  (.keep [1, 3, 4] (.seq (.block 0 (.seq (.ops f15r3)
  (.keep [1, 4, 13] (.cond (.tmp 13) (.keep [] (.seq (.ops f15r4)
  (.keep [2] .ret))) (.keep [1, 4] (.seq (.ops f15r5)
  (.keep [1, 4, 46] (.cond (.tmp 46) (.keep [] (.seq (.ops f15r6)
  (.keep [2] .ret))) (.keep [1, 4] (.seq (.ops f15r7)
  (.keep [59] (.cond (.tmp 59) (.keep [] (.seq (.ops f15r8)
  (.keep [2] .ret))) .skip))))))))))))
  (.keep [] (.seq (.ops f15r9)
  (.keep [2] .ret))))))))))

def f15 : AFn := ⟨76, [.tmp 2], f15b⟩

theorem f15_ok : compFn Tryz.prog 15 = some f15.strip := by kernel_rfl

/- function 16: slices.Concat[[]byte,byte]; parameters 1; operations that are not compiled: 2 -/
def f16r0 : List AInstr := [
    ⟨(some 2), none, .mov (.const (.slice none 0 0))⟩]

def f16r1 : List AInstr := [
    ⟨(some 3), none, .mov (.const (.int .i64 0))⟩]

def f16r2 : List AInstr := [
    ⟨(some 9), none, .mov (.tmp 0)⟩,
    ⟨(some 10), none, .len (.tmp 9)⟩,
    ⟨(some 11), none, .mov (.const (.int .i64 0))⟩]

def f16r3 : List AInstr := [
    ⟨(some 12), none, .ibin .lss (.tmp 11) (.tmp 10)⟩]

def f16r4 : List AInstr := [
    ⟨(some 13), none, .indexAddr 1 (.tmp 9) (.tmp 11)⟩,
    ⟨(some 14), none, .load none (.tmp 13)⟩,
    ⟨(some 5), none, .mov (.tmp 14)⟩]

def f16r5 : List AInstr := [
    ⟨(some 15), none, .mov (.tmp 3)⟩,
    ⟨(some 16), none, .mov (.tmp 5)⟩,
    ⟨(some 17), none, .len (.tmp 16)⟩,
    ⟨(some 18), none, .ibin .add (.tmp 15) (.tmp 17)⟩,
    ⟨(some 3), none, .mov (.tmp 18)⟩]

def f16r6 : List AInstr := [
    ⟨(some 19), none, .mov (.tmp 3)⟩,
    ⟨(some 20), none, .ibin .lss (.tmp 19) (.const (.int .i64 0))⟩]

def f16r7 : List AInstr := [
    ⟨(some 21), none, .bad⟩,
    ⟨none, none, .bad⟩]

def f16r8 : List AInstr := [
    ⟨(some 22), none, .ibin .add (.tmp 11) (.const (.int .i64 1))⟩,
    ⟨(some 11), none, .mov (.tmp 22)⟩]

/-- live: [0, 3, 9, 10, 11] -/
def f16l0 : ACode := (.seq (.ops f16r3)
  (.keep [0, 3, 9, 10, 11, 12] (.seq (.cond (.tmp 12) .skip (.exit 0))
  (.keep [0, 3, 9, 10, 11] (.seq (.block 1 (.seq (.ops f16r4)
  (.keep [0, 3, 5, 9, 10, 11] (.seq (.ops f16r5)
  (.keep [0, 3, 9, 10, 11] (.seq (.ops f16r6)
  (.keep [0, 3, 9, 10, 11, 20] (.cond (.tmp 20) (.keep [0, 3, 9, 10, 11] (.ops f16r7)) .skip))))))))
  (.keep [0, 3, 9, 10, 11] (.ops f16r8)))))))

def f16r10 : List AInstr := [
    ⟨(some 23), none, .mov (.tmp 3)⟩,
    ⟨(some 24), none, .callF 32 [.const (.slice none 0 0), .tmp 23]⟩,
    ⟨(some 6), none, .mov (.tmp 24)⟩]

def f16r11 : List AInstr := [
    ⟨(some 25), none, .mov (.tmp 0)⟩,
    ⟨(some 26), none, .len (.tmp 25)⟩,
    ⟨(some 27), none, .mov (.const (.int .i64 0))⟩]

def f16r12 : List AInstr := [
    ⟨(some 28), none, .ibin .lss (.tmp 27) (.tmp 26)⟩]

def f16r13 : List AInstr := [
    ⟨(some 29), none, .indexAddr 1 (.tmp 25) (.tmp 27)⟩,
    ⟨(some 30), none, .load none (.tmp 29)⟩,
    ⟨(some 8), none, .mov (.tmp 30)⟩]

def f16r14 : List AInstr := [
    ⟨(some 31), none, .mov (.tmp 6)⟩,
    ⟨(some 32), none, .mov (.tmp 8)⟩,
    ⟨(some 33), none, .append 1 1 (.tmp 31) (.tmp 32)⟩,
    ⟨(some 6), none, .mov (.tmp 33)⟩]

def f16r15 : List AInstr := [
    ⟨(some 34), none, .ibin .add (.tmp 27) (.const (.int .i64 1))⟩,
    ⟨(some 27), none, .mov (.tmp 34)⟩]

/-- live: [6, 25, 26, 27] -/
def f16l1 : ACode := (.seq (.ops f16r12)
  (.keep [6, 25, 26, 27, 28] (.seq (.cond (.tmp 28) .skip (.exit 2))
  (.keep [6, 25, 26, 27] (.seq (.block 3 (.seq (.ops f16r13)
  (.keep [6, 8, 25, 26, 27] (.ops f16r14))))
  (.keep [6, 25, 26, 27] (.ops f16r15)))))))

def f16r17 : List AInstr := [
    ⟨(some 35), none, .mov (.tmp 6)⟩,
    ⟨(some 2), none, .mov (.tmp 35)⟩]

def f16b : ACode := (.seq (.ops f16r0)
  (.keep [0] (.seq (.ops f16r1)
  (.keep [0, 3] (.seq (.seq (.ops f16r2)
  (.keep [0, 3, 9, 10, 11] (.block 0 (.loop f16l0))))
  (.keep [0, 3] (.seq (.ops f16r10)
  (.keep [0, 6] (.seq (.seq (.ops f16r11)
  (.keep [6, 25, 26, 27] (.block 2 (.loop f16l1))))
  (.keep [6] (.seq (.ops f16r17)
  (.keep [2] .ret))))))))))))

def f16 : AFn := ⟨36, [.tmp 2], f16b⟩

theorem f16_ok : compFn Tryz.prog 16 = some f16.strip := by kernel_rfl

/- function 17: weirhouse/sums.Check; parameters 1; operations that are not compiled: 0 -/
def f17r0 : List AInstr := [
    ⟨(some 2), none, .mov (.const (.int .u16 0))⟩]

def f17r1 : List AInstr := [
    ⟨(some 3), none, .mov (.tmp 0)⟩,
    ⟨(some 4), none, .callF 22 [.tmp 3]⟩,
    ⟨(some 5), none, .un .xor (.tmp 4)⟩,
    ⟨(some 2), none, .mov (.tmp 5)⟩]

def f17b : ACode := (.seq (.ops f17r0)
  (.keep [0] (.seq (.ops f17r1)
  (.keep [2] .ret))))

def f17 : AFn := ⟨6, [.tmp 2], f17b⟩

theorem f17_ok : compFn Tryz.prog 17 = some f17.strip := by kernel_rfl

/- function 18: weirhouse/trie.bit; parameters 2; operations that are not compiled: 0 -/
def f18r0 : List AInstr := [
    ⟨(some 2), none, .box (.tmp 0)⟩,
    ⟨(some 4), none, .mov (.const (.int .u8 0))⟩]

def f18r1 : List AInstr := [
    ⟨(some 5), none, .mov (.tmp 1)⟩,
    ⟨(some 6), none, .ibin .quo (.tmp 5) (.const (.int .i64 8))⟩,
    ⟨(some 7), none, .indexArr 1 4 (.tmp 2) (.tmp 6)⟩,
    ⟨(some 8), none, .load none (.tmp 7)⟩,
    ⟨(some 9), none, .mov (.tmp 1)⟩,
    ⟨(some 10), none, .ibin .rem (.tmp 9) (.const (.int .i64 8))⟩,
    ⟨(some 11), none, .ibin .sub (.const (.int .i64 7)) (.tmp 10)⟩,
    ⟨(some 12), none, .ibin .shr (.tmp 8) (.tmp 11)⟩,
    ⟨(some 13), none, .ibin .and (.tmp 12) (.const (.int .u8 1))⟩,
    ⟨(some 4), none, .mov (.tmp 13)⟩]

def f18b : ACode := (.seq (.ops f18r0)
  (.keep [1, 2] (.seq (.ops f18r1)
  (.keep [4] .ret))))

def f18 : AFn := ⟨14, [.tmp 4], f18b⟩

theorem f18_ok : compFn Tryz.prog 18 = some f18.strip := by kernel_rfl

/- function 19: slices.stableCmpFunc[weirhouse/api.Prefix]; parameters 3; operations that are not compiled: 0 -/
def f19r0 : List AInstr := [
    ⟨(some 6), none, .mov (.const (.int .i64 20))⟩]

def f19r1 : List AInstr := [
    ⟨(some 10), none, .mov (.tmp 6)⟩,
    ⟨(some 7), none, .mov (.const (.int .i64 0))⟩,
    ⟨(some 8), none, .mov (.tmp 10)⟩]

def f19r2 : List AInstr := [
    ⟨(some 11), none, .mov (.tmp 8)⟩,
    ⟨(some 12), none, .mov (.tmp 1)⟩,
    ⟨(some 13), none, .ibin .leq (.tmp 11) (.tmp 12)⟩]

def f19r3 : List AInstr := [
    ⟨(some 14), none, .mov (.tmp 0)⟩,
    ⟨(some 15), none, .mov (.tmp 7)⟩,
    ⟨(some 16), none, .mov (.tmp 8)⟩,
    ⟨(some 17), none, .mov (.tmp 2)⟩,
    ⟨(some 18), none, .callF 33 [.tmp 14, .tmp 15, .tmp 16, .tmp 17]⟩]

def f19r4 : List AInstr := [
    ⟨(some 19), none, .mov (.tmp 8)⟩,
    ⟨(some 7), none, .mov (.tmp 19)⟩]

def f19r5 : List AInstr := [
    ⟨(some 20), none, .mov (.tmp 8)⟩,
    ⟨(some 21), none, .mov (.tmp 6)⟩,
    ⟨(some 22), none, .ibin .add (.tmp 20) (.tmp 21)⟩,
    ⟨(some 8), none, .mov (.tmp 22)⟩]

/-- live: [0, 1, 2, 6, 7, 8] -/
def f19l0 : ACode := (.seq (.seq (.ops f19r2)
  (.keep [0, 1, 2, 6, 7, 8, 13] (.cond (.tmp 13) .skip (.exit 0))))
  (.keep [0, 1, 2, 6, 7, 8] (.block 1 (.seq (.ops f19r3)
  (.keep [0, 1, 2, 6, 8] (.seq (.ops f19r4)
  (.keep [0, 1, 2, 6, 7, 8] (.ops f19r5))))))))

def f19r7 : List AInstr := [
    ⟨(some 23), none, .mov (.tmp 0)⟩,
    ⟨(some 24), none, .mov (.tmp 7)⟩,
    ⟨(some 25), none, .mov (.tmp 1)⟩,
    ⟨(some 26), none, .mov (.tmp 2)⟩,
    ⟨(some 27), none, .callF 33 [.tmp 23, .tmp 24, .tmp 25, .tmp 26]⟩]

def f19r8 : List AInstr := [
    ⟨(some 28), none, .mov (.tmp 6)⟩,
    ⟨(some 29), none, .mov (.tmp 1)⟩,
    ⟨(some 30), none, .ibin .lss (.tmp 28) (.tmp 29)⟩]

def f19r9 : List AInstr := [
    ⟨(some 31), none, .mov (.tmp 6)⟩,
    ⟨(some 32), none, .ibin .mul (.const (.int .i64 2)) (.tmp 31)⟩,
    ⟨(some 7), none, .mov (.const (.int .i64 0))⟩,
    ⟨(some 8), none, .mov (.tmp 32)⟩]

def f19r10 : List AInstr := [
    ⟨(some 33), none, .mov (.tmp 8)⟩,
    ⟨(some 34), none, .mov (.tmp 1)⟩,
    ⟨(some 35), none, .ibin .leq (.tmp 33) (.tmp 34)⟩]

def f19r11 : List AInstr := [
    ⟨(some 36), none, .mov (.tmp 0)⟩,
    ⟨(some 37), none, .mov (.tmp 7)⟩,
    ⟨(some 38), none, .mov (.tmp 7)⟩,
    ⟨(some 39), none, .mov (.tmp 6)⟩,
    ⟨(some 40), none, .ibin .add (.tmp 38) (.tmp 39)⟩,
    ⟨(some 41), none, .mov (.tmp 8)⟩,
    ⟨(some 42), none, .mov (.tmp 2)⟩,
    ⟨(some 43), none, .callF 34 [.tmp 36, .tmp 37, .tmp 40, .tmp 41, .tmp 42]⟩]

def f19r12 : List AInstr := [
    ⟨(some 44), none, .mov (.tmp 8)⟩,
    ⟨(some 7), none, .mov (.tmp 44)⟩]

def f19r13 : List AInstr := [
    ⟨(some 45), none, .mov (.tmp 8)⟩,
    ⟨(some 46), none, .mov (.tmp 6)⟩,
    ⟨(some 47), none, .ibin .mul (.const (.int .i64 2)) (.tmp 46)⟩,
    ⟨(some 48), none, .ibin .add (.tmp 45) (.tmp 47)⟩,
    ⟨(some 8), none, .mov (.tmp 48)⟩]

/-- live: [0, 1, 2, 6, 7, 8] -/
def f19l1 : ACode := (.seq (.seq (.ops f19r10)
  (.keep [0, 1, 2, 6, 7, 8, 35] (.cond (.tmp 35) .skip (.exit 4))))
  (.keep [0, 1, 2, 6, 7, 8] (.block 5 (.seq (.ops f19r11)
  (.keep [0, 1, 2, 6, 8] (.seq (.ops f19r12)
  (.keep [0, 1, 2, 6, 7, 8] (.ops f19r13))))))))

def f19r15 : List AInstr := [
    ⟨(some 49), none, .mov (.tmp 7)⟩,
    ⟨(some 50), none, .mov (.tmp 6)⟩,
    ⟨(some 51), none, .ibin .add (.tmp 49) (.tmp 50)⟩,
    ⟨(some 9), none, .mov (.tmp 51)⟩]

def f19r16 : List AInstr := [
    ⟨(some 52), none, .mov (.tmp 9)⟩,
    ⟨(some 53), none, .mov (.tmp 1)⟩,
    ⟨(some 54), none, .ibin .lss (.tmp 52) (.tmp 53)⟩]

def f19r17 : List AInstr := [
    ⟨(some 55), none, .mov (.tmp 0)⟩,
    ⟨(some 56), none, .mov (.tmp 7)⟩,
    ⟨(some 57), none, .mov (.tmp 9)⟩,
    ⟨(some 58), none, .mov (.tmp 1)⟩,
    ⟨(some 59), none, .mov (.tmp 2)⟩,
    ⟨(some 60), none, .callF 34 [.tmp 55, .tmp 56, .tmp 57, .tmp 58, .tmp 59]⟩]

def f19r18 : List AInstr := [
    ⟨(some 61), none, .mov (.tmp 6)⟩,
    ⟨(some 62), none, .ibin .mul (.tmp 61) (.const (.int .i64 2))⟩,
    ⟨(some 6), none, .mov (.tmp 62)⟩]

/-- live: [0, 1, 2, 6] -/
def f19l2 : ACode := (.seq (.seq (.ops f19r8)
  (.keep [0, 1, 2, 6, 30] (.cond (.tmp 30) .skip (.exit 2))))
  (.keep [0, 1, 2, 6] (.block 3 (.seq (.ops f19r9)
  (.keep [0, 1, 2, 6, 7, 8] (.seq (.block 4 (.loop f19l1))
  (.keep [0, 1, 2, 6, 7] (.seq (.seq (.ops f19r15)
  (.keep [0, 1, 2, 6, 7, 9] (.seq (.ops f19r16)
  (.keep [0, 1, 2, 6, 7, 9, 54] (.cond (.tmp 54) (.keep [0, 1, 2, 6, 7, 9] (.ops f19r17)) .skip)))))
  (.keep [0, 1, 2, 6] (.ops f19r18))))))))))

def f19b : ACode := (.seq (.ops f19r0)
  (.keep [0, 1, 2, 6] (.seq (.ops f19r1)
  (.keep [0, 1, 2, 6, 7, 8] (.seq (.block 0 (.loop f19l0))
  (.keep [0, 1, 2, 6, 7] (.seq (.ops f19r7)
  (.keep [0, 1, 2, 6] (.block 2 (.loop f19l2))))))))))

def f19 : AFn := ⟨63, [], f19b⟩

theorem f19_ok : compFn Tryz.prog 19 = some f19.strip := by kernel_rfl

/- function 20: weirhouse/head.Read$1; parameters 1; operations that are not compiled: 0 -/
def f20r0 : List AInstr := [
    ⟨(some 2), none, .alloc [.int .u8 0, .int .u8 0, .int .u8 0, .int .u8 0, .int .u8 0, .int .u8 0, .int .u8 0, .int .u8 0, .int .i64 0, .int .i64 0, .int .i64 0, .int .i64 0, .int .i64 0]⟩,
    ⟨(some 3), none, .mov (.const (.int .i64 0))⟩]

def f20r1 : List AInstr := [
    ⟨(some 4), none, .build [.int .u8 0, .int .u8 0, .int .u8 0, .int .u8 0, .int .u8 0, .int .u8 0, .int .u8 0, .int .u8 0, .int .i64 0, .int .i64 0, .int .i64 0, .int .i64 0, .int .i64 0] []⟩,
    ⟨(some 5), none, .mov (.tmp 0)⟩,
    ⟨none, none, .store 13 (.tmp 2) (.tmp 4)⟩,
    ⟨(some 3), none, .mov (.tmp 5)⟩]

def f20b : ACode := (.seq (.ops f20r0)
  (.keep [0, 2] (.seq (.ops f20r1)
  (.keep [2, 3] .ret))))

def f20 : AFn := ⟨6, [.cell 2 (some 13), .tmp 3], f20b⟩

theorem f20_ok : compFn Tryz.prog 20 = some f20.strip := by kernel_rfl

/- function 21: weirhouse/head.Read$2; parameters 1; operations that are not compiled: 0 -/
def f21r0 : List AInstr := [
    ⟨(some 3), none, .mov (.const (.int .i64 0))⟩]

def f21r1 : List AInstr := [
    ⟨(some 4), none, .load none (.tmp 1)⟩,
    ⟨(some 5), none, .mov (.tmp 0)⟩,
    ⟨(some 6), none, .indexAddr 1 (.tmp 4) (.tmp 5)⟩,
    ⟨(some 7), none, .load none (.tmp 6)⟩,
    ⟨(some 8), none, .conv .i64 (.tmp 7)⟩,
    ⟨(some 9), none, .ibin .shl (.tmp 8) (.const (.int .u64 8))⟩,
    ⟨(some 10), none, .load none (.tmp 1)⟩,
    ⟨(some 11), none, .mov (.tmp 0)⟩,
    ⟨(some 12), none, .ibin .add (.tmp 11) (.const (.int .i64 1))⟩,
    ⟨(some 13), none, .indexAddr 1 (.tmp 10) (.tmp 12)⟩,
    ⟨(some 14), none, .load none (.tmp 13)⟩,
    ⟨(some 15), none, .conv .i64 (.tmp 14)⟩,
    ⟨(some 16), none, .ibin .or (.tmp 9) (.tmp 15)⟩,
    ⟨(some 3), none, .mov (.tmp 16)⟩]

def f21b : ACode := (.seq (.ops f21r0)
  (.keep [0, 1] (.seq (.draw f21r1 [(0, 0, false), (0, 0, false), (0, 0, false), (0, 0, false), (0, 0, false), (0, 0, false), (0, 0, false), (0, 0, false), (0, 0, false), (0, 0, false), (0, 0, false), (0, 0, false), (0, 0, false), (0, 0, false)])
  (.keep [3] .ret))))

def f21 : AFn := ⟨17, [.tmp 3], f21b⟩

theorem f21_ok : compFn Tryz.prog 21 = some f21.strip := by kernel_rfl

/- function 22: weirhouse/sums.Of; parameters 1; operations that are not compiled: 0 -/
def f22r0 : List AInstr := [
    ⟨(some 2), none, .mov (.const (.int .u16 0))⟩]

def f22r1 : List AInstr := [
    ⟨(some 3), none, .mov (.const (.int .u64 0))⟩]

def f22r2 : List AInstr := [
    ⟨(some 4), none, .mov (.const (.int .i64 0))⟩]

def f22r3 : List AInstr := [
    ⟨(some 5), none, .mov (.tmp 4)⟩,
    ⟨(some 6), none, .mov (.tmp 0)⟩,
    ⟨(some 7), none, .len (.tmp 6)⟩,
    ⟨(some 8), none, .ibin .lss (.tmp 5) (.tmp 7)⟩]

def f22r4 : List AInstr := [
    ⟨(some 11), none, .mov (.tmp 3)⟩,
    ⟨(some 12), none, .mov (.tmp 0)⟩,
    ⟨(some 13), none, .mov (.tmp 4)⟩,
    ⟨(some 14), none, .indexAddr 1 (.tmp 12) (.tmp 13)⟩,
    ⟨(some 15), none, .load none (.tmp 14)⟩,
    ⟨(some 16), none, .conv .u64 (.tmp 15)⟩,
    ⟨(some 17), none, .ibin .shl (.tmp 16) (.const (.int .u64 8))⟩,
    ⟨(some 18), none, .ibin .add (.tmp 11) (.tmp 17)⟩,
    ⟨(some 3), none, .mov (.tmp 18)⟩]

def f22r5 : List AInstr := [
    ⟨(some 19), none, .mov (.tmp 4)⟩,
    ⟨(some 20), none, .ibin .add (.tmp 19) (.const (.int .i64 1))⟩,
    ⟨(some 21), none, .mov (.tmp 0)⟩,
    ⟨(some 22), none, .len (.tmp 21)⟩,
    ⟨(some 23), none, .ibin .lss (.tmp 20) (.tmp 22)⟩]

def f22r6 : List AInstr := [
    ⟨(some 24), none, .mov (.tmp 3)⟩,
    ⟨(some 25), none, .mov (.tmp 0)⟩,
    ⟨(some 26), none, .mov (.tmp 4)⟩,
    ⟨(some 27), none, .ibin .add (.tmp 26) (.const (.int .i64 1))⟩,
    ⟨(some 28), none, .indexAddr 1 (.tmp 25) (.tmp 27)⟩,
    ⟨(some 29), none, .load none (.tmp 28)⟩,
    ⟨(some 30), none, .conv .u64 (.tmp 29)⟩,
    ⟨(some 31), none, .ibin .add (.tmp 24) (.tmp 30)⟩,
    ⟨(some 3), none, .mov (.tmp 31)⟩]

def f22r7 : List AInstr := [
    ⟨(some 9), none, .mov (.tmp 4)⟩,
    ⟨(some 10), none, .ibin .add (.tmp 9) (.const (.int .i64 2))⟩,
    ⟨(some 4), none, .mov (.tmp 10)⟩]

/-- live: [0, 3, 4] -/
def f22l0 : ACode := (.seq (.seq (.ops f22r3)
  (.keep [0, 3, 4, 8] (.cond (.tmp 8) .skip (.exit 0))))
  (.keep [0, 3, 4] (.seq (.block 1 (.seq (.ops f22r4)
  (.keep [0, 3, 4] (.seq (.ops f22r5)
  (.keep [0, 3, 4, 23] (.cond (.tmp 23) (.keep [0, 3, 4] (.ops f22r6)) .skip))))))
  (.keep [0, 3, 4] (.ops f22r7)))))

def f22r9 : List AInstr := [
    ⟨(some 32), none, .mov (.tmp 3)⟩,
    ⟨(some 33), none, .callF 35 [.tmp 32]⟩,
    ⟨(some 2), none, .mov (.tmp 33)⟩]

def f22b : ACode := (.seq (.ops f22r0)
  (.keep [0] (.seq (.ops f22r1)
  (.keep [0, 3] (.seq (.seq (.ops f22r2)
  (.keep [0, 3, 4] (.block 0 (.loop f22l0))))
  (.keep [3] (.seq (.ops f22r9)
  (.keep [2] .ret))))))))

def f22 : AFn := ⟨34, [.tmp 2], f22b⟩

theorem f22_ok : compFn Tryz.prog 22 = some f22.strip := by kernel_rfl

/- function 23: weirhouse/rules.Wrong; parameters 1; operations that are not compiled: 0 -/
def f23r0 : List AInstr := [
    ⟨(some 2), none, .mov (.const (.int .i64 0))⟩]

def f23r1 : List AInstr := [
    ⟨(some 3), none, .mov (.tmp 0)⟩,
    ⟨(some 4), none, .len (.tmp 3)⟩,
    ⟨(some 5), none, .ibin .gtr (.tmp 4) (.const (.int .i64 400))⟩,
    ⟨(some 6), none, .mov (.tmp 5)⟩,
    ⟨(some 7), (some (6, false)), .mov (.tmp 0)⟩,
    ⟨(some 8), (some (6, false)), .callF 36 [.tmp 7, .const (.func (.func 37) #[] #[])]⟩,
    ⟨(some 9), none, .pick (.tmp 6) (.const (.bool true)) (.tmp 8)⟩]

def f23r2 : List AInstr := [
    ⟨(some 2), none, .mov (.const (.int .i64 2))⟩]

def f23r3 : List AInstr := [
    ⟨(some 2), none, .mov (.const (.int .i64 0))⟩]

def f23b : ACode := (.seq (.ops f23r0)
  (.keep [0] (.seq (.seq (.ops f23r1)
  (.keep [9] (.cond (.tmp 9) (.keep [] (.seq (.ops f23r2)
  (.keep [2] .ret))) .skip)))
  (.keep [] (.seq (.ops f23r3)
  (.keep [2] .ret))))))

def f23 : AFn := ⟨10, [.tmp 2], f23b⟩

theorem f23_ok : compFn Tryz.prog 23 = some f23.strip := by kernel_rfl

/- function 24: slices.IndexFunc[[]weirhouse/api.Rule,weirhouse/api.Rule]; parameters 2; operations that are not compiled: 0 -/
def f24r0 : List AInstr := [
    ⟨(some 4), none, .mov (.const (.int .i64 0))⟩]

def f24r1 : List AInstr := [
    ⟨(some 6), none, .mov (.tmp 0)⟩,
    ⟨(some 7), none, .len (.tmp 6)⟩,
    ⟨(some 8), none, .mov (.const (.int .i64 0))⟩]

def f24r2 : List AInstr := [
    ⟨(some 9), none, .ibin .lss (.tmp 8) (.tmp 7)⟩]

def f24r3 : List AInstr := [
    ⟨(some 10), none, .mov (.tmp 8)⟩,
    ⟨(some 5), none, .mov (.tmp 10)⟩]

def f24r4 : List AInstr := [
    ⟨(some 11), none, .mov (.tmp 1)⟩,
    ⟨(some 12), none, .mov (.tmp 0)⟩,
    ⟨(some 13), none, .mov (.tmp 5)⟩,
    ⟨(some 14), none, .indexAddr 14 (.tmp 12) (.tmp 13)⟩,
    ⟨(some 15), none, .load (some 14) (.tmp 14)⟩,
    ⟨(some 16), none, .callV (.tmp 11) [.tmp 15]⟩]

def f24r5 : List AInstr := [
    ⟨(some 17), none, .mov (.tmp 5)⟩,
    ⟨(some 4), none, .mov (.tmp 17)⟩]

def f24r6 : List AInstr := [
    ⟨(some 18), none, .ibin .add (.tmp 8) (.const (.int .i64 1))⟩,
    ⟨(some 8), none, .mov (.tmp 18)⟩]

/-- live: [0, 1, 7, 8] -/
def f24l0 : ACode := (.seq (.ops f24r2)
  (.keep [0, 1, 7, 8, 9] (.seq (.cond (.tmp 9) .skip (.exit 0))
  (.keep [0, 1, 7, 8] (.seq (.block 1 (.seq (.ops f24r3)
  (.keep [0, 1, 5, 7, 8] (.seq (.ops f24r4)
  (.keep [0, 1, 5, 7, 8, 16] (.cond (.tmp 16) (.keep [5] (.seq (.ops f24r5)
  (.keep [4] .ret))) .skip))))))
  (.keep [0, 1, 7, 8] (.ops f24r6)))))))

def f24r8 : List AInstr := [
    ⟨(some 4), none, .mov (.const (.int .i64 (-1)))⟩]

def f24b : ACode := (.seq (.ops f24r0)
  (.keep [0, 1] (.seq (.seq (.ops f24r1)
  (.keep [0, 1, 7, 8] (.block 0 (.loop f24l0))))
  (.keep [] (.seq (.ops f24r8)
  (.keep [4] .ret))))))

def f24 : AFn := ⟨19, [.tmp 4], f24b⟩

theorem f24_ok : compFn Tryz.prog 24 = some f24.strip := by kernel_rfl

/- function 25: weirhouse/rules.Class$1; parameters 1; operations that are not compiled: 0 -/
def f25r0 : List AInstr := [
    ⟨(some 2), none, .box (.tmp 0)⟩,
    ⟨(some 3), none, .mov (.const (.bool false))⟩]

def f25r1 : List AInstr := [
    ⟨(some 4), none, .load (some 14) (.tmp 2)⟩,
    ⟨(some 5), none, .load (some 13) (.tmp 1)⟩,
    ⟨(some 6), none, .callF 26 [.tmp 4, .tmp 5]⟩,
    ⟨(some 3), none, .mov (.tmp 6)⟩]

def f25b : ACode := (.seq (.ops f25r0)
  (.keep [1, 2] (.seq (.ops f25r1)
  (.keep [3] .ret))))

def f25 : AFn := ⟨7, [.tmp 3], f25b⟩

theorem f25_ok : compFn Tryz.prog 25 = some f25.strip := by kernel_rfl

/- function 26: weirhouse/rules.Fits; parameters 2; operations that are not compiled: 0 -/
def f26r0 : List AInstr := [
    ⟨(some 2), none, .box (.tmp 0)⟩,
    ⟨(some 3), none, .box (.tmp 1)⟩,
    ⟨(some 4), none, .mov (.const (.bool false))⟩]

def f26r1 : List AInstr := [
    ⟨(some 5), none, .fieldAddr 0 (.tmp 3)⟩,
    ⟨(some 6), none, .load (some 4) (.tmp 5)⟩,
    ⟨(some 7), none, .fieldAddr 0 (.tmp 2)⟩,
    ⟨(some 8), none, .load (some 4) (.tmp 7)⟩,
    ⟨(some 9), none, .fieldAddr 8 (.tmp 2)⟩,
    ⟨(some 10), none, .load none (.tmp 9)⟩,
    ⟨(some 11), none, .build [.int .u8 0, .int .u8 0, .int .u8 0, .int .u8 0, .int .i64 0, .int .i64 0] [(0, 4, (.tmp 8)), (4, 1, (.tmp 10))]⟩,
    ⟨(some 12), none, .callF 38 [.tmp 6, .tmp 11]⟩,
    ⟨(some 13), none, .mov (.tmp 12)⟩,
    ⟨(some 14), (some (13, true)), .fieldAddr 4 (.tmp 3)⟩,
    ⟨(some 15), (some (13, true)), .load (some 4) (.tmp 14)⟩,
    ⟨(some 16), (some (13, true)), .fieldAddr 4 (.tmp 2)⟩,
    ⟨(some 17), (some (13, true)), .load (some 4) (.tmp 16)⟩,
    ⟨(some 18), (some (13, true)), .fieldAddr 9 (.tmp 2)⟩,
    ⟨(some 19), (some (13, true)), .load none (.tmp 18)⟩,
    ⟨(some 20), (some (13, true)), .build [.int .u8 0, .int .u8 0, .int .u8 0, .int .u8 0, .int .i64 0, .int .i64 0] [(0, 4, (.tmp 17)), (4, 1, (.tmp 19))]⟩,
    ⟨(some 21), (some (13, true)), .callF 38 [.tmp 15, .tmp 20]⟩,
    ⟨(some 22), none, .pick (.tmp 13) (.tmp 21) (.const (.bool false))⟩,
    ⟨(some 23), none, .mov (.tmp 22)⟩,
    ⟨(some 24), (some (23, true)), .fieldAddr 10 (.tmp 2)⟩,
    ⟨(some 25), (some (23, true)), .load none (.tmp 24)⟩,
    ⟨(some 26), (some (23, true)), .ibin .eql (.tmp 25) (.const (.int .i64 0))⟩,
    ⟨(some 27), (some (23, true)), .mov (.tmp 26)⟩,
    ⟨(some 28), (some (27, false)), .fieldAddr 10 (.tmp 2)⟩,
    ⟨(some 29), (some (27, false)), .load none (.tmp 28)⟩,
    ⟨(some 30), (some (27, false)), .fieldAddr 8 (.tmp 3)⟩,
    ⟨(some 31), (some (27, false)), .load none (.tmp 30)⟩,
    ⟨(some 32), (some (27, false)), .ibin .eql (.tmp 29) (.tmp 31)⟩,
    ⟨(some 33), (some (23, true)), .pick (.tmp 27) (.const (.bool true)) (.tmp 32)⟩,
    ⟨(some 34), none, .pick (.tmp 23) (.tmp 33) (.const (.bool false))⟩,
    ⟨(some 35), none, .mov (.tmp 34)⟩,
    ⟨(some 36), (some (35, true)), .fieldAddr 10 (.tmp 3)⟩,
    ⟨(some 37), (some (35, true)), .load none (.tmp 36)⟩,
    ⟨(some 38), (some (35, true)), .fieldAddr 11 (.tmp 2)⟩,
    ⟨(some 39), (some (35, true)), .load none (.tmp 38)⟩,
    ⟨(some 40), (some (35, true)), .ibin .geq (.tmp 37) (.tmp 39)⟩,
    ⟨(some 41), none, .pick (.tmp 35) (.tmp 40) (.const (.bool false))⟩,
    ⟨(some 42), none, .mov (.tmp 41)⟩,
    ⟨(some 43), (some (42, true)), .fieldAddr 10 (.tmp 3)⟩,
    ⟨(some 44), (some (42, true)), .load none (.tmp 43)⟩,
    ⟨(some 45), (some (42, true)), .fieldAddr 12 (.tmp 2)⟩,
    ⟨(some 46), (some (42, true)), .load none (.tmp 45)⟩,
    ⟨(some 47), (some (42, true)), .ibin .leq (.tmp 44) (.tmp 46)⟩,
    ⟨(some 48), none, .pick (.tmp 42) (.tmp 47) (.const (.bool false))⟩,
    ⟨(some 4), none, .mov (.tmp 48)⟩]

def f26b : ACode := (.seq (.ops f26r0)
  (.keep [2, 3] (.seq (.ops f26r1)
  (.keep [4] .ret))))

def f26 : AFn := ⟨49, [.tmp 4], f26b⟩

theorem f26_ok : compFn Tryz.prog 26 = some f26.strip := by kernel_rfl

/- function 27: weirhouse/trie.build; parameters 1; operations that are not compiled: 0 -/
def f27r0 : List AInstr := [
    ⟨(some 2), none, .mov (.const (.pointer none))⟩]

def f27r1 : List AInstr := [
    ⟨(some 10), none, .build [.pointer none, .pointer none, .pointer none] []⟩,
    ⟨(some 11), none, .box (.tmp 10)⟩,
    ⟨(some 3), none, .mov (.tmp 11)⟩]

def f27r2 : List AInstr := [
    ⟨(some 12), none, .mov (.tmp 0)⟩,
    ⟨(some 13), none, .len (.tmp 12)⟩,
    ⟨(some 14), none, .mov (.const (.int .i64 0))⟩]

def f27r3 : List AInstr := [
    ⟨(some 15), none, .ibin .lss (.tmp 14) (.tmp 13)⟩]

def f27r4 : List AInstr := [
    ⟨(some 16), none, .indexAddr 6 (.tmp 12) (.tmp 14)⟩,
    ⟨(some 17), none, .load (some 6) (.tmp 16)⟩,
    ⟨(some 5), none, .alloc [.int .u8 0, .int .u8 0, .int .u8 0, .int .u8 0, .int .i64 0, .int .i64 0]⟩,
    ⟨none, none, .store 6 (.tmp 5) (.tmp 17)⟩]

def f27r5 : List AInstr := [
    ⟨(some 18), none, .mov (.tmp 3)⟩,
    ⟨(some 6), none, .mov (.tmp 18)⟩]

def f27r6 : List AInstr := [
    ⟨(some 19), none, .fieldAddr 4 (.tmp 5)⟩,
    ⟨(some 20), none, .load none (.tmp 19)⟩,
    ⟨(some 21), none, .mov (.const (.int .i64 0))⟩]

def f27r7 : List AInstr := [
    ⟨(some 22), none, .ibin .lss (.tmp 21) (.tmp 20)⟩]

def f27r8 : List AInstr := [
    ⟨(some 23), none, .mov (.tmp 21)⟩,
    ⟨(some 7), none, .mov (.tmp 23)⟩]

def f27r9 : List AInstr := [
    ⟨(some 24), none, .fieldAddr 0 (.tmp 5)⟩,
    ⟨(some 25), none, .load (some 4) (.tmp 24)⟩,
    ⟨(some 26), none, .mov (.tmp 7)⟩,
    ⟨(some 27), none, .callF 18 [.tmp 25, .tmp 26]⟩,
    ⟨(some 8), none, .mov (.tmp 27)⟩]

def f27r10 : List AInstr := [
    ⟨(some 28), none, .mov (.tmp 6)⟩,
    ⟨(some 29), none, .mov (.tmp 8)⟩,
    ⟨(some 30), none, .nilCheck (.tmp 28)⟩,
    ⟨(some 31), none, .fieldAddr 0 (.tmp 30)⟩,
    ⟨(some 32), none, .indexArr 1 2 (.tmp 31) (.tmp 29)⟩,
    ⟨(some 33), none, .load none (.tmp 32)⟩,
    ⟨(some 34), none, .eqP false (.tmp 33) (.const (.pointer none))⟩]

def f27r11 : List AInstr := [
    ⟨(some 35), none, .mov (.tmp 6)⟩,
    ⟨(some 36), none, .mov (.tmp 8)⟩,
    ⟨(some 37), none, .build [.pointer none, .pointer none, .pointer none] []⟩,
    ⟨(some 38), none, .box (.tmp 37)⟩,
    ⟨(some 39), none, .nilCheck (.tmp 35)⟩,
    ⟨(some 40), none, .fieldAddr 0 (.tmp 39)⟩,
    ⟨(some 41), none, .indexArr 1 2 (.tmp 40) (.tmp 36)⟩,
    ⟨none, none, .store 1 (.tmp 41) (.tmp 38)⟩]

def f27r12 : List AInstr := [
    ⟨(some 42), none, .mov (.tmp 6)⟩,
    ⟨(some 43), none, .mov (.tmp 8)⟩,
    ⟨(some 44), none, .nilCheck (.tmp 42)⟩,
    ⟨(some 45), none, .fieldAddr 0 (.tmp 44)⟩,
    ⟨(some 46), none, .indexArr 1 2 (.tmp 45) (.tmp 43)⟩,
    ⟨(some 47), none, .load none (.tmp 46)⟩,
    ⟨(some 6), none, .mov (.tmp 47)⟩]

def f27r13 : List AInstr := [
    ⟨(some 48), none, .ibin .add (.tmp 21) (.const (.int .i64 1))⟩,
    ⟨(some 21), none, .mov (.tmp 48)⟩]

/-- live: [3, 5, 6, 12, 13, 14, 20, 21] -/
def f27l0 : ACode := (.seq (.ops f27r7)
  (.keep [3, 5, 6, 12, 13, 14, 20, 21, 22] (.seq (.cond (.tmp 22) .skip (.exit 2))
  (.keep [3, 5, 6, 12, 13, 14, 20, 21] (.seq (.block 3 (.seq (.ops f27r8)
  (.keep [3, 5, 6, 7, 12, 13, 14, 20, 21] (.seq (.ops f27r9)
  (.keep [3, 5, 6, 8, 12, 13, 14, 20, 21] (.seq (.seq (.ops f27r10)
  (.keep [3, 5, 6, 8, 12, 13, 14, 20, 21, 34] (.cond (.tmp 34) (.keep [3, 5, 6, 8, 12, 13, 14, 20, 21] (.ops f27r11)) .skip)))
  (.keep [3, 5, 6, 8, 12, 13, 14, 20, 21] (.ops f27r12))))))))
  (.keep [3, 5, 6, 12, 13, 14, 20, 21] (.ops f27r13)))))))

def f27r15 : List AInstr := [
    ⟨(some 49), none, .fieldAddr 5 (.tmp 5)⟩,
    ⟨(some 50), none, .load none (.tmp 49)⟩,
    ⟨(some 9), none, .alloc [.int .i64 0]⟩,
    ⟨none, none, .store 1 (.tmp 9) (.tmp 50)⟩]

def f27r16 : List AInstr := [
    ⟨(some 51), none, .mov (.tmp 6)⟩,
    ⟨(some 52), none, .nilCheck (.tmp 51)⟩,
    ⟨(some 53), none, .fieldAddr 2 (.tmp 52)⟩,
    ⟨none, none, .store 1 (.tmp 53) (.tmp 9)⟩]

def f27r17 : List AInstr := [
    ⟨(some 54), none, .ibin .add (.tmp 14) (.const (.int .i64 1))⟩,
    ⟨(some 14), none, .mov (.tmp 54)⟩]

/-- live: [3, 12, 13, 14] -/
def f27l1 : ACode := (.seq (.ops f27r3)
  (.keep [3, 12, 13, 14, 15] (.seq (.cond (.tmp 15) .skip (.exit 0))
  (.keep [3, 12, 13, 14] (.seq (.block 1 (.seq (.ops f27r4)
  (.keep [3, 5, 12, 13, 14] (.seq (.ops f27r5)
  (.keep [3, 5, 6, 12, 13, 14] (.seq (.seq (.ops f27r6)
  (.keep [3, 5, 6, 12, 13, 14, 20, 21] (.block 2 (.loop f27l0))))
  (.keep [3, 5, 6, 12, 13, 14] (.seq (.ops f27r15)
  (.keep [3, 6, 9, 12, 13, 14] (.ops f27r16))))))))))
  (.keep [3, 12, 13, 14] (.ops f27r17)))))))

def f27r19 : List AInstr := [
    ⟨(some 55), none, .mov (.tmp 3)⟩,
    ⟨(some 2), none, .mov (.tmp 55)⟩]

def f27b : ACode := (.seq (.ops f27r0)
  (.keep [0] (.seq (.ops f27r1)
  (.keep [0, 3] (.seq (.seq (.ops f27r2)
  (.keep [3, 12, 13, 14] (.block 0 (.loop f27l1))))
  (.keep [3] (.seq (.ops f27r19)
  (.keep [2] .ret))))))))

def f27 : AFn := ⟨56, [.tmp 2], f27b⟩

theorem f27_ok : compFn Tryz.prog 27 = some f27.strip := by kernel_rfl

/- function 28: weirhouse/bench.Parse; parameters 1; operations that are not compiled: 0 -/
def f28r0 : List AInstr := [
    ⟨(some 2), none, .alloc [.int .i64 0, .int .i64 0, .int .i64 0, .slice none 0 0]⟩,
    ⟨(some 3), none, .mov (.const (.int .i64 0))⟩,
    ⟨(some 4), none, .mov (.const (.int .i64 0))⟩]

def f28r1 : List AInstr := [
    ⟨(some 5), none, .alloc [.int .i64 0, .int .i64 0, .int .i64 0, .slice none 0 0]⟩]

def f28r2 : List AInstr := [
    ⟨(some 6), none, .mov (.const (.int .i64 0))⟩]

def f28r3 : List AInstr := [
    ⟨(some 7), none, .mov (.const (.func (.func 39) #[] #[]))⟩]

def f28r4 : List AInstr := [
    ⟨(some 11), none, .mov (.tmp 6)⟩,
    ⟨(some 12), none, .ibin .eql (.tmp 11) (.const (.int .i64 0))⟩,
    ⟨(some 13), none, .mov (.tmp 12)⟩,
    ⟨(some 14), (some (13, false)), .mov (.tmp 0)⟩,
    ⟨(some 15), (some (13, false)), .str (.cmp true) [.tmp 14, .const (.string ⟨#[]⟩)]⟩,
    ⟨(some 16), none, .pick (.tmp 13) (.const (.bool true)) (.tmp 15)⟩]

def f28r5 : List AInstr := [
    ⟨(some 18), none, .mov (.tmp 0)⟩,
    ⟨(some 19), none, .callF 41 [.tmp 18, .const (.string ⟨#[10]⟩)]⟩,
    ⟨(some 17), none, .mov (.tmp 19)⟩,
    ⟨(some 20), none, .extract 0 (.tmp 17)⟩,
    ⟨(some 21), none, .extract 1 (.tmp 17)⟩,
    ⟨(some 22), none, .extract 2 (.tmp 17)⟩,
    ⟨(some 8), none, .mov (.tmp 20)⟩,
    ⟨(some 9), none, .mov (.tmp 21)⟩,
    ⟨(some 10), none, .mov (.tmp 22)⟩]

def f28r6 : List AInstr := [
    ⟨(some 23), none, .mov (.tmp 10)⟩,
    ⟨(some 24), none, .un .not (.tmp 23)⟩,
    ⟨(some 25), none, .mov (.tmp 24)⟩,
    ⟨(some 26), (some (25, false)), .mov (.tmp 7)⟩,
    ⟨(some 27), (some (25, false)), .mov (.tmp 8)⟩,
    ⟨(some 28), (some (25, false)), .callV (.tmp 26) [.tmp 27, .tmp 5]⟩,
    ⟨(some 29), (some (25, false)), .un .not (.tmp 28)⟩,
    ⟨(some 30), none, .pick (.tmp 25) (.const (.bool true)) (.tmp 29)⟩]

def f28r7 : List AInstr := [
    ⟨(some 31), none, .build [.int .i64 0, .int .i64 0, .int .i64 0, .slice none 0 0] []⟩,
    ⟨(some 32), none, .mov (.tmp 6)⟩,
    ⟨none, none, .store 4 (.tmp 2) (.tmp 31)⟩,
    ⟨(some 3), none, .mov (.tmp 32)⟩,
    ⟨(some 4), none, .mov (.const (.int .i64 1))⟩]

def f28r8 : List AInstr := [
    ⟨(some 33), none, .mov (.tmp 9)⟩,
    ⟨(some 0), none, .mov (.tmp 33)⟩]

def f28r9 : List AInstr := [
    ⟨(some 34), none, .mov (.tmp 6)⟩,
    ⟨(some 35), none, .ibin .add (.tmp 34) (.const (.int .i64 1))⟩,
    ⟨(some 6), none, .mov (.tmp 35)⟩]

def f28r10 : List AInstr := [
    ⟨(some 7), none, .mov (.const (.func (.func 40) #[] #[]))⟩]

/-- live: [0, 2, 5, 6, 7] -/
def f28l0 : ACode := (.seq (.seq (.ops f28r4)
  (.keep [0, 2, 5, 6, 7, 16] (.cond (.tmp 16) .skip (.exit 0))))
  (.keep [0, 2, 5, 6, 7] (.seq (.block 1 (.seq (.ops f28r5)
  (.keep [2, 5, 6, 7, 8, 9, 10] (.seq (.seq (.ops f28r6)
  (.keep [2, 5, 6, 9, 30] (.cond (.tmp 30) (.keep [2, 6] (.seq (.ops f28r7)
  (.keep [2, 3, 4] .ret))) .skip)))
  (.keep [2, 5, 6, 9] (.seq (.ops f28r8)
  (.keep [0, 2, 5, 6] (.ops f28r9))))))))
  (.keep [0, 2, 5, 6] (.ops f28r10)))))

def f28r12 : List AInstr := [
    ⟨(some 36), none, .load (some 4) (.tmp 5)⟩,
    ⟨none, none, .store 4 (.tmp 2) (.tmp 36)⟩,
    ⟨(some 3), none, .mov (.const (.int .i64 0))⟩,
    ⟨(some 4), none, .mov (.const (.int .i64 0))⟩]

def f28b : ACode := (.seq (.ops f28r0)
  (.keep [0, 2] (.seq (.ops f28r1)
  (.keep [0, 2, 5] (.seq (.ops f28r2)
  (.keep [0, 2, 5, 6] (.seq (.seq (.ops f28r3)
  (.keep [0, 2, 5, 6, 7] (.block 0 (.loop f28l0))))
  (.keep [2, 5] (.seq (.ops f28r12)
  (.keep [2, 3, 4] .ret))))))))))

def f28 : AFn := ⟨37, [.cell 2 (some 4), .tmp 3, .tmp 4], f28b⟩

theorem f28_ok : compFn Tryz.prog 28 = some f28.strip := by kernel_rfl

/- function 29: weirhouse/pace.Play; parameters 4; operations that are not compiled: 0 -/
def f29r0 : List AInstr := [
    ⟨(some 8), none, .mov (.const (.slice none 0 0))⟩,
    ⟨(some 9), none, .alloc [.slice none 0 0, .int .i64 0, .int .i64 0, .int .i64 0, .int .i64 0, .int .i64 0, .int .i64 0, .int .i64 0, .int .i64 0, .int .i64 0]⟩,
    ⟨(some 10), none, .mov (.const (.int .i64 0))⟩]

def f29r1 : List AInstr := [
    ⟨(some 19), none, .mov (.tmp 0)⟩,
    ⟨(some 20), none, .mov (.tmp 1)⟩,
    ⟨(some 21), none, .mov (.tmp 2)⟩,
    ⟨(some 22), none, .callF 42 [.tmp 19, .tmp 20, .tmp 21]⟩,
    ⟨(some 11), none, .mov (.tmp 22)⟩]

def f29r2 : List AInstr := [
    ⟨(some 23), none, .mov (.tmp 11)⟩,
    ⟨(some 24), none, .ibin .neq (.tmp 23) (.const (.int .i64 0))⟩]

def f29r3 : List AInstr := [
    ⟨(some 25), none, .build [.slice none 0 0, .int .i64 0, .int .i64 0, .int .i64 0, .int .i64 0, .int .i64 0, .int .i64 0, .int .i64 0, .int .i64 0, .int .i64 0] []⟩,
    ⟨(some 26), none, .mov (.tmp 11)⟩,
    ⟨(some 8), none, .mov (.const (.slice none 0 0))⟩,
    ⟨none, none, .store 10 (.tmp 9) (.tmp 25)⟩,
    ⟨(some 10), none, .mov (.tmp 26)⟩]

def f29r4 : List AInstr := [
    ⟨(some 28), none, .mov (.tmp 0)⟩,
    ⟨(some 29), none, .mov (.tmp 1)⟩,
    ⟨(some 30), none, .mov (.tmp 2)⟩,
    ⟨(some 31), none, .callF 43 [.tmp 28, .tmp 29, .tmp 30]⟩,
    ⟨(some 27), none, .mov (.tmp 31)⟩,
    ⟨(some 32), none, .extract 0 (.tmp 27)⟩,
    ⟨(some 33), none, .extract 1 (.tmp 27)⟩,
    ⟨(some 12), none, .alloc [.int .i64 0, .int .i64 0, .int .i64 0, .int .i64 0, .int .i64 0]⟩,
    ⟨none, none, .store 5 (.tmp 12) (.tmp 32)⟩,
    ⟨(some 13), none, .mov (.tmp 33)⟩]

def f29r5 : List AInstr := [
    ⟨(some 34), none, .build [.slice none 0 0, .int .i64 0, .int .i64 0, .int .i64 0] [(1, 1, (.const (.int .i64 100))), (2, 1, (.const (.int .i64 60000)))]⟩,
    ⟨(some 35), none, .load (some 5) (.tmp 12)⟩,
    ⟨(some 36), none, .build [.slice none 0 0, .int .i64 0, .int .i64 0, .int .i64 0, .int .i64 0, .int .i64 0, .int .i64 0, .int .i64 0, .int .i64 0, .int .i64 0] [(0, 4, (.tmp 34)), (4, 5, (.tmp 35))]⟩,
    ⟨(some 14), none, .alloc [.slice none 0 0, .int .i64 0, .int .i64 0, .int .i64 0, .int .i64 0, .int .i64 0, .int .i64 0, .int .i64 0, .int .i64 0, .int .i64 0]⟩,
    ⟨none, none, .store 10 (.tmp 14) (.tmp 36)⟩]

def f29r6 : List AInstr := [
    ⟨(some 15), none, .mov (.const (.slice none 0 0))⟩]

def f29r7 : List AInstr := [
    ⟨(some 37), none, .mov (.tmp 3)⟩,
    ⟨(some 38), none, .len (.tmp 37)⟩,
    ⟨(some 39), none, .mov (.const (.int .i64 0))⟩]

def f29r8 : List AInstr := [
    ⟨(some 40), none, .ibin .lss (.tmp 39) (.tmp 38)⟩]

def f29r9 : List AInstr := [
    ⟨(some 41), none, .indexAddr 2 (.tmp 37) (.tmp 39)⟩,
    ⟨(some 42), none, .load (some 2) (.tmp 41)⟩,
    ⟨(some 17), none, .alloc [.int .i64 0, .int .i64 0]⟩,
    ⟨none, none, .store 2 (.tmp 17) (.tmp 42)⟩]

def f29r10 : List AInstr := [
    ⟨(some 18), none, .alloc [.int .i64 0, .slice none 0 0]⟩]

def f29r11 : List AInstr := [
    ⟨(some 44), none, .load (some 10) (.tmp 14)⟩,
    ⟨(some 45), none, .load (some 2) (.tmp 17)⟩,
    ⟨(some 46), none, .callF 44 [.tmp 44, .tmp 45]⟩,
    ⟨(some 43), none, .mov (.tmp 46)⟩,
    ⟨(some 47), none, .extract 0 (.tmp 43)⟩,
    ⟨(some 48), none, .extract 1 (.tmp 43)⟩,
    ⟨none, none, .store 10 (.tmp 14) (.tmp 47)⟩,
    ⟨none, none, .store 2 (.tmp 18) (.tmp 48)⟩]

def f29r12 : List AInstr := [
    ⟨(some 49), none, .mov (.tmp 15)⟩,
    ⟨(some 50), none, .load (some 2) (.tmp 18)⟩,
    ⟨(some 51), none, .buildSlice 2 1 [.int .i64 0, .slice none 0 0] [(0, 2, (.tmp 50))]⟩,
    ⟨(some 52), none, .append 2 32 (.tmp 49) (.tmp 51)⟩,
    ⟨(some 15), none, .mov (.tmp 52)⟩]

def f29r13 : List AInstr := [
    ⟨(some 53), none, .ibin .add (.tmp 39) (.const (.int .i64 1))⟩,
    ⟨(some 39), none, .mov (.tmp 53)⟩]

/-- live: [9, 14, 15, 37, 38, 39] -/
def f29l0 : ACode := (.seq (.ops f29r8)
  (.keep [9, 14, 15, 37, 38, 39, 40] (.seq (.cond (.tmp 40) .skip (.exit 0))
  (.keep [9, 14, 15, 37, 38, 39] (.seq (.block 1 (.seq (.ops f29r9)
  (.keep [9, 14, 15, 17, 37, 38, 39] (.seq (.ops f29r10)
  (.keep [9, 14, 15, 17, 18, 37, 38, 39] (.seq (.ops f29r11)
  (.keep [9, 14, 15, 18, 37, 38, 39] (.ops f29r12))))))))
  (.keep [9, 14, 15, 37, 38, 39] (.ops f29r13)))))))

def f29r15 : List AInstr := [
    ⟨(some 54), none, .fieldAddr 0 (.tmp 14)⟩,
    ⟨(some 55), none, .fieldAddr 0 (.tmp 54)⟩,
    ⟨(some 56), none, .load none (.tmp 55)⟩,
    ⟨(some 57), none, .callF 45 [.tmp 56]⟩,
    ⟨(some 58), none, .fieldAddr 0 (.tmp 14)⟩,
    ⟨(some 59), none, .fieldAddr 0 (.tmp 58)⟩,
    ⟨none, none, .store 1 (.tmp 59) (.tmp 57)⟩]

def f29r16 : List AInstr := [
    ⟨(some 60), none, .mov (.tmp 15)⟩,
    ⟨(some 61), none, .load (some 10) (.tmp 14)⟩,
    ⟨(some 8), none, .mov (.tmp 60)⟩,
    ⟨none, none, .store 10 (.tmp 9) (.tmp 61)⟩,
    ⟨(some 10), none, .mov (.const (.int .i64 0))⟩]

def f29b : ACode := (.seq (.ops f29r0)
  (.keep [0, 1, 2, 3, 9] (.seq (.seq (.ops f29r1)
  (.keep [0, 1, 2, 3, 9, 11] (.seq (.ops f29r2)
  (.keep [0, 1, 2, 3, 9, 11, 24] (.cond (.tmp 24) (.keep [9, 11] (.seq (.ops f29r3)
  (.keep [8, 9, 10] .ret))) .skip)))))
  (.keep [0, 1, 2, 3, 9] (.seq (.ops f29r4)
  (.keep [3, 9, 12] (.seq (.ops f29r5)
  (.keep [3, 9, 14] (.seq (.ops f29r6)
  (.keep [3, 9, 14, 15] (.seq (.seq (.ops f29r7)
  (.keep [9, 14, 15, 37, 38, 39] (.block 0 (.loop f29l0))))
  (.keep [9, 14, 15] (.seq (.ops f29r15)
  (.keep [9, 14, 15] (.seq (.draw f29r16 [(0, 0, false), (0, 0, false), (0, 0, false), (0, 0, true), (1, 1, false)])
  (.keep [8, 9, 10] .ret))))))))))))))))

def f29 : AFn := ⟨62, [.tmp 8, .cell 9 (some 10), .tmp 10], f29b⟩

theorem f29_ok : compFn Tryz.prog 29 = some f29.strip := by kernel_rfl

/- function 31: weirhouse/head.Wrong$1; parameters 1; operations that are not compiled: 0 -/
def f31r0 : List AInstr := [
    ⟨(some 2), none, .mov (.const (.bool false))⟩]

def f31r1 : List AInstr := [
    ⟨(some 3), none, .mov (.tmp 0)⟩,
    ⟨(some 4), none, .ibin .geq (.tmp 3) (.const (.int .i64 0))⟩,
    ⟨(some 5), none, .mov (.tmp 4)⟩,
    ⟨(some 6), (some (5, true)), .mov (.tmp 0)⟩,
    ⟨(some 7), (some (5, true)), .ibin .leq (.tmp 6) (.const (.int .i64 65535))⟩,
    ⟨(some 8), none, .pick (.tmp 5) (.tmp 7) (.const (.bool false))⟩,
    ⟨(some 2), none, .mov (.tmp 8)⟩]

def f31b : ACode := (.seq (.ops f31r0)
  (.keep [0] (.seq (.ops f31r1)
  (.keep [2] .ret))))

def f31 : AFn := ⟨9, [.tmp 2], f31b⟩

theorem f31_ok : compFn Tryz.prog 31 = some f31.strip := by kernel_rfl

/- function 32: slices.Grow[[]byte,byte]; parameters 2; operations that are not compiled: 2 -/
def f32r0 : List AInstr := [
    ⟨(some 4), none, .mov (.const (.slice none 0 0))⟩]

def f32r1 : List AInstr := [
    ⟨(some 5), none, .mov (.tmp 1)⟩,
    ⟨(some 6), none, .ibin .lss (.tmp 5) (.const (.int .i64 0))⟩]

def f32r2 : List AInstr := [
    ⟨(some 7), none, .bad⟩,
    ⟨none, none, .bad⟩]

def f32r3 : List AInstr := [
    ⟨(some 8), none, .mov (.tmp 1)⟩,
    ⟨(some 9), none, .mov (.tmp 0)⟩,
    ⟨(some 10), none, .cap (.tmp 9)⟩,
    ⟨(some 11), none, .mov (.tmp 0)⟩,
    ⟨(some 12), none, .len (.tmp 11)⟩,
    ⟨(some 13), none, .ibin .sub (.tmp 10) (.tmp 12)⟩,
    ⟨(some 14), none, .ibin .sub (.tmp 8) (.tmp 13)⟩,
    ⟨(some 1), none, .mov (.tmp 14)⟩]

def f32r4 : List AInstr := [
    ⟨(some 15), none, .mov (.tmp 1)⟩,
    ⟨(some 16), none, .ibin .gtr (.tmp 15) (.const (.int .i64 0))⟩]

def f32r5 : List AInstr := [
    ⟨(some 17), none, .mov (.tmp 0)⟩,
    ⟨(some 18), none, .mov (.tmp 0)⟩,
    ⟨(some 19), none, .cap (.tmp 18)⟩,
    ⟨(some 20), none, .slice 1 (.tmp 17) none (some (.tmp 19)) none⟩,
    ⟨(some 21), none, .mov (.tmp 1)⟩,
    ⟨(some 22), none, .appendZ 1 1 [.int .u8 0] (.tmp 20) (.tmp 21)⟩,
    ⟨(some 23), none, .mov (.tmp 0)⟩,
    ⟨(some 24), none, .len (.tmp 23)⟩,
    ⟨(some 25), none, .slice 1 (.tmp 22) none (some (.tmp 24)) none⟩,
    ⟨(some 0), none, .mov (.tmp 25)⟩]

def f32r6 : List AInstr := [
    ⟨(some 26), none, .mov (.tmp 0)⟩,
    ⟨(some 4), none, .mov (.tmp 26)⟩]

def f32b : ACode := (.seq (.ops f32r0)
  (.keep [0, 1] (.seq (.seq (.ops f32r1)
  (.keep [0, 1, 6] (.cond (.tmp 6) (.keep [0, 1] (.ops f32r2)) .skip)))
  (.keep [0, 1] (.seq (.seq (.ops f32r3)
  (.keep [0, 1] (.seq (.ops f32r4)
  (.keep [0, 1, 16] (.cond (.tmp 16) (.keep [0, 1] (.ops f32r5)) .skip)))))
  (.keep [0] (.seq (.ops f32r6)
  (.keep [4] .ret))))))))

def f32 : AFn := ⟨27, [.tmp 4], f32b⟩

theorem f32_ok : compFn Tryz.prog 32 = some f32.strip := by kernel_rfl

/- function 33: slices.insertionSortCmpFunc[weirhouse/api.Prefix]; parameters 4; operations that are not compiled: 0 -/
def f33r0 : List AInstr := [
    ⟨(some 10), none, .mov (.tmp 1)⟩,
    ⟨(some 11), none, .ibin .add (.tmp 10) (.const (.int .i64 1))⟩,
    ⟨(some 8), none, .mov (.tmp 11)⟩]

def f33r1 : List AInstr := [
    ⟨(some 12), none, .mov (.tmp 8)⟩,
    ⟨(some 13), none, .mov (.tmp 2)⟩,
    ⟨(some 14), none, .ibin .lss (.tmp 12) (.tmp 13)⟩]

def f33r2 : List AInstr := [
    ⟨(some 17), none, .mov (.tmp 8)⟩,
    ⟨(some 9), none, .mov (.tmp 17)⟩]

def f33r3 : List AInstr := [
    ⟨(some 18), none, .mov (.tmp 9)⟩,
    ⟨(some 19), none, .mov (.tmp 1)⟩,
    ⟨(some 20), none, .ibin .gtr (.tmp 18) (.tmp 19)⟩,
    ⟨(some 21), none, .mov (.tmp 20)⟩,
    ⟨(some 22), (some (21, true)), .mov (.tmp 3)⟩,
    ⟨(some 23), (some (21, true)), .mov (.tmp 0)⟩,
    ⟨(some 24), (some (21, true)), .mov (.tmp 9)⟩,
    ⟨(some 25), (some (21, true)), .indexAddr 6 (.tmp 23) (.tmp 24)⟩,
    ⟨(some 26), (some (21, true)), .load (some 6) (.tmp 25)⟩,
    ⟨(some 27), (some (21, true)), .mov (.tmp 0)⟩,
    ⟨(some 28), (some (21, true)), .mov (.tmp 9)⟩,
    ⟨(some 29), (some (21, true)), .ibin .sub (.tmp 28) (.const (.int .i64 1))⟩,
    ⟨(some 30), (some (21, true)), .indexAddr 6 (.tmp 27) (.tmp 29)⟩,
    ⟨(some 31), (some (21, true)), .load (some 6) (.tmp 30)⟩,
    ⟨(some 32), (some (21, true)), .callV (.tmp 22) [.tmp 26, .tmp 31]⟩,
    ⟨(some 33), (some (21, true)), .ibin .lss (.tmp 32) (.const (.int .i64 0))⟩,
    ⟨(some 34), none, .pick (.tmp 21) (.tmp 33) (.const (.bool false))⟩]

def f33r4 : List AInstr := [
    ⟨(some 37), none, .mov (.tmp 0)⟩,
    ⟨(some 38), none, .mov (.tmp 9)⟩,
    ⟨(some 39), none, .mov (.tmp 0)⟩,
    ⟨(some 40), none, .mov (.tmp 9)⟩,
    ⟨(some 41), none, .ibin .sub (.tmp 40) (.const (.int .i64 1))⟩,
    ⟨(some 42), none, .mov (.tmp 0)⟩,
    ⟨(some 43), none, .mov (.tmp 9)⟩,
    ⟨(some 44), none, .ibin .sub (.tmp 43) (.const (.int .i64 1))⟩,
    ⟨(some 45), none, .indexAddr 6 (.tmp 42) (.tmp 44)⟩,
    ⟨(some 46), none, .load (some 6) (.tmp 45)⟩,
    ⟨(some 47), none, .mov (.tmp 0)⟩,
    ⟨(some 48), none, .mov (.tmp 9)⟩,
    ⟨(some 49), none, .indexAddr 6 (.tmp 47) (.tmp 48)⟩,
    ⟨(some 50), none, .load (some 6) (.tmp 49)⟩,
    ⟨(some 51), none, .indexAddr 6 (.tmp 37) (.tmp 38)⟩,
    ⟨none, none, .store 6 (.tmp 51) (.tmp 46)⟩,
    ⟨(some 52), none, .indexAddr 6 (.tmp 39) (.tmp 41)⟩,
    ⟨none, none, .store 6 (.tmp 52) (.tmp 50)⟩]

def f33r5 : List AInstr := [
    ⟨(some 35), none, .mov (.tmp 9)⟩,
    ⟨(some 36), none, .ibin .sub (.tmp 35) (.const (.int .i64 1))⟩,
    ⟨(some 9), none, .mov (.tmp 36)⟩]

/-- live: [0, 1, 2, 3, 8, 9] -/
def f33l0 : ACode := (.seq (.seq (.draw f33r3 [(0, 0, false), (0, 0, false), (0, 0, false), (0, 0, false), (0, 0, false), (0, 0, false), (0, 0, false), (0, 0, false), (0, 0, false), (0, 0, false), (0, 0, false), (0, 0, false), (0, 0, false), (0, 0, false), (0, 0, true), (1, 1, false), (1, 1, false)])
  (.keep [0, 1, 2, 3, 8, 9, 34] (.cond (.tmp 34) .skip (.exit 2))))
  (.keep [0, 1, 2, 3, 8, 9] (.seq (.block 3 (.draw f33r4 [(0, 0, false), (0, 0, false), (0, 1, false), (0, 1, false), (0, 1, false), (0, 0, false), (0, 0, false), (0, 0, false), (0, 0, false), (0, 0, false), (0, 0, false), (0, 0, false), (0, 0, false), (0, 0, false), (0, 0, false), (0, 0, true), (1, 1, false), (1, 0, true)]))
  (.keep [0, 1, 2, 3, 8, 9] (.ops f33r5)))))

def f33r7 : List AInstr := [
    ⟨(some 15), none, .mov (.tmp 8)⟩,
    ⟨(some 16), none, .ibin .add (.tmp 15) (.const (.int .i64 1))⟩,
    ⟨(some 8), none, .mov (.tmp 16)⟩]

/-- live: [0, 1, 2, 3, 8] -/
def f33l1 : ACode := (.seq (.seq (.ops f33r1)
  (.keep [0, 1, 2, 3, 8, 14] (.cond (.tmp 14) .skip (.exit 0))))
  (.keep [0, 1, 2, 3, 8] (.seq (.block 1 (.seq (.ops f33r2)
  (.keep [0, 1, 2, 3, 8, 9] (.block 2 (.loop f33l0)))))
  (.keep [0, 1, 2, 3, 8] (.ops f33r7)))))

def f33b : ACode := (.seq (.ops f33r0)
  (.keep [0, 1, 2, 3, 8] (.block 0 (.loop f33l1))))

def f33 : AFn := ⟨53, [], f33b⟩

theorem f33_ok : compFn Tryz.prog 33 = some f33.strip := by kernel_rfl

/- function 34: slices.symMergeCmpFunc[weirhouse/api.Prefix]; parameters 5; operations that are not compiled: 0 -/
def f34r0 : List AInstr := [
    ⟨(some 25), none, .mov (.tmp 2)⟩,
    ⟨(some 26), none, .mov (.tmp 1)⟩,
    ⟨(some 27), none, .ibin .sub (.tmp 25) (.tmp 26)⟩,
    ⟨(some 28), none, .ibin .eql (.tmp 27) (.const (.int .i64 1))⟩]

def f34r1 : List AInstr := [
    ⟨(some 29), none, .mov (.tmp 2)⟩,
    ⟨(some 10), none, .mov (.tmp 29)⟩]

def f34r2 : List AInstr := [
    ⟨(some 30), none, .mov (.tmp 3)⟩,
    ⟨(some 11), none, .mov (.tmp 30)⟩]

def f34r3 : List AInstr := [
    ⟨(some 31), none, .mov (.tmp 10)⟩,
    ⟨(some 32), none, .mov (.tmp 11)⟩,
    ⟨(some 33), none, .ibin .lss (.tmp 31) (.tmp 32)⟩]

def f34r4 : List AInstr := [
    ⟨(some 34), none, .mov (.tmp 10)⟩,
    ⟨(some 35), none, .mov (.tmp 11)⟩,
    ⟨(some 36), none, .ibin .add (.tmp 34) (.tmp 35)⟩,
    ⟨(some 37), none, .conv .u64 (.tmp 36)⟩,
    ⟨(some 38), none, .ibin .shr (.tmp 37) (.const (.int .u64 1))⟩,
    ⟨(some 39), none, .conv .i64 (.tmp 38)⟩,
    ⟨(some 12), none, .mov (.tmp 39)⟩]

def f34r5 : List AInstr := [
    ⟨(some 40), none, .mov (.tmp 4)⟩,
    ⟨(some 41), none, .mov (.tmp 0)⟩,
    ⟨(some 42), none, .mov (.tmp 12)⟩,
    ⟨(some 43), none, .indexAddr 6 (.tmp 41) (.tmp 42)⟩,
    ⟨(some 44), none, .load (some 6) (.tmp 43)⟩,
    ⟨(some 45), none, .mov (.tmp 0)⟩,
    ⟨(some 46), none, .mov (.tmp 1)⟩,
    ⟨(some 47), none, .indexAddr 6 (.tmp 45) (.tmp 46)⟩,
    ⟨(some 48), none, .load (some 6) (.tmp 47)⟩,
    ⟨(some 49), none, .callV (.tmp 40) [.tmp 44, .tmp 48]⟩,
    ⟨(some 50), none, .ibin .lss (.tmp 49) (.const (.int .i64 0))⟩]

def f34r6 : List AInstr := [
    ⟨(some 51), none, .mov (.tmp 12)⟩,
    ⟨(some 52), none, .ibin .add (.tmp 51) (.const (.int .i64 1))⟩,
    ⟨(some 10), none, .mov (.tmp 52)⟩]

def f34r7 : List AInstr := [
    ⟨(some 53), none, .mov (.tmp 12)⟩,
    ⟨(some 11), none, .mov (.tmp 53)⟩]

/-- live: [0, 1, 4, 10, 11] -/
def f34l0 : ACode := (.seq (.seq (.ops f34r3)
  (.keep [0, 1, 4, 10, 11, 33] (.cond (.tmp 33) .skip (.exit 0))))
  (.keep [0, 1, 4, 10, 11] (.block 1 (.seq (.ops f34r4)
  (.keep [0, 1, 4, 10, 11, 12] (.seq (.draw f34r5 [(0, 0, false), (0, 0, false), (0, 0, false), (0, 0, false), (0, 0, false), (0, 0, false), (0, 0, false), (0, 0, false), (0, 0, false), (0, 0, true), (1, 1, false)])
  (.keep [0, 1, 4, 10, 11, 12, 50] (.cond (.tmp 50) (.keep [0, 1, 4, 11, 12] (.ops f34r6)) (.keep [0, 1, 4, 10, 12] (.ops f34r7))))))))))

def f34r9 : List AInstr := [
    ⟨(some 54), none, .mov (.tmp 1)⟩,
    ⟨(some 13), none, .mov (.tmp 54)⟩]

def f34r10 : List AInstr := [
    ⟨(some 55), none, .mov (.tmp 13)⟩,
    ⟨(some 56), none, .mov (.tmp 10)⟩,
    ⟨(some 57), none, .ibin .sub (.tmp 56) (.const (.int .i64 1))⟩,
    ⟨(some 58), none, .ibin .lss (.tmp 55) (.tmp 57)⟩]

def f34r11 : List AInstr := [
    ⟨(some 61), none, .mov (.tmp 0)⟩,
    ⟨(some 62), none, .mov (.tmp 13)⟩,
    ⟨(some 63), none, .mov (.tmp 0)⟩,
    ⟨(some 64), none, .mov (.tmp 13)⟩,
    ⟨(some 65), none, .ibin .add (.tmp 64) (.const (.int .i64 1))⟩,
    ⟨(some 66), none, .mov (.tmp 0)⟩,
    ⟨(some 67), none, .mov (.tmp 13)⟩,
    ⟨(some 68), none, .ibin .add (.tmp 67) (.const (.int .i64 1))⟩,
    ⟨(some 69), none, .indexAddr 6 (.tmp 66) (.tmp 68)⟩,
    ⟨(some 70), none, .load (some 6) (.tmp 69)⟩,
    ⟨(some 71), none, .mov (.tmp 0)⟩,
    ⟨(some 72), none, .mov (.tmp 13)⟩,
    ⟨(some 73), none, .indexAddr 6 (.tmp 71) (.tmp 72)⟩,
    ⟨(some 74), none, .load (some 6) (.tmp 73)⟩,
    ⟨(some 75), none, .indexAddr 6 (.tmp 61) (.tmp 62)⟩,
    ⟨none, none, .store 6 (.tmp 75) (.tmp 70)⟩,
    ⟨(some 76), none, .indexAddr 6 (.tmp 63) (.tmp 65)⟩,
    ⟨none, none, .store 6 (.tmp 76) (.tmp 74)⟩]

def f34r12 : List AInstr := [
    ⟨(some 59), none, .mov (.tmp 13)⟩,
    ⟨(some 60), none, .ibin .add (.tmp 59) (.const (.int .i64 1))⟩,
    ⟨(some 13), none, .mov (.tmp 60)⟩]

/-- live: [0, 10, 13] -/
def f34l1 : ACode := (.seq (.seq (.ops f34r10)
  (.keep [0, 10, 13, 58] (.cond (.tmp 58) .skip (.exit 2))))
  (.keep [0, 10, 13] (.seq (.block 3 (.draw f34r11 [(0, 0, false), (0, 0, false), (0, 1, false), (0, 1, false), (0, 1, false), (0, 0, false), (0, 0, false), (0, 0, false), (0, 0, false), (0, 0, false), (0, 0, false), (0, 0, false), (0, 0, false), (0, 0, false), (0, 0, false), (0, 0, true), (1, 1, false), (1, 0, true)]))
  (.keep [0, 10, 13] (.ops f34r12)))))

def f34r14 : List AInstr := [
    ⟨(some 77), none, .mov (.tmp 3)⟩,
    ⟨(some 78), none, .mov (.tmp 2)⟩,
    ⟨(some 79), none, .ibin .sub (.tmp 77) (.tmp 78)⟩,
    ⟨(some 80), none, .ibin .eql (.tmp 79) (.const (.int .i64 1))⟩]

def f34r15 : List AInstr := [
    ⟨(some 81), none, .mov (.tmp 1)⟩,
    ⟨(some 14), none, .mov (.tmp 81)⟩]

def f34r16 : List AInstr := [
    ⟨(some 82), none, .mov (.tmp 2)⟩,
    ⟨(some 15), none, .mov (.tmp 82)⟩]

def f34r17 : List AInstr := [
    ⟨(some 83), none, .mov (.tmp 14)⟩,
    ⟨(some 84), none, .mov (.tmp 15)⟩,
    ⟨(some 85), none, .ibin .lss (.tmp 83) (.tmp 84)⟩]

def f34r18 : List AInstr := [
    ⟨(some 86), none, .mov (.tmp 14)⟩,
    ⟨(some 87), none, .mov (.tmp 15)⟩,
    ⟨(some 88), none, .ibin .add (.tmp 86) (.tmp 87)⟩,
    ⟨(some 89), none, .conv .u64 (.tmp 88)⟩,
    ⟨(some 90), none, .ibin .shr (.tmp 89) (.const (.int .u64 1))⟩,
    ⟨(some 91), none, .conv .i64 (.tmp 90)⟩,
    ⟨(some 16), none, .mov (.tmp 91)⟩]

def f34r19 : List AInstr := [
    ⟨(some 92), none, .mov (.tmp 4)⟩,
    ⟨(some 93), none, .mov (.tmp 0)⟩,
    ⟨(some 94), none, .mov (.tmp 2)⟩,
    ⟨(some 95), none, .indexAddr 6 (.tmp 93) (.tmp 94)⟩,
    ⟨(some 96), none, .load (some 6) (.tmp 95)⟩,
    ⟨(some 97), none, .mov (.tmp 0)⟩,
    ⟨(some 98), none, .mov (.tmp 16)⟩,
    ⟨(some 99), none, .indexAddr 6 (.tmp 97) (.tmp 98)⟩,
    ⟨(some 100), none, .load (some 6) (.tmp 99)⟩,
    ⟨(some 101), none, .callV (.tmp 92) [.tmp 96, .tmp 100]⟩,
    ⟨(some 102), none, .ibin .lss (.tmp 101) (.const (.int .i64 0))⟩,
    ⟨(some 103), none, .un .not (.tmp 102)⟩]

def f34r20 : List AInstr := [
    ⟨(some 104), none, .mov (.tmp 16)⟩,
    ⟨(some 105), none, .ibin .add (.tmp 104) (.const (.int .i64 1))⟩,
    ⟨(some 14), none, .mov (.tmp 105)⟩]

def f34r21 : List AInstr := [
    ⟨(some 106), none, .mov (.tmp 16)⟩,
    ⟨(some 15), none, .mov (.tmp 106)⟩]

/-- live: [0, 2, 4, 14, 15] -/
def f34l2 : ACode := (.seq (.seq (.ops f34r17)
  (.keep [0, 2, 4, 14, 15, 85] (.cond (.tmp 85) .skip (.exit 4))))
  (.keep [0, 2, 4, 14, 15] (.block 5 (.seq (.ops f34r18)
  (.keep [0, 2, 4, 14, 15, 16] (.seq (.draw f34r19 [(0, 0, false), (0, 0, false), (0, 0, false), (0, 0, false), (0, 0, false), (0, 0, false), (0, 0, false), (0, 0, false), (0, 0, false), (0, 0, true), (1, 1, false), (1, 1, false)])
  (.keep [0, 2, 4, 14, 15, 16, 103] (.cond (.tmp 103) (.keep [0, 2, 4, 15, 16] (.ops f34r20)) (.keep [0, 2, 4, 14, 16] (.ops f34r21))))))))))

def f34r23 : List AInstr := [
    ⟨(some 107), none, .mov (.tmp 2)⟩,
    ⟨(some 17), none, .mov (.tmp 107)⟩]

def f34r24 : List AInstr := [
    ⟨(some 108), none, .mov (.tmp 17)⟩,
    ⟨(some 109), none, .mov (.tmp 14)⟩,
    ⟨(some 110), none, .ibin .gtr (.tmp 108) (.tmp 109)⟩]

def f34r25 : List AInstr := [
    ⟨(some 113), none, .mov (.tmp 0)⟩,
    ⟨(some 114), none, .mov (.tmp 17)⟩,
    ⟨(some 115), none, .mov (.tmp 0)⟩,
    ⟨(some 116), none, .mov (.tmp 17)⟩,
    ⟨(some 117), none, .ibin .sub (.tmp 116) (.const (.int .i64 1))⟩,
    ⟨(some 118), none, .mov (.tmp 0)⟩,
    ⟨(some 119), none, .mov (.tmp 17)⟩,
    ⟨(some 120), none, .ibin .sub (.tmp 119) (.const (.int .i64 1))⟩,
    ⟨(some 121), none, .indexAddr 6 (.tmp 118) (.tmp 120)⟩,
    ⟨(some 122), none, .load (some 6) (.tmp 121)⟩,
    ⟨(some 123), none, .mov (.tmp 0)⟩,
    ⟨(some 124), none, .mov (.tmp 17)⟩,
    ⟨(some 125), none, .indexAddr 6 (.tmp 123) (.tmp 124)⟩,
    ⟨(some 126), none, .load (some 6) (.tmp 125)⟩,
    ⟨(some 127), none, .indexAddr 6 (.tmp 113) (.tmp 114)⟩,
    ⟨none, none, .store 6 (.tmp 127) (.tmp 122)⟩,
    ⟨(some 128), none, .indexAddr 6 (.tmp 115) (.tmp 117)⟩,
    ⟨none, none, .store 6 (.tmp 128) (.tmp 126)⟩]

def f34r26 : List AInstr := [
    ⟨(some 111), none, .mov (.tmp 17)⟩,
    ⟨(some 112), none, .ibin .sub (.tmp 111) (.const (.int .i64 1))⟩,
    ⟨(some 17), none, .mov (.tmp 112)⟩]

/-- live: [0, 14, 17] -/
def f34l3 : ACode := (.seq (.seq (.ops f34r24)
  (.keep [0, 14, 17, 110] (.cond (.tmp 110) .skip (.exit 6))))
  (.keep [0, 14, 17] (.seq (.block 7 (.draw f34r25 [(0, 0, false), (0, 0, false), (0, 1, false), (0, 1, false), (0, 1, false), (0, 0, false), (0, 0, false), (0, 0, false), (0, 0, false), (0, 0, false), (0, 0, false), (0, 0, false), (0, 0, false), (0, 0, false), (0, 0, false), (0, 0, true), (1, 1, false), (1, 0, true)]))
  (.keep [0, 14, 17] (.ops f34r26)))))

def f34r28 : List AInstr := [
    ⟨(some 129), none, .mov (.tmp 1)⟩,
    ⟨(some 130), none, .mov (.tmp 3)⟩,
    ⟨(some 131), none, .ibin .add (.tmp 129) (.tmp 130)⟩,
    ⟨(some 132), none, .conv .u64 (.tmp 131)⟩,
    ⟨(some 133), none, .ibin .shr (.tmp 132) (.const (.int .u64 1))⟩,
    ⟨(some 134), none, .conv .i64 (.tmp 133)⟩,
    ⟨(some 18), none, .mov (.tmp 134)⟩]

def f34r29 : List AInstr := [
    ⟨(some 135), none, .mov (.tmp 18)⟩,
    ⟨(some 136), none, .mov (.tmp 2)⟩,
    ⟨(some 137), none, .ibin .add (.tmp 135) (.tmp 136)⟩,
    ⟨(some 19), none, .mov (.tmp 137)⟩]

def f34r30 : List AInstr := [
    ⟨(some 20), none, .mov (.const (.int .i64 0))⟩,
    ⟨(some 21), none, .mov (.const (.int .i64 0))⟩]

def f34r31 : List AInstr := [
    ⟨(some 138), none, .mov (.tmp 2)⟩,
    ⟨(some 139), none, .mov (.tmp 18)⟩,
    ⟨(some 140), none, .ibin .gtr (.tmp 138) (.tmp 139)⟩]

def f34r32 : List AInstr := [
    ⟨(some 141), none, .mov (.tmp 19)⟩,
    ⟨(some 142), none, .mov (.tmp 3)⟩,
    ⟨(some 143), none, .ibin .sub (.tmp 141) (.tmp 142)⟩,
    ⟨(some 20), none, .mov (.tmp 143)⟩]

def f34r33 : List AInstr := [
    ⟨(some 144), none, .mov (.tmp 18)⟩,
    ⟨(some 21), none, .mov (.tmp 144)⟩]

def f34r34 : List AInstr := [
    ⟨(some 145), none, .mov (.tmp 1)⟩,
    ⟨(some 20), none, .mov (.tmp 145)⟩]

def f34r35 : List AInstr := [
    ⟨(some 146), none, .mov (.tmp 2)⟩,
    ⟨(some 21), none, .mov (.tmp 146)⟩]

def f34r36 : List AInstr := [
    ⟨(some 147), none, .mov (.tmp 19)⟩,
    ⟨(some 148), none, .ibin .sub (.tmp 147) (.const (.int .i64 1))⟩,
    ⟨(some 22), none, .mov (.tmp 148)⟩]

def f34r37 : List AInstr := [
    ⟨(some 149), none, .mov (.tmp 20)⟩,
    ⟨(some 150), none, .mov (.tmp 21)⟩,
    ⟨(some 151), none, .ibin .lss (.tmp 149) (.tmp 150)⟩]

def f34r38 : List AInstr := [
    ⟨(some 152), none, .mov (.tmp 20)⟩,
    ⟨(some 153), none, .mov (.tmp 21)⟩,
    ⟨(some 154), none, .ibin .add (.tmp 152) (.tmp 153)⟩,
    ⟨(some 155), none, .conv .u64 (.tmp 154)⟩,
    ⟨(some 156), none, .ibin .shr (.tmp 155) (.const (.int .u64 1))⟩,
    ⟨(some 157), none, .conv .i64 (.tmp 156)⟩,
    ⟨(some 23), none, .mov (.tmp 157)⟩]

def f34r39 : List AInstr := [
    ⟨(some 158), none, .mov (.tmp 4)⟩,
    ⟨(some 159), none, .mov (.tmp 0)⟩,
    ⟨(some 160), none, .mov (.tmp 22)⟩,
    ⟨(some 161), none, .mov (.tmp 23)⟩,
    ⟨(some 162), none, .ibin .sub (.tmp 160) (.tmp 161)⟩,
    ⟨(some 163), none, .indexAddr 6 (.tmp 159) (.tmp 162)⟩,
    ⟨(some 164), none, .load (some 6) (.tmp 163)⟩,
    ⟨(some 165), none, .mov (.tmp 0)⟩,
    ⟨(some 166), none, .mov (.tmp 23)⟩,
    ⟨(some 167), none, .indexAddr 6 (.tmp 165) (.tmp 166)⟩,
    ⟨(some 168), none, .load (some 6) (.tmp 167)⟩,
    ⟨(some 169), none, .callV (.tmp 158) [.tmp 164, .tmp 168]⟩,
    ⟨(some 170), none, .ibin .lss (.tmp 169) (.const (.int .i64 0))⟩,
    ⟨(some 171), none, .un .not (.tmp 170)⟩]

def f34r40 : List AInstr := [
    ⟨(some 172), none, .mov (.tmp 23)⟩,
    ⟨(some 173), none, .ibin .add (.tmp 172) (.const (.int .i64 1))⟩,
    ⟨(some 20), none, .mov (.tmp 173)⟩]

def f34r41 : List AInstr := [
    ⟨(some 174), none, .mov (.tmp 23)⟩,
    ⟨(some 21), none, .mov (.tmp 174)⟩]

/-- live: [0, 1, 2, 3, 4, 18, 19, 20, 21, 22] -/
def f34l4 : ACode := (.seq (.seq (.ops f34r37)
  (.keep [0, 1, 2, 3, 4, 18, 19, 20, 21, 22, 151] (.cond (.tmp 151) .skip (.exit 8))))
  (.keep [0, 1, 2, 3, 4, 18, 19, 20, 21, 22] (.block 9 (.seq (.ops f34r38)
  (.keep [0, 1, 2, 3, 4, 18, 19, 20, 21, 22, 23] (.seq (.draw f34r39 [(0, 0, false), (0, 0, false), (0, 0, false), (0, 0, false), (0, 0, false), (0, 0, false), (0, 0, false), (0, 0, false), (0, 0, false), (0, 0, false), (0, 0, false), (0, 0, true), (1, 1, false), (1, 1, false)])
  (.keep [0, 1, 2, 3, 4, 18, 19, 20, 21, 22, 23, 171] (.cond (.tmp 171) (.keep [0, 1, 2, 3, 4, 18, 19, 21, 22, 23] (.ops f34r40)) (.keep [0, 1, 2, 3, 4, 18, 19, 20, 22, 23] (.ops f34r41))))))))))

def f34r43 : List AInstr := [
    ⟨(some 175), none, .mov (.tmp 19)⟩,
    ⟨(some 176), none, .mov (.tmp 20)⟩,
    ⟨(some 177), none, .ibin .sub (.tmp 175) (.tmp 176)⟩,
    ⟨(some 24), none, .mov (.tmp 177)⟩]

def f34r44 : List AInstr := [
    ⟨(some 178), none, .mov (.tmp 20)⟩,
    ⟨(some 179), none, .mov (.tmp 2)⟩,
    ⟨(some 180), none, .ibin .lss (.tmp 178) (.tmp 179)⟩,
    ⟨(some 181), none, .mov (.tmp 180)⟩,
    ⟨(some 182), (some (181, true)), .mov (.tmp 2)⟩,
    ⟨(some 183), (some (181, true)), .mov (.tmp 24)⟩,
    ⟨(some 184), (some (181, true)), .ibin .lss (.tmp 182) (.tmp 183)⟩,
    ⟨(some 185), none, .pick (.tmp 181) (.tmp 184) (.const (.bool false))⟩]

def f34r45 : List AInstr := [
    ⟨(some 186), none, .mov (.tmp 0)⟩,
    ⟨(some 187), none, .mov (.tmp 20)⟩,
    ⟨(some 188), none, .mov (.tmp 2)⟩,
    ⟨(some 189), none, .mov (.tmp 24)⟩,
    ⟨(some 190), none, .mov (.tmp 4)⟩,
    ⟨(some 191), none, .callF 47 [.tmp 186, .tmp 187, .tmp 188, .tmp 189, .tmp 190]⟩]

def f34r46 : List AInstr := [
    ⟨(some 192), none, .mov (.tmp 1)⟩,
    ⟨(some 193), none, .mov (.tmp 20)⟩,
    ⟨(some 194), none, .ibin .lss (.tmp 192) (.tmp 193)⟩,
    ⟨(some 195), none, .mov (.tmp 194)⟩,
    ⟨(some 196), (some (195, true)), .mov (.tmp 20)⟩,
    ⟨(some 197), (some (195, true)), .mov (.tmp 18)⟩,
    ⟨(some 198), (some (195, true)), .ibin .lss (.tmp 196) (.tmp 197)⟩,
    ⟨(some 199), none, .pick (.tmp 195) (.tmp 198) (.const (.bool false))⟩]

def f34r47 : List AInstr := [
    ⟨(some 200), none, .mov (.tmp 0)⟩,
    ⟨(some 201), none, .mov (.tmp 1)⟩,
    ⟨(some 202), none, .mov (.tmp 20)⟩,
    ⟨(some 203), none, .mov (.tmp 18)⟩,
    ⟨(some 204), none, .mov (.tmp 4)⟩,
    ⟨(some 205), none, .callF 34 [.tmp 200, .tmp 201, .tmp 202, .tmp 203, .tmp 204]⟩]

def f34r48 : List AInstr := [
    ⟨(some 206), none, .mov (.tmp 18)⟩,
    ⟨(some 207), none, .mov (.tmp 24)⟩,
    ⟨(some 208), none, .ibin .lss (.tmp 206) (.tmp 207)⟩,
    ⟨(some 209), none, .mov (.tmp 208)⟩,
    ⟨(some 210), (some (209, true)), .mov (.tmp 24)⟩,
    ⟨(some 211), (some (209, true)), .mov (.tmp 3)⟩,
    ⟨(some 212), (some (209, true)), .ibin .lss (.tmp 210) (.tmp 211)⟩,
    ⟨(some 213), none, .pick (.tmp 209) (.tmp 212) (.const (.bool false))⟩]

def f34r49 : List AInstr := [
    ⟨(some 214), none, .mov (.tmp 0)⟩,
    ⟨(some 215), none, .mov (.tmp 18)⟩,
    ⟨(some 216), none, .mov (.tmp 24)⟩,
    ⟨(some 217), none, .mov (.tmp 3)⟩,
    ⟨(some 218), none, .mov (.tmp 4)⟩,
    ⟨(some 219), none, .callF 34 [.tmp 214, .tmp 215, .tmp 216, .tmp 217, .tmp 218]⟩]

def f34b : ACode := (.seq (.seq (.ops f34r0)
  (.keep [0, 1, 2, 3, 4, 28] (.cond (.tmp 28) (.keep [0, 1, 2, 3, 4] (.seq (.ops f34r1)
  (.keep [0, 1, 3, 4, 10] (.seq (.ops f34r2)
  (.keep [0, 1, 4, 10, 11] (.seq (.block 0 (.loop f34l0))
  (.keep [0, 1, 10] (.seq (.seq (.ops f34r9)
  (.keep [0, 10, 13] (.block 2 (.loop f34l1))))
  (.keep [] .ret))))))))) .skip)))
  (.keep [0, 1, 2, 3, 4] (.seq (.seq (.ops f34r14)
  (.keep [0, 1, 2, 3, 4, 80] (.cond (.tmp 80) (.keep [0, 1, 2, 4] (.seq (.ops f34r15)
  (.keep [0, 2, 4, 14] (.seq (.ops f34r16)
  (.keep [0, 2, 4, 14, 15] (.seq (.block 4 (.loop f34l2))
  (.keep [0, 2, 14] (.seq (.seq (.ops f34r23)
  (.keep [0, 14, 17] (.block 6 (.loop f34l3))))
  (.keep [] .ret))))))))) .skip)))
  (.keep [0, 1, 2, 3, 4] (.seq (.ops f34r28)
  (.keep [0, 1, 2, 3, 4, 18] (.seq (.ops f34r29)
  (.keep [0, 1, 2, 3, 4, 18, 19] (.seq (.ops f34r30)
  (.keep [0, 1, 2, 3, 4, 18, 19] (.seq (.seq (.ops f34r31)
  (.keep [0, 1, 2, 3, 4, 18, 19, 140] (.cond (.tmp 140) (.keep [0, 1, 2, 3, 4, 18, 19] (.seq (.ops f34r32)
  (.keep [0, 1, 2, 3, 4, 18, 19, 20] (.ops f34r33)))) (.keep [0, 1, 2, 3, 4, 18, 19] (.seq (.ops f34r34)
  (.keep [0, 1, 2, 3, 4, 18, 19, 20] (.ops f34r35)))))))
  (.keep [0, 1, 2, 3, 4, 18, 19, 20, 21] (.seq (.ops f34r36)
  (.keep [0, 1, 2, 3, 4, 18, 19, 20, 21, 22] (.seq (.block 8 (.loop f34l4))
  (.keep [0, 1, 2, 3, 4, 18, 19, 20] (.seq (.ops f34r43)
  (.keep [0, 1, 2, 3, 4, 18, 20, 24] (.seq (.seq (.ops f34r44)
  (.keep [0, 1, 2, 3, 4, 18, 20, 24, 185] (.cond (.tmp 185) (.keep [0, 1, 2, 3, 4, 18, 20, 24] (.ops f34r45)) .skip)))
  (.keep [0, 1, 3, 4, 18, 20, 24] (.seq (.seq (.ops f34r46)
  (.keep [0, 1, 3, 4, 18, 20, 24, 199] (.cond (.tmp 199) (.keep [0, 1, 3, 4, 18, 20, 24] (.ops f34r47)) .skip)))
  (.keep [0, 3, 4, 18, 24] (.seq (.ops f34r48)
  (.keep [0, 3, 4, 18, 24, 213] (.cond (.tmp 213) (.keep [0, 3, 4, 18, 24] (.ops f34r49)) .skip)))))))))))))))))))))))))

def f34 : AFn := ⟨220, [], f34b⟩

theorem f34_ok : compFn Tryz.prog 34 = some f34.strip := by kernel_rfl

/- function 35: weirhouse/sums.fold; parameters 1; operations that are not compiled: 0 -/
def f35r0 : List AInstr := [
    ⟨(some 2), none, .mov (.const (.int .u16 0))⟩]

def f35r1 : List AInstr := [
    ⟨(some 3), none, .mov (.tmp 0)⟩,
    ⟨(some 4), none, .ibin .gtr (.tmp 3) (.const (.int .u64 65535))⟩]

def f35r2 : List AInstr := [
    ⟨(some 5), none, .mov (.tmp 0)⟩,
    ⟨(some 6), none, .ibin .shr (.tmp 5) (.const (.int .u64 16))⟩,
    ⟨(some 7), none, .mov (.tmp 0)⟩,
    ⟨(some 8), none, .ibin .and (.tmp 7) (.const (.int .u64 65535))⟩,
    ⟨(some 9), none, .ibin .add (.tmp 6) (.tmp 8)⟩,
    ⟨(some 0), none, .mov (.tmp 9)⟩]

/-- live: [0] -/
def f35l0 : ACode := (.seq (.seq (.ops f35r1)
  (.keep [0, 4] (.cond (.tmp 4) .skip (.exit 0))))
  (.keep [0] (.block 1 (.ops f35r2))))

def f35r4 : List AInstr := [
    ⟨(some 10), none, .mov (.tmp 0)⟩,
    ⟨(some 11), none, .conv .u16 (.tmp 10)⟩,
    ⟨(some 2), none, .mov (.tmp 11)⟩]

def f35b : ACode := (.seq (.ops f35r0)
  (.keep [0] (.seq (.block 0 (.loop f35l0))
  (.keep [0] (.seq (.ops f35r4)
  (.keep [2] .ret))))))

def f35 : AFn := ⟨12, [.tmp 2], f35b⟩

theorem f35_ok : compFn Tryz.prog 35 = some f35.strip := by kernel_rfl

/- function 36: slices.ContainsFunc[[]weirhouse/api.Rule,weirhouse/api.Rule]; parameters 2; operations that are not compiled: 0 -/
def f36r0 : List AInstr := [
    ⟨(some 4), none, .mov (.const (.bool false))⟩]

def f36r1 : List AInstr := [
    ⟨(some 5), none, .mov (.tmp 0)⟩,
    ⟨(some 6), none, .mov (.tmp 1)⟩,
    ⟨(some 7), none, .callF 24 [.tmp 5, .tmp 6]⟩,
    ⟨(some 8), none, .ibin .geq (.tmp 7) (.const (.int .i64 0))⟩,
    ⟨(some 4), none, .mov (.tmp 8)⟩]

def f36b : ACode := (.seq (.ops f36r0)
  (.keep [0, 1] (.seq (.ops f36r1)
  (.keep [4] .ret))))

def f36 : AFn := ⟨9, [.tmp 4], f36b⟩

theorem f36_ok : compFn Tryz.prog 36 = some f36.strip := by kernel_rfl

/- function 37: weirhouse/rules.Wrong$1; parameters 1; operations that are not compiled: 0 -/
def f37r0 : List AInstr := [
    ⟨(some 1), none, .box (.tmp 0)⟩,
    ⟨(some 2), none, .mov (.const (.bool false))⟩]

def f37r1 : List AInstr := [
    ⟨(some 3), none, .fieldAddr 8 (.tmp 1)⟩,
    ⟨(some 4), none, .load none (.tmp 3)⟩,
    ⟨(some 5), none, .fieldAddr 9 (.tmp 1)⟩,
    ⟨(some 6), none, .load none (.tmp 5)⟩,
    ⟨(some 7), none, .minmax false [.tmp 4, .tmp 6]⟩,
    ⟨(some 8), none, .ibin .lss (.tmp 7) (.const (.int .i64 0))⟩,
    ⟨(some 9), none, .mov (.tmp 8)⟩,
    ⟨(some 10), (some (9, false)), .fieldAddr 8 (.tmp 1)⟩,
    ⟨(some 11), (some (9, false)), .load none (.tmp 10)⟩,
    ⟨(some 12), (some (9, false)), .fieldAddr 9 (.tmp 1)⟩,
    ⟨(some 13), (some (9, false)), .load none (.tmp 12)⟩,
    ⟨(some 14), (some (9, false)), .minmax true [.tmp 11, .tmp 13]⟩,
    ⟨(some 15), (some (9, false)), .ibin .gtr (.tmp 14) (.const (.int .i64 32))⟩,
    ⟨(some 16), none, .pick (.tmp 9) (.const (.bool true)) (.tmp 15)⟩,
    ⟨(some 17), none, .mov (.tmp 16)⟩,
    ⟨(some 18), (some (17, false)), .fieldAddr 10 (.tmp 1)⟩,
    ⟨(some 19), (some (17, false)), .load none (.tmp 18)⟩,
    ⟨(some 20), (some (17, false)), .ibin .lss (.tmp 19) (.const (.int .i64 0))⟩,
    ⟨(some 21), none, .pick (.tmp 17) (.const (.bool true)) (.tmp 20)⟩,
    ⟨(some 22), none, .mov (.tmp 21)⟩,
    ⟨(some 23), (some (22, false)), .fieldAddr 10 (.tmp 1)⟩,
    ⟨(some 24), (some (22, false)), .load none (.tmp 23)⟩,
    ⟨(some 25), (some (22, false)), .ibin .gtr (.tmp 24) (.const (.int .i64 255))⟩,
    ⟨(some 26), none, .pick (.tmp 22) (.const (.bool true)) (.tmp 25)⟩,
    ⟨(some 27), none, .mov (.tmp 26)⟩,
    ⟨(some 28), (some (27, false)), .fieldAddr 11 (.tmp 1)⟩,
    ⟨(some 29), (some (27, false)), .load none (.tmp 28)⟩,
    ⟨(some 30), (some (27, false)), .ibin .lss (.tmp 29) (.const (.int .i64 0))⟩,
    ⟨(some 31), none, .pick (.tmp 27) (.const (.bool true)) (.tmp 30)⟩,
    ⟨(some 32), none, .mov (.tmp 31)⟩,
    ⟨(some 33), (some (32, false)), .fieldAddr 12 (.tmp 1)⟩,
    ⟨(some 34), (some (32, false)), .load none (.tmp 33)⟩,
    ⟨(some 35), (some (32, false)), .ibin .gtr (.tmp 34) (.const (.int .i64 65535))⟩,
    ⟨(some 36), none, .pick (.tmp 32) (.const (.bool true)) (.tmp 35)⟩,
    ⟨(some 37), none, .mov (.tmp 36)⟩,
    ⟨(some 38), (some (37, false)), .fieldAddr 11 (.tmp 1)⟩,
    ⟨(some 39), (some (37, false)), .load none (.tmp 38)⟩,
    ⟨(some 40), (some (37, false)), .fieldAddr 12 (.tmp 1)⟩,
    ⟨(some 41), (some (37, false)), .load none (.tmp 40)⟩,
    ⟨(some 42), (some (37, false)), .ibin .gtr (.tmp 39) (.tmp 41)⟩,
    ⟨(some 43), none, .pick (.tmp 37) (.const (.bool true)) (.tmp 42)⟩,
    ⟨(some 44), none, .mov (.tmp 43)⟩,
    ⟨(some 45), (some (44, false)), .fieldAddr 13 (.tmp 1)⟩,
    ⟨(some 46), (some (44, false)), .load none (.tmp 45)⟩,
    ⟨(some 47), (some (44, false)), .ibin .lss (.tmp 46) (.const (.int .i64 0))⟩,
    ⟨(some 48), none, .pick (.tmp 44) (.const (.bool true)) (.tmp 47)⟩,
    ⟨(some 49), none, .mov (.tmp 48)⟩,
    ⟨(some 50), (some (49, false)), .fieldAddr 13 (.tmp 1)⟩,
    ⟨(some 51), (some (49, false)), .load none (.tmp 50)⟩,
    ⟨(some 52), (some (49, false)), .ibin .geq (.tmp 51) (.const (.int .i64 16))⟩,
    ⟨(some 53), none, .pick (.tmp 49) (.const (.bool true)) (.tmp 52)⟩,
    ⟨(some 2), none, .mov (.tmp 53)⟩]

def f37b : ACode := (.seq (.ops f37r0)
  (.keep [1] (.seq (.ops f37r1)
  (.keep [2] .ret))))

def f37 : AFn := ⟨54, [.tmp 2], f37b⟩

theorem f37_ok : compFn Tryz.prog 37 = some f37.strip := by kernel_rfl

/- function 38: weirhouse/trie.Within; parameters 2; operations that are not compiled: 0 -/
def f38r0 : List AInstr := [
    ⟨(some 2), none, .box (.tmp 0)⟩,
    ⟨(some 3), none, .box (.tmp 1)⟩,
    ⟨(some 4), none, .mov (.const (.bool false))⟩]

def f38r1 : List AInstr := [
    ⟨(some 6), none, .fieldAddr 4 (.tmp 3)⟩,
    ⟨(some 7), none, .load none (.tmp 6)⟩,
    ⟨(some 8), none, .ibin .lss (.tmp 7) (.const (.int .i64 0))⟩,
    ⟨(some 9), none, .mov (.tmp 8)⟩,
    ⟨(some 10), (some (9, false)), .fieldAddr 4 (.tmp 3)⟩,
    ⟨(some 11), (some (9, false)), .load none (.tmp 10)⟩,
    ⟨(some 12), (some (9, false)), .ibin .gtr (.tmp 11) (.const (.int .i64 32))⟩,
    ⟨(some 13), none, .pick (.tmp 9) (.const (.bool true)) (.tmp 12)⟩]

def f38r2 : List AInstr := [
    ⟨(some 4), none, .mov (.const (.bool false))⟩]

def f38r3 : List AInstr := [
    ⟨(some 14), none, .fieldAddr 4 (.tmp 3)⟩,
    ⟨(some 15), none, .load none (.tmp 14)⟩,
    ⟨(some 16), none, .mov (.const (.int .i64 0))⟩]

def f38r4 : List AInstr := [
    ⟨(some 17), none, .ibin .lss (.tmp 16) (.tmp 15)⟩]

def f38r5 : List AInstr := [
    ⟨(some 18), none, .mov (.tmp 16)⟩,
    ⟨(some 5), none, .mov (.tmp 18)⟩]

def f38r6 : List AInstr := [
    ⟨(some 19), none, .load (some 4) (.tmp 2)⟩,
    ⟨(some 20), none, .mov (.tmp 5)⟩,
    ⟨(some 22), none, .fieldAddr 0 (.tmp 3)⟩,
    ⟨(some 23), none, .load (some 4) (.tmp 22)⟩,
    ⟨(some 24), none, .mov (.tmp 5)⟩,
    ⟨(some 21), none, .callF 18 [.tmp 19, .tmp 20]⟩,
    ⟨(some 25), none, .callF 18 [.tmp 23, .tmp 24]⟩,
    ⟨(some 26), none, .ibin .neq (.tmp 21) (.tmp 25)⟩]

def f38r7 : List AInstr := [
    ⟨(some 4), none, .mov (.const (.bool false))⟩]

def f38r8 : List AInstr := [
    ⟨(some 27), none, .ibin .add (.tmp 16) (.const (.int .i64 1))⟩,
    ⟨(some 16), none, .mov (.tmp 27)⟩]

/-- live: [2, 3, 15, 16] -/
def f38l0 : ACode := (.seq (.ops f38r4)
  (.keep [2, 3, 15, 16, 17] (.seq (.cond (.tmp 17) .skip (.exit 0))
  (.keep [2, 3, 15, 16] (.seq (.block 1 (.seq (.ops f38r5)
  (.keep [2, 3, 5, 15, 16] (.seq (.alt [(f38r6, [(0, 0, false), (0, 0, false), (0, 1, false), (0, 1, false), (0, 1, false), (0, 0, true), (1, 0, true), (2, 2, false)])])
  (.keep [2, 3, 15, 16, 26] (.cond (.tmp 26) (.keep [] (.seq (.ops f38r7)
  (.keep [4] .ret))) .skip))))))
  (.keep [2, 3, 15, 16] (.ops f38r8)))))))

def f38r10 : List AInstr := [
    ⟨(some 4), none, .mov (.const (.bool true))⟩]

def f38b : ACode := (.seq (.ops f38r0)
  (.keep [2, 3] (.seq (.seq (.ops f38r1)
  (.keep [2, 3, 13] (.cond (.tmp 13) (.keep [] (.seq (.ops f38r2)
  (.keep [4] .ret))) .skip)))
  (.keep [2, 3] (.seq (.seq (.ops f38r3)
  (.keep [2, 3, 15, 16] (.block 0 (.loop f38l0))))
  (.keep [] (.seq (.ops f38r10)
  (.keep [4] .ret))))))))

def f38 : AFn := ⟨28, [.tmp 4], f38b⟩

theorem f38_ok : compFn Tryz.prog 38 = some f38.strip := by kernel_rfl

/- function 39: weirhouse/bench.head; parameters 2; operations that are not compiled: 0 -/
def f39r0 : List AInstr := [
    ⟨(some 4), none, .mov (.const (.bool false))⟩]

def f39r1 : List AInstr := [
    ⟨(some 10), none, .mov (.tmp 0)⟩,
    ⟨(some 11), none, .callF 48 [.tmp 10, .const (.string ⟨#[32]⟩)]⟩,
    ⟨(some 5), none, .mov (.tmp 11)⟩]

def f39r2 : List AInstr := [
    ⟨(some 12), none, .mov (.tmp 5)⟩,
    ⟨(some 13), none, .len (.tmp 12)⟩,
    ⟨(some 14), none, .ibin .neq (.tmp 13) (.const (.int .i64 4))⟩,
    ⟨(some 15), none, .mov (.tmp 14)⟩,
    ⟨(some 16), (some (15, false)), .mov (.tmp 5)⟩,
    ⟨(some 17), (some (15, false)), .indexAddr 1 (.tmp 16) (.const (.int .i64 0))⟩,
    ⟨(some 18), (some (15, false)), .load none (.tmp 17)⟩,
    ⟨(some 19), (some (15, false)), .str (.cmp true) [.tmp 18, .const (.string ⟨#[114, 97, 116, 101]⟩)]⟩,
    ⟨(some 20), none, .pick (.tmp 15) (.const (.bool true)) (.tmp 19)⟩]

def f39r3 : List AInstr := [
    ⟨(some 4), none, .mov (.const (.bool false))⟩]

def f39r4 : List AInstr := [
    ⟨(some 21), none, .mov (.tmp 1)⟩,
    ⟨(some 22), none, .nilCheck (.tmp 21)⟩,
    ⟨(some 23), none, .fieldAddr 0 (.tmp 22)⟩,
    ⟨(some 24), none, .mov (.tmp 1)⟩,
    ⟨(some 25), none, .nilCheck (.tmp 24)⟩,
    ⟨(some 26), none, .fieldAddr 1 (.tmp 25)⟩,
    ⟨(some 27), none, .mov (.tmp 1)⟩,
    ⟨(some 28), none, .nilCheck (.tmp 27)⟩,
    ⟨(some 29), none, .fieldAddr 2 (.tmp 28)⟩,
    ⟨(some 30), none, .buildSlice 1 3 [.pointer none, .pointer none, .pointer none] [(0, 1, (.tmp 23)), (1, 1, (.tmp 26)), (2, 1, (.tmp 29))]⟩,
    ⟨(some 31), none, .len (.tmp 30)⟩,
    ⟨(some 32), none, .mov (.const (.int .i64 0))⟩]

def f39r5 : List AInstr := [
    ⟨(some 33), none, .ibin .lss (.tmp 32) (.tmp 31)⟩]

def f39r6 : List AInstr := [
    ⟨(some 34), none, .mov (.tmp 32)⟩,
    ⟨(some 35), none, .indexAddr 1 (.tmp 30) (.tmp 32)⟩,
    ⟨(some 36), none, .load none (.tmp 35)⟩,
    ⟨(some 6), none, .mov (.tmp 34)⟩,
    ⟨(some 7), none, .mov (.tmp 36)⟩]

def f39r7 : List AInstr := [
    ⟨(some 38), none, .mov (.tmp 5)⟩,
    ⟨(some 39), none, .mov (.tmp 6)⟩,
    ⟨(some 40), none, .ibin .add (.tmp 39) (.const (.int .i64 1))⟩,
    ⟨(some 41), none, .indexAddr 1 (.tmp 38) (.tmp 40)⟩,
    ⟨(some 42), none, .load none (.tmp 41)⟩,
    ⟨(some 43), none, .callF 49 [.tmp 42]⟩,
    ⟨(some 37), none, .mov (.tmp 43)⟩,
    ⟨(some 44), none, .extract 0 (.tmp 37)⟩,
    ⟨(some 45), none, .extract 1 (.tmp 37)⟩,
    ⟨(some 8), none, .mov (.tmp 44)⟩,
    ⟨(some 9), none, .mov (.tmp 45)⟩]

def f39r8 : List AInstr := [
    ⟨(some 46), none, .mov (.tmp 9)⟩,
    ⟨(some 47), none, .un .not (.tmp 46)⟩]

def f39r9 : List AInstr := [
    ⟨(some 4), none, .mov (.const (.bool false))⟩]

def f39r10 : List AInstr := [
    ⟨(some 48), none, .mov (.tmp 7)⟩,
    ⟨(some 49), none, .mov (.tmp 8)⟩,
    ⟨(some 50), none, .nilCheck (.tmp 48)⟩,
    ⟨none, none, .store 1 (.tmp 50) (.tmp 49)⟩]

def f39r11 : List AInstr := [
    ⟨(some 51), none, .ibin .add (.tmp 32) (.const (.int .i64 1))⟩,
    ⟨(some 32), none, .mov (.tmp 51)⟩]

/-- live: [5, 30, 31, 32] -/
def f39l0 : ACode := (.seq (.ops f39r5)
  (.keep [5, 30, 31, 32, 33] (.seq (.cond (.tmp 33) .skip (.exit 0))
  (.keep [5, 30, 31, 32] (.seq (.block 1 (.seq (.ops f39r6)
  (.keep [5, 6, 7, 30, 31, 32] (.seq (.ops f39r7)
  (.keep [5, 7, 8, 9, 30, 31, 32] (.seq (.seq (.ops f39r8)
  (.keep [5, 7, 8, 30, 31, 32, 47] (.cond (.tmp 47) (.keep [] (.seq (.ops f39r9)
  (.keep [4] .ret))) .skip)))
  (.keep [5, 7, 8, 30, 31, 32] (.ops f39r10))))))))
  (.keep [5, 30, 31, 32] (.ops f39r11)))))))

def f39r13 : List AInstr := [
    ⟨(some 4), none, .mov (.const (.bool true))⟩]

def f39b : ACode := (.seq (.ops f39r0)
  (.keep [0, 1] (.seq (.ops f39r1)
  (.keep [1, 5] (.seq (.seq (.ops f39r2)
  (.keep [1, 5, 20] (.cond (.tmp 20) (.keep [] (.seq (.ops f39r3)
  (.keep [4] .ret))) .skip)))
  (.keep [1, 5] (.seq (.seq (.draw f39r4 [(0, 0, false), (0, 0, false), (0, 0, false), (0, 0, false), (0, 0, false), (0, 0, false), (0, 0, false), (0, 0, false), (0, 0, false), (0, 2, true), (1, 1, false), (0, 1, false)])
  (.keep [5, 30, 31, 32] (.block 0 (.loop f39l0))))
  (.keep [] (.seq (.ops f39r13)
  (.keep [4] .ret))))))))))

def f39 : AFn := ⟨52, [.tmp 4], f39b⟩

theorem f39_ok : compFn Tryz.prog 39 = some f39.strip := by kernel_rfl

/- function 40: weirhouse/bench.line; parameters 2; operations that are not compiled: 0 -/
def f40r0 : List AInstr := [
    ⟨(some 4), none, .mov (.const (.bool false))⟩]

def f40r1 : List AInstr := [
    ⟨(some 13), none, .mov (.tmp 0)⟩,
    ⟨(some 14), none, .callF 41 [.tmp 13, .const (.string ⟨#[32]⟩)]⟩,
    ⟨(some 12), none, .mov (.tmp 14)⟩,
    ⟨(some 15), none, .extract 0 (.tmp 12)⟩,
    ⟨(some 16), none, .extract 1 (.tmp 12)⟩,
    ⟨(some 17), none, .extract 2 (.tmp 12)⟩,
    ⟨(some 5), none, .mov (.tmp 15)⟩,
    ⟨(some 6), none, .mov (.tmp 16)⟩,
    ⟨(some 7), none, .mov (.tmp 17)⟩]

def f40r2 : List AInstr := [
    ⟨(some 19), none, .mov (.tmp 6)⟩,
    ⟨(some 20), none, .callF 49 [.tmp 19]⟩,
    ⟨(some 18), none, .mov (.tmp 20)⟩,
    ⟨(some 21), none, .extract 0 (.tmp 18)⟩,
    ⟨(some 22), none, .extract 1 (.tmp 18)⟩,
    ⟨(some 8), none, .mov (.tmp 21)⟩,
    ⟨(some 9), none, .mov (.tmp 22)⟩]

def f40r3 : List AInstr := [
    ⟨(some 23), none, .callF 50 []⟩,
    ⟨(some 24), none, .len (.tmp 23)⟩,
    ⟨(some 25), none, .mov (.const (.int .i64 0))⟩]

def f40r4 : List AInstr := [
    ⟨(some 26), none, .ibin .lss (.tmp 25) (.tmp 24)⟩]

def f40r5 : List AInstr := [
    ⟨(some 27), none, .mov (.tmp 25)⟩,
    ⟨(some 28), none, .indexAddr 1 (.tmp 23) (.tmp 25)⟩,
    ⟨(some 29), none, .load none (.tmp 28)⟩,
    ⟨(some 10), none, .mov (.tmp 27)⟩,
    ⟨(some 11), none, .mov (.tmp 29)⟩]

def f40r6 : List AInstr := [
    ⟨(some 30), none, .mov (.tmp 9)⟩,
    ⟨(some 31), none, .mov (.tmp 30)⟩,
    ⟨(some 32), (some (31, true)), .mov (.tmp 11)⟩,
    ⟨(some 33), (some (31, true)), .mov (.tmp 5)⟩,
    ⟨(some 34), (some (31, true)), .str (.cmp false) [.tmp 32, .tmp 33]⟩,
    ⟨(some 35), none, .pick (.tmp 31) (.tmp 34) (.const (.bool false))⟩]

def f40r7 : List AInstr := [
    ⟨(some 36), none, .mov (.tmp 1)⟩,
    ⟨(some 37), none, .mov (.tmp 1)⟩,
    ⟨(some 38), none, .nilCheck (.tmp 37)⟩,
    ⟨(some 39), none, .fieldAddr 3 (.tmp 38)⟩,
    ⟨(some 40), none, .load none (.tmp 39)⟩,
    ⟨(some 41), none, .mov (.tmp 10)⟩,
    ⟨(some 42), none, .ibin .add (.const (.int .i64 1)) (.tmp 41)⟩,
    ⟨(some 43), none, .mov (.tmp 8)⟩,
    ⟨(some 44), none, .build [.int .i64 0, .int .i64 0] [(0, 1, (.tmp 42)), (1, 1, (.tmp 43))]⟩,
    ⟨(some 45), none, .buildSlice 2 1 [.int .i64 0, .int .i64 0] [(0, 2, (.tmp 44))]⟩,
    ⟨(some 46), none, .append 2 16 (.tmp 40) (.tmp 45)⟩,
    ⟨(some 47), none, .nilCheck (.tmp 36)⟩,
    ⟨(some 48), none, .fieldAddr 3 (.tmp 47)⟩,
    ⟨none, none, .store 1 (.tmp 48) (.tmp 46)⟩]

def f40r8 : List AInstr := [
    ⟨(some 4), none, .mov (.const (.bool true))⟩]

def f40r9 : List AInstr := [
    ⟨(some 49), none, .ibin .add (.tmp 25) (.const (.int .i64 1))⟩,
    ⟨(some 25), none, .mov (.tmp 49)⟩]

/-- live: [1, 5, 8, 9, 23, 24, 25] -/
def f40l0 : ACode := (.seq (.ops f40r4)
  (.keep [1, 5, 8, 9, 23, 24, 25, 26] (.seq (.cond (.tmp 26) .skip (.exit 0))
  (.keep [1, 5, 8, 9, 23, 24, 25] (.seq (.block 1 (.seq (.ops f40r5)
  (.keep [1, 5, 8, 9, 10, 11, 23, 24, 25] (.seq (.ops f40r6)
  (.keep [1, 5, 8, 9, 10, 23, 24, 25, 35] (.cond (.tmp 35) (.keep [1, 8, 10] (.seq (.ops f40r7)
  (.keep [] (.seq (.ops f40r8)
  (.keep [4] .ret))))) .skip))))))
  (.keep [1, 5, 8, 9, 23, 24, 25] (.ops f40r9)))))))

def f40r11 : List AInstr := [
    ⟨(some 4), none, .mov (.const (.bool false))⟩]

def f40b : ACode := (.seq (.ops f40r0)
  (.keep [0, 1] (.seq (.ops f40r1)
  (.keep [1, 5, 6] (.seq (.ops f40r2)
  (.keep [1, 5, 8, 9] (.seq (.seq (.ops f40r3)
  (.keep [1, 5, 8, 9, 23, 24, 25] (.block 0 (.loop f40l0))))
  (.keep [] (.seq (.ops f40r11)
  (.keep [4] .ret))))))))))

def f40 : AFn := ⟨50, [.tmp 4], f40b⟩

theorem f40_ok : compFn Tryz.prog 40 = some f40.strip := by kernel_rfl

/- function 42: weirhouse/pace.Wrong; parameters 3; operations that are not compiled: 0 -/
def f42r0 : List AInstr := [
    ⟨(some 6), none, .mov (.const (.int .i64 0))⟩]

def f42r1 : List AInstr := [
    ⟨(some 10), none, .mov (.tmp 0)⟩,
    ⟨(some 11), none, .mov (.tmp 1)⟩,
    ⟨(some 12), none, .mov (.tmp 2)⟩,
    ⟨(some 13), none, .callF 43 [.tmp 10, .tmp 11, .tmp 12]⟩,
    ⟨(some 9), none, .mov (.tmp 13)⟩,
    ⟨(some 14), none, .extract 0 (.tmp 9)⟩,
    ⟨(some 15), none, .extract 1 (.tmp 9)⟩,
    ⟨(some 7), none, .alloc [.int .i64 0, .int .i64 0, .int .i64 0, .int .i64 0, .int .i64 0]⟩,
    ⟨none, none, .store 5 (.tmp 7) (.tmp 14)⟩,
    ⟨(some 8), none, .mov (.tmp 15)⟩]

def f42r2 : List AInstr := [
    ⟨(some 16), none, .mov (.tmp 8)⟩,
    ⟨(some 17), none, .ibin .neq (.tmp 16) (.const (.int .i64 0))⟩]

def f42r3 : List AInstr := [
    ⟨(some 18), none, .mov (.tmp 8)⟩,
    ⟨(some 6), none, .mov (.tmp 18)⟩]

def f42r4 : List AInstr := [
    ⟨(some 19), none, .mov (.tmp 2)⟩,
    ⟨(some 20), none, .ibin .lss (.tmp 19) (.const (.int .i64 1500))⟩]

def f42r5 : List AInstr := [
    ⟨(some 6), none, .mov (.const (.int .i64 2))⟩]

def f42r6 : List AInstr := [
    ⟨(some 6), none, .mov (.const (.int .i64 0))⟩]

def f42b : ACode := (.seq (.ops f42r0)
  (.keep [0, 1, 2] (.seq (.seq (.ops f42r1)
  (.keep [2, 8] (.seq (.ops f42r2)
  (.keep [2, 8, 17] (.cond (.tmp 17) (.keep [8] (.seq (.ops f42r3)
  (.keep [6] .ret))) .skip)))))
  (.keep [2] (.seq (.seq (.ops f42r4)
  (.keep [20] (.cond (.tmp 20) (.keep [] (.seq (.ops f42r5)
  (.keep [6] .ret))) .skip)))
  (.keep [] (.seq (.ops f42r6)
  (.keep [6] .ret))))))))

def f42 : AFn := ⟨21, [.tmp 6], f42b⟩

theorem f42_ok : compFn Tryz.prog 42 = some f42.strip := by kernel_rfl

/- function 43: weirhouse/bucket.Full; parameters 3; operations that are not compiled: 0 -/
def f43r0 : List AInstr := [
    ⟨(some 6), none, .alloc [.int .i64 0, .int .i64 0, .int .i64 0, .int .i64 0, .int .i64 0]⟩,
    ⟨(some 7), none, .mov (.const (.int .i64 0))⟩]

def f43r1 : List AInstr := [
    ⟨(some 9), none, .mov (.tmp 0)⟩,
    ⟨(some 10), none, .mov (.tmp 1)⟩,
    ⟨(some 11), none, .mov (.tmp 2)⟩,
    ⟨(some 12), none, .build [.int .i64 0, .int .i64 0, .int .i64 0, .int .i64 0, .int .i64 0] [(0, 1, (.tmp 9)), (1, 1, (.tmp 10)), (2, 1, (.tmp 11))]⟩,
    ⟨(some 8), none, .alloc [.int .i64 0, .int .i64 0, .int .i64 0, .int .i64 0, .int .i64 0]⟩,
    ⟨none, none, .store 5 (.tmp 8) (.tmp 12)⟩]

def f43r2 : List AInstr := [
    ⟨(some 13), none, .load (some 5) (.tmp 8)⟩,
    ⟨(some 14), none, .callF 52 [.tmp 13]⟩,
    ⟨(some 15), none, .un .not (.tmp 14)⟩]

def f43r3 : List AInstr := [
    ⟨(some 16), none, .build [.int .i64 0, .int .i64 0, .int .i64 0, .int .i64 0, .int .i64 0] []⟩,
    ⟨none, none, .store 5 (.tmp 6) (.tmp 16)⟩,
    ⟨(some 7), none, .mov (.const (.int .i64 2))⟩]

def f43r4 : List AInstr := [
    ⟨(some 17), none, .mov (.tmp 2)⟩,
    ⟨(some 18), none, .mov (.tmp 1)⟩,
    ⟨(some 19), none, .ibin .mul (.tmp 17) (.tmp 18)⟩,
    ⟨(some 20), none, .fieldAddr 3 (.tmp 8)⟩,
    ⟨none, none, .store 1 (.tmp 20) (.tmp 19)⟩]

def f43r5 : List AInstr := [
    ⟨(some 21), none, .load (some 5) (.tmp 8)⟩,
    ⟨none, none, .store 5 (.tmp 6) (.tmp 21)⟩,
    ⟨(some 7), none, .mov (.const (.int .i64 0))⟩]

def f43b : ACode := (.seq (.ops f43r0)
  (.keep [0, 1, 2, 6] (.seq (.ops f43r1)
  (.keep [1, 2, 6, 8] (.seq (.seq (.ops f43r2)
  (.keep [1, 2, 6, 8, 15] (.cond (.tmp 15) (.keep [6] (.seq (.ops f43r3)
  (.keep [6, 7] .ret))) .skip)))
  (.keep [1, 2, 6, 8] (.seq (.ops f43r4)
  (.keep [6, 8] (.seq (.ops f43r5)
  (.keep [6, 7] .ret))))))))))

def f43 : AFn := ⟨22, [.cell 6 (some 5), .tmp 7], f43b⟩

theorem f43_ok : compFn Tryz.prog 43 = some f43.strip := by kernel_rfl

/- function 44: weirhouse/pace.do; parameters 2; operations that are not compiled: 0 -/
def f44r0 : List AInstr := [
    ⟨(some 2), none, .box (.tmp 0)⟩,
    ⟨(some 3), none, .box (.tmp 1)⟩,
    ⟨(some 4), none, .alloc [.slice none 0 0, .int .i64 0, .int .i64 0, .int .i64 0, .int .i64 0, .int .i64 0, .int .i64 0, .int .i64 0, .int .i64 0, .int .i64 0]⟩,
    ⟨(some 5), none, .alloc [.int .i64 0, .slice none 0 0]⟩]

def f44r1 : List AInstr := [
    ⟨(some 14), none, .func (.func 53) [] [.tmp 2]⟩,
    ⟨(some 6), none, .mov (.tmp 14)⟩]

def f44r2 : List AInstr := [
    ⟨(some 15), none, .fieldAddr 0 (.tmp 3)⟩,
    ⟨(some 16), none, .load none (.tmp 15)⟩]

def f44r3 : List AInstr := [
    ⟨(some 22), none, .ibin .eql (.tmp 16) (.const (.int .i64 1))⟩,
    ⟨(some 21), none, .mov (.tmp 22)⟩]

def f44r4 : List AInstr := [
    ⟨(some 24), none, .fieldAddr 0 (.tmp 2)⟩,
    ⟨(some 25), none, .load (some 4) (.tmp 24)⟩,
    ⟨(some 26), none, .fieldAddr 1 (.tmp 3)⟩,
    ⟨(some 27), none, .load none (.tmp 26)⟩,
    ⟨(some 28), none, .build [.int .i64 0, .int .i64 0] [(0, 1, (.const (.int .i64 1))), (1, 1, (.tmp 27))]⟩,
    ⟨(some 29), none, .callF 54 [.tmp 25, .tmp 28]⟩,
    ⟨(some 23), none, .mov (.tmp 29)⟩,
    ⟨(some 30), none, .extract 0 (.tmp 23)⟩,
    ⟨(some 31), none, .extract 1 (.tmp 23)⟩,
    ⟨(some 32), none, .extract 2 (.tmp 23)⟩,
    ⟨(some 7), none, .alloc [.slice none 0 0, .int .i64 0, .int .i64 0, .int .i64 0]⟩,
    ⟨none, none, .store 4 (.tmp 7) (.tmp 30)⟩,
    ⟨(some 8), none, .mov (.tmp 31)⟩,
    ⟨(some 9), none, .mov (.tmp 32)⟩]

def f44r5 : List AInstr := [
    ⟨(some 33), none, .mov (.tmp 9)⟩,
    ⟨(some 34), none, .ibin .neq (.tmp 33) (.const (.int .i64 0))⟩]

def f44r6 : List AInstr := [
    ⟨(some 35), none, .mov (.tmp 6)⟩,
    ⟨(some 36), none, .mov (.tmp 9)⟩,
    ⟨(some 37), none, .callV (.tmp 35) [.tmp 36]⟩,
    ⟨(some 38), none, .extract 0 (.tmp 37)⟩,
    ⟨(some 39), none, .extract 1 (.tmp 37)⟩,
    ⟨none, none, .store 10 (.tmp 4) (.tmp 38)⟩,
    ⟨none, none, .store 2 (.tmp 5) (.tmp 39)⟩]

def f44r7 : List AInstr := [
    ⟨(some 40), none, .load (some 4) (.tmp 7)⟩,
    ⟨(some 41), none, .fieldAddr 0 (.tmp 2)⟩,
    ⟨none, none, .store 4 (.tmp 41) (.tmp 40)⟩]

def f44r8 : List AInstr := [
    ⟨(some 42), none, .mov (.tmp 8)⟩,
    ⟨(some 43), none, .ibin .eql (.tmp 42) (.const (.int .i64 0))⟩]

def f44r9 : List AInstr := [
    ⟨(some 44), none, .mov (.tmp 6)⟩,
    ⟨(some 45), none, .callV (.tmp 44) [.const (.int .i64 4)]⟩,
    ⟨(some 46), none, .extract 0 (.tmp 45)⟩,
    ⟨(some 47), none, .extract 1 (.tmp 45)⟩,
    ⟨none, none, .store 10 (.tmp 4) (.tmp 46)⟩,
    ⟨none, none, .store 2 (.tmp 5) (.tmp 47)⟩]

def f44r10 : List AInstr := [
    ⟨(some 49), none, .ibin .eql (.tmp 16) (.const (.int .i64 2))⟩,
    ⟨(some 48), none, .mov (.tmp 49)⟩]

def f44r11 : List AInstr := [
    ⟨(some 50), none, .fieldAddr 1 (.tmp 3)⟩,
    ⟨(some 51), none, .load none (.tmp 50)⟩,
    ⟨(some 52), none, .ibin .lss (.tmp 51) (.const (.int .i64 0))⟩,
    ⟨(some 53), none, .mov (.tmp 52)⟩,
    ⟨(some 54), (some (53, false)), .fieldAddr 1 (.tmp 3)⟩,
    ⟨(some 55), (some (53, false)), .load none (.tmp 54)⟩,
    ⟨(some 56), (some (53, false)), .ibin .gtr (.tmp 55) (.const (.int .i64 1099511627776))⟩,
    ⟨(some 57), none, .pick (.tmp 53) (.const (.bool true)) (.tmp 56)⟩]

def f44r12 : List AInstr := [
    ⟨(some 58), none, .mov (.tmp 6)⟩,
    ⟨(some 59), none, .callV (.tmp 58) [.const (.int .i64 2)]⟩,
    ⟨(some 60), none, .extract 0 (.tmp 59)⟩,
    ⟨(some 61), none, .extract 1 (.tmp 59)⟩,
    ⟨none, none, .store 10 (.tmp 4) (.tmp 60)⟩,
    ⟨none, none, .store 2 (.tmp 5) (.tmp 61)⟩]

def f44r13 : List AInstr := [
    ⟨(some 63), none, .fieldAddr 4 (.tmp 2)⟩,
    ⟨(some 64), none, .load (some 5) (.tmp 63)⟩,
    ⟨(some 65), none, .fieldAddr 4 (.tmp 2)⟩,
    ⟨(some 66), none, .fieldAddr 4 (.tmp 65)⟩,
    ⟨(some 67), none, .load none (.tmp 66)⟩,
    ⟨(some 68), none, .fieldAddr 1 (.tmp 3)⟩,
    ⟨(some 69), none, .load none (.tmp 68)⟩,
    ⟨(some 70), none, .ibin .add (.tmp 67) (.tmp 69)⟩,
    ⟨(some 71), none, .minmax false [.tmp 70, .const (.int .i64 1099511627776)]⟩,
    ⟨(some 72), none, .callF 55 [.tmp 64, .tmp 71]⟩,
    ⟨(some 62), none, .mov (.tmp 72)⟩,
    ⟨(some 73), none, .extract 0 (.tmp 62)⟩,
    ⟨(some 74), none, .extract 1 (.tmp 62)⟩,
    ⟨(some 10), none, .alloc [.int .i64 0, .int .i64 0, .int .i64 0, .int .i64 0, .int .i64 0]⟩,
    ⟨none, none, .store 5 (.tmp 10) (.tmp 73)⟩,
    ⟨(some 11), none, .mov (.tmp 74)⟩]

def f44r14 : List AInstr := [
    ⟨(some 75), none, .mov (.tmp 11)⟩,
    ⟨(some 76), none, .ibin .neq (.tmp 75) (.const (.int .i64 0))⟩]

def f44r15 : List AInstr := [
    ⟨(some 77), none, .mov (.tmp 6)⟩,
    ⟨(some 78), none, .mov (.tmp 11)⟩,
    ⟨(some 79), none, .callV (.tmp 77) [.tmp 78]⟩,
    ⟨(some 80), none, .extract 0 (.tmp 79)⟩,
    ⟨(some 81), none, .extract 1 (.tmp 79)⟩,
    ⟨none, none, .store 10 (.tmp 4) (.tmp 80)⟩,
    ⟨none, none, .store 2 (.tmp 5) (.tmp 81)⟩]

def f44r16 : List AInstr := [
    ⟨(some 82), none, .load (some 5) (.tmp 10)⟩,
    ⟨(some 83), none, .fieldAddr 4 (.tmp 2)⟩,
    ⟨none, none, .store 5 (.tmp 83) (.tmp 82)⟩]

def f44r17 : List AInstr := [
    ⟨(some 85), none, .ibin .eql (.tmp 16) (.const (.int .i64 3))⟩,
    ⟨(some 84), none, .mov (.tmp 85)⟩]

def f44r18 : List AInstr := [
    ⟨(some 86), none, .fieldAddr 1 (.tmp 3)⟩,
    ⟨(some 87), none, .load none (.tmp 86)⟩,
    ⟨(some 88), none, .ibin .lss (.tmp 87) (.const (.int .i64 0))⟩,
    ⟨(some 89), none, .mov (.tmp 88)⟩,
    ⟨(some 90), (some (89, false)), .fieldAddr 1 (.tmp 3)⟩,
    ⟨(some 91), (some (89, false)), .load none (.tmp 90)⟩,
    ⟨(some 92), (some (89, false)), .ibin .gtr (.tmp 91) (.const (.int .i64 1073741824))⟩,
    ⟨(some 93), none, .pick (.tmp 89) (.const (.bool true)) (.tmp 92)⟩]

def f44r19 : List AInstr := [
    ⟨(some 94), none, .mov (.tmp 6)⟩,
    ⟨(some 95), none, .callV (.tmp 94) [.const (.int .i64 2)]⟩,
    ⟨(some 96), none, .extract 0 (.tmp 95)⟩,
    ⟨(some 97), none, .extract 1 (.tmp 95)⟩,
    ⟨none, none, .store 10 (.tmp 4) (.tmp 96)⟩,
    ⟨none, none, .store 2 (.tmp 5) (.tmp 97)⟩]

def f44r20 : List AInstr := [
    ⟨(some 99), none, .load (some 10) (.tmp 2)⟩,
    ⟨(some 100), none, .fieldAddr 1 (.tmp 3)⟩,
    ⟨(some 101), none, .load none (.tmp 100)⟩,
    ⟨(some 102), none, .callF 56 [.tmp 99, .tmp 101]⟩,
    ⟨(some 98), none, .mov (.tmp 102)⟩,
    ⟨(some 103), none, .extract 0 (.tmp 98)⟩,
    ⟨(some 104), none, .extract 1 (.tmp 98)⟩,
    ⟨(some 12), none, .alloc [.slice none 0 0, .int .i64 0, .int .i64 0, .int .i64 0, .int .i64 0, .int .i64 0, .int .i64 0, .int .i64 0, .int .i64 0, .int .i64 0]⟩,
    ⟨none, none, .store 10 (.tmp 12) (.tmp 103)⟩,
    ⟨(some 13), none, .mov (.tmp 104)⟩]

def f44r21 : List AInstr := [
    ⟨(some 105), none, .load (some 10) (.tmp 12)⟩,
    ⟨(some 106), none, .mov (.tmp 13)⟩,
    ⟨(some 107), none, .build [.int .i64 0, .slice none 0 0] [(1, 1, (.tmp 106))]⟩,
    ⟨none, none, .store 10 (.tmp 4) (.tmp 105)⟩,
    ⟨none, none, .store 2 (.tmp 5) (.tmp 107)⟩]

def f44r22 : List AInstr := [
    ⟨(some 17), none, .mov (.tmp 6)⟩,
    ⟨(some 18), none, .callV (.tmp 17) [.const (.int .i64 5)]⟩,
    ⟨(some 19), none, .extract 0 (.tmp 18)⟩,
    ⟨(some 20), none, .extract 1 (.tmp 18)⟩,
    ⟨none, none, .store 10 (.tmp 4) (.tmp 19)⟩,
    ⟨none, none, .store 2 (.tmp 5) (.tmp 20)⟩]

def f44r23 : List AInstr := [
    ⟨(some 108), none, .load (some 10) (.tmp 2)⟩,
    ⟨(some 109), none, .build [.int .i64 0, .slice none 0 0] []⟩,
    ⟨none, none, .store 10 (.tmp 4) (.tmp 108)⟩,
    ⟨none, none, .store 2 (.tmp 5) (.tmp 109)⟩]

def f44b : ACode := (.seq (.ops f44r0)
  (.keep [2, 3, 4, 5] (.seq (.ops f44r1)
  (.keep [2, 3, 4, 5, 6] (.seq (.seq (.ops f44r2)
  (.keep [2, 3, 4, 5, 6, 16] (.block 0 (.seq (.ops f44r3)
  (.keep [2, 3, 4, 5, 6, 16, 21] (.cond (.tmp 21) (.keep [2, 3, 4, 5, 6] (.seq (.ops f44r4)
  (.keep [2, 4, 5, 6, 7, 8, 9] (.seq (.seq (.ops f44r5)
  (.keep [2, 4, 5, 6, 7, 8, 9, 34] (.cond (.tmp 34) (.keep [4, 5, 6, 9] (.seq (.ops f44r6)
  (.keep [4, 5] .ret))) .skip)))
  (.keep [2, 4, 5, 6, 7, 8] (.seq (.ops f44r7)
  (.keep [2, 4, 5, 6, 8] (.seq (.ops f44r8)
  (.keep [2, 4, 5, 6, 43] (.cond (.tmp 43) (.keep [4, 5, 6] (.seq (.ops f44r9)
  (.keep [4, 5] .ret))) .skip)))))))))) (.keep [2, 3, 4, 5, 6, 16] (.seq (.ops f44r10)
  (.keep [2, 3, 4, 5, 6, 16, 48] (.cond (.tmp 48) (.keep [2, 3, 4, 5, 6] (.seq (.seq (.ops f44r11)
  (.keep [2, 3, 4, 5, 6, 57] (.cond (.tmp 57) (.keep [4, 5, 6] (.seq (.ops f44r12)
  (.keep [4, 5] .ret))) .skip)))
  (.keep [2, 3, 4, 5, 6] (.seq (.ops f44r13)
  (.keep [2, 4, 5, 6, 10, 11] (.seq (.seq (.ops f44r14)
  (.keep [2, 4, 5, 6, 10, 11, 76] (.cond (.tmp 76) (.keep [4, 5, 6, 11] (.seq (.ops f44r15)
  (.keep [4, 5] .ret))) .skip)))
  (.keep [2, 4, 5, 10] (.ops f44r16)))))))) (.keep [2, 3, 4, 5, 6, 16] (.seq (.ops f44r17)
  (.keep [2, 3, 4, 5, 6, 84] (.cond (.tmp 84) (.keep [2, 3, 4, 5, 6] (.seq (.seq (.ops f44r18)
  (.keep [2, 3, 4, 5, 6, 93] (.cond (.tmp 93) (.keep [4, 5, 6] (.seq (.ops f44r19)
  (.keep [4, 5] .ret))) .skip)))
  (.keep [2, 3, 4, 5] (.seq (.ops f44r20)
  (.keep [4, 5, 12, 13] (.seq (.ops f44r21)
  (.keep [4, 5] .ret))))))) (.keep [4, 5, 6] (.seq (.ops f44r22)
  (.keep [4, 5] .ret)))))))))))))))))
  (.keep [2, 4, 5] (.seq (.ops f44r23)
  (.keep [4, 5] .ret))))))))

def f44 : AFn := ⟨110, [.cell 4 (some 10), .cell 5 (some 2)], f44b⟩

theorem f44_ok : compFn Tryz.prog 44 = some f44.strip := by kernel_rfl

/- function 45: slices.Clone[[]int,int]; parameters 1; operations that are not compiled: 0 -/
def f45r0 : List AInstr := [
    ⟨(some 2), none, .mov (.const (.slice none 0 0))⟩]

def f45r1 : List AInstr := [
    ⟨(some 3), none, .mov (.tmp 0)⟩,
    ⟨(some 4), none, .eqS false (.tmp 3) (.const (.slice none 0 0))⟩]

def f45r2 : List AInstr := [
    ⟨(some 2), none, .mov (.const (.slice none 0 0))⟩]

def f45r3 : List AInstr := [
    ⟨(some 5), none, .buildSlice 1 0 [] []⟩,
    ⟨(some 6), none, .mov (.tmp 0)⟩,
    ⟨(some 7), none, .append 1 8 (.tmp 5) (.tmp 6)⟩,
    ⟨(some 2), none, .mov (.tmp 7)⟩]

def f45b : ACode := (.seq (.ops f45r0)
  (.keep [0] (.seq (.seq (.ops f45r1)
  (.keep [0, 4] (.cond (.tmp 4) (.keep [] (.seq (.ops f45r2)
  (.keep [2] .ret))) .skip)))
  (.keep [0] (.seq (.ops f45r3)
  (.keep [2] .ret))))))

def f45 : AFn := ⟨8, [.tmp 2], f45b⟩

theorem f45_ok : compFn Tryz.prog 45 = some f45.strip := by kernel_rfl

/- function 47: slices.rotateCmpFunc[weirhouse/api.Prefix]; parameters 5; operations that are not compiled: 0 -/
def f47r0 : List AInstr := [
    ⟨(some 12), none, .mov (.tmp 2)⟩,
    ⟨(some 13), none, .mov (.tmp 1)⟩,
    ⟨(some 14), none, .ibin .sub (.tmp 12) (.tmp 13)⟩,
    ⟨(some 10), none, .mov (.tmp 14)⟩]

def f47r1 : List AInstr := [
    ⟨(some 15), none, .mov (.tmp 3)⟩,
    ⟨(some 16), none, .mov (.tmp 2)⟩,
    ⟨(some 17), none, .ibin .sub (.tmp 15) (.tmp 16)⟩,
    ⟨(some 11), none, .mov (.tmp 17)⟩]

def f47r2 : List AInstr := [
    ⟨(some 18), none, .mov (.tmp 10)⟩,
    ⟨(some 19), none, .mov (.tmp 11)⟩,
    ⟨(some 20), none, .ibin .neq (.tmp 18) (.tmp 19)⟩]

def f47r3 : List AInstr := [
    ⟨(some 21), none, .mov (.tmp 10)⟩,
    ⟨(some 22), none, .mov (.tmp 11)⟩,
    ⟨(some 23), none, .ibin .gtr (.tmp 21) (.tmp 22)⟩]

def f47r4 : List AInstr := [
    ⟨(some 24), none, .mov (.tmp 0)⟩,
    ⟨(some 25), none, .mov (.tmp 2)⟩,
    ⟨(some 26), none, .mov (.tmp 10)⟩,
    ⟨(some 27), none, .ibin .sub (.tmp 25) (.tmp 26)⟩,
    ⟨(some 28), none, .mov (.tmp 2)⟩,
    ⟨(some 29), none, .mov (.tmp 11)⟩,
    ⟨(some 30), none, .mov (.tmp 4)⟩,
    ⟨(some 31), none, .callF 58 [.tmp 24, .tmp 27, .tmp 28, .tmp 29, .tmp 30]⟩]

def f47r5 : List AInstr := [
    ⟨(some 32), none, .mov (.tmp 10)⟩,
    ⟨(some 33), none, .mov (.tmp 11)⟩,
    ⟨(some 34), none, .ibin .sub (.tmp 32) (.tmp 33)⟩,
    ⟨(some 10), none, .mov (.tmp 34)⟩]

def f47r6 : List AInstr := [
    ⟨(some 35), none, .mov (.tmp 0)⟩,
    ⟨(some 36), none, .mov (.tmp 2)⟩,
    ⟨(some 37), none, .mov (.tmp 10)⟩,
    ⟨(some 38), none, .ibin .sub (.tmp 36) (.tmp 37)⟩,
    ⟨(some 39), none, .mov (.tmp 2)⟩,
    ⟨(some 40), none, .mov (.tmp 11)⟩,
    ⟨(some 41), none, .ibin .add (.tmp 39) (.tmp 40)⟩,
    ⟨(some 42), none, .mov (.tmp 10)⟩,
    ⟨(some 43), none, .ibin .sub (.tmp 41) (.tmp 42)⟩,
    ⟨(some 44), none, .mov (.tmp 10)⟩,
    ⟨(some 45), none, .mov (.tmp 4)⟩,
    ⟨(some 46), none, .callF 58 [.tmp 35, .tmp 38, .tmp 43, .tmp 44, .tmp 45]⟩]

def f47r7 : List AInstr := [
    ⟨(some 47), none, .mov (.tmp 11)⟩,
    ⟨(some 48), none, .mov (.tmp 10)⟩,
    ⟨(some 49), none, .ibin .sub (.tmp 47) (.tmp 48)⟩,
    ⟨(some 11), none, .mov (.tmp 49)⟩]

/-- live: [0, 2, 4, 10, 11] -/
def f47l0 : ACode := (.seq (.seq (.ops f47r2)
  (.keep [0, 2, 4, 10, 11, 20] (.cond (.tmp 20) .skip (.exit 0))))
  (.keep [0, 2, 4, 10, 11] (.block 1 (.seq (.ops f47r3)
  (.keep [0, 2, 4, 10, 11, 23] (.cond (.tmp 23) (.keep [0, 2, 4, 10, 11] (.seq (.ops f47r4)
  (.keep [0, 2, 4, 10, 11] (.ops f47r5)))) (.keep [0, 2, 4, 10, 11] (.seq (.ops f47r6)
  (.keep [0, 2, 4, 10, 11] (.ops f47r7))))))))))

def f47r9 : List AInstr := [
    ⟨(some 50), none, .mov (.tmp 0)⟩,
    ⟨(some 51), none, .mov (.tmp 2)⟩,
    ⟨(some 52), none, .mov (.tmp 10)⟩,
    ⟨(some 53), none, .ibin .sub (.tmp 51) (.tmp 52)⟩,
    ⟨(some 54), none, .mov (.tmp 2)⟩,
    ⟨(some 55), none, .mov (.tmp 10)⟩,
    ⟨(some 56), none, .mov (.tmp 4)⟩,
    ⟨(some 57), none, .callF 58 [.tmp 50, .tmp 53, .tmp 54, .tmp 55, .tmp 56]⟩]

def f47b : ACode := (.seq (.ops f47r0)
  (.keep [0, 2, 3, 4, 10] (.seq (.ops f47r1)
  (.keep [0, 2, 4, 10, 11] (.seq (.block 0 (.loop f47l0))
  (.keep [0, 2, 4, 10] (.ops f47r9)))))))

def f47 : AFn := ⟨58, [], f47b⟩

theorem f47_ok : compFn Tryz.prog 47 = some f47.strip := by kernel_rfl

/- function 49: weirhouse/bench.number; parameters 1; operations that are not compiled: 0 -/
def f49r0 : List AInstr := [
    ⟨(some 2), none, .mov (.const (.int .i64 0))⟩,
    ⟨(some 3), none, .mov (.const (.bool false))⟩]

def f49r1 : List AInstr := [
    ⟨(some 7), none, .mov (.tmp 0)⟩,
    ⟨(some 8), none, .callF 60 [.tmp 7]⟩,
    ⟨(some 6), none, .mov (.tmp 8)⟩,
    ⟨(some 9), none, .extract 0 (.tmp 6)⟩,
    ⟨(some 10), none, .extract 1 (.tmp 6)⟩,
    ⟨(some 4), none, .mov (.tmp 9)⟩,
    ⟨(some 5), none, .mov (.tmp 10)⟩]

def f49r2 : List AInstr := [
    ⟨(some 11), none, .mov (.tmp 4)⟩,
    ⟨(some 12), none, .mov (.tmp 5)⟩,
    ⟨(some 13), none, .str (.isNil false) [.tmp 12]⟩,
    ⟨(some 14), none, .mov (.tmp 13)⟩,
    ⟨(some 15), (some (14, true)), .mov (.tmp 4)⟩,
    ⟨(some 16), (some (14, true)), .ibin .geq (.tmp 15) (.const (.int .i64 0))⟩,
    ⟨(some 17), none, .pick (.tmp 14) (.tmp 16) (.const (.bool false))⟩,
    ⟨(some 18), none, .mov (.tmp 17)⟩,
    ⟨(some 19), (some (18, true)), .mov (.tmp 4)⟩,
    ⟨(some 20), (some (18, true)), .ibin .leq (.tmp 19) (.const (.int .i64 1099511627776))⟩,
    ⟨(some 21), none, .pick (.tmp 18) (.tmp 20) (.const (.bool false))⟩,
    ⟨(some 22), none, .mov (.tmp 21)⟩,
    ⟨(some 23), (some (22, true)), .mov (.tmp 4)⟩,
    ⟨(some 24), (some (22, true)), .callF 30 [.tmp 23]⟩,
    ⟨(some 25), (some (22, true)), .mov (.tmp 0)⟩,
    ⟨(some 26), (some (22, true)), .str (.cmp false) [.tmp 24, .tmp 25]⟩,
    ⟨(some 27), none, .pick (.tmp 22) (.tmp 26) (.const (.bool false))⟩,
    ⟨(some 2), none, .mov (.tmp 11)⟩,
    ⟨(some 3), none, .mov (.tmp 27)⟩]

def f49b : ACode := (.seq (.ops f49r0)
  (.keep [0] (.seq (.ops f49r1)
  (.keep [0, 4, 5] (.seq (.ops f49r2)
  (.keep [2, 3] .ret))))))

def f49 : AFn := ⟨28, [.tmp 2, .tmp 3], f49b⟩

theorem f49_ok : compFn Tryz.prog 49 = some f49.strip := by kernel_rfl

/- function 50: weirhouse/bench.words; parameters 0; operations that are not compiled: 0 -/
def f50r0 : List AInstr := [
    ⟨(some 0), none, .mov (.const (.slice none 0 0))⟩]

def f50r1 : List AInstr := [
    ⟨(some 1), none, .buildSlice 1 3 [.string ⟨#[]⟩, .string ⟨#[]⟩, .string ⟨#[]⟩] [(0, 1, (.const (.string ⟨#[105, 110]⟩))), (1, 1, (.const (.string ⟨#[116, 105, 99, 107]⟩))), (2, 1, (.const (.string ⟨#[112, 111, 108, 108]⟩)))]⟩,
    ⟨(some 0), none, .mov (.tmp 1)⟩]

def f50b : ACode := (.seq (.ops f50r0)
  (.keep [] (.seq (.ops f50r1)
  (.keep [0] .ret))))

def f50 : AFn := ⟨2, [.tmp 0], f50b⟩

theorem f50_ok : compFn Tryz.prog 50 = some f50.strip := by kernel_rfl

/- function 52: weirhouse/bucket.Right; parameters 1; operations that are not compiled: 0 -/
def f52r0 : List AInstr := [
    ⟨(some 1), none, .box (.tmp 0)⟩,
    ⟨(some 2), none, .mov (.const (.bool false))⟩]

def f52r1 : List AInstr := [
    ⟨(some 3), none, .fieldAddr 0 (.tmp 1)⟩,
    ⟨(some 4), none, .load none (.tmp 3)⟩,
    ⟨(some 5), none, .ibin .geq (.tmp 4) (.const (.int .i64 0))⟩,
    ⟨(some 6), none, .mov (.tmp 5)⟩,
    ⟨(some 7), (some (6, true)), .fieldAddr 0 (.tmp 1)⟩,
    ⟨(some 8), (some (6, true)), .load none (.tmp 7)⟩,
    ⟨(some 9), (some (6, true)), .ibin .leq (.tmp 8) (.const (.int .i64 1048576))⟩,
    ⟨(some 10), none, .pick (.tmp 6) (.tmp 9) (.const (.bool false))⟩,
    ⟨(some 11), none, .mov (.tmp 10)⟩,
    ⟨(some 12), (some (11, true)), .fieldAddr 1 (.tmp 1)⟩,
    ⟨(some 13), (some (11, true)), .load none (.tmp 12)⟩,
    ⟨(some 14), (some (11, true)), .ibin .geq (.tmp 13) (.const (.int .i64 1))⟩,
    ⟨(some 15), none, .pick (.tmp 11) (.tmp 14) (.const (.bool false))⟩,
    ⟨(some 16), none, .mov (.tmp 15)⟩,
    ⟨(some 17), (some (16, true)), .fieldAddr 1 (.tmp 1)⟩,
    ⟨(some 18), (some (16, true)), .load none (.tmp 17)⟩,
    ⟨(some 19), (some (16, true)), .ibin .leq (.tmp 18) (.const (.int .i64 1048576))⟩,
    ⟨(some 20), none, .pick (.tmp 16) (.tmp 19) (.const (.bool false))⟩,
    ⟨(some 21), none, .mov (.tmp 20)⟩,
    ⟨(some 22), (some (21, true)), .fieldAddr 2 (.tmp 1)⟩,
    ⟨(some 23), (some (21, true)), .load none (.tmp 22)⟩,
    ⟨(some 24), (some (21, true)), .ibin .geq (.tmp 23) (.const (.int .i64 0))⟩,
    ⟨(some 25), none, .pick (.tmp 21) (.tmp 24) (.const (.bool false))⟩,
    ⟨(some 26), none, .mov (.tmp 25)⟩,
    ⟨(some 27), (some (26, true)), .fieldAddr 2 (.tmp 1)⟩,
    ⟨(some 28), (some (26, true)), .load none (.tmp 27)⟩,
    ⟨(some 29), (some (26, true)), .ibin .leq (.tmp 28) (.const (.int .i64 1048576))⟩,
    ⟨(some 30), none, .pick (.tmp 26) (.tmp 29) (.const (.bool false))⟩,
    ⟨(some 31), none, .mov (.tmp 30)⟩,
    ⟨(some 32), (some (31, true)), .fieldAddr 3 (.tmp 1)⟩,
    ⟨(some 33), (some (31, true)), .load none (.tmp 32)⟩,
    ⟨(some 34), (some (31, true)), .ibin .geq (.tmp 33) (.const (.int .i64 0))⟩,
    ⟨(some 35), none, .pick (.tmp 31) (.tmp 34) (.const (.bool false))⟩,
    ⟨(some 36), none, .mov (.tmp 35)⟩,
    ⟨(some 37), (some (36, true)), .fieldAddr 3 (.tmp 1)⟩,
    ⟨(some 38), (some (36, true)), .load none (.tmp 37)⟩,
    ⟨(some 39), (some (36, true)), .fieldAddr 2 (.tmp 1)⟩,
    ⟨(some 40), (some (36, true)), .load none (.tmp 39)⟩,
    ⟨(some 41), (some (36, true)), .fieldAddr 1 (.tmp 1)⟩,
    ⟨(some 42), (some (36, true)), .load none (.tmp 41)⟩,
    ⟨(some 43), (some (36, true)), .ibin .mul (.tmp 40) (.tmp 42)⟩,
    ⟨(some 44), (some (36, true)), .ibin .leq (.tmp 38) (.tmp 43)⟩,
    ⟨(some 45), none, .pick (.tmp 36) (.tmp 44) (.const (.bool false))⟩,
    ⟨(some 46), none, .mov (.tmp 45)⟩,
    ⟨(some 47), (some (46, true)), .fieldAddr 4 (.tmp 1)⟩,
    ⟨(some 48), (some (46, true)), .load none (.tmp 47)⟩,
    ⟨(some 49), (some (46, true)), .ibin .geq (.tmp 48) (.const (.int .i64 0))⟩,
    ⟨(some 50), none, .pick (.tmp 46) (.tmp 49) (.const (.bool false))⟩,
    ⟨(some 51), none, .mov (.tmp 50)⟩,
    ⟨(some 52), (some (51, true)), .fieldAddr 4 (.tmp 1)⟩,
    ⟨(some 53), (some (51, true)), .load none (.tmp 52)⟩,
    ⟨(some 54), (some (51, true)), .ibin .leq (.tmp 53) (.const (.int .i64 1099511627776))⟩,
    ⟨(some 55), none, .pick (.tmp 51) (.tmp 54) (.const (.bool false))⟩,
    ⟨(some 2), none, .mov (.tmp 55)⟩]

def f52b : ACode := (.seq (.ops f52r0)
  (.keep [1] (.seq (.ops f52r1)
  (.keep [2] .ret))))

def f52 : AFn := ⟨56, [.tmp 2], f52b⟩

theorem f52_ok : compFn Tryz.prog 52 = some f52.strip := by kernel_rfl

/- function 53: weirhouse/pace.do$1; parameters 1; operations that are not compiled: 0 -/
def f53r0 : List AInstr := [
    ⟨(some 3), none, .alloc [.slice none 0 0, .int .i64 0, .int .i64 0, .int .i64 0, .int .i64 0, .int .i64 0, .int .i64 0, .int .i64 0, .int .i64 0, .int .i64 0]⟩,
    ⟨(some 4), none, .alloc [.int .i64 0, .slice none 0 0]⟩]

def f53r1 : List AInstr := [
    ⟨(some 5), none, .load (some 10) (.tmp 1)⟩,
    ⟨(some 6), none, .mov (.tmp 0)⟩,
    ⟨(some 7), none, .build [.int .i64 0, .slice none 0 0] [(0, 1, (.tmp 6))]⟩,
    ⟨none, none, .store 10 (.tmp 3) (.tmp 5)⟩,
    ⟨none, none, .store 2 (.tmp 4) (.tmp 7)⟩]

def f53b : ACode := (.seq (.ops f53r0)
  (.keep [0, 1, 3, 4] (.seq (.ops f53r1)
  (.keep [3, 4] .ret))))

def f53 : AFn := ⟨8, [.cell 3 (some 10), .cell 4 (some 2)], f53b⟩

theorem f53_ok : compFn Tryz.prog 53 = some f53.strip := by kernel_rfl

/- function 54: weirhouse/ring.Step; parameters 2; operations that are not compiled: 0 -/
def f54r0 : List AInstr := [
    ⟨(some 2), none, .box (.tmp 0)⟩,
    ⟨(some 3), none, .box (.tmp 1)⟩,
    ⟨(some 4), none, .alloc [.slice none 0 0, .int .i64 0, .int .i64 0, .int .i64 0]⟩,
    ⟨(some 5), none, .mov (.const (.int .i64 0))⟩,
    ⟨(some 6), none, .mov (.const (.int .i64 0))⟩]

def f54r1 : List AInstr := [
    ⟨(some 7), none, .mov (.const (.func (.func 62) #[] #[]))⟩]

def f54r2 : List AInstr := [
    ⟨(some 9), none, .load (some 4) (.tmp 2)⟩,
    ⟨(some 10), none, .callF 63 [.tmp 9]⟩,
    ⟨(some 11), none, .un .not (.tmp 10)⟩]

def f54r3 : List AInstr := [
    ⟨(some 12), none, .mov (.tmp 7)⟩,
    ⟨(some 13), none, .callV (.tmp 12) [.const (.int .i64 1)]⟩,
    ⟨(some 14), none, .extract 0 (.tmp 13)⟩,
    ⟨(some 15), none, .extract 1 (.tmp 13)⟩,
    ⟨(some 16), none, .extract 2 (.tmp 13)⟩,
    ⟨none, none, .store 4 (.tmp 4) (.tmp 14)⟩,
    ⟨(some 5), none, .mov (.tmp 15)⟩,
    ⟨(some 6), none, .mov (.tmp 16)⟩]

def f54r4 : List AInstr := [
    ⟨(some 17), none, .fieldAddr 0 (.tmp 2)⟩,
    ⟨(some 18), none, .load none (.tmp 17)⟩,
    ⟨(some 19), none, .callF 45 [.tmp 18]⟩,
    ⟨(some 20), none, .fieldAddr 0 (.tmp 2)⟩,
    ⟨none, none, .store 1 (.tmp 20) (.tmp 19)⟩]

def f54r5 : List AInstr := [
    ⟨(some 21), none, .fieldAddr 0 (.tmp 3)⟩,
    ⟨(some 22), none, .load none (.tmp 21)⟩]

def f54r6 : List AInstr := [
    ⟨(some 24), none, .ibin .eql (.tmp 22) (.const (.int .i64 1))⟩,
    ⟨(some 23), none, .mov (.tmp 24)⟩]

def f54r7 : List AInstr := [
    ⟨(some 26), none, .fieldAddr 1 (.tmp 3)⟩,
    ⟨(some 27), none, .load none (.tmp 26)⟩,
    ⟨(some 28), none, .ibin .lss (.tmp 27) (.const (.int .i64 1))⟩,
    ⟨(some 29), none, .mov (.tmp 28)⟩,
    ⟨(some 30), (some (29, false)), .fieldAddr 1 (.tmp 3)⟩,
    ⟨(some 31), (some (29, false)), .load none (.tmp 30)⟩,
    ⟨(some 32), (some (29, false)), .ibin .gtr (.tmp 31) (.const (.int .i64 1500))⟩,
    ⟨(some 33), none, .pick (.tmp 29) (.const (.bool true)) (.tmp 32)⟩,
    ⟨(some 25), none, .mov (.tmp 33)⟩]

def f54r8 : List AInstr := [
    ⟨(some 34), none, .mov (.tmp 7)⟩,
    ⟨(some 35), none, .callV (.tmp 34) [.const (.int .i64 2)]⟩,
    ⟨(some 36), none, .extract 0 (.tmp 35)⟩,
    ⟨(some 37), none, .extract 1 (.tmp 35)⟩,
    ⟨(some 38), none, .extract 2 (.tmp 35)⟩,
    ⟨none, none, .store 4 (.tmp 4) (.tmp 36)⟩,
    ⟨(some 5), none, .mov (.tmp 37)⟩,
    ⟨(some 6), none, .mov (.tmp 38)⟩]

def f54r9 : List AInstr := [
    ⟨(some 40), none, .fieldAddr 0 (.tmp 2)⟩,
    ⟨(some 41), none, .load none (.tmp 40)⟩,
    ⟨(some 42), none, .len (.tmp 41)⟩,
    ⟨(some 43), none, .fieldAddr 1 (.tmp 2)⟩,
    ⟨(some 44), none, .load none (.tmp 43)⟩,
    ⟨(some 45), none, .ibin .lss (.tmp 42) (.tmp 44)⟩,
    ⟨(some 46), none, .mov (.tmp 45)⟩,
    ⟨(some 47), (some (46, true)), .fieldAddr 0 (.tmp 2)⟩,
    ⟨(some 48), (some (46, true)), .load none (.tmp 47)⟩,
    ⟨(some 50), (some (46, true)), .fieldAddr 1 (.tmp 3)⟩,
    ⟨(some 51), (some (46, true)), .load none (.tmp 50)⟩,
    ⟨(some 53), (some (46, true)), .fieldAddr 2 (.tmp 2)⟩,
    ⟨(some 54), (some (46, true)), .load none (.tmp 53)⟩,
    ⟨(some 49), (some (46, true)), .callF 64 [.tmp 48]⟩,
    ⟨(some 52), (some (46, true)), .ibin .add (.tmp 49) (.tmp 51)⟩,
    ⟨(some 55), (some (46, true)), .ibin .leq (.tmp 52) (.tmp 54)⟩,
    ⟨(some 56), none, .pick (.tmp 46) (.tmp 55) (.const (.bool false))⟩,
    ⟨(some 39), none, .mov (.tmp 56)⟩]

def f54r10 : List AInstr := [
    ⟨(some 57), none, .fieldAddr 0 (.tmp 2)⟩,
    ⟨(some 58), none, .load none (.tmp 57)⟩,
    ⟨(some 59), none, .fieldAddr 1 (.tmp 3)⟩,
    ⟨(some 60), none, .load none (.tmp 59)⟩,
    ⟨(some 61), none, .buildSlice 1 1 [.int .i64 0] [(0, 1, (.tmp 60))]⟩,
    ⟨(some 62), none, .append 1 8 (.tmp 58) (.tmp 61)⟩,
    ⟨(some 63), none, .fieldAddr 0 (.tmp 2)⟩,
    ⟨none, none, .store 1 (.tmp 63) (.tmp 62)⟩]

def f54r11 : List AInstr := [
    ⟨(some 64), none, .load (some 4) (.tmp 2)⟩,
    ⟨none, none, .store 4 (.tmp 4) (.tmp 64)⟩,
    ⟨(some 5), none, .mov (.const (.int .i64 1))⟩,
    ⟨(some 6), none, .mov (.const (.int .i64 0))⟩]

def f54r12 : List AInstr := [
    ⟨(some 66), none, .fieldAddr 3 (.tmp 2)⟩,
    ⟨(some 67), none, .load none (.tmp 66)⟩,
    ⟨(some 68), none, .ibin .eql (.tmp 67) (.const (.int .i64 1099511627776))⟩,
    ⟨(some 65), none, .mov (.tmp 68)⟩]

def f54r13 : List AInstr := [
    ⟨(some 69), none, .mov (.tmp 7)⟩,
    ⟨(some 70), none, .callV (.tmp 69) [.const (.int .i64 4)]⟩,
    ⟨(some 71), none, .extract 0 (.tmp 70)⟩,
    ⟨(some 72), none, .extract 1 (.tmp 70)⟩,
    ⟨(some 73), none, .extract 2 (.tmp 70)⟩,
    ⟨none, none, .store 4 (.tmp 4) (.tmp 71)⟩,
    ⟨(some 5), none, .mov (.tmp 72)⟩,
    ⟨(some 6), none, .mov (.tmp 73)⟩]

def f54r14 : List AInstr := [
    ⟨(some 74), none, .fieldAddr 3 (.tmp 2)⟩,
    ⟨(some 75), none, .load none (.tmp 74)⟩,
    ⟨(some 76), none, .ibin .add (.tmp 75) (.const (.int .i64 1))⟩,
    ⟨(some 77), none, .fieldAddr 3 (.tmp 2)⟩,
    ⟨none, none, .store 1 (.tmp 77) (.tmp 76)⟩]

def f54r15 : List AInstr := [
    ⟨(some 78), none, .load (some 4) (.tmp 2)⟩,
    ⟨none, none, .store 4 (.tmp 4) (.tmp 78)⟩,
    ⟨(some 5), none, .mov (.const (.int .i64 0))⟩,
    ⟨(some 6), none, .mov (.const (.int .i64 0))⟩]

def f54r16 : List AInstr := [
    ⟨(some 80), none, .ibin .eql (.tmp 22) (.const (.int .i64 2))⟩,
    ⟨(some 79), none, .mov (.tmp 80)⟩]

def f54r17 : List AInstr := [
    ⟨(some 81), none, .fieldAddr 0 (.tmp 2)⟩,
    ⟨(some 82), none, .load none (.tmp 81)⟩,
    ⟨(some 83), none, .len (.tmp 82)⟩,
    ⟨(some 84), none, .ibin .eql (.tmp 83) (.const (.int .i64 0))⟩]

def f54r18 : List AInstr := [
    ⟨(some 85), none, .mov (.tmp 7)⟩,
    ⟨(some 86), none, .callV (.tmp 85) [.const (.int .i64 3)]⟩,
    ⟨(some 87), none, .extract 0 (.tmp 86)⟩,
    ⟨(some 88), none, .extract 1 (.tmp 86)⟩,
    ⟨(some 89), none, .extract 2 (.tmp 86)⟩,
    ⟨none, none, .store 4 (.tmp 4) (.tmp 87)⟩,
    ⟨(some 5), none, .mov (.tmp 88)⟩,
    ⟨(some 6), none, .mov (.tmp 89)⟩]

def f54r19 : List AInstr := [
    ⟨(some 90), none, .fieldAddr 0 (.tmp 2)⟩,
    ⟨(some 91), none, .load none (.tmp 90)⟩,
    ⟨(some 92), none, .indexAddr 1 (.tmp 91) (.const (.int .i64 0))⟩,
    ⟨(some 93), none, .load none (.tmp 92)⟩,
    ⟨(some 8), none, .mov (.tmp 93)⟩]

def f54r20 : List AInstr := [
    ⟨(some 94), none, .fieldAddr 0 (.tmp 2)⟩,
    ⟨(some 95), none, .load none (.tmp 94)⟩,
    ⟨(some 96), none, .slice 1 (.tmp 95) (some (.const (.int .i64 1))) none none⟩,
    ⟨(some 97), none, .callF 45 [.tmp 96]⟩,
    ⟨(some 98), none, .fieldAddr 0 (.tmp 2)⟩,
    ⟨none, none, .store 1 (.tmp 98) (.tmp 97)⟩]

def f54r21 : List AInstr := [
    ⟨(some 99), none, .load (some 4) (.tmp 2)⟩,
    ⟨(some 100), none, .mov (.tmp 8)⟩,
    ⟨none, none, .store 4 (.tmp 4) (.tmp 99)⟩,
    ⟨(some 5), none, .mov (.tmp 100)⟩,
    ⟨(some 6), none, .mov (.const (.int .i64 0))⟩]

def f54r22 : List AInstr := [
    ⟨(some 101), none, .mov (.tmp 7)⟩,
    ⟨(some 102), none, .callV (.tmp 101) [.const (.int .i64 5)]⟩,
    ⟨(some 103), none, .extract 0 (.tmp 102)⟩,
    ⟨(some 104), none, .extract 1 (.tmp 102)⟩,
    ⟨(some 105), none, .extract 2 (.tmp 102)⟩,
    ⟨none, none, .store 4 (.tmp 4) (.tmp 103)⟩,
    ⟨(some 5), none, .mov (.tmp 104)⟩,
    ⟨(some 6), none, .mov (.tmp 105)⟩]

def f54b : ACode := (.seq (.ops f54r0)
  (.keep [2, 3, 4] (.seq (.ops f54r1)
  (.keep [2, 3, 4, 7] (.seq (.seq (.ops f54r2)
  (.keep [2, 3, 4, 7, 11] (.cond (.tmp 11) (.keep [4, 7] (.seq (.ops f54r3)
  (.keep [4, 5, 6] .ret))) .skip)))
  (.keep [2, 3, 4, 7] (.seq (.ops f54r4)
  (.keep [2, 3, 4, 7] (.seq (.seq (.ops f54r5)
  (.keep [2, 3, 4, 7, 22] (.block 0 (.seq (.ops f54r6)
  (.keep [2, 3, 4, 7, 22, 23] (.cond (.tmp 23) (.keep [2, 3, 4, 7] (.seq (.block 1 (.seq (.ops f54r7)
  (.keep [2, 3, 4, 7, 25] (.cond (.tmp 25) (.keep [4, 7] (.seq (.ops f54r8)
  (.keep [4, 5, 6] .ret))) (.keep [2, 3, 4, 7] (.seq (.alt [(f54r9, [(0, 0, false), (0, 0, false), (0, 0, false), (0, 0, false), (0, 0, false), (0, 0, false), (0, 0, false), (0, 0, false), (0, 0, false), (0, 1, false), (0, 1, false), (0, 1, false), (0, 1, false), (0, 0, true), (1, 1, false), (1, 1, false), (1, 1, false), (1, 1, false)])])
  (.keep [2, 3, 4, 7, 39] (.cond (.tmp 39) (.keep [2, 3, 4] (.seq (.ops f54r10)
  (.keep [2, 4] (.seq (.ops f54r11)
  (.keep [4, 5, 6] .ret))))) (.keep [2, 4, 7] (.seq (.ops f54r12)
  (.keep [2, 4, 7, 65] (.cond (.tmp 65) (.keep [4, 7] (.seq (.ops f54r13)
  (.keep [4, 5, 6] .ret))) .skip))))))))))))
  (.keep [2, 4] (.seq (.ops f54r14)
  (.keep [2, 4] (.seq (.ops f54r15)
  (.keep [4, 5, 6] .ret))))))) (.keep [2, 4, 7, 22] (.seq (.ops f54r16)
  (.keep [2, 4, 7, 79] (.cond (.tmp 79) (.keep [2, 4, 7] (.seq (.seq (.ops f54r17)
  (.keep [2, 4, 7, 84] (.cond (.tmp 84) (.keep [4, 7] (.seq (.ops f54r18)
  (.keep [4, 5, 6] .ret))) .skip)))
  (.keep [2, 4] (.seq (.ops f54r19)
  (.keep [2, 4, 8] (.seq (.ops f54r20)
  (.keep [2, 4, 8] (.seq (.ops f54r21)
  (.keep [4, 5, 6] .ret))))))))) .skip))))))))))
  (.keep [4, 7] (.seq (.ops f54r22)
  (.keep [4, 5, 6] .ret))))))))))))

def f54 : AFn := ⟨106, [.cell 4 (some 4), .tmp 5, .tmp 6], f54b⟩

theorem f54_ok : compFn Tryz.prog 54 = some f54.strip := by kernel_rfl

/- function 55: weirhouse/bucket.Fill; parameters 2; operations that are not compiled: 0 -/
def f55r0 : List AInstr := [
    ⟨(some 2), none, .box (.tmp 0)⟩,
    ⟨(some 4), none, .alloc [.int .i64 0, .int .i64 0, .int .i64 0, .int .i64 0, .int .i64 0]⟩,
    ⟨(some 5), none, .mov (.const (.int .i64 0))⟩]

def f55r1 : List AInstr := [
    ⟨(some 9), none, .load (some 5) (.tmp 2)⟩,
    ⟨(some 10), none, .callF 52 [.tmp 9]⟩,
    ⟨(some 11), none, .un .not (.tmp 10)⟩,
    ⟨(some 8), none, .mov (.tmp 11)⟩]

def f55r2 : List AInstr := [
    ⟨(some 12), none, .build [.int .i64 0, .int .i64 0, .int .i64 0, .int .i64 0, .int .i64 0] []⟩,
    ⟨none, none, .store 5 (.tmp 4) (.tmp 12)⟩,
    ⟨(some 5), none, .mov (.const (.int .i64 1))⟩]

def f55r3 : List AInstr := [
    ⟨(some 14), none, .mov (.tmp 1)⟩,
    ⟨(some 15), none, .fieldAddr 4 (.tmp 2)⟩,
    ⟨(some 16), none, .load none (.tmp 15)⟩,
    ⟨(some 17), none, .ibin .lss (.tmp 14) (.tmp 16)⟩,
    ⟨(some 18), none, .mov (.tmp 17)⟩,
    ⟨(some 19), (some (18, false)), .mov (.tmp 1)⟩,
    ⟨(some 20), (some (18, false)), .ibin .gtr (.tmp 19) (.const (.int .i64 1099511627776))⟩,
    ⟨(some 21), none, .pick (.tmp 18) (.const (.bool true)) (.tmp 20)⟩,
    ⟨(some 13), none, .mov (.tmp 21)⟩]

def f55r4 : List AInstr := [
    ⟨(some 22), none, .build [.int .i64 0, .int .i64 0, .int .i64 0, .int .i64 0, .int .i64 0] []⟩,
    ⟨none, none, .store 5 (.tmp 4) (.tmp 22)⟩,
    ⟨(some 5), none, .mov (.const (.int .i64 2))⟩]

def f55r5 : List AInstr := [
    ⟨(some 23), none, .fieldAddr 2 (.tmp 2)⟩,
    ⟨(some 24), none, .load none (.tmp 23)⟩,
    ⟨(some 25), none, .fieldAddr 1 (.tmp 2)⟩,
    ⟨(some 26), none, .load none (.tmp 25)⟩,
    ⟨(some 27), none, .ibin .mul (.tmp 24) (.tmp 26)⟩,
    ⟨(some 28), none, .fieldAddr 3 (.tmp 2)⟩,
    ⟨(some 29), none, .load none (.tmp 28)⟩,
    ⟨(some 30), none, .ibin .sub (.tmp 27) (.tmp 29)⟩,
    ⟨(some 6), none, .mov (.tmp 30)⟩]

def f55r6 : List AInstr := [
    ⟨(some 31), none, .mov (.tmp 1)⟩,
    ⟨(some 32), none, .fieldAddr 4 (.tmp 2)⟩,
    ⟨(some 33), none, .load none (.tmp 32)⟩,
    ⟨(some 34), none, .ibin .sub (.tmp 31) (.tmp 33)⟩,
    ⟨(some 7), none, .mov (.tmp 34)⟩]

def f55r7 : List AInstr := [
    ⟨(some 35), none, .fieldAddr 0 (.tmp 2)⟩,
    ⟨(some 36), none, .load none (.tmp 35)⟩,
    ⟨(some 37), none, .ibin .gtr (.tmp 36) (.const (.int .i64 0))⟩,
    ⟨(some 38), none, .mov (.tmp 37)⟩,
    ⟨(some 39), (some (38, true)), .mov (.tmp 7)⟩,
    ⟨(some 40), (some (38, true)), .mov (.tmp 6)⟩,
    ⟨(some 41), (some (38, true)), .fieldAddr 0 (.tmp 2)⟩,
    ⟨(some 42), (some (38, true)), .load none (.tmp 41)⟩,
    ⟨(some 43), (some (38, true)), .ibin .quo (.tmp 40) (.tmp 42)⟩,
    ⟨(some 44), (some (38, true)), .ibin .gtr (.tmp 39) (.tmp 43)⟩,
    ⟨(some 45), none, .pick (.tmp 38) (.tmp 44) (.const (.bool false))⟩]

def f55r8 : List AInstr := [
    ⟨(some 46), none, .fieldAddr 3 (.tmp 2)⟩,
    ⟨(some 47), none, .load none (.tmp 46)⟩,
    ⟨(some 48), none, .mov (.tmp 6)⟩,
    ⟨(some 49), none, .ibin .add (.tmp 47) (.tmp 48)⟩,
    ⟨(some 50), none, .fieldAddr 3 (.tmp 2)⟩,
    ⟨none, none, .store 1 (.tmp 50) (.tmp 49)⟩]

def f55r9 : List AInstr := [
    ⟨(some 51), none, .fieldAddr 3 (.tmp 2)⟩,
    ⟨(some 52), none, .load none (.tmp 51)⟩,
    ⟨(some 53), none, .mov (.tmp 7)⟩,
    ⟨(some 54), none, .fieldAddr 0 (.tmp 2)⟩,
    ⟨(some 55), none, .load none (.tmp 54)⟩,
    ⟨(some 56), none, .ibin .mul (.tmp 53) (.tmp 55)⟩,
    ⟨(some 57), none, .ibin .add (.tmp 52) (.tmp 56)⟩,
    ⟨(some 58), none, .fieldAddr 3 (.tmp 2)⟩,
    ⟨none, none, .store 1 (.tmp 58) (.tmp 57)⟩]

def f55r10 : List AInstr := [
    ⟨(some 59), none, .mov (.tmp 1)⟩,
    ⟨(some 60), none, .fieldAddr 4 (.tmp 2)⟩,
    ⟨none, none, .store 1 (.tmp 60) (.tmp 59)⟩]

def f55r11 : List AInstr := [
    ⟨(some 61), none, .load (some 5) (.tmp 2)⟩,
    ⟨none, none, .store 5 (.tmp 4) (.tmp 61)⟩,
    ⟨(some 5), none, .mov (.const (.int .i64 0))⟩]

def f55b : ACode := (.seq (.ops f55r0)
  (.keep [1, 2, 4] (.seq (.block 0 (.seq (.ops f55r1)
  (.keep [1, 2, 4, 8] (.cond (.tmp 8) (.keep [4] (.seq (.ops f55r2)
  (.keep [4, 5] .ret))) (.keep [1, 2, 4] (.seq (.ops f55r3)
  (.keep [1, 2, 4, 13] (.cond (.tmp 13) (.keep [4] (.seq (.ops f55r4)
  (.keep [4, 5] .ret))) .skip))))))))
  (.keep [1, 2, 4] (.seq (.ops f55r5)
  (.keep [1, 2, 4, 6] (.seq (.seq (.ops f55r6)
  (.keep [1, 2, 4, 6, 7] (.seq (.ops f55r7)
  (.keep [1, 2, 4, 6, 7, 45] (.cond (.tmp 45) (.keep [1, 2, 4, 6] (.ops f55r8)) (.keep [1, 2, 4, 7] (.ops f55r9)))))))
  (.keep [1, 2, 4] (.seq (.ops f55r10)
  (.keep [2, 4] (.seq (.ops f55r11)
  (.keep [4, 5] .ret))))))))))))

def f55 : AFn := ⟨62, [.cell 4 (some 5), .tmp 5], f55b⟩

theorem f55_ok : compFn Tryz.prog 55 = some f55.strip := by kernel_rfl

/- function 56: weirhouse/pace.poll; parameters 2; operations that are not compiled: 0 -/
def f56r0 : List AInstr := [
    ⟨(some 2), none, .box (.tmp 0)⟩,
    ⟨(some 4), none, .alloc [.slice none 0 0, .int .i64 0, .int .i64 0, .int .i64 0, .int .i64 0, .int .i64 0, .int .i64 0, .int .i64 0, .int .i64 0, .int .i64 0]⟩,
    ⟨(some 5), none, .mov (.const (.slice none 0 0))⟩]

def f56r1 : List AInstr := [
    ⟨(some 6), none, .mov (.const (.slice none 0 0))⟩]

def f56r2 : List AInstr := [
    ⟨(some 13), none, .fieldAddr 0 (.tmp 2)⟩,
    ⟨(some 14), none, .fieldAddr 0 (.tmp 13)⟩,
    ⟨(some 15), none, .load none (.tmp 14)⟩,
    ⟨(some 16), none, .len (.tmp 15)⟩,
    ⟨(some 17), none, .ibin .gtr (.tmp 16) (.const (.int .i64 0))⟩]

def f56r3 : List AInstr := [
    ⟨(some 18), none, .fieldAddr 0 (.tmp 2)⟩,
    ⟨(some 19), none, .fieldAddr 0 (.tmp 18)⟩,
    ⟨(some 20), none, .load none (.tmp 19)⟩,
    ⟨(some 21), none, .indexAddr 1 (.tmp 20) (.const (.int .i64 0))⟩,
    ⟨(some 22), none, .load none (.tmp 21)⟩,
    ⟨(some 7), none, .mov (.tmp 22)⟩]

def f56r4 : List AInstr := [
    ⟨(some 23), none, .mov (.tmp 7)⟩,
    ⟨(some 24), none, .mov (.tmp 1)⟩,
    ⟨(some 25), none, .ibin .gtr (.tmp 23) (.tmp 24)⟩]

def f56r5 : List AInstr := [
    ⟨(some 27), none, .fieldAddr 4 (.tmp 2)⟩,
    ⟨(some 28), none, .load (some 5) (.tmp 27)⟩,
    ⟨(some 29), none, .fieldAddr 4 (.tmp 2)⟩,
    ⟨(some 30), none, .fieldAddr 4 (.tmp 29)⟩,
    ⟨(some 31), none, .load none (.tmp 30)⟩,
    ⟨(some 32), none, .mov (.tmp 7)⟩,
    ⟨(some 33), none, .build [.int .i64 0, .int .i64 0] [(0, 1, (.tmp 31)), (1, 1, (.tmp 32))]⟩,
    ⟨(some 34), none, .callF 65 [.tmp 28, .tmp 33]⟩,
    ⟨(some 26), none, .mov (.tmp 34)⟩,
    ⟨(some 35), none, .extract 0 (.tmp 26)⟩,
    ⟨(some 36), none, .extract 1 (.tmp 26)⟩,
    ⟨(some 37), none, .extract 2 (.tmp 26)⟩,
    ⟨(some 8), none, .alloc [.int .i64 0, .int .i64 0, .int .i64 0, .int .i64 0, .int .i64 0]⟩,
    ⟨none, none, .store 5 (.tmp 8) (.tmp 35)⟩,
    ⟨(some 9), none, .mov (.tmp 36)⟩,
    ⟨(some 10), none, .mov (.tmp 37)⟩]

def f56r6 : List AInstr := [
    ⟨(some 38), none, .mov (.tmp 10)⟩,
    ⟨(some 39), none, .ibin .neq (.tmp 38) (.const (.int .i64 0))⟩,
    ⟨(some 40), none, .mov (.tmp 39)⟩,
    ⟨(some 41), (some (40, false)), .mov (.tmp 9)⟩,
    ⟨(some 42), (some (40, false)), .un .not (.tmp 41)⟩,
    ⟨(some 43), none, .pick (.tmp 40) (.const (.bool true)) (.tmp 42)⟩]

def f56r7 : List AInstr := [
    ⟨(some 45), none, .fieldAddr 0 (.tmp 2)⟩,
    ⟨(some 46), none, .load (some 4) (.tmp 45)⟩,
    ⟨(some 47), none, .build [.int .i64 0, .int .i64 0] [(0, 1, (.const (.int .i64 2)))]⟩,
    ⟨(some 48), none, .callF 54 [.tmp 46, .tmp 47]⟩,
    ⟨(some 44), none, .mov (.tmp 48)⟩,
    ⟨(some 49), none, .extract 0 (.tmp 44)⟩,
    ⟨(some 50), none, .extract 1 (.tmp 44)⟩,
    ⟨(some 51), none, .extract 2 (.tmp 44)⟩,
    ⟨(some 11), none, .alloc [.slice none 0 0, .int .i64 0, .int .i64 0, .int .i64 0]⟩,
    ⟨none, none, .store 4 (.tmp 11) (.tmp 49)⟩,
    ⟨(some 12), none, .mov (.tmp 50)⟩,
    ⟨(some 10), none, .mov (.tmp 51)⟩]

def f56r8 : List AInstr := [
    ⟨(some 52), none, .mov (.tmp 10)⟩,
    ⟨(some 53), none, .ibin .neq (.tmp 52) (.const (.int .i64 0))⟩]

def f56r9 : List AInstr := [
    ⟨(some 54), none, .load (some 4) (.tmp 11)⟩,
    ⟨(some 55), none, .load (some 5) (.tmp 8)⟩,
    ⟨(some 56), none, .fieldAddr 0 (.tmp 2)⟩,
    ⟨none, none, .store 4 (.tmp 56) (.tmp 54)⟩,
    ⟨(some 57), none, .fieldAddr 4 (.tmp 2)⟩,
    ⟨none, none, .store 5 (.tmp 57) (.tmp 55)⟩]

def f56r10 : List AInstr := [
    ⟨(some 58), none, .mov (.tmp 1)⟩,
    ⟨(some 59), none, .mov (.tmp 7)⟩,
    ⟨(some 60), none, .ibin .sub (.tmp 58) (.tmp 59)⟩,
    ⟨(some 1), none, .mov (.tmp 60)⟩]

def f56r11 : List AInstr := [
    ⟨(some 61), none, .fieldAddr 9 (.tmp 2)⟩,
    ⟨(some 62), none, .load none (.tmp 61)⟩,
    ⟨(some 63), none, .mov (.tmp 7)⟩,
    ⟨(some 64), none, .ibin .add (.tmp 62) (.tmp 63)⟩,
    ⟨(some 65), none, .fieldAddr 9 (.tmp 2)⟩,
    ⟨none, none, .store 1 (.tmp 65) (.tmp 64)⟩]

def f56r12 : List AInstr := [
    ⟨(some 66), none, .mov (.tmp 6)⟩,
    ⟨(some 67), none, .mov (.tmp 7)⟩,
    ⟨(some 68), none, .buildSlice 1 1 [.int .i64 0] [(0, 1, (.tmp 67))]⟩,
    ⟨(some 69), none, .append 1 8 (.tmp 66) (.tmp 68)⟩,
    ⟨(some 6), none, .mov (.tmp 69)⟩]

/-- live: [1, 2, 4, 6] -/
def f56l0 : ACode := (.seq (.seq (.ops f56r2)
  (.keep [1, 2, 4, 6, 17] (.cond (.tmp 17) .skip (.exit 0))))
  (.keep [1, 2, 4, 6] (.block 1 (.seq (.ops f56r3)
  (.keep [1, 2, 4, 6, 7] (.seq (.seq (.ops f56r4)
  (.keep [1, 2, 4, 6, 7, 25] (.cond (.tmp 25) (.exit 0) .skip)))
  (.keep [1, 2, 4, 6, 7] (.seq (.ops f56r5)
  (.keep [1, 2, 4, 6, 7, 8, 9, 10] (.seq (.seq (.ops f56r6)
  (.keep [1, 2, 4, 6, 7, 8, 43] (.cond (.tmp 43) (.exit 0) .skip)))
  (.keep [1, 2, 4, 6, 7, 8] (.seq (.ops f56r7)
  (.keep [1, 2, 4, 6, 7, 8, 10, 11] (.seq (.seq (.ops f56r8)
  (.keep [1, 2, 4, 6, 7, 8, 11, 53] (.cond (.tmp 53) (.exit 0) .skip)))
  (.keep [1, 2, 4, 6, 7, 8, 11] (.seq (.draw f56r9 [(0, 0, false), (0, 1, false), (0, 0, false), (0, 0, true), (1, 1, false), (1, 0, true)])
  (.keep [1, 2, 4, 6, 7] (.seq (.ops f56r10)
  (.keep [1, 2, 4, 6, 7] (.seq (.ops f56r11)
  (.keep [1, 2, 4, 6, 7] (.ops f56r12))))))))))))))))))))))

def f56r14 : List AInstr := [
    ⟨(some 70), none, .load (some 10) (.tmp 2)⟩,
    ⟨(some 71), none, .mov (.tmp 6)⟩,
    ⟨none, none, .store 10 (.tmp 4) (.tmp 70)⟩,
    ⟨(some 5), none, .mov (.tmp 71)⟩]

def f56b : ACode := (.seq (.ops f56r0)
  (.keep [1, 2, 4] (.seq (.ops f56r1)
  (.keep [1, 2, 4, 6] (.seq (.block 0 (.loop f56l0))
  (.keep [2, 4, 6] (.seq (.ops f56r14)
  (.keep [4, 5] .ret))))))))

def f56 : AFn := ⟨72, [.cell 4 (some 10), .tmp 5], f56b⟩

theorem f56_ok : compFn Tryz.prog 56 = some f56.strip := by kernel_rfl

/- function 58: slices.swapRangeCmpFunc[weirhouse/api.Prefix]; parameters 5; operations that are not compiled: 0 -/
def f58r0 : List AInstr := [
    ⟨(some 10), none, .mov (.const (.int .i64 0))⟩]

def f58r1 : List AInstr := [
    ⟨(some 11), none, .mov (.tmp 10)⟩,
    ⟨(some 12), none, .mov (.tmp 3)⟩,
    ⟨(some 13), none, .ibin .lss (.tmp 11) (.tmp 12)⟩]

def f58r2 : List AInstr := [
    ⟨(some 16), none, .mov (.tmp 0)⟩,
    ⟨(some 17), none, .mov (.tmp 1)⟩,
    ⟨(some 18), none, .mov (.tmp 10)⟩,
    ⟨(some 19), none, .ibin .add (.tmp 17) (.tmp 18)⟩,
    ⟨(some 20), none, .mov (.tmp 0)⟩,
    ⟨(some 21), none, .mov (.tmp 2)⟩,
    ⟨(some 22), none, .mov (.tmp 10)⟩,
    ⟨(some 23), none, .ibin .add (.tmp 21) (.tmp 22)⟩,
    ⟨(some 24), none, .mov (.tmp 0)⟩,
    ⟨(some 25), none, .mov (.tmp 2)⟩,
    ⟨(some 26), none, .mov (.tmp 10)⟩,
    ⟨(some 27), none, .ibin .add (.tmp 25) (.tmp 26)⟩,
    ⟨(some 28), none, .indexAddr 6 (.tmp 24) (.tmp 27)⟩,
    ⟨(some 29), none, .load (some 6) (.tmp 28)⟩,
    ⟨(some 30), none, .mov (.tmp 0)⟩,
    ⟨(some 31), none, .mov (.tmp 1)⟩,
    ⟨(some 32), none, .mov (.tmp 10)⟩,
    ⟨(some 33), none, .ibin .add (.tmp 31) (.tmp 32)⟩,
    ⟨(some 34), none, .indexAddr 6 (.tmp 30) (.tmp 33)⟩,
    ⟨(some 35), none, .load (some 6) (.tmp 34)⟩,
    ⟨(some 36), none, .indexAddr 6 (.tmp 16) (.tmp 19)⟩,
    ⟨none, none, .store 6 (.tmp 36) (.tmp 29)⟩,
    ⟨(some 37), none, .indexAddr 6 (.tmp 20) (.tmp 23)⟩,
    ⟨none, none, .store 6 (.tmp 37) (.tmp 35)⟩]

def f58r3 : List AInstr := [
    ⟨(some 14), none, .mov (.tmp 10)⟩,
    ⟨(some 15), none, .ibin .add (.tmp 14) (.const (.int .i64 1))⟩,
    ⟨(some 10), none, .mov (.tmp 15)⟩]

/-- live: [0, 1, 2, 3, 10] -/
def f58l0 : ACode := (.seq (.seq (.ops f58r1)
  (.keep [0, 1, 2, 3, 10, 13] (.cond (.tmp 13) .skip (.exit 0))))
  (.keep [0, 1, 2, 3, 10] (.seq (.block 1 (.draw f58r2 [(0, 0, false), (0, 0, false), (0, 0, false), (0, 0, false), (0, 1, false), (0, 1, false), (0, 1, false), (0, 1, false), (0, 0, false), (0, 0, false), (0, 0, false), (0, 0, false), (0, 0, false), (0, 0, false), (0, 0, false), (0, 0, false), (0, 0, false), (0, 0, false), (0, 0, false), (0, 0, false), (0, 0, false), (0, 0, true), (1, 1, false), (1, 0, true)]))
  (.keep [0, 1, 2, 3, 10] (.ops f58r3)))))

def f58b : ACode := (.seq (.ops f58r0)
  (.keep [0, 1, 2, 3, 10] (.block 0 (.loop f58l0))))

def f58 : AFn := ⟨38, [], f58b⟩

theorem f58_ok : compFn Tryz.prog 58 = some f58.strip := by kernel_rfl

/- function 62: weirhouse/ring.Step$1; parameters 1; operations that are not compiled: 0 -/
def f62r0 : List AInstr := [
    ⟨(some 2), none, .alloc [.slice none 0 0, .int .i64 0, .int .i64 0, .int .i64 0]⟩,
    ⟨(some 3), none, .mov (.const (.int .i64 0))⟩,
    ⟨(some 4), none, .mov (.const (.int .i64 0))⟩]

def f62r1 : List AInstr := [
    ⟨(some 5), none, .build [.slice none 0 0, .int .i64 0, .int .i64 0, .int .i64 0] []⟩,
    ⟨(some 6), none, .mov (.tmp 0)⟩,
    ⟨none, none, .store 4 (.tmp 2) (.tmp 5)⟩,
    ⟨(some 3), none, .mov (.const (.int .i64 0))⟩,
    ⟨(some 4), none, .mov (.tmp 6)⟩]

def f62b : ACode := (.seq (.ops f62r0)
  (.keep [0, 2] (.seq (.ops f62r1)
  (.keep [2, 3, 4] .ret))))

def f62 : AFn := ⟨7, [.cell 2 (some 4), .tmp 3, .tmp 4], f62b⟩

theorem f62_ok : compFn Tryz.prog 62 = some f62.strip := by kernel_rfl

/- function 63: weirhouse/ring.Right; parameters 1; operations that are not compiled: 0 -/
def f63r0 : List AInstr := [
    ⟨(some 1), none, .box (.tmp 0)⟩,
    ⟨(some 2), none, .mov (.const (.bool false))⟩]

def f63r1 : List AInstr := [
    ⟨(some 5), none, .fieldAddr 1 (.tmp 1)⟩,
    ⟨(some 6), none, .load none (.tmp 5)⟩,
    ⟨(some 7), none, .ibin .lss (.tmp 6) (.const (.int .i64 0))⟩,
    ⟨(some 8), none, .mov (.tmp 7)⟩,
    ⟨(some 9), (some (8, false)), .fieldAddr 1 (.tmp 1)⟩,
    ⟨(some 10), (some (8, false)), .load none (.tmp 9)⟩,
    ⟨(some 11), (some (8, false)), .ibin .gtr (.tmp 10) (.const (.int .i64 400))⟩,
    ⟨(some 12), none, .pick (.tmp 8) (.const (.bool true)) (.tmp 11)⟩,
    ⟨(some 13), none, .mov (.tmp 12)⟩,
    ⟨(some 14), (some (13, false)), .fieldAddr 2 (.tmp 1)⟩,
    ⟨(some 15), (some (13, false)), .load none (.tmp 14)⟩,
    ⟨(some 16), (some (13, false)), .ibin .lss (.tmp 15) (.const (.int .i64 0))⟩,
    ⟨(some 17), none, .pick (.tmp 13) (.const (.bool true)) (.tmp 16)⟩,
    ⟨(some 18), none, .mov (.tmp 17)⟩,
    ⟨(some 19), (some (18, false)), .fieldAddr 2 (.tmp 1)⟩,
    ⟨(some 20), (some (18, false)), .load none (.tmp 19)⟩,
    ⟨(some 21), (some (18, false)), .ibin .gtr (.tmp 20) (.const (.int .i64 1073741824))⟩,
    ⟨(some 22), none, .pick (.tmp 18) (.const (.bool true)) (.tmp 21)⟩,
    ⟨(some 23), none, .mov (.tmp 22)⟩,
    ⟨(some 24), (some (23, false)), .fieldAddr 3 (.tmp 1)⟩,
    ⟨(some 25), (some (23, false)), .load none (.tmp 24)⟩,
    ⟨(some 26), (some (23, false)), .ibin .lss (.tmp 25) (.const (.int .i64 0))⟩,
    ⟨(some 27), none, .pick (.tmp 23) (.const (.bool true)) (.tmp 26)⟩,
    ⟨(some 28), none, .mov (.tmp 27)⟩,
    ⟨(some 29), (some (28, false)), .fieldAddr 3 (.tmp 1)⟩,
    ⟨(some 30), (some (28, false)), .load none (.tmp 29)⟩,
    ⟨(some 31), (some (28, false)), .ibin .gtr (.tmp 30) (.const (.int .i64 1099511627776))⟩,
    ⟨(some 32), none, .pick (.tmp 28) (.const (.bool true)) (.tmp 31)⟩,
    ⟨(some 33), none, .mov (.tmp 32)⟩,
    ⟨(some 34), (some (33, false)), .fieldAddr 0 (.tmp 1)⟩,
    ⟨(some 35), (some (33, false)), .load none (.tmp 34)⟩,
    ⟨(some 36), (some (33, false)), .len (.tmp 35)⟩,
    ⟨(some 37), (some (33, false)), .fieldAddr 1 (.tmp 1)⟩,
    ⟨(some 38), (some (33, false)), .load none (.tmp 37)⟩,
    ⟨(some 39), (some (33, false)), .ibin .gtr (.tmp 36) (.tmp 38)⟩,
    ⟨(some 40), none, .pick (.tmp 33) (.const (.bool true)) (.tmp 39)⟩]

def f63r2 : List AInstr := [
    ⟨(some 2), none, .mov (.const (.bool false))⟩]

def f63r3 : List AInstr := [
    ⟨(some 41), none, .fieldAddr 0 (.tmp 1)⟩,
    ⟨(some 42), none, .load none (.tmp 41)⟩,
    ⟨(some 43), none, .len (.tmp 42)⟩,
    ⟨(some 44), none, .mov (.const (.int .i64 0))⟩]

def f63r4 : List AInstr := [
    ⟨(some 45), none, .ibin .lss (.tmp 44) (.tmp 43)⟩]

def f63r5 : List AInstr := [
    ⟨(some 46), none, .indexAddr 1 (.tmp 42) (.tmp 44)⟩,
    ⟨(some 47), none, .load none (.tmp 46)⟩,
    ⟨(some 4), none, .mov (.tmp 47)⟩]

def f63r6 : List AInstr := [
    ⟨(some 48), none, .mov (.tmp 4)⟩,
    ⟨(some 49), none, .ibin .lss (.tmp 48) (.const (.int .i64 1))⟩,
    ⟨(some 50), none, .mov (.tmp 49)⟩,
    ⟨(some 51), (some (50, false)), .mov (.tmp 4)⟩,
    ⟨(some 52), (some (50, false)), .ibin .gtr (.tmp 51) (.const (.int .i64 1500))⟩,
    ⟨(some 53), none, .pick (.tmp 50) (.const (.bool true)) (.tmp 52)⟩]

def f63r7 : List AInstr := [
    ⟨(some 2), none, .mov (.const (.bool false))⟩]

def f63r8 : List AInstr := [
    ⟨(some 54), none, .ibin .add (.tmp 44) (.const (.int .i64 1))⟩,
    ⟨(some 44), none, .mov (.tmp 54)⟩]

/-- live: [1, 42, 43, 44] -/
def f63l0 : ACode := (.seq (.ops f63r4)
  (.keep [1, 42, 43, 44, 45] (.seq (.cond (.tmp 45) .skip (.exit 0))
  (.keep [1, 42, 43, 44] (.seq (.block 1 (.seq (.ops f63r5)
  (.keep [1, 4, 42, 43, 44] (.seq (.ops f63r6)
  (.keep [1, 42, 43, 44, 53] (.cond (.tmp 53) (.keep [] (.seq (.ops f63r7)
  (.keep [2] .ret))) .skip))))))
  (.keep [1, 42, 43, 44] (.ops f63r8)))))))

def f63r10 : List AInstr := [
    ⟨(some 55), none, .fieldAddr 0 (.tmp 1)⟩,
    ⟨(some 56), none, .load none (.tmp 55)⟩,
    ⟨(some 58), none, .fieldAddr 2 (.tmp 1)⟩,
    ⟨(some 59), none, .load none (.tmp 58)⟩,
    ⟨(some 57), none, .callF 64 [.tmp 56]⟩,
    ⟨(some 60), none, .ibin .leq (.tmp 57) (.tmp 59)⟩,
    ⟨(some 2), none, .mov (.tmp 60)⟩]

def f63b : ACode := (.seq (.ops f63r0)
  (.keep [1] (.seq (.seq (.ops f63r1)
  (.keep [1, 40] (.cond (.tmp 40) (.keep [] (.seq (.ops f63r2)
  (.keep [2] .ret))) .skip)))
  (.keep [1] (.seq (.seq (.ops f63r3)
  (.keep [1, 42, 43, 44] (.block 0 (.loop f63l0))))
  (.keep [1] (.seq (.alt [(f63r10, [(0, 0, false), (0, 0, false), (0, 1, false), (0, 1, false), (0, 0, true), (1, 1, false), (1, 1, false)])])
  (.keep [2] .ret))))))))

def f63 : AFn := ⟨61, [.tmp 2], f63b⟩

theorem f63_ok : compFn Tryz.prog 63 = some f63.strip := by kernel_rfl

/- function 64: weirhouse/ring.sum; parameters 1; operations that are not compiled: 0 -/
def f64r0 : List AInstr := [
    ⟨(some 2), none, .mov (.const (.int .i64 0))⟩]

def f64r1 : List AInstr := [
    ⟨(some 3), none, .mov (.const (.int .i64 0))⟩]

def f64r2 : List AInstr := [
    ⟨(some 6), none, .mov (.tmp 0)⟩,
    ⟨(some 7), none, .len (.tmp 6)⟩,
    ⟨(some 8), none, .mov (.const (.int .i64 0))⟩]

def f64r3 : List AInstr := [
    ⟨(some 9), none, .ibin .lss (.tmp 8) (.tmp 7)⟩]

def f64r4 : List AInstr := [
    ⟨(some 10), none, .indexAddr 1 (.tmp 6) (.tmp 8)⟩,
    ⟨(some 11), none, .load none (.tmp 10)⟩,
    ⟨(some 5), none, .mov (.tmp 11)⟩]

def f64r5 : List AInstr := [
    ⟨(some 12), none, .mov (.tmp 3)⟩,
    ⟨(some 13), none, .mov (.tmp 5)⟩,
    ⟨(some 14), none, .ibin .add (.tmp 12) (.tmp 13)⟩,
    ⟨(some 3), none, .mov (.tmp 14)⟩]

def f64r6 : List AInstr := [
    ⟨(some 15), none, .ibin .add (.tmp 8) (.const (.int .i64 1))⟩,
    ⟨(some 8), none, .mov (.tmp 15)⟩]

/-- live: [3, 6, 7, 8] -/
def f64l0 : ACode := (.seq (.ops f64r3)
  (.keep [3, 6, 7, 8, 9] (.seq (.cond (.tmp 9) .skip (.exit 0))
  (.keep [3, 6, 7, 8] (.seq (.block 1 (.seq (.ops f64r4)
  (.keep [3, 5, 6, 7, 8] (.ops f64r5))))
  (.keep [3, 6, 7, 8] (.ops f64r6)))))))

def f64r8 : List AInstr := [
    ⟨(some 16), none, .mov (.tmp 3)⟩,
    ⟨(some 2), none, .mov (.tmp 16)⟩]

def f64b : ACode := (.seq (.ops f64r0)
  (.keep [0] (.seq (.ops f64r1)
  (.keep [0, 3] (.seq (.seq (.ops f64r2)
  (.keep [3, 6, 7, 8] (.block 0 (.loop f64l0))))
  (.keep [3] (.seq (.ops f64r8)
  (.keep [2] .ret))))))))

def f64 : AFn := ⟨17, [.tmp 2], f64b⟩

theorem f64_ok : compFn Tryz.prog 64 = some f64.strip := by kernel_rfl

/- function 65: weirhouse/bucket.Take; parameters 2; operations that are not compiled: 0 -/
def f65r0 : List AInstr := [
    ⟨(some 2), none, .box (.tmp 0)⟩,
    ⟨(some 3), none, .box (.tmp 1)⟩,
    ⟨(some 4), none, .alloc [.int .i64 0, .int .i64 0, .int .i64 0, .int .i64 0, .int .i64 0]⟩,
    ⟨(some 5), none, .mov (.const (.bool false))⟩,
    ⟨(some 6), none, .mov (.const (.int .i64 0))⟩]

def f65r1 : List AInstr := [
    ⟨(some 9), none, .load (some 5) (.tmp 2)⟩,
    ⟨(some 10), none, .fieldAddr 0 (.tmp 3)⟩,
    ⟨(some 11), none, .load none (.tmp 10)⟩,
    ⟨(some 12), none, .callF 55 [.tmp 9, .tmp 11]⟩,
    ⟨(some 8), none, .mov (.tmp 12)⟩,
    ⟨(some 13), none, .extract 0 (.tmp 8)⟩,
    ⟨(some 14), none, .extract 1 (.tmp 8)⟩,
    ⟨none, none, .store 5 (.tmp 2) (.tmp 13)⟩,
    ⟨(some 7), none, .mov (.tmp 14)⟩]

def f65r2 : List AInstr := [
    ⟨(some 16), none, .mov (.tmp 7)⟩,
    ⟨(some 17), none, .ibin .neq (.tmp 16) (.const (.int .i64 0))⟩,
    ⟨(some 15), none, .mov (.tmp 17)⟩]

def f65r3 : List AInstr := [
    ⟨(some 18), none, .build [.int .i64 0, .int .i64 0, .int .i64 0, .int .i64 0, .int .i64 0] []⟩,
    ⟨(some 19), none, .mov (.tmp 7)⟩,
    ⟨none, none, .store 5 (.tmp 4) (.tmp 18)⟩,
    ⟨(some 5), none, .mov (.const (.bool false))⟩,
    ⟨(some 6), none, .mov (.tmp 19)⟩]

def f65r4 : List AInstr := [
    ⟨(some 21), none, .fieldAddr 1 (.tmp 3)⟩,
    ⟨(some 22), none, .load none (.tmp 21)⟩,
    ⟨(some 23), none, .ibin .lss (.tmp 22) (.const (.int .i64 0))⟩,
    ⟨(some 24), none, .mov (.tmp 23)⟩,
    ⟨(some 25), (some (24, false)), .fieldAddr 1 (.tmp 3)⟩,
    ⟨(some 26), (some (24, false)), .load none (.tmp 25)⟩,
    ⟨(some 27), (some (24, false)), .ibin .gtr (.tmp 26) (.const (.int .i64 1048576))⟩,
    ⟨(some 28), none, .pick (.tmp 24) (.const (.bool true)) (.tmp 27)⟩,
    ⟨(some 20), none, .mov (.tmp 28)⟩]

def f65r5 : List AInstr := [
    ⟨(some 29), none, .build [.int .i64 0, .int .i64 0, .int .i64 0, .int .i64 0, .int .i64 0] []⟩,
    ⟨none, none, .store 5 (.tmp 4) (.tmp 29)⟩,
    ⟨(some 5), none, .mov (.const (.bool false))⟩,
    ⟨(some 6), none, .mov (.const (.int .i64 2))⟩]

def f65r6 : List AInstr := [
    ⟨(some 31), none, .fieldAddr 1 (.tmp 3)⟩,
    ⟨(some 32), none, .load none (.tmp 31)⟩,
    ⟨(some 33), none, .fieldAddr 1 (.tmp 2)⟩,
    ⟨(some 34), none, .load none (.tmp 33)⟩,
    ⟨(some 35), none, .ibin .mul (.tmp 32) (.tmp 34)⟩,
    ⟨(some 36), none, .fieldAddr 3 (.tmp 2)⟩,
    ⟨(some 37), none, .load none (.tmp 36)⟩,
    ⟨(some 38), none, .ibin .gtr (.tmp 35) (.tmp 37)⟩,
    ⟨(some 30), none, .mov (.tmp 38)⟩]

def f65r7 : List AInstr := [
    ⟨(some 39), none, .load (some 5) (.tmp 2)⟩,
    ⟨none, none, .store 5 (.tmp 4) (.tmp 39)⟩,
    ⟨(some 5), none, .mov (.const (.bool false))⟩,
    ⟨(some 6), none, .mov (.const (.int .i64 0))⟩]

def f65r8 : List AInstr := [
    ⟨(some 40), none, .fieldAddr 3 (.tmp 2)⟩,
    ⟨(some 41), none, .load none (.tmp 40)⟩,
    ⟨(some 42), none, .fieldAddr 1 (.tmp 3)⟩,
    ⟨(some 43), none, .load none (.tmp 42)⟩,
    ⟨(some 44), none, .fieldAddr 1 (.tmp 2)⟩,
    ⟨(some 45), none, .load none (.tmp 44)⟩,
    ⟨(some 46), none, .ibin .mul (.tmp 43) (.tmp 45)⟩,
    ⟨(some 47), none, .ibin .sub (.tmp 41) (.tmp 46)⟩,
    ⟨(some 48), none, .fieldAddr 3 (.tmp 2)⟩,
    ⟨none, none, .store 1 (.tmp 48) (.tmp 47)⟩]

def f65r9 : List AInstr := [
    ⟨(some 49), none, .load (some 5) (.tmp 2)⟩,
    ⟨none, none, .store 5 (.tmp 4) (.tmp 49)⟩,
    ⟨(some 5), none, .mov (.const (.bool true))⟩,
    ⟨(some 6), none, .mov (.const (.int .i64 0))⟩]

def f65b : ACode := (.seq (.ops f65r0)
  (.keep [2, 3, 4] (.seq (.ops f65r1)
  (.keep [2, 3, 4, 7] (.seq (.block 0 (.seq (.ops f65r2)
  (.keep [2, 3, 4, 7, 15] (.cond (.tmp 15) (.keep [4, 7] (.seq (.ops f65r3)
  (.keep [4, 5, 6] .ret))) (.keep [2, 3, 4] (.seq (.ops f65r4)
  (.keep [2, 3, 4, 20] (.cond (.tmp 20) (.keep [4] (.seq (.ops f65r5)
  (.keep [4, 5, 6] .ret))) (.keep [2, 3, 4] (.seq (.ops f65r6)
  (.keep [2, 3, 4, 30] (.cond (.tmp 30) (.keep [2, 4] (.seq (.ops f65r7)
  (.keep [4, 5, 6] .ret))) .skip))))))))))))
  (.keep [2, 3, 4] (.seq (.ops f65r8)
  (.keep [2, 4] (.seq (.ops f65r9)
  (.keep [4, 5, 6] .ret))))))))))

def f65 : AFn := ⟨50, [.cell 4 (some 5), .tmp 5, .tmp 6], f65b⟩

theorem f65_ok : compFn Tryz.prog 65 = some f65.strip := by kernel_rfl

end Go.Proofs.YtcocblbfgjjlbaaGreatDoor
