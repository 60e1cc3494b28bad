/-
  The functions of this seat as abstract code. Printed by a program of this claim's writer.
-/
import Derived.Test.YtdkccpppflnmpaaChecked
import Derived.Test.YtdkccpppflnmpaaAmS
import Derived.KernelRfl
namespace Go.Proofs.Ytdkccpppflnmpaa
open Go Go.Am

/- function 3: weirhouse/weirhousekeep.HeadBack; parameters 1; operations that are not compiled: 0 -/
def f3r0 : List AInstr := [
    ⟨(some 1), none, .box (.tmp 0)⟩,
    ⟨(some 2), none, .mov (.const (.bool false))⟩]

def f3r1 : List AInstr := [
    ⟨(some 7), none, .callF 7 []⟩,
    ⟨(some 8), none, .un .not (.tmp 7)⟩]

def f3r2 : List AInstr := [
    ⟨(some 2), none, .mov (.const (.bool false))⟩]

def f3r3 : List AInstr := [
    ⟨(some 10), none, .load (some 13) (.tmp 1)⟩,
    ⟨(some 11), none, .callF 8 [.tmp 10]⟩,
    ⟨(some 9), none, .mov (.tmp 11)⟩,
    ⟨(some 12), none, .extract 0 (.tmp 9)⟩,
    ⟨(some 13), none, .extract 1 (.tmp 9)⟩,
    ⟨(some 3), none, .mov (.tmp 12)⟩,
    ⟨(some 4), none, .mov (.tmp 13)⟩]

def f3r4 : List AInstr := [
    ⟨(some 14), none, .mov (.tmp 4)⟩,
    ⟨(some 15), none, .ibin .neq (.tmp 14) (.const (.int .i64 0))⟩]

def f3r5 : List AInstr := [
    ⟨(some 16), none, .mov (.tmp 3)⟩,
    ⟨(some 17), none, .len (.tmp 16)⟩,
    ⟨(some 18), none, .ibin .eql (.tmp 17) (.const (.int .i64 0))⟩,
    ⟨(some 19), none, .mov (.tmp 18)⟩,
    ⟨(some 20), (some (19, true)), .mov (.tmp 4)⟩,
    ⟨(some 21), (some (19, true)), .load (some 13) (.tmp 1)⟩,
    ⟨(some 22), (some (19, true)), .callF 9 [.tmp 21]⟩,
    ⟨(some 23), (some (19, true)), .ibin .eql (.tmp 20) (.tmp 22)⟩,
    ⟨(some 24), none, .pick (.tmp 19) (.tmp 23) (.const (.bool false))⟩,
    ⟨(some 2), none, .mov (.tmp 24)⟩]

def f3r6 : List AInstr := [
    ⟨(some 26), none, .mov (.tmp 3)⟩,
    ⟨(some 27), none, .callF 10 [.tmp 26]⟩,
    ⟨(some 25), none, .mov (.tmp 27)⟩,
    ⟨(some 28), none, .extract 0 (.tmp 25)⟩,
    ⟨(some 29), none, .extract 1 (.tmp 25)⟩,
    ⟨(some 5), none, .alloc [.int .u8 0, .int .u8 0, .int .u8 0, .int .u8 0, .int .u8 0, .int .u8 0, .int .u8 0, .int .u8 0, .int .i64 0, .int .i64 0, .int .i64 0, .int .i64 0, .int .i64 0]⟩,
    ⟨none, none, .store 13 (.tmp 5) (.tmp 28)⟩,
    ⟨(some 6), none, .mov (.tmp 29)⟩]

def f3r7 : List AInstr := [
    ⟨(some 30), none, .mov (.tmp 6)⟩,
    ⟨(some 31), none, .ibin .eql (.tmp 30) (.const (.int .i64 0))⟩,
    ⟨(some 32), none, .mov (.tmp 31)⟩,
    ⟨(some 33), (some (32, true)), .load (some 13) (.tmp 5)⟩,
    ⟨(some 34), (some (32, true)), .load (some 13) (.tmp 1)⟩,
    ⟨(some 35), (some (32, true)), .eqA false [false, false, false, false, false, false, false, false, false, false, false, false, false] (.tmp 33) (.tmp 34)⟩,
    ⟨(some 36), none, .pick (.tmp 32) (.tmp 35) (.const (.bool false))⟩,
    ⟨(some 37), none, .mov (.tmp 36)⟩,
    ⟨(some 38), (some (37, true)), .mov (.tmp 3)⟩,
    ⟨(some 39), (some (37, true)), .len (.tmp 38)⟩,
    ⟨(some 40), (some (37, true)), .fieldAddr 11 (.tmp 1)⟩,
    ⟨(some 41), (some (37, true)), .load none (.tmp 40)⟩,
    ⟨(some 42), (some (37, true)), .ibin .eql (.tmp 39) (.tmp 41)⟩,
    ⟨(some 43), none, .pick (.tmp 37) (.tmp 42) (.const (.bool false))⟩,
    ⟨(some 2), none, .mov (.tmp 43)⟩]

def f3b : ACode := (.seq (.ops f3r0)
  (.keep [1] (.seq (.seq (.ops f3r1)
  (.keep [1, 8] (.cond (.tmp 8) (.keep [] (.seq (.ops f3r2)
  (.keep [2] .ret))) .skip)))
  (.keep [1] (.seq (.ops f3r3)
  (.keep [1, 3, 4] (.seq (.seq (.ops f3r4)
  (.keep [1, 3, 4, 15] (.cond (.tmp 15) (.keep [1, 3, 4] (.seq (.ops f3r5)
  (.keep [2] .ret))) .skip)))
  (.keep [1, 3] (.seq (.ops f3r6)
  (.keep [1, 3, 5, 6] (.seq (.ops f3r7)
  (.keep [2] .ret))))))))))))

def f3 : AFn := ⟨44, [.tmp 2], f3b⟩

theorem f3_ok : compFn Try.prog 3 = some f3.strip := by kernel_rfl

/- function 4: weirhouse/weirhousekeep.HeadSpoilt; parameters 3; operations that are not compiled: 0 -/
def f4r0 : List AInstr := [
    ⟨(some 3), none, .box (.tmp 0)⟩,
    ⟨(some 6), none, .mov (.const (.bool false))⟩]

def f4r1 : List AInstr := [
    ⟨(some 11), none, .callF 7 []⟩,
    ⟨(some 12), none, .un .not (.tmp 11)⟩]

def f4r2 : List AInstr := [
    ⟨(some 6), none, .mov (.const (.bool false))⟩]

def f4r3 : List AInstr := [
    ⟨(some 14), none, .load (some 13) (.tmp 3)⟩,
    ⟨(some 15), none, .callF 8 [.tmp 14]⟩,
    ⟨(some 13), none, .mov (.tmp 15)⟩,
    ⟨(some 16), none, .extract 0 (.tmp 13)⟩,
    ⟨(some 17), none, .extract 1 (.tmp 13)⟩,
    ⟨(some 7), none, .mov (.tmp 16)⟩,
    ⟨(some 8), none, .mov (.tmp 17)⟩]

def f4r4 : List AInstr := [
    ⟨(some 18), none, .mov (.tmp 8)⟩,
    ⟨(some 19), none, .ibin .neq (.tmp 18) (.const (.int .i64 0))⟩,
    ⟨(some 20), none, .mov (.tmp 19)⟩,
    ⟨(some 21), (some (20, false)), .mov (.tmp 1)⟩,
    ⟨(some 22), (some (20, false)), .ibin .lss (.tmp 21) (.const (.int .i64 1))⟩,
    ⟨(some 23), none, .pick (.tmp 20) (.const (.bool true)) (.tmp 22)⟩,
    ⟨(some 24), none, .mov (.tmp 23)⟩,
    ⟨(some 25), (some (24, false)), .mov (.tmp 1)⟩,
    ⟨(some 26), (some (24, false)), .ibin .geq (.tmp 25) (.const (.int .i64 20))⟩,
    ⟨(some 27), none, .pick (.tmp 24) (.const (.bool true)) (.tmp 26)⟩,
    ⟨(some 28), none, .mov (.tmp 27)⟩,
    ⟨(some 29), (some (28, false)), .mov (.tmp 2)⟩,
    ⟨(some 30), (some (28, false)), .ibin .eql (.tmp 29) (.const (.int .u8 0))⟩,
    ⟨(some 31), none, .pick (.tmp 28) (.const (.bool true)) (.tmp 30)⟩]

def f4r5 : List AInstr := [
    ⟨(some 6), none, .mov (.const (.bool true))⟩]

def f4r6 : List AInstr := [
    ⟨(some 32), none, .mov (.tmp 7)⟩,
    ⟨(some 33), none, .mov (.tmp 1)⟩,
    ⟨(some 34), none, .indexAddr 1 (.tmp 32) (.tmp 33)⟩,
    ⟨(some 35), none, .load none (.tmp 34)⟩,
    ⟨(some 36), none, .mov (.tmp 2)⟩,
    ⟨(some 37), none, .ibin .xor (.tmp 35) (.tmp 36)⟩,
    ⟨(some 38), none, .indexAddr 1 (.tmp 32) (.tmp 33)⟩,
    ⟨none, none, .store 1 (.tmp 38) (.tmp 37)⟩]

def f4r7 : List AInstr := [
    ⟨(some 40), none, .mov (.tmp 7)⟩,
    ⟨(some 41), none, .callF 10 [.tmp 40]⟩,
    ⟨(some 39), none, .mov (.tmp 41)⟩,
    ⟨(some 42), none, .extract 0 (.tmp 39)⟩,
    ⟨(some 43), none, .extract 1 (.tmp 39)⟩,
    ⟨(some 9), none, .alloc [.int .u8 0, .int .u8 0, .int .u8 0, .int .u8 0, .int .u8 0, .int .u8 0, .int .u8 0, .int .u8 0, .int .i64 0, .int .i64 0, .int .i64 0, .int .i64 0, .int .i64 0]⟩,
    ⟨none, none, .store 13 (.tmp 9) (.tmp 42)⟩,
    ⟨(some 10), none, .mov (.tmp 43)⟩]

def f4r8 : List AInstr := [
    ⟨(some 44), none, .mov (.tmp 10)⟩,
    ⟨(some 45), none, .ibin .neq (.tmp 44) (.const (.int .i64 0))⟩,
    ⟨(some 6), none, .mov (.tmp 45)⟩]

def f4b : ACode := (.seq (.ops f4r0)
  (.keep [1, 2, 3] (.seq (.seq (.ops f4r1)
  (.keep [1, 2, 3, 12] (.cond (.tmp 12) (.keep [] (.seq (.ops f4r2)
  (.keep [6] .ret))) .skip)))
  (.keep [1, 2, 3] (.seq (.ops f4r3)
  (.keep [1, 2, 7, 8] (.seq (.seq (.ops f4r4)
  (.keep [1, 2, 7, 31] (.cond (.tmp 31) (.keep [] (.seq (.ops f4r5)
  (.keep [6] .ret))) .skip)))
  (.keep [1, 2, 7] (.seq (.ops f4r6)
  (.keep [7] (.seq (.ops f4r7)
  (.keep [10] (.seq (.ops f4r8)
  (.keep [6] .ret))))))))))))))

def f4 : AFn := ⟨46, [.tmp 6], f4b⟩

theorem f4_ok : compFn Try.prog 4 = some f4.strip := by kernel_rfl

/- function 5: weirhouse/weirhousekeep.HeadShort; parameters 3; operations that are not compiled: 0 -/
def f5r0 : List AInstr := [
    ⟨(some 3), none, .box (.tmp 0)⟩,
    ⟨(some 6), none, .mov (.const (.bool false))⟩]

def f5r1 : List AInstr := [
    ⟨(some 13), none, .callF 7 []⟩,
    ⟨(some 14), none, .un .not (.tmp 13)⟩]

def f5r2 : List AInstr := [
    ⟨(some 6), none, .mov (.const (.bool false))⟩]

def f5r3 : List AInstr := [
    ⟨(some 16), none, .load (some 13) (.tmp 3)⟩,
    ⟨(some 17), none, .callF 8 [.tmp 16]⟩,
    ⟨(some 15), none, .mov (.tmp 17)⟩,
    ⟨(some 18), none, .extract 0 (.tmp 15)⟩,
    ⟨(some 19), none, .extract 1 (.tmp 15)⟩,
    ⟨(some 7), none, .mov (.tmp 18)⟩,
    ⟨(some 8), none, .mov (.tmp 19)⟩]

def f5r4 : List AInstr := [
    ⟨(some 20), none, .mov (.tmp 8)⟩,
    ⟨(some 21), none, .ibin .neq (.tmp 20) (.const (.int .i64 0))⟩]

def f5r5 : List AInstr := [
    ⟨(some 6), none, .mov (.const (.bool true))⟩]

def f5r6 : List AInstr := [
    ⟨(some 23), none, .mov (.tmp 7)⟩,
    ⟨(some 24), none, .mov (.tmp 2)⟩,
    ⟨(some 25), none, .append 1 1 (.tmp 23) (.tmp 24)⟩,
    ⟨(some 26), none, .callF 10 [.tmp 25]⟩,
    ⟨(some 22), none, .mov (.tmp 26)⟩,
    ⟨(some 27), none, .extract 0 (.tmp 22)⟩,
    ⟨(some 28), none, .extract 1 (.tmp 22)⟩,
    ⟨(some 9), none, .alloc [.int .u8 0, .int .u8 0, .int .u8 0, .int .u8 0, .int .u8 0, .int .u8 0, .int .u8 0, .int .u8 0, .int .i64 0, .int .i64 0, .int .i64 0, .int .i64 0, .int .i64 0]⟩,
    ⟨none, none, .store 13 (.tmp 9) (.tmp 27)⟩,
    ⟨(some 10), none, .mov (.tmp 28)⟩]

def f5r7 : List AInstr := [
    ⟨(some 29), none, .mov (.tmp 10)⟩,
    ⟨(some 30), none, .ibin .neq (.tmp 29) (.const (.int .i64 0))⟩,
    ⟨(some 31), none, .mov (.tmp 30)⟩,
    ⟨(some 32), (some (31, false)), .load (some 13) (.tmp 9)⟩,
    ⟨(some 33), (some (31, false)), .load (some 13) (.tmp 3)⟩,
    ⟨(some 34), (some (31, false)), .eqA true [false, false, false, false, false, false, false, false, false, false, false, false, false] (.tmp 32) (.tmp 33)⟩,
    ⟨(some 35), none, .pick (.tmp 31) (.const (.bool true)) (.tmp 34)⟩]

def f5r8 : List AInstr := [
    ⟨(some 6), none, .mov (.const (.bool false))⟩]

def f5r9 : List AInstr := [
    ⟨(some 36), none, .mov (.tmp 1)⟩,
    ⟨(some 37), none, .ibin .lss (.tmp 36) (.const (.int .i64 0))⟩,
    ⟨(some 38), none, .mov (.tmp 37)⟩,
    ⟨(some 39), (some (38, false)), .mov (.tmp 1)⟩,
    ⟨(some 40), (some (38, false)), .fieldAddr 11 (.tmp 3)⟩,
    ⟨(some 41), (some (38, false)), .load none (.tmp 40)⟩,
    ⟨(some 42), (some (38, false)), .ibin .geq (.tmp 39) (.tmp 41)⟩,
    ⟨(some 43), none, .pick (.tmp 38) (.const (.bool true)) (.tmp 42)⟩]

def f5r10 : List AInstr := [
    ⟨(some 6), none, .mov (.const (.bool true))⟩]

def f5r11 : List AInstr := [
    ⟨(some 45), none, .mov (.tmp 7)⟩,
    ⟨(some 46), none, .mov (.tmp 1)⟩,
    ⟨(some 47), none, .slice 1 (.tmp 45) none (some (.tmp 46)) none⟩,
    ⟨(some 48), none, .callF 10 [.tmp 47]⟩,
    ⟨(some 44), none, .mov (.tmp 48)⟩,
    ⟨(some 49), none, .extract 0 (.tmp 44)⟩,
    ⟨(some 50), none, .extract 1 (.tmp 44)⟩,
    ⟨(some 11), none, .alloc [.int .u8 0, .int .u8 0, .int .u8 0, .int .u8 0, .int .u8 0, .int .u8 0, .int .u8 0, .int .u8 0, .int .i64 0, .int .i64 0, .int .i64 0, .int .i64 0, .int .i64 0]⟩,
    ⟨none, none, .store 13 (.tmp 11) (.tmp 49)⟩,
    ⟨(some 12), none, .mov (.tmp 50)⟩]

def f5r12 : List AInstr := [
    ⟨(some 51), none, .mov (.tmp 12)⟩,
    ⟨(some 52), none, .ibin .eql (.tmp 51) (.const (.int .i64 8))⟩,
    ⟨(some 6), none, .mov (.tmp 52)⟩]

def f5b : ACode := (.seq (.ops f5r0)
  (.keep [1, 2, 3] (.seq (.seq (.ops f5r1)
  (.keep [1, 2, 3, 14] (.cond (.tmp 14) (.keep [] (.seq (.ops f5r2)
  (.keep [6] .ret))) .skip)))
  (.keep [1, 2, 3] (.seq (.ops f5r3)
  (.keep [1, 2, 3, 7, 8] (.seq (.seq (.ops f5r4)
  (.keep [1, 2, 3, 7, 21] (.cond (.tmp 21) (.keep [] (.seq (.ops f5r5)
  (.keep [6] .ret))) .skip)))
  (.keep [1, 2, 3, 7] (.seq (.fork f5r6)
  (.keep [1, 3, 7, 9, 10] (.seq (.seq (.ops f5r7)
  (.keep [1, 3, 7, 35] (.cond (.tmp 35) (.keep [] (.seq (.ops f5r8)
  (.keep [6] .ret))) .skip)))
  (.keep [1, 3, 7] (.seq (.seq (.ops f5r9)
  (.keep [1, 7, 43] (.cond (.tmp 43) (.keep [] (.seq (.ops f5r10)
  (.keep [6] .ret))) .skip)))
  (.keep [1, 7] (.seq (.ops f5r11)
  (.keep [12] (.seq (.ops f5r12)
  (.keep [6] .ret))))))))))))))))))

def f5 : AFn := ⟨53, [.tmp 6], f5b⟩

theorem f5_ok : compFn Try.prog 5 = some f5.strip := by kernel_rfl

/- function 6: weirhouse/weirhousekeep.HeadRead; parameters 1; operations that are not compiled: 0 -/
def f6r0 : List AInstr := [
    ⟨(some 2), none, .mov (.const (.bool false))⟩]

def f6r1 : List AInstr := [
    ⟨(some 9), none, .callF 7 []⟩,
    ⟨(some 10), none, .un .not (.tmp 9)⟩]

def f6r2 : List AInstr := [
    ⟨(some 2), none, .mov (.const (.bool false))⟩]

def f6r3 : List AInstr := [
    ⟨(some 12), none, .mov (.tmp 0)⟩,
    ⟨(some 13), none, .callF 10 [.tmp 12]⟩,
    ⟨(some 11), none, .mov (.tmp 13)⟩,
    ⟨(some 14), none, .extract 0 (.tmp 11)⟩,
    ⟨(some 15), none, .extract 1 (.tmp 11)⟩,
    ⟨(some 3), none, .alloc [.int .u8 0, .int .u8 0, .int .u8 0, .int .u8 0, .int .u8 0, .int .u8 0, .int .u8 0, .int .u8 0, .int .i64 0, .int .i64 0, .int .i64 0, .int .i64 0, .int .i64 0]⟩,
    ⟨none, none, .store 13 (.tmp 3) (.tmp 14)⟩,
    ⟨(some 4), none, .mov (.tmp 15)⟩]

def f6r4 : List AInstr := [
    ⟨(some 16), none, .mov (.tmp 4)⟩,
    ⟨(some 17), none, .ibin .neq (.tmp 16) (.const (.int .i64 0))⟩]

def f6r5 : List AInstr := [
    ⟨(some 18), none, .load (some 13) (.tmp 3)⟩,
    ⟨(some 19), none, .build [.int .u8 0, .int .u8 0, .int .u8 0, .int .u8 0, .int .u8 0, .int .u8 0, .int .u8 0, .int .u8 0, .int .i64 0, .int .i64 0, .int .i64 0, .int .i64 0, .int .i64 0] []⟩,
    ⟨(some 20), none, .eqA false [false, false, false, false, false, false, false, false, false, false, false, false, false] (.tmp 18) (.tmp 19)⟩,
    ⟨(some 2), none, .mov (.tmp 20)⟩]

def f6r6 : List AInstr := [
    ⟨(some 21), none, .load (some 13) (.tmp 3)⟩,
    ⟨(some 22), none, .callF 9 [.tmp 21]⟩,
    ⟨(some 23), none, .ibin .neq (.tmp 22) (.const (.int .i64 0))⟩]

def f6r7 : List AInstr := [
    ⟨(some 24), none, .fieldAddr 11 (.tmp 3)⟩,
    ⟨(some 25), none, .load none (.tmp 24)⟩,
    ⟨(some 26), none, .ibin .lss (.tmp 25) (.const (.int .i64 24))⟩,
    ⟨(some 2), none, .mov (.tmp 26)⟩]

def f6r8 : List AInstr := [
    ⟨(some 28), none, .load (some 13) (.tmp 3)⟩,
    ⟨(some 29), none, .callF 8 [.tmp 28]⟩,
    ⟨(some 27), none, .mov (.tmp 29)⟩,
    ⟨(some 30), none, .extract 0 (.tmp 27)⟩,
    ⟨(some 31), none, .extract 1 (.tmp 27)⟩,
    ⟨(some 5), none, .mov (.tmp 30)⟩,
    ⟨(some 6), none, .mov (.tmp 31)⟩]

def f6r9 : List AInstr := [
    ⟨(some 33), none, .mov (.tmp 5)⟩,
    ⟨(some 34), none, .callF 10 [.tmp 33]⟩,
    ⟨(some 32), none, .mov (.tmp 34)⟩,
    ⟨(some 35), none, .extract 0 (.tmp 32)⟩,
    ⟨(some 36), none, .extract 1 (.tmp 32)⟩,
    ⟨(some 7), none, .alloc [.int .u8 0, .int .u8 0, .int .u8 0, .int .u8 0, .int .u8 0, .int .u8 0, .int .u8 0, .int .u8 0, .int .i64 0, .int .i64 0, .int .i64 0, .int .i64 0, .int .i64 0]⟩,
    ⟨none, none, .store 13 (.tmp 7) (.tmp 35)⟩,
    ⟨(some 8), none, .mov (.tmp 36)⟩]

def f6r10 : List AInstr := [
    ⟨(some 37), none, .mov (.tmp 6)⟩,
    ⟨(some 38), none, .ibin .eql (.tmp 37) (.const (.int .i64 0))⟩,
    ⟨(some 39), none, .mov (.tmp 38)⟩,
    ⟨(some 40), (some (39, true)), .mov (.tmp 8)⟩,
    ⟨(some 41), (some (39, true)), .ibin .eql (.tmp 40) (.const (.int .i64 0))⟩,
    ⟨(some 42), none, .pick (.tmp 39) (.tmp 41) (.const (.bool false))⟩,
    ⟨(some 43), none, .mov (.tmp 42)⟩,
    ⟨(some 44), (some (43, true)), .load (some 13) (.tmp 7)⟩,
    ⟨(some 45), (some (43, true)), .load (some 13) (.tmp 3)⟩,
    ⟨(some 46), (some (43, true)), .eqA false [false, false, false, false, false, false, false, false, false, false, false, false, false] (.tmp 44) (.tmp 45)⟩,
    ⟨(some 47), none, .pick (.tmp 43) (.tmp 46) (.const (.bool false))⟩,
    ⟨(some 2), none, .mov (.tmp 47)⟩]

def f6b : ACode := (.seq (.ops f6r0)
  (.keep [0] (.seq (.seq (.ops f6r1)
  (.keep [0, 10] (.cond (.tmp 10) (.keep [] (.seq (.ops f6r2)
  (.keep [2] .ret))) .skip)))
  (.keep [0] (.seq (.ops f6r3)
  (.keep [3, 4] (.seq (.seq (.ops f6r4)
  (.keep [3, 17] (.cond (.tmp 17) (.keep [3] (.seq (.ops f6r5)
  (.keep [2] .ret))) .skip)))
  (.keep [3] (.seq (.seq (.ops f6r6)
  (.keep [3, 23] (.cond (.tmp 23) (.keep [3] (.seq (.ops f6r7)
  (.keep [2] .ret))) .skip)))
  (.keep [3] (.seq (.ops f6r8)
  (.keep [3, 5, 6] (.seq (.ops f6r9)
  (.keep [3, 6, 7, 8] (.seq (.ops f6r10)
  (.keep [2] .ret))))))))))))))))

def f6 : AFn := ⟨48, [.tmp 2], f6b⟩

theorem f6_ok : compFn Try.prog 6 = some f6.strip := by kernel_rfl

/- function 7: weirhouse/weirhousekeep.alive5; parameters 0; operations that are not compiled: 0 -/
def f7r0 : List AInstr := [
    ⟨(some 0), none, .mov (.const (.bool false))⟩]

def f7r1 : List AInstr := [
    ⟨(some 6), none, .build [.int .u8 0, .int .u8 0, .int .u8 0, .int .u8 0] [(0, 1, (.const (.int .u8 10))), (1, 1, (.const (.int .u8 0))), (2, 1, (.const (.int .u8 0))), (3, 1, (.const (.int .u8 1)))]⟩,
    ⟨(some 7), none, .build [.int .u8 0, .int .u8 0, .int .u8 0, .int .u8 0, .int .u8 0, .int .u8 0, .int .u8 0, .int .u8 0, .int .i64 0, .int .i64 0, .int .i64 0, .int .i64 0, .int .i64 0] [(0, 4, (.tmp 6)), (8, 1, (.const (.int .i64 17))), (10, 1, (.const (.int .i64 53))), (11, 1, (.const (.int .i64 30))), (12, 1, (.const (.int .i64 5)))]⟩,
    ⟨(some 8), none, .callF 8 [.tmp 7]⟩,
    ⟨(some 5), none, .mov (.tmp 8)⟩,
    ⟨(some 9), none, .extract 0 (.tmp 5)⟩,
    ⟨(some 10), none, .extract 1 (.tmp 5)⟩,
    ⟨(some 1), none, .mov (.tmp 9)⟩,
    ⟨(some 2), none, .mov (.tmp 10)⟩]

def f7r2 : List AInstr := [
    ⟨(some 12), none, .mov (.tmp 1)⟩,
    ⟨(some 13), none, .callF 10 [.tmp 12]⟩,
    ⟨(some 11), none, .mov (.tmp 13)⟩,
    ⟨(some 14), none, .extract 0 (.tmp 11)⟩,
    ⟨(some 15), none, .extract 1 (.tmp 11)⟩,
    ⟨(some 3), none, .alloc [.int .u8 0, .int .u8 0, .int .u8 0, .int .u8 0, .int .u8 0, .int .u8 0, .int .u8 0, .int .u8 0, .int .i64 0, .int .i64 0, .int .i64 0, .int .i64 0, .int .i64 0]⟩,
    ⟨none, none, .store 13 (.tmp 3) (.tmp 14)⟩,
    ⟨(some 4), none, .mov (.tmp 15)⟩]

def f7r3 : List AInstr := [
    ⟨(some 16), none, .mov (.tmp 2)⟩,
    ⟨(some 17), none, .ibin .eql (.tmp 16) (.const (.int .i64 0))⟩,
    ⟨(some 18), none, .mov (.tmp 17)⟩,
    ⟨(some 19), (some (18, true)), .mov (.tmp 4)⟩,
    ⟨(some 20), (some (18, true)), .ibin .eql (.tmp 19) (.const (.int .i64 0))⟩,
    ⟨(some 21), none, .pick (.tmp 18) (.tmp 20) (.const (.bool false))⟩,
    ⟨(some 22), none, .mov (.tmp 21)⟩,
    ⟨(some 23), (some (22, true)), .mov (.tmp 1)⟩,
    ⟨(some 24), (some (22, true)), .len (.tmp 23)⟩,
    ⟨(some 25), (some (22, true)), .ibin .eql (.tmp 24) (.const (.int .i64 30))⟩,
    ⟨(some 26), none, .pick (.tmp 22) (.tmp 25) (.const (.bool false))⟩,
    ⟨(some 27), none, .mov (.tmp 26)⟩,
    ⟨(some 28), (some (27, true)), .mov (.tmp 1)⟩,
    ⟨(some 29), (some (27, true)), .indexAddr 1 (.tmp 28) (.const (.int .i64 1))⟩,
    ⟨(some 30), (some (27, true)), .load none (.tmp 29)⟩,
    ⟨(some 31), (some (27, true)), .ibin .eql (.tmp 30) (.const (.int .u8 20))⟩,
    ⟨(some 32), none, .pick (.tmp 27) (.tmp 31) (.const (.bool false))⟩,
    ⟨(some 33), none, .mov (.tmp 32)⟩,
    ⟨(some 34), (some (33, true)), .mov (.tmp 1)⟩,
    ⟨(some 35), (some (33, true)), .indexAddr 1 (.tmp 34) (.const (.int .i64 23))⟩,
    ⟨(some 36), (some (33, true)), .load none (.tmp 35)⟩,
    ⟨(some 37), (some (33, true)), .ibin .eql (.tmp 36) (.const (.int .u8 53))⟩,
    ⟨(some 38), none, .pick (.tmp 33) (.tmp 37) (.const (.bool false))⟩,
    ⟨(some 39), none, .mov (.tmp 38)⟩,
    ⟨(some 40), (some (39, true)), .fieldAddr 10 (.tmp 3)⟩,
    ⟨(some 41), (some (39, true)), .load none (.tmp 40)⟩,
    ⟨(some 42), (some (39, true)), .ibin .eql (.tmp 41) (.const (.int .i64 53))⟩,
    ⟨(some 43), none, .pick (.tmp 39) (.tmp 42) (.const (.bool false))⟩,
    ⟨(some 44), none, .mov (.tmp 43)⟩,
    ⟨(some 45), (some (44, true)), .fieldAddr 12 (.tmp 3)⟩,
    ⟨(some 46), (some (44, true)), .load none (.tmp 45)⟩,
    ⟨(some 47), (some (44, true)), .ibin .eql (.tmp 46) (.const (.int .i64 5))⟩,
    ⟨(some 48), none, .pick (.tmp 44) (.tmp 47) (.const (.bool false))⟩,
    ⟨(some 49), none, .mov (.tmp 48)⟩,
    ⟨(some 50), (some (49, true)), .fieldAddr 0 (.tmp 3)⟩,
    ⟨(some 51), (some (49, true)), .indexArr 1 4 (.tmp 50) (.const (.int .i64 0))⟩,
    ⟨(some 52), (some (49, true)), .load none (.tmp 51)⟩,
    ⟨(some 53), (some (49, true)), .ibin .eql (.tmp 52) (.const (.int .u8 10))⟩,
    ⟨(some 54), none, .pick (.tmp 49) (.tmp 53) (.const (.bool false))⟩,
    ⟨(some 0), none, .mov (.tmp 54)⟩]

def f7b : ACode := (.seq (.ops f7r0)
  (.keep [] (.seq (.ops f7r1)
  (.keep [1, 2] (.seq (.ops f7r2)
  (.keep [1, 2, 3, 4] (.seq (.ops f7r3)
  (.keep [0] .ret))))))))

def f7 : AFn := ⟨55, [.tmp 0], f7b⟩

theorem f7_ok : compFn Try.prog 7 = some f7.strip := by kernel_rfl

/- function 8: weirhouse/head.Write; parameters 1; operations that are not compiled: 0 -/
def f8r0 : List AInstr := [
    ⟨(some 1), none, .box (.tmp 0)⟩,
    ⟨(some 2), none, .mov (.const (.slice none 0 0))⟩,
    ⟨(some 3), none, .mov (.const (.int .i64 0))⟩]

def f8r1 : List AInstr := [
    ⟨(some 10), none, .load (some 13) (.tmp 1)⟩,
    ⟨(some 11), none, .callF 9 [.tmp 10]⟩,
    ⟨(some 4), none, .mov (.tmp 11)⟩]

def f8r2 : List AInstr := [
    ⟨(some 12), none, .mov (.tmp 4)⟩,
    ⟨(some 13), none, .ibin .neq (.tmp 12) (.const (.int .i64 0))⟩]

def f8r3 : List AInstr := [
    ⟨(some 14), none, .mov (.tmp 4)⟩,
    ⟨(some 2), none, .mov (.const (.slice none 0 0))⟩,
    ⟨(some 3), none, .mov (.tmp 14)⟩]

def f8r4 : List AInstr := [
    ⟨(some 15), none, .fieldAddr 11 (.tmp 1)⟩,
    ⟨(some 16), none, .load none (.tmp 15)⟩,
    ⟨(some 17), none, .makeSlice 1 1 [.int .u8 0] (.tmp 16) (.tmp 16)⟩,
    ⟨(some 5), none, .mov (.tmp 17)⟩]

def f8r5 : List AInstr := [
    ⟨(some 18), none, .mov (.tmp 5)⟩,
    ⟨(some 19), none, .mov (.tmp 5)⟩,
    ⟨(some 20), none, .fieldAddr 12 (.tmp 1)⟩,
    ⟨(some 21), none, .load none (.tmp 20)⟩,
    ⟨(some 22), none, .ibin .shl (.tmp 21) (.const (.int .u64 2))⟩,
    ⟨(some 23), none, .conv .u8 (.tmp 22)⟩,
    ⟨(some 24), none, .indexAddr 1 (.tmp 18) (.const (.int .i64 0))⟩,
    ⟨none, none, .store 1 (.tmp 24) (.const (.int .u8 69))⟩,
    ⟨(some 25), none, .indexAddr 1 (.tmp 19) (.const (.int .i64 1))⟩,
    ⟨none, none, .store 1 (.tmp 25) (.tmp 23)⟩]

def f8r6 : List AInstr := [
    ⟨(some 26), none, .mov (.tmp 5)⟩,
    ⟨(some 27), none, .mov (.tmp 5)⟩,
    ⟨(some 28), none, .fieldAddr 11 (.tmp 1)⟩,
    ⟨(some 29), none, .load none (.tmp 28)⟩,
    ⟨(some 30), none, .ibin .shr (.tmp 29) (.const (.int .u64 8))⟩,
    ⟨(some 31), none, .conv .u8 (.tmp 30)⟩,
    ⟨(some 32), none, .fieldAddr 11 (.tmp 1)⟩,
    ⟨(some 33), none, .load none (.tmp 32)⟩,
    ⟨(some 34), none, .conv .u8 (.tmp 33)⟩,
    ⟨(some 35), none, .indexAddr 1 (.tmp 26) (.const (.int .i64 2))⟩,
    ⟨none, none, .store 1 (.tmp 35) (.tmp 31)⟩,
    ⟨(some 36), none, .indexAddr 1 (.tmp 27) (.const (.int .i64 3))⟩,
    ⟨none, none, .store 1 (.tmp 36) (.tmp 34)⟩]

def f8r7 : List AInstr := [
    ⟨(some 37), none, .mov (.tmp 5)⟩,
    ⟨(some 38), none, .mov (.tmp 5)⟩,
    ⟨(some 39), none, .fieldAddr 8 (.tmp 1)⟩,
    ⟨(some 40), none, .load none (.tmp 39)⟩,
    ⟨(some 41), none, .conv .u8 (.tmp 40)⟩,
    ⟨(some 42), none, .indexAddr 1 (.tmp 37) (.const (.int .i64 8))⟩,
    ⟨none, none, .store 1 (.tmp 42) (.const (.int .u8 64))⟩,
    ⟨(some 43), none, .indexAddr 1 (.tmp 38) (.const (.int .i64 9))⟩,
    ⟨none, none, .store 1 (.tmp 43) (.tmp 41)⟩]

def f8r8 : List AInstr := [
    ⟨(some 44), none, .fieldAddr 0 (.tmp 1)⟩,
    ⟨(some 45), none, .sliceA 1 4 (.tmp 44) none none⟩,
    ⟨(some 46), none, .fieldAddr 4 (.tmp 1)⟩,
    ⟨(some 47), none, .sliceA 1 4 (.tmp 46) none none⟩,
    ⟨(some 48), none, .buildSlice 1 2 [.slice none 0 0, .slice none 0 0] [(0, 1, (.tmp 45)), (1, 1, (.tmp 47))]⟩,
    ⟨(some 49), none, .callF 11 [.tmp 48]⟩,
    ⟨(some 6), none, .mov (.tmp 49)⟩]

def f8r9 : List AInstr := [
    ⟨(some 50), none, .mov (.tmp 6)⟩,
    ⟨(some 51), none, .len (.tmp 50)⟩,
    ⟨(some 52), none, .mov (.const (.int .i64 0))⟩]

def f8r10 : List AInstr := [
    ⟨(some 53), none, .ibin .lss (.tmp 52) (.tmp 51)⟩]

def f8r11 : List AInstr := [
    ⟨(some 54), none, .mov (.tmp 52)⟩,
    ⟨(some 55), none, .indexAddr 1 (.tmp 50) (.tmp 52)⟩,
    ⟨(some 56), none, .load none (.tmp 55)⟩,
    ⟨(some 7), none, .mov (.tmp 54)⟩,
    ⟨(some 8), none, .mov (.tmp 56)⟩]

def f8r12 : List AInstr := [
    ⟨(some 57), none, .mov (.tmp 5)⟩,
    ⟨(some 58), none, .mov (.tmp 7)⟩,
    ⟨(some 59), none, .ibin .add (.const (.int .i64 12)) (.tmp 58)⟩,
    ⟨(some 60), none, .mov (.tmp 8)⟩,
    ⟨(some 61), none, .indexAddr 1 (.tmp 57) (.tmp 59)⟩,
    ⟨none, none, .store 1 (.tmp 61) (.tmp 60)⟩]

def f8r13 : List AInstr := [
    ⟨(some 62), none, .ibin .add (.tmp 52) (.const (.int .i64 1))⟩,
    ⟨(some 52), none, .mov (.tmp 62)⟩]

/-- live: [1, 5, 50, 51, 52] -/
def f8l0 : ACode := (.seq (.ops f8r10)
  (.keep [1, 5, 50, 51, 52, 53] (.seq (.cond (.tmp 53) .skip (.exit 0))
  (.keep [1, 5, 50, 51, 52] (.seq (.block 1 (.seq (.ops f8r11)
  (.keep [1, 5, 7, 8, 50, 51, 52] (.ops f8r12))))
  (.keep [1, 5, 50, 51, 52] (.ops f8r13)))))))

def f8r15 : List AInstr := [
    ⟨(some 63), none, .mov (.tmp 5)⟩,
    ⟨(some 64), none, .slice 1 (.tmp 63) none (some (.const (.int .i64 20))) none⟩,
    ⟨(some 65), none, .callF 12 [.tmp 64]⟩,
    ⟨(some 9), none, .mov (.tmp 65)⟩]

def f8r16 : List AInstr := [
    ⟨(some 66), none, .mov (.tmp 5)⟩,
    ⟨(some 67), none, .mov (.tmp 5)⟩,
    ⟨(some 68), none, .mov (.tmp 9)⟩,
    ⟨(some 69), none, .ibin .shr (.tmp 68) (.const (.int .u64 8))⟩,
    ⟨(some 70), none, .conv .u8 (.tmp 69)⟩,
    ⟨(some 71), none, .mov (.tmp 9)⟩,
    ⟨(some 72), none, .conv .u8 (.tmp 71)⟩,
    ⟨(some 73), none, .indexAddr 1 (.tmp 66) (.const (.int .i64 10))⟩,
    ⟨none, none, .store 1 (.tmp 73) (.tmp 70)⟩,
    ⟨(some 74), none, .indexAddr 1 (.tmp 67) (.const (.int .i64 11))⟩,
    ⟨none, none, .store 1 (.tmp 74) (.tmp 72)⟩]

def f8r17 : List AInstr := [
    ⟨(some 75), none, .fieldAddr 8 (.tmp 1)⟩,
    ⟨(some 76), none, .load none (.tmp 75)⟩,
    ⟨(some 77), none, .ibin .eql (.tmp 76) (.const (.int .i64 6))⟩,
    ⟨(some 78), none, .mov (.tmp 77)⟩,
    ⟨(some 79), (some (78, false)), .fieldAddr 8 (.tmp 1)⟩,
    ⟨(some 80), (some (78, false)), .load none (.tmp 79)⟩,
    ⟨(some 81), (some (78, false)), .ibin .eql (.tmp 80) (.const (.int .i64 17))⟩,
    ⟨(some 82), none, .pick (.tmp 78) (.const (.bool true)) (.tmp 81)⟩]

def f8r18 : List AInstr := [
    ⟨(some 83), none, .mov (.tmp 5)⟩,
    ⟨(some 84), none, .mov (.tmp 5)⟩,
    ⟨(some 85), none, .fieldAddr 9 (.tmp 1)⟩,
    ⟨(some 86), none, .load none (.tmp 85)⟩,
    ⟨(some 87), none, .ibin .shr (.tmp 86) (.const (.int .u64 8))⟩,
    ⟨(some 88), none, .conv .u8 (.tmp 87)⟩,
    ⟨(some 89), none, .fieldAddr 9 (.tmp 1)⟩,
    ⟨(some 90), none, .load none (.tmp 89)⟩,
    ⟨(some 91), none, .conv .u8 (.tmp 90)⟩,
    ⟨(some 92), none, .indexAddr 1 (.tmp 83) (.const (.int .i64 20))⟩,
    ⟨none, none, .store 1 (.tmp 92) (.tmp 88)⟩,
    ⟨(some 93), none, .indexAddr 1 (.tmp 84) (.const (.int .i64 21))⟩,
    ⟨none, none, .store 1 (.tmp 93) (.tmp 91)⟩]

def f8r19 : List AInstr := [
    ⟨(some 94), none, .mov (.tmp 5)⟩,
    ⟨(some 95), none, .mov (.tmp 5)⟩,
    ⟨(some 96), none, .fieldAddr 10 (.tmp 1)⟩,
    ⟨(some 97), none, .load none (.tmp 96)⟩,
    ⟨(some 98), none, .ibin .shr (.tmp 97) (.const (.int .u64 8))⟩,
    ⟨(some 99), none, .conv .u8 (.tmp 98)⟩,
    ⟨(some 100), none, .fieldAddr 10 (.tmp 1)⟩,
    ⟨(some 101), none, .load none (.tmp 100)⟩,
    ⟨(some 102), none, .conv .u8 (.tmp 101)⟩,
    ⟨(some 103), none, .indexAddr 1 (.tmp 94) (.const (.int .i64 22))⟩,
    ⟨none, none, .store 1 (.tmp 103) (.tmp 99)⟩,
    ⟨(some 104), none, .indexAddr 1 (.tmp 95) (.const (.int .i64 23))⟩,
    ⟨none, none, .store 1 (.tmp 104) (.tmp 102)⟩]

def f8r20 : List AInstr := [
    ⟨(some 105), none, .mov (.tmp 5)⟩,
    ⟨(some 2), none, .mov (.tmp 105)⟩,
    ⟨(some 3), none, .mov (.const (.int .i64 0))⟩]

def f8b : ACode := (.seq (.ops f8r0)
  (.keep [1] (.seq (.seq (.ops f8r1)
  (.keep [1, 4] (.seq (.ops f8r2)
  (.keep [1, 4, 13] (.cond (.tmp 13) (.keep [4] (.seq (.ops f8r3)
  (.keep [2, 3] .ret))) .skip)))))
  (.keep [1] (.seq (.ops f8r4)
  (.keep [1, 5] (.seq (.ops f8r5)
  (.keep [1, 5] (.seq (.ops f8r6)
  (.keep [1, 5] (.seq (.ops f8r7)
  (.keep [1, 5] (.seq (.draw f8r8 [(0, 0, false), (0, 0, false), (0, 0, false), (0, 0, false), (0, 0, true), (1, 0, true), (2, 2, false)])
  (.keep [1, 5, 6] (.seq (.seq (.ops f8r9)
  (.keep [1, 5, 50, 51, 52] (.block 0 (.loop f8l0))))
  (.keep [1, 5] (.seq (.ops f8r15)
  (.keep [1, 5, 9] (.seq (.ops f8r16)
  (.keep [1, 5] (.seq (.seq (.ops f8r17)
  (.keep [1, 5, 82] (.cond (.tmp 82) (.keep [1, 5] (.seq (.ops f8r18)
  (.keep [1, 5] (.ops f8r19)))) .skip)))
  (.keep [5] (.seq (.ops f8r20)
  (.keep [2, 3] .ret))))))))))))))))))))))))

def f8 : AFn := ⟨106, [.tmp 2, .tmp 3], f8b⟩

theorem f8_ok : compFn Try.prog 8 = some f8.strip := by kernel_rfl

/- function 9: weirhouse/head.Wrong; parameters 1; operations that are not compiled: 0 -/
def f9r0 : List AInstr := [
    ⟨(some 1), none, .box (.tmp 0)⟩,
    ⟨(some 2), none, .mov (.const (.int .i64 0))⟩]

def f9r1 : List AInstr := [
    ⟨(some 3), none, .mov (.const (.func (.func 13) #[] #[]))⟩]

def f9r2 : List AInstr := [
    ⟨(some 5), none, .fieldAddr 8 (.tmp 1)⟩,
    ⟨(some 6), none, .load none (.tmp 5)⟩,
    ⟨(some 7), none, .ibin .eql (.tmp 6) (.const (.int .i64 6))⟩,
    ⟨(some 8), none, .mov (.tmp 7)⟩,
    ⟨(some 9), (some (8, false)), .fieldAddr 8 (.tmp 1)⟩,
    ⟨(some 10), (some (8, false)), .load none (.tmp 9)⟩,
    ⟨(some 11), (some (8, false)), .ibin .eql (.tmp 10) (.const (.int .i64 17))⟩,
    ⟨(some 12), none, .pick (.tmp 8) (.const (.bool true)) (.tmp 11)⟩,
    ⟨(some 4), none, .mov (.tmp 12)⟩]

def f9r3 : List AInstr := [
    ⟨(some 14), none, .fieldAddr 8 (.tmp 1)⟩,
    ⟨(some 15), none, .load none (.tmp 14)⟩,
    ⟨(some 16), none, .ibin .lss (.tmp 15) (.const (.int .i64 0))⟩,
    ⟨(some 17), none, .mov (.tmp 16)⟩,
    ⟨(some 18), (some (17, false)), .fieldAddr 8 (.tmp 1)⟩,
    ⟨(some 19), (some (17, false)), .load none (.tmp 18)⟩,
    ⟨(some 20), (some (17, false)), .ibin .gtr (.tmp 19) (.const (.int .i64 255))⟩,
    ⟨(some 21), none, .pick (.tmp 17) (.const (.bool true)) (.tmp 20)⟩,
    ⟨(some 22), none, .mov (.tmp 21)⟩,
    ⟨(some 23), (some (22, false)), .fieldAddr 12 (.tmp 1)⟩,
    ⟨(some 24), (some (22, false)), .load none (.tmp 23)⟩,
    ⟨(some 25), (some (22, false)), .ibin .lss (.tmp 24) (.const (.int .i64 0))⟩,
    ⟨(some 26), none, .pick (.tmp 22) (.const (.bool true)) (.tmp 25)⟩,
    ⟨(some 27), none, .mov (.tmp 26)⟩,
    ⟨(some 28), (some (27, false)), .fieldAddr 12 (.tmp 1)⟩,
    ⟨(some 29), (some (27, false)), .load none (.tmp 28)⟩,
    ⟨(some 30), (some (27, false)), .ibin .gtr (.tmp 29) (.const (.int .i64 63))⟩,
    ⟨(some 31), none, .pick (.tmp 27) (.const (.bool true)) (.tmp 30)⟩,
    ⟨(some 32), none, .mov (.tmp 31)⟩,
    ⟨(some 33), (some (32, false)), .mov (.tmp 3)⟩,
    ⟨(some 34), (some (32, false)), .fieldAddr 9 (.tmp 1)⟩,
    ⟨(some 35), (some (32, false)), .load none (.tmp 34)⟩,
    ⟨(some 36), (some (32, false)), .callV (.tmp 33) [.tmp 35]⟩,
    ⟨(some 37), (some (32, false)), .un .not (.tmp 36)⟩,
    ⟨(some 38), none, .pick (.tmp 32) (.const (.bool true)) (.tmp 37)⟩,
    ⟨(some 39), none, .mov (.tmp 38)⟩,
    ⟨(some 40), (some (39, false)), .mov (.tmp 3)⟩,
    ⟨(some 41), (some (39, false)), .fieldAddr 10 (.tmp 1)⟩,
    ⟨(some 42), (some (39, false)), .load none (.tmp 41)⟩,
    ⟨(some 43), (some (39, false)), .callV (.tmp 40) [.tmp 42]⟩,
    ⟨(some 44), (some (39, false)), .un .not (.tmp 43)⟩,
    ⟨(some 45), none, .pick (.tmp 39) (.const (.bool true)) (.tmp 44)⟩,
    ⟨(some 13), none, .mov (.tmp 45)⟩]

def f9r4 : List AInstr := [
    ⟨(some 2), none, .mov (.const (.int .i64 2))⟩]

def f9r5 : List AInstr := [
    ⟨(some 47), none, .mov (.tmp 4)⟩,
    ⟨(some 48), none, .un .not (.tmp 47)⟩,
    ⟨(some 49), none, .mov (.tmp 48)⟩,
    ⟨(some 50), (some (49, true)), .fieldAddr 9 (.tmp 1)⟩,
    ⟨(some 51), (some (49, true)), .load none (.tmp 50)⟩,
    ⟨(some 52), (some (49, true)), .ibin .gtr (.tmp 51) (.const (.int .i64 0))⟩,
    ⟨(some 53), (some (49, true)), .mov (.tmp 52)⟩,
    ⟨(some 54), (some (53, false)), .fieldAddr 10 (.tmp 1)⟩,
    ⟨(some 55), (some (53, false)), .load none (.tmp 54)⟩,
    ⟨(some 56), (some (53, false)), .ibin .gtr (.tmp 55) (.const (.int .i64 0))⟩,
    ⟨(some 57), (some (49, true)), .pick (.tmp 53) (.const (.bool true)) (.tmp 56)⟩,
    ⟨(some 58), none, .pick (.tmp 49) (.tmp 57) (.const (.bool false))⟩,
    ⟨(some 46), none, .mov (.tmp 58)⟩]

def f9r6 : List AInstr := [
    ⟨(some 2), none, .mov (.const (.int .i64 1))⟩]

def f9r7 : List AInstr := [
    ⟨(some 60), none, .fieldAddr 11 (.tmp 1)⟩,
    ⟨(some 61), none, .load none (.tmp 60)⟩,
    ⟨(some 62), none, .ibin .gtr (.tmp 61) (.const (.int .i64 65535))⟩,
    ⟨(some 63), none, .mov (.tmp 62)⟩,
    ⟨(some 64), (some (63, false)), .mov (.tmp 4)⟩,
    ⟨(some 65), (some (63, false)), .mov (.tmp 64)⟩,
    ⟨(some 66), (some (65, true)), .fieldAddr 11 (.tmp 1)⟩,
    ⟨(some 67), (some (65, true)), .load none (.tmp 66)⟩,
    ⟨(some 68), (some (65, true)), .ibin .lss (.tmp 67) (.const (.int .i64 24))⟩,
    ⟨(some 69), (some (63, false)), .pick (.tmp 65) (.tmp 68) (.const (.bool false))⟩,
    ⟨(some 70), none, .pick (.tmp 63) (.const (.bool true)) (.tmp 69)⟩,
    ⟨(some 71), none, .mov (.tmp 70)⟩,
    ⟨(some 72), (some (71, false)), .fieldAddr 11 (.tmp 1)⟩,
    ⟨(some 73), (some (71, false)), .load none (.tmp 72)⟩,
    ⟨(some 74), (some (71, false)), .ibin .lss (.tmp 73) (.const (.int .i64 20))⟩,
    ⟨(some 75), none, .pick (.tmp 71) (.const (.bool true)) (.tmp 74)⟩,
    ⟨(some 59), none, .mov (.tmp 75)⟩]

def f9r8 : List AInstr := [
    ⟨(some 2), none, .mov (.const (.int .i64 2))⟩]

def f9r9 : List AInstr := [
    ⟨(some 2), none, .mov (.const (.int .i64 0))⟩]

def f9b : ACode := (.seq (.ops f9r0)
  (.keep [1] (.seq (.ops f9r1)
  (.keep [1, 3] (.seq (.ops f9r2)
  (.keep [1, 3, 4] (.seq (.block 0 (.seq (.ops f9r3)
  (.keep [1, 4, 13] (.cond (.tmp 13) (.keep [] (.seq (.ops f9r4)
  (.keep [2] .ret))) (.keep [1, 4] (.seq (.ops f9r5)
  (.keep [1, 4, 46] (.cond (.tmp 46) (.keep [] (.seq (.ops f9r6)
  (.keep [2] .ret))) (.keep [1, 4] (.seq (.ops f9r7)
  (.keep [59] (.cond (.tmp 59) (.keep [] (.seq (.ops f9r8)
  (.keep [2] .ret))) .skip))))))))))))
  (.keep [] (.seq (.ops f9r9)
  (.keep [2] .ret))))))))))

def f9 : AFn := ⟨76, [.tmp 2], f9b⟩

theorem f9_ok : compFn Try.prog 9 = some f9.strip := by kernel_rfl

/- function 10: weirhouse/head.Read; parameters 1; operations that are not compiled: 0 -/
def f10r0 : List AInstr := [
    ⟨(some 1), none, .box (.tmp 0)⟩,
    ⟨(some 2), none, .alloc [.int .u8 0, .int .u8 0, .int .u8 0, .int .u8 0, .int .u8 0, .int .u8 0, .int .u8 0, .int .u8 0, .int .i64 0, .int .i64 0, .int .i64 0, .int .i64 0, .int .i64 0]⟩,
    ⟨(some 3), none, .mov (.const (.int .i64 0))⟩]

def f10r1 : List AInstr := [
    ⟨(some 4), none, .mov (.const (.func (.func 14) #[] #[]))⟩]

def f10r2 : List AInstr := [
    ⟨(some 10), none, .load none (.tmp 1)⟩,
    ⟨(some 11), none, .len (.tmp 10)⟩,
    ⟨(some 12), none, .ibin .lss (.tmp 11) (.const (.int .i64 20))⟩]

def f10r3 : List AInstr := [
    ⟨(some 13), none, .mov (.tmp 4)⟩,
    ⟨(some 14), none, .callV (.tmp 13) [.const (.int .i64 8)]⟩,
    ⟨(some 15), none, .extract 0 (.tmp 14)⟩,
    ⟨(some 16), none, .extract 1 (.tmp 14)⟩,
    ⟨none, none, .store 13 (.tmp 2) (.tmp 15)⟩,
    ⟨(some 3), none, .mov (.tmp 16)⟩]

def f10r4 : List AInstr := [
    ⟨(some 17), none, .load none (.tmp 1)⟩,
    ⟨(some 18), none, .indexAddr 1 (.tmp 17) (.const (.int .i64 0))⟩,
    ⟨(some 19), none, .load none (.tmp 18)⟩,
    ⟨(some 20), none, .ibin .shr (.tmp 19) (.const (.int .u64 4))⟩,
    ⟨(some 21), none, .ibin .neq (.tmp 20) (.const (.int .u8 4))⟩,
    ⟨(some 22), none, .mov (.tmp 21)⟩,
    ⟨(some 23), (some (22, false)), .load none (.tmp 1)⟩,
    ⟨(some 24), (some (22, false)), .indexAddr 1 (.tmp 23) (.const (.int .i64 0))⟩,
    ⟨(some 25), (some (22, false)), .load none (.tmp 24)⟩,
    ⟨(some 26), (some (22, false)), .ibin .and (.tmp 25) (.const (.int .u8 15))⟩,
    ⟨(some 27), (some (22, false)), .ibin .lss (.tmp 26) (.const (.int .u8 5))⟩,
    ⟨(some 28), none, .pick (.tmp 22) (.const (.bool true)) (.tmp 27)⟩]

def f10r5 : List AInstr := [
    ⟨(some 29), none, .mov (.tmp 4)⟩,
    ⟨(some 30), none, .callV (.tmp 29) [.const (.int .i64 1)]⟩,
    ⟨(some 31), none, .extract 0 (.tmp 30)⟩,
    ⟨(some 32), none, .extract 1 (.tmp 30)⟩,
    ⟨none, none, .store 13 (.tmp 2) (.tmp 31)⟩,
    ⟨(some 3), none, .mov (.tmp 32)⟩]

def f10r6 : List AInstr := [
    ⟨(some 33), none, .load none (.tmp 1)⟩,
    ⟨(some 34), none, .indexAddr 1 (.tmp 33) (.const (.int .i64 0))⟩,
    ⟨(some 35), none, .load none (.tmp 34)⟩,
    ⟨(some 36), none, .ibin .and (.tmp 35) (.const (.int .u8 15))⟩,
    ⟨(some 37), none, .conv .i64 (.tmp 36)⟩,
    ⟨(some 38), none, .ibin .mul (.const (.int .i64 4)) (.tmp 37)⟩,
    ⟨(some 5), none, .mov (.tmp 38)⟩]

def f10r7 : List AInstr := [
    ⟨(some 39), none, .func (.func 15) [] [.tmp 1]⟩,
    ⟨(some 6), none, .mov (.tmp 39)⟩]

def f10r8 : List AInstr := [
    ⟨(some 40), none, .load none (.tmp 1)⟩,
    ⟨(some 41), none, .indexAddr 1 (.tmp 40) (.const (.int .i64 9))⟩,
    ⟨(some 42), none, .load none (.tmp 41)⟩,
    ⟨(some 43), none, .conv .i64 (.tmp 42)⟩,
    ⟨(some 44), none, .mov (.tmp 6)⟩,
    ⟨(some 46), none, .load none (.tmp 1)⟩,
    ⟨(some 47), none, .indexAddr 1 (.tmp 46) (.const (.int .i64 1))⟩,
    ⟨(some 48), none, .load none (.tmp 47)⟩,
    ⟨(some 49), none, .ibin .shr (.tmp 48) (.const (.int .u64 2))⟩,
    ⟨(some 50), none, .conv .i64 (.tmp 49)⟩,
    ⟨(some 45), none, .callV (.tmp 44) [.const (.int .i64 2)]⟩,
    ⟨(some 51), none, .build [.int .u8 0, .int .u8 0, .int .u8 0, .int .u8 0, .int .u8 0, .int .u8 0, .int .u8 0, .int .u8 0, .int .i64 0, .int .i64 0, .int .i64 0, .int .i64 0, .int .i64 0] [(8, 1, (.tmp 43)), (11, 1, (.tmp 45)), (12, 1, (.tmp 50))]⟩,
    ⟨(some 7), none, .alloc [.int .u8 0, .int .u8 0, .int .u8 0, .int .u8 0, .int .u8 0, .int .u8 0, .int .u8 0, .int .u8 0, .int .i64 0, .int .i64 0, .int .i64 0, .int .i64 0, .int .i64 0]⟩,
    ⟨none, none, .store 13 (.tmp 7) (.tmp 51)⟩]

def f10r9 : List AInstr := [
    ⟨(some 40), none, .load none (.tmp 1)⟩,
    ⟨(some 41), none, .indexAddr 1 (.tmp 40) (.const (.int .i64 9))⟩,
    ⟨(some 42), none, .load none (.tmp 41)⟩,
    ⟨(some 43), none, .conv .i64 (.tmp 42)⟩,
    ⟨(some 44), none, .mov (.tmp 6)⟩,
    ⟨(some 46), none, .load none (.tmp 1)⟩,
    ⟨(some 47), none, .indexAddr 1 (.tmp 46) (.const (.int .i64 1))⟩,
    ⟨(some 48), none, .load none (.tmp 47)⟩,
    ⟨(some 49), none, .ibin .shr (.tmp 48) (.const (.int .u64 2))⟩,
    ⟨(some 50), none, .conv .i64 (.tmp 49)⟩,
    ⟨(some 7), none, .alloc [.int .u8 0, .int .u8 0, .int .u8 0, .int .u8 0, .int .u8 0, .int .u8 0, .int .u8 0, .int .u8 0, .int .i64 0, .int .i64 0, .int .i64 0, .int .i64 0, .int .i64 0]⟩,
    ⟨(some 45), none, .callV (.tmp 44) [.const (.int .i64 2)]⟩,
    ⟨(some 51), none, .build [.int .u8 0, .int .u8 0, .int .u8 0, .int .u8 0, .int .u8 0, .int .u8 0, .int .u8 0, .int .u8 0, .int .i64 0, .int .i64 0, .int .i64 0, .int .i64 0, .int .i64 0] [(8, 1, (.tmp 43)), (11, 1, (.tmp 45)), (12, 1, (.tmp 50))]⟩,
    ⟨none, none, .store 13 (.tmp 7) (.tmp 51)⟩]

def f10r10 : List AInstr := [
    ⟨(some 52), none, .mov (.const (.int .i64 0))⟩]

def f10r11 : List AInstr := [
    ⟨(some 53), none, .ibin .lss (.tmp 52) (.const (.int .i64 4))⟩]

def f10r12 : List AInstr := [
    ⟨(some 54), none, .mov (.tmp 52)⟩,
    ⟨(some 8), none, .mov (.tmp 54)⟩]

def f10r13 : List AInstr := [
    ⟨(some 55), none, .mov (.tmp 8)⟩,
    ⟨(some 56), none, .mov (.tmp 8)⟩,
    ⟨(some 57), none, .load none (.tmp 1)⟩,
    ⟨(some 58), none, .mov (.tmp 8)⟩,
    ⟨(some 59), none, .ibin .add (.const (.int .i64 12)) (.tmp 58)⟩,
    ⟨(some 60), none, .indexAddr 1 (.tmp 57) (.tmp 59)⟩,
    ⟨(some 61), none, .load none (.tmp 60)⟩,
    ⟨(some 62), none, .load none (.tmp 1)⟩,
    ⟨(some 63), none, .mov (.tmp 8)⟩,
    ⟨(some 64), none, .ibin .add (.const (.int .i64 16)) (.tmp 63)⟩,
    ⟨(some 65), none, .indexAddr 1 (.tmp 62) (.tmp 64)⟩,
    ⟨(some 66), none, .load none (.tmp 65)⟩,
    ⟨(some 67), none, .fieldAddr 0 (.tmp 7)⟩,
    ⟨(some 68), none, .indexArr 1 4 (.tmp 67) (.tmp 55)⟩,
    ⟨none, none, .store 1 (.tmp 68) (.tmp 61)⟩,
    ⟨(some 69), none, .fieldAddr 4 (.tmp 7)⟩,
    ⟨(some 70), none, .indexArr 1 4 (.tmp 69) (.tmp 56)⟩,
    ⟨none, none, .store 1 (.tmp 70) (.tmp 66)⟩]

def f10r14 : List AInstr := [
    ⟨(some 71), none, .ibin .add (.tmp 52) (.const (.int .i64 1))⟩,
    ⟨(some 52), none, .mov (.tmp 71)⟩]

/-- live: [1, 2, 4, 5, 6, 7, 52] -/
def f10l0 : ACode := (.seq (.ops f10r11)
  (.keep [1, 2, 4, 5, 6, 7, 52, 53] (.seq (.cond (.tmp 53) .skip (.exit 0))
  (.keep [1, 2, 4, 5, 6, 7, 52] (.seq (.block 1 (.seq (.ops f10r12)
  (.keep [1, 2, 4, 5, 6, 7, 8, 52] (.draw f10r13 [(0, 0, false), (0, 1, false), (0, 0, false), (0, 0, false), (0, 0, false), (0, 0, false), (0, 0, false), (0, 1, false), (0, 1, false), (0, 1, false), (0, 1, false), (0, 1, false), (0, 0, false), (0, 0, false), (0, 2, true), (0, 1, false), (1, 1, false), (1, 0, true)]))))
  (.keep [1, 2, 4, 5, 6, 7, 52] (.ops f10r14)))))))

def f10r16 : List AInstr := [
    ⟨(some 72), none, .fieldAddr 8 (.tmp 7)⟩,
    ⟨(some 73), none, .load none (.tmp 72)⟩,
    ⟨(some 74), none, .ibin .eql (.tmp 73) (.const (.int .i64 6))⟩,
    ⟨(some 75), none, .mov (.tmp 74)⟩,
    ⟨(some 76), (some (75, false)), .fieldAddr 8 (.tmp 7)⟩,
    ⟨(some 77), (some (75, false)), .load none (.tmp 76)⟩,
    ⟨(some 78), (some (75, false)), .ibin .eql (.tmp 77) (.const (.int .i64 17))⟩,
    ⟨(some 79), none, .pick (.tmp 75) (.const (.bool true)) (.tmp 78)⟩,
    ⟨(some 80), none, .mov (.tmp 79)⟩,
    ⟨(some 81), (some (80, true)), .mov (.tmp 6)⟩,
    ⟨(some 82), (some (80, true)), .callV (.tmp 81) [.const (.int .i64 6)]⟩,
    ⟨(some 83), (some (80, true)), .ibin .and (.tmp 82) (.const (.int .i64 8191))⟩,
    ⟨(some 84), (some (80, true)), .ibin .eql (.tmp 83) (.const (.int .i64 0))⟩,
    ⟨(some 85), none, .pick (.tmp 80) (.tmp 84) (.const (.bool false))⟩,
    ⟨(some 9), none, .mov (.tmp 85)⟩]

def f10r17 : List AInstr := [
    ⟨(some 87), none, .load none (.tmp 1)⟩,
    ⟨(some 88), none, .len (.tmp 87)⟩,
    ⟨(some 89), none, .mov (.tmp 5)⟩,
    ⟨(some 90), none, .ibin .lss (.tmp 88) (.tmp 89)⟩,
    ⟨(some 91), none, .mov (.tmp 90)⟩,
    ⟨(some 92), (some (91, false)), .load none (.tmp 1)⟩,
    ⟨(some 93), (some (91, false)), .len (.tmp 92)⟩,
    ⟨(some 94), (some (91, false)), .fieldAddr 11 (.tmp 7)⟩,
    ⟨(some 95), (some (91, false)), .load none (.tmp 94)⟩,
    ⟨(some 96), (some (91, false)), .ibin .lss (.tmp 93) (.tmp 95)⟩,
    ⟨(some 97), none, .pick (.tmp 91) (.const (.bool true)) (.tmp 96)⟩,
    ⟨(some 86), none, .mov (.tmp 97)⟩]

def f10r18 : List AInstr := [
    ⟨(some 98), none, .mov (.tmp 4)⟩,
    ⟨(some 99), none, .callV (.tmp 98) [.const (.int .i64 8)]⟩,
    ⟨(some 100), none, .extract 0 (.tmp 99)⟩,
    ⟨(some 101), none, .extract 1 (.tmp 99)⟩,
    ⟨none, none, .store 13 (.tmp 2) (.tmp 100)⟩,
    ⟨(some 3), none, .mov (.tmp 101)⟩]

def f10r19 : List AInstr := [
    ⟨(some 103), none, .fieldAddr 11 (.tmp 7)⟩,
    ⟨(some 104), none, .load none (.tmp 103)⟩,
    ⟨(some 105), none, .mov (.tmp 5)⟩,
    ⟨(some 106), none, .ibin .lss (.tmp 104) (.tmp 105)⟩,
    ⟨(some 102), none, .mov (.tmp 106)⟩]

def f10r20 : List AInstr := [
    ⟨(some 107), none, .mov (.tmp 4)⟩,
    ⟨(some 108), none, .callV (.tmp 107) [.const (.int .i64 1)]⟩,
    ⟨(some 109), none, .extract 0 (.tmp 108)⟩,
    ⟨(some 110), none, .extract 1 (.tmp 108)⟩,
    ⟨none, none, .store 13 (.tmp 2) (.tmp 109)⟩,
    ⟨(some 3), none, .mov (.tmp 110)⟩]

def f10r21 : List AInstr := [
    ⟨(some 112), none, .load none (.tmp 1)⟩,
    ⟨(some 113), none, .mov (.tmp 5)⟩,
    ⟨(some 114), none, .slice 1 (.tmp 112) none (some (.tmp 113)) none⟩,
    ⟨(some 115), none, .callF 16 [.tmp 114]⟩,
    ⟨(some 116), none, .ibin .neq (.tmp 115) (.const (.int .u16 65535))⟩,
    ⟨(some 111), none, .mov (.tmp 116)⟩]

def f10r22 : List AInstr := [
    ⟨(some 117), none, .mov (.tmp 4)⟩,
    ⟨(some 118), none, .callV (.tmp 117) [.const (.int .i64 7)]⟩,
    ⟨(some 119), none, .extract 0 (.tmp 118)⟩,
    ⟨(some 120), none, .extract 1 (.tmp 118)⟩,
    ⟨none, none, .store 13 (.tmp 2) (.tmp 119)⟩,
    ⟨(some 3), none, .mov (.tmp 120)⟩]

def f10r23 : List AInstr := [
    ⟨(some 122), none, .mov (.tmp 9)⟩,
    ⟨(some 123), none, .mov (.tmp 122)⟩,
    ⟨(some 124), (some (123, true)), .fieldAddr 11 (.tmp 7)⟩,
    ⟨(some 125), (some (123, true)), .load none (.tmp 124)⟩,
    ⟨(some 126), (some (123, true)), .mov (.tmp 5)⟩,
    ⟨(some 127), (some (123, true)), .ibin .add (.tmp 126) (.const (.int .i64 4))⟩,
    ⟨(some 128), (some (123, true)), .ibin .lss (.tmp 125) (.tmp 127)⟩,
    ⟨(some 129), none, .pick (.tmp 123) (.tmp 128) (.const (.bool false))⟩,
    ⟨(some 121), none, .mov (.tmp 129)⟩]

def f10r24 : List AInstr := [
    ⟨(some 130), none, .mov (.tmp 4)⟩,
    ⟨(some 131), none, .callV (.tmp 130) [.const (.int .i64 8)]⟩,
    ⟨(some 132), none, .extract 0 (.tmp 131)⟩,
    ⟨(some 133), none, .extract 1 (.tmp 131)⟩,
    ⟨none, none, .store 13 (.tmp 2) (.tmp 132)⟩,
    ⟨(some 3), none, .mov (.tmp 133)⟩]

def f10r25 : List AInstr := [
    ⟨(some 134), none, .mov (.tmp 9)⟩]

def f10r26 : List AInstr := [
    ⟨(some 135), none, .mov (.tmp 6)⟩,
    ⟨(some 136), none, .mov (.tmp 5)⟩,
    ⟨(some 137), none, .callV (.tmp 135) [.tmp 136]⟩,
    ⟨(some 138), none, .mov (.tmp 6)⟩,
    ⟨(some 139), none, .mov (.tmp 5)⟩,
    ⟨(some 140), none, .ibin .add (.tmp 139) (.const (.int .i64 2))⟩,
    ⟨(some 141), none, .callV (.tmp 138) [.tmp 140]⟩,
    ⟨(some 142), none, .fieldAddr 9 (.tmp 7)⟩,
    ⟨none, none, .store 1 (.tmp 142) (.tmp 137)⟩,
    ⟨(some 143), none, .fieldAddr 10 (.tmp 7)⟩,
    ⟨none, none, .store 1 (.tmp 143) (.tmp 141)⟩]

def f10r27 : List AInstr := [
    ⟨(some 144), none, .load (some 13) (.tmp 7)⟩,
    ⟨none, none, .store 13 (.tmp 2) (.tmp 144)⟩,
    ⟨(some 3), none, .mov (.const (.int .i64 0))⟩]

def f10b : ACode := (.seq (.ops f10r0)
  (.keep [1, 2] (.seq (.ops f10r1)
  (.keep [1, 2, 4] (.seq (.seq (.ops f10r2)
  (.keep [1, 2, 4, 12] (.cond (.tmp 12) (.keep [2, 4] (.seq (.ops f10r3)
  (.keep [2, 3] .ret))) .skip)))
  (.keep [1, 2, 4] (.seq (.seq (.ops f10r4)
  (.keep [1, 2, 4, 28] (.cond (.tmp 28) (.keep [2, 4] (.seq (.ops f10r5)
  (.keep [2, 3] .ret))) .skip)))
  (.keep [1, 2, 4] (.seq (.ops f10r6)
  (.keep [1, 2, 4, 5] (.seq (.ops f10r7)
  (.keep [1, 2, 4, 5, 6] (.seq (.alt [(f10r8, [(0, 2, false), (0, 2, false), (0, 2, false), (0, 2, false), (0, 0, false), (0, 2, false), (0, 2, false), (0, 2, false), (0, 2, false), (0, 2, false), (0, 0, true), (1, 2, false), (1, 0, true), (2, 0, true)]), (f10r9, [(0, 2, false), (0, 2, false), (0, 2, false), (0, 2, false), (0, 1, false), (0, 2, false), (0, 2, false), (0, 2, false), (0, 2, false), (0, 2, false), (0, 0, true), (1, 0, true), (2, 2, false), (2, 0, true)])])
  (.keep [1, 2, 4, 5, 6, 7] (.seq (.seq (.ops f10r10)
  (.keep [1, 2, 4, 5, 6, 7, 52] (.block 0 (.loop f10l0))))
  (.keep [1, 2, 4, 5, 6, 7] (.seq (.ops f10r16)
  (.keep [1, 2, 4, 5, 6, 7, 9] (.seq (.block 2 (.seq (.ops f10r17)
  (.keep [1, 2, 4, 5, 6, 7, 9, 86] (.cond (.tmp 86) (.keep [2, 4] (.seq (.ops f10r18)
  (.keep [2, 3] .ret))) (.keep [1, 2, 4, 5, 6, 7, 9] (.seq (.ops f10r19)
  (.keep [1, 2, 4, 5, 6, 7, 9, 102] (.cond (.tmp 102) (.keep [2, 4] (.seq (.ops f10r20)
  (.keep [2, 3] .ret))) (.keep [1, 2, 4, 5, 6, 7, 9] (.seq (.ops f10r21)
  (.keep [2, 4, 5, 6, 7, 9, 111] (.cond (.tmp 111) (.keep [2, 4] (.seq (.ops f10r22)
  (.keep [2, 3] .ret))) (.keep [2, 4, 5, 6, 7, 9] (.seq (.ops f10r23)
  (.keep [2, 4, 5, 6, 7, 9, 121] (.cond (.tmp 121) (.keep [2, 4] (.seq (.ops f10r24)
  (.keep [2, 3] .ret))) .skip))))))))))))))))
  (.keep [2, 5, 6, 7, 9] (.seq (.seq (.ops f10r25)
  (.keep [2, 5, 6, 7, 134] (.cond (.tmp 134) (.keep [2, 5, 6, 7] (.ops f10r26)) .skip)))
  (.keep [2, 7] (.seq (.ops f10r27)
  (.keep [2, 3] .ret))))))))))))))))))))))))

def f10 : AFn := ⟨145, [.cell 2 (some 13), .tmp 3], f10b⟩

theorem f10_ok : compFn Try.prog 10 = some f10.strip := by kernel_rfl

/- function 11: slices.Concat[[]byte,byte]; parameters 1; operations that are not compiled: 2 -/
def f11r0 : List AInstr := [
    ⟨(some 2), none, .mov (.const (.slice none 0 0))⟩]

def f11r1 : List AInstr := [
    ⟨(some 3), none, .mov (.const (.int .i64 0))⟩]

def f11r2 : List AInstr := [
    ⟨(some 9), none, .mov (.tmp 0)⟩,
    ⟨(some 10), none, .len (.tmp 9)⟩,
    ⟨(some 11), none, .mov (.const (.int .i64 0))⟩]

def f11r3 : List AInstr := [
    ⟨(some 12), none, .ibin .lss (.tmp 11) (.tmp 10)⟩]

def f11r4 : List AInstr := [
    ⟨(some 13), none, .indexAddr 1 (.tmp 9) (.tmp 11)⟩,
    ⟨(some 14), none, .load none (.tmp 13)⟩,
    ⟨(some 5), none, .mov (.tmp 14)⟩]

def f11r5 : List AInstr := [
    ⟨(some 15), none, .mov (.tmp 3)⟩,
    ⟨(some 16), none, .mov (.tmp 5)⟩,
    ⟨(some 17), none, .len (.tmp 16)⟩,
    ⟨(some 18), none, .ibin .add (.tmp 15) (.tmp 17)⟩,
    ⟨(some 3), none, .mov (.tmp 18)⟩]

def f11r6 : List AInstr := [
    ⟨(some 19), none, .mov (.tmp 3)⟩,
    ⟨(some 20), none, .ibin .lss (.tmp 19) (.const (.int .i64 0))⟩]

def f11r7 : List AInstr := [
    ⟨(some 21), none, .bad⟩,
    ⟨none, none, .bad⟩]

def f11r8 : List AInstr := [
    ⟨(some 22), none, .ibin .add (.tmp 11) (.const (.int .i64 1))⟩,
    ⟨(some 11), none, .mov (.tmp 22)⟩]

/-- live: [0, 3, 9, 10, 11] -/
def f11l0 : ACode := (.seq (.ops f11r3)
  (.keep [0, 3, 9, 10, 11, 12] (.seq (.cond (.tmp 12) .skip (.exit 0))
  (.keep [0, 3, 9, 10, 11] (.seq (.block 1 (.seq (.ops f11r4)
  (.keep [0, 3, 5, 9, 10, 11] (.seq (.ops f11r5)
  (.keep [0, 3, 9, 10, 11] (.seq (.ops f11r6)
  (.keep [0, 3, 9, 10, 11, 20] (.cond (.tmp 20) (.keep [0, 3, 9, 10, 11] (.ops f11r7)) .skip))))))))
  (.keep [0, 3, 9, 10, 11] (.ops f11r8)))))))

def f11r10 : List AInstr := [
    ⟨(some 23), none, .mov (.tmp 3)⟩,
    ⟨(some 24), none, .callF 17 [.const (.slice none 0 0), .tmp 23]⟩,
    ⟨(some 6), none, .mov (.tmp 24)⟩]

def f11r11 : List AInstr := [
    ⟨(some 25), none, .mov (.tmp 0)⟩,
    ⟨(some 26), none, .len (.tmp 25)⟩,
    ⟨(some 27), none, .mov (.const (.int .i64 0))⟩]

def f11r12 : List AInstr := [
    ⟨(some 28), none, .ibin .lss (.tmp 27) (.tmp 26)⟩]

def f11r13 : List AInstr := [
    ⟨(some 29), none, .indexAddr 1 (.tmp 25) (.tmp 27)⟩,
    ⟨(some 30), none, .load none (.tmp 29)⟩,
    ⟨(some 8), none, .mov (.tmp 30)⟩]

def f11r14 : List AInstr := [
    ⟨(some 31), none, .mov (.tmp 6)⟩,
    ⟨(some 32), none, .mov (.tmp 8)⟩,
    ⟨(some 33), none, .append 1 1 (.tmp 31) (.tmp 32)⟩,
    ⟨(some 6), none, .mov (.tmp 33)⟩]

def f11r15 : List AInstr := [
    ⟨(some 34), none, .ibin .add (.tmp 27) (.const (.int .i64 1))⟩,
    ⟨(some 27), none, .mov (.tmp 34)⟩]

/-- live: [6, 25, 26, 27] -/
def f11l1 : ACode := (.seq (.ops f11r12)
  (.keep [6, 25, 26, 27, 28] (.seq (.cond (.tmp 28) .skip (.exit 2))
  (.keep [6, 25, 26, 27] (.seq (.block 3 (.seq (.ops f11r13)
  (.keep [6, 8, 25, 26, 27] (.ops f11r14))))
  (.keep [6, 25, 26, 27] (.ops f11r15)))))))

def f11r17 : List AInstr := [
    ⟨(some 35), none, .mov (.tmp 6)⟩,
    ⟨(some 2), none, .mov (.tmp 35)⟩]

def f11b : ACode := (.seq (.ops f11r0)
  (.keep [0] (.seq (.ops f11r1)
  (.keep [0, 3] (.seq (.seq (.ops f11r2)
  (.keep [0, 3, 9, 10, 11] (.block 0 (.loop f11l0))))
  (.keep [0, 3] (.seq (.ops f11r10)
  (.keep [0, 6] (.seq (.seq (.ops f11r11)
  (.keep [6, 25, 26, 27] (.block 2 (.loop f11l1))))
  (.keep [6] (.seq (.ops f11r17)
  (.keep [2] .ret))))))))))))

def f11 : AFn := ⟨36, [.tmp 2], f11b⟩

theorem f11_ok : compFn Try.prog 11 = some f11.strip := by kernel_rfl

/- function 12: weirhouse/sums.Check; parameters 1; operations that are not compiled: 0 -/
def f12r0 : List AInstr := [
    ⟨(some 2), none, .mov (.const (.int .u16 0))⟩]

def f12r1 : List AInstr := [
    ⟨(some 3), none, .mov (.tmp 0)⟩,
    ⟨(some 4), none, .callF 16 [.tmp 3]⟩,
    ⟨(some 5), none, .un .xor (.tmp 4)⟩,
    ⟨(some 2), none, .mov (.tmp 5)⟩]

def f12b : ACode := (.seq (.ops f12r0)
  (.keep [0] (.seq (.ops f12r1)
  (.keep [2] .ret))))

def f12 : AFn := ⟨6, [.tmp 2], f12b⟩

theorem f12_ok : compFn Try.prog 12 = some f12.strip := by kernel_rfl

/- function 13: weirhouse/head.Wrong$1; parameters 1; operations that are not compiled: 0 -/
def f13r0 : List AInstr := [
    ⟨(some 2), none, .mov (.const (.bool false))⟩]

def f13r1 : List AInstr := [
    ⟨(some 3), none, .mov (.tmp 0)⟩,
    ⟨(some 4), none, .ibin .geq (.tmp 3) (.const (.int .i64 0))⟩,
    ⟨(some 5), none, .mov (.tmp 4)⟩,
    ⟨(some 6), (some (5, true)), .mov (.tmp 0)⟩,
    ⟨(some 7), (some (5, true)), .ibin .leq (.tmp 6) (.const (.int .i64 65535))⟩,
    ⟨(some 8), none, .pick (.tmp 5) (.tmp 7) (.const (.bool false))⟩,
    ⟨(some 2), none, .mov (.tmp 8)⟩]

def f13b : ACode := (.seq (.ops f13r0)
  (.keep [0] (.seq (.ops f13r1)
  (.keep [2] .ret))))

def f13 : AFn := ⟨9, [.tmp 2], f13b⟩

theorem f13_ok : compFn Try.prog 13 = some f13.strip := by kernel_rfl

/- function 14: weirhouse/head.Read$1; parameters 1; operations that are not compiled: 0 -/
def f14r0 : List AInstr := [
    ⟨(some 2), none, .alloc [.int .u8 0, .int .u8 0, .int .u8 0, .int .u8 0, .int .u8 0, .int .u8 0, .int .u8 0, .int .u8 0, .int .i64 0, .int .i64 0, .int .i64 0, .int .i64 0, .int .i64 0]⟩,
    ⟨(some 3), none, .mov (.const (.int .i64 0))⟩]

def f14r1 : List AInstr := [
    ⟨(some 4), none, .build [.int .u8 0, .int .u8 0, .int .u8 0, .int .u8 0, .int .u8 0, .int .u8 0, .int .u8 0, .int .u8 0, .int .i64 0, .int .i64 0, .int .i64 0, .int .i64 0, .int .i64 0] []⟩,
    ⟨(some 5), none, .mov (.tmp 0)⟩,
    ⟨none, none, .store 13 (.tmp 2) (.tmp 4)⟩,
    ⟨(some 3), none, .mov (.tmp 5)⟩]

def f14b : ACode := (.seq (.ops f14r0)
  (.keep [0, 2] (.seq (.ops f14r1)
  (.keep [2, 3] .ret))))

def f14 : AFn := ⟨6, [.cell 2 (some 13), .tmp 3], f14b⟩

theorem f14_ok : compFn Try.prog 14 = some f14.strip := by kernel_rfl

/- function 15: weirhouse/head.Read$2; parameters 1; operations that are not compiled: 0 -/
def f15r0 : List AInstr := [
    ⟨(some 3), none, .mov (.const (.int .i64 0))⟩]

def f15r1 : List AInstr := [
    ⟨(some 4), none, .load none (.tmp 1)⟩,
    ⟨(some 5), none, .mov (.tmp 0)⟩,
    ⟨(some 6), none, .indexAddr 1 (.tmp 4) (.tmp 5)⟩,
    ⟨(some 7), none, .load none (.tmp 6)⟩,
    ⟨(some 8), none, .conv .i64 (.tmp 7)⟩,
    ⟨(some 9), none, .ibin .shl (.tmp 8) (.const (.int .u64 8))⟩,
    ⟨(some 10), none, .load none (.tmp 1)⟩,
    ⟨(some 11), none, .mov (.tmp 0)⟩,
    ⟨(some 12), none, .ibin .add (.tmp 11) (.const (.int .i64 1))⟩,
    ⟨(some 13), none, .indexAddr 1 (.tmp 10) (.tmp 12)⟩,
    ⟨(some 14), none, .load none (.tmp 13)⟩,
    ⟨(some 15), none, .conv .i64 (.tmp 14)⟩,
    ⟨(some 16), none, .ibin .or (.tmp 9) (.tmp 15)⟩,
    ⟨(some 3), none, .mov (.tmp 16)⟩]

def f15b : ACode := (.seq (.ops f15r0)
  (.keep [0, 1] (.seq (.draw f15r1 [(0, 0, false), (0, 0, false), (0, 0, false), (0, 0, false), (0, 0, false), (0, 0, false), (0, 0, false), (0, 0, false), (0, 0, false), (0, 0, false), (0, 0, false), (0, 0, false), (0, 0, false), (0, 0, false)])
  (.keep [3] .ret))))

def f15 : AFn := ⟨17, [.tmp 3], f15b⟩

theorem f15_ok : compFn Try.prog 15 = some f15.strip := by kernel_rfl

/- function 16: weirhouse/sums.Of; parameters 1; operations that are not compiled: 0 -/
def f16r0 : List AInstr := [
    ⟨(some 2), none, .mov (.const (.int .u16 0))⟩]

def f16r1 : List AInstr := [
    ⟨(some 3), none, .mov (.const (.int .u64 0))⟩]

def f16r2 : List AInstr := [
    ⟨(some 4), none, .mov (.const (.int .i64 0))⟩]

def f16r3 : List AInstr := [
    ⟨(some 5), none, .mov (.tmp 4)⟩,
    ⟨(some 6), none, .mov (.tmp 0)⟩,
    ⟨(some 7), none, .len (.tmp 6)⟩,
    ⟨(some 8), none, .ibin .lss (.tmp 5) (.tmp 7)⟩]

def f16r4 : List AInstr := [
    ⟨(some 11), none, .mov (.tmp 3)⟩,
    ⟨(some 12), none, .mov (.tmp 0)⟩,
    ⟨(some 13), none, .mov (.tmp 4)⟩,
    ⟨(some 14), none, .indexAddr 1 (.tmp 12) (.tmp 13)⟩,
    ⟨(some 15), none, .load none (.tmp 14)⟩,
    ⟨(some 16), none, .conv .u64 (.tmp 15)⟩,
    ⟨(some 17), none, .ibin .shl (.tmp 16) (.const (.int .u64 8))⟩,
    ⟨(some 18), none, .ibin .add (.tmp 11) (.tmp 17)⟩,
    ⟨(some 3), none, .mov (.tmp 18)⟩]

def f16r5 : List AInstr := [
    ⟨(some 19), none, .mov (.tmp 4)⟩,
    ⟨(some 20), none, .ibin .add (.tmp 19) (.const (.int .i64 1))⟩,
    ⟨(some 21), none, .mov (.tmp 0)⟩,
    ⟨(some 22), none, .len (.tmp 21)⟩,
    ⟨(some 23), none, .ibin .lss (.tmp 20) (.tmp 22)⟩]

def f16r6 : List AInstr := [
    ⟨(some 24), none, .mov (.tmp 3)⟩,
    ⟨(some 25), none, .mov (.tmp 0)⟩,
    ⟨(some 26), none, .mov (.tmp 4)⟩,
    ⟨(some 27), none, .ibin .add (.tmp 26) (.const (.int .i64 1))⟩,
    ⟨(some 28), none, .indexAddr 1 (.tmp 25) (.tmp 27)⟩,
    ⟨(some 29), none, .load none (.tmp 28)⟩,
    ⟨(some 30), none, .conv .u64 (.tmp 29)⟩,
    ⟨(some 31), none, .ibin .add (.tmp 24) (.tmp 30)⟩,
    ⟨(some 3), none, .mov (.tmp 31)⟩]

def f16r7 : List AInstr := [
    ⟨(some 9), none, .mov (.tmp 4)⟩,
    ⟨(some 10), none, .ibin .add (.tmp 9) (.const (.int .i64 2))⟩,
    ⟨(some 4), none, .mov (.tmp 10)⟩]

/-- live: [0, 3, 4] -/
def f16l0 : ACode := (.seq (.seq (.ops f16r3)
  (.keep [0, 3, 4, 8] (.cond (.tmp 8) .skip (.exit 0))))
  (.keep [0, 3, 4] (.seq (.block 1 (.seq (.ops f16r4)
  (.keep [0, 3, 4] (.seq (.ops f16r5)
  (.keep [0, 3, 4, 23] (.cond (.tmp 23) (.keep [0, 3, 4] (.ops f16r6)) .skip))))))
  (.keep [0, 3, 4] (.ops f16r7)))))

def f16r9 : List AInstr := [
    ⟨(some 32), none, .mov (.tmp 3)⟩,
    ⟨(some 33), none, .callF 18 [.tmp 32]⟩,
    ⟨(some 2), none, .mov (.tmp 33)⟩]

def f16b : ACode := (.seq (.ops f16r0)
  (.keep [0] (.seq (.ops f16r1)
  (.keep [0, 3] (.seq (.seq (.ops f16r2)
  (.keep [0, 3, 4] (.block 0 (.loop f16l0))))
  (.keep [3] (.seq (.ops f16r9)
  (.keep [2] .ret))))))))

def f16 : AFn := ⟨34, [.tmp 2], f16b⟩

theorem f16_ok : compFn Try.prog 16 = some f16.strip := by kernel_rfl

/- function 17: slices.Grow[[]byte,byte]; parameters 2; operations that are not compiled: 2 -/
def f17r0 : List AInstr := [
    ⟨(some 4), none, .mov (.const (.slice none 0 0))⟩]

def f17r1 : List AInstr := [
    ⟨(some 5), none, .mov (.tmp 1)⟩,
    ⟨(some 6), none, .ibin .lss (.tmp 5) (.const (.int .i64 0))⟩]

def f17r2 : List AInstr := [
    ⟨(some 7), none, .bad⟩,
    ⟨none, none, .bad⟩]

def f17r3 : List AInstr := [
    ⟨(some 8), none, .mov (.tmp 1)⟩,
    ⟨(some 9), none, .mov (.tmp 0)⟩,
    ⟨(some 10), none, .cap (.tmp 9)⟩,
    ⟨(some 11), none, .mov (.tmp 0)⟩,
    ⟨(some 12), none, .len (.tmp 11)⟩,
    ⟨(some 13), none, .ibin .sub (.tmp 10) (.tmp 12)⟩,
    ⟨(some 14), none, .ibin .sub (.tmp 8) (.tmp 13)⟩,
    ⟨(some 1), none, .mov (.tmp 14)⟩]

def f17r4 : List AInstr := [
    ⟨(some 15), none, .mov (.tmp 1)⟩,
    ⟨(some 16), none, .ibin .gtr (.tmp 15) (.const (.int .i64 0))⟩]

def f17r5 : List AInstr := [
    ⟨(some 17), none, .mov (.tmp 0)⟩,
    ⟨(some 18), none, .mov (.tmp 0)⟩,
    ⟨(some 19), none, .cap (.tmp 18)⟩,
    ⟨(some 20), none, .slice 1 (.tmp 17) none (some (.tmp 19)) none⟩,
    ⟨(some 21), none, .mov (.tmp 1)⟩,
    ⟨(some 22), none, .appendZ 1 1 [.int .u8 0] (.tmp 20) (.tmp 21)⟩,
    ⟨(some 23), none, .mov (.tmp 0)⟩,
    ⟨(some 24), none, .len (.tmp 23)⟩,
    ⟨(some 25), none, .slice 1 (.tmp 22) none (some (.tmp 24)) none⟩,
    ⟨(some 0), none, .mov (.tmp 25)⟩]

def f17r6 : List AInstr := [
    ⟨(some 26), none, .mov (.tmp 0)⟩,
    ⟨(some 4), none, .mov (.tmp 26)⟩]

def f17b : ACode := (.seq (.ops f17r0)
  (.keep [0, 1] (.seq (.seq (.ops f17r1)
  (.keep [0, 1, 6] (.cond (.tmp 6) (.keep [0, 1] (.ops f17r2)) .skip)))
  (.keep [0, 1] (.seq (.seq (.ops f17r3)
  (.keep [0, 1] (.seq (.ops f17r4)
  (.keep [0, 1, 16] (.cond (.tmp 16) (.keep [0, 1] (.ops f17r5)) .skip)))))
  (.keep [0] (.seq (.ops f17r6)
  (.keep [4] .ret))))))))

def f17 : AFn := ⟨27, [.tmp 4], f17b⟩

theorem f17_ok : compFn Try.prog 17 = some f17.strip := by kernel_rfl

/- function 18: weirhouse/sums.fold; parameters 1; operations that are not compiled: 0 -/
def f18r0 : List AInstr := [
    ⟨(some 2), none, .mov (.const (.int .u16 0))⟩]

def f18r1 : List AInstr := [
    ⟨(some 3), none, .mov (.tmp 0)⟩,
    ⟨(some 4), none, .ibin .gtr (.tmp 3) (.const (.int .u64 65535))⟩]

def f18r2 : List AInstr := [
    ⟨(some 5), none, .mov (.tmp 0)⟩,
    ⟨(some 6), none, .ibin .shr (.tmp 5) (.const (.int .u64 16))⟩,
    ⟨(some 7), none, .mov (.tmp 0)⟩,
    ⟨(some 8), none, .ibin .and (.tmp 7) (.const (.int .u64 65535))⟩,
    ⟨(some 9), none, .ibin .add (.tmp 6) (.tmp 8)⟩,
    ⟨(some 0), none, .mov (.tmp 9)⟩]

/-- live: [0] -/
def f18l0 : ACode := (.seq (.seq (.ops f18r1)
  (.keep [0, 4] (.cond (.tmp 4) .skip (.exit 0))))
  (.keep [0] (.block 1 (.ops f18r2))))

def f18r4 : List AInstr := [
    ⟨(some 10), none, .mov (.tmp 0)⟩,
    ⟨(some 11), none, .conv .u16 (.tmp 10)⟩,
    ⟨(some 2), none, .mov (.tmp 11)⟩]

def f18b : ACode := (.seq (.ops f18r0)
  (.keep [0] (.seq (.block 0 (.loop f18l0))
  (.keep [0] (.seq (.ops f18r4)
  (.keep [2] .ret))))))

def f18 : AFn := ⟨12, [.tmp 2], f18b⟩

theorem f18_ok : compFn Try.prog 18 = some f18.strip := by kernel_rfl

end Go.Proofs.Ytdkccpppflnmpaa
