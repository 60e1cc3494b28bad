/-
  The functions of this seat as abstract code. Printed by a program of this claim's writer.
-/
import Derived.Test.YtfkhljgifndbpaaDoorChecked
import Derived.Test.YtfkhljgifndbpaaDoorAmS
import Derived.KernelRfl
namespace Go.Proofs.YtfkhljgifndbpaaDoor
open Go Go.Am

/- function 3: weirhouse/weirhousekeep.BenchMore; parameters 2; operations that are not compiled: 0 -/
def f3r0 : List AInstr := [
    ⟨(some 4), none, .mov (.const (.bool false))⟩]

def f3r1 : List AInstr := [
    ⟨(some 10), none, .callF 5 []⟩,
    ⟨(some 11), none, .un .not (.tmp 10)⟩]

def f3r2 : List AInstr := [
    ⟨(some 4), none, .mov (.const (.bool false))⟩]

def f3r3 : List AInstr := [
    ⟨(some 13), none, .mov (.tmp 0)⟩,
    ⟨(some 14), none, .callF 6 [.tmp 13]⟩,
    ⟨(some 12), none, .mov (.tmp 14)⟩,
    ⟨(some 15), none, .extract 0 (.tmp 12)⟩,
    ⟨(some 16), none, .extract 1 (.tmp 12)⟩,
    ⟨(some 5), none, .mov (.tmp 15)⟩,
    ⟨(some 6), none, .mov (.tmp 16)⟩]

def f3r4 : List AInstr := [
    ⟨(some 18), none, .mov (.tmp 0)⟩,
    ⟨(some 19), none, .mov (.tmp 1)⟩,
    ⟨(some 20), none, .str .add [.tmp 18, .tmp 19]⟩,
    ⟨(some 21), none, .callF 6 [.tmp 20]⟩,
    ⟨(some 17), none, .mov (.tmp 21)⟩,
    ⟨(some 22), none, .extract 0 (.tmp 17)⟩,
    ⟨(some 23), none, .extract 1 (.tmp 17)⟩,
    ⟨(some 7), none, .mov (.tmp 22)⟩,
    ⟨(some 8), none, .mov (.tmp 23)⟩]

def f3r5 : List AInstr := [
    ⟨(some 24), none, .mov (.tmp 6)⟩,
    ⟨(some 25), none, .ibin .neq (.tmp 24) (.const (.int .i64 0))⟩,
    ⟨(some 26), none, .mov (.tmp 25)⟩,
    ⟨(some 27), (some (26, false)), .mov (.tmp 8)⟩,
    ⟨(some 28), (some (26, false)), .ibin .neq (.tmp 27) (.const (.int .i64 0))⟩,
    ⟨(some 29), none, .pick (.tmp 26) (.const (.bool true)) (.tmp 28)⟩]

def f3r6 : List AInstr := [
    ⟨(some 30), none, .mov (.tmp 6)⟩,
    ⟨(some 31), none, .ibin .eql (.tmp 30) (.const (.int .i64 0))⟩,
    ⟨(some 32), none, .mov (.tmp 31)⟩,
    ⟨(some 33), (some (32, false)), .mov (.tmp 5)⟩,
    ⟨(some 34), (some (32, false)), .len (.tmp 33)⟩,
    ⟨(some 35), (some (32, false)), .ibin .eql (.tmp 34) (.const (.int .i64 0))⟩,
    ⟨(some 36), none, .pick (.tmp 32) (.const (.bool true)) (.tmp 35)⟩,
    ⟨(some 4), none, .mov (.tmp 36)⟩]

def f3r7 : List AInstr := [
    ⟨(some 37), none, .mov (.tmp 0)⟩,
    ⟨(some 38), none, .callF 7 [.tmp 37, .const (.string ⟨#[10]⟩)]⟩,
    ⟨(some 39), none, .ibin .sub (.tmp 38) (.const (.int .i64 1))⟩,
    ⟨(some 9), none, .mov (.tmp 39)⟩]

def f3r8 : List AInstr := [
    ⟨(some 40), none, .mov (.tmp 5)⟩,
    ⟨(some 41), none, .len (.tmp 40)⟩,
    ⟨(some 42), none, .mov (.tmp 9)⟩,
    ⟨(some 43), none, .ibin .add (.tmp 42) (.const (.int .i64 1))⟩,
    ⟨(some 44), none, .ibin .eql (.tmp 41) (.tmp 43)⟩,
    ⟨(some 45), none, .mov (.tmp 44)⟩,
    ⟨(some 46), (some (45, true)), .mov (.tmp 7)⟩,
    ⟨(some 47), (some (45, true)), .len (.tmp 46)⟩,
    ⟨(some 48), (some (45, true)), .mov (.tmp 5)⟩,
    ⟨(some 49), (some (45, true)), .len (.tmp 48)⟩,
    ⟨(some 50), (some (45, true)), .ibin .geq (.tmp 47) (.tmp 49)⟩,
    ⟨(some 51), none, .pick (.tmp 45) (.tmp 50) (.const (.bool false))⟩,
    ⟨(some 52), none, .mov (.tmp 51)⟩,
    ⟨(some 53), (some (52, true)), .mov (.tmp 5)⟩,
    ⟨(some 54), (some (52, true)), .mov (.tmp 9)⟩,
    ⟨(some 55), (some (52, true)), .slice 1 (.tmp 53) none (some (.tmp 54)) none⟩,
    ⟨(some 56), (some (52, true)), .mov (.tmp 7)⟩,
    ⟨(some 57), (some (52, true)), .mov (.tmp 9)⟩,
    ⟨(some 58), (some (52, true)), .slice 1 (.tmp 56) none (some (.tmp 57)) none⟩,
    ⟨(some 59), (some (52, true)), .callF 8 [.tmp 55, .tmp 58]⟩,
    ⟨(some 60), none, .pick (.tmp 52) (.tmp 59) (.const (.bool false))⟩,
    ⟨(some 4), none, .mov (.tmp 60)⟩]

def f3b : ACode := (.seq (.ops f3r0)
  (.keep [0, 1] (.seq (.seq (.ops f3r1)
  (.keep [0, 1, 11] (.cond (.tmp 11) (.keep [] (.seq (.ops f3r2)
  (.keep [4] .ret))) .skip)))
  (.keep [0, 1] (.seq (.ops f3r3)
  (.keep [0, 1, 5, 6] (.seq (.ops f3r4)
  (.keep [0, 5, 6, 7, 8] (.seq (.seq (.ops f3r5)
  (.keep [0, 5, 6, 7, 29] (.cond (.tmp 29) (.keep [5, 6] (.seq (.ops f3r6)
  (.keep [4] .ret))) .skip)))
  (.keep [0, 5, 7] (.seq (.ops f3r7)
  (.keep [5, 7, 9] (.seq (.draw f3r8 [(0, 0, false), (0, 0, false), (0, 0, false), (0, 0, false), (0, 0, false), (0, 0, false), (0, 0, false), (0, 0, false), (0, 0, false), (0, 0, false), (0, 0, false), (0, 0, false), (0, 0, false), (0, 0, false), (0, 0, false), (0, 0, false), (0, 0, false), (0, 0, false), (0, 0, false), (0, 0, true), (1, 1, false), (1, 1, false)])
  (.keep [4] .ret))))))))))))))

def f3 : AFn := ⟨61, [.tmp 4], f3b⟩

theorem f3_ok : compFn Tryd.prog 3 = some f3.strip := by kernel_rfl

/- function 4: weirhouse/weirhousekeep.BenchBack; parameters 2; operations that are not compiled: 0 -/
def f4r0 : List AInstr := [
    ⟨(some 2), none, .box (.tmp 0)⟩,
    ⟨(some 4), none, .mov (.const (.bool false))⟩]

def f4r1 : List AInstr := [
    ⟨(some 15), none, .callF 5 []⟩,
    ⟨(some 16), none, .un .not (.tmp 15)⟩]

def f4r2 : List AInstr := [
    ⟨(some 4), none, .mov (.const (.bool false))⟩]

def f4r3 : List AInstr := [
    ⟨(some 18), none, .load (some 4) (.tmp 2)⟩,
    ⟨(some 19), none, .callF 9 [.tmp 18]⟩,
    ⟨(some 17), none, .mov (.tmp 19)⟩,
    ⟨(some 20), none, .extract 0 (.tmp 17)⟩,
    ⟨(some 21), none, .extract 1 (.tmp 17)⟩,
    ⟨(some 5), none, .mov (.tmp 20)⟩,
    ⟨(some 6), none, .mov (.tmp 21)⟩]

def f4r4 : List AInstr := [
    ⟨(some 23), none, .mov (.tmp 5)⟩,
    ⟨(some 24), none, .callF 10 [.tmp 23]⟩,
    ⟨(some 22), none, .mov (.tmp 24)⟩,
    ⟨(some 25), none, .extract 0 (.tmp 22)⟩,
    ⟨(some 26), none, .extract 1 (.tmp 22)⟩,
    ⟨(some 27), none, .extract 2 (.tmp 22)⟩,
    ⟨(some 7), none, .alloc [.int .i64 0, .int .i64 0, .int .i64 0, .slice none 0 0]⟩,
    ⟨none, none, .store 4 (.tmp 7) (.tmp 25)⟩,
    ⟨(some 8), none, .mov (.tmp 26)⟩,
    ⟨(some 9), none, .mov (.tmp 27)⟩]

def f4r5 : List AInstr := [
    ⟨(some 28), none, .mov (.tmp 6)⟩,
    ⟨(some 29), none, .ibin .eql (.tmp 28) (.const (.int .i64 0))⟩,
    ⟨(some 30), none, .mov (.tmp 29)⟩,
    ⟨(some 31), (some (30, true)), .mov (.tmp 9)⟩,
    ⟨(some 32), (some (30, true)), .ibin .neq (.tmp 31) (.const (.int .i64 0))⟩,
    ⟨(some 33), (some (30, true)), .mov (.tmp 32)⟩,
    ⟨(some 34), (some (33, false)), .load (some 4) (.tmp 7)⟩,
    ⟨(some 35), (some (33, false)), .load (some 4) (.tmp 2)⟩,
    ⟨(some 36), (some (33, false)), .callF 11 [.tmp 34, .tmp 35]⟩,
    ⟨(some 37), (some (33, false)), .un .not (.tmp 36)⟩,
    ⟨(some 38), (some (30, true)), .pick (.tmp 33) (.const (.bool true)) (.tmp 37)⟩,
    ⟨(some 39), none, .pick (.tmp 30) (.tmp 38) (.const (.bool false))⟩]

def f4r6 : List AInstr := [
    ⟨(some 4), none, .mov (.const (.bool false))⟩]

def f4r7 : List AInstr := [
    ⟨(some 41), none, .mov (.tmp 1)⟩,
    ⟨(some 42), none, .callF 10 [.tmp 41]⟩,
    ⟨(some 40), none, .mov (.tmp 42)⟩,
    ⟨(some 43), none, .extract 0 (.tmp 40)⟩,
    ⟨(some 44), none, .extract 1 (.tmp 40)⟩,
    ⟨(some 45), none, .extract 2 (.tmp 40)⟩,
    ⟨(some 10), none, .alloc [.int .i64 0, .int .i64 0, .int .i64 0, .slice none 0 0]⟩,
    ⟨none, none, .store 4 (.tmp 10) (.tmp 43)⟩,
    ⟨(some 11), none, .mov (.tmp 44)⟩,
    ⟨(some 12), none, .mov (.tmp 45)⟩]

def f4r8 : List AInstr := [
    ⟨(some 47), none, .load (some 4) (.tmp 10)⟩,
    ⟨(some 48), none, .callF 9 [.tmp 47]⟩,
    ⟨(some 46), none, .mov (.tmp 48)⟩,
    ⟨(some 49), none, .extract 0 (.tmp 46)⟩,
    ⟨(some 50), none, .extract 1 (.tmp 46)⟩,
    ⟨(some 13), none, .mov (.tmp 49)⟩,
    ⟨(some 14), none, .mov (.tmp 50)⟩]

def f4r9 : List AInstr := [
    ⟨(some 51), none, .mov (.tmp 12)⟩,
    ⟨(some 52), none, .ibin .neq (.tmp 51) (.const (.int .i64 0))⟩]

def f4r10 : List AInstr := [
    ⟨(some 53), none, .mov (.tmp 11)⟩,
    ⟨(some 54), none, .ibin .geq (.tmp 53) (.const (.int .i64 0))⟩,
    ⟨(some 55), none, .mov (.tmp 54)⟩,
    ⟨(some 56), (some (55, true)), .mov (.tmp 11)⟩,
    ⟨(some 57), (some (55, true)), .mov (.tmp 1)⟩,
    ⟨(some 58), (some (55, true)), .callF 7 [.tmp 57, .const (.string ⟨#[10]⟩)]⟩,
    ⟨(some 59), (some (55, true)), .ibin .leq (.tmp 56) (.tmp 58)⟩,
    ⟨(some 60), none, .pick (.tmp 55) (.tmp 59) (.const (.bool false))⟩,
    ⟨(some 4), none, .mov (.tmp 60)⟩]

def f4r11 : List AInstr := [
    ⟨(some 61), none, .mov (.tmp 14)⟩,
    ⟨(some 62), none, .ibin .eql (.tmp 61) (.const (.int .i64 0))⟩,
    ⟨(some 63), none, .mov (.tmp 62)⟩,
    ⟨(some 64), (some (63, true)), .mov (.tmp 13)⟩,
    ⟨(some 65), (some (63, true)), .mov (.tmp 1)⟩,
    ⟨(some 66), (some (63, true)), .str (.cmp false) [.tmp 64, .tmp 65]⟩,
    ⟨(some 67), none, .pick (.tmp 63) (.tmp 66) (.const (.bool false))⟩,
    ⟨(some 4), none, .mov (.tmp 67)⟩]

def f4b : ACode := (.seq (.ops f4r0)
  (.keep [1, 2] (.seq (.seq (.ops f4r1)
  (.keep [1, 2, 16] (.cond (.tmp 16) (.keep [] (.seq (.ops f4r2)
  (.keep [4] .ret))) .skip)))
  (.keep [1, 2] (.seq (.ops f4r3)
  (.keep [1, 2, 5, 6] (.seq (.ops f4r4)
  (.keep [1, 2, 6, 7, 9] (.seq (.seq (.ops f4r5)
  (.keep [1, 39] (.cond (.tmp 39) (.keep [] (.seq (.ops f4r6)
  (.keep [4] .ret))) .skip)))
  (.keep [1] (.seq (.ops f4r7)
  (.keep [1, 10, 11, 12] (.seq (.ops f4r8)
  (.keep [1, 11, 12, 13, 14] (.seq (.seq (.ops f4r9)
  (.keep [1, 11, 13, 14, 52] (.cond (.tmp 52) (.keep [1, 11] (.seq (.ops f4r10)
  (.keep [4] .ret))) .skip)))
  (.keep [1, 13, 14] (.seq (.ops f4r11)
  (.keep [4] .ret))))))))))))))))))

def f4 : AFn := ⟨68, [.tmp 4], f4b⟩

theorem f4_ok : compFn Tryd.prog 4 = some f4.strip := by kernel_rfl

/- function 5: weirhouse/weirhousekeep.alive26; parameters 0; operations that are not compiled: 0 -/
def f5r0 : List AInstr := [
    ⟨(some 0), none, .mov (.const (.bool false))⟩]

def f5r1s0 : ByteArray := ⟨#[114, 97, 116, 101, 32, 49, 32, 50, 32, 49, 53, 48, 48, 10, 105, 110, 32, 49, 48, 48, 48, 10, 105, 110, 32, 54, 48, 48, 10, 112, 111, 108, 108, 32, 57, 48, 48, 48, 10, 116, 105, 99, 107, 32, 50, 48, 48, 10, 112, 111, 108, 108, 32, 54, 48, 48, 10, 105, 110, 32, 48, 10]⟩

def f5r1 : List AInstr := [
    ⟨(some 4), none, .callF 6 [.const (.string f5r1s0)]⟩,
    ⟨(some 3), none, .mov (.tmp 4)⟩,
    ⟨(some 5), none, .extract 0 (.tmp 3)⟩,
    ⟨(some 6), none, .extract 1 (.tmp 3)⟩,
    ⟨(some 1), none, .mov (.tmp 5)⟩,
    ⟨(some 2), none, .mov (.tmp 6)⟩]

def f5r2 : List AInstr := [
    ⟨(some 7), none, .mov (.tmp 2)⟩,
    ⟨(some 8), none, .ibin .eql (.tmp 7) (.const (.int .i64 0))⟩,
    ⟨(some 9), none, .mov (.tmp 8)⟩,
    ⟨(some 10), (some (9, true)), .mov (.tmp 1)⟩,
    ⟨(some 11), (some (9, true)), .buildSlice 1 7 [.string ⟨#[]⟩, .string ⟨#[]⟩, .string ⟨#[]⟩, .string ⟨#[]⟩, .string ⟨#[]⟩, .string ⟨#[]⟩, .string ⟨#[]⟩] [(0, 1, (.const (.string ⟨#[111, 107]⟩))), (1, 1, (.const (.string ⟨#[111, 107]⟩))), (2, 1, (.const (.string ⟨#[115, 101, 110, 116, 32, 49, 48, 48, 48]⟩))), (3, 1, (.const (.string ⟨#[111, 107]⟩))), (4, 1, (.const (.string ⟨#[115, 101, 110, 116, 32, 54, 48, 48]⟩))), (5, 1, (.const (.string ⟨#[101, 114, 114, 111, 114, 32, 50]⟩))), (6, 1, (.const (.string ⟨#[108, 101, 102, 116, 32, 48, 32, 48, 32, 49, 54, 48, 48, 32, 48, 32, 50, 48, 48]⟩)))]⟩,
    ⟨(some 12), (some (9, true)), .callF 8 [.tmp 10, .tmp 11]⟩,
    ⟨(some 13), none, .pick (.tmp 9) (.tmp 12) (.const (.bool false))⟩,
    ⟨(some 0), none, .mov (.tmp 13)⟩]

def f5b : ACode := (.seq (.ops f5r0)
  (.keep [] (.seq (.ops f5r1)
  (.keep [1, 2] (.seq (.ops f5r2)
  (.keep [0] .ret))))))

def f5 : AFn := ⟨14, [.tmp 0], f5b⟩

theorem f5_ok : compFn Tryd.prog 5 = some f5.strip := by kernel_rfl

/- function 6: weirhouse/bench.Tell; parameters 1; operations that are not compiled: 0 -/
def f6r0 : List AInstr := [
    ⟨(some 2), none, .mov (.const (.slice none 0 0))⟩,
    ⟨(some 3), none, .mov (.const (.int .i64 0))⟩]

def f6r1 : List AInstr := [
    ⟨(some 19), none, .mov (.tmp 0)⟩,
    ⟨(some 20), none, .callF 10 [.tmp 19]⟩,
    ⟨(some 18), none, .mov (.tmp 20)⟩,
    ⟨(some 21), none, .extract 0 (.tmp 18)⟩,
    ⟨(some 22), none, .extract 1 (.tmp 18)⟩,
    ⟨(some 23), none, .extract 2 (.tmp 18)⟩,
    ⟨(some 4), none, .alloc [.int .i64 0, .int .i64 0, .int .i64 0, .slice none 0 0]⟩,
    ⟨none, none, .store 4 (.tmp 4) (.tmp 21)⟩,
    ⟨(some 5), none, .mov (.tmp 22)⟩,
    ⟨(some 6), none, .mov (.tmp 23)⟩]

def f6r2 : List AInstr := [
    ⟨(some 24), none, .mov (.tmp 6)⟩,
    ⟨(some 25), none, .ibin .neq (.tmp 24) (.const (.int .i64 0))⟩]

def f6r3 : List AInstr := [
    ⟨(some 26), none, .mov (.tmp 6)⟩,
    ⟨(some 2), none, .mov (.const (.slice none 0 0))⟩,
    ⟨(some 3), none, .mov (.tmp 26)⟩]

def f6r4 : List AInstr := [
    ⟨(some 28), none, .fieldAddr 0 (.tmp 4)⟩,
    ⟨(some 29), none, .load none (.tmp 28)⟩,
    ⟨(some 30), none, .fieldAddr 1 (.tmp 4)⟩,
    ⟨(some 31), none, .load none (.tmp 30)⟩,
    ⟨(some 32), none, .fieldAddr 2 (.tmp 4)⟩,
    ⟨(some 33), none, .load none (.tmp 32)⟩,
    ⟨(some 34), none, .fieldAddr 3 (.tmp 4)⟩,
    ⟨(some 35), none, .load none (.tmp 34)⟩,
    ⟨(some 36), none, .callF 12 [.tmp 29, .tmp 31, .tmp 33, .tmp 35]⟩,
    ⟨(some 27), none, .mov (.tmp 36)⟩,
    ⟨(some 37), none, .extract 0 (.tmp 27)⟩,
    ⟨(some 38), none, .extract 1 (.tmp 27)⟩,
    ⟨(some 39), none, .extract 2 (.tmp 27)⟩,
    ⟨(some 8), none, .alloc [.slice none 0 0, .int .i64 0, .int .i64 0, .int .i64 0, .int .i64 0, .int .i64 0, .int .i64 0, .int .i64 0, .int .i64 0, .int .i64 0]⟩,
    ⟨(some 7), none, .mov (.tmp 37)⟩,
    ⟨none, none, .store 10 (.tmp 8) (.tmp 38)⟩,
    ⟨(some 6), none, .mov (.tmp 39)⟩]

def f6r5 : List AInstr := [
    ⟨(some 40), none, .mov (.tmp 6)⟩,
    ⟨(some 41), none, .ibin .neq (.tmp 40) (.const (.int .i64 0))⟩]

def f6r6 : List AInstr := [
    ⟨(some 42), none, .mov (.tmp 6)⟩,
    ⟨(some 2), none, .mov (.const (.slice none 0 0))⟩,
    ⟨(some 3), none, .mov (.tmp 42)⟩]

def f6r7 : List AInstr := [
    ⟨(some 9), none, .mov (.const (.slice none 0 0))⟩]

def f6r8 : List AInstr := [
    ⟨(some 43), none, .mov (.tmp 7)⟩,
    ⟨(some 44), none, .len (.tmp 43)⟩,
    ⟨(some 45), none, .mov (.const (.int .i64 0))⟩]

def f6r9 : List AInstr := [
    ⟨(some 46), none, .ibin .lss (.tmp 45) (.tmp 44)⟩]

def f6r10 : List AInstr := [
    ⟨(some 47), none, .mov (.tmp 45)⟩,
    ⟨(some 48), none, .indexAddr 2 (.tmp 43) (.tmp 45)⟩,
    ⟨(some 49), none, .load (some 2) (.tmp 48)⟩,
    ⟨(some 11), none, .alloc [.int .i64 0, .slice none 0 0]⟩,
    ⟨(some 10), none, .mov (.tmp 47)⟩,
    ⟨none, none, .store 2 (.tmp 11) (.tmp 49)⟩]

def f6r11 : List AInstr := [
    ⟨(some 12), none, .mov (.const (.string ⟨#[111, 107]⟩))⟩]

def f6r12 : List AInstr := [
    ⟨(some 50), none, .fieldAddr 0 (.tmp 11)⟩,
    ⟨(some 51), none, .load none (.tmp 50)⟩,
    ⟨(some 52), none, .ibin .neq (.tmp 51) (.const (.int .i64 0))⟩]

def f6r13 : List AInstr := [
    ⟨(some 53), none, .fieldAddr 0 (.tmp 11)⟩,
    ⟨(some 54), none, .load none (.tmp 53)⟩,
    ⟨(some 55), none, .callF 13 [.tmp 54]⟩,
    ⟨(some 56), none, .str .add [.const (.string ⟨#[101, 114, 114, 111, 114, 32]⟩), .tmp 55]⟩,
    ⟨(some 12), none, .mov (.tmp 56)⟩]

def f6r14 : List AInstr := [
    ⟨(some 57), none, .fieldAddr 3 (.tmp 4)⟩,
    ⟨(some 58), none, .load none (.tmp 57)⟩,
    ⟨(some 59), none, .mov (.tmp 10)⟩,
    ⟨(some 60), none, .indexAddr 2 (.tmp 58) (.tmp 59)⟩,
    ⟨(some 61), none, .fieldAddr 0 (.tmp 60)⟩,
    ⟨(some 62), none, .load none (.tmp 61)⟩,
    ⟨(some 63), none, .ibin .eql (.tmp 62) (.const (.int .i64 3))⟩]

def f6r15 : List AInstr := [
    ⟨(some 12), none, .mov (.const (.string ⟨#[115, 101, 110, 116]⟩))⟩]

def f6r16 : List AInstr := [
    ⟨(some 64), none, .fieldAddr 1 (.tmp 11)⟩,
    ⟨(some 65), none, .load none (.tmp 64)⟩,
    ⟨(some 66), none, .len (.tmp 65)⟩,
    ⟨(some 67), none, .mov (.const (.int .i64 0))⟩]

def f6r17 : List AInstr := [
    ⟨(some 68), none, .ibin .lss (.tmp 67) (.tmp 66)⟩]

def f6r18 : List AInstr := [
    ⟨(some 69), none, .indexAddr 1 (.tmp 65) (.tmp 67)⟩,
    ⟨(some 70), none, .load none (.tmp 69)⟩,
    ⟨(some 14), none, .mov (.tmp 70)⟩]

def f6r19 : List AInstr := [
    ⟨(some 71), none, .mov (.tmp 12)⟩,
    ⟨(some 72), none, .mov (.tmp 14)⟩,
    ⟨(some 73), none, .callF 13 [.tmp 72]⟩,
    ⟨(some 74), none, .str .add [.const (.string ⟨#[32]⟩), .tmp 73]⟩,
    ⟨(some 75), none, .str .add [.tmp 71, .tmp 74]⟩,
    ⟨(some 12), none, .mov (.tmp 75)⟩]

def f6r20 : List AInstr := [
    ⟨(some 76), none, .ibin .add (.tmp 67) (.const (.int .i64 1))⟩,
    ⟨(some 67), none, .mov (.tmp 76)⟩]

/-- live: [4, 8, 9, 12, 43, 44, 45, 65, 66, 67] -/
def f6l0 : ACode := (.seq (.ops f6r17)
  (.keep [4, 8, 9, 12, 43, 44, 45, 65, 66, 67, 68] (.seq (.cond (.tmp 68) .skip (.exit 2))
  (.keep [4, 8, 9, 12, 43, 44, 45, 65, 66, 67] (.seq (.block 3 (.seq (.ops f6r18)
  (.keep [4, 8, 9, 12, 14, 43, 44, 45, 65, 66, 67] (.ops f6r19))))
  (.keep [4, 8, 9, 12, 43, 44, 45, 65, 66, 67] (.ops f6r20)))))))

def f6r22 : List AInstr := [
    ⟨(some 77), none, .mov (.tmp 9)⟩,
    ⟨(some 78), none, .mov (.tmp 12)⟩,
    ⟨(some 79), none, .buildSlice 1 1 [.string ⟨#[]⟩] [(0, 1, (.tmp 78))]⟩,
    ⟨(some 80), none, .append 1 16 (.tmp 77) (.tmp 79)⟩,
    ⟨(some 9), none, .mov (.tmp 80)⟩]

def f6r23 : List AInstr := [
    ⟨(some 81), none, .ibin .add (.tmp 45) (.const (.int .i64 1))⟩,
    ⟨(some 45), none, .mov (.tmp 81)⟩]

/-- live: [4, 8, 9, 43, 44, 45] -/
def f6l1 : ACode := (.seq (.ops f6r9)
  (.keep [4, 8, 9, 43, 44, 45, 46] (.seq (.cond (.tmp 46) .skip (.exit 0))
  (.keep [4, 8, 9, 43, 44, 45] (.seq (.block 1 (.seq (.ops f6r10)
  (.keep [4, 8, 9, 10, 11, 43, 44, 45] (.seq (.ops f6r11)
  (.keep [4, 8, 9, 10, 11, 12, 43, 44, 45] (.seq (.seq (.ops f6r12)
  (.keep [4, 8, 9, 10, 11, 12, 43, 44, 45, 52] (.cond (.tmp 52) (.keep [4, 8, 9, 11, 43, 44, 45] (.ops f6r13)) (.keep [4, 8, 9, 10, 11, 12, 43, 44, 45] (.seq (.ops f6r14)
  (.keep [4, 8, 9, 11, 12, 43, 44, 45, 63] (.cond (.tmp 63) (.keep [4, 8, 9, 11, 43, 44, 45] (.seq (.ops f6r15)
  (.keep [4, 8, 9, 11, 12, 43, 44, 45] (.seq (.ops f6r16)
  (.keep [4, 8, 9, 12, 43, 44, 45, 65, 66, 67] (.block 2 (.loop f6l0))))))) .skip)))))))
  (.keep [4, 8, 9, 12, 43, 44, 45] (.ops f6r22))))))))
  (.keep [4, 8, 9, 43, 44, 45] (.ops f6r23)))))))

def f6r25 : List AInstr := [
    ⟨(some 15), none, .mov (.const (.string ⟨#[108, 101, 102, 116]⟩))⟩]

def f6r26 : List AInstr := [
    ⟨(some 82), none, .fieldAddr 0 (.tmp 8)⟩,
    ⟨(some 83), none, .fieldAddr 0 (.tmp 82)⟩,
    ⟨(some 84), none, .load none (.tmp 83)⟩,
    ⟨(some 85), none, .len (.tmp 84)⟩,
    ⟨(some 86), none, .fieldAddr 0 (.tmp 8)⟩,
    ⟨(some 87), none, .fieldAddr 3 (.tmp 86)⟩,
    ⟨(some 88), none, .load none (.tmp 87)⟩,
    ⟨(some 89), none, .fieldAddr 9 (.tmp 8)⟩,
    ⟨(some 90), none, .load none (.tmp 89)⟩,
    ⟨(some 91), none, .fieldAddr 4 (.tmp 8)⟩,
    ⟨(some 92), none, .fieldAddr 3 (.tmp 91)⟩,
    ⟨(some 93), none, .load none (.tmp 92)⟩,
    ⟨(some 94), none, .fieldAddr 4 (.tmp 8)⟩,
    ⟨(some 95), none, .fieldAddr 4 (.tmp 94)⟩,
    ⟨(some 96), none, .load none (.tmp 95)⟩,
    ⟨(some 97), none, .buildSlice 1 5 [.int .i64 0, .int .i64 0, .int .i64 0, .int .i64 0, .int .i64 0] [(0, 1, (.tmp 85)), (1, 1, (.tmp 88)), (2, 1, (.tmp 90)), (3, 1, (.tmp 93)), (4, 1, (.tmp 96))]⟩,
    ⟨(some 98), none, .len (.tmp 97)⟩,
    ⟨(some 99), none, .mov (.const (.int .i64 0))⟩]

def f6r27 : List AInstr := [
    ⟨(some 100), none, .ibin .lss (.tmp 99) (.tmp 98)⟩]

def f6r28 : List AInstr := [
    ⟨(some 101), none, .indexAddr 1 (.tmp 97) (.tmp 99)⟩,
    ⟨(some 102), none, .load none (.tmp 101)⟩,
    ⟨(some 17), none, .mov (.tmp 102)⟩]

def f6r29 : List AInstr := [
    ⟨(some 103), none, .mov (.tmp 15)⟩,
    ⟨(some 104), none, .mov (.tmp 17)⟩,
    ⟨(some 105), none, .callF 13 [.tmp 104]⟩,
    ⟨(some 106), none, .str .add [.const (.string ⟨#[32]⟩), .tmp 105]⟩,
    ⟨(some 107), none, .str .add [.tmp 103, .tmp 106]⟩,
    ⟨(some 15), none, .mov (.tmp 107)⟩]

def f6r30 : List AInstr := [
    ⟨(some 108), none, .ibin .add (.tmp 99) (.const (.int .i64 1))⟩,
    ⟨(some 99), none, .mov (.tmp 108)⟩]

/-- live: [9, 15, 97, 98, 99] -/
def f6l2 : ACode := (.seq (.ops f6r27)
  (.keep [9, 15, 97, 98, 99, 100] (.seq (.cond (.tmp 100) .skip (.exit 4))
  (.keep [9, 15, 97, 98, 99] (.seq (.block 5 (.seq (.ops f6r28)
  (.keep [9, 15, 17, 97, 98, 99] (.ops f6r29))))
  (.keep [9, 15, 97, 98, 99] (.ops f6r30)))))))

def f6r32 : List AInstr := [
    ⟨(some 109), none, .mov (.tmp 9)⟩,
    ⟨(some 110), none, .mov (.tmp 15)⟩,
    ⟨(some 111), none, .buildSlice 1 1 [.string ⟨#[]⟩] [(0, 1, (.tmp 110))]⟩,
    ⟨(some 112), none, .append 1 16 (.tmp 109) (.tmp 111)⟩,
    ⟨(some 2), none, .mov (.tmp 112)⟩,
    ⟨(some 3), none, .mov (.const (.int .i64 0))⟩]

def f6b : ACode := (.seq (.ops f6r0)
  (.keep [0] (.seq (.ops f6r1)
  (.keep [4, 6] (.seq (.seq (.ops f6r2)
  (.keep [4, 6, 25] (.cond (.tmp 25) (.keep [6] (.seq (.ops f6r3)
  (.keep [2, 3] .ret))) .skip)))
  (.keep [4] (.seq (.ops f6r4)
  (.keep [4, 6, 7, 8] (.seq (.seq (.ops f6r5)
  (.keep [4, 6, 7, 8, 41] (.cond (.tmp 41) (.keep [6] (.seq (.ops f6r6)
  (.keep [2, 3] .ret))) .skip)))
  (.keep [4, 7, 8] (.seq (.ops f6r7)
  (.keep [4, 7, 8, 9] (.seq (.seq (.ops f6r8)
  (.keep [4, 8, 9, 43, 44, 45] (.block 0 (.loop f6l1))))
  (.keep [8, 9] (.seq (.ops f6r25)
  (.keep [8, 9, 15] (.seq (.seq (.ops f6r26)
  (.keep [9, 15, 97, 98, 99] (.block 4 (.loop f6l2))))
  (.keep [9, 15] (.seq (.ops f6r32)
  (.keep [2, 3] .ret))))))))))))))))))))

def f6 : AFn := ⟨113, [.tmp 2, .tmp 3], f6b⟩

theorem f6_ok : compFn Tryd.prog 6 = some f6.strip := by kernel_rfl

/- function 7: strings.Count; parameters 2; operations that are not compiled: 1 -/
def f7r0 : List AInstr := [
    ⟨(some 4), none, .mov (.const (.int .i64 0))⟩]

def f7r1 : List AInstr := [
    ⟨(some 7), none, .mov (.tmp 1)⟩,
    ⟨(some 8), none, .str .len [.tmp 7]⟩,
    ⟨(some 9), none, .ibin .eql (.tmp 8) (.const (.int .i64 0))⟩]

def f7r2 : List AInstr := [
    ⟨(some 10), none, .mov (.tmp 0)⟩,
    ⟨(some 11), none, .callF 14 [.tmp 10]⟩,
    ⟨(some 12), none, .ibin .add (.tmp 11) (.const (.int .i64 1))⟩,
    ⟨(some 4), none, .mov (.tmp 12)⟩]

def f7r3 : List AInstr := [
    ⟨(some 13), none, .mov (.tmp 1)⟩,
    ⟨(some 14), none, .str .len [.tmp 13]⟩,
    ⟨(some 15), none, .ibin .eql (.tmp 14) (.const (.int .i64 1))⟩]

def f7r4 : List AInstr := [
    ⟨(some 16), none, .mov (.tmp 0)⟩,
    ⟨(some 17), none, .mov (.tmp 1)⟩,
    ⟨(some 18), none, .indexStr (.tmp 17) (.const (.int .i64 0))⟩,
    ⟨(some 19), none, .callF 15 [.tmp 16, .tmp 18]⟩,
    ⟨(some 4), none, .mov (.tmp 19)⟩]

def f7r5 : List AInstr := [
    ⟨(some 5), none, .mov (.const (.int .i64 0))⟩]

def f7r6 : List AInstr := [
    ⟨(some 20), none, .mov (.tmp 0)⟩,
    ⟨(some 21), none, .mov (.tmp 1)⟩,
    ⟨(some 22), none, .callF 16 [.tmp 20, .tmp 21]⟩,
    ⟨(some 6), none, .mov (.tmp 22)⟩]

def f7r7 : List AInstr := [
    ⟨(some 23), none, .mov (.tmp 6)⟩,
    ⟨(some 24), none, .ibin .eql (.tmp 23) (.const (.int .i64 (-1)))⟩]

def f7r8 : List AInstr := [
    ⟨(some 25), none, .mov (.tmp 5)⟩,
    ⟨(some 4), none, .mov (.tmp 25)⟩]

def f7r9 : List AInstr := [
    ⟨(some 26), none, .mov (.tmp 5)⟩,
    ⟨(some 27), none, .ibin .add (.tmp 26) (.const (.int .i64 1))⟩,
    ⟨(some 5), none, .mov (.tmp 27)⟩]

def f7r10 : List AInstr := [
    ⟨(some 28), none, .mov (.tmp 0)⟩,
    ⟨(some 29), none, .mov (.tmp 6)⟩,
    ⟨(some 30), none, .mov (.tmp 1)⟩,
    ⟨(some 31), none, .str .len [.tmp 30]⟩,
    ⟨(some 32), none, .ibin .add (.tmp 29) (.tmp 31)⟩,
    ⟨(some 33), none, .bad⟩,
    ⟨(some 0), none, .mov (.tmp 33)⟩]

/-- live: [0, 1, 5] -/
def f7l0 : ACode := (.block 1 (.seq (.ops f7r6)
  (.keep [0, 1, 5, 6] (.seq (.seq (.ops f7r7)
  (.keep [0, 1, 5, 6, 24] (.cond (.tmp 24) (.keep [5] (.seq (.ops f7r8)
  (.keep [4] .ret))) .skip)))
  (.keep [0, 1, 5, 6] (.seq (.ops f7r9)
  (.keep [0, 1, 5, 6] (.ops f7r10))))))))

def f7b : ACode := (.seq (.ops f7r0)
  (.keep [0, 1] (.seq (.seq (.ops f7r1)
  (.keep [0, 1, 9] (.cond (.tmp 9) (.keep [0] (.seq (.ops f7r2)
  (.keep [4] .ret))) .skip)))
  (.keep [0, 1] (.seq (.seq (.ops f7r3)
  (.keep [0, 1, 15] (.cond (.tmp 15) (.keep [0, 1] (.seq (.ops f7r4)
  (.keep [4] .ret))) .skip)))
  (.keep [0, 1] (.seq (.ops f7r5)
  (.keep [0, 1, 5] (.block 0 (.loop f7l0))))))))))

def f7 : AFn := ⟨34, [.tmp 4], f7b⟩

theorem f7_ok : compFn Tryd.prog 7 = some f7.strip := by kernel_rfl

/- function 8: slices.Equal[[]string,string]; parameters 2; operations that are not compiled: 0 -/
def f8r0 : List AInstr := [
    ⟨(some 4), none, .mov (.const (.bool false))⟩]

def f8r1 : List AInstr := [
    ⟨(some 6), none, .mov (.tmp 0)⟩,
    ⟨(some 7), none, .len (.tmp 6)⟩,
    ⟨(some 8), none, .mov (.tmp 1)⟩,
    ⟨(some 9), none, .len (.tmp 8)⟩,
    ⟨(some 10), none, .ibin .neq (.tmp 7) (.tmp 9)⟩]

def f8r2 : List AInstr := [
    ⟨(some 4), none, .mov (.const (.bool false))⟩]

def f8r3 : List AInstr := [
    ⟨(some 11), none, .mov (.tmp 0)⟩,
    ⟨(some 12), none, .len (.tmp 11)⟩,
    ⟨(some 13), none, .mov (.const (.int .i64 0))⟩]

def f8r4 : List AInstr := [
    ⟨(some 14), none, .ibin .lss (.tmp 13) (.tmp 12)⟩]

def f8r5 : List AInstr := [
    ⟨(some 15), none, .mov (.tmp 13)⟩,
    ⟨(some 5), none, .mov (.tmp 15)⟩]

def f8r6 : List AInstr := [
    ⟨(some 16), none, .mov (.tmp 0)⟩,
    ⟨(some 17), none, .mov (.tmp 5)⟩,
    ⟨(some 18), none, .indexAddr 1 (.tmp 16) (.tmp 17)⟩,
    ⟨(some 19), none, .load none (.tmp 18)⟩,
    ⟨(some 20), none, .mov (.tmp 1)⟩,
    ⟨(some 21), none, .mov (.tmp 5)⟩,
    ⟨(some 22), none, .indexAddr 1 (.tmp 20) (.tmp 21)⟩,
    ⟨(some 23), none, .load none (.tmp 22)⟩,
    ⟨(some 24), none, .str (.cmp true) [.tmp 19, .tmp 23]⟩]

def f8r7 : List AInstr := [
    ⟨(some 4), none, .mov (.const (.bool false))⟩]

def f8r8 : List AInstr := [
    ⟨(some 25), none, .ibin .add (.tmp 13) (.const (.int .i64 1))⟩,
    ⟨(some 13), none, .mov (.tmp 25)⟩]

/-- live: [0, 1, 12, 13] -/
def f8l0 : ACode := (.seq (.ops f8r4)
  (.keep [0, 1, 12, 13, 14] (.seq (.cond (.tmp 14) .skip (.exit 0))
  (.keep [0, 1, 12, 13] (.seq (.block 1 (.seq (.ops f8r5)
  (.keep [0, 1, 5, 12, 13] (.seq (.draw f8r6 [(0, 0, false), (0, 0, false), (0, 0, false), (0, 0, false), (0, 0, false), (0, 0, false), (0, 0, false), (0, 0, false), (0, 0, false)])
  (.keep [0, 1, 12, 13, 24] (.cond (.tmp 24) (.keep [] (.seq (.ops f8r7)
  (.keep [4] .ret))) .skip))))))
  (.keep [0, 1, 12, 13] (.ops f8r8)))))))

def f8r10 : List AInstr := [
    ⟨(some 4), none, .mov (.const (.bool true))⟩]

def f8b : ACode := (.seq (.ops f8r0)
  (.keep [0, 1] (.seq (.seq (.ops f8r1)
  (.keep [0, 1, 10] (.cond (.tmp 10) (.keep [] (.seq (.ops f8r2)
  (.keep [4] .ret))) .skip)))
  (.keep [0, 1] (.seq (.seq (.ops f8r3)
  (.keep [0, 1, 12, 13] (.block 0 (.loop f8l0))))
  (.keep [] (.seq (.ops f8r10)
  (.keep [4] .ret))))))))

def f8 : AFn := ⟨26, [.tmp 4], f8b⟩

theorem f8_ok : compFn Tryd.prog 8 = some f8.strip := by kernel_rfl

/- function 9: weirhouse/bench.Print; parameters 1; operations that are not compiled: 0 -/
def f9r0 : List AInstr := [
    ⟨(some 1), none, .box (.tmp 0)⟩,
    ⟨(some 2), none, .mov (.const (.string ⟨#[]⟩))⟩,
    ⟨(some 3), none, .mov (.const (.int .i64 0))⟩]

def f9r1 : List AInstr := [
    ⟨(some 7), none, .fieldAddr 0 (.tmp 1)⟩,
    ⟨(some 8), none, .load none (.tmp 7)⟩,
    ⟨(some 9), none, .callF 17 [.tmp 8]⟩,
    ⟨(some 10), none, .un .not (.tmp 9)⟩,
    ⟨(some 11), none, .mov (.tmp 10)⟩,
    ⟨(some 12), (some (11, false)), .fieldAddr 1 (.tmp 1)⟩,
    ⟨(some 13), (some (11, false)), .load none (.tmp 12)⟩,
    ⟨(some 14), (some (11, false)), .callF 17 [.tmp 13]⟩,
    ⟨(some 15), (some (11, false)), .un .not (.tmp 14)⟩,
    ⟨(some 16), none, .pick (.tmp 11) (.const (.bool true)) (.tmp 15)⟩,
    ⟨(some 17), none, .mov (.tmp 16)⟩,
    ⟨(some 18), (some (17, false)), .fieldAddr 2 (.tmp 1)⟩,
    ⟨(some 19), (some (17, false)), .load none (.tmp 18)⟩,
    ⟨(some 20), (some (17, false)), .callF 17 [.tmp 19]⟩,
    ⟨(some 21), (some (17, false)), .un .not (.tmp 20)⟩,
    ⟨(some 22), none, .pick (.tmp 17) (.const (.bool true)) (.tmp 21)⟩]

def f9r2 : List AInstr := [
    ⟨(some 2), none, .mov (.const (.string ⟨#[]⟩))⟩,
    ⟨(some 3), none, .mov (.const (.int .i64 2))⟩]

def f9r3 : List AInstr := [
    ⟨(some 4), none, .alloc [.pointer none, .slice none 0 0]⟩]

def f9r4 : List AInstr := [
    ⟨(some 23), none, .fieldAddr 0 (.tmp 1)⟩,
    ⟨(some 24), none, .load none (.tmp 23)⟩,
    ⟨(some 28), none, .fieldAddr 1 (.tmp 1)⟩,
    ⟨(some 29), none, .load none (.tmp 28)⟩,
    ⟨(some 33), none, .fieldAddr 2 (.tmp 1)⟩,
    ⟨(some 34), none, .load none (.tmp 33)⟩,
    ⟨(some 25), none, .callF 13 [.tmp 24]⟩,
    ⟨(some 26), none, .str .add [.const (.string ⟨#[114, 97, 116, 101, 32]⟩), .tmp 25]⟩,
    ⟨(some 27), none, .str .add [.tmp 26, .const (.string ⟨#[32]⟩)]⟩,
    ⟨(some 30), none, .callF 13 [.tmp 29]⟩,
    ⟨(some 31), none, .str .add [.tmp 27, .tmp 30]⟩,
    ⟨(some 32), none, .str .add [.tmp 31, .const (.string ⟨#[32]⟩)]⟩,
    ⟨(some 35), none, .callF 13 [.tmp 34]⟩,
    ⟨(some 36), none, .str .add [.tmp 32, .tmp 35]⟩,
    ⟨(some 37), none, .str .add [.tmp 36, .const (.string ⟨#[10]⟩)]⟩,
    ⟨(some 38), none, .callF 18 [.tmp 4, .tmp 37]⟩]

def f9r5 : List AInstr := [
    ⟨(some 39), none, .fieldAddr 3 (.tmp 1)⟩,
    ⟨(some 40), none, .load none (.tmp 39)⟩,
    ⟨(some 41), none, .len (.tmp 40)⟩,
    ⟨(some 42), none, .mov (.const (.int .i64 0))⟩]

def f9r6 : List AInstr := [
    ⟨(some 43), none, .ibin .lss (.tmp 42) (.tmp 41)⟩]

def f9r7 : List AInstr := [
    ⟨(some 44), none, .indexAddr 2 (.tmp 40) (.tmp 42)⟩,
    ⟨(some 45), none, .load (some 2) (.tmp 44)⟩,
    ⟨(some 6), none, .alloc [.int .i64 0, .int .i64 0]⟩,
    ⟨none, none, .store 2 (.tmp 6) (.tmp 45)⟩]

def f9r8 : List AInstr := [
    ⟨(some 46), none, .fieldAddr 0 (.tmp 6)⟩,
    ⟨(some 47), none, .load none (.tmp 46)⟩,
    ⟨(some 48), none, .ibin .lss (.tmp 47) (.const (.int .i64 1))⟩,
    ⟨(some 49), none, .mov (.tmp 48)⟩,
    ⟨(some 50), (some (49, false)), .fieldAddr 0 (.tmp 6)⟩,
    ⟨(some 51), (some (49, false)), .load none (.tmp 50)⟩,
    ⟨(some 52), (some (49, false)), .ibin .gtr (.tmp 51) (.const (.int .i64 3))⟩,
    ⟨(some 53), none, .pick (.tmp 49) (.const (.bool true)) (.tmp 52)⟩,
    ⟨(some 54), none, .mov (.tmp 53)⟩,
    ⟨(some 55), (some (54, false)), .fieldAddr 1 (.tmp 6)⟩,
    ⟨(some 56), (some (54, false)), .load none (.tmp 55)⟩,
    ⟨(some 57), (some (54, false)), .callF 17 [.tmp 56]⟩,
    ⟨(some 58), (some (54, false)), .un .not (.tmp 57)⟩,
    ⟨(some 59), none, .pick (.tmp 54) (.const (.bool true)) (.tmp 58)⟩]

def f9r9 : List AInstr := [
    ⟨(some 2), none, .mov (.const (.string ⟨#[]⟩))⟩,
    ⟨(some 3), none, .mov (.const (.int .i64 2))⟩]

def f9r10 : List AInstr := [
    ⟨(some 61), none, .fieldAddr 0 (.tmp 6)⟩,
    ⟨(some 62), none, .load none (.tmp 61)⟩,
    ⟨(some 63), none, .ibin .sub (.tmp 62) (.const (.int .i64 1))⟩,
    ⟨(some 67), none, .fieldAddr 1 (.tmp 6)⟩,
    ⟨(some 68), none, .load none (.tmp 67)⟩,
    ⟨(some 60), none, .callF 19 []⟩,
    ⟨(some 64), none, .indexAddr 1 (.tmp 60) (.tmp 63)⟩,
    ⟨(some 65), none, .load none (.tmp 64)⟩,
    ⟨(some 66), none, .str .add [.tmp 65, .const (.string ⟨#[32]⟩)]⟩,
    ⟨(some 69), none, .callF 13 [.tmp 68]⟩,
    ⟨(some 70), none, .str .add [.tmp 66, .tmp 69]⟩,
    ⟨(some 71), none, .str .add [.tmp 70, .const (.string ⟨#[10]⟩)]⟩,
    ⟨(some 72), none, .callF 18 [.tmp 4, .tmp 71]⟩]

def f9r11 : List AInstr := [
    ⟨(some 73), none, .ibin .add (.tmp 42) (.const (.int .i64 1))⟩,
    ⟨(some 42), none, .mov (.tmp 73)⟩]

/-- live: [4, 40, 41, 42] -/
def f9l0 : ACode := (.seq (.ops f9r6)
  (.keep [4, 40, 41, 42, 43] (.seq (.cond (.tmp 43) .skip (.exit 0))
  (.keep [4, 40, 41, 42] (.seq (.block 1 (.seq (.ops f9r7)
  (.keep [4, 6, 40, 41, 42] (.seq (.seq (.ops f9r8)
  (.keep [4, 6, 40, 41, 42, 59] (.cond (.tmp 59) (.keep [] (.seq (.ops f9r9)
  (.keep [2, 3] .ret))) .skip)))
  (.keep [4, 6, 40, 41, 42] (.alt [(f9r10, [(0, 2, false), (0, 2, false), (0, 2, false), (0, 1, false), (0, 1, false), (0, 0, true), (1, 2, false), (1, 2, false), (1, 2, false), (1, 0, true), (2, 2, false), (2, 2, false), (2, 0, true)])]))))))
  (.keep [4, 40, 41, 42] (.ops f9r11)))))))

def f9r13 : List AInstr := [
    ⟨(some 74), none, .callF 20 [.tmp 4]⟩,
    ⟨(some 2), none, .mov (.tmp 74)⟩,
    ⟨(some 3), none, .mov (.const (.int .i64 0))⟩]

def f9b : ACode := (.seq (.ops f9r0)
  (.keep [1] (.seq (.seq (.ops f9r1)
  (.keep [1, 22] (.cond (.tmp 22) (.keep [] (.seq (.ops f9r2)
  (.keep [2, 3] .ret))) .skip)))
  (.keep [1] (.seq (.ops f9r3)
  (.keep [1, 4] (.seq (.alt [(f9r4, [(0, 0, false), (0, 0, false), (0, 1, false), (0, 1, false), (0, 2, false), (0, 2, false), (0, 0, true), (1, 3, false), (1, 3, false), (1, 0, true), (2, 3, false), (2, 3, false), (2, 0, true), (3, 3, false), (3, 3, false), (3, 0, true)])])
  (.keep [1, 4] (.seq (.seq (.ops f9r5)
  (.keep [4, 40, 41, 42] (.block 0 (.loop f9l0))))
  (.keep [4] (.seq (.ops f9r13)
  (.keep [2, 3] .ret))))))))))))

def f9 : AFn := ⟨75, [.tmp 2, .tmp 3], f9b⟩

theorem f9_ok : compFn Tryd.prog 9 = some f9.strip := by kernel_rfl

/- function 10: weirhouse/bench.Parse; parameters 1; operations that are not compiled: 0 -/
def f10r0 : List AInstr := [
    ⟨(some 2), none, .alloc [.int .i64 0, .int .i64 0, .int .i64 0, .slice none 0 0]⟩,
    ⟨(some 3), none, .mov (.const (.int .i64 0))⟩,
    ⟨(some 4), none, .mov (.const (.int .i64 0))⟩]

def f10r1 : List AInstr := [
    ⟨(some 5), none, .alloc [.int .i64 0, .int .i64 0, .int .i64 0, .slice none 0 0]⟩]

def f10r2 : List AInstr := [
    ⟨(some 6), none, .mov (.const (.int .i64 0))⟩]

def f10r3 : List AInstr := [
    ⟨(some 7), none, .mov (.const (.func (.func 21) #[] #[]))⟩]

def f10r4 : List AInstr := [
    ⟨(some 11), none, .mov (.tmp 6)⟩,
    ⟨(some 12), none, .ibin .eql (.tmp 11) (.const (.int .i64 0))⟩,
    ⟨(some 13), none, .mov (.tmp 12)⟩,
    ⟨(some 14), (some (13, false)), .mov (.tmp 0)⟩,
    ⟨(some 15), (some (13, false)), .str (.cmp true) [.tmp 14, .const (.string ⟨#[]⟩)]⟩,
    ⟨(some 16), none, .pick (.tmp 13) (.const (.bool true)) (.tmp 15)⟩]

def f10r5 : List AInstr := [
    ⟨(some 18), none, .mov (.tmp 0)⟩,
    ⟨(some 19), none, .callF 23 [.tmp 18, .const (.string ⟨#[10]⟩)]⟩,
    ⟨(some 17), none, .mov (.tmp 19)⟩,
    ⟨(some 20), none, .extract 0 (.tmp 17)⟩,
    ⟨(some 21), none, .extract 1 (.tmp 17)⟩,
    ⟨(some 22), none, .extract 2 (.tmp 17)⟩,
    ⟨(some 8), none, .mov (.tmp 20)⟩,
    ⟨(some 9), none, .mov (.tmp 21)⟩,
    ⟨(some 10), none, .mov (.tmp 22)⟩]

def f10r6 : List AInstr := [
    ⟨(some 23), none, .mov (.tmp 10)⟩,
    ⟨(some 24), none, .un .not (.tmp 23)⟩,
    ⟨(some 25), none, .mov (.tmp 24)⟩,
    ⟨(some 26), (some (25, false)), .mov (.tmp 7)⟩,
    ⟨(some 27), (some (25, false)), .mov (.tmp 8)⟩,
    ⟨(some 28), (some (25, false)), .callV (.tmp 26) [.tmp 27, .tmp 5]⟩,
    ⟨(some 29), (some (25, false)), .un .not (.tmp 28)⟩,
    ⟨(some 30), none, .pick (.tmp 25) (.const (.bool true)) (.tmp 29)⟩]

def f10r7 : List AInstr := [
    ⟨(some 31), none, .build [.int .i64 0, .int .i64 0, .int .i64 0, .slice none 0 0] []⟩,
    ⟨(some 32), none, .mov (.tmp 6)⟩,
    ⟨none, none, .store 4 (.tmp 2) (.tmp 31)⟩,
    ⟨(some 3), none, .mov (.tmp 32)⟩,
    ⟨(some 4), none, .mov (.const (.int .i64 1))⟩]

def f10r8 : List AInstr := [
    ⟨(some 33), none, .mov (.tmp 9)⟩,
    ⟨(some 0), none, .mov (.tmp 33)⟩]

def f10r9 : List AInstr := [
    ⟨(some 34), none, .mov (.tmp 6)⟩,
    ⟨(some 35), none, .ibin .add (.tmp 34) (.const (.int .i64 1))⟩,
    ⟨(some 6), none, .mov (.tmp 35)⟩]

def f10r10 : List AInstr := [
    ⟨(some 7), none, .mov (.const (.func (.func 22) #[] #[]))⟩]

/-- live: [0, 2, 5, 6, 7] -/
def f10l0 : ACode := (.seq (.seq (.ops f10r4)
  (.keep [0, 2, 5, 6, 7, 16] (.cond (.tmp 16) .skip (.exit 0))))
  (.keep [0, 2, 5, 6, 7] (.seq (.block 1 (.seq (.ops f10r5)
  (.keep [2, 5, 6, 7, 8, 9, 10] (.seq (.seq (.ops f10r6)
  (.keep [2, 5, 6, 9, 30] (.cond (.tmp 30) (.keep [2, 6] (.seq (.ops f10r7)
  (.keep [2, 3, 4] .ret))) .skip)))
  (.keep [2, 5, 6, 9] (.seq (.ops f10r8)
  (.keep [0, 2, 5, 6] (.ops f10r9))))))))
  (.keep [0, 2, 5, 6] (.ops f10r10)))))

def f10r12 : List AInstr := [
    ⟨(some 36), none, .load (some 4) (.tmp 5)⟩,
    ⟨none, none, .store 4 (.tmp 2) (.tmp 36)⟩,
    ⟨(some 3), none, .mov (.const (.int .i64 0))⟩,
    ⟨(some 4), none, .mov (.const (.int .i64 0))⟩]

def f10b : ACode := (.seq (.ops f10r0)
  (.keep [0, 2] (.seq (.ops f10r1)
  (.keep [0, 2, 5] (.seq (.ops f10r2)
  (.keep [0, 2, 5, 6] (.seq (.seq (.ops f10r3)
  (.keep [0, 2, 5, 6, 7] (.block 0 (.loop f10l0))))
  (.keep [2, 5] (.seq (.ops f10r12)
  (.keep [2, 3, 4] .ret))))))))))

def f10 : AFn := ⟨37, [.cell 2 (some 4), .tmp 3, .tmp 4], f10b⟩

theorem f10_ok : compFn Tryd.prog 10 = some f10.strip := by kernel_rfl

/- function 11: weirhouse/weirhouseref.SameScript; parameters 2; operations that are not compiled: 0 -/
def f11r0 : List AInstr := [
    ⟨(some 2), none, .box (.tmp 0)⟩,
    ⟨(some 3), none, .box (.tmp 1)⟩,
    ⟨(some 4), none, .mov (.const (.bool false))⟩]

def f11r1 : List AInstr := [
    ⟨(some 6), none, .fieldAddr 3 (.tmp 2)⟩,
    ⟨(some 7), none, .load none (.tmp 6)⟩,
    ⟨(some 8), none, .len (.tmp 7)⟩,
    ⟨(some 9), none, .fieldAddr 3 (.tmp 3)⟩,
    ⟨(some 10), none, .load none (.tmp 9)⟩,
    ⟨(some 11), none, .len (.tmp 10)⟩,
    ⟨(some 12), none, .ibin .neq (.tmp 8) (.tmp 11)⟩]

def f11r2 : List AInstr := [
    ⟨(some 4), none, .mov (.const (.bool false))⟩]

def f11r3 : List AInstr := [
    ⟨(some 13), none, .fieldAddr 3 (.tmp 2)⟩,
    ⟨(some 14), none, .load none (.tmp 13)⟩,
    ⟨(some 15), none, .len (.tmp 14)⟩,
    ⟨(some 16), none, .mov (.const (.int .i64 0))⟩]

def f11r4 : List AInstr := [
    ⟨(some 17), none, .ibin .lss (.tmp 16) (.tmp 15)⟩]

def f11r5 : List AInstr := [
    ⟨(some 18), none, .mov (.tmp 16)⟩,
    ⟨(some 5), none, .mov (.tmp 18)⟩]

def f11r6 : List AInstr := [
    ⟨(some 19), none, .fieldAddr 3 (.tmp 2)⟩,
    ⟨(some 20), none, .load none (.tmp 19)⟩,
    ⟨(some 21), none, .mov (.tmp 5)⟩,
    ⟨(some 22), none, .indexAddr 2 (.tmp 20) (.tmp 21)⟩,
    ⟨(some 23), none, .load (some 2) (.tmp 22)⟩,
    ⟨(some 24), none, .fieldAddr 3 (.tmp 3)⟩,
    ⟨(some 25), none, .load none (.tmp 24)⟩,
    ⟨(some 26), none, .mov (.tmp 5)⟩,
    ⟨(some 27), none, .indexAddr 2 (.tmp 25) (.tmp 26)⟩,
    ⟨(some 28), none, .load (some 2) (.tmp 27)⟩,
    ⟨(some 29), none, .eqA true [false, false] (.tmp 23) (.tmp 28)⟩]

def f11r7 : List AInstr := [
    ⟨(some 4), none, .mov (.const (.bool false))⟩]

def f11r8 : List AInstr := [
    ⟨(some 30), none, .ibin .add (.tmp 16) (.const (.int .i64 1))⟩,
    ⟨(some 16), none, .mov (.tmp 30)⟩]

/-- live: [2, 3, 15, 16] -/
def f11l0 : ACode := (.seq (.ops f11r4)
  (.keep [2, 3, 15, 16, 17] (.seq (.cond (.tmp 17) .skip (.exit 0))
  (.keep [2, 3, 15, 16] (.seq (.block 1 (.seq (.ops f11r5)
  (.keep [2, 3, 5, 15, 16] (.seq (.draw f11r6 [(0, 0, false), (0, 0, false), (0, 0, false), (0, 0, false), (0, 0, false), (0, 0, false), (0, 0, false), (0, 0, false), (0, 0, false), (0, 0, false), (0, 0, false)])
  (.keep [2, 3, 15, 16, 29] (.cond (.tmp 29) (.keep [] (.seq (.ops f11r7)
  (.keep [4] .ret))) .skip))))))
  (.keep [2, 3, 15, 16] (.ops f11r8)))))))

def f11r10 : List AInstr := [
    ⟨(some 31), none, .fieldAddr 0 (.tmp 2)⟩,
    ⟨(some 32), none, .load none (.tmp 31)⟩,
    ⟨(some 33), none, .fieldAddr 0 (.tmp 3)⟩,
    ⟨(some 34), none, .load none (.tmp 33)⟩,
    ⟨(some 35), none, .ibin .eql (.tmp 32) (.tmp 34)⟩,
    ⟨(some 36), none, .mov (.tmp 35)⟩,
    ⟨(some 37), (some (36, true)), .fieldAddr 1 (.tmp 2)⟩,
    ⟨(some 38), (some (36, true)), .load none (.tmp 37)⟩,
    ⟨(some 39), (some (36, true)), .fieldAddr 1 (.tmp 3)⟩,
    ⟨(some 40), (some (36, true)), .load none (.tmp 39)⟩,
    ⟨(some 41), (some (36, true)), .ibin .eql (.tmp 38) (.tmp 40)⟩,
    ⟨(some 42), none, .pick (.tmp 36) (.tmp 41) (.const (.bool false))⟩,
    ⟨(some 43), none, .mov (.tmp 42)⟩,
    ⟨(some 44), (some (43, true)), .fieldAddr 2 (.tmp 2)⟩,
    ⟨(some 45), (some (43, true)), .load none (.tmp 44)⟩,
    ⟨(some 46), (some (43, true)), .fieldAddr 2 (.tmp 3)⟩,
    ⟨(some 47), (some (43, true)), .load none (.tmp 46)⟩,
    ⟨(some 48), (some (43, true)), .ibin .eql (.tmp 45) (.tmp 47)⟩,
    ⟨(some 49), none, .pick (.tmp 43) (.tmp 48) (.const (.bool false))⟩,
    ⟨(some 4), none, .mov (.tmp 49)⟩]

def f11b : ACode := (.seq (.ops f11r0)
  (.keep [2, 3] (.seq (.seq (.ops f11r1)
  (.keep [2, 3, 12] (.cond (.tmp 12) (.keep [] (.seq (.ops f11r2)
  (.keep [4] .ret))) .skip)))
  (.keep [2, 3] (.seq (.seq (.ops f11r3)
  (.keep [2, 3, 15, 16] (.block 0 (.loop f11l0))))
  (.keep [2, 3] (.seq (.ops f11r10)
  (.keep [4] .ret))))))))

def f11 : AFn := ⟨50, [.tmp 4], f11b⟩

theorem f11_ok : compFn Tryd.prog 11 = some f11.strip := by kernel_rfl

/- function 12: weirhouse/pace.Play; parameters 4; operations that are not compiled: 0 -/
def f12r0 : List AInstr := [
    ⟨(some 8), none, .mov (.const (.slice none 0 0))⟩,
    ⟨(some 9), none, .alloc [.slice none 0 0, .int .i64 0, .int .i64 0, .int .i64 0, .int .i64 0, .int .i64 0, .int .i64 0, .int .i64 0, .int .i64 0, .int .i64 0]⟩,
    ⟨(some 10), none, .mov (.const (.int .i64 0))⟩]

def f12r1 : List AInstr := [
    ⟨(some 19), none, .mov (.tmp 0)⟩,
    ⟨(some 20), none, .mov (.tmp 1)⟩,
    ⟨(some 21), none, .mov (.tmp 2)⟩,
    ⟨(some 22), none, .callF 24 [.tmp 19, .tmp 20, .tmp 21]⟩,
    ⟨(some 11), none, .mov (.tmp 22)⟩]

def f12r2 : List AInstr := [
    ⟨(some 23), none, .mov (.tmp 11)⟩,
    ⟨(some 24), none, .ibin .neq (.tmp 23) (.const (.int .i64 0))⟩]

def f12r3 : List AInstr := [
    ⟨(some 25), none, .build [.slice none 0 0, .int .i64 0, .int .i64 0, .int .i64 0, .int .i64 0, .int .i64 0, .int .i64 0, .int .i64 0, .int .i64 0, .int .i64 0] []⟩,
    ⟨(some 26), none, .mov (.tmp 11)⟩,
    ⟨(some 8), none, .mov (.const (.slice none 0 0))⟩,
    ⟨none, none, .store 10 (.tmp 9) (.tmp 25)⟩,
    ⟨(some 10), none, .mov (.tmp 26)⟩]

def f12r4 : List AInstr := [
    ⟨(some 28), none, .mov (.tmp 0)⟩,
    ⟨(some 29), none, .mov (.tmp 1)⟩,
    ⟨(some 30), none, .mov (.tmp 2)⟩,
    ⟨(some 31), none, .callF 25 [.tmp 28, .tmp 29, .tmp 30]⟩,
    ⟨(some 27), none, .mov (.tmp 31)⟩,
    ⟨(some 32), none, .extract 0 (.tmp 27)⟩,
    ⟨(some 33), none, .extract 1 (.tmp 27)⟩,
    ⟨(some 12), none, .alloc [.int .i64 0, .int .i64 0, .int .i64 0, .int .i64 0, .int .i64 0]⟩,
    ⟨none, none, .store 5 (.tmp 12) (.tmp 32)⟩,
    ⟨(some 13), none, .mov (.tmp 33)⟩]

def f12r5 : List AInstr := [
    ⟨(some 34), none, .build [.slice none 0 0, .int .i64 0, .int .i64 0, .int .i64 0] [(1, 1, (.const (.int .i64 100))), (2, 1, (.const (.int .i64 60000)))]⟩,
    ⟨(some 35), none, .load (some 5) (.tmp 12)⟩,
    ⟨(some 36), none, .build [.slice none 0 0, .int .i64 0, .int .i64 0, .int .i64 0, .int .i64 0, .int .i64 0, .int .i64 0, .int .i64 0, .int .i64 0, .int .i64 0] [(0, 4, (.tmp 34)), (4, 5, (.tmp 35))]⟩,
    ⟨(some 14), none, .alloc [.slice none 0 0, .int .i64 0, .int .i64 0, .int .i64 0, .int .i64 0, .int .i64 0, .int .i64 0, .int .i64 0, .int .i64 0, .int .i64 0]⟩,
    ⟨none, none, .store 10 (.tmp 14) (.tmp 36)⟩]

def f12r6 : List AInstr := [
    ⟨(some 15), none, .mov (.const (.slice none 0 0))⟩]

def f12r7 : List AInstr := [
    ⟨(some 37), none, .mov (.tmp 3)⟩,
    ⟨(some 38), none, .len (.tmp 37)⟩,
    ⟨(some 39), none, .mov (.const (.int .i64 0))⟩]

def f12r8 : List AInstr := [
    ⟨(some 40), none, .ibin .lss (.tmp 39) (.tmp 38)⟩]

def f12r9 : List AInstr := [
    ⟨(some 41), none, .indexAddr 2 (.tmp 37) (.tmp 39)⟩,
    ⟨(some 42), none, .load (some 2) (.tmp 41)⟩,
    ⟨(some 17), none, .alloc [.int .i64 0, .int .i64 0]⟩,
    ⟨none, none, .store 2 (.tmp 17) (.tmp 42)⟩]

def f12r10 : List AInstr := [
    ⟨(some 18), none, .alloc [.int .i64 0, .slice none 0 0]⟩]

def f12r11 : List AInstr := [
    ⟨(some 44), none, .load (some 10) (.tmp 14)⟩,
    ⟨(some 45), none, .load (some 2) (.tmp 17)⟩,
    ⟨(some 46), none, .callF 26 [.tmp 44, .tmp 45]⟩,
    ⟨(some 43), none, .mov (.tmp 46)⟩,
    ⟨(some 47), none, .extract 0 (.tmp 43)⟩,
    ⟨(some 48), none, .extract 1 (.tmp 43)⟩,
    ⟨none, none, .store 10 (.tmp 14) (.tmp 47)⟩,
    ⟨none, none, .store 2 (.tmp 18) (.tmp 48)⟩]

def f12r12 : List AInstr := [
    ⟨(some 49), none, .mov (.tmp 15)⟩,
    ⟨(some 50), none, .load (some 2) (.tmp 18)⟩,
    ⟨(some 51), none, .buildSlice 2 1 [.int .i64 0, .slice none 0 0] [(0, 2, (.tmp 50))]⟩,
    ⟨(some 52), none, .append 2 32 (.tmp 49) (.tmp 51)⟩,
    ⟨(some 15), none, .mov (.tmp 52)⟩]

def f12r13 : List AInstr := [
    ⟨(some 53), none, .ibin .add (.tmp 39) (.const (.int .i64 1))⟩,
    ⟨(some 39), none, .mov (.tmp 53)⟩]

/-- live: [9, 14, 15, 37, 38, 39] -/
def f12l0 : ACode := (.seq (.ops f12r8)
  (.keep [9, 14, 15, 37, 38, 39, 40] (.seq (.cond (.tmp 40) .skip (.exit 0))
  (.keep [9, 14, 15, 37, 38, 39] (.seq (.block 1 (.seq (.ops f12r9)
  (.keep [9, 14, 15, 17, 37, 38, 39] (.seq (.ops f12r10)
  (.keep [9, 14, 15, 17, 18, 37, 38, 39] (.seq (.ops f12r11)
  (.keep [9, 14, 15, 18, 37, 38, 39] (.ops f12r12))))))))
  (.keep [9, 14, 15, 37, 38, 39] (.ops f12r13)))))))

def f12r15 : List AInstr := [
    ⟨(some 54), none, .fieldAddr 0 (.tmp 14)⟩,
    ⟨(some 55), none, .fieldAddr 0 (.tmp 54)⟩,
    ⟨(some 56), none, .load none (.tmp 55)⟩,
    ⟨(some 57), none, .callF 27 [.tmp 56]⟩,
    ⟨(some 58), none, .fieldAddr 0 (.tmp 14)⟩,
    ⟨(some 59), none, .fieldAddr 0 (.tmp 58)⟩,
    ⟨none, none, .store 1 (.tmp 59) (.tmp 57)⟩]

def f12r16 : List AInstr := [
    ⟨(some 60), none, .mov (.tmp 15)⟩,
    ⟨(some 61), none, .load (some 10) (.tmp 14)⟩,
    ⟨(some 8), none, .mov (.tmp 60)⟩,
    ⟨none, none, .store 10 (.tmp 9) (.tmp 61)⟩,
    ⟨(some 10), none, .mov (.const (.int .i64 0))⟩]

def f12b : ACode := (.seq (.ops f12r0)
  (.keep [0, 1, 2, 3, 9] (.seq (.seq (.ops f12r1)
  (.keep [0, 1, 2, 3, 9, 11] (.seq (.ops f12r2)
  (.keep [0, 1, 2, 3, 9, 11, 24] (.cond (.tmp 24) (.keep [9, 11] (.seq (.ops f12r3)
  (.keep [8, 9, 10] .ret))) .skip)))))
  (.keep [0, 1, 2, 3, 9] (.seq (.ops f12r4)
  (.keep [3, 9, 12] (.seq (.ops f12r5)
  (.keep [3, 9, 14] (.seq (.ops f12r6)
  (.keep [3, 9, 14, 15] (.seq (.seq (.ops f12r7)
  (.keep [9, 14, 15, 37, 38, 39] (.block 0 (.loop f12l0))))
  (.keep [9, 14, 15] (.seq (.ops f12r15)
  (.keep [9, 14, 15] (.seq (.draw f12r16 [(0, 0, false), (0, 0, false), (0, 0, false), (0, 0, true), (1, 1, false)])
  (.keep [8, 9, 10] .ret))))))))))))))))

def f12 : AFn := ⟨62, [.tmp 8, .cell 9 (some 10), .tmp 10], f12b⟩

theorem f12_ok : compFn Tryd.prog 12 = some f12.strip := by kernel_rfl

/- function 13: strconv.Itoa; parameters 1; operations that are not compiled: 0 -/
def f13r0 : List AInstr := [
    ⟨(some 2), none, .mov (.const (.string ⟨#[]⟩))⟩]

def f13r1 : List AInstr := [
    ⟨(some 3), none, .mov (.tmp 0)⟩,
    ⟨(some 4), none, .callF 28 [.tmp 3]⟩,
    ⟨(some 2), none, .mov (.tmp 4)⟩]

def f13b : ACode := (.seq (.ops f13r0)
  (.keep [0] (.seq (.ops f13r1)
  (.keep [2] .ret))))

def f13 : AFn := ⟨5, [.tmp 2], f13b⟩

theorem f13_ok : compFn Tryd.prog 13 = some f13.strip := by kernel_rfl

/- function 14: unicode/utf8.RuneCountInString; parameters 1; operations that are not compiled: 2 -/
def f14r0 : List AInstr := [
    ⟨(some 2), none, .mov (.const (.int .i64 0))⟩]

def f14r1 : List AInstr := [
    ⟨(some 3), none, .mov (.tmp 0)⟩,
    ⟨(some 4), none, .bad⟩]

def f14r2 : List AInstr := [
    ⟨(some 5), none, .bad⟩,
    ⟨(some 6), none, .extract 0 (.tmp 5)⟩]

def f14r3 : List AInstr := [
    ⟨(some 7), none, .mov (.tmp 2)⟩,
    ⟨(some 8), none, .ibin .add (.tmp 7) (.const (.int .i64 1))⟩,
    ⟨(some 2), none, .mov (.tmp 8)⟩]

/-- live: [2] -/
def f14l0 : ACode := (.seq (.ops f14r2)
  (.keep [2, 6] (.seq (.cond (.tmp 6) .skip (.exit 0))
  (.keep [2] (.block 1 (.ops f14r3))))))

def f14r5 : List AInstr := [
    ⟨(some 9), none, .mov (.tmp 2)⟩,
    ⟨(some 2), none, .mov (.tmp 9)⟩]

def f14b : ACode := (.seq (.ops f14r0)
  (.keep [0, 2] (.seq (.seq (.ops f14r1)
  (.keep [2] (.block 0 (.loop f14l0))))
  (.keep [2] (.seq (.ops f14r5)
  (.keep [2] .ret))))))

def f14 : AFn := ⟨10, [.tmp 2], f14b⟩

theorem f14_ok : compFn Tryd.prog 14 = some f14.strip := by kernel_rfl

/- function 16: strings.Index; parameters 2; operations that are not compiled: 0 -/
def f16r0 : List AInstr := [
    ⟨(some 4), none, .mov (.const (.int .i64 0))⟩]

def f16r1 : List AInstr := [
    ⟨(some 5), none, .mov (.tmp 0)⟩,
    ⟨(some 6), none, .mov (.tmp 1)⟩,
    ⟨(some 7), none, .callF 29 [.tmp 5, .tmp 6]⟩,
    ⟨(some 4), none, .mov (.tmp 7)⟩]

def f16b : ACode := (.seq (.ops f16r0)
  (.keep [0, 1] (.seq (.ops f16r1)
  (.keep [4] .ret))))

def f16 : AFn := ⟨8, [.tmp 4], f16b⟩

theorem f16_ok : compFn Tryd.prog 16 = some f16.strip := by kernel_rfl

/- function 17: weirhouse/bench.small; parameters 1; operations that are not compiled: 0 -/
def f17r0 : List AInstr := [
    ⟨(some 2), none, .mov (.const (.bool false))⟩]

def f17r1 : List AInstr := [
    ⟨(some 3), none, .mov (.tmp 0)⟩,
    ⟨(some 4), none, .ibin .geq (.tmp 3) (.const (.int .i64 0))⟩,
    ⟨(some 5), none, .mov (.tmp 4)⟩,
    ⟨(some 6), (some (5, true)), .mov (.tmp 0)⟩,
    ⟨(some 7), (some (5, true)), .ibin .leq (.tmp 6) (.const (.int .i64 1099511627776))⟩,
    ⟨(some 8), none, .pick (.tmp 5) (.tmp 7) (.const (.bool false))⟩,
    ⟨(some 2), none, .mov (.tmp 8)⟩]

def f17b : ACode := (.seq (.ops f17r0)
  (.keep [0] (.seq (.ops f17r1)
  (.keep [2] .ret))))

def f17 : AFn := ⟨9, [.tmp 2], f17b⟩

theorem f17_ok : compFn Tryd.prog 17 = some f17.strip := by kernel_rfl

/- function 18: (*strings.Builder).WriteString; parameters 2; operations that are not compiled: 1 -/
def f18r0 : List AInstr := [
    ⟨(some 4), none, .mov (.const (.int .i64 0))⟩,
    ⟨(some 5), none, .mov (.const (.nilIface))⟩]

def f18r1 : List AInstr := [
    ⟨(some 6), none, .mov (.tmp 0)⟩,
    ⟨(some 7), none, .callF 30 [.tmp 6]⟩]

def f18r2 : List AInstr := [
    ⟨(some 8), none, .mov (.tmp 0)⟩,
    ⟨(some 9), none, .mov (.tmp 0)⟩,
    ⟨(some 10), none, .nilCheck (.tmp 9)⟩,
    ⟨(some 11), none, .fieldAddr 1 (.tmp 10)⟩,
    ⟨(some 12), none, .load none (.tmp 11)⟩,
    ⟨(some 13), none, .mov (.tmp 1)⟩,
    ⟨(some 14), none, .bad⟩,
    ⟨(some 15), none, .nilCheck (.tmp 8)⟩,
    ⟨(some 16), none, .fieldAddr 1 (.tmp 15)⟩,
    ⟨none, none, .store 1 (.tmp 16) (.tmp 14)⟩]

def f18r3 : List AInstr := [
    ⟨(some 17), none, .mov (.tmp 1)⟩,
    ⟨(some 18), none, .str .len [.tmp 17]⟩,
    ⟨(some 4), none, .mov (.tmp 18)⟩,
    ⟨(some 5), none, .mov (.const (.nilIface))⟩]

def f18b : ACode := (.seq (.ops f18r0)
  (.keep [0, 1] (.seq (.ops f18r1)
  (.keep [0, 1] (.seq (.ops f18r2)
  (.keep [1] (.seq (.ops f18r3)
  (.keep [4, 5] .ret))))))))

def f18 : AFn := ⟨19, [.tmp 4, .tmp 5], f18b⟩

theorem f18_ok : compFn Tryd.prog 18 = some f18.strip := by kernel_rfl

/- function 19: weirhouse/bench.words; parameters 0; operations that are not compiled: 0 -/
def f19r0 : List AInstr := [
    ⟨(some 0), none, .mov (.const (.slice none 0 0))⟩]

def f19r1 : List AInstr := [
    ⟨(some 1), none, .buildSlice 1 3 [.string ⟨#[]⟩, .string ⟨#[]⟩, .string ⟨#[]⟩] [(0, 1, (.const (.string ⟨#[105, 110]⟩))), (1, 1, (.const (.string ⟨#[116, 105, 99, 107]⟩))), (2, 1, (.const (.string ⟨#[112, 111, 108, 108]⟩)))]⟩,
    ⟨(some 0), none, .mov (.tmp 1)⟩]

def f19b : ACode := (.seq (.ops f19r0)
  (.keep [] (.seq (.ops f19r1)
  (.keep [0] .ret))))

def f19 : AFn := ⟨2, [.tmp 0], f19b⟩

theorem f19_ok : compFn Tryd.prog 19 = some f19.strip := by kernel_rfl

/- function 20: (*strings.Builder).String; parameters 1; operations that are not compiled: 2 -/
def f20r0 : List AInstr := [
    ⟨(some 2), none, .mov (.const (.string ⟨#[]⟩))⟩]

def f20r1 : List AInstr := [
    ⟨(some 3), none, .mov (.tmp 0)⟩,
    ⟨(some 4), none, .nilCheck (.tmp 3)⟩,
    ⟨(some 5), none, .fieldAddr 1 (.tmp 4)⟩,
    ⟨(some 6), none, .load none (.tmp 5)⟩,
    ⟨(some 7), none, .bad⟩,
    ⟨(some 8), none, .mov (.tmp 0)⟩,
    ⟨(some 9), none, .nilCheck (.tmp 8)⟩,
    ⟨(some 10), none, .fieldAddr 1 (.tmp 9)⟩,
    ⟨(some 11), none, .load none (.tmp 10)⟩,
    ⟨(some 12), none, .len (.tmp 11)⟩,
    ⟨(some 13), none, .bad⟩,
    ⟨(some 2), none, .mov (.tmp 13)⟩]

def f20b : ACode := (.seq (.ops f20r0)
  (.keep [0] (.seq (.draw f20r1 [(0, 0, false), (0, 0, false), (0, 0, false), (0, 0, false), (0, 2, true), (0, 1, false), (0, 1, false), (0, 1, false), (0, 1, false), (0, 1, false), (1, 0, true), (2, 2, false)])
  (.keep [2] .ret))))

def f20 : AFn := ⟨14, [.tmp 2], f20b⟩

theorem f20_ok : compFn Tryd.prog 20 = some f20.strip := by kernel_rfl

/- function 21: weirhouse/bench.head; parameters 2; operations that are not compiled: 0 -/
def f21r0 : List AInstr := [
    ⟨(some 4), none, .mov (.const (.bool false))⟩]

def f21r1 : List AInstr := [
    ⟨(some 10), none, .mov (.tmp 0)⟩,
    ⟨(some 11), none, .callF 31 [.tmp 10, .const (.string ⟨#[32]⟩)]⟩,
    ⟨(some 5), none, .mov (.tmp 11)⟩]

def f21r2 : List AInstr := [
    ⟨(some 12), none, .mov (.tmp 5)⟩,
    ⟨(some 13), none, .len (.tmp 12)⟩,
    ⟨(some 14), none, .ibin .neq (.tmp 13) (.const (.int .i64 4))⟩,
    ⟨(some 15), none, .mov (.tmp 14)⟩,
    ⟨(some 16), (some (15, false)), .mov (.tmp 5)⟩,
    ⟨(some 17), (some (15, false)), .indexAddr 1 (.tmp 16) (.const (.int .i64 0))⟩,
    ⟨(some 18), (some (15, false)), .load none (.tmp 17)⟩,
    ⟨(some 19), (some (15, false)), .str (.cmp true) [.tmp 18, .const (.string ⟨#[114, 97, 116, 101]⟩)]⟩,
    ⟨(some 20), none, .pick (.tmp 15) (.const (.bool true)) (.tmp 19)⟩]

def f21r3 : List AInstr := [
    ⟨(some 4), none, .mov (.const (.bool false))⟩]

def f21r4 : List AInstr := [
    ⟨(some 21), none, .mov (.tmp 1)⟩,
    ⟨(some 22), none, .nilCheck (.tmp 21)⟩,
    ⟨(some 23), none, .fieldAddr 0 (.tmp 22)⟩,
    ⟨(some 24), none, .mov (.tmp 1)⟩,
    ⟨(some 25), none, .nilCheck (.tmp 24)⟩,
    ⟨(some 26), none, .fieldAddr 1 (.tmp 25)⟩,
    ⟨(some 27), none, .mov (.tmp 1)⟩,
    ⟨(some 28), none, .nilCheck (.tmp 27)⟩,
    ⟨(some 29), none, .fieldAddr 2 (.tmp 28)⟩,
    ⟨(some 30), none, .buildSlice 1 3 [.pointer none, .pointer none, .pointer none] [(0, 1, (.tmp 23)), (1, 1, (.tmp 26)), (2, 1, (.tmp 29))]⟩,
    ⟨(some 31), none, .len (.tmp 30)⟩,
    ⟨(some 32), none, .mov (.const (.int .i64 0))⟩]

def f21r5 : List AInstr := [
    ⟨(some 33), none, .ibin .lss (.tmp 32) (.tmp 31)⟩]

def f21r6 : List AInstr := [
    ⟨(some 34), none, .mov (.tmp 32)⟩,
    ⟨(some 35), none, .indexAddr 1 (.tmp 30) (.tmp 32)⟩,
    ⟨(some 36), none, .load none (.tmp 35)⟩,
    ⟨(some 6), none, .mov (.tmp 34)⟩,
    ⟨(some 7), none, .mov (.tmp 36)⟩]

def f21r7 : List AInstr := [
    ⟨(some 38), none, .mov (.tmp 5)⟩,
    ⟨(some 39), none, .mov (.tmp 6)⟩,
    ⟨(some 40), none, .ibin .add (.tmp 39) (.const (.int .i64 1))⟩,
    ⟨(some 41), none, .indexAddr 1 (.tmp 38) (.tmp 40)⟩,
    ⟨(some 42), none, .load none (.tmp 41)⟩,
    ⟨(some 43), none, .callF 32 [.tmp 42]⟩,
    ⟨(some 37), none, .mov (.tmp 43)⟩,
    ⟨(some 44), none, .extract 0 (.tmp 37)⟩,
    ⟨(some 45), none, .extract 1 (.tmp 37)⟩,
    ⟨(some 8), none, .mov (.tmp 44)⟩,
    ⟨(some 9), none, .mov (.tmp 45)⟩]

def f21r8 : List AInstr := [
    ⟨(some 46), none, .mov (.tmp 9)⟩,
    ⟨(some 47), none, .un .not (.tmp 46)⟩]

def f21r9 : List AInstr := [
    ⟨(some 4), none, .mov (.const (.bool false))⟩]

def f21r10 : List AInstr := [
    ⟨(some 48), none, .mov (.tmp 7)⟩,
    ⟨(some 49), none, .mov (.tmp 8)⟩,
    ⟨(some 50), none, .nilCheck (.tmp 48)⟩,
    ⟨none, none, .store 1 (.tmp 50) (.tmp 49)⟩]

def f21r11 : List AInstr := [
    ⟨(some 51), none, .ibin .add (.tmp 32) (.const (.int .i64 1))⟩,
    ⟨(some 32), none, .mov (.tmp 51)⟩]

/-- live: [5, 30, 31, 32] -/
def f21l0 : ACode := (.seq (.ops f21r5)
  (.keep [5, 30, 31, 32, 33] (.seq (.cond (.tmp 33) .skip (.exit 0))
  (.keep [5, 30, 31, 32] (.seq (.block 1 (.seq (.ops f21r6)
  (.keep [5, 6, 7, 30, 31, 32] (.seq (.ops f21r7)
  (.keep [5, 7, 8, 9, 30, 31, 32] (.seq (.seq (.ops f21r8)
  (.keep [5, 7, 8, 30, 31, 32, 47] (.cond (.tmp 47) (.keep [] (.seq (.ops f21r9)
  (.keep [4] .ret))) .skip)))
  (.keep [5, 7, 8, 30, 31, 32] (.ops f21r10))))))))
  (.keep [5, 30, 31, 32] (.ops f21r11)))))))

def f21r13 : List AInstr := [
    ⟨(some 4), none, .mov (.const (.bool true))⟩]

def f21b : ACode := (.seq (.ops f21r0)
  (.keep [0, 1] (.seq (.ops f21r1)
  (.keep [1, 5] (.seq (.seq (.ops f21r2)
  (.keep [1, 5, 20] (.cond (.tmp 20) (.keep [] (.seq (.ops f21r3)
  (.keep [4] .ret))) .skip)))
  (.keep [1, 5] (.seq (.seq (.draw f21r4 [(0, 0, false), (0, 0, false), (0, 0, false), (0, 0, false), (0, 0, false), (0, 0, false), (0, 0, false), (0, 0, false), (0, 0, false), (0, 2, true), (1, 1, false), (0, 1, false)])
  (.keep [5, 30, 31, 32] (.block 0 (.loop f21l0))))
  (.keep [] (.seq (.ops f21r13)
  (.keep [4] .ret))))))))))

def f21 : AFn := ⟨52, [.tmp 4], f21b⟩

theorem f21_ok : compFn Tryd.prog 21 = some f21.strip := by kernel_rfl

/- function 22: weirhouse/bench.line; parameters 2; operations that are not compiled: 0 -/
def f22r0 : List AInstr := [
    ⟨(some 4), none, .mov (.const (.bool false))⟩]

def f22r1 : List AInstr := [
    ⟨(some 13), none, .mov (.tmp 0)⟩,
    ⟨(some 14), none, .callF 23 [.tmp 13, .const (.string ⟨#[32]⟩)]⟩,
    ⟨(some 12), none, .mov (.tmp 14)⟩,
    ⟨(some 15), none, .extract 0 (.tmp 12)⟩,
    ⟨(some 16), none, .extract 1 (.tmp 12)⟩,
    ⟨(some 17), none, .extract 2 (.tmp 12)⟩,
    ⟨(some 5), none, .mov (.tmp 15)⟩,
    ⟨(some 6), none, .mov (.tmp 16)⟩,
    ⟨(some 7), none, .mov (.tmp 17)⟩]

def f22r2 : List AInstr := [
    ⟨(some 19), none, .mov (.tmp 6)⟩,
    ⟨(some 20), none, .callF 32 [.tmp 19]⟩,
    ⟨(some 18), none, .mov (.tmp 20)⟩,
    ⟨(some 21), none, .extract 0 (.tmp 18)⟩,
    ⟨(some 22), none, .extract 1 (.tmp 18)⟩,
    ⟨(some 8), none, .mov (.tmp 21)⟩,
    ⟨(some 9), none, .mov (.tmp 22)⟩]

def f22r3 : List AInstr := [
    ⟨(some 23), none, .callF 19 []⟩,
    ⟨(some 24), none, .len (.tmp 23)⟩,
    ⟨(some 25), none, .mov (.const (.int .i64 0))⟩]

def f22r4 : List AInstr := [
    ⟨(some 26), none, .ibin .lss (.tmp 25) (.tmp 24)⟩]

def f22r5 : List AInstr := [
    ⟨(some 27), none, .mov (.tmp 25)⟩,
    ⟨(some 28), none, .indexAddr 1 (.tmp 23) (.tmp 25)⟩,
    ⟨(some 29), none, .load none (.tmp 28)⟩,
    ⟨(some 10), none, .mov (.tmp 27)⟩,
    ⟨(some 11), none, .mov (.tmp 29)⟩]

def f22r6 : List AInstr := [
    ⟨(some 30), none, .mov (.tmp 9)⟩,
    ⟨(some 31), none, .mov (.tmp 30)⟩,
    ⟨(some 32), (some (31, true)), .mov (.tmp 11)⟩,
    ⟨(some 33), (some (31, true)), .mov (.tmp 5)⟩,
    ⟨(some 34), (some (31, true)), .str (.cmp false) [.tmp 32, .tmp 33]⟩,
    ⟨(some 35), none, .pick (.tmp 31) (.tmp 34) (.const (.bool false))⟩]

def f22r7 : List AInstr := [
    ⟨(some 36), none, .mov (.tmp 1)⟩,
    ⟨(some 37), none, .mov (.tmp 1)⟩,
    ⟨(some 38), none, .nilCheck (.tmp 37)⟩,
    ⟨(some 39), none, .fieldAddr 3 (.tmp 38)⟩,
    ⟨(some 40), none, .load none (.tmp 39)⟩,
    ⟨(some 41), none, .mov (.tmp 10)⟩,
    ⟨(some 42), none, .ibin .add (.const (.int .i64 1)) (.tmp 41)⟩,
    ⟨(some 43), none, .mov (.tmp 8)⟩,
    ⟨(some 44), none, .build [.int .i64 0, .int .i64 0] [(0, 1, (.tmp 42)), (1, 1, (.tmp 43))]⟩,
    ⟨(some 45), none, .buildSlice 2 1 [.int .i64 0, .int .i64 0] [(0, 2, (.tmp 44))]⟩,
    ⟨(some 46), none, .append 2 16 (.tmp 40) (.tmp 45)⟩,
    ⟨(some 47), none, .nilCheck (.tmp 36)⟩,
    ⟨(some 48), none, .fieldAddr 3 (.tmp 47)⟩,
    ⟨none, none, .store 1 (.tmp 48) (.tmp 46)⟩]

def f22r8 : List AInstr := [
    ⟨(some 4), none, .mov (.const (.bool true))⟩]

def f22r9 : List AInstr := [
    ⟨(some 49), none, .ibin .add (.tmp 25) (.const (.int .i64 1))⟩,
    ⟨(some 25), none, .mov (.tmp 49)⟩]

/-- live: [1, 5, 8, 9, 23, 24, 25] -/
def f22l0 : ACode := (.seq (.ops f22r4)
  (.keep [1, 5, 8, 9, 23, 24, 25, 26] (.seq (.cond (.tmp 26) .skip (.exit 0))
  (.keep [1, 5, 8, 9, 23, 24, 25] (.seq (.block 1 (.seq (.ops f22r5)
  (.keep [1, 5, 8, 9, 10, 11, 23, 24, 25] (.seq (.ops f22r6)
  (.keep [1, 5, 8, 9, 10, 23, 24, 25, 35] (.cond (.tmp 35) (.keep [1, 8, 10] (.seq (.ops f22r7)
  (.keep [] (.seq (.ops f22r8)
  (.keep [4] .ret))))) .skip))))))
  (.keep [1, 5, 8, 9, 23, 24, 25] (.ops f22r9)))))))

def f22r11 : List AInstr := [
    ⟨(some 4), none, .mov (.const (.bool false))⟩]

def f22b : ACode := (.seq (.ops f22r0)
  (.keep [0, 1] (.seq (.ops f22r1)
  (.keep [1, 5, 6] (.seq (.ops f22r2)
  (.keep [1, 5, 8, 9] (.seq (.seq (.ops f22r3)
  (.keep [1, 5, 8, 9, 23, 24, 25] (.block 0 (.loop f22l0))))
  (.keep [] (.seq (.ops f22r11)
  (.keep [4] .ret))))))))))

def f22 : AFn := ⟨50, [.tmp 4], f22b⟩

theorem f22_ok : compFn Tryd.prog 22 = some f22.strip := by kernel_rfl

/- function 23: strings.Cut; parameters 2; operations that are not compiled: 0 -/
def f23r0 : List AInstr := [
    ⟨(some 4), none, .mov (.const (.string ⟨#[]⟩))⟩,
    ⟨(some 5), none, .mov (.const (.string ⟨#[]⟩))⟩,
    ⟨(some 6), none, .mov (.const (.bool false))⟩]

def f23r1 : List AInstr := [
    ⟨(some 7), none, .mov (.tmp 0)⟩,
    ⟨(some 8), none, .mov (.tmp 1)⟩,
    ⟨(some 9), none, .callF 33 [.tmp 7, .tmp 8]⟩,
    ⟨(some 10), none, .extract 0 (.tmp 9)⟩,
    ⟨(some 11), none, .extract 1 (.tmp 9)⟩,
    ⟨(some 12), none, .extract 2 (.tmp 9)⟩,
    ⟨(some 4), none, .mov (.tmp 10)⟩,
    ⟨(some 5), none, .mov (.tmp 11)⟩,
    ⟨(some 6), none, .mov (.tmp 12)⟩]

def f23b : ACode := (.seq (.ops f23r0)
  (.keep [0, 1] (.seq (.ops f23r1)
  (.keep [4, 5, 6] .ret))))

def f23 : AFn := ⟨13, [.tmp 4, .tmp 5, .tmp 6], f23b⟩

theorem f23_ok : compFn Tryd.prog 23 = some f23.strip := by kernel_rfl

/- function 24: weirhouse/pace.Wrong; parameters 3; operations that are not compiled: 0 -/
def f24r0 : List AInstr := [
    ⟨(some 6), none, .mov (.const (.int .i64 0))⟩]

def f24r1 : List AInstr := [
    ⟨(some 10), none, .mov (.tmp 0)⟩,
    ⟨(some 11), none, .mov (.tmp 1)⟩,
    ⟨(some 12), none, .mov (.tmp 2)⟩,
    ⟨(some 13), none, .callF 25 [.tmp 10, .tmp 11, .tmp 12]⟩,
    ⟨(some 9), none, .mov (.tmp 13)⟩,
    ⟨(some 14), none, .extract 0 (.tmp 9)⟩,
    ⟨(some 15), none, .extract 1 (.tmp 9)⟩,
    ⟨(some 7), none, .alloc [.int .i64 0, .int .i64 0, .int .i64 0, .int .i64 0, .int .i64 0]⟩,
    ⟨none, none, .store 5 (.tmp 7) (.tmp 14)⟩,
    ⟨(some 8), none, .mov (.tmp 15)⟩]

def f24r2 : List AInstr := [
    ⟨(some 16), none, .mov (.tmp 8)⟩,
    ⟨(some 17), none, .ibin .neq (.tmp 16) (.const (.int .i64 0))⟩]

def f24r3 : List AInstr := [
    ⟨(some 18), none, .mov (.tmp 8)⟩,
    ⟨(some 6), none, .mov (.tmp 18)⟩]

def f24r4 : List AInstr := [
    ⟨(some 19), none, .mov (.tmp 2)⟩,
    ⟨(some 20), none, .ibin .lss (.tmp 19) (.const (.int .i64 1500))⟩]

def f24r5 : List AInstr := [
    ⟨(some 6), none, .mov (.const (.int .i64 2))⟩]

def f24r6 : List AInstr := [
    ⟨(some 6), none, .mov (.const (.int .i64 0))⟩]

def f24b : ACode := (.seq (.ops f24r0)
  (.keep [0, 1, 2] (.seq (.seq (.ops f24r1)
  (.keep [2, 8] (.seq (.ops f24r2)
  (.keep [2, 8, 17] (.cond (.tmp 17) (.keep [8] (.seq (.ops f24r3)
  (.keep [6] .ret))) .skip)))))
  (.keep [2] (.seq (.seq (.ops f24r4)
  (.keep [20] (.cond (.tmp 20) (.keep [] (.seq (.ops f24r5)
  (.keep [6] .ret))) .skip)))
  (.keep [] (.seq (.ops f24r6)
  (.keep [6] .ret))))))))

def f24 : AFn := ⟨21, [.tmp 6], f24b⟩

theorem f24_ok : compFn Tryd.prog 24 = some f24.strip := by kernel_rfl

/- function 25: weirhouse/bucket.Full; parameters 3; operations that are not compiled: 0 -/
def f25r0 : List AInstr := [
    ⟨(some 6), none, .alloc [.int .i64 0, .int .i64 0, .int .i64 0, .int .i64 0, .int .i64 0]⟩,
    ⟨(some 7), none, .mov (.const (.int .i64 0))⟩]

def f25r1 : List AInstr := [
    ⟨(some 9), none, .mov (.tmp 0)⟩,
    ⟨(some 10), none, .mov (.tmp 1)⟩,
    ⟨(some 11), none, .mov (.tmp 2)⟩,
    ⟨(some 12), none, .build [.int .i64 0, .int .i64 0, .int .i64 0, .int .i64 0, .int .i64 0] [(0, 1, (.tmp 9)), (1, 1, (.tmp 10)), (2, 1, (.tmp 11))]⟩,
    ⟨(some 8), none, .alloc [.int .i64 0, .int .i64 0, .int .i64 0, .int .i64 0, .int .i64 0]⟩,
    ⟨none, none, .store 5 (.tmp 8) (.tmp 12)⟩]

def f25r2 : List AInstr := [
    ⟨(some 13), none, .load (some 5) (.tmp 8)⟩,
    ⟨(some 14), none, .callF 34 [.tmp 13]⟩,
    ⟨(some 15), none, .un .not (.tmp 14)⟩]

def f25r3 : List AInstr := [
    ⟨(some 16), none, .build [.int .i64 0, .int .i64 0, .int .i64 0, .int .i64 0, .int .i64 0] []⟩,
    ⟨none, none, .store 5 (.tmp 6) (.tmp 16)⟩,
    ⟨(some 7), none, .mov (.const (.int .i64 2))⟩]

def f25r4 : List AInstr := [
    ⟨(some 17), none, .mov (.tmp 2)⟩,
    ⟨(some 18), none, .mov (.tmp 1)⟩,
    ⟨(some 19), none, .ibin .mul (.tmp 17) (.tmp 18)⟩,
    ⟨(some 20), none, .fieldAddr 3 (.tmp 8)⟩,
    ⟨none, none, .store 1 (.tmp 20) (.tmp 19)⟩]

def f25r5 : List AInstr := [
    ⟨(some 21), none, .load (some 5) (.tmp 8)⟩,
    ⟨none, none, .store 5 (.tmp 6) (.tmp 21)⟩,
    ⟨(some 7), none, .mov (.const (.int .i64 0))⟩]

def f25b : ACode := (.seq (.ops f25r0)
  (.keep [0, 1, 2, 6] (.seq (.ops f25r1)
  (.keep [1, 2, 6, 8] (.seq (.seq (.ops f25r2)
  (.keep [1, 2, 6, 8, 15] (.cond (.tmp 15) (.keep [6] (.seq (.ops f25r3)
  (.keep [6, 7] .ret))) .skip)))
  (.keep [1, 2, 6, 8] (.seq (.ops f25r4)
  (.keep [6, 8] (.seq (.ops f25r5)
  (.keep [6, 7] .ret))))))))))

def f25 : AFn := ⟨22, [.cell 6 (some 5), .tmp 7], f25b⟩

theorem f25_ok : compFn Tryd.prog 25 = some f25.strip := by kernel_rfl

/- function 26: weirhouse/pace.do; parameters 2; operations that are not compiled: 0 -/
def f26r0 : List AInstr := [
    ⟨(some 2), none, .box (.tmp 0)⟩,
    ⟨(some 3), none, .box (.tmp 1)⟩,
    ⟨(some 4), none, .alloc [.slice none 0 0, .int .i64 0, .int .i64 0, .int .i64 0, .int .i64 0, .int .i64 0, .int .i64 0, .int .i64 0, .int .i64 0, .int .i64 0]⟩,
    ⟨(some 5), none, .alloc [.int .i64 0, .slice none 0 0]⟩]

def f26r1 : List AInstr := [
    ⟨(some 14), none, .func (.func 35) [] [.tmp 2]⟩,
    ⟨(some 6), none, .mov (.tmp 14)⟩]

def f26r2 : List AInstr := [
    ⟨(some 15), none, .fieldAddr 0 (.tmp 3)⟩,
    ⟨(some 16), none, .load none (.tmp 15)⟩]

def f26r3 : List AInstr := [
    ⟨(some 22), none, .ibin .eql (.tmp 16) (.const (.int .i64 1))⟩,
    ⟨(some 21), none, .mov (.tmp 22)⟩]

def f26r4 : List AInstr := [
    ⟨(some 24), none, .fieldAddr 0 (.tmp 2)⟩,
    ⟨(some 25), none, .load (some 4) (.tmp 24)⟩,
    ⟨(some 26), none, .fieldAddr 1 (.tmp 3)⟩,
    ⟨(some 27), none, .load none (.tmp 26)⟩,
    ⟨(some 28), none, .build [.int .i64 0, .int .i64 0] [(0, 1, (.const (.int .i64 1))), (1, 1, (.tmp 27))]⟩,
    ⟨(some 29), none, .callF 36 [.tmp 25, .tmp 28]⟩,
    ⟨(some 23), none, .mov (.tmp 29)⟩,
    ⟨(some 30), none, .extract 0 (.tmp 23)⟩,
    ⟨(some 31), none, .extract 1 (.tmp 23)⟩,
    ⟨(some 32), none, .extract 2 (.tmp 23)⟩,
    ⟨(some 7), none, .alloc [.slice none 0 0, .int .i64 0, .int .i64 0, .int .i64 0]⟩,
    ⟨none, none, .store 4 (.tmp 7) (.tmp 30)⟩,
    ⟨(some 8), none, .mov (.tmp 31)⟩,
    ⟨(some 9), none, .mov (.tmp 32)⟩]

def f26r5 : List AInstr := [
    ⟨(some 33), none, .mov (.tmp 9)⟩,
    ⟨(some 34), none, .ibin .neq (.tmp 33) (.const (.int .i64 0))⟩]

def f26r6 : List AInstr := [
    ⟨(some 35), none, .mov (.tmp 6)⟩,
    ⟨(some 36), none, .mov (.tmp 9)⟩,
    ⟨(some 37), none, .callV (.tmp 35) [.tmp 36]⟩,
    ⟨(some 38), none, .extract 0 (.tmp 37)⟩,
    ⟨(some 39), none, .extract 1 (.tmp 37)⟩,
    ⟨none, none, .store 10 (.tmp 4) (.tmp 38)⟩,
    ⟨none, none, .store 2 (.tmp 5) (.tmp 39)⟩]

def f26r7 : List AInstr := [
    ⟨(some 40), none, .load (some 4) (.tmp 7)⟩,
    ⟨(some 41), none, .fieldAddr 0 (.tmp 2)⟩,
    ⟨none, none, .store 4 (.tmp 41) (.tmp 40)⟩]

def f26r8 : List AInstr := [
    ⟨(some 42), none, .mov (.tmp 8)⟩,
    ⟨(some 43), none, .ibin .eql (.tmp 42) (.const (.int .i64 0))⟩]

def f26r9 : List AInstr := [
    ⟨(some 44), none, .mov (.tmp 6)⟩,
    ⟨(some 45), none, .callV (.tmp 44) [.const (.int .i64 4)]⟩,
    ⟨(some 46), none, .extract 0 (.tmp 45)⟩,
    ⟨(some 47), none, .extract 1 (.tmp 45)⟩,
    ⟨none, none, .store 10 (.tmp 4) (.tmp 46)⟩,
    ⟨none, none, .store 2 (.tmp 5) (.tmp 47)⟩]

def f26r10 : List AInstr := [
    ⟨(some 49), none, .ibin .eql (.tmp 16) (.const (.int .i64 2))⟩,
    ⟨(some 48), none, .mov (.tmp 49)⟩]

def f26r11 : List AInstr := [
    ⟨(some 50), none, .fieldAddr 1 (.tmp 3)⟩,
    ⟨(some 51), none, .load none (.tmp 50)⟩,
    ⟨(some 52), none, .ibin .lss (.tmp 51) (.const (.int .i64 0))⟩,
    ⟨(some 53), none, .mov (.tmp 52)⟩,
    ⟨(some 54), (some (53, false)), .fieldAddr 1 (.tmp 3)⟩,
    ⟨(some 55), (some (53, false)), .load none (.tmp 54)⟩,
    ⟨(some 56), (some (53, false)), .ibin .gtr (.tmp 55) (.const (.int .i64 1099511627776))⟩,
    ⟨(some 57), none, .pick (.tmp 53) (.const (.bool true)) (.tmp 56)⟩]

def f26r12 : List AInstr := [
    ⟨(some 58), none, .mov (.tmp 6)⟩,
    ⟨(some 59), none, .callV (.tmp 58) [.const (.int .i64 2)]⟩,
    ⟨(some 60), none, .extract 0 (.tmp 59)⟩,
    ⟨(some 61), none, .extract 1 (.tmp 59)⟩,
    ⟨none, none, .store 10 (.tmp 4) (.tmp 60)⟩,
    ⟨none, none, .store 2 (.tmp 5) (.tmp 61)⟩]

def f26r13 : List AInstr := [
    ⟨(some 63), none, .fieldAddr 4 (.tmp 2)⟩,
    ⟨(some 64), none, .load (some 5) (.tmp 63)⟩,
    ⟨(some 65), none, .fieldAddr 4 (.tmp 2)⟩,
    ⟨(some 66), none, .fieldAddr 4 (.tmp 65)⟩,
    ⟨(some 67), none, .load none (.tmp 66)⟩,
    ⟨(some 68), none, .fieldAddr 1 (.tmp 3)⟩,
    ⟨(some 69), none, .load none (.tmp 68)⟩,
    ⟨(some 70), none, .ibin .add (.tmp 67) (.tmp 69)⟩,
    ⟨(some 71), none, .minmax false [.tmp 70, .const (.int .i64 1099511627776)]⟩,
    ⟨(some 72), none, .callF 37 [.tmp 64, .tmp 71]⟩,
    ⟨(some 62), none, .mov (.tmp 72)⟩,
    ⟨(some 73), none, .extract 0 (.tmp 62)⟩,
    ⟨(some 74), none, .extract 1 (.tmp 62)⟩,
    ⟨(some 10), none, .alloc [.int .i64 0, .int .i64 0, .int .i64 0, .int .i64 0, .int .i64 0]⟩,
    ⟨none, none, .store 5 (.tmp 10) (.tmp 73)⟩,
    ⟨(some 11), none, .mov (.tmp 74)⟩]

def f26r14 : List AInstr := [
    ⟨(some 75), none, .mov (.tmp 11)⟩,
    ⟨(some 76), none, .ibin .neq (.tmp 75) (.const (.int .i64 0))⟩]

def f26r15 : List AInstr := [
    ⟨(some 77), none, .mov (.tmp 6)⟩,
    ⟨(some 78), none, .mov (.tmp 11)⟩,
    ⟨(some 79), none, .callV (.tmp 77) [.tmp 78]⟩,
    ⟨(some 80), none, .extract 0 (.tmp 79)⟩,
    ⟨(some 81), none, .extract 1 (.tmp 79)⟩,
    ⟨none, none, .store 10 (.tmp 4) (.tmp 80)⟩,
    ⟨none, none, .store 2 (.tmp 5) (.tmp 81)⟩]

def f26r16 : List AInstr := [
    ⟨(some 82), none, .load (some 5) (.tmp 10)⟩,
    ⟨(some 83), none, .fieldAddr 4 (.tmp 2)⟩,
    ⟨none, none, .store 5 (.tmp 83) (.tmp 82)⟩]

def f26r17 : List AInstr := [
    ⟨(some 85), none, .ibin .eql (.tmp 16) (.const (.int .i64 3))⟩,
    ⟨(some 84), none, .mov (.tmp 85)⟩]

def f26r18 : List AInstr := [
    ⟨(some 86), none, .fieldAddr 1 (.tmp 3)⟩,
    ⟨(some 87), none, .load none (.tmp 86)⟩,
    ⟨(some 88), none, .ibin .lss (.tmp 87) (.const (.int .i64 0))⟩,
    ⟨(some 89), none, .mov (.tmp 88)⟩,
    ⟨(some 90), (some (89, false)), .fieldAddr 1 (.tmp 3)⟩,
    ⟨(some 91), (some (89, false)), .load none (.tmp 90)⟩,
    ⟨(some 92), (some (89, false)), .ibin .gtr (.tmp 91) (.const (.int .i64 1073741824))⟩,
    ⟨(some 93), none, .pick (.tmp 89) (.const (.bool true)) (.tmp 92)⟩]

def f26r19 : List AInstr := [
    ⟨(some 94), none, .mov (.tmp 6)⟩,
    ⟨(some 95), none, .callV (.tmp 94) [.const (.int .i64 2)]⟩,
    ⟨(some 96), none, .extract 0 (.tmp 95)⟩,
    ⟨(some 97), none, .extract 1 (.tmp 95)⟩,
    ⟨none, none, .store 10 (.tmp 4) (.tmp 96)⟩,
    ⟨none, none, .store 2 (.tmp 5) (.tmp 97)⟩]

def f26r20 : List AInstr := [
    ⟨(some 99), none, .load (some 10) (.tmp 2)⟩,
    ⟨(some 100), none, .fieldAddr 1 (.tmp 3)⟩,
    ⟨(some 101), none, .load none (.tmp 100)⟩,
    ⟨(some 102), none, .callF 38 [.tmp 99, .tmp 101]⟩,
    ⟨(some 98), none, .mov (.tmp 102)⟩,
    ⟨(some 103), none, .extract 0 (.tmp 98)⟩,
    ⟨(some 104), none, .extract 1 (.tmp 98)⟩,
    ⟨(some 12), none, .alloc [.slice none 0 0, .int .i64 0, .int .i64 0, .int .i64 0, .int .i64 0, .int .i64 0, .int .i64 0, .int .i64 0, .int .i64 0, .int .i64 0]⟩,
    ⟨none, none, .store 10 (.tmp 12) (.tmp 103)⟩,
    ⟨(some 13), none, .mov (.tmp 104)⟩]

def f26r21 : List AInstr := [
    ⟨(some 105), none, .load (some 10) (.tmp 12)⟩,
    ⟨(some 106), none, .mov (.tmp 13)⟩,
    ⟨(some 107), none, .build [.int .i64 0, .slice none 0 0] [(1, 1, (.tmp 106))]⟩,
    ⟨none, none, .store 10 (.tmp 4) (.tmp 105)⟩,
    ⟨none, none, .store 2 (.tmp 5) (.tmp 107)⟩]

def f26r22 : List AInstr := [
    ⟨(some 17), none, .mov (.tmp 6)⟩,
    ⟨(some 18), none, .callV (.tmp 17) [.const (.int .i64 5)]⟩,
    ⟨(some 19), none, .extract 0 (.tmp 18)⟩,
    ⟨(some 20), none, .extract 1 (.tmp 18)⟩,
    ⟨none, none, .store 10 (.tmp 4) (.tmp 19)⟩,
    ⟨none, none, .store 2 (.tmp 5) (.tmp 20)⟩]

def f26r23 : List AInstr := [
    ⟨(some 108), none, .load (some 10) (.tmp 2)⟩,
    ⟨(some 109), none, .build [.int .i64 0, .slice none 0 0] []⟩,
    ⟨none, none, .store 10 (.tmp 4) (.tmp 108)⟩,
    ⟨none, none, .store 2 (.tmp 5) (.tmp 109)⟩]

def f26b : ACode := (.seq (.ops f26r0)
  (.keep [2, 3, 4, 5] (.seq (.ops f26r1)
  (.keep [2, 3, 4, 5, 6] (.seq (.seq (.ops f26r2)
  (.keep [2, 3, 4, 5, 6, 16] (.block 0 (.seq (.ops f26r3)
  (.keep [2, 3, 4, 5, 6, 16, 21] (.cond (.tmp 21) (.keep [2, 3, 4, 5, 6] (.seq (.ops f26r4)
  (.keep [2, 4, 5, 6, 7, 8, 9] (.seq (.seq (.ops f26r5)
  (.keep [2, 4, 5, 6, 7, 8, 9, 34] (.cond (.tmp 34) (.keep [4, 5, 6, 9] (.seq (.ops f26r6)
  (.keep [4, 5] .ret))) .skip)))
  (.keep [2, 4, 5, 6, 7, 8] (.seq (.ops f26r7)
  (.keep [2, 4, 5, 6, 8] (.seq (.ops f26r8)
  (.keep [2, 4, 5, 6, 43] (.cond (.tmp 43) (.keep [4, 5, 6] (.seq (.ops f26r9)
  (.keep [4, 5] .ret))) .skip)))))))))) (.keep [2, 3, 4, 5, 6, 16] (.seq (.ops f26r10)
  (.keep [2, 3, 4, 5, 6, 16, 48] (.cond (.tmp 48) (.keep [2, 3, 4, 5, 6] (.seq (.seq (.ops f26r11)
  (.keep [2, 3, 4, 5, 6, 57] (.cond (.tmp 57) (.keep [4, 5, 6] (.seq (.ops f26r12)
  (.keep [4, 5] .ret))) .skip)))
  (.keep [2, 3, 4, 5, 6] (.seq (.ops f26r13)
  (.keep [2, 4, 5, 6, 10, 11] (.seq (.seq (.ops f26r14)
  (.keep [2, 4, 5, 6, 10, 11, 76] (.cond (.tmp 76) (.keep [4, 5, 6, 11] (.seq (.ops f26r15)
  (.keep [4, 5] .ret))) .skip)))
  (.keep [2, 4, 5, 10] (.ops f26r16)))))))) (.keep [2, 3, 4, 5, 6, 16] (.seq (.ops f26r17)
  (.keep [2, 3, 4, 5, 6, 84] (.cond (.tmp 84) (.keep [2, 3, 4, 5, 6] (.seq (.seq (.ops f26r18)
  (.keep [2, 3, 4, 5, 6, 93] (.cond (.tmp 93) (.keep [4, 5, 6] (.seq (.ops f26r19)
  (.keep [4, 5] .ret))) .skip)))
  (.keep [2, 3, 4, 5] (.seq (.ops f26r20)
  (.keep [4, 5, 12, 13] (.seq (.ops f26r21)
  (.keep [4, 5] .ret))))))) (.keep [4, 5, 6] (.seq (.ops f26r22)
  (.keep [4, 5] .ret)))))))))))))))))
  (.keep [2, 4, 5] (.seq (.ops f26r23)
  (.keep [4, 5] .ret))))))))

def f26 : AFn := ⟨110, [.cell 4 (some 10), .cell 5 (some 2)], f26b⟩

theorem f26_ok : compFn Tryd.prog 26 = some f26.strip := by kernel_rfl

/- function 27: slices.Clone[[]int,int]; parameters 1; operations that are not compiled: 0 -/
def f27r0 : List AInstr := [
    ⟨(some 2), none, .mov (.const (.slice none 0 0))⟩]

def f27r1 : List AInstr := [
    ⟨(some 3), none, .mov (.tmp 0)⟩,
    ⟨(some 4), none, .eqS false (.tmp 3) (.const (.slice none 0 0))⟩]

def f27r2 : List AInstr := [
    ⟨(some 2), none, .mov (.const (.slice none 0 0))⟩]

def f27r3 : List AInstr := [
    ⟨(some 5), none, .buildSlice 1 0 [] []⟩,
    ⟨(some 6), none, .mov (.tmp 0)⟩,
    ⟨(some 7), none, .append 1 8 (.tmp 5) (.tmp 6)⟩,
    ⟨(some 2), none, .mov (.tmp 7)⟩]

def f27b : ACode := (.seq (.ops f27r0)
  (.keep [0] (.seq (.seq (.ops f27r1)
  (.keep [0, 4] (.cond (.tmp 4) (.keep [] (.seq (.ops f27r2)
  (.keep [2] .ret))) .skip)))
  (.keep [0] (.seq (.ops f27r3)
  (.keep [2] .ret))))))

def f27 : AFn := ⟨8, [.tmp 2], f27b⟩

theorem f27_ok : compFn Tryd.prog 27 = some f27.strip := by kernel_rfl

/- function 28: internal/strconv.Itoa; parameters 1; operations that are not compiled: 0 -/
def f28r0 : List AInstr := [
    ⟨(some 2), none, .mov (.const (.string ⟨#[]⟩))⟩]

def f28r1 : List AInstr := [
    ⟨(some 3), none, .mov (.tmp 0)⟩,
    ⟨(some 4), none, .callF 39 [.tmp 3, .const (.int .i64 10)]⟩,
    ⟨(some 2), none, .mov (.tmp 4)⟩]

def f28b : ACode := (.seq (.ops f28r0)
  (.keep [0] (.seq (.ops f28r1)
  (.keep [2] .ret))))

def f28 : AFn := ⟨5, [.tmp 2], f28b⟩

theorem f28_ok : compFn Tryd.prog 28 = some f28.strip := by kernel_rfl

/- function 29: internal/stringslite.Index; parameters 2; operations that are not compiled: 4 -/
def f29r0 : List AInstr := [
    ⟨(some 4), none, .mov (.const (.int .i64 0))⟩]

def f29r1 : List AInstr := [
    ⟨(some 14), none, .mov (.tmp 1)⟩,
    ⟨(some 15), none, .str .len [.tmp 14]⟩,
    ⟨(some 5), none, .mov (.tmp 15)⟩]

def f29r2 : List AInstr := [
    ⟨(some 17), none, .mov (.tmp 5)⟩,
    ⟨(some 18), none, .ibin .eql (.tmp 17) (.const (.int .i64 0))⟩,
    ⟨(some 19), none, .mov (.tmp 18)⟩,
    ⟨(some 20), (some (19, false)), .mov (.tmp 1)⟩,
    ⟨(some 21), (some (19, false)), .mov (.tmp 0)⟩,
    ⟨(some 22), (some (19, false)), .str (.cmp false) [.tmp 20, .tmp 21]⟩,
    ⟨(some 23), none, .pick (.tmp 19) (.const (.bool true)) (.tmp 22)⟩,
    ⟨(some 16), none, .mov (.tmp 23)⟩]

def f29r3 : List AInstr := [
    ⟨(some 4), none, .mov (.const (.int .i64 0))⟩]

def f29r4 : List AInstr := [
    ⟨(some 25), none, .mov (.tmp 5)⟩,
    ⟨(some 26), none, .ibin .eql (.tmp 25) (.const (.int .i64 1))⟩,
    ⟨(some 24), none, .mov (.tmp 26)⟩]

def f29r5 : List AInstr := [
    ⟨(some 27), none, .mov (.tmp 0)⟩,
    ⟨(some 28), none, .mov (.tmp 1)⟩,
    ⟨(some 29), none, .indexStr (.tmp 28) (.const (.int .i64 0))⟩,
    ⟨(some 30), none, .callF 40 [.tmp 27, .tmp 29]⟩,
    ⟨(some 4), none, .mov (.tmp 30)⟩]

def f29r6 : List AInstr := [
    ⟨(some 32), none, .mov (.tmp 5)⟩,
    ⟨(some 33), none, .mov (.tmp 0)⟩,
    ⟨(some 34), none, .str .len [.tmp 33]⟩,
    ⟨(some 35), none, .ibin .geq (.tmp 32) (.tmp 34)⟩,
    ⟨(some 31), none, .mov (.tmp 35)⟩]

def f29r7 : List AInstr := [
    ⟨(some 4), none, .mov (.const (.int .i64 (-1)))⟩]

def f29r8 : List AInstr := [
    ⟨(some 37), none, .mov (.tmp 5)⟩,
    ⟨(some 38), none, .load none .bad⟩,
    ⟨(some 39), none, .ibin .leq (.tmp 37) (.tmp 38)⟩,
    ⟨(some 40), none, .mov (.tmp 39)⟩,
    ⟨(some 41), (some (40, true)), .mov (.tmp 0)⟩,
    ⟨(some 42), (some (40, true)), .str .len [.tmp 41]⟩,
    ⟨(some 43), (some (40, true)), .ibin .leq (.tmp 42) (.const (.int .i64 64))⟩,
    ⟨(some 44), none, .pick (.tmp 40) (.tmp 43) (.const (.bool false))⟩,
    ⟨(some 36), none, .mov (.tmp 44)⟩]

def f29r9 : List AInstr := [
    ⟨(some 45), none, .mov (.tmp 0)⟩,
    ⟨(some 46), none, .mov (.tmp 1)⟩,
    ⟨(some 47), none, .callF 41 [.tmp 45, .tmp 46]⟩,
    ⟨(some 4), none, .mov (.tmp 47)⟩]

def f29r10 : List AInstr := [
    ⟨(some 48), none, .mov (.tmp 1)⟩,
    ⟨(some 49), none, .indexStr (.tmp 48) (.const (.int .i64 0))⟩,
    ⟨(some 6), none, .mov (.tmp 49)⟩]

def f29r11 : List AInstr := [
    ⟨(some 50), none, .mov (.tmp 1)⟩,
    ⟨(some 51), none, .indexStr (.tmp 50) (.const (.int .i64 1))⟩,
    ⟨(some 7), none, .mov (.tmp 51)⟩]

def f29r12 : List AInstr := [
    ⟨(some 8), none, .mov (.const (.int .i64 0))⟩]

def f29r13 : List AInstr := [
    ⟨(some 52), none, .mov (.tmp 0)⟩,
    ⟨(some 53), none, .str .len [.tmp 52]⟩,
    ⟨(some 54), none, .mov (.tmp 5)⟩,
    ⟨(some 55), none, .ibin .sub (.tmp 53) (.tmp 54)⟩,
    ⟨(some 56), none, .ibin .add (.tmp 55) (.const (.int .i64 1))⟩,
    ⟨(some 9), none, .mov (.tmp 56)⟩]

def f29r14 : List AInstr := [
    ⟨(some 10), none, .mov (.const (.int .i64 0))⟩]

def f29r15 : List AInstr := [
    ⟨(some 57), none, .mov (.tmp 8)⟩,
    ⟨(some 58), none, .mov (.tmp 9)⟩,
    ⟨(some 59), none, .ibin .lss (.tmp 57) (.tmp 58)⟩]

def f29r16 : List AInstr := [
    ⟨(some 60), none, .mov (.tmp 0)⟩,
    ⟨(some 61), none, .mov (.tmp 8)⟩,
    ⟨(some 62), none, .indexStr (.tmp 60) (.tmp 61)⟩,
    ⟨(some 63), none, .mov (.tmp 6)⟩,
    ⟨(some 64), none, .ibin .neq (.tmp 62) (.tmp 63)⟩]

def f29r17 : List AInstr := [
    ⟨(some 65), none, .mov (.tmp 0)⟩,
    ⟨(some 66), none, .mov (.tmp 8)⟩,
    ⟨(some 67), none, .ibin .add (.tmp 66) (.const (.int .i64 1))⟩,
    ⟨(some 68), none, .mov (.tmp 9)⟩,
    ⟨(some 69), none, .bad⟩,
    ⟨(some 70), none, .mov (.tmp 6)⟩,
    ⟨(some 71), none, .callF 40 [.tmp 69, .tmp 70]⟩,
    ⟨(some 11), none, .mov (.tmp 71)⟩]

def f29r18 : List AInstr := [
    ⟨(some 72), none, .mov (.tmp 11)⟩,
    ⟨(some 73), none, .ibin .lss (.tmp 72) (.const (.int .i64 0))⟩]

def f29r19 : List AInstr := [
    ⟨(some 4), none, .mov (.const (.int .i64 (-1)))⟩]

def f29r20 : List AInstr := [
    ⟨(some 74), none, .mov (.tmp 8)⟩,
    ⟨(some 75), none, .mov (.tmp 11)⟩,
    ⟨(some 76), none, .ibin .add (.tmp 75) (.const (.int .i64 1))⟩,
    ⟨(some 77), none, .ibin .add (.tmp 74) (.tmp 76)⟩,
    ⟨(some 8), none, .mov (.tmp 77)⟩]

def f29r21 : List AInstr := [
    ⟨(some 78), none, .mov (.tmp 0)⟩,
    ⟨(some 79), none, .mov (.tmp 8)⟩,
    ⟨(some 80), none, .ibin .add (.tmp 79) (.const (.int .i64 1))⟩,
    ⟨(some 81), none, .indexStr (.tmp 78) (.tmp 80)⟩,
    ⟨(some 82), none, .mov (.tmp 7)⟩,
    ⟨(some 83), none, .ibin .eql (.tmp 81) (.tmp 82)⟩,
    ⟨(some 84), none, .mov (.tmp 83)⟩,
    ⟨(some 85), (some (84, true)), .mov (.tmp 0)⟩,
    ⟨(some 86), (some (84, true)), .mov (.tmp 8)⟩,
    ⟨(some 87), (some (84, true)), .mov (.tmp 8)⟩,
    ⟨(some 88), (some (84, true)), .mov (.tmp 5)⟩,
    ⟨(some 89), (some (84, true)), .ibin .add (.tmp 87) (.tmp 88)⟩,
    ⟨(some 90), (some (84, true)), .bad⟩,
    ⟨(some 91), (some (84, true)), .mov (.tmp 1)⟩,
    ⟨(some 92), (some (84, true)), .str (.cmp false) [.tmp 90, .tmp 91]⟩,
    ⟨(some 93), none, .pick (.tmp 84) (.tmp 92) (.const (.bool false))⟩]

def f29r22 : List AInstr := [
    ⟨(some 94), none, .mov (.tmp 8)⟩,
    ⟨(some 4), none, .mov (.tmp 94)⟩]

def f29r23 : List AInstr := [
    ⟨(some 95), none, .mov (.tmp 8)⟩,
    ⟨(some 96), none, .ibin .add (.tmp 95) (.const (.int .i64 1))⟩,
    ⟨(some 8), none, .mov (.tmp 96)⟩]

def f29r24 : List AInstr := [
    ⟨(some 97), none, .mov (.tmp 10)⟩,
    ⟨(some 98), none, .ibin .add (.tmp 97) (.const (.int .i64 1))⟩,
    ⟨(some 10), none, .mov (.tmp 98)⟩]

def f29r25 : List AInstr := [
    ⟨(some 99), none, .mov (.tmp 5)⟩,
    ⟨(some 100), none, .load none .bad⟩,
    ⟨(some 101), none, .ibin .leq (.tmp 99) (.tmp 100)⟩,
    ⟨(some 102), none, .mov (.tmp 101)⟩,
    ⟨(some 103), (some (102, true)), .mov (.tmp 10)⟩,
    ⟨(some 104), (some (102, true)), .mov (.tmp 8)⟩,
    ⟨(some 105), (some (102, true)), .callF 42 [.tmp 104]⟩,
    ⟨(some 106), (some (102, true)), .ibin .gtr (.tmp 103) (.tmp 105)⟩,
    ⟨(some 107), none, .pick (.tmp 102) (.tmp 106) (.const (.bool false))⟩]

def f29r26 : List AInstr := [
    ⟨(some 108), none, .mov (.tmp 0)⟩,
    ⟨(some 109), none, .mov (.tmp 8)⟩,
    ⟨(some 110), none, .bad⟩,
    ⟨(some 111), none, .mov (.tmp 1)⟩,
    ⟨(some 112), none, .callF 41 [.tmp 110, .tmp 111]⟩,
    ⟨(some 12), none, .mov (.tmp 112)⟩]

def f29r27 : List AInstr := [
    ⟨(some 113), none, .mov (.tmp 12)⟩,
    ⟨(some 114), none, .ibin .geq (.tmp 113) (.const (.int .i64 0))⟩]

def f29r28 : List AInstr := [
    ⟨(some 115), none, .mov (.tmp 12)⟩,
    ⟨(some 116), none, .mov (.tmp 8)⟩,
    ⟨(some 117), none, .ibin .add (.tmp 115) (.tmp 116)⟩,
    ⟨(some 4), none, .mov (.tmp 117)⟩]

def f29r29 : List AInstr := [
    ⟨(some 4), none, .mov (.const (.int .i64 (-1)))⟩]

def f29r30 : List AInstr := [
    ⟨(some 118), none, .mov (.tmp 5)⟩,
    ⟨(some 119), none, .load none .bad⟩,
    ⟨(some 120), none, .ibin .gtr (.tmp 118) (.tmp 119)⟩,
    ⟨(some 121), none, .mov (.tmp 120)⟩,
    ⟨(some 122), (some (121, true)), .mov (.tmp 10)⟩,
    ⟨(some 123), (some (121, true)), .mov (.tmp 8)⟩,
    ⟨(some 124), (some (121, true)), .ibin .shr (.tmp 123) (.const (.int .u64 4))⟩,
    ⟨(some 125), (some (121, true)), .ibin .add (.const (.int .i64 4)) (.tmp 124)⟩,
    ⟨(some 126), (some (121, true)), .ibin .geq (.tmp 122) (.tmp 125)⟩,
    ⟨(some 127), none, .pick (.tmp 121) (.tmp 126) (.const (.bool false))⟩,
    ⟨(some 128), none, .mov (.tmp 127)⟩,
    ⟨(some 129), (some (128, true)), .mov (.tmp 8)⟩,
    ⟨(some 130), (some (128, true)), .mov (.tmp 9)⟩,
    ⟨(some 131), (some (128, true)), .ibin .lss (.tmp 129) (.tmp 130)⟩,
    ⟨(some 132), none, .pick (.tmp 128) (.tmp 131) (.const (.bool false))⟩]

def f29r31 : List AInstr := [
    ⟨(some 133), none, .mov (.tmp 0)⟩,
    ⟨(some 134), none, .mov (.tmp 8)⟩,
    ⟨(some 135), none, .bad⟩,
    ⟨(some 136), none, .mov (.tmp 1)⟩,
    ⟨(some 137), none, .callF 43 [.tmp 135, .tmp 136]⟩,
    ⟨(some 13), none, .mov (.tmp 137)⟩]

def f29r32 : List AInstr := [
    ⟨(some 138), none, .mov (.tmp 13)⟩,
    ⟨(some 139), none, .ibin .lss (.tmp 138) (.const (.int .i64 0))⟩]

def f29r33 : List AInstr := [
    ⟨(some 4), none, .mov (.const (.int .i64 (-1)))⟩]

def f29r34 : List AInstr := [
    ⟨(some 140), none, .mov (.tmp 8)⟩,
    ⟨(some 141), none, .mov (.tmp 13)⟩,
    ⟨(some 142), none, .ibin .add (.tmp 140) (.tmp 141)⟩,
    ⟨(some 4), none, .mov (.tmp 142)⟩]

/-- live: [0, 1, 5, 6, 7, 8, 9, 10] -/
def f29l0 : ACode := (.seq (.seq (.ops f29r15)
  (.keep [0, 1, 5, 6, 7, 8, 9, 10, 59] (.cond (.tmp 59) .skip (.exit 1))))
  (.keep [0, 1, 5, 6, 7, 8, 9, 10] (.block 2 (.seq (.seq (.ops f29r16)
  (.keep [0, 1, 5, 6, 7, 8, 9, 10, 64] (.cond (.tmp 64) (.keep [0, 1, 5, 6, 7, 8, 9, 10] (.seq (.ops f29r17)
  (.keep [0, 1, 5, 6, 7, 8, 9, 10, 11] (.seq (.seq (.ops f29r18)
  (.keep [0, 1, 5, 6, 7, 8, 9, 10, 11, 73] (.cond (.tmp 73) (.keep [] (.seq (.ops f29r19)
  (.keep [4] .ret))) .skip)))
  (.keep [0, 1, 5, 6, 7, 8, 9, 10, 11] (.ops f29r20)))))) .skip)))
  (.keep [0, 1, 5, 6, 7, 8, 9, 10] (.seq (.seq (.ops f29r21)
  (.keep [0, 1, 5, 6, 7, 8, 9, 10, 93] (.cond (.tmp 93) (.keep [8] (.seq (.ops f29r22)
  (.keep [4] .ret))) .skip)))
  (.keep [0, 1, 5, 6, 7, 8, 9, 10] (.seq (.ops f29r23)
  (.keep [0, 1, 5, 6, 7, 8, 9, 10] (.seq (.ops f29r24)
  (.keep [0, 1, 5, 6, 7, 8, 9, 10] (.seq (.ops f29r25)
  (.keep [0, 1, 5, 6, 7, 8, 9, 10, 107] (.cond (.tmp 107) (.keep [0, 1, 8] (.seq (.ops f29r26)
  (.keep [8, 12] (.seq (.seq (.ops f29r27)
  (.keep [8, 12, 114] (.cond (.tmp 114) (.keep [8, 12] (.seq (.ops f29r28)
  (.keep [4] .ret))) .skip)))
  (.keep [] (.seq (.ops f29r29)
  (.keep [4] .ret))))))) (.keep [0, 1, 5, 6, 7, 8, 9, 10] (.seq (.ops f29r30)
  (.keep [0, 1, 5, 6, 7, 8, 9, 10, 132] (.cond (.tmp 132) (.keep [0, 1, 8] (.seq (.ops f29r31)
  (.keep [8, 13] (.seq (.seq (.ops f29r32)
  (.keep [8, 13, 139] (.cond (.tmp 139) (.keep [] (.seq (.ops f29r33)
  (.keep [4] .ret))) .skip)))
  (.keep [8, 13] (.seq (.ops f29r34)
  (.keep [4] .ret))))))) .skip))))))))))))))))))

def f29r36 : List AInstr := [
    ⟨(some 4), none, .mov (.const (.int .i64 (-1)))⟩]

def f29b : ACode := (.seq (.ops f29r0)
  (.keep [0, 1] (.seq (.ops f29r1)
  (.keep [0, 1, 5] (.seq (.block 0 (.seq (.ops f29r2)
  (.keep [0, 1, 5, 16] (.cond (.tmp 16) (.keep [] (.seq (.ops f29r3)
  (.keep [4] .ret))) (.keep [0, 1, 5] (.seq (.ops f29r4)
  (.keep [0, 1, 5, 24] (.cond (.tmp 24) (.keep [0, 1] (.seq (.ops f29r5)
  (.keep [4] .ret))) (.keep [0, 1, 5] (.seq (.ops f29r6)
  (.keep [0, 1, 5, 31] (.cond (.tmp 31) (.keep [] (.seq (.ops f29r7)
  (.keep [4] .ret))) (.keep [0, 1, 5] (.seq (.ops f29r8)
  (.keep [0, 1, 5, 36] (.cond (.tmp 36) (.keep [0, 1] (.seq (.ops f29r9)
  (.keep [4] .ret))) .skip))))))))))))))))
  (.keep [0, 1, 5] (.seq (.ops f29r10)
  (.keep [0, 1, 5, 6] (.seq (.ops f29r11)
  (.keep [0, 1, 5, 6, 7] (.seq (.ops f29r12)
  (.keep [0, 1, 5, 6, 7, 8] (.seq (.ops f29r13)
  (.keep [0, 1, 5, 6, 7, 8, 9] (.seq (.ops f29r14)
  (.keep [0, 1, 5, 6, 7, 8, 9, 10] (.seq (.block 1 (.loop f29l0))
  (.keep [] (.seq (.ops f29r36)
  (.keep [4] .ret))))))))))))))))))))

def f29 : AFn := ⟨143, [.tmp 4], f29b⟩

theorem f29_ok : compFn Tryd.prog 29 = some f29.strip := by kernel_rfl

/- function 30: (*strings.Builder).copyCheck; parameters 1; operations that are not compiled: 3 -/
def f30r0 : List AInstr := [
    ⟨(some 2), none, .mov (.tmp 0)⟩,
    ⟨(some 3), none, .nilCheck (.tmp 2)⟩,
    ⟨(some 4), none, .fieldAddr 0 (.tmp 3)⟩,
    ⟨(some 5), none, .load none (.tmp 4)⟩,
    ⟨(some 6), none, .eqP false (.tmp 5) (.const (.pointer none))⟩]

def f30r1 : List AInstr := [
    ⟨(some 7), none, .mov (.tmp 0)⟩,
    ⟨(some 8), none, .mov (.tmp 0)⟩,
    ⟨(some 9), none, .bad⟩,
    ⟨(some 10), none, .callF 44 [.tmp 9]⟩,
    ⟨(some 11), none, .bad⟩,
    ⟨(some 12), none, .nilCheck (.tmp 7)⟩,
    ⟨(some 13), none, .fieldAddr 0 (.tmp 12)⟩,
    ⟨none, none, .store 1 (.tmp 13) (.tmp 11)⟩]

def f30r2 : List AInstr := [
    ⟨(some 14), none, .mov (.tmp 0)⟩,
    ⟨(some 15), none, .nilCheck (.tmp 14)⟩,
    ⟨(some 16), none, .fieldAddr 0 (.tmp 15)⟩,
    ⟨(some 17), none, .load none (.tmp 16)⟩,
    ⟨(some 18), none, .mov (.tmp 0)⟩,
    ⟨(some 19), none, .eqP true (.tmp 17) (.tmp 18)⟩]

def f30b : ACode := (.seq (.ops f30r0)
  (.keep [0, 6] (.cond (.tmp 6) (.keep [0] (.ops f30r1)) (.keep [0] (.seq (.ops f30r2)
  (.keep [19] (.cond (.tmp 19) (.keep [] .bad) .skip)))))))

def f30 : AFn := ⟨20, [], f30b⟩

theorem f30_ok : compFn Tryd.prog 30 = some f30.strip := by kernel_rfl

/- function 31: strings.Split; parameters 2; operations that are not compiled: 0 -/
def f31r0 : List AInstr := [
    ⟨(some 4), none, .mov (.const (.slice none 0 0))⟩]

def f31r1 : List AInstr := [
    ⟨(some 5), none, .mov (.tmp 0)⟩,
    ⟨(some 6), none, .mov (.tmp 1)⟩,
    ⟨(some 7), none, .callF 45 [.tmp 5, .tmp 6, .const (.int .i64 0), .const (.int .i64 (-1))]⟩,
    ⟨(some 4), none, .mov (.tmp 7)⟩]

def f31b : ACode := (.seq (.ops f31r0)
  (.keep [0, 1] (.seq (.ops f31r1)
  (.keep [4] .ret))))

def f31 : AFn := ⟨8, [.tmp 4], f31b⟩

theorem f31_ok : compFn Tryd.prog 31 = some f31.strip := by kernel_rfl

/- function 32: weirhouse/bench.number; parameters 1; operations that are not compiled: 0 -/
def f32r0 : List AInstr := [
    ⟨(some 2), none, .mov (.const (.int .i64 0))⟩,
    ⟨(some 3), none, .mov (.const (.bool false))⟩]

def f32r1 : List AInstr := [
    ⟨(some 7), none, .mov (.tmp 0)⟩,
    ⟨(some 8), none, .callF 46 [.tmp 7]⟩,
    ⟨(some 6), none, .mov (.tmp 8)⟩,
    ⟨(some 9), none, .extract 0 (.tmp 6)⟩,
    ⟨(some 10), none, .extract 1 (.tmp 6)⟩,
    ⟨(some 4), none, .mov (.tmp 9)⟩,
    ⟨(some 5), none, .mov (.tmp 10)⟩]

def f32r2 : List AInstr := [
    ⟨(some 11), none, .mov (.tmp 4)⟩,
    ⟨(some 12), none, .mov (.tmp 5)⟩,
    ⟨(some 13), none, .str (.isNil false) [.tmp 12]⟩,
    ⟨(some 14), none, .mov (.tmp 13)⟩,
    ⟨(some 15), (some (14, true)), .mov (.tmp 4)⟩,
    ⟨(some 16), (some (14, true)), .ibin .geq (.tmp 15) (.const (.int .i64 0))⟩,
    ⟨(some 17), none, .pick (.tmp 14) (.tmp 16) (.const (.bool false))⟩,
    ⟨(some 18), none, .mov (.tmp 17)⟩,
    ⟨(some 19), (some (18, true)), .mov (.tmp 4)⟩,
    ⟨(some 20), (some (18, true)), .ibin .leq (.tmp 19) (.const (.int .i64 1099511627776))⟩,
    ⟨(some 21), none, .pick (.tmp 18) (.tmp 20) (.const (.bool false))⟩,
    ⟨(some 22), none, .mov (.tmp 21)⟩,
    ⟨(some 23), (some (22, true)), .mov (.tmp 4)⟩,
    ⟨(some 24), (some (22, true)), .callF 13 [.tmp 23]⟩,
    ⟨(some 25), (some (22, true)), .mov (.tmp 0)⟩,
    ⟨(some 26), (some (22, true)), .str (.cmp false) [.tmp 24, .tmp 25]⟩,
    ⟨(some 27), none, .pick (.tmp 22) (.tmp 26) (.const (.bool false))⟩,
    ⟨(some 2), none, .mov (.tmp 11)⟩,
    ⟨(some 3), none, .mov (.tmp 27)⟩]

def f32b : ACode := (.seq (.ops f32r0)
  (.keep [0] (.seq (.ops f32r1)
  (.keep [0, 4, 5] (.seq (.ops f32r2)
  (.keep [2, 3] .ret))))))

def f32 : AFn := ⟨28, [.tmp 2, .tmp 3], f32b⟩

theorem f32_ok : compFn Tryd.prog 32 = some f32.strip := by kernel_rfl

/- function 33: internal/stringslite.Cut; parameters 2; operations that are not compiled: 4 -/
def f33r0 : List AInstr := [
    ⟨(some 4), none, .mov (.const (.string ⟨#[]⟩))⟩,
    ⟨(some 5), none, .mov (.const (.string ⟨#[]⟩))⟩,
    ⟨(some 6), none, .mov (.const (.bool false))⟩]

def f33r1 : List AInstr := [
    ⟨(some 8), none, .mov (.tmp 0)⟩,
    ⟨(some 9), none, .mov (.tmp 1)⟩,
    ⟨(some 10), none, .callF 29 [.tmp 8, .tmp 9]⟩,
    ⟨(some 7), none, .mov (.tmp 10)⟩]

def f33r2 : List AInstr := [
    ⟨(some 11), none, .mov (.tmp 7)⟩,
    ⟨(some 12), none, .ibin .geq (.tmp 11) (.const (.int .i64 0))⟩]

def f33r3 : List AInstr := [
    ⟨(some 13), none, .mov (.tmp 0)⟩,
    ⟨(some 14), none, .mov (.tmp 7)⟩,
    ⟨(some 16), none, .mov (.tmp 0)⟩,
    ⟨(some 17), none, .mov (.tmp 7)⟩,
    ⟨(some 18), none, .mov (.tmp 1)⟩,
    ⟨(some 19), none, .str .len [.tmp 18]⟩,
    ⟨(some 20), none, .ibin .add (.tmp 17) (.tmp 19)⟩,
    ⟨(some 15), none, .bad⟩,
    ⟨(some 4), none, .mov (.tmp 15)⟩,
    ⟨(some 21), none, .bad⟩,
    ⟨(some 5), none, .mov (.tmp 21)⟩,
    ⟨(some 6), none, .mov (.const (.bool true))⟩]

def f33r4 : List AInstr := [
    ⟨(some 13), none, .mov (.tmp 0)⟩,
    ⟨(some 14), none, .mov (.tmp 7)⟩,
    ⟨(some 16), none, .mov (.tmp 0)⟩,
    ⟨(some 17), none, .mov (.tmp 7)⟩,
    ⟨(some 18), none, .mov (.tmp 1)⟩,
    ⟨(some 19), none, .str .len [.tmp 18]⟩,
    ⟨(some 20), none, .ibin .add (.tmp 17) (.tmp 19)⟩,
    ⟨(some 21), none, .bad⟩,
    ⟨(some 15), none, .bad⟩,
    ⟨(some 4), none, .mov (.tmp 15)⟩,
    ⟨(some 5), none, .mov (.tmp 21)⟩,
    ⟨(some 6), none, .mov (.const (.bool true))⟩]

def f33r5 : List AInstr := [
    ⟨(some 22), none, .mov (.tmp 0)⟩,
    ⟨(some 4), none, .mov (.tmp 22)⟩,
    ⟨(some 5), none, .mov (.const (.string ⟨#[]⟩))⟩,
    ⟨(some 6), none, .mov (.const (.bool false))⟩]

def f33b : ACode := (.seq (.ops f33r0)
  (.keep [0, 1] (.seq (.seq (.ops f33r1)
  (.keep [0, 1, 7] (.seq (.ops f33r2)
  (.keep [0, 1, 7, 12] (.cond (.tmp 12) (.keep [0, 1, 7] (.seq (.alt [(f33r3, [(0, 0, false), (0, 0, false), (0, 1, false), (0, 1, false), (0, 1, false), (0, 1, false), (0, 1, false), (0, 0, true), (1, 2, false), (1, 0, true), (2, 2, false), (2, 2, false)]), (f33r4, [(0, 1, false), (0, 1, false), (0, 0, false), (0, 0, false), (0, 0, false), (0, 0, false), (0, 0, false), (0, 0, true), (1, 0, true), (2, 2, false), (2, 2, false), (2, 2, false)])])
  (.keep [4, 5, 6] .ret))) .skip)))))
  (.keep [0] (.seq (.ops f33r5)
  (.keep [4, 5, 6] .ret))))))

def f33 : AFn := ⟨23, [.tmp 4, .tmp 5, .tmp 6], f33b⟩

theorem f33_ok : compFn Tryd.prog 33 = some f33.strip := by kernel_rfl

/- function 34: weirhouse/bucket.Right; parameters 1; operations that are not compiled: 0 -/
def f34r0 : List AInstr := [
    ⟨(some 1), none, .box (.tmp 0)⟩,
    ⟨(some 2), none, .mov (.const (.bool false))⟩]

def f34r1 : List AInstr := [
    ⟨(some 3), none, .fieldAddr 0 (.tmp 1)⟩,
    ⟨(some 4), none, .load none (.tmp 3)⟩,
    ⟨(some 5), none, .ibin .geq (.tmp 4) (.const (.int .i64 0))⟩,
    ⟨(some 6), none, .mov (.tmp 5)⟩,
    ⟨(some 7), (some (6, true)), .fieldAddr 0 (.tmp 1)⟩,
    ⟨(some 8), (some (6, true)), .load none (.tmp 7)⟩,
    ⟨(some 9), (some (6, true)), .ibin .leq (.tmp 8) (.const (.int .i64 1048576))⟩,
    ⟨(some 10), none, .pick (.tmp 6) (.tmp 9) (.const (.bool false))⟩,
    ⟨(some 11), none, .mov (.tmp 10)⟩,
    ⟨(some 12), (some (11, true)), .fieldAddr 1 (.tmp 1)⟩,
    ⟨(some 13), (some (11, true)), .load none (.tmp 12)⟩,
    ⟨(some 14), (some (11, true)), .ibin .geq (.tmp 13) (.const (.int .i64 1))⟩,
    ⟨(some 15), none, .pick (.tmp 11) (.tmp 14) (.const (.bool false))⟩,
    ⟨(some 16), none, .mov (.tmp 15)⟩,
    ⟨(some 17), (some (16, true)), .fieldAddr 1 (.tmp 1)⟩,
    ⟨(some 18), (some (16, true)), .load none (.tmp 17)⟩,
    ⟨(some 19), (some (16, true)), .ibin .leq (.tmp 18) (.const (.int .i64 1048576))⟩,
    ⟨(some 20), none, .pick (.tmp 16) (.tmp 19) (.const (.bool false))⟩,
    ⟨(some 21), none, .mov (.tmp 20)⟩,
    ⟨(some 22), (some (21, true)), .fieldAddr 2 (.tmp 1)⟩,
    ⟨(some 23), (some (21, true)), .load none (.tmp 22)⟩,
    ⟨(some 24), (some (21, true)), .ibin .geq (.tmp 23) (.const (.int .i64 0))⟩,
    ⟨(some 25), none, .pick (.tmp 21) (.tmp 24) (.const (.bool false))⟩,
    ⟨(some 26), none, .mov (.tmp 25)⟩,
    ⟨(some 27), (some (26, true)), .fieldAddr 2 (.tmp 1)⟩,
    ⟨(some 28), (some (26, true)), .load none (.tmp 27)⟩,
    ⟨(some 29), (some (26, true)), .ibin .leq (.tmp 28) (.const (.int .i64 1048576))⟩,
    ⟨(some 30), none, .pick (.tmp 26) (.tmp 29) (.const (.bool false))⟩,
    ⟨(some 31), none, .mov (.tmp 30)⟩,
    ⟨(some 32), (some (31, true)), .fieldAddr 3 (.tmp 1)⟩,
    ⟨(some 33), (some (31, true)), .load none (.tmp 32)⟩,
    ⟨(some 34), (some (31, true)), .ibin .geq (.tmp 33) (.const (.int .i64 0))⟩,
    ⟨(some 35), none, .pick (.tmp 31) (.tmp 34) (.const (.bool false))⟩,
    ⟨(some 36), none, .mov (.tmp 35)⟩,
    ⟨(some 37), (some (36, true)), .fieldAddr 3 (.tmp 1)⟩,
    ⟨(some 38), (some (36, true)), .load none (.tmp 37)⟩,
    ⟨(some 39), (some (36, true)), .fieldAddr 2 (.tmp 1)⟩,
    ⟨(some 40), (some (36, true)), .load none (.tmp 39)⟩,
    ⟨(some 41), (some (36, true)), .fieldAddr 1 (.tmp 1)⟩,
    ⟨(some 42), (some (36, true)), .load none (.tmp 41)⟩,
    ⟨(some 43), (some (36, true)), .ibin .mul (.tmp 40) (.tmp 42)⟩,
    ⟨(some 44), (some (36, true)), .ibin .leq (.tmp 38) (.tmp 43)⟩,
    ⟨(some 45), none, .pick (.tmp 36) (.tmp 44) (.const (.bool false))⟩,
    ⟨(some 46), none, .mov (.tmp 45)⟩,
    ⟨(some 47), (some (46, true)), .fieldAddr 4 (.tmp 1)⟩,
    ⟨(some 48), (some (46, true)), .load none (.tmp 47)⟩,
    ⟨(some 49), (some (46, true)), .ibin .geq (.tmp 48) (.const (.int .i64 0))⟩,
    ⟨(some 50), none, .pick (.tmp 46) (.tmp 49) (.const (.bool false))⟩,
    ⟨(some 51), none, .mov (.tmp 50)⟩,
    ⟨(some 52), (some (51, true)), .fieldAddr 4 (.tmp 1)⟩,
    ⟨(some 53), (some (51, true)), .load none (.tmp 52)⟩,
    ⟨(some 54), (some (51, true)), .ibin .leq (.tmp 53) (.const (.int .i64 1099511627776))⟩,
    ⟨(some 55), none, .pick (.tmp 51) (.tmp 54) (.const (.bool false))⟩,
    ⟨(some 2), none, .mov (.tmp 55)⟩]

def f34b : ACode := (.seq (.ops f34r0)
  (.keep [1] (.seq (.ops f34r1)
  (.keep [2] .ret))))

def f34 : AFn := ⟨56, [.tmp 2], f34b⟩

theorem f34_ok : compFn Tryd.prog 34 = some f34.strip := by kernel_rfl

/- function 35: weirhouse/pace.do$1; parameters 1; operations that are not compiled: 0 -/
def f35r0 : List AInstr := [
    ⟨(some 3), none, .alloc [.slice none 0 0, .int .i64 0, .int .i64 0, .int .i64 0, .int .i64 0, .int .i64 0, .int .i64 0, .int .i64 0, .int .i64 0, .int .i64 0]⟩,
    ⟨(some 4), none, .alloc [.int .i64 0, .slice none 0 0]⟩]

def f35r1 : List AInstr := [
    ⟨(some 5), none, .load (some 10) (.tmp 1)⟩,
    ⟨(some 6), none, .mov (.tmp 0)⟩,
    ⟨(some 7), none, .build [.int .i64 0, .slice none 0 0] [(0, 1, (.tmp 6))]⟩,
    ⟨none, none, .store 10 (.tmp 3) (.tmp 5)⟩,
    ⟨none, none, .store 2 (.tmp 4) (.tmp 7)⟩]

def f35b : ACode := (.seq (.ops f35r0)
  (.keep [0, 1, 3, 4] (.seq (.ops f35r1)
  (.keep [3, 4] .ret))))

def f35 : AFn := ⟨8, [.cell 3 (some 10), .cell 4 (some 2)], f35b⟩

theorem f35_ok : compFn Tryd.prog 35 = some f35.strip := by kernel_rfl

/- function 36: weirhouse/ring.Step; parameters 2; operations that are not compiled: 0 -/
def f36r0 : List AInstr := [
    ⟨(some 2), none, .box (.tmp 0)⟩,
    ⟨(some 3), none, .box (.tmp 1)⟩,
    ⟨(some 4), none, .alloc [.slice none 0 0, .int .i64 0, .int .i64 0, .int .i64 0]⟩,
    ⟨(some 5), none, .mov (.const (.int .i64 0))⟩,
    ⟨(some 6), none, .mov (.const (.int .i64 0))⟩]

def f36r1 : List AInstr := [
    ⟨(some 7), none, .mov (.const (.func (.func 47) #[] #[]))⟩]

def f36r2 : List AInstr := [
    ⟨(some 9), none, .load (some 4) (.tmp 2)⟩,
    ⟨(some 10), none, .callF 48 [.tmp 9]⟩,
    ⟨(some 11), none, .un .not (.tmp 10)⟩]

def f36r3 : List AInstr := [
    ⟨(some 12), none, .mov (.tmp 7)⟩,
    ⟨(some 13), none, .callV (.tmp 12) [.const (.int .i64 1)]⟩,
    ⟨(some 14), none, .extract 0 (.tmp 13)⟩,
    ⟨(some 15), none, .extract 1 (.tmp 13)⟩,
    ⟨(some 16), none, .extract 2 (.tmp 13)⟩,
    ⟨none, none, .store 4 (.tmp 4) (.tmp 14)⟩,
    ⟨(some 5), none, .mov (.tmp 15)⟩,
    ⟨(some 6), none, .mov (.tmp 16)⟩]

def f36r4 : List AInstr := [
    ⟨(some 17), none, .fieldAddr 0 (.tmp 2)⟩,
    ⟨(some 18), none, .load none (.tmp 17)⟩,
    ⟨(some 19), none, .callF 27 [.tmp 18]⟩,
    ⟨(some 20), none, .fieldAddr 0 (.tmp 2)⟩,
    ⟨none, none, .store 1 (.tmp 20) (.tmp 19)⟩]

def f36r5 : List AInstr := [
    ⟨(some 21), none, .fieldAddr 0 (.tmp 3)⟩,
    ⟨(some 22), none, .load none (.tmp 21)⟩]

def f36r6 : List AInstr := [
    ⟨(some 24), none, .ibin .eql (.tmp 22) (.const (.int .i64 1))⟩,
    ⟨(some 23), none, .mov (.tmp 24)⟩]

def f36r7 : List AInstr := [
    ⟨(some 26), none, .fieldAddr 1 (.tmp 3)⟩,
    ⟨(some 27), none, .load none (.tmp 26)⟩,
    ⟨(some 28), none, .ibin .lss (.tmp 27) (.const (.int .i64 1))⟩,
    ⟨(some 29), none, .mov (.tmp 28)⟩,
    ⟨(some 30), (some (29, false)), .fieldAddr 1 (.tmp 3)⟩,
    ⟨(some 31), (some (29, false)), .load none (.tmp 30)⟩,
    ⟨(some 32), (some (29, false)), .ibin .gtr (.tmp 31) (.const (.int .i64 1500))⟩,
    ⟨(some 33), none, .pick (.tmp 29) (.const (.bool true)) (.tmp 32)⟩,
    ⟨(some 25), none, .mov (.tmp 33)⟩]

def f36r8 : List AInstr := [
    ⟨(some 34), none, .mov (.tmp 7)⟩,
    ⟨(some 35), none, .callV (.tmp 34) [.const (.int .i64 2)]⟩,
    ⟨(some 36), none, .extract 0 (.tmp 35)⟩,
    ⟨(some 37), none, .extract 1 (.tmp 35)⟩,
    ⟨(some 38), none, .extract 2 (.tmp 35)⟩,
    ⟨none, none, .store 4 (.tmp 4) (.tmp 36)⟩,
    ⟨(some 5), none, .mov (.tmp 37)⟩,
    ⟨(some 6), none, .mov (.tmp 38)⟩]

def f36r9 : List AInstr := [
    ⟨(some 40), none, .fieldAddr 0 (.tmp 2)⟩,
    ⟨(some 41), none, .load none (.tmp 40)⟩,
    ⟨(some 42), none, .len (.tmp 41)⟩,
    ⟨(some 43), none, .fieldAddr 1 (.tmp 2)⟩,
    ⟨(some 44), none, .load none (.tmp 43)⟩,
    ⟨(some 45), none, .ibin .lss (.tmp 42) (.tmp 44)⟩,
    ⟨(some 46), none, .mov (.tmp 45)⟩,
    ⟨(some 47), (some (46, true)), .fieldAddr 0 (.tmp 2)⟩,
    ⟨(some 48), (some (46, true)), .load none (.tmp 47)⟩,
    ⟨(some 50), (some (46, true)), .fieldAddr 1 (.tmp 3)⟩,
    ⟨(some 51), (some (46, true)), .load none (.tmp 50)⟩,
    ⟨(some 53), (some (46, true)), .fieldAddr 2 (.tmp 2)⟩,
    ⟨(some 54), (some (46, true)), .load none (.tmp 53)⟩,
    ⟨(some 49), (some (46, true)), .callF 49 [.tmp 48]⟩,
    ⟨(some 52), (some (46, true)), .ibin .add (.tmp 49) (.tmp 51)⟩,
    ⟨(some 55), (some (46, true)), .ibin .leq (.tmp 52) (.tmp 54)⟩,
    ⟨(some 56), none, .pick (.tmp 46) (.tmp 55) (.const (.bool false))⟩,
    ⟨(some 39), none, .mov (.tmp 56)⟩]

def f36r10 : List AInstr := [
    ⟨(some 57), none, .fieldAddr 0 (.tmp 2)⟩,
    ⟨(some 58), none, .load none (.tmp 57)⟩,
    ⟨(some 59), none, .fieldAddr 1 (.tmp 3)⟩,
    ⟨(some 60), none, .load none (.tmp 59)⟩,
    ⟨(some 61), none, .buildSlice 1 1 [.int .i64 0] [(0, 1, (.tmp 60))]⟩,
    ⟨(some 62), none, .append 1 8 (.tmp 58) (.tmp 61)⟩,
    ⟨(some 63), none, .fieldAddr 0 (.tmp 2)⟩,
    ⟨none, none, .store 1 (.tmp 63) (.tmp 62)⟩]

def f36r11 : List AInstr := [
    ⟨(some 64), none, .load (some 4) (.tmp 2)⟩,
    ⟨none, none, .store 4 (.tmp 4) (.tmp 64)⟩,
    ⟨(some 5), none, .mov (.const (.int .i64 1))⟩,
    ⟨(some 6), none, .mov (.const (.int .i64 0))⟩]

def f36r12 : List AInstr := [
    ⟨(some 66), none, .fieldAddr 3 (.tmp 2)⟩,
    ⟨(some 67), none, .load none (.tmp 66)⟩,
    ⟨(some 68), none, .ibin .eql (.tmp 67) (.const (.int .i64 1099511627776))⟩,
    ⟨(some 65), none, .mov (.tmp 68)⟩]

def f36r13 : List AInstr := [
    ⟨(some 69), none, .mov (.tmp 7)⟩,
    ⟨(some 70), none, .callV (.tmp 69) [.const (.int .i64 4)]⟩,
    ⟨(some 71), none, .extract 0 (.tmp 70)⟩,
    ⟨(some 72), none, .extract 1 (.tmp 70)⟩,
    ⟨(some 73), none, .extract 2 (.tmp 70)⟩,
    ⟨none, none, .store 4 (.tmp 4) (.tmp 71)⟩,
    ⟨(some 5), none, .mov (.tmp 72)⟩,
    ⟨(some 6), none, .mov (.tmp 73)⟩]

def f36r14 : List AInstr := [
    ⟨(some 74), none, .fieldAddr 3 (.tmp 2)⟩,
    ⟨(some 75), none, .load none (.tmp 74)⟩,
    ⟨(some 76), none, .ibin .add (.tmp 75) (.const (.int .i64 1))⟩,
    ⟨(some 77), none, .fieldAddr 3 (.tmp 2)⟩,
    ⟨none, none, .store 1 (.tmp 77) (.tmp 76)⟩]

def f36r15 : List AInstr := [
    ⟨(some 78), none, .load (some 4) (.tmp 2)⟩,
    ⟨none, none, .store 4 (.tmp 4) (.tmp 78)⟩,
    ⟨(some 5), none, .mov (.const (.int .i64 0))⟩,
    ⟨(some 6), none, .mov (.const (.int .i64 0))⟩]

def f36r16 : List AInstr := [
    ⟨(some 80), none, .ibin .eql (.tmp 22) (.const (.int .i64 2))⟩,
    ⟨(some 79), none, .mov (.tmp 80)⟩]

def f36r17 : List AInstr := [
    ⟨(some 81), none, .fieldAddr 0 (.tmp 2)⟩,
    ⟨(some 82), none, .load none (.tmp 81)⟩,
    ⟨(some 83), none, .len (.tmp 82)⟩,
    ⟨(some 84), none, .ibin .eql (.tmp 83) (.const (.int .i64 0))⟩]

def f36r18 : List AInstr := [
    ⟨(some 85), none, .mov (.tmp 7)⟩,
    ⟨(some 86), none, .callV (.tmp 85) [.const (.int .i64 3)]⟩,
    ⟨(some 87), none, .extract 0 (.tmp 86)⟩,
    ⟨(some 88), none, .extract 1 (.tmp 86)⟩,
    ⟨(some 89), none, .extract 2 (.tmp 86)⟩,
    ⟨none, none, .store 4 (.tmp 4) (.tmp 87)⟩,
    ⟨(some 5), none, .mov (.tmp 88)⟩,
    ⟨(some 6), none, .mov (.tmp 89)⟩]

def f36r19 : List AInstr := [
    ⟨(some 90), none, .fieldAddr 0 (.tmp 2)⟩,
    ⟨(some 91), none, .load none (.tmp 90)⟩,
    ⟨(some 92), none, .indexAddr 1 (.tmp 91) (.const (.int .i64 0))⟩,
    ⟨(some 93), none, .load none (.tmp 92)⟩,
    ⟨(some 8), none, .mov (.tmp 93)⟩]

def f36r20 : List AInstr := [
    ⟨(some 94), none, .fieldAddr 0 (.tmp 2)⟩,
    ⟨(some 95), none, .load none (.tmp 94)⟩,
    ⟨(some 96), none, .slice 1 (.tmp 95) (some (.const (.int .i64 1))) none none⟩,
    ⟨(some 97), none, .callF 27 [.tmp 96]⟩,
    ⟨(some 98), none, .fieldAddr 0 (.tmp 2)⟩,
    ⟨none, none, .store 1 (.tmp 98) (.tmp 97)⟩]

def f36r21 : List AInstr := [
    ⟨(some 99), none, .load (some 4) (.tmp 2)⟩,
    ⟨(some 100), none, .mov (.tmp 8)⟩,
    ⟨none, none, .store 4 (.tmp 4) (.tmp 99)⟩,
    ⟨(some 5), none, .mov (.tmp 100)⟩,
    ⟨(some 6), none, .mov (.const (.int .i64 0))⟩]

def f36r22 : List AInstr := [
    ⟨(some 101), none, .mov (.tmp 7)⟩,
    ⟨(some 102), none, .callV (.tmp 101) [.const (.int .i64 5)]⟩,
    ⟨(some 103), none, .extract 0 (.tmp 102)⟩,
    ⟨(some 104), none, .extract 1 (.tmp 102)⟩,
    ⟨(some 105), none, .extract 2 (.tmp 102)⟩,
    ⟨none, none, .store 4 (.tmp 4) (.tmp 103)⟩,
    ⟨(some 5), none, .mov (.tmp 104)⟩,
    ⟨(some 6), none, .mov (.tmp 105)⟩]

def f36b : ACode := (.seq (.ops f36r0)
  (.keep [2, 3, 4] (.seq (.ops f36r1)
  (.keep [2, 3, 4, 7] (.seq (.seq (.ops f36r2)
  (.keep [2, 3, 4, 7, 11] (.cond (.tmp 11) (.keep [4, 7] (.seq (.ops f36r3)
  (.keep [4, 5, 6] .ret))) .skip)))
  (.keep [2, 3, 4, 7] (.seq (.ops f36r4)
  (.keep [2, 3, 4, 7] (.seq (.seq (.ops f36r5)
  (.keep [2, 3, 4, 7, 22] (.block 0 (.seq (.ops f36r6)
  (.keep [2, 3, 4, 7, 22, 23] (.cond (.tmp 23) (.keep [2, 3, 4, 7] (.seq (.block 1 (.seq (.ops f36r7)
  (.keep [2, 3, 4, 7, 25] (.cond (.tmp 25) (.keep [4, 7] (.seq (.ops f36r8)
  (.keep [4, 5, 6] .ret))) (.keep [2, 3, 4, 7] (.seq (.alt [(f36r9, [(0, 0, false), (0, 0, false), (0, 0, false), (0, 0, false), (0, 0, false), (0, 0, false), (0, 0, false), (0, 0, false), (0, 0, false), (0, 1, false), (0, 1, false), (0, 1, false), (0, 1, false), (0, 0, true), (1, 1, false), (1, 1, false), (1, 1, false), (1, 1, false)])])
  (.keep [2, 3, 4, 7, 39] (.cond (.tmp 39) (.keep [2, 3, 4] (.seq (.ops f36r10)
  (.keep [2, 4] (.seq (.ops f36r11)
  (.keep [4, 5, 6] .ret))))) (.keep [2, 4, 7] (.seq (.ops f36r12)
  (.keep [2, 4, 7, 65] (.cond (.tmp 65) (.keep [4, 7] (.seq (.ops f36r13)
  (.keep [4, 5, 6] .ret))) .skip))))))))))))
  (.keep [2, 4] (.seq (.ops f36r14)
  (.keep [2, 4] (.seq (.ops f36r15)
  (.keep [4, 5, 6] .ret))))))) (.keep [2, 4, 7, 22] (.seq (.ops f36r16)
  (.keep [2, 4, 7, 79] (.cond (.tmp 79) (.keep [2, 4, 7] (.seq (.seq (.ops f36r17)
  (.keep [2, 4, 7, 84] (.cond (.tmp 84) (.keep [4, 7] (.seq (.ops f36r18)
  (.keep [4, 5, 6] .ret))) .skip)))
  (.keep [2, 4] (.seq (.ops f36r19)
  (.keep [2, 4, 8] (.seq (.ops f36r20)
  (.keep [2, 4, 8] (.seq (.ops f36r21)
  (.keep [4, 5, 6] .ret))))))))) .skip))))))))))
  (.keep [4, 7] (.seq (.ops f36r22)
  (.keep [4, 5, 6] .ret))))))))))))

def f36 : AFn := ⟨106, [.cell 4 (some 4), .tmp 5, .tmp 6], f36b⟩

theorem f36_ok : compFn Tryd.prog 36 = some f36.strip := by kernel_rfl

/- function 37: weirhouse/bucket.Fill; parameters 2; operations that are not compiled: 0 -/
def f37r0 : List AInstr := [
    ⟨(some 2), none, .box (.tmp 0)⟩,
    ⟨(some 4), none, .alloc [.int .i64 0, .int .i64 0, .int .i64 0, .int .i64 0, .int .i64 0]⟩,
    ⟨(some 5), none, .mov (.const (.int .i64 0))⟩]

def f37r1 : List AInstr := [
    ⟨(some 9), none, .load (some 5) (.tmp 2)⟩,
    ⟨(some 10), none, .callF 34 [.tmp 9]⟩,
    ⟨(some 11), none, .un .not (.tmp 10)⟩,
    ⟨(some 8), none, .mov (.tmp 11)⟩]

def f37r2 : List AInstr := [
    ⟨(some 12), none, .build [.int .i64 0, .int .i64 0, .int .i64 0, .int .i64 0, .int .i64 0] []⟩,
    ⟨none, none, .store 5 (.tmp 4) (.tmp 12)⟩,
    ⟨(some 5), none, .mov (.const (.int .i64 1))⟩]

def f37r3 : List AInstr := [
    ⟨(some 14), none, .mov (.tmp 1)⟩,
    ⟨(some 15), none, .fieldAddr 4 (.tmp 2)⟩,
    ⟨(some 16), none, .load none (.tmp 15)⟩,
    ⟨(some 17), none, .ibin .lss (.tmp 14) (.tmp 16)⟩,
    ⟨(some 18), none, .mov (.tmp 17)⟩,
    ⟨(some 19), (some (18, false)), .mov (.tmp 1)⟩,
    ⟨(some 20), (some (18, false)), .ibin .gtr (.tmp 19) (.const (.int .i64 1099511627776))⟩,
    ⟨(some 21), none, .pick (.tmp 18) (.const (.bool true)) (.tmp 20)⟩,
    ⟨(some 13), none, .mov (.tmp 21)⟩]

def f37r4 : List AInstr := [
    ⟨(some 22), none, .build [.int .i64 0, .int .i64 0, .int .i64 0, .int .i64 0, .int .i64 0] []⟩,
    ⟨none, none, .store 5 (.tmp 4) (.tmp 22)⟩,
    ⟨(some 5), none, .mov (.const (.int .i64 2))⟩]

def f37r5 : List AInstr := [
    ⟨(some 23), none, .fieldAddr 2 (.tmp 2)⟩,
    ⟨(some 24), none, .load none (.tmp 23)⟩,
    ⟨(some 25), none, .fieldAddr 1 (.tmp 2)⟩,
    ⟨(some 26), none, .load none (.tmp 25)⟩,
    ⟨(some 27), none, .ibin .mul (.tmp 24) (.tmp 26)⟩,
    ⟨(some 28), none, .fieldAddr 3 (.tmp 2)⟩,
    ⟨(some 29), none, .load none (.tmp 28)⟩,
    ⟨(some 30), none, .ibin .sub (.tmp 27) (.tmp 29)⟩,
    ⟨(some 6), none, .mov (.tmp 30)⟩]

def f37r6 : List AInstr := [
    ⟨(some 31), none, .mov (.tmp 1)⟩,
    ⟨(some 32), none, .fieldAddr 4 (.tmp 2)⟩,
    ⟨(some 33), none, .load none (.tmp 32)⟩,
    ⟨(some 34), none, .ibin .sub (.tmp 31) (.tmp 33)⟩,
    ⟨(some 7), none, .mov (.tmp 34)⟩]

def f37r7 : List AInstr := [
    ⟨(some 35), none, .fieldAddr 0 (.tmp 2)⟩,
    ⟨(some 36), none, .load none (.tmp 35)⟩,
    ⟨(some 37), none, .ibin .gtr (.tmp 36) (.const (.int .i64 0))⟩,
    ⟨(some 38), none, .mov (.tmp 37)⟩,
    ⟨(some 39), (some (38, true)), .mov (.tmp 7)⟩,
    ⟨(some 40), (some (38, true)), .mov (.tmp 6)⟩,
    ⟨(some 41), (some (38, true)), .fieldAddr 0 (.tmp 2)⟩,
    ⟨(some 42), (some (38, true)), .load none (.tmp 41)⟩,
    ⟨(some 43), (some (38, true)), .ibin .quo (.tmp 40) (.tmp 42)⟩,
    ⟨(some 44), (some (38, true)), .ibin .gtr (.tmp 39) (.tmp 43)⟩,
    ⟨(some 45), none, .pick (.tmp 38) (.tmp 44) (.const (.bool false))⟩]

def f37r8 : List AInstr := [
    ⟨(some 46), none, .fieldAddr 3 (.tmp 2)⟩,
    ⟨(some 47), none, .load none (.tmp 46)⟩,
    ⟨(some 48), none, .mov (.tmp 6)⟩,
    ⟨(some 49), none, .ibin .add (.tmp 47) (.tmp 48)⟩,
    ⟨(some 50), none, .fieldAddr 3 (.tmp 2)⟩,
    ⟨none, none, .store 1 (.tmp 50) (.tmp 49)⟩]

def f37r9 : List AInstr := [
    ⟨(some 51), none, .fieldAddr 3 (.tmp 2)⟩,
    ⟨(some 52), none, .load none (.tmp 51)⟩,
    ⟨(some 53), none, .mov (.tmp 7)⟩,
    ⟨(some 54), none, .fieldAddr 0 (.tmp 2)⟩,
    ⟨(some 55), none, .load none (.tmp 54)⟩,
    ⟨(some 56), none, .ibin .mul (.tmp 53) (.tmp 55)⟩,
    ⟨(some 57), none, .ibin .add (.tmp 52) (.tmp 56)⟩,
    ⟨(some 58), none, .fieldAddr 3 (.tmp 2)⟩,
    ⟨none, none, .store 1 (.tmp 58) (.tmp 57)⟩]

def f37r10 : List AInstr := [
    ⟨(some 59), none, .mov (.tmp 1)⟩,
    ⟨(some 60), none, .fieldAddr 4 (.tmp 2)⟩,
    ⟨none, none, .store 1 (.tmp 60) (.tmp 59)⟩]

def f37r11 : List AInstr := [
    ⟨(some 61), none, .load (some 5) (.tmp 2)⟩,
    ⟨none, none, .store 5 (.tmp 4) (.tmp 61)⟩,
    ⟨(some 5), none, .mov (.const (.int .i64 0))⟩]

def f37b : ACode := (.seq (.ops f37r0)
  (.keep [1, 2, 4] (.seq (.block 0 (.seq (.ops f37r1)
  (.keep [1, 2, 4, 8] (.cond (.tmp 8) (.keep [4] (.seq (.ops f37r2)
  (.keep [4, 5] .ret))) (.keep [1, 2, 4] (.seq (.ops f37r3)
  (.keep [1, 2, 4, 13] (.cond (.tmp 13) (.keep [4] (.seq (.ops f37r4)
  (.keep [4, 5] .ret))) .skip))))))))
  (.keep [1, 2, 4] (.seq (.ops f37r5)
  (.keep [1, 2, 4, 6] (.seq (.seq (.ops f37r6)
  (.keep [1, 2, 4, 6, 7] (.seq (.ops f37r7)
  (.keep [1, 2, 4, 6, 7, 45] (.cond (.tmp 45) (.keep [1, 2, 4, 6] (.ops f37r8)) (.keep [1, 2, 4, 7] (.ops f37r9)))))))
  (.keep [1, 2, 4] (.seq (.ops f37r10)
  (.keep [2, 4] (.seq (.ops f37r11)
  (.keep [4, 5] .ret))))))))))))

def f37 : AFn := ⟨62, [.cell 4 (some 5), .tmp 5], f37b⟩

theorem f37_ok : compFn Tryd.prog 37 = some f37.strip := by kernel_rfl

/- function 38: weirhouse/pace.poll; parameters 2; operations that are not compiled: 0 -/
def f38r0 : List AInstr := [
    ⟨(some 2), none, .box (.tmp 0)⟩,
    ⟨(some 4), none, .alloc [.slice none 0 0, .int .i64 0, .int .i64 0, .int .i64 0, .int .i64 0, .int .i64 0, .int .i64 0, .int .i64 0, .int .i64 0, .int .i64 0]⟩,
    ⟨(some 5), none, .mov (.const (.slice none 0 0))⟩]

def f38r1 : List AInstr := [
    ⟨(some 6), none, .mov (.const (.slice none 0 0))⟩]

def f38r2 : List AInstr := [
    ⟨(some 13), none, .fieldAddr 0 (.tmp 2)⟩,
    ⟨(some 14), none, .fieldAddr 0 (.tmp 13)⟩,
    ⟨(some 15), none, .load none (.tmp 14)⟩,
    ⟨(some 16), none, .len (.tmp 15)⟩,
    ⟨(some 17), none, .ibin .gtr (.tmp 16) (.const (.int .i64 0))⟩]

def f38r3 : List AInstr := [
    ⟨(some 18), none, .fieldAddr 0 (.tmp 2)⟩,
    ⟨(some 19), none, .fieldAddr 0 (.tmp 18)⟩,
    ⟨(some 20), none, .load none (.tmp 19)⟩,
    ⟨(some 21), none, .indexAddr 1 (.tmp 20) (.const (.int .i64 0))⟩,
    ⟨(some 22), none, .load none (.tmp 21)⟩,
    ⟨(some 7), none, .mov (.tmp 22)⟩]

def f38r4 : List AInstr := [
    ⟨(some 23), none, .mov (.tmp 7)⟩,
    ⟨(some 24), none, .mov (.tmp 1)⟩,
    ⟨(some 25), none, .ibin .gtr (.tmp 23) (.tmp 24)⟩]

def f38r5 : List AInstr := [
    ⟨(some 27), none, .fieldAddr 4 (.tmp 2)⟩,
    ⟨(some 28), none, .load (some 5) (.tmp 27)⟩,
    ⟨(some 29), none, .fieldAddr 4 (.tmp 2)⟩,
    ⟨(some 30), none, .fieldAddr 4 (.tmp 29)⟩,
    ⟨(some 31), none, .load none (.tmp 30)⟩,
    ⟨(some 32), none, .mov (.tmp 7)⟩,
    ⟨(some 33), none, .build [.int .i64 0, .int .i64 0] [(0, 1, (.tmp 31)), (1, 1, (.tmp 32))]⟩,
    ⟨(some 34), none, .callF 50 [.tmp 28, .tmp 33]⟩,
    ⟨(some 26), none, .mov (.tmp 34)⟩,
    ⟨(some 35), none, .extract 0 (.tmp 26)⟩,
    ⟨(some 36), none, .extract 1 (.tmp 26)⟩,
    ⟨(some 37), none, .extract 2 (.tmp 26)⟩,
    ⟨(some 8), none, .alloc [.int .i64 0, .int .i64 0, .int .i64 0, .int .i64 0, .int .i64 0]⟩,
    ⟨none, none, .store 5 (.tmp 8) (.tmp 35)⟩,
    ⟨(some 9), none, .mov (.tmp 36)⟩,
    ⟨(some 10), none, .mov (.tmp 37)⟩]

def f38r6 : List AInstr := [
    ⟨(some 38), none, .mov (.tmp 10)⟩,
    ⟨(some 39), none, .ibin .neq (.tmp 38) (.const (.int .i64 0))⟩,
    ⟨(some 40), none, .mov (.tmp 39)⟩,
    ⟨(some 41), (some (40, false)), .mov (.tmp 9)⟩,
    ⟨(some 42), (some (40, false)), .un .not (.tmp 41)⟩,
    ⟨(some 43), none, .pick (.tmp 40) (.const (.bool true)) (.tmp 42)⟩]

def f38r7 : List AInstr := [
    ⟨(some 45), none, .fieldAddr 0 (.tmp 2)⟩,
    ⟨(some 46), none, .load (some 4) (.tmp 45)⟩,
    ⟨(some 47), none, .build [.int .i64 0, .int .i64 0] [(0, 1, (.const (.int .i64 2)))]⟩,
    ⟨(some 48), none, .callF 36 [.tmp 46, .tmp 47]⟩,
    ⟨(some 44), none, .mov (.tmp 48)⟩,
    ⟨(some 49), none, .extract 0 (.tmp 44)⟩,
    ⟨(some 50), none, .extract 1 (.tmp 44)⟩,
    ⟨(some 51), none, .extract 2 (.tmp 44)⟩,
    ⟨(some 11), none, .alloc [.slice none 0 0, .int .i64 0, .int .i64 0, .int .i64 0]⟩,
    ⟨none, none, .store 4 (.tmp 11) (.tmp 49)⟩,
    ⟨(some 12), none, .mov (.tmp 50)⟩,
    ⟨(some 10), none, .mov (.tmp 51)⟩]

def f38r8 : List AInstr := [
    ⟨(some 52), none, .mov (.tmp 10)⟩,
    ⟨(some 53), none, .ibin .neq (.tmp 52) (.const (.int .i64 0))⟩]

def f38r9 : List AInstr := [
    ⟨(some 54), none, .load (some 4) (.tmp 11)⟩,
    ⟨(some 55), none, .load (some 5) (.tmp 8)⟩,
    ⟨(some 56), none, .fieldAddr 0 (.tmp 2)⟩,
    ⟨none, none, .store 4 (.tmp 56) (.tmp 54)⟩,
    ⟨(some 57), none, .fieldAddr 4 (.tmp 2)⟩,
    ⟨none, none, .store 5 (.tmp 57) (.tmp 55)⟩]

def f38r10 : List AInstr := [
    ⟨(some 58), none, .mov (.tmp 1)⟩,
    ⟨(some 59), none, .mov (.tmp 7)⟩,
    ⟨(some 60), none, .ibin .sub (.tmp 58) (.tmp 59)⟩,
    ⟨(some 1), none, .mov (.tmp 60)⟩]

def f38r11 : List AInstr := [
    ⟨(some 61), none, .fieldAddr 9 (.tmp 2)⟩,
    ⟨(some 62), none, .load none (.tmp 61)⟩,
    ⟨(some 63), none, .mov (.tmp 7)⟩,
    ⟨(some 64), none, .ibin .add (.tmp 62) (.tmp 63)⟩,
    ⟨(some 65), none, .fieldAddr 9 (.tmp 2)⟩,
    ⟨none, none, .store 1 (.tmp 65) (.tmp 64)⟩]

def f38r12 : List AInstr := [
    ⟨(some 66), none, .mov (.tmp 6)⟩,
    ⟨(some 67), none, .mov (.tmp 7)⟩,
    ⟨(some 68), none, .buildSlice 1 1 [.int .i64 0] [(0, 1, (.tmp 67))]⟩,
    ⟨(some 69), none, .append 1 8 (.tmp 66) (.tmp 68)⟩,
    ⟨(some 6), none, .mov (.tmp 69)⟩]

/-- live: [1, 2, 4, 6] -/
def f38l0 : ACode := (.seq (.seq (.ops f38r2)
  (.keep [1, 2, 4, 6, 17] (.cond (.tmp 17) .skip (.exit 0))))
  (.keep [1, 2, 4, 6] (.block 1 (.seq (.ops f38r3)
  (.keep [1, 2, 4, 6, 7] (.seq (.seq (.ops f38r4)
  (.keep [1, 2, 4, 6, 7, 25] (.cond (.tmp 25) (.exit 0) .skip)))
  (.keep [1, 2, 4, 6, 7] (.seq (.ops f38r5)
  (.keep [1, 2, 4, 6, 7, 8, 9, 10] (.seq (.seq (.ops f38r6)
  (.keep [1, 2, 4, 6, 7, 8, 43] (.cond (.tmp 43) (.exit 0) .skip)))
  (.keep [1, 2, 4, 6, 7, 8] (.seq (.ops f38r7)
  (.keep [1, 2, 4, 6, 7, 8, 10, 11] (.seq (.seq (.ops f38r8)
  (.keep [1, 2, 4, 6, 7, 8, 11, 53] (.cond (.tmp 53) (.exit 0) .skip)))
  (.keep [1, 2, 4, 6, 7, 8, 11] (.seq (.draw f38r9 [(0, 0, false), (0, 1, false), (0, 0, false), (0, 0, true), (1, 1, false), (1, 0, true)])
  (.keep [1, 2, 4, 6, 7] (.seq (.ops f38r10)
  (.keep [1, 2, 4, 6, 7] (.seq (.ops f38r11)
  (.keep [1, 2, 4, 6, 7] (.ops f38r12))))))))))))))))))))))

def f38r14 : List AInstr := [
    ⟨(some 70), none, .load (some 10) (.tmp 2)⟩,
    ⟨(some 71), none, .mov (.tmp 6)⟩,
    ⟨none, none, .store 10 (.tmp 4) (.tmp 70)⟩,
    ⟨(some 5), none, .mov (.tmp 71)⟩]

def f38b : ACode := (.seq (.ops f38r0)
  (.keep [1, 2, 4] (.seq (.ops f38r1)
  (.keep [1, 2, 4, 6] (.seq (.block 0 (.loop f38l0))
  (.keep [2, 4, 6] (.seq (.ops f38r14)
  (.keep [4, 5] .ret))))))))

def f38 : AFn := ⟨72, [.cell 4 (some 10), .tmp 5], f38b⟩

theorem f38_ok : compFn Tryd.prog 38 = some f38.strip := by kernel_rfl

/- function 39: internal/strconv.FormatInt; parameters 2; operations that are not compiled: 2 -/
def f39r0 : List AInstr := [
    ⟨(some 4), none, .mov (.const (.string ⟨#[]⟩))⟩]

def f39r1 : List AInstr := [
    ⟨(some 10), none, .mov (.tmp 1)⟩,
    ⟨(some 11), none, .ibin .eql (.tmp 10) (.const (.int .i64 10))⟩]

def f39r2 : List AInstr := [
    ⟨(some 12), none, .mov (.tmp 0)⟩,
    ⟨(some 13), none, .ibin .leq (.const (.int .i64 0)) (.tmp 12)⟩,
    ⟨(some 14), none, .mov (.tmp 13)⟩,
    ⟨(some 15), (some (14, true)), .mov (.tmp 0)⟩,
    ⟨(some 16), (some (14, true)), .ibin .lss (.tmp 15) (.const (.int .i64 100))⟩,
    ⟨(some 17), none, .pick (.tmp 14) (.tmp 16) (.const (.bool false))⟩]

def f39r3 : List AInstr := [
    ⟨(some 18), none, .mov (.tmp 0)⟩,
    ⟨(some 19), none, .callF 51 [.tmp 18]⟩,
    ⟨(some 4), none, .mov (.tmp 19)⟩]

def f39r4 : List AInstr := [
    ⟨(some 5), none, .alloc [.int .u8 0, .int .u8 0, .int .u8 0, .int .u8 0, .int .u8 0, .int .u8 0, .int .u8 0, .int .u8 0, .int .u8 0, .int .u8 0, .int .u8 0, .int .u8 0, .int .u8 0, .int .u8 0, .int .u8 0, .int .u8 0, .int .u8 0, .int .u8 0, .int .u8 0, .int .u8 0, .int .u8 0, .int .u8 0, .int .u8 0, .int .u8 0]⟩]

def f39r5 : List AInstr := [
    ⟨(some 20), none, .mov (.tmp 0)⟩,
    ⟨(some 21), none, .conv .u64 (.tmp 20)⟩,
    ⟨(some 6), none, .mov (.tmp 21)⟩]

def f39r6 : List AInstr := [
    ⟨(some 22), none, .mov (.tmp 0)⟩,
    ⟨(some 23), none, .ibin .lss (.tmp 22) (.const (.int .i64 0))⟩]

def f39r7 : List AInstr := [
    ⟨(some 24), none, .mov (.tmp 6)⟩,
    ⟨(some 25), none, .un .neg (.tmp 24)⟩,
    ⟨(some 6), none, .mov (.tmp 25)⟩]

def f39r8 : List AInstr := [
    ⟨(some 26), none, .mov (.tmp 6)⟩,
    ⟨(some 27), none, .callF 52 [.tmp 26]⟩,
    ⟨(some 7), none, .mov (.tmp 27)⟩]

def f39r9 : List AInstr := [
    ⟨(some 28), none, .mov (.tmp 7)⟩,
    ⟨(some 29), none, .ibin .add (.const (.int .i64 1)) (.tmp 28)⟩,
    ⟨(some 30), none, .sliceA 1 24 (.tmp 5) (some (.const (.int .i64 1))) (some (.tmp 29))⟩,
    ⟨(some 31), none, .mov (.tmp 6)⟩,
    ⟨(some 32), none, .callF 53 [.tmp 30, .tmp 31]⟩]

def f39r10 : List AInstr := [
    ⟨(some 33), none, .mov (.tmp 0)⟩,
    ⟨(some 34), none, .ibin .lss (.tmp 33) (.const (.int .i64 0))⟩]

def f39r11 : List AInstr := [
    ⟨(some 35), none, .indexArr 1 24 (.tmp 5) (.const (.int .i64 0))⟩,
    ⟨none, none, .store 1 (.tmp 35) (.const (.int .u8 45))⟩]

def f39r12 : List AInstr := [
    ⟨(some 36), none, .mov (.tmp 7)⟩,
    ⟨(some 37), none, .ibin .add (.const (.int .i64 1)) (.tmp 36)⟩,
    ⟨(some 38), none, .sliceA 1 24 (.tmp 5) none (some (.tmp 37))⟩,
    ⟨(some 39), none, .bad⟩,
    ⟨(some 4), none, .mov (.tmp 39)⟩]

def f39r13 : List AInstr := [
    ⟨(some 40), none, .mov (.tmp 7)⟩,
    ⟨(some 41), none, .ibin .add (.const (.int .i64 1)) (.tmp 40)⟩,
    ⟨(some 42), none, .sliceA 1 24 (.tmp 5) (some (.const (.int .i64 1))) (some (.tmp 41))⟩,
    ⟨(some 43), none, .bad⟩,
    ⟨(some 4), none, .mov (.tmp 43)⟩]

def f39r14 : List AInstr := [
    ⟨(some 45), none, .mov (.tmp 0)⟩,
    ⟨(some 46), none, .conv .u64 (.tmp 45)⟩,
    ⟨(some 47), none, .mov (.tmp 1)⟩,
    ⟨(some 48), none, .mov (.tmp 0)⟩,
    ⟨(some 49), none, .ibin .lss (.tmp 48) (.const (.int .i64 0))⟩,
    ⟨(some 50), none, .callF 54 [.const (.slice none 0 0), .tmp 46, .tmp 47, .tmp 49, .const (.bool false)]⟩,
    ⟨(some 44), none, .mov (.tmp 50)⟩,
    ⟨(some 51), none, .extract 0 (.tmp 44)⟩,
    ⟨(some 52), none, .extract 1 (.tmp 44)⟩,
    ⟨(some 8), none, .mov (.tmp 51)⟩,
    ⟨(some 9), none, .mov (.tmp 52)⟩]

def f39r15 : List AInstr := [
    ⟨(some 53), none, .mov (.tmp 9)⟩,
    ⟨(some 4), none, .mov (.tmp 53)⟩]

def f39b : ACode := (.seq (.ops f39r0)
  (.keep [0, 1] (.seq (.seq (.ops f39r1)
  (.keep [0, 1, 11] (.cond (.tmp 11) (.keep [0] (.seq (.seq (.ops f39r2)
  (.keep [0, 17] (.cond (.tmp 17) (.keep [0] (.seq (.ops f39r3)
  (.keep [4] .ret))) .skip)))
  (.keep [0] (.seq (.ops f39r4)
  (.keep [0, 5] (.seq (.ops f39r5)
  (.keep [0, 5, 6] (.seq (.seq (.ops f39r6)
  (.keep [0, 5, 6, 23] (.cond (.tmp 23) (.keep [0, 5, 6] (.ops f39r7)) .skip)))
  (.keep [0, 5, 6] (.seq (.ops f39r8)
  (.keep [0, 5, 6, 7] (.seq (.ops f39r9)
  (.keep [0, 5, 7] (.seq (.seq (.ops f39r10)
  (.keep [5, 7, 34] (.cond (.tmp 34) (.keep [5, 7] (.seq (.ops f39r11)
  (.keep [5, 7] (.seq (.ops f39r12)
  (.keep [4] .ret))))) .skip)))
  (.keep [5, 7] (.seq (.ops f39r13)
  (.keep [4] .ret))))))))))))))))) .skip)))
  (.keep [0, 1] (.seq (.ops f39r14)
  (.keep [9] (.seq (.ops f39r15)
  (.keep [4] .ret))))))))

def f39 : AFn := ⟨54, [.tmp 4], f39b⟩

theorem f39_ok : compFn Tryd.prog 39 = some f39.strip := by kernel_rfl

/- function 40: internal/stringslite.IndexByte; parameters 2; operations that are not compiled: 0 -/
def f40r0 : List AInstr := [
    ⟨(some 4), none, .mov (.const (.int .i64 0))⟩]

def f40r1 : List AInstr := [
    ⟨(some 5), none, .mov (.tmp 0)⟩,
    ⟨(some 6), none, .mov (.tmp 1)⟩,
    ⟨(some 7), none, .callF 55 [.tmp 5, .tmp 6]⟩,
    ⟨(some 4), none, .mov (.tmp 7)⟩]

def f40b : ACode := (.seq (.ops f40r0)
  (.keep [0, 1] (.seq (.ops f40r1)
  (.keep [4] .ret))))

def f40 : AFn := ⟨8, [.tmp 4], f40b⟩

theorem f40_ok : compFn Tryd.prog 40 = some f40.strip := by kernel_rfl

/- function 42: internal/bytealg.Cutover; parameters 1; operations that are not compiled: 0 -/
def f42r0 : List AInstr := [
    ⟨(some 2), none, .mov (.const (.int .i64 0))⟩]

def f42r1 : List AInstr := [
    ⟨(some 3), none, .mov (.tmp 0)⟩,
    ⟨(some 4), none, .ibin .add (.tmp 3) (.const (.int .i64 16))⟩,
    ⟨(some 5), none, .ibin .quo (.tmp 4) (.const (.int .i64 8))⟩,
    ⟨(some 2), none, .mov (.tmp 5)⟩]

def f42b : ACode := (.seq (.ops f42r0)
  (.keep [0] (.seq (.ops f42r1)
  (.keep [2] .ret))))

def f42 : AFn := ⟨6, [.tmp 2], f42b⟩

theorem f42_ok : compFn Tryd.prog 42 = some f42.strip := by kernel_rfl

/- function 43: internal/bytealg.IndexRabinKarp[string]; parameters 2; operations that are not compiled: 2 -/
def f43r0 : List AInstr := [
    ⟨(some 4), none, .mov (.const (.int .i64 0))⟩]

def f43r1 : List AInstr := [
    ⟨(some 12), none, .mov (.tmp 1)⟩,
    ⟨(some 13), none, .callF 56 [.tmp 12]⟩,
    ⟨(some 11), none, .mov (.tmp 13)⟩,
    ⟨(some 14), none, .extract 0 (.tmp 11)⟩,
    ⟨(some 15), none, .extract 1 (.tmp 11)⟩,
    ⟨(some 5), none, .mov (.tmp 14)⟩,
    ⟨(some 6), none, .mov (.tmp 15)⟩]

def f43r2 : List AInstr := [
    ⟨(some 16), none, .mov (.tmp 1)⟩,
    ⟨(some 17), none, .str .len [.tmp 16]⟩,
    ⟨(some 7), none, .mov (.tmp 17)⟩]

def f43r3 : List AInstr := [
    ⟨(some 8), none, .mov (.const (.int .u32 0))⟩]

def f43r4 : List AInstr := [
    ⟨(some 9), none, .mov (.const (.int .i64 0))⟩]

def f43r5 : List AInstr := [
    ⟨(some 18), none, .mov (.tmp 9)⟩,
    ⟨(some 19), none, .mov (.tmp 7)⟩,
    ⟨(some 20), none, .ibin .lss (.tmp 18) (.tmp 19)⟩]

def f43r6 : List AInstr := [
    ⟨(some 23), none, .mov (.tmp 8)⟩,
    ⟨(some 24), none, .ibin .mul (.tmp 23) (.const (.int .u32 16777619))⟩,
    ⟨(some 25), none, .mov (.tmp 0)⟩,
    ⟨(some 26), none, .mov (.tmp 9)⟩,
    ⟨(some 27), none, .indexStr (.tmp 25) (.tmp 26)⟩,
    ⟨(some 28), none, .conv .u32 (.tmp 27)⟩,
    ⟨(some 29), none, .ibin .add (.tmp 24) (.tmp 28)⟩,
    ⟨(some 8), none, .mov (.tmp 29)⟩]

def f43r7 : List AInstr := [
    ⟨(some 21), none, .mov (.tmp 9)⟩,
    ⟨(some 22), none, .ibin .add (.tmp 21) (.const (.int .i64 1))⟩,
    ⟨(some 9), none, .mov (.tmp 22)⟩]

/-- live: [0, 1, 5, 6, 7, 8, 9] -/
def f43l0 : ACode := (.seq (.seq (.ops f43r5)
  (.keep [0, 1, 5, 6, 7, 8, 9, 20] (.cond (.tmp 20) .skip (.exit 0))))
  (.keep [0, 1, 5, 6, 7, 8, 9] (.seq (.block 1 (.ops f43r6))
  (.keep [0, 1, 5, 6, 7, 8, 9] (.ops f43r7)))))

def f43r9 : List AInstr := [
    ⟨(some 30), none, .mov (.tmp 8)⟩,
    ⟨(some 31), none, .mov (.tmp 5)⟩,
    ⟨(some 32), none, .ibin .eql (.tmp 30) (.tmp 31)⟩,
    ⟨(some 33), none, .mov (.tmp 32)⟩,
    ⟨(some 34), (some (33, true)), .mov (.tmp 0)⟩,
    ⟨(some 35), (some (33, true)), .mov (.tmp 7)⟩,
    ⟨(some 36), (some (33, true)), .bad⟩,
    ⟨(some 37), (some (33, true)), .mov (.tmp 1)⟩,
    ⟨(some 38), (some (33, true)), .str (.cmp false) [.tmp 36, .tmp 37]⟩,
    ⟨(some 39), none, .pick (.tmp 33) (.tmp 38) (.const (.bool false))⟩]

def f43r10 : List AInstr := [
    ⟨(some 4), none, .mov (.const (.int .i64 0))⟩]

def f43r11 : List AInstr := [
    ⟨(some 40), none, .mov (.tmp 7)⟩,
    ⟨(some 10), none, .mov (.tmp 40)⟩]

def f43r12 : List AInstr := [
    ⟨(some 41), none, .mov (.tmp 10)⟩,
    ⟨(some 42), none, .mov (.tmp 0)⟩,
    ⟨(some 43), none, .str .len [.tmp 42]⟩,
    ⟨(some 44), none, .ibin .lss (.tmp 41) (.tmp 43)⟩]

def f43r13 : List AInstr := [
    ⟨(some 45), none, .mov (.tmp 8)⟩,
    ⟨(some 46), none, .ibin .mul (.tmp 45) (.const (.int .u32 16777619))⟩,
    ⟨(some 8), none, .mov (.tmp 46)⟩]

def f43r14 : List AInstr := [
    ⟨(some 47), none, .mov (.tmp 8)⟩,
    ⟨(some 48), none, .mov (.tmp 0)⟩,
    ⟨(some 49), none, .mov (.tmp 10)⟩,
    ⟨(some 50), none, .indexStr (.tmp 48) (.tmp 49)⟩,
    ⟨(some 51), none, .conv .u32 (.tmp 50)⟩,
    ⟨(some 52), none, .ibin .add (.tmp 47) (.tmp 51)⟩,
    ⟨(some 8), none, .mov (.tmp 52)⟩]

def f43r15 : List AInstr := [
    ⟨(some 53), none, .mov (.tmp 8)⟩,
    ⟨(some 54), none, .mov (.tmp 6)⟩,
    ⟨(some 55), none, .mov (.tmp 0)⟩,
    ⟨(some 56), none, .mov (.tmp 10)⟩,
    ⟨(some 57), none, .mov (.tmp 7)⟩,
    ⟨(some 58), none, .ibin .sub (.tmp 56) (.tmp 57)⟩,
    ⟨(some 59), none, .indexStr (.tmp 55) (.tmp 58)⟩,
    ⟨(some 60), none, .conv .u32 (.tmp 59)⟩,
    ⟨(some 61), none, .ibin .mul (.tmp 54) (.tmp 60)⟩,
    ⟨(some 62), none, .ibin .sub (.tmp 53) (.tmp 61)⟩,
    ⟨(some 8), none, .mov (.tmp 62)⟩]

def f43r16 : List AInstr := [
    ⟨(some 63), none, .mov (.tmp 10)⟩,
    ⟨(some 64), none, .ibin .add (.tmp 63) (.const (.int .i64 1))⟩,
    ⟨(some 10), none, .mov (.tmp 64)⟩]

def f43r17 : List AInstr := [
    ⟨(some 65), none, .mov (.tmp 8)⟩,
    ⟨(some 66), none, .mov (.tmp 5)⟩,
    ⟨(some 67), none, .ibin .eql (.tmp 65) (.tmp 66)⟩,
    ⟨(some 68), none, .mov (.tmp 67)⟩,
    ⟨(some 69), (some (68, true)), .mov (.tmp 0)⟩,
    ⟨(some 70), (some (68, true)), .mov (.tmp 10)⟩,
    ⟨(some 71), (some (68, true)), .mov (.tmp 7)⟩,
    ⟨(some 72), (some (68, true)), .ibin .sub (.tmp 70) (.tmp 71)⟩,
    ⟨(some 73), (some (68, true)), .mov (.tmp 10)⟩,
    ⟨(some 74), (some (68, true)), .bad⟩,
    ⟨(some 75), (some (68, true)), .mov (.tmp 1)⟩,
    ⟨(some 76), (some (68, true)), .str (.cmp false) [.tmp 74, .tmp 75]⟩,
    ⟨(some 77), none, .pick (.tmp 68) (.tmp 76) (.const (.bool false))⟩]

def f43r18 : List AInstr := [
    ⟨(some 78), none, .mov (.tmp 10)⟩,
    ⟨(some 79), none, .mov (.tmp 7)⟩,
    ⟨(some 80), none, .ibin .sub (.tmp 78) (.tmp 79)⟩,
    ⟨(some 4), none, .mov (.tmp 80)⟩]

/-- live: [0, 1, 5, 6, 7, 8, 10] -/
def f43l1 : ACode := (.seq (.seq (.ops f43r12)
  (.keep [0, 1, 5, 6, 7, 8, 10, 44] (.cond (.tmp 44) .skip (.exit 2))))
  (.keep [0, 1, 5, 6, 7, 8, 10] (.block 3 (.seq (.ops f43r13)
  (.keep [0, 1, 5, 6, 7, 8, 10] (.seq (.ops f43r14)
  (.keep [0, 1, 5, 6, 7, 8, 10] (.seq (.ops f43r15)
  (.keep [0, 1, 5, 6, 7, 8, 10] (.seq (.ops f43r16)
  (.keep [0, 1, 5, 6, 7, 8, 10] (.seq (.ops f43r17)
  (.keep [0, 1, 5, 6, 7, 8, 10, 77] (.cond (.tmp 77) (.keep [7, 10] (.seq (.ops f43r18)
  (.keep [4] .ret))) .skip))))))))))))))

def f43r20 : List AInstr := [
    ⟨(some 4), none, .mov (.const (.int .i64 (-1)))⟩]

def f43b : ACode := (.seq (.ops f43r0)
  (.keep [0, 1] (.seq (.ops f43r1)
  (.keep [0, 1, 5, 6] (.seq (.ops f43r2)
  (.keep [0, 1, 5, 6, 7] (.seq (.ops f43r3)
  (.keep [0, 1, 5, 6, 7, 8] (.seq (.seq (.ops f43r4)
  (.keep [0, 1, 5, 6, 7, 8, 9] (.block 0 (.loop f43l0))))
  (.keep [0, 1, 5, 6, 7, 8] (.seq (.seq (.ops f43r9)
  (.keep [0, 1, 5, 6, 7, 8, 39] (.cond (.tmp 39) (.keep [] (.seq (.ops f43r10)
  (.keep [4] .ret))) .skip)))
  (.keep [0, 1, 5, 6, 7, 8] (.seq (.seq (.ops f43r11)
  (.keep [0, 1, 5, 6, 7, 8, 10] (.block 2 (.loop f43l1))))
  (.keep [] (.seq (.ops f43r20)
  (.keep [4] .ret))))))))))))))))

def f43 : AFn := ⟨81, [.tmp 4], f43b⟩

theorem f43_ok : compFn Tryd.prog 43 = some f43.strip := by kernel_rfl

/- function 45: strings.genSplit; parameters 4; operations that are not compiled: 2 -/
def f45r0 : List AInstr := [
    ⟨(some 8), none, .mov (.const (.slice none 0 0))⟩]

def f45r1 : List AInstr := [
    ⟨(some 12), none, .mov (.tmp 3)⟩,
    ⟨(some 13), none, .ibin .eql (.tmp 12) (.const (.int .i64 0))⟩]

def f45r2 : List AInstr := [
    ⟨(some 8), none, .mov (.const (.slice none 0 0))⟩]

def f45r3 : List AInstr := [
    ⟨(some 14), none, .mov (.tmp 1)⟩,
    ⟨(some 15), none, .str (.cmp false) [.tmp 14, .const (.string ⟨#[]⟩)]⟩]

def f45r4 : List AInstr := [
    ⟨(some 16), none, .mov (.tmp 0)⟩,
    ⟨(some 17), none, .mov (.tmp 3)⟩,
    ⟨(some 18), none, .callF 57 [.tmp 16, .tmp 17]⟩,
    ⟨(some 8), none, .mov (.tmp 18)⟩]

def f45r5 : List AInstr := [
    ⟨(some 19), none, .mov (.tmp 3)⟩,
    ⟨(some 20), none, .ibin .lss (.tmp 19) (.const (.int .i64 0))⟩]

def f45r6 : List AInstr := [
    ⟨(some 21), none, .mov (.tmp 0)⟩,
    ⟨(some 22), none, .mov (.tmp 1)⟩,
    ⟨(some 23), none, .callF 7 [.tmp 21, .tmp 22]⟩,
    ⟨(some 24), none, .ibin .add (.tmp 23) (.const (.int .i64 1))⟩,
    ⟨(some 3), none, .mov (.tmp 24)⟩]

def f45r7 : List AInstr := [
    ⟨(some 25), none, .mov (.tmp 3)⟩,
    ⟨(some 26), none, .mov (.tmp 0)⟩,
    ⟨(some 27), none, .str .len [.tmp 26]⟩,
    ⟨(some 28), none, .ibin .add (.tmp 27) (.const (.int .i64 1))⟩,
    ⟨(some 29), none, .minmax false [.tmp 25, .tmp 28]⟩,
    ⟨(some 3), none, .mov (.tmp 29)⟩]

def f45r8 : List AInstr := [
    ⟨(some 30), none, .mov (.tmp 3)⟩,
    ⟨(some 31), none, .makeSlice 1 16 [.string ⟨#[]⟩] (.tmp 30) (.tmp 30)⟩,
    ⟨(some 9), none, .mov (.tmp 31)⟩]

def f45r9 : List AInstr := [
    ⟨(some 32), none, .mov (.tmp 3)⟩,
    ⟨(some 33), none, .ibin .sub (.tmp 32) (.const (.int .i64 1))⟩,
    ⟨(some 3), none, .mov (.tmp 33)⟩]

def f45r10 : List AInstr := [
    ⟨(some 10), none, .mov (.const (.int .i64 0))⟩]

def f45r11 : List AInstr := [
    ⟨(some 34), none, .mov (.tmp 10)⟩,
    ⟨(some 35), none, .mov (.tmp 3)⟩,
    ⟨(some 36), none, .ibin .lss (.tmp 34) (.tmp 35)⟩]

def f45r12 : List AInstr := [
    ⟨(some 37), none, .mov (.tmp 0)⟩,
    ⟨(some 38), none, .mov (.tmp 1)⟩,
    ⟨(some 39), none, .callF 16 [.tmp 37, .tmp 38]⟩,
    ⟨(some 11), none, .mov (.tmp 39)⟩]

def f45r13 : List AInstr := [
    ⟨(some 40), none, .mov (.tmp 11)⟩,
    ⟨(some 41), none, .ibin .lss (.tmp 40) (.const (.int .i64 0))⟩]

def f45r14 : List AInstr := [
    ⟨(some 42), none, .mov (.tmp 9)⟩,
    ⟨(some 43), none, .mov (.tmp 10)⟩,
    ⟨(some 44), none, .mov (.tmp 0)⟩,
    ⟨(some 45), none, .mov (.tmp 11)⟩,
    ⟨(some 46), none, .mov (.tmp 2)⟩,
    ⟨(some 47), none, .ibin .add (.tmp 45) (.tmp 46)⟩,
    ⟨(some 48), none, .bad⟩,
    ⟨(some 49), none, .indexAddr 1 (.tmp 42) (.tmp 43)⟩,
    ⟨none, none, .store 1 (.tmp 49) (.tmp 48)⟩]

def f45r15 : List AInstr := [
    ⟨(some 50), none, .mov (.tmp 0)⟩,
    ⟨(some 51), none, .mov (.tmp 11)⟩,
    ⟨(some 52), none, .mov (.tmp 1)⟩,
    ⟨(some 53), none, .str .len [.tmp 52]⟩,
    ⟨(some 54), none, .ibin .add (.tmp 51) (.tmp 53)⟩,
    ⟨(some 55), none, .bad⟩,
    ⟨(some 0), none, .mov (.tmp 55)⟩]

def f45r16 : List AInstr := [
    ⟨(some 56), none, .mov (.tmp 10)⟩,
    ⟨(some 57), none, .ibin .add (.tmp 56) (.const (.int .i64 1))⟩,
    ⟨(some 10), none, .mov (.tmp 57)⟩]

/-- live: [0, 1, 2, 3, 9, 10] -/
def f45l0 : ACode := (.seq (.seq (.ops f45r11)
  (.keep [0, 1, 2, 3, 9, 10, 36] (.cond (.tmp 36) .skip (.exit 0))))
  (.keep [0, 1, 2, 3, 9, 10] (.block 1 (.seq (.ops f45r12)
  (.keep [0, 1, 2, 3, 9, 10, 11] (.seq (.seq (.ops f45r13)
  (.keep [0, 1, 2, 3, 9, 10, 11, 41] (.cond (.tmp 41) (.exit 0) .skip)))
  (.keep [0, 1, 2, 3, 9, 10, 11] (.seq (.ops f45r14)
  (.keep [0, 1, 2, 3, 9, 10, 11] (.seq (.ops f45r15)
  (.keep [0, 1, 2, 3, 9, 10] (.ops f45r16))))))))))))

def f45r18 : List AInstr := [
    ⟨(some 58), none, .mov (.tmp 9)⟩,
    ⟨(some 59), none, .mov (.tmp 10)⟩,
    ⟨(some 60), none, .mov (.tmp 0)⟩,
    ⟨(some 61), none, .indexAddr 1 (.tmp 58) (.tmp 59)⟩,
    ⟨none, none, .store 1 (.tmp 61) (.tmp 60)⟩]

def f45r19 : List AInstr := [
    ⟨(some 62), none, .mov (.tmp 9)⟩,
    ⟨(some 63), none, .mov (.tmp 10)⟩,
    ⟨(some 64), none, .ibin .add (.tmp 63) (.const (.int .i64 1))⟩,
    ⟨(some 65), none, .slice 1 (.tmp 62) none (some (.tmp 64)) none⟩,
    ⟨(some 8), none, .mov (.tmp 65)⟩]

def f45b : ACode := (.seq (.ops f45r0)
  (.keep [0, 1, 2, 3] (.seq (.seq (.ops f45r1)
  (.keep [0, 1, 2, 3, 13] (.cond (.tmp 13) (.keep [] (.seq (.ops f45r2)
  (.keep [8] .ret))) .skip)))
  (.keep [0, 1, 2, 3] (.seq (.seq (.ops f45r3)
  (.keep [0, 1, 2, 3, 15] (.cond (.tmp 15) (.keep [0, 3] (.seq (.ops f45r4)
  (.keep [8] .ret))) .skip)))
  (.keep [0, 1, 2, 3] (.seq (.seq (.ops f45r5)
  (.keep [0, 1, 2, 3, 20] (.cond (.tmp 20) (.keep [0, 1, 2] (.ops f45r6)) .skip)))
  (.keep [0, 1, 2, 3] (.seq (.ops f45r7)
  (.keep [0, 1, 2, 3] (.seq (.ops f45r8)
  (.keep [0, 1, 2, 3, 9] (.seq (.ops f45r9)
  (.keep [0, 1, 2, 3, 9] (.seq (.ops f45r10)
  (.keep [0, 1, 2, 3, 9, 10] (.seq (.block 0 (.loop f45l0))
  (.keep [0, 9, 10] (.seq (.ops f45r18)
  (.keep [9, 10] (.seq (.ops f45r19)
  (.keep [8] .ret))))))))))))))))))))))

def f45 : AFn := ⟨66, [.tmp 8], f45b⟩

theorem f45_ok : compFn Tryd.prog 45 = some f45.strip := by kernel_rfl

/- function 46: strconv.Atoi; parameters 1; operations that are not compiled: 0 -/
def f46r0 : List AInstr := [
    ⟨(some 2), none, .mov (.const (.int .i64 0))⟩,
    ⟨(some 3), none, .mov (.const (.nilIface))⟩]

def f46r1 : List AInstr := [
    ⟨(some 7), none, .mov (.tmp 0)⟩,
    ⟨(some 8), none, .callF 58 [.tmp 7]⟩,
    ⟨(some 6), none, .mov (.tmp 8)⟩,
    ⟨(some 9), none, .extract 0 (.tmp 6)⟩,
    ⟨(some 10), none, .extract 1 (.tmp 6)⟩,
    ⟨(some 4), none, .mov (.tmp 9)⟩,
    ⟨(some 5), none, .mov (.tmp 10)⟩]

def f46r2 : List AInstr := [
    ⟨(some 11), none, .mov (.tmp 5)⟩,
    ⟨(some 12), none, .str (.isNil true) [.tmp 11]⟩]

def f46r3 : List AInstr := [
    ⟨(some 13), none, .mov (.tmp 4)⟩,
    ⟨(some 14), none, .mov (.tmp 0)⟩,
    ⟨(some 15), none, .mov (.tmp 5)⟩,
    ⟨(some 16), none, .callF 59 [.const (.string ⟨#[65, 116, 111, 105]⟩), .tmp 14, .const (.int .i64 0), .const (.int .i64 0), .tmp 15]⟩,
    ⟨(some 2), none, .mov (.tmp 13)⟩,
    ⟨(some 3), none, .mov (.tmp 16)⟩]

def f46r4 : List AInstr := [
    ⟨(some 17), none, .mov (.tmp 4)⟩,
    ⟨(some 2), none, .mov (.tmp 17)⟩,
    ⟨(some 3), none, .mov (.const (.nilIface))⟩]

def f46b : ACode := (.seq (.ops f46r0)
  (.keep [0] (.seq (.ops f46r1)
  (.keep [0, 4, 5] (.seq (.seq (.ops f46r2)
  (.keep [0, 4, 5, 12] (.cond (.tmp 12) (.keep [0, 4, 5] (.seq (.ops f46r3)
  (.keep [2, 3] .ret))) .skip)))
  (.keep [4] (.seq (.ops f46r4)
  (.keep [2, 3] .ret))))))))

def f46 : AFn := ⟨18, [.tmp 2, .tmp 3], f46b⟩

theorem f46_ok : compFn Tryd.prog 46 = some f46.strip := by kernel_rfl

/- function 47: weirhouse/ring.Step$1; parameters 1; operations that are not compiled: 0 -/
def f47r0 : List AInstr := [
    ⟨(some 2), none, .alloc [.slice none 0 0, .int .i64 0, .int .i64 0, .int .i64 0]⟩,
    ⟨(some 3), none, .mov (.const (.int .i64 0))⟩,
    ⟨(some 4), none, .mov (.const (.int .i64 0))⟩]

def f47r1 : List AInstr := [
    ⟨(some 5), none, .build [.slice none 0 0, .int .i64 0, .int .i64 0, .int .i64 0] []⟩,
    ⟨(some 6), none, .mov (.tmp 0)⟩,
    ⟨none, none, .store 4 (.tmp 2) (.tmp 5)⟩,
    ⟨(some 3), none, .mov (.const (.int .i64 0))⟩,
    ⟨(some 4), none, .mov (.tmp 6)⟩]

def f47b : ACode := (.seq (.ops f47r0)
  (.keep [0, 2] (.seq (.ops f47r1)
  (.keep [2, 3, 4] .ret))))

def f47 : AFn := ⟨7, [.cell 2 (some 4), .tmp 3, .tmp 4], f47b⟩

theorem f47_ok : compFn Tryd.prog 47 = some f47.strip := by kernel_rfl

/- function 48: weirhouse/ring.Right; parameters 1; operations that are not compiled: 0 -/
def f48r0 : List AInstr := [
    ⟨(some 1), none, .box (.tmp 0)⟩,
    ⟨(some 2), none, .mov (.const (.bool false))⟩]

def f48r1 : List AInstr := [
    ⟨(some 5), none, .fieldAddr 1 (.tmp 1)⟩,
    ⟨(some 6), none, .load none (.tmp 5)⟩,
    ⟨(some 7), none, .ibin .lss (.tmp 6) (.const (.int .i64 0))⟩,
    ⟨(some 8), none, .mov (.tmp 7)⟩,
    ⟨(some 9), (some (8, false)), .fieldAddr 1 (.tmp 1)⟩,
    ⟨(some 10), (some (8, false)), .load none (.tmp 9)⟩,
    ⟨(some 11), (some (8, false)), .ibin .gtr (.tmp 10) (.const (.int .i64 400))⟩,
    ⟨(some 12), none, .pick (.tmp 8) (.const (.bool true)) (.tmp 11)⟩,
    ⟨(some 13), none, .mov (.tmp 12)⟩,
    ⟨(some 14), (some (13, false)), .fieldAddr 2 (.tmp 1)⟩,
    ⟨(some 15), (some (13, false)), .load none (.tmp 14)⟩,
    ⟨(some 16), (some (13, false)), .ibin .lss (.tmp 15) (.const (.int .i64 0))⟩,
    ⟨(some 17), none, .pick (.tmp 13) (.const (.bool true)) (.tmp 16)⟩,
    ⟨(some 18), none, .mov (.tmp 17)⟩,
    ⟨(some 19), (some (18, false)), .fieldAddr 2 (.tmp 1)⟩,
    ⟨(some 20), (some (18, false)), .load none (.tmp 19)⟩,
    ⟨(some 21), (some (18, false)), .ibin .gtr (.tmp 20) (.const (.int .i64 1073741824))⟩,
    ⟨(some 22), none, .pick (.tmp 18) (.const (.bool true)) (.tmp 21)⟩,
    ⟨(some 23), none, .mov (.tmp 22)⟩,
    ⟨(some 24), (some (23, false)), .fieldAddr 3 (.tmp 1)⟩,
    ⟨(some 25), (some (23, false)), .load none (.tmp 24)⟩,
    ⟨(some 26), (some (23, false)), .ibin .lss (.tmp 25) (.const (.int .i64 0))⟩,
    ⟨(some 27), none, .pick (.tmp 23) (.const (.bool true)) (.tmp 26)⟩,
    ⟨(some 28), none, .mov (.tmp 27)⟩,
    ⟨(some 29), (some (28, false)), .fieldAddr 3 (.tmp 1)⟩,
    ⟨(some 30), (some (28, false)), .load none (.tmp 29)⟩,
    ⟨(some 31), (some (28, false)), .ibin .gtr (.tmp 30) (.const (.int .i64 1099511627776))⟩,
    ⟨(some 32), none, .pick (.tmp 28) (.const (.bool true)) (.tmp 31)⟩,
    ⟨(some 33), none, .mov (.tmp 32)⟩,
    ⟨(some 34), (some (33, false)), .fieldAddr 0 (.tmp 1)⟩,
    ⟨(some 35), (some (33, false)), .load none (.tmp 34)⟩,
    ⟨(some 36), (some (33, false)), .len (.tmp 35)⟩,
    ⟨(some 37), (some (33, false)), .fieldAddr 1 (.tmp 1)⟩,
    ⟨(some 38), (some (33, false)), .load none (.tmp 37)⟩,
    ⟨(some 39), (some (33, false)), .ibin .gtr (.tmp 36) (.tmp 38)⟩,
    ⟨(some 40), none, .pick (.tmp 33) (.const (.bool true)) (.tmp 39)⟩]

def f48r2 : List AInstr := [
    ⟨(some 2), none, .mov (.const (.bool false))⟩]

def f48r3 : List AInstr := [
    ⟨(some 41), none, .fieldAddr 0 (.tmp 1)⟩,
    ⟨(some 42), none, .load none (.tmp 41)⟩,
    ⟨(some 43), none, .len (.tmp 42)⟩,
    ⟨(some 44), none, .mov (.const (.int .i64 0))⟩]

def f48r4 : List AInstr := [
    ⟨(some 45), none, .ibin .lss (.tmp 44) (.tmp 43)⟩]

def f48r5 : List AInstr := [
    ⟨(some 46), none, .indexAddr 1 (.tmp 42) (.tmp 44)⟩,
    ⟨(some 47), none, .load none (.tmp 46)⟩,
    ⟨(some 4), none, .mov (.tmp 47)⟩]

def f48r6 : List AInstr := [
    ⟨(some 48), none, .mov (.tmp 4)⟩,
    ⟨(some 49), none, .ibin .lss (.tmp 48) (.const (.int .i64 1))⟩,
    ⟨(some 50), none, .mov (.tmp 49)⟩,
    ⟨(some 51), (some (50, false)), .mov (.tmp 4)⟩,
    ⟨(some 52), (some (50, false)), .ibin .gtr (.tmp 51) (.const (.int .i64 1500))⟩,
    ⟨(some 53), none, .pick (.tmp 50) (.const (.bool true)) (.tmp 52)⟩]

def f48r7 : List AInstr := [
    ⟨(some 2), none, .mov (.const (.bool false))⟩]

def f48r8 : List AInstr := [
    ⟨(some 54), none, .ibin .add (.tmp 44) (.const (.int .i64 1))⟩,
    ⟨(some 44), none, .mov (.tmp 54)⟩]

/-- live: [1, 42, 43, 44] -/
def f48l0 : ACode := (.seq (.ops f48r4)
  (.keep [1, 42, 43, 44, 45] (.seq (.cond (.tmp 45) .skip (.exit 0))
  (.keep [1, 42, 43, 44] (.seq (.block 1 (.seq (.ops f48r5)
  (.keep [1, 4, 42, 43, 44] (.seq (.ops f48r6)
  (.keep [1, 42, 43, 44, 53] (.cond (.tmp 53) (.keep [] (.seq (.ops f48r7)
  (.keep [2] .ret))) .skip))))))
  (.keep [1, 42, 43, 44] (.ops f48r8)))))))

def f48r10 : List AInstr := [
    ⟨(some 55), none, .fieldAddr 0 (.tmp 1)⟩,
    ⟨(some 56), none, .load none (.tmp 55)⟩,
    ⟨(some 58), none, .fieldAddr 2 (.tmp 1)⟩,
    ⟨(some 59), none, .load none (.tmp 58)⟩,
    ⟨(some 57), none, .callF 49 [.tmp 56]⟩,
    ⟨(some 60), none, .ibin .leq (.tmp 57) (.tmp 59)⟩,
    ⟨(some 2), none, .mov (.tmp 60)⟩]

def f48b : ACode := (.seq (.ops f48r0)
  (.keep [1] (.seq (.seq (.ops f48r1)
  (.keep [1, 40] (.cond (.tmp 40) (.keep [] (.seq (.ops f48r2)
  (.keep [2] .ret))) .skip)))
  (.keep [1] (.seq (.seq (.ops f48r3)
  (.keep [1, 42, 43, 44] (.block 0 (.loop f48l0))))
  (.keep [1] (.seq (.alt [(f48r10, [(0, 0, false), (0, 0, false), (0, 1, false), (0, 1, false), (0, 0, true), (1, 1, false), (1, 1, false)])])
  (.keep [2] .ret))))))))

def f48 : AFn := ⟨61, [.tmp 2], f48b⟩

theorem f48_ok : compFn Tryd.prog 48 = some f48.strip := by kernel_rfl

/- function 49: weirhouse/ring.sum; parameters 1; operations that are not compiled: 0 -/
def f49r0 : List AInstr := [
    ⟨(some 2), none, .mov (.const (.int .i64 0))⟩]

def f49r1 : List AInstr := [
    ⟨(some 3), none, .mov (.const (.int .i64 0))⟩]

def f49r2 : List AInstr := [
    ⟨(some 6), none, .mov (.tmp 0)⟩,
    ⟨(some 7), none, .len (.tmp 6)⟩,
    ⟨(some 8), none, .mov (.const (.int .i64 0))⟩]

def f49r3 : List AInstr := [
    ⟨(some 9), none, .ibin .lss (.tmp 8) (.tmp 7)⟩]

def f49r4 : List AInstr := [
    ⟨(some 10), none, .indexAddr 1 (.tmp 6) (.tmp 8)⟩,
    ⟨(some 11), none, .load none (.tmp 10)⟩,
    ⟨(some 5), none, .mov (.tmp 11)⟩]

def f49r5 : List AInstr := [
    ⟨(some 12), none, .mov (.tmp 3)⟩,
    ⟨(some 13), none, .mov (.tmp 5)⟩,
    ⟨(some 14), none, .ibin .add (.tmp 12) (.tmp 13)⟩,
    ⟨(some 3), none, .mov (.tmp 14)⟩]

def f49r6 : List AInstr := [
    ⟨(some 15), none, .ibin .add (.tmp 8) (.const (.int .i64 1))⟩,
    ⟨(some 8), none, .mov (.tmp 15)⟩]

/-- live: [3, 6, 7, 8] -/
def f49l0 : ACode := (.seq (.ops f49r3)
  (.keep [3, 6, 7, 8, 9] (.seq (.cond (.tmp 9) .skip (.exit 0))
  (.keep [3, 6, 7, 8] (.seq (.block 1 (.seq (.ops f49r4)
  (.keep [3, 5, 6, 7, 8] (.ops f49r5))))
  (.keep [3, 6, 7, 8] (.ops f49r6)))))))

def f49r8 : List AInstr := [
    ⟨(some 16), none, .mov (.tmp 3)⟩,
    ⟨(some 2), none, .mov (.tmp 16)⟩]

def f49b : ACode := (.seq (.ops f49r0)
  (.keep [0] (.seq (.ops f49r1)
  (.keep [0, 3] (.seq (.seq (.ops f49r2)
  (.keep [3, 6, 7, 8] (.block 0 (.loop f49l0))))
  (.keep [3] (.seq (.ops f49r8)
  (.keep [2] .ret))))))))

def f49 : AFn := ⟨17, [.tmp 2], f49b⟩

theorem f49_ok : compFn Tryd.prog 49 = some f49.strip := by kernel_rfl

/- function 50: weirhouse/bucket.Take; parameters 2; operations that are not compiled: 0 -/
def f50r0 : List AInstr := [
    ⟨(some 2), none, .box (.tmp 0)⟩,
    ⟨(some 3), none, .box (.tmp 1)⟩,
    ⟨(some 4), none, .alloc [.int .i64 0, .int .i64 0, .int .i64 0, .int .i64 0, .int .i64 0]⟩,
    ⟨(some 5), none, .mov (.const (.bool false))⟩,
    ⟨(some 6), none, .mov (.const (.int .i64 0))⟩]

def f50r1 : List AInstr := [
    ⟨(some 9), none, .load (some 5) (.tmp 2)⟩,
    ⟨(some 10), none, .fieldAddr 0 (.tmp 3)⟩,
    ⟨(some 11), none, .load none (.tmp 10)⟩,
    ⟨(some 12), none, .callF 37 [.tmp 9, .tmp 11]⟩,
    ⟨(some 8), none, .mov (.tmp 12)⟩,
    ⟨(some 13), none, .extract 0 (.tmp 8)⟩,
    ⟨(some 14), none, .extract 1 (.tmp 8)⟩,
    ⟨none, none, .store 5 (.tmp 2) (.tmp 13)⟩,
    ⟨(some 7), none, .mov (.tmp 14)⟩]

def f50r2 : List AInstr := [
    ⟨(some 16), none, .mov (.tmp 7)⟩,
    ⟨(some 17), none, .ibin .neq (.tmp 16) (.const (.int .i64 0))⟩,
    ⟨(some 15), none, .mov (.tmp 17)⟩]

def f50r3 : List AInstr := [
    ⟨(some 18), none, .build [.int .i64 0, .int .i64 0, .int .i64 0, .int .i64 0, .int .i64 0] []⟩,
    ⟨(some 19), none, .mov (.tmp 7)⟩,
    ⟨none, none, .store 5 (.tmp 4) (.tmp 18)⟩,
    ⟨(some 5), none, .mov (.const (.bool false))⟩,
    ⟨(some 6), none, .mov (.tmp 19)⟩]

def f50r4 : List AInstr := [
    ⟨(some 21), none, .fieldAddr 1 (.tmp 3)⟩,
    ⟨(some 22), none, .load none (.tmp 21)⟩,
    ⟨(some 23), none, .ibin .lss (.tmp 22) (.const (.int .i64 0))⟩,
    ⟨(some 24), none, .mov (.tmp 23)⟩,
    ⟨(some 25), (some (24, false)), .fieldAddr 1 (.tmp 3)⟩,
    ⟨(some 26), (some (24, false)), .load none (.tmp 25)⟩,
    ⟨(some 27), (some (24, false)), .ibin .gtr (.tmp 26) (.const (.int .i64 1048576))⟩,
    ⟨(some 28), none, .pick (.tmp 24) (.const (.bool true)) (.tmp 27)⟩,
    ⟨(some 20), none, .mov (.tmp 28)⟩]

def f50r5 : List AInstr := [
    ⟨(some 29), none, .build [.int .i64 0, .int .i64 0, .int .i64 0, .int .i64 0, .int .i64 0] []⟩,
    ⟨none, none, .store 5 (.tmp 4) (.tmp 29)⟩,
    ⟨(some 5), none, .mov (.const (.bool false))⟩,
    ⟨(some 6), none, .mov (.const (.int .i64 2))⟩]

def f50r6 : List AInstr := [
    ⟨(some 31), none, .fieldAddr 1 (.tmp 3)⟩,
    ⟨(some 32), none, .load none (.tmp 31)⟩,
    ⟨(some 33), none, .fieldAddr 1 (.tmp 2)⟩,
    ⟨(some 34), none, .load none (.tmp 33)⟩,
    ⟨(some 35), none, .ibin .mul (.tmp 32) (.tmp 34)⟩,
    ⟨(some 36), none, .fieldAddr 3 (.tmp 2)⟩,
    ⟨(some 37), none, .load none (.tmp 36)⟩,
    ⟨(some 38), none, .ibin .gtr (.tmp 35) (.tmp 37)⟩,
    ⟨(some 30), none, .mov (.tmp 38)⟩]

def f50r7 : List AInstr := [
    ⟨(some 39), none, .load (some 5) (.tmp 2)⟩,
    ⟨none, none, .store 5 (.tmp 4) (.tmp 39)⟩,
    ⟨(some 5), none, .mov (.const (.bool false))⟩,
    ⟨(some 6), none, .mov (.const (.int .i64 0))⟩]

def f50r8 : List AInstr := [
    ⟨(some 40), none, .fieldAddr 3 (.tmp 2)⟩,
    ⟨(some 41), none, .load none (.tmp 40)⟩,
    ⟨(some 42), none, .fieldAddr 1 (.tmp 3)⟩,
    ⟨(some 43), none, .load none (.tmp 42)⟩,
    ⟨(some 44), none, .fieldAddr 1 (.tmp 2)⟩,
    ⟨(some 45), none, .load none (.tmp 44)⟩,
    ⟨(some 46), none, .ibin .mul (.tmp 43) (.tmp 45)⟩,
    ⟨(some 47), none, .ibin .sub (.tmp 41) (.tmp 46)⟩,
    ⟨(some 48), none, .fieldAddr 3 (.tmp 2)⟩,
    ⟨none, none, .store 1 (.tmp 48) (.tmp 47)⟩]

def f50r9 : List AInstr := [
    ⟨(some 49), none, .load (some 5) (.tmp 2)⟩,
    ⟨none, none, .store 5 (.tmp 4) (.tmp 49)⟩,
    ⟨(some 5), none, .mov (.const (.bool true))⟩,
    ⟨(some 6), none, .mov (.const (.int .i64 0))⟩]

def f50b : ACode := (.seq (.ops f50r0)
  (.keep [2, 3, 4] (.seq (.ops f50r1)
  (.keep [2, 3, 4, 7] (.seq (.block 0 (.seq (.ops f50r2)
  (.keep [2, 3, 4, 7, 15] (.cond (.tmp 15) (.keep [4, 7] (.seq (.ops f50r3)
  (.keep [4, 5, 6] .ret))) (.keep [2, 3, 4] (.seq (.ops f50r4)
  (.keep [2, 3, 4, 20] (.cond (.tmp 20) (.keep [4] (.seq (.ops f50r5)
  (.keep [4, 5, 6] .ret))) (.keep [2, 3, 4] (.seq (.ops f50r6)
  (.keep [2, 3, 4, 30] (.cond (.tmp 30) (.keep [2, 4] (.seq (.ops f50r7)
  (.keep [4, 5, 6] .ret))) .skip))))))))))))
  (.keep [2, 3, 4] (.seq (.ops f50r8)
  (.keep [2, 4] (.seq (.ops f50r9)
  (.keep [4, 5, 6] .ret))))))))))

def f50 : AFn := ⟨50, [.cell 4 (some 5), .tmp 5, .tmp 6], f50b⟩

theorem f50_ok : compFn Tryd.prog 50 = some f50.strip := by kernel_rfl

/- function 51: internal/strconv.small; parameters 1; operations that are not compiled: 2 -/
def f51r0 : List AInstr := [
    ⟨(some 2), none, .mov (.const (.string ⟨#[]⟩))⟩]

def f51r1 : List AInstr := [
    ⟨(some 3), none, .mov (.tmp 0)⟩,
    ⟨(some 4), none, .ibin .lss (.tmp 3) (.const (.int .i64 10))⟩]

def f51r2 : List AInstr := [
    ⟨(some 5), none, .mov (.tmp 0)⟩,
    ⟨(some 6), none, .mov (.tmp 0)⟩,
    ⟨(some 7), none, .ibin .add (.tmp 6) (.const (.int .i64 1))⟩,
    ⟨(some 8), none, .bad⟩,
    ⟨(some 2), none, .mov (.tmp 8)⟩]

def f51r3 : List AInstr := [
    ⟨(some 9), none, .mov (.tmp 0)⟩,
    ⟨(some 10), none, .ibin .mul (.tmp 9) (.const (.int .i64 2))⟩,
    ⟨(some 11), none, .mov (.tmp 0)⟩,
    ⟨(some 12), none, .ibin .mul (.tmp 11) (.const (.int .i64 2))⟩,
    ⟨(some 13), none, .ibin .add (.tmp 12) (.const (.int .i64 2))⟩,
    ⟨(some 14), none, .bad⟩,
    ⟨(some 2), none, .mov (.tmp 14)⟩]

def f51b : ACode := (.seq (.ops f51r0)
  (.keep [0] (.seq (.seq (.ops f51r1)
  (.keep [0, 4] (.cond (.tmp 4) (.keep [0] (.seq (.ops f51r2)
  (.keep [2] .ret))) .skip)))
  (.keep [0] (.seq (.ops f51r3)
  (.keep [2] .ret))))))

def f51 : AFn := ⟨15, [.tmp 2], f51b⟩

theorem f51_ok : compFn Tryd.prog 51 = some f51.strip := by kernel_rfl

/- function 52: internal/strconv.numDigits; parameters 1; operations that are not compiled: 0 -/
def f52r0 : List AInstr := [
    ⟨(some 2), none, .mov (.const (.int .i64 0))⟩]

def f52r1 : List AInstr := [
    ⟨(some 4), none, .mov (.tmp 0)⟩,
    ⟨(some 5), none, .callF 61 [.tmp 4]⟩,
    ⟨(some 6), none, .callF 60 [.tmp 5]⟩,
    ⟨(some 3), none, .mov (.tmp 6)⟩]

def f52r2 : List AInstr := [
    ⟨(some 7), none, .mov (.tmp 3)⟩,
    ⟨(some 8), none, .mov (.tmp 0)⟩,
    ⟨(some 9), none, .mov (.tmp 3)⟩,
    ⟨(some 10), none, .indexArr 1 20 .bad (.tmp 9)⟩,
    ⟨(some 11), none, .load none (.tmp 10)⟩,
    ⟨(some 12), none, .ibin .geq (.tmp 8) (.tmp 11)⟩,
    ⟨(some 13), none, .callF 62 [.tmp 12]⟩,
    ⟨(some 14), none, .ibin .add (.tmp 7) (.tmp 13)⟩,
    ⟨(some 2), none, .mov (.tmp 14)⟩]

def f52b : ACode := (.seq (.ops f52r0)
  (.keep [0] (.seq (.ops f52r1)
  (.keep [0, 3] (.seq (.ops f52r2)
  (.keep [2] .ret))))))

def f52 : AFn := ⟨15, [.tmp 2], f52b⟩

theorem f52_ok : compFn Tryd.prog 52 = some f52.strip := by kernel_rfl

/- function 53: internal/strconv.formatBase10; parameters 2; operations that are not compiled: 0 -/
def f53r0 : List AInstr := [
    ⟨(some 17), none, .mov (.tmp 0)⟩,
    ⟨(some 18), none, .len (.tmp 17)⟩,
    ⟨(some 4), none, .mov (.tmp 18)⟩]

def f53r1 : List AInstr := [
    ⟨(some 19), none, .mov (.tmp 4)⟩,
    ⟨(some 20), none, .ibin .geq (.tmp 19) (.const (.int .i64 8))⟩]

def f53r2 : List AInstr := [
    ⟨(some 21), none, .mov (.tmp 1)⟩,
    ⟨(some 22), none, .ibin .rem (.tmp 21) (.const (.int .u64 100000000))⟩,
    ⟨(some 23), none, .conv .u32 (.tmp 22)⟩,
    ⟨(some 5), none, .mov (.tmp 23)⟩]

def f53r3 : List AInstr := [
    ⟨(some 24), none, .mov (.tmp 1)⟩,
    ⟨(some 25), none, .ibin .quo (.tmp 24) (.const (.int .u64 100000000))⟩,
    ⟨(some 1), none, .mov (.tmp 25)⟩]

def f53r4 : List AInstr := [
    ⟨(some 26), none, .mov (.tmp 5)⟩,
    ⟨(some 27), none, .ibin .quo (.tmp 26) (.const (.int .u32 10000))⟩,
    ⟨(some 28), none, .mov (.tmp 5)⟩,
    ⟨(some 29), none, .ibin .rem (.tmp 28) (.const (.int .u32 10000))⟩,
    ⟨(some 6), none, .mov (.tmp 27)⟩,
    ⟨(some 7), none, .mov (.tmp 29)⟩]

def f53r5 : List AInstr := [
    ⟨(some 30), none, .mov (.tmp 7)⟩,
    ⟨(some 31), none, .ibin .quo (.tmp 30) (.const (.int .u32 100))⟩,
    ⟨(some 32), none, .ibin .mul (.tmp 31) (.const (.int .u32 2))⟩,
    ⟨(some 33), none, .mov (.tmp 7)⟩,
    ⟨(some 34), none, .ibin .rem (.tmp 33) (.const (.int .u32 100))⟩,
    ⟨(some 35), none, .ibin .mul (.tmp 34) (.const (.int .u32 2))⟩,
    ⟨(some 8), none, .mov (.tmp 32)⟩,
    ⟨(some 9), none, .mov (.tmp 35)⟩]

def f53r6 : List AInstr := [
    ⟨(some 36), none, .mov (.tmp 6)⟩,
    ⟨(some 37), none, .ibin .quo (.tmp 36) (.const (.int .u32 100))⟩,
    ⟨(some 38), none, .ibin .mul (.tmp 37) (.const (.int .u32 2))⟩,
    ⟨(some 39), none, .mov (.tmp 6)⟩,
    ⟨(some 40), none, .ibin .rem (.tmp 39) (.const (.int .u32 100))⟩,
    ⟨(some 41), none, .ibin .mul (.tmp 40) (.const (.int .u32 2))⟩,
    ⟨(some 10), none, .mov (.tmp 38)⟩,
    ⟨(some 11), none, .mov (.tmp 41)⟩]

def f53r7s0 : ByteArray := ⟨#[48, 48, 48, 49, 48, 50, 48, 51, 48, 52, 48, 53, 48, 54, 48, 55, 48, 56, 48, 57, 49, 48, 49, 49, 49, 50, 49, 51, 49, 52, 49, 53, 49, 54, 49, 55, 49, 56, 49, 57, 50, 48, 50, 49, 50, 50, 50, 51, 50, 52, 50, 53, 50, 54, 50, 55, 50, 56, 50, 57, 51, 48, 51, 49, 51, 50, 51, 51, 51, 52, 51, 53, 51, 54, 51, 55, 51, 56, 51, 57, 52, 48, 52, 49, 52, 50, 52, 51, 52, 52, 52, 53, 52, 54, 52, 55, 52, 56, 52, 57, 53, 48, 53, 49, 53, 50, 53, 51, 53, 52, 53, 53, 53, 54, 53, 55, 53, 56, 53, 57, 54, 48, 54, 49, 54, 50, 54, 51, 54, 52, 54, 53, 54, 54, 54, 55, 54, 56, 54, 57, 55, 48, 55, 49, 55, 50, 55, 51, 55, 52, 55, 53, 55, 54, 55, 55, 55, 56, 55, 57, 56, 48, 56, 49, 56, 50, 56, 51, 56, 52, 56, 53, 56, 54, 56, 55, 56, 56, 56, 57, 57, 48, 57, 49, 57, 50, 57, 51, 57, 52, 57, 53, 57, 54, 57, 55, 57, 56, 57, 57]⟩

def f53r7s1 : ByteArray := ⟨#[48, 48, 48, 49, 48, 50, 48, 51, 48, 52, 48, 53, 48, 54, 48, 55, 48, 56, 48, 57, 49, 48, 49, 49, 49, 50, 49, 51, 49, 52, 49, 53, 49, 54, 49, 55, 49, 56, 49, 57, 50, 48, 50, 49, 50, 50, 50, 51, 50, 52, 50, 53, 50, 54, 50, 55, 50, 56, 50, 57, 51, 48, 51, 49, 51, 50, 51, 51, 51, 52, 51, 53, 51, 54, 51, 55, 51, 56, 51, 57, 52, 48, 52, 49, 52, 50, 52, 51, 52, 52, 52, 53, 52, 54, 52, 55, 52, 56, 52, 57, 53, 48, 53, 49, 53, 50, 53, 51, 53, 52, 53, 53, 53, 54, 53, 55, 53, 56, 53, 57, 54, 48, 54, 49, 54, 50, 54, 51, 54, 52, 54, 53, 54, 54, 54, 55, 54, 56, 54, 57, 55, 48, 55, 49, 55, 50, 55, 51, 55, 52, 55, 53, 55, 54, 55, 55, 55, 56, 55, 57, 56, 48, 56, 49, 56, 50, 56, 51, 56, 52, 56, 53, 56, 54, 56, 55, 56, 56, 56, 57, 57, 48, 57, 49, 57, 50, 57, 51, 57, 52, 57, 53, 57, 54, 57, 55, 57, 56, 57, 57]⟩

def f53r7 : List AInstr := [
    ⟨(some 42), none, .mov (.tmp 0)⟩,
    ⟨(some 43), none, .mov (.tmp 4)⟩,
    ⟨(some 44), none, .ibin .sub (.tmp 43) (.const (.int .i64 1))⟩,
    ⟨(some 45), none, .mov (.tmp 0)⟩,
    ⟨(some 46), none, .mov (.tmp 4)⟩,
    ⟨(some 47), none, .ibin .sub (.tmp 46) (.const (.int .i64 2))⟩,
    ⟨(some 48), none, .mov (.tmp 9)⟩,
    ⟨(some 49), none, .ibin .add (.tmp 48) (.const (.int .u32 1))⟩,
    ⟨(some 50), none, .indexStr (.const (.string f53r7s0)) (.tmp 49)⟩,
    ⟨(some 51), none, .mov (.tmp 9)⟩,
    ⟨(some 52), none, .indexStr (.const (.string f53r7s1)) (.tmp 51)⟩,
    ⟨(some 53), none, .indexAddr 1 (.tmp 42) (.tmp 44)⟩,
    ⟨none, none, .store 1 (.tmp 53) (.tmp 50)⟩,
    ⟨(some 54), none, .indexAddr 1 (.tmp 45) (.tmp 47)⟩,
    ⟨none, none, .store 1 (.tmp 54) (.tmp 52)⟩]

def f53r8s0 : ByteArray := ⟨#[48, 48, 48, 49, 48, 50, 48, 51, 48, 52, 48, 53, 48, 54, 48, 55, 48, 56, 48, 57, 49, 48, 49, 49, 49, 50, 49, 51, 49, 52, 49, 53, 49, 54, 49, 55, 49, 56, 49, 57, 50, 48, 50, 49, 50, 50, 50, 51, 50, 52, 50, 53, 50, 54, 50, 55, 50, 56, 50, 57, 51, 48, 51, 49, 51, 50, 51, 51, 51, 52, 51, 53, 51, 54, 51, 55, 51, 56, 51, 57, 52, 48, 52, 49, 52, 50, 52, 51, 52, 52, 52, 53, 52, 54, 52, 55, 52, 56, 52, 57, 53, 48, 53, 49, 53, 50, 53, 51, 53, 52, 53, 53, 53, 54, 53, 55, 53, 56, 53, 57, 54, 48, 54, 49, 54, 50, 54, 51, 54, 52, 54, 53, 54, 54, 54, 55, 54, 56, 54, 57, 55, 48, 55, 49, 55, 50, 55, 51, 55, 52, 55, 53, 55, 54, 55, 55, 55, 56, 55, 57, 56, 48, 56, 49, 56, 50, 56, 51, 56, 52, 56, 53, 56, 54, 56, 55, 56, 56, 56, 57, 57, 48, 57, 49, 57, 50, 57, 51, 57, 52, 57, 53, 57, 54, 57, 55, 57, 56, 57, 57]⟩

def f53r8s1 : ByteArray := ⟨#[48, 48, 48, 49, 48, 50, 48, 51, 48, 52, 48, 53, 48, 54, 48, 55, 48, 56, 48, 57, 49, 48, 49, 49, 49, 50, 49, 51, 49, 52, 49, 53, 49, 54, 49, 55, 49, 56, 49, 57, 50, 48, 50, 49, 50, 50, 50, 51, 50, 52, 50, 53, 50, 54, 50, 55, 50, 56, 50, 57, 51, 48, 51, 49, 51, 50, 51, 51, 51, 52, 51, 53, 51, 54, 51, 55, 51, 56, 51, 57, 52, 48, 52, 49, 52, 50, 52, 51, 52, 52, 52, 53, 52, 54, 52, 55, 52, 56, 52, 57, 53, 48, 53, 49, 53, 50, 53, 51, 53, 52, 53, 53, 53, 54, 53, 55, 53, 56, 53, 57, 54, 48, 54, 49, 54, 50, 54, 51, 54, 52, 54, 53, 54, 54, 54, 55, 54, 56, 54, 57, 55, 48, 55, 49, 55, 50, 55, 51, 55, 52, 55, 53, 55, 54, 55, 55, 55, 56, 55, 57, 56, 48, 56, 49, 56, 50, 56, 51, 56, 52, 56, 53, 56, 54, 56, 55, 56, 56, 56, 57, 57, 48, 57, 49, 57, 50, 57, 51, 57, 52, 57, 53, 57, 54, 57, 55, 57, 56, 57, 57]⟩

def f53r8 : List AInstr := [
    ⟨(some 55), none, .mov (.tmp 0)⟩,
    ⟨(some 56), none, .mov (.tmp 4)⟩,
    ⟨(some 57), none, .ibin .sub (.tmp 56) (.const (.int .i64 3))⟩,
    ⟨(some 58), none, .mov (.tmp 0)⟩,
    ⟨(some 59), none, .mov (.tmp 4)⟩,
    ⟨(some 60), none, .ibin .sub (.tmp 59) (.const (.int .i64 4))⟩,
    ⟨(some 61), none, .mov (.tmp 8)⟩,
    ⟨(some 62), none, .ibin .add (.tmp 61) (.const (.int .u32 1))⟩,
    ⟨(some 63), none, .indexStr (.const (.string f53r8s0)) (.tmp 62)⟩,
    ⟨(some 64), none, .mov (.tmp 8)⟩,
    ⟨(some 65), none, .indexStr (.const (.string f53r8s1)) (.tmp 64)⟩,
    ⟨(some 66), none, .indexAddr 1 (.tmp 55) (.tmp 57)⟩,
    ⟨none, none, .store 1 (.tmp 66) (.tmp 63)⟩,
    ⟨(some 67), none, .indexAddr 1 (.tmp 58) (.tmp 60)⟩,
    ⟨none, none, .store 1 (.tmp 67) (.tmp 65)⟩]

def f53r9s0 : ByteArray := ⟨#[48, 48, 48, 49, 48, 50, 48, 51, 48, 52, 48, 53, 48, 54, 48, 55, 48, 56, 48, 57, 49, 48, 49, 49, 49, 50, 49, 51, 49, 52, 49, 53, 49, 54, 49, 55, 49, 56, 49, 57, 50, 48, 50, 49, 50, 50, 50, 51, 50, 52, 50, 53, 50, 54, 50, 55, 50, 56, 50, 57, 51, 48, 51, 49, 51, 50, 51, 51, 51, 52, 51, 53, 51, 54, 51, 55, 51, 56, 51, 57, 52, 48, 52, 49, 52, 50, 52, 51, 52, 52, 52, 53, 52, 54, 52, 55, 52, 56, 52, 57, 53, 48, 53, 49, 53, 50, 53, 51, 53, 52, 53, 53, 53, 54, 53, 55, 53, 56, 53, 57, 54, 48, 54, 49, 54, 50, 54, 51, 54, 52, 54, 53, 54, 54, 54, 55, 54, 56, 54, 57, 55, 48, 55, 49, 55, 50, 55, 51, 55, 52, 55, 53, 55, 54, 55, 55, 55, 56, 55, 57, 56, 48, 56, 49, 56, 50, 56, 51, 56, 52, 56, 53, 56, 54, 56, 55, 56, 56, 56, 57, 57, 48, 57, 49, 57, 50, 57, 51, 57, 52, 57, 53, 57, 54, 57, 55, 57, 56, 57, 57]⟩

def f53r9s1 : ByteArray := ⟨#[48, 48, 48, 49, 48, 50, 48, 51, 48, 52, 48, 53, 48, 54, 48, 55, 48, 56, 48, 57, 49, 48, 49, 49, 49, 50, 49, 51, 49, 52, 49, 53, 49, 54, 49, 55, 49, 56, 49, 57, 50, 48, 50, 49, 50, 50, 50, 51, 50, 52, 50, 53, 50, 54, 50, 55, 50, 56, 50, 57, 51, 48, 51, 49, 51, 50, 51, 51, 51, 52, 51, 53, 51, 54, 51, 55, 51, 56, 51, 57, 52, 48, 52, 49, 52, 50, 52, 51, 52, 52, 52, 53, 52, 54, 52, 55, 52, 56, 52, 57, 53, 48, 53, 49, 53, 50, 53, 51, 53, 52, 53, 53, 53, 54, 53, 55, 53, 56, 53, 57, 54, 48, 54, 49, 54, 50, 54, 51, 54, 52, 54, 53, 54, 54, 54, 55, 54, 56, 54, 57, 55, 48, 55, 49, 55, 50, 55, 51, 55, 52, 55, 53, 55, 54, 55, 55, 55, 56, 55, 57, 56, 48, 56, 49, 56, 50, 56, 51, 56, 52, 56, 53, 56, 54, 56, 55, 56, 56, 56, 57, 57, 48, 57, 49, 57, 50, 57, 51, 57, 52, 57, 53, 57, 54, 57, 55, 57, 56, 57, 57]⟩

def f53r9 : List AInstr := [
    ⟨(some 68), none, .mov (.tmp 0)⟩,
    ⟨(some 69), none, .mov (.tmp 4)⟩,
    ⟨(some 70), none, .ibin .sub (.tmp 69) (.const (.int .i64 5))⟩,
    ⟨(some 71), none, .mov (.tmp 0)⟩,
    ⟨(some 72), none, .mov (.tmp 4)⟩,
    ⟨(some 73), none, .ibin .sub (.tmp 72) (.const (.int .i64 6))⟩,
    ⟨(some 74), none, .mov (.tmp 11)⟩,
    ⟨(some 75), none, .ibin .add (.tmp 74) (.const (.int .u32 1))⟩,
    ⟨(some 76), none, .indexStr (.const (.string f53r9s0)) (.tmp 75)⟩,
    ⟨(some 77), none, .mov (.tmp 11)⟩,
    ⟨(some 78), none, .indexStr (.const (.string f53r9s1)) (.tmp 77)⟩,
    ⟨(some 79), none, .indexAddr 1 (.tmp 68) (.tmp 70)⟩,
    ⟨none, none, .store 1 (.tmp 79) (.tmp 76)⟩,
    ⟨(some 80), none, .indexAddr 1 (.tmp 71) (.tmp 73)⟩,
    ⟨none, none, .store 1 (.tmp 80) (.tmp 78)⟩]

def f53r10s0 : ByteArray := ⟨#[48, 48, 48, 49, 48, 50, 48, 51, 48, 52, 48, 53, 48, 54, 48, 55, 48, 56, 48, 57, 49, 48, 49, 49, 49, 50, 49, 51, 49, 52, 49, 53, 49, 54, 49, 55, 49, 56, 49, 57, 50, 48, 50, 49, 50, 50, 50, 51, 50, 52, 50, 53, 50, 54, 50, 55, 50, 56, 50, 57, 51, 48, 51, 49, 51, 50, 51, 51, 51, 52, 51, 53, 51, 54, 51, 55, 51, 56, 51, 57, 52, 48, 52, 49, 52, 50, 52, 51, 52, 52, 52, 53, 52, 54, 52, 55, 52, 56, 52, 57, 53, 48, 53, 49, 53, 50, 53, 51, 53, 52, 53, 53, 53, 54, 53, 55, 53, 56, 53, 57, 54, 48, 54, 49, 54, 50, 54, 51, 54, 52, 54, 53, 54, 54, 54, 55, 54, 56, 54, 57, 55, 48, 55, 49, 55, 50, 55, 51, 55, 52, 55, 53, 55, 54, 55, 55, 55, 56, 55, 57, 56, 48, 56, 49, 56, 50, 56, 51, 56, 52, 56, 53, 56, 54, 56, 55, 56, 56, 56, 57, 57, 48, 57, 49, 57, 50, 57, 51, 57, 52, 57, 53, 57, 54, 57, 55, 57, 56, 57, 57]⟩

def f53r10s1 : ByteArray := ⟨#[48, 48, 48, 49, 48, 50, 48, 51, 48, 52, 48, 53, 48, 54, 48, 55, 48, 56, 48, 57, 49, 48, 49, 49, 49, 50, 49, 51, 49, 52, 49, 53, 49, 54, 49, 55, 49, 56, 49, 57, 50, 48, 50, 49, 50, 50, 50, 51, 50, 52, 50, 53, 50, 54, 50, 55, 50, 56, 50, 57, 51, 48, 51, 49, 51, 50, 51, 51, 51, 52, 51, 53, 51, 54, 51, 55, 51, 56, 51, 57, 52, 48, 52, 49, 52, 50, 52, 51, 52, 52, 52, 53, 52, 54, 52, 55, 52, 56, 52, 57, 53, 48, 53, 49, 53, 50, 53, 51, 53, 52, 53, 53, 53, 54, 53, 55, 53, 56, 53, 57, 54, 48, 54, 49, 54, 50, 54, 51, 54, 52, 54, 53, 54, 54, 54, 55, 54, 56, 54, 57, 55, 48, 55, 49, 55, 50, 55, 51, 55, 52, 55, 53, 55, 54, 55, 55, 55, 56, 55, 57, 56, 48, 56, 49, 56, 50, 56, 51, 56, 52, 56, 53, 56, 54, 56, 55, 56, 56, 56, 57, 57, 48, 57, 49, 57, 50, 57, 51, 57, 52, 57, 53, 57, 54, 57, 55, 57, 56, 57, 57]⟩

def f53r10 : List AInstr := [
    ⟨(some 81), none, .mov (.tmp 0)⟩,
    ⟨(some 82), none, .mov (.tmp 4)⟩,
    ⟨(some 83), none, .ibin .sub (.tmp 82) (.const (.int .i64 7))⟩,
    ⟨(some 84), none, .mov (.tmp 0)⟩,
    ⟨(some 85), none, .mov (.tmp 4)⟩,
    ⟨(some 86), none, .ibin .sub (.tmp 85) (.const (.int .i64 8))⟩,
    ⟨(some 87), none, .mov (.tmp 10)⟩,
    ⟨(some 88), none, .ibin .add (.tmp 87) (.const (.int .u32 1))⟩,
    ⟨(some 89), none, .indexStr (.const (.string f53r10s0)) (.tmp 88)⟩,
    ⟨(some 90), none, .mov (.tmp 10)⟩,
    ⟨(some 91), none, .indexStr (.const (.string f53r10s1)) (.tmp 90)⟩,
    ⟨(some 92), none, .indexAddr 1 (.tmp 81) (.tmp 83)⟩,
    ⟨none, none, .store 1 (.tmp 92) (.tmp 89)⟩,
    ⟨(some 93), none, .indexAddr 1 (.tmp 84) (.tmp 86)⟩,
    ⟨none, none, .store 1 (.tmp 93) (.tmp 91)⟩]

def f53r11 : List AInstr := [
    ⟨(some 94), none, .mov (.tmp 4)⟩,
    ⟨(some 95), none, .ibin .sub (.tmp 94) (.const (.int .i64 8))⟩,
    ⟨(some 4), none, .mov (.tmp 95)⟩]

/-- live: [0, 1, 4] -/
def f53l0 : ACode := (.seq (.seq (.ops f53r1)
  (.keep [0, 1, 4, 20] (.cond (.tmp 20) .skip (.exit 0))))
  (.keep [0, 1, 4] (.block 1 (.seq (.ops f53r2)
  (.keep [0, 1, 4, 5] (.seq (.ops f53r3)
  (.keep [0, 1, 4, 5] (.seq (.ops f53r4)
  (.keep [0, 1, 4, 6, 7] (.seq (.ops f53r5)
  (.keep [0, 1, 4, 6, 8, 9] (.seq (.ops f53r6)
  (.keep [0, 1, 4, 8, 9, 10, 11] (.seq (.draw f53r7 [(0, 0, false), (0, 0, false), (0, 0, false), (0, 1, false), (0, 1, false), (0, 1, false), (0, 0, false), (0, 0, false), (0, 0, false), (0, 1, false), (0, 1, false), (0, 0, false), (0, 0, true), (1, 1, false), (1, 0, true)])
  (.keep [0, 1, 4, 8, 10, 11] (.seq (.draw f53r8 [(0, 0, false), (0, 0, false), (0, 0, false), (0, 1, false), (0, 1, false), (0, 1, false), (0, 0, false), (0, 0, false), (0, 0, false), (0, 1, false), (0, 1, false), (0, 0, false), (0, 0, true), (1, 1, false), (1, 0, true)])
  (.keep [0, 1, 4, 10, 11] (.seq (.draw f53r9 [(0, 0, false), (0, 0, false), (0, 0, false), (0, 1, false), (0, 1, false), (0, 1, false), (0, 0, false), (0, 0, false), (0, 0, false), (0, 1, false), (0, 1, false), (0, 0, false), (0, 0, true), (1, 1, false), (1, 0, true)])
  (.keep [0, 1, 4, 10] (.seq (.draw f53r10 [(0, 0, false), (0, 0, false), (0, 0, false), (0, 1, false), (0, 1, false), (0, 1, false), (0, 0, false), (0, 0, false), (0, 0, false), (0, 1, false), (0, 1, false), (0, 0, false), (0, 0, true), (1, 1, false), (1, 0, true)])
  (.keep [0, 1, 4] (.ops f53r11))))))))))))))))))))))

def f53r13 : List AInstr := [
    ⟨(some 96), none, .mov (.tmp 1)⟩,
    ⟨(some 97), none, .conv .u32 (.tmp 96)⟩,
    ⟨(some 12), none, .mov (.tmp 97)⟩]

def f53r14 : List AInstr := [
    ⟨(some 98), none, .mov (.tmp 4)⟩,
    ⟨(some 99), none, .ibin .geq (.tmp 98) (.const (.int .i64 4))⟩]

def f53r15 : List AInstr := [
    ⟨(some 100), none, .mov (.tmp 12)⟩,
    ⟨(some 101), none, .ibin .rem (.tmp 100) (.const (.int .u32 10000))⟩,
    ⟨(some 13), none, .mov (.tmp 101)⟩]

def f53r16 : List AInstr := [
    ⟨(some 102), none, .mov (.tmp 12)⟩,
    ⟨(some 103), none, .ibin .quo (.tmp 102) (.const (.int .u32 10000))⟩,
    ⟨(some 12), none, .mov (.tmp 103)⟩]

def f53r17 : List AInstr := [
    ⟨(some 104), none, .mov (.tmp 13)⟩,
    ⟨(some 105), none, .ibin .quo (.tmp 104) (.const (.int .u32 100))⟩,
    ⟨(some 106), none, .ibin .mul (.tmp 105) (.const (.int .u32 2))⟩,
    ⟨(some 107), none, .mov (.tmp 13)⟩,
    ⟨(some 108), none, .ibin .rem (.tmp 107) (.const (.int .u32 100))⟩,
    ⟨(some 109), none, .ibin .mul (.tmp 108) (.const (.int .u32 2))⟩,
    ⟨(some 14), none, .mov (.tmp 106)⟩,
    ⟨(some 15), none, .mov (.tmp 109)⟩]

def f53r18s0 : ByteArray := ⟨#[48, 48, 48, 49, 48, 50, 48, 51, 48, 52, 48, 53, 48, 54, 48, 55, 48, 56, 48, 57, 49, 48, 49, 49, 49, 50, 49, 51, 49, 52, 49, 53, 49, 54, 49, 55, 49, 56, 49, 57, 50, 48, 50, 49, 50, 50, 50, 51, 50, 52, 50, 53, 50, 54, 50, 55, 50, 56, 50, 57, 51, 48, 51, 49, 51, 50, 51, 51, 51, 52, 51, 53, 51, 54, 51, 55, 51, 56, 51, 57, 52, 48, 52, 49, 52, 50, 52, 51, 52, 52, 52, 53, 52, 54, 52, 55, 52, 56, 52, 57, 53, 48, 53, 49, 53, 50, 53, 51, 53, 52, 53, 53, 53, 54, 53, 55, 53, 56, 53, 57, 54, 48, 54, 49, 54, 50, 54, 51, 54, 52, 54, 53, 54, 54, 54, 55, 54, 56, 54, 57, 55, 48, 55, 49, 55, 50, 55, 51, 55, 52, 55, 53, 55, 54, 55, 55, 55, 56, 55, 57, 56, 48, 56, 49, 56, 50, 56, 51, 56, 52, 56, 53, 56, 54, 56, 55, 56, 56, 56, 57, 57, 48, 57, 49, 57, 50, 57, 51, 57, 52, 57, 53, 57, 54, 57, 55, 57, 56, 57, 57]⟩

def f53r18s1 : ByteArray := ⟨#[48, 48, 48, 49, 48, 50, 48, 51, 48, 52, 48, 53, 48, 54, 48, 55, 48, 56, 48, 57, 49, 48, 49, 49, 49, 50, 49, 51, 49, 52, 49, 53, 49, 54, 49, 55, 49, 56, 49, 57, 50, 48, 50, 49, 50, 50, 50, 51, 50, 52, 50, 53, 50, 54, 50, 55, 50, 56, 50, 57, 51, 48, 51, 49, 51, 50, 51, 51, 51, 52, 51, 53, 51, 54, 51, 55, 51, 56, 51, 57, 52, 48, 52, 49, 52, 50, 52, 51, 52, 52, 52, 53, 52, 54, 52, 55, 52, 56, 52, 57, 53, 48, 53, 49, 53, 50, 53, 51, 53, 52, 53, 53, 53, 54, 53, 55, 53, 56, 53, 57, 54, 48, 54, 49, 54, 50, 54, 51, 54, 52, 54, 53, 54, 54, 54, 55, 54, 56, 54, 57, 55, 48, 55, 49, 55, 50, 55, 51, 55, 52, 55, 53, 55, 54, 55, 55, 55, 56, 55, 57, 56, 48, 56, 49, 56, 50, 56, 51, 56, 52, 56, 53, 56, 54, 56, 55, 56, 56, 56, 57, 57, 48, 57, 49, 57, 50, 57, 51, 57, 52, 57, 53, 57, 54, 57, 55, 57, 56, 57, 57]⟩

def f53r18 : List AInstr := [
    ⟨(some 110), none, .mov (.tmp 0)⟩,
    ⟨(some 111), none, .mov (.tmp 4)⟩,
    ⟨(some 112), none, .ibin .sub (.tmp 111) (.const (.int .i64 1))⟩,
    ⟨(some 113), none, .mov (.tmp 0)⟩,
    ⟨(some 114), none, .mov (.tmp 4)⟩,
    ⟨(some 115), none, .ibin .sub (.tmp 114) (.const (.int .i64 2))⟩,
    ⟨(some 116), none, .mov (.tmp 15)⟩,
    ⟨(some 117), none, .ibin .add (.tmp 116) (.const (.int .u32 1))⟩,
    ⟨(some 118), none, .indexStr (.const (.string f53r18s0)) (.tmp 117)⟩,
    ⟨(some 119), none, .mov (.tmp 15)⟩,
    ⟨(some 120), none, .indexStr (.const (.string f53r18s1)) (.tmp 119)⟩,
    ⟨(some 121), none, .indexAddr 1 (.tmp 110) (.tmp 112)⟩,
    ⟨none, none, .store 1 (.tmp 121) (.tmp 118)⟩,
    ⟨(some 122), none, .indexAddr 1 (.tmp 113) (.tmp 115)⟩,
    ⟨none, none, .store 1 (.tmp 122) (.tmp 120)⟩]

def f53r19s0 : ByteArray := ⟨#[48, 48, 48, 49, 48, 50, 48, 51, 48, 52, 48, 53, 48, 54, 48, 55, 48, 56, 48, 57, 49, 48, 49, 49, 49, 50, 49, 51, 49, 52, 49, 53, 49, 54, 49, 55, 49, 56, 49, 57, 50, 48, 50, 49, 50, 50, 50, 51, 50, 52, 50, 53, 50, 54, 50, 55, 50, 56, 50, 57, 51, 48, 51, 49, 51, 50, 51, 51, 51, 52, 51, 53, 51, 54, 51, 55, 51, 56, 51, 57, 52, 48, 52, 49, 52, 50, 52, 51, 52, 52, 52, 53, 52, 54, 52, 55, 52, 56, 52, 57, 53, 48, 53, 49, 53, 50, 53, 51, 53, 52, 53, 53, 53, 54, 53, 55, 53, 56, 53, 57, 54, 48, 54, 49, 54, 50, 54, 51, 54, 52, 54, 53, 54, 54, 54, 55, 54, 56, 54, 57, 55, 48, 55, 49, 55, 50, 55, 51, 55, 52, 55, 53, 55, 54, 55, 55, 55, 56, 55, 57, 56, 48, 56, 49, 56, 50, 56, 51, 56, 52, 56, 53, 56, 54, 56, 55, 56, 56, 56, 57, 57, 48, 57, 49, 57, 50, 57, 51, 57, 52, 57, 53, 57, 54, 57, 55, 57, 56, 57, 57]⟩

def f53r19s1 : ByteArray := ⟨#[48, 48, 48, 49, 48, 50, 48, 51, 48, 52, 48, 53, 48, 54, 48, 55, 48, 56, 48, 57, 49, 48, 49, 49, 49, 50, 49, 51, 49, 52, 49, 53, 49, 54, 49, 55, 49, 56, 49, 57, 50, 48, 50, 49, 50, 50, 50, 51, 50, 52, 50, 53, 50, 54, 50, 55, 50, 56, 50, 57, 51, 48, 51, 49, 51, 50, 51, 51, 51, 52, 51, 53, 51, 54, 51, 55, 51, 56, 51, 57, 52, 48, 52, 49, 52, 50, 52, 51, 52, 52, 52, 53, 52, 54, 52, 55, 52, 56, 52, 57, 53, 48, 53, 49, 53, 50, 53, 51, 53, 52, 53, 53, 53, 54, 53, 55, 53, 56, 53, 57, 54, 48, 54, 49, 54, 50, 54, 51, 54, 52, 54, 53, 54, 54, 54, 55, 54, 56, 54, 57, 55, 48, 55, 49, 55, 50, 55, 51, 55, 52, 55, 53, 55, 54, 55, 55, 55, 56, 55, 57, 56, 48, 56, 49, 56, 50, 56, 51, 56, 52, 56, 53, 56, 54, 56, 55, 56, 56, 56, 57, 57, 48, 57, 49, 57, 50, 57, 51, 57, 52, 57, 53, 57, 54, 57, 55, 57, 56, 57, 57]⟩

def f53r19 : List AInstr := [
    ⟨(some 123), none, .mov (.tmp 0)⟩,
    ⟨(some 124), none, .mov (.tmp 4)⟩,
    ⟨(some 125), none, .ibin .sub (.tmp 124) (.const (.int .i64 3))⟩,
    ⟨(some 126), none, .mov (.tmp 0)⟩,
    ⟨(some 127), none, .mov (.tmp 4)⟩,
    ⟨(some 128), none, .ibin .sub (.tmp 127) (.const (.int .i64 4))⟩,
    ⟨(some 129), none, .mov (.tmp 14)⟩,
    ⟨(some 130), none, .ibin .add (.tmp 129) (.const (.int .u32 1))⟩,
    ⟨(some 131), none, .indexStr (.const (.string f53r19s0)) (.tmp 130)⟩,
    ⟨(some 132), none, .mov (.tmp 14)⟩,
    ⟨(some 133), none, .indexStr (.const (.string f53r19s1)) (.tmp 132)⟩,
    ⟨(some 134), none, .indexAddr 1 (.tmp 123) (.tmp 125)⟩,
    ⟨none, none, .store 1 (.tmp 134) (.tmp 131)⟩,
    ⟨(some 135), none, .indexAddr 1 (.tmp 126) (.tmp 128)⟩,
    ⟨none, none, .store 1 (.tmp 135) (.tmp 133)⟩]

def f53r20 : List AInstr := [
    ⟨(some 136), none, .mov (.tmp 4)⟩,
    ⟨(some 137), none, .ibin .sub (.tmp 136) (.const (.int .i64 4))⟩,
    ⟨(some 4), none, .mov (.tmp 137)⟩]

def f53r21 : List AInstr := [
    ⟨(some 138), none, .mov (.tmp 4)⟩,
    ⟨(some 139), none, .ibin .geq (.tmp 138) (.const (.int .i64 2))⟩]

def f53r22 : List AInstr := [
    ⟨(some 140), none, .mov (.tmp 12)⟩,
    ⟨(some 141), none, .ibin .rem (.tmp 140) (.const (.int .u32 100))⟩,
    ⟨(some 142), none, .ibin .mul (.tmp 141) (.const (.int .u32 2))⟩,
    ⟨(some 16), none, .mov (.tmp 142)⟩]

def f53r23 : List AInstr := [
    ⟨(some 143), none, .mov (.tmp 12)⟩,
    ⟨(some 144), none, .ibin .quo (.tmp 143) (.const (.int .u32 100))⟩,
    ⟨(some 12), none, .mov (.tmp 144)⟩]

def f53r24s0 : ByteArray := ⟨#[48, 48, 48, 49, 48, 50, 48, 51, 48, 52, 48, 53, 48, 54, 48, 55, 48, 56, 48, 57, 49, 48, 49, 49, 49, 50, 49, 51, 49, 52, 49, 53, 49, 54, 49, 55, 49, 56, 49, 57, 50, 48, 50, 49, 50, 50, 50, 51, 50, 52, 50, 53, 50, 54, 50, 55, 50, 56, 50, 57, 51, 48, 51, 49, 51, 50, 51, 51, 51, 52, 51, 53, 51, 54, 51, 55, 51, 56, 51, 57, 52, 48, 52, 49, 52, 50, 52, 51, 52, 52, 52, 53, 52, 54, 52, 55, 52, 56, 52, 57, 53, 48, 53, 49, 53, 50, 53, 51, 53, 52, 53, 53, 53, 54, 53, 55, 53, 56, 53, 57, 54, 48, 54, 49, 54, 50, 54, 51, 54, 52, 54, 53, 54, 54, 54, 55, 54, 56, 54, 57, 55, 48, 55, 49, 55, 50, 55, 51, 55, 52, 55, 53, 55, 54, 55, 55, 55, 56, 55, 57, 56, 48, 56, 49, 56, 50, 56, 51, 56, 52, 56, 53, 56, 54, 56, 55, 56, 56, 56, 57, 57, 48, 57, 49, 57, 50, 57, 51, 57, 52, 57, 53, 57, 54, 57, 55, 57, 56, 57, 57]⟩

def f53r24s1 : ByteArray := ⟨#[48, 48, 48, 49, 48, 50, 48, 51, 48, 52, 48, 53, 48, 54, 48, 55, 48, 56, 48, 57, 49, 48, 49, 49, 49, 50, 49, 51, 49, 52, 49, 53, 49, 54, 49, 55, 49, 56, 49, 57, 50, 48, 50, 49, 50, 50, 50, 51, 50, 52, 50, 53, 50, 54, 50, 55, 50, 56, 50, 57, 51, 48, 51, 49, 51, 50, 51, 51, 51, 52, 51, 53, 51, 54, 51, 55, 51, 56, 51, 57, 52, 48, 52, 49, 52, 50, 52, 51, 52, 52, 52, 53, 52, 54, 52, 55, 52, 56, 52, 57, 53, 48, 53, 49, 53, 50, 53, 51, 53, 52, 53, 53, 53, 54, 53, 55, 53, 56, 53, 57, 54, 48, 54, 49, 54, 50, 54, 51, 54, 52, 54, 53, 54, 54, 54, 55, 54, 56, 54, 57, 55, 48, 55, 49, 55, 50, 55, 51, 55, 52, 55, 53, 55, 54, 55, 55, 55, 56, 55, 57, 56, 48, 56, 49, 56, 50, 56, 51, 56, 52, 56, 53, 56, 54, 56, 55, 56, 56, 56, 57, 57, 48, 57, 49, 57, 50, 57, 51, 57, 52, 57, 53, 57, 54, 57, 55, 57, 56, 57, 57]⟩

def f53r24 : List AInstr := [
    ⟨(some 145), none, .mov (.tmp 0)⟩,
    ⟨(some 146), none, .mov (.tmp 4)⟩,
    ⟨(some 147), none, .ibin .sub (.tmp 146) (.const (.int .i64 1))⟩,
    ⟨(some 148), none, .mov (.tmp 0)⟩,
    ⟨(some 149), none, .mov (.tmp 4)⟩,
    ⟨(some 150), none, .ibin .sub (.tmp 149) (.const (.int .i64 2))⟩,
    ⟨(some 151), none, .mov (.tmp 16)⟩,
    ⟨(some 152), none, .ibin .add (.tmp 151) (.const (.int .u32 1))⟩,
    ⟨(some 153), none, .indexStr (.const (.string f53r24s0)) (.tmp 152)⟩,
    ⟨(some 154), none, .mov (.tmp 16)⟩,
    ⟨(some 155), none, .indexStr (.const (.string f53r24s1)) (.tmp 154)⟩,
    ⟨(some 156), none, .indexAddr 1 (.tmp 145) (.tmp 147)⟩,
    ⟨none, none, .store 1 (.tmp 156) (.tmp 153)⟩,
    ⟨(some 157), none, .indexAddr 1 (.tmp 148) (.tmp 150)⟩,
    ⟨none, none, .store 1 (.tmp 157) (.tmp 155)⟩]

def f53r25 : List AInstr := [
    ⟨(some 158), none, .mov (.tmp 4)⟩,
    ⟨(some 159), none, .ibin .sub (.tmp 158) (.const (.int .i64 2))⟩,
    ⟨(some 4), none, .mov (.tmp 159)⟩]

def f53r26 : List AInstr := [
    ⟨(some 160), none, .mov (.tmp 4)⟩,
    ⟨(some 161), none, .ibin .gtr (.tmp 160) (.const (.int .i64 0))⟩]

def f53r27 : List AInstr := [
    ⟨(some 162), none, .mov (.tmp 0)⟩,
    ⟨(some 163), none, .mov (.tmp 12)⟩,
    ⟨(some 164), none, .ibin .add (.const (.int .u32 48)) (.tmp 163)⟩,
    ⟨(some 165), none, .conv .u8 (.tmp 164)⟩,
    ⟨(some 166), none, .indexAddr 1 (.tmp 162) (.const (.int .i64 0))⟩,
    ⟨none, none, .store 1 (.tmp 166) (.tmp 165)⟩]

def f53b : ACode := (.seq (.ops f53r0)
  (.keep [0, 1, 4] (.seq (.block 0 (.loop f53l0))
  (.keep [0, 1, 4] (.seq (.ops f53r13)
  (.keep [0, 4, 12] (.seq (.seq (.ops f53r14)
  (.keep [0, 4, 12, 99] (.cond (.tmp 99) (.keep [0, 4, 12] (.seq (.ops f53r15)
  (.keep [0, 4, 12, 13] (.seq (.ops f53r16)
  (.keep [0, 4, 12, 13] (.seq (.ops f53r17)
  (.keep [0, 4, 12, 14, 15] (.seq (.draw f53r18 [(0, 0, false), (0, 0, false), (0, 0, false), (0, 1, false), (0, 1, false), (0, 1, false), (0, 0, false), (0, 0, false), (0, 0, false), (0, 1, false), (0, 1, false), (0, 0, false), (0, 0, true), (1, 1, false), (1, 0, true)])
  (.keep [0, 4, 12, 14] (.seq (.draw f53r19 [(0, 0, false), (0, 0, false), (0, 0, false), (0, 1, false), (0, 1, false), (0, 1, false), (0, 0, false), (0, 0, false), (0, 0, false), (0, 1, false), (0, 1, false), (0, 0, false), (0, 0, true), (1, 1, false), (1, 0, true)])
  (.keep [0, 4, 12] (.ops f53r20)))))))))))) .skip)))
  (.keep [0, 4, 12] (.seq (.seq (.ops f53r21)
  (.keep [0, 4, 12, 139] (.cond (.tmp 139) (.keep [0, 4, 12] (.seq (.ops f53r22)
  (.keep [0, 4, 12, 16] (.seq (.ops f53r23)
  (.keep [0, 4, 12, 16] (.seq (.draw f53r24 [(0, 0, false), (0, 0, false), (0, 0, false), (0, 1, false), (0, 1, false), (0, 1, false), (0, 0, false), (0, 0, false), (0, 0, false), (0, 1, false), (0, 1, false), (0, 0, false), (0, 0, true), (1, 1, false), (1, 0, true)])
  (.keep [0, 4, 12] (.ops f53r25)))))))) .skip)))
  (.keep [0, 4, 12] (.seq (.ops f53r26)
  (.keep [0, 12, 161] (.cond (.tmp 161) (.keep [0, 12] (.ops f53r27)) .skip)))))))))))))

def f53 : AFn := ⟨167, [], f53b⟩

theorem f53_ok : compFn Tryd.prog 53 = some f53.strip := by kernel_rfl

/- function 54: internal/strconv.formatBits; parameters 5; operations that are not compiled: 3 -/
def f54r0 : List AInstr := [
    ⟨(some 10), none, .mov (.const (.slice none 0 0))⟩,
    ⟨(some 11), none, .mov (.const (.string ⟨#[]⟩))⟩]

def f54r1 : List AInstr := [
    ⟨(some 19), none, .mov (.tmp 2)⟩,
    ⟨(some 20), none, .ibin .lss (.tmp 19) (.const (.int .i64 2))⟩,
    ⟨(some 21), none, .mov (.tmp 20)⟩,
    ⟨(some 22), (some (21, false)), .mov (.tmp 2)⟩,
    ⟨(some 23), (some (21, false)), .ibin .eql (.tmp 22) (.const (.int .i64 10))⟩,
    ⟨(some 24), none, .pick (.tmp 21) (.const (.bool true)) (.tmp 23)⟩,
    ⟨(some 25), none, .mov (.tmp 24)⟩,
    ⟨(some 26), (some (25, false)), .mov (.tmp 2)⟩,
    ⟨(some 27), (some (25, false)), .ibin .gtr (.tmp 26) (.const (.int .i64 36))⟩,
    ⟨(some 28), none, .pick (.tmp 25) (.const (.bool true)) (.tmp 27)⟩]

def f54r2 : List AInstr := [
    ⟨(some 29), none, .bad⟩,
    ⟨none, none, .bad⟩]

def f54r3 : List AInstr := [
    ⟨(some 12), none, .alloc [.int .u8 0, .int .u8 0, .int .u8 0, .int .u8 0, .int .u8 0, .int .u8 0, .int .u8 0, .int .u8 0, .int .u8 0, .int .u8 0, .int .u8 0, .int .u8 0, .int .u8 0, .int .u8 0, .int .u8 0, .int .u8 0, .int .u8 0, .int .u8 0, .int .u8 0, .int .u8 0, .int .u8 0, .int .u8 0, .int .u8 0, .int .u8 0, .int .u8 0, .int .u8 0, .int .u8 0, .int .u8 0, .int .u8 0, .int .u8 0, .int .u8 0, .int .u8 0, .int .u8 0, .int .u8 0, .int .u8 0, .int .u8 0, .int .u8 0, .int .u8 0, .int .u8 0, .int .u8 0, .int .u8 0, .int .u8 0, .int .u8 0, .int .u8 0, .int .u8 0, .int .u8 0, .int .u8 0, .int .u8 0, .int .u8 0, .int .u8 0, .int .u8 0, .int .u8 0, .int .u8 0, .int .u8 0, .int .u8 0, .int .u8 0, .int .u8 0, .int .u8 0, .int .u8 0, .int .u8 0, .int .u8 0, .int .u8 0, .int .u8 0, .int .u8 0, .int .u8 0]⟩]

def f54r4 : List AInstr := [
    ⟨(some 13), none, .mov (.const (.int .i64 65))⟩]

def f54r5 : List AInstr := [
    ⟨(some 30), none, .mov (.tmp 3)⟩]

def f54r6 : List AInstr := [
    ⟨(some 31), none, .mov (.tmp 1)⟩,
    ⟨(some 32), none, .un .neg (.tmp 31)⟩,
    ⟨(some 1), none, .mov (.tmp 32)⟩]

def f54r7 : List AInstr := [
    ⟨(some 33), none, .mov (.tmp 2)⟩,
    ⟨(some 34), none, .callF 63 [.tmp 33]⟩]

def f54r8 : List AInstr := [
    ⟨(some 35), none, .mov (.tmp 2)⟩,
    ⟨(some 36), none, .conv .u64 (.tmp 35)⟩,
    ⟨(some 37), none, .callF 64 [.tmp 36]⟩,
    ⟨(some 38), none, .conv .u64 (.tmp 37)⟩,
    ⟨(some 14), none, .mov (.tmp 38)⟩]

def f54r9 : List AInstr := [
    ⟨(some 39), none, .mov (.tmp 2)⟩,
    ⟨(some 40), none, .conv .u64 (.tmp 39)⟩,
    ⟨(some 15), none, .mov (.tmp 40)⟩]

def f54r10 : List AInstr := [
    ⟨(some 41), none, .mov (.tmp 2)⟩,
    ⟨(some 42), none, .conv .u64 (.tmp 41)⟩,
    ⟨(some 43), none, .ibin .sub (.tmp 42) (.const (.int .u64 1))⟩,
    ⟨(some 16), none, .mov (.tmp 43)⟩]

def f54r11 : List AInstr := [
    ⟨(some 44), none, .mov (.tmp 1)⟩,
    ⟨(some 45), none, .mov (.tmp 15)⟩,
    ⟨(some 46), none, .ibin .geq (.tmp 44) (.tmp 45)⟩]

def f54r12 : List AInstr := [
    ⟨(some 47), none, .mov (.tmp 13)⟩,
    ⟨(some 48), none, .ibin .sub (.tmp 47) (.const (.int .i64 1))⟩,
    ⟨(some 13), none, .mov (.tmp 48)⟩]

def f54r13s0 : ByteArray := ⟨#[48, 49, 50, 51, 52, 53, 54, 55, 56, 57, 97, 98, 99, 100, 101, 102, 103, 104, 105, 106, 107, 108, 109, 110, 111, 112, 113, 114, 115, 116, 117, 118, 119, 120, 121, 122]⟩

def f54r13 : List AInstr := [
    ⟨(some 49), none, .mov (.tmp 13)⟩,
    ⟨(some 50), none, .mov (.tmp 1)⟩,
    ⟨(some 51), none, .mov (.tmp 16)⟩,
    ⟨(some 52), none, .ibin .and (.tmp 50) (.tmp 51)⟩,
    ⟨(some 53), none, .indexStr (.const (.string f54r13s0)) (.tmp 52)⟩,
    ⟨(some 54), none, .indexArr 1 65 (.tmp 12) (.tmp 49)⟩,
    ⟨none, none, .store 1 (.tmp 54) (.tmp 53)⟩]

def f54r14 : List AInstr := [
    ⟨(some 55), none, .mov (.tmp 1)⟩,
    ⟨(some 56), none, .mov (.tmp 14)⟩,
    ⟨(some 57), none, .ibin .shr (.tmp 55) (.tmp 56)⟩,
    ⟨(some 1), none, .mov (.tmp 57)⟩]

/-- live: [0, 1, 3, 4, 10, 11, 12, 13, 14, 15, 16] -/
def f54l0 : ACode := (.seq (.seq (.ops f54r11)
  (.keep [0, 1, 3, 4, 10, 11, 12, 13, 14, 15, 16, 46] (.cond (.tmp 46) .skip (.exit 0))))
  (.keep [0, 1, 3, 4, 10, 11, 12, 13, 14, 15, 16] (.block 1 (.seq (.ops f54r12)
  (.keep [0, 1, 3, 4, 10, 11, 12, 13, 14, 15, 16] (.seq (.ops f54r13)
  (.keep [0, 1, 3, 4, 10, 11, 12, 13, 14, 15, 16] (.ops f54r14))))))))

def f54r16 : List AInstr := [
    ⟨(some 58), none, .mov (.tmp 13)⟩,
    ⟨(some 59), none, .ibin .sub (.tmp 58) (.const (.int .i64 1))⟩,
    ⟨(some 13), none, .mov (.tmp 59)⟩]

def f54r17s0 : ByteArray := ⟨#[48, 49, 50, 51, 52, 53, 54, 55, 56, 57, 97, 98, 99, 100, 101, 102, 103, 104, 105, 106, 107, 108, 109, 110, 111, 112, 113, 114, 115, 116, 117, 118, 119, 120, 121, 122]⟩

def f54r17 : List AInstr := [
    ⟨(some 60), none, .mov (.tmp 13)⟩,
    ⟨(some 61), none, .mov (.tmp 1)⟩,
    ⟨(some 62), none, .indexStr (.const (.string f54r17s0)) (.tmp 61)⟩,
    ⟨(some 63), none, .indexArr 1 65 (.tmp 12) (.tmp 60)⟩,
    ⟨none, none, .store 1 (.tmp 63) (.tmp 62)⟩]

def f54r18 : List AInstr := [
    ⟨(some 64), none, .mov (.tmp 2)⟩,
    ⟨(some 65), none, .conv .u64 (.tmp 64)⟩,
    ⟨(some 17), none, .mov (.tmp 65)⟩]

def f54r19 : List AInstr := [
    ⟨(some 66), none, .mov (.tmp 1)⟩,
    ⟨(some 67), none, .mov (.tmp 17)⟩,
    ⟨(some 68), none, .ibin .geq (.tmp 66) (.tmp 67)⟩]

def f54r20 : List AInstr := [
    ⟨(some 69), none, .mov (.tmp 13)⟩,
    ⟨(some 70), none, .ibin .sub (.tmp 69) (.const (.int .i64 1))⟩,
    ⟨(some 13), none, .mov (.tmp 70)⟩]

def f54r21 : List AInstr := [
    ⟨(some 71), none, .mov (.tmp 1)⟩,
    ⟨(some 72), none, .mov (.tmp 17)⟩,
    ⟨(some 73), none, .ibin .quo (.tmp 71) (.tmp 72)⟩,
    ⟨(some 18), none, .mov (.tmp 73)⟩]

def f54r22s0 : ByteArray := ⟨#[48, 49, 50, 51, 52, 53, 54, 55, 56, 57, 97, 98, 99, 100, 101, 102, 103, 104, 105, 106, 107, 108, 109, 110, 111, 112, 113, 114, 115, 116, 117, 118, 119, 120, 121, 122]⟩

def f54r22 : List AInstr := [
    ⟨(some 74), none, .mov (.tmp 13)⟩,
    ⟨(some 75), none, .mov (.tmp 1)⟩,
    ⟨(some 76), none, .mov (.tmp 18)⟩,
    ⟨(some 77), none, .mov (.tmp 17)⟩,
    ⟨(some 78), none, .ibin .mul (.tmp 76) (.tmp 77)⟩,
    ⟨(some 79), none, .ibin .sub (.tmp 75) (.tmp 78)⟩,
    ⟨(some 80), none, .indexStr (.const (.string f54r22s0)) (.tmp 79)⟩,
    ⟨(some 81), none, .indexArr 1 65 (.tmp 12) (.tmp 74)⟩,
    ⟨none, none, .store 1 (.tmp 81) (.tmp 80)⟩]

def f54r23 : List AInstr := [
    ⟨(some 82), none, .mov (.tmp 18)⟩,
    ⟨(some 1), none, .mov (.tmp 82)⟩]

/-- live: [0, 1, 3, 4, 10, 11, 12, 13, 17] -/
def f54l1 : ACode := (.seq (.seq (.ops f54r19)
  (.keep [0, 1, 3, 4, 10, 11, 12, 13, 17, 68] (.cond (.tmp 68) .skip (.exit 2))))
  (.keep [0, 1, 3, 4, 10, 11, 12, 13, 17] (.block 3 (.seq (.ops f54r20)
  (.keep [0, 1, 3, 4, 10, 11, 12, 13, 17] (.seq (.ops f54r21)
  (.keep [0, 1, 3, 4, 10, 11, 12, 13, 17, 18] (.seq (.ops f54r22)
  (.keep [0, 3, 4, 10, 11, 12, 13, 17, 18] (.ops f54r23))))))))))

def f54r25 : List AInstr := [
    ⟨(some 83), none, .mov (.tmp 13)⟩,
    ⟨(some 84), none, .ibin .sub (.tmp 83) (.const (.int .i64 1))⟩,
    ⟨(some 13), none, .mov (.tmp 84)⟩]

def f54r26s0 : ByteArray := ⟨#[48, 49, 50, 51, 52, 53, 54, 55, 56, 57, 97, 98, 99, 100, 101, 102, 103, 104, 105, 106, 107, 108, 109, 110, 111, 112, 113, 114, 115, 116, 117, 118, 119, 120, 121, 122]⟩

def f54r26 : List AInstr := [
    ⟨(some 85), none, .mov (.tmp 13)⟩,
    ⟨(some 86), none, .mov (.tmp 1)⟩,
    ⟨(some 87), none, .indexStr (.const (.string f54r26s0)) (.tmp 86)⟩,
    ⟨(some 88), none, .indexArr 1 65 (.tmp 12) (.tmp 85)⟩,
    ⟨none, none, .store 1 (.tmp 88) (.tmp 87)⟩]

def f54r27 : List AInstr := [
    ⟨(some 89), none, .mov (.tmp 3)⟩]

def f54r28 : List AInstr := [
    ⟨(some 90), none, .mov (.tmp 13)⟩,
    ⟨(some 91), none, .ibin .sub (.tmp 90) (.const (.int .i64 1))⟩,
    ⟨(some 13), none, .mov (.tmp 91)⟩]

def f54r29 : List AInstr := [
    ⟨(some 92), none, .mov (.tmp 13)⟩,
    ⟨(some 93), none, .indexArr 1 65 (.tmp 12) (.tmp 92)⟩,
    ⟨none, none, .store 1 (.tmp 93) (.const (.int .u8 45))⟩]

def f54r30 : List AInstr := [
    ⟨(some 94), none, .mov (.tmp 4)⟩]

def f54r31 : List AInstr := [
    ⟨(some 95), none, .mov (.tmp 0)⟩,
    ⟨(some 96), none, .mov (.tmp 13)⟩,
    ⟨(some 97), none, .sliceA 1 65 (.tmp 12) (some (.tmp 96)) none⟩,
    ⟨(some 98), none, .append 1 1 (.tmp 95) (.tmp 97)⟩,
    ⟨(some 10), none, .mov (.tmp 98)⟩]

def f54r32 : List AInstr := [
    ⟨(some 99), none, .mov (.tmp 13)⟩,
    ⟨(some 100), none, .sliceA 1 65 (.tmp 12) (some (.tmp 99)) none⟩,
    ⟨(some 101), none, .bad⟩,
    ⟨(some 11), none, .mov (.tmp 101)⟩]

def f54b : ACode := (.seq (.ops f54r0)
  (.keep [0, 1, 2, 3, 4, 10, 11] (.seq (.seq (.ops f54r1)
  (.keep [0, 1, 2, 3, 4, 10, 11, 28] (.cond (.tmp 28) (.keep [0, 1, 2, 3, 4, 10, 11] (.ops f54r2)) .skip)))
  (.keep [0, 1, 2, 3, 4, 10, 11] (.seq (.ops f54r3)
  (.keep [0, 1, 2, 3, 4, 10, 11, 12] (.seq (.ops f54r4)
  (.keep [0, 1, 2, 3, 4, 10, 11, 12, 13] (.seq (.seq (.ops f54r5)
  (.keep [0, 1, 2, 3, 4, 10, 11, 12, 13, 30] (.cond (.tmp 30) (.keep [0, 1, 2, 3, 4, 10, 11, 12, 13] (.ops f54r6)) .skip)))
  (.keep [0, 1, 2, 3, 4, 10, 11, 12, 13] (.seq (.seq (.ops f54r7)
  (.keep [0, 1, 2, 3, 4, 10, 11, 12, 13, 34] (.cond (.tmp 34) (.keep [0, 1, 2, 3, 4, 10, 11, 12, 13] (.seq (.ops f54r8)
  (.keep [0, 1, 2, 3, 4, 10, 11, 12, 13, 14] (.seq (.ops f54r9)
  (.keep [0, 1, 2, 3, 4, 10, 11, 12, 13, 14, 15] (.seq (.ops f54r10)
  (.keep [0, 1, 3, 4, 10, 11, 12, 13, 14, 15, 16] (.seq (.block 0 (.loop f54l0))
  (.keep [0, 1, 3, 4, 10, 11, 12, 13] (.seq (.ops f54r16)
  (.keep [0, 1, 3, 4, 10, 11, 12, 13] (.ops f54r17)))))))))))) (.keep [0, 1, 2, 3, 4, 10, 11, 12, 13] (.seq (.ops f54r18)
  (.keep [0, 1, 3, 4, 10, 11, 12, 13, 17] (.seq (.block 2 (.loop f54l1))
  (.keep [0, 1, 3, 4, 10, 11, 12, 13] (.seq (.ops f54r25)
  (.keep [0, 1, 3, 4, 10, 11, 12, 13] (.ops f54r26)))))))))))
  (.keep [0, 3, 4, 10, 11, 12, 13] (.seq (.seq (.ops f54r27)
  (.keep [0, 4, 10, 11, 12, 13, 89] (.cond (.tmp 89) (.keep [0, 4, 10, 11, 12, 13] (.seq (.ops f54r28)
  (.keep [0, 4, 10, 11, 12, 13] (.ops f54r29)))) .skip)))
  (.keep [0, 4, 10, 11, 12, 13] (.seq (.seq (.ops f54r30)
  (.keep [0, 10, 11, 12, 13, 94] (.cond (.tmp 94) (.keep [0, 11, 12, 13] (.seq (.ops f54r31)
  (.keep [10, 11] .ret))) .skip)))
  (.keep [10, 12, 13] (.seq (.ops f54r32)
  (.keep [10, 11] .ret))))))))))))))))))

def f54 : AFn := ⟨102, [.tmp 10, .tmp 11], f54b⟩

theorem f54_ok : compFn Tryd.prog 54 = some f54.strip := by kernel_rfl

/- function 56: internal/bytealg.hashStr[string]; parameters 1; operations that are not compiled: 0 -/
def f56r0 : List AInstr := [
    ⟨(some 2), none, .mov (.const (.int .u32 0))⟩,
    ⟨(some 3), none, .mov (.const (.int .u32 0))⟩]

def f56r1 : List AInstr := [
    ⟨(some 4), none, .mov (.const (.int .u32 0))⟩]

def f56r2 : List AInstr := [
    ⟨(some 5), none, .mov (.const (.int .i64 0))⟩]

def f56r3 : List AInstr := [
    ⟨(some 9), none, .mov (.tmp 5)⟩,
    ⟨(some 10), none, .mov (.tmp 0)⟩,
    ⟨(some 11), none, .str .len [.tmp 10]⟩,
    ⟨(some 12), none, .ibin .lss (.tmp 9) (.tmp 11)⟩]

def f56r4 : List AInstr := [
    ⟨(some 15), none, .mov (.tmp 4)⟩,
    ⟨(some 16), none, .ibin .mul (.tmp 15) (.const (.int .u32 16777619))⟩,
    ⟨(some 17), none, .mov (.tmp 0)⟩,
    ⟨(some 18), none, .mov (.tmp 5)⟩,
    ⟨(some 19), none, .indexStr (.tmp 17) (.tmp 18)⟩,
    ⟨(some 20), none, .conv .u32 (.tmp 19)⟩,
    ⟨(some 21), none, .ibin .add (.tmp 16) (.tmp 20)⟩,
    ⟨(some 4), none, .mov (.tmp 21)⟩]

def f56r5 : List AInstr := [
    ⟨(some 13), none, .mov (.tmp 5)⟩,
    ⟨(some 14), none, .ibin .add (.tmp 13) (.const (.int .i64 1))⟩,
    ⟨(some 5), none, .mov (.tmp 14)⟩]

/-- live: [0, 4, 5] -/
def f56l0 : ACode := (.seq (.seq (.ops f56r3)
  (.keep [0, 4, 5, 12] (.cond (.tmp 12) .skip (.exit 0))))
  (.keep [0, 4, 5] (.seq (.block 1 (.ops f56r4))
  (.keep [0, 4, 5] (.ops f56r5)))))

def f56r7 : List AInstr := [
    ⟨(some 6), none, .mov (.const (.int .u32 1))⟩,
    ⟨(some 7), none, .mov (.const (.int .u32 16777619))⟩]

def f56r8 : List AInstr := [
    ⟨(some 22), none, .mov (.tmp 0)⟩,
    ⟨(some 23), none, .str .len [.tmp 22]⟩,
    ⟨(some 8), none, .mov (.tmp 23)⟩]

def f56r9 : List AInstr := [
    ⟨(some 24), none, .mov (.tmp 8)⟩,
    ⟨(some 25), none, .ibin .gtr (.tmp 24) (.const (.int .i64 0))⟩]

def f56r10 : List AInstr := [
    ⟨(some 28), none, .mov (.tmp 8)⟩,
    ⟨(some 29), none, .ibin .and (.tmp 28) (.const (.int .i64 1))⟩,
    ⟨(some 30), none, .ibin .neq (.tmp 29) (.const (.int .i64 0))⟩]

def f56r11 : List AInstr := [
    ⟨(some 31), none, .mov (.tmp 6)⟩,
    ⟨(some 32), none, .mov (.tmp 7)⟩,
    ⟨(some 33), none, .ibin .mul (.tmp 31) (.tmp 32)⟩,
    ⟨(some 6), none, .mov (.tmp 33)⟩]

def f56r12 : List AInstr := [
    ⟨(some 34), none, .mov (.tmp 7)⟩,
    ⟨(some 35), none, .mov (.tmp 7)⟩,
    ⟨(some 36), none, .ibin .mul (.tmp 34) (.tmp 35)⟩,
    ⟨(some 7), none, .mov (.tmp 36)⟩]

def f56r13 : List AInstr := [
    ⟨(some 26), none, .mov (.tmp 8)⟩,
    ⟨(some 27), none, .ibin .shr (.tmp 26) (.const (.int .u64 1))⟩,
    ⟨(some 8), none, .mov (.tmp 27)⟩]

/-- live: [4, 6, 7, 8] -/
def f56l1 : ACode := (.seq (.seq (.ops f56r9)
  (.keep [4, 6, 7, 8, 25] (.cond (.tmp 25) .skip (.exit 2))))
  (.keep [4, 6, 7, 8] (.seq (.block 3 (.seq (.seq (.ops f56r10)
  (.keep [4, 6, 7, 8, 30] (.cond (.tmp 30) (.keep [4, 6, 7, 8] (.ops f56r11)) .skip)))
  (.keep [4, 6, 7, 8] (.ops f56r12))))
  (.keep [4, 6, 7, 8] (.ops f56r13)))))

def f56r15 : List AInstr := [
    ⟨(some 37), none, .mov (.tmp 4)⟩,
    ⟨(some 38), none, .mov (.tmp 6)⟩,
    ⟨(some 2), none, .mov (.tmp 37)⟩,
    ⟨(some 3), none, .mov (.tmp 38)⟩]

def f56b : ACode := (.seq (.ops f56r0)
  (.keep [0] (.seq (.ops f56r1)
  (.keep [0, 4] (.seq (.seq (.ops f56r2)
  (.keep [0, 4, 5] (.block 0 (.loop f56l0))))
  (.keep [0, 4] (.seq (.ops f56r7)
  (.keep [0, 4, 6, 7] (.seq (.seq (.ops f56r8)
  (.keep [4, 6, 7, 8] (.block 2 (.loop f56l1))))
  (.keep [4, 6] (.seq (.ops f56r15)
  (.keep [2, 3] .ret))))))))))))

def f56 : AFn := ⟨39, [.tmp 2, .tmp 3], f56b⟩

theorem f56_ok : compFn Tryd.prog 56 = some f56.strip := by kernel_rfl

/- function 57: strings.explode; parameters 2; operations that are not compiled: 2 -/
def f57r0 : List AInstr := [
    ⟨(some 4), none, .mov (.const (.slice none 0 0))⟩]

def f57r1 : List AInstr := [
    ⟨(some 10), none, .mov (.tmp 0)⟩,
    ⟨(some 11), none, .callF 14 [.tmp 10]⟩,
    ⟨(some 5), none, .mov (.tmp 11)⟩]

def f57r2 : List AInstr := [
    ⟨(some 12), none, .mov (.tmp 1)⟩,
    ⟨(some 13), none, .ibin .lss (.tmp 12) (.const (.int .i64 0))⟩,
    ⟨(some 14), none, .mov (.tmp 13)⟩,
    ⟨(some 15), (some (14, false)), .mov (.tmp 1)⟩,
    ⟨(some 16), (some (14, false)), .mov (.tmp 5)⟩,
    ⟨(some 17), (some (14, false)), .ibin .gtr (.tmp 15) (.tmp 16)⟩,
    ⟨(some 18), none, .pick (.tmp 14) (.const (.bool true)) (.tmp 17)⟩]

def f57r3 : List AInstr := [
    ⟨(some 19), none, .mov (.tmp 5)⟩,
    ⟨(some 1), none, .mov (.tmp 19)⟩]

def f57r4 : List AInstr := [
    ⟨(some 20), none, .mov (.tmp 1)⟩,
    ⟨(some 21), none, .makeSlice 1 16 [.string ⟨#[]⟩] (.tmp 20) (.tmp 20)⟩,
    ⟨(some 6), none, .mov (.tmp 21)⟩]

def f57r5 : List AInstr := [
    ⟨(some 7), none, .mov (.const (.int .i64 0))⟩]

def f57r6 : List AInstr := [
    ⟨(some 22), none, .mov (.tmp 7)⟩,
    ⟨(some 23), none, .mov (.tmp 1)⟩,
    ⟨(some 24), none, .ibin .sub (.tmp 23) (.const (.int .i64 1))⟩,
    ⟨(some 25), none, .ibin .lss (.tmp 22) (.tmp 24)⟩]

def f57r7 : List AInstr := [
    ⟨(some 29), none, .mov (.tmp 0)⟩,
    ⟨(some 30), none, .callF 65 [.tmp 29]⟩,
    ⟨(some 28), none, .mov (.tmp 30)⟩,
    ⟨(some 31), none, .extract 0 (.tmp 28)⟩,
    ⟨(some 32), none, .extract 1 (.tmp 28)⟩,
    ⟨(some 8), none, .mov (.tmp 31)⟩,
    ⟨(some 9), none, .mov (.tmp 32)⟩]

def f57r8 : List AInstr := [
    ⟨(some 33), none, .mov (.tmp 6)⟩,
    ⟨(some 34), none, .mov (.tmp 7)⟩,
    ⟨(some 35), none, .mov (.tmp 0)⟩,
    ⟨(some 36), none, .mov (.tmp 9)⟩,
    ⟨(some 37), none, .bad⟩,
    ⟨(some 38), none, .indexAddr 1 (.tmp 33) (.tmp 34)⟩,
    ⟨none, none, .store 1 (.tmp 38) (.tmp 37)⟩]

def f57r9 : List AInstr := [
    ⟨(some 39), none, .mov (.tmp 0)⟩,
    ⟨(some 40), none, .mov (.tmp 9)⟩,
    ⟨(some 41), none, .bad⟩,
    ⟨(some 0), none, .mov (.tmp 41)⟩]

def f57r10 : List AInstr := [
    ⟨(some 26), none, .mov (.tmp 7)⟩,
    ⟨(some 27), none, .ibin .add (.tmp 26) (.const (.int .i64 1))⟩,
    ⟨(some 7), none, .mov (.tmp 27)⟩]

/-- live: [0, 1, 6, 7] -/
def f57l0 : ACode := (.seq (.seq (.ops f57r6)
  (.keep [0, 1, 6, 7, 25] (.cond (.tmp 25) .skip (.exit 0))))
  (.keep [0, 1, 6, 7] (.seq (.block 1 (.seq (.ops f57r7)
  (.keep [0, 1, 6, 7, 9] (.seq (.ops f57r8)
  (.keep [0, 1, 6, 7, 9] (.ops f57r9))))))
  (.keep [0, 1, 6, 7] (.ops f57r10)))))

def f57r12 : List AInstr := [
    ⟨(some 42), none, .mov (.tmp 1)⟩,
    ⟨(some 43), none, .ibin .gtr (.tmp 42) (.const (.int .i64 0))⟩]

def f57r13 : List AInstr := [
    ⟨(some 44), none, .mov (.tmp 6)⟩,
    ⟨(some 45), none, .mov (.tmp 1)⟩,
    ⟨(some 46), none, .ibin .sub (.tmp 45) (.const (.int .i64 1))⟩,
    ⟨(some 47), none, .mov (.tmp 0)⟩,
    ⟨(some 48), none, .indexAddr 1 (.tmp 44) (.tmp 46)⟩,
    ⟨none, none, .store 1 (.tmp 48) (.tmp 47)⟩]

def f57r14 : List AInstr := [
    ⟨(some 49), none, .mov (.tmp 6)⟩,
    ⟨(some 4), none, .mov (.tmp 49)⟩]

def f57b : ACode := (.seq (.ops f57r0)
  (.keep [0, 1] (.seq (.ops f57r1)
  (.keep [0, 1, 5] (.seq (.seq (.ops f57r2)
  (.keep [0, 1, 5, 18] (.cond (.tmp 18) (.keep [0, 5] (.ops f57r3)) .skip)))
  (.keep [0, 1] (.seq (.ops f57r4)
  (.keep [0, 1, 6] (.seq (.seq (.ops f57r5)
  (.keep [0, 1, 6, 7] (.block 0 (.loop f57l0))))
  (.keep [0, 1, 6] (.seq (.seq (.ops f57r12)
  (.keep [0, 1, 6, 43] (.cond (.tmp 43) (.keep [0, 1, 6] (.ops f57r13)) .skip)))
  (.keep [6] (.seq (.ops f57r14)
  (.keep [4] .ret))))))))))))))

def f57 : AFn := ⟨50, [.tmp 4], f57b⟩

theorem f57_ok : compFn Tryd.prog 57 = some f57.strip := by kernel_rfl

/- function 58: internal/strconv.Atoi; parameters 1; operations that are not compiled: 4 -/
def f58r0 : List AInstr := [
    ⟨(some 2), none, .mov (.const (.int .i64 0))⟩,
    ⟨(some 3), none, .mov (.const (.nilIface))⟩]

def f58r1 : List AInstr := [
    ⟨(some 11), none, .mov (.tmp 0)⟩,
    ⟨(some 12), none, .str .len [.tmp 11]⟩,
    ⟨(some 4), none, .mov (.tmp 12)⟩]

def f58r2 : List AInstr := [
    ⟨(some 13), none, .mov (.const (.bool false))⟩,
    ⟨(some 14), (some (13, true)), .mov (.tmp 4)⟩,
    ⟨(some 15), (some (13, true)), .ibin .lss (.const (.int .i64 0)) (.tmp 14)⟩,
    ⟨(some 16), (some (13, true)), .mov (.tmp 15)⟩,
    ⟨(some 17), (some (16, true)), .mov (.tmp 4)⟩,
    ⟨(some 18), (some (16, true)), .ibin .lss (.tmp 17) (.const (.int .i64 10))⟩,
    ⟨(some 19), (some (13, true)), .pick (.tmp 16) (.tmp 18) (.const (.bool false))⟩,
    ⟨(some 20), none, .pick (.tmp 13) (.tmp 19) (.const (.bool false))⟩,
    ⟨(some 21), none, .mov (.tmp 20)⟩,
    ⟨(some 22), (some (21, false)), .mov (.const (.bool true))⟩,
    ⟨(some 23), (some (22, true)), .mov (.tmp 4)⟩,
    ⟨(some 24), (some (22, true)), .ibin .lss (.const (.int .i64 0)) (.tmp 23)⟩,
    ⟨(some 25), (some (22, true)), .mov (.tmp 24)⟩,
    ⟨(some 26), (some (25, true)), .mov (.tmp 4)⟩,
    ⟨(some 27), (some (25, true)), .ibin .lss (.tmp 26) (.const (.int .i64 19))⟩,
    ⟨(some 28), (some (22, true)), .pick (.tmp 25) (.tmp 27) (.const (.bool false))⟩,
    ⟨(some 29), (some (21, false)), .pick (.tmp 22) (.tmp 28) (.const (.bool false))⟩,
    ⟨(some 30), none, .pick (.tmp 21) (.const (.bool true)) (.tmp 29)⟩]

def f58r3 : List AInstr := [
    ⟨(some 31), none, .mov (.tmp 0)⟩,
    ⟨(some 5), none, .mov (.tmp 31)⟩]

def f58r4 : List AInstr := [
    ⟨(some 32), none, .mov (.tmp 0)⟩,
    ⟨(some 33), none, .indexStr (.tmp 32) (.const (.int .i64 0))⟩,
    ⟨(some 34), none, .ibin .eql (.tmp 33) (.const (.int .u8 45))⟩,
    ⟨(some 35), none, .mov (.tmp 34)⟩,
    ⟨(some 36), (some (35, false)), .mov (.tmp 0)⟩,
    ⟨(some 37), (some (35, false)), .indexStr (.tmp 36) (.const (.int .i64 0))⟩,
    ⟨(some 38), (some (35, false)), .ibin .eql (.tmp 37) (.const (.int .u8 43))⟩,
    ⟨(some 39), none, .pick (.tmp 35) (.const (.bool true)) (.tmp 38)⟩]

def f58r5 : List AInstr := [
    ⟨(some 40), none, .mov (.tmp 0)⟩,
    ⟨(some 41), none, .bad⟩,
    ⟨(some 0), none, .mov (.tmp 41)⟩]

def f58r6 : List AInstr := [
    ⟨(some 42), none, .mov (.tmp 0)⟩,
    ⟨(some 43), none, .str .len [.tmp 42]⟩,
    ⟨(some 44), none, .ibin .lss (.tmp 43) (.const (.int .i64 1))⟩]

def f58r7 : List AInstr := [
    ⟨(some 45), none, .bad⟩,
    ⟨(some 2), none, .mov (.const (.int .i64 0))⟩,
    ⟨(some 3), none, .mov (.tmp 45)⟩]

def f58r8 : List AInstr := [
    ⟨(some 6), none, .mov (.const (.int .i64 0))⟩]

def f58r9 : List AInstr := [
    ⟨(some 46), none, .mov (.tmp 0)⟩,
    ⟨(some 47), none, .bad⟩,
    ⟨(some 48), none, .len (.tmp 47)⟩,
    ⟨(some 49), none, .mov (.const (.int .i64 0))⟩]

def f58r10 : List AInstr := [
    ⟨(some 50), none, .ibin .lss (.tmp 49) (.tmp 48)⟩]

def f58r11 : List AInstr := [
    ⟨(some 51), none, .indexAddr 1 (.tmp 47) (.tmp 49)⟩,
    ⟨(some 52), none, .load none (.tmp 51)⟩,
    ⟨(some 8), none, .mov (.tmp 52)⟩]

def f58r12 : List AInstr := [
    ⟨(some 53), none, .mov (.tmp 8)⟩,
    ⟨(some 54), none, .ibin .sub (.tmp 53) (.const (.int .u8 48))⟩,
    ⟨(some 8), none, .mov (.tmp 54)⟩]

def f58r13 : List AInstr := [
    ⟨(some 55), none, .mov (.tmp 8)⟩,
    ⟨(some 56), none, .ibin .gtr (.tmp 55) (.const (.int .u8 9))⟩]

def f58r14 : List AInstr := [
    ⟨(some 57), none, .bad⟩,
    ⟨(some 2), none, .mov (.const (.int .i64 0))⟩,
    ⟨(some 3), none, .mov (.tmp 57)⟩]

def f58r15 : List AInstr := [
    ⟨(some 58), none, .mov (.tmp 6)⟩,
    ⟨(some 59), none, .ibin .mul (.tmp 58) (.const (.int .i64 10))⟩,
    ⟨(some 60), none, .mov (.tmp 8)⟩,
    ⟨(some 61), none, .conv .i64 (.tmp 60)⟩,
    ⟨(some 62), none, .ibin .add (.tmp 59) (.tmp 61)⟩,
    ⟨(some 6), none, .mov (.tmp 62)⟩]

def f58r16 : List AInstr := [
    ⟨(some 63), none, .ibin .add (.tmp 49) (.const (.int .i64 1))⟩,
    ⟨(some 49), none, .mov (.tmp 63)⟩]

/-- live: [5, 6, 47, 48, 49] -/
def f58l0 : ACode := (.seq (.ops f58r10)
  (.keep [5, 6, 47, 48, 49, 50] (.seq (.cond (.tmp 50) .skip (.exit 0))
  (.keep [5, 6, 47, 48, 49] (.seq (.block 1 (.seq (.ops f58r11)
  (.keep [5, 6, 8, 47, 48, 49] (.seq (.ops f58r12)
  (.keep [5, 6, 8, 47, 48, 49] (.seq (.seq (.ops f58r13)
  (.keep [5, 6, 8, 47, 48, 49, 56] (.cond (.tmp 56) (.keep [] (.seq (.ops f58r14)
  (.keep [2, 3] .ret))) .skip)))
  (.keep [5, 6, 8, 47, 48, 49] (.ops f58r15))))))))
  (.keep [5, 6, 47, 48, 49] (.ops f58r16)))))))

def f58r18 : List AInstr := [
    ⟨(some 64), none, .mov (.tmp 5)⟩,
    ⟨(some 65), none, .indexStr (.tmp 64) (.const (.int .i64 0))⟩,
    ⟨(some 66), none, .ibin .eql (.tmp 65) (.const (.int .u8 45))⟩]

def f58r19 : List AInstr := [
    ⟨(some 67), none, .mov (.tmp 6)⟩,
    ⟨(some 68), none, .un .neg (.tmp 67)⟩,
    ⟨(some 6), none, .mov (.tmp 68)⟩]

def f58r20 : List AInstr := [
    ⟨(some 69), none, .mov (.tmp 6)⟩,
    ⟨(some 2), none, .mov (.tmp 69)⟩,
    ⟨(some 3), none, .mov (.const (.nilIface))⟩]

def f58r21 : List AInstr := [
    ⟨(some 71), none, .mov (.tmp 0)⟩,
    ⟨(some 72), none, .callF 66 [.tmp 71, .const (.int .i64 10), .const (.int .i64 0)]⟩,
    ⟨(some 70), none, .mov (.tmp 72)⟩,
    ⟨(some 73), none, .extract 0 (.tmp 70)⟩,
    ⟨(some 74), none, .extract 1 (.tmp 70)⟩,
    ⟨(some 9), none, .mov (.tmp 73)⟩,
    ⟨(some 10), none, .mov (.tmp 74)⟩]

def f58r22 : List AInstr := [
    ⟨(some 75), none, .mov (.tmp 9)⟩,
    ⟨(some 76), none, .mov (.tmp 10)⟩,
    ⟨(some 2), none, .mov (.tmp 75)⟩,
    ⟨(some 3), none, .mov (.tmp 76)⟩]

def f58b : ACode := (.seq (.ops f58r0)
  (.keep [0] (.seq (.ops f58r1)
  (.keep [0, 4] (.seq (.seq (.ops f58r2)
  (.keep [0, 30] (.cond (.tmp 30) (.keep [0] (.seq (.ops f58r3)
  (.keep [0, 5] (.seq (.seq (.ops f58r4)
  (.keep [0, 5, 39] (.cond (.tmp 39) (.keep [0, 5] (.seq (.ops f58r5)
  (.keep [0, 5] (.seq (.ops f58r6)
  (.keep [0, 5, 44] (.cond (.tmp 44) (.keep [] (.seq (.ops f58r7)
  (.keep [2, 3] .ret))) .skip)))))) .skip)))
  (.keep [0, 5] (.seq (.ops f58r8)
  (.keep [0, 5, 6] (.seq (.seq (.ops f58r9)
  (.keep [5, 6, 47, 48, 49] (.block 0 (.loop f58l0))))
  (.keep [5, 6] (.seq (.seq (.ops f58r18)
  (.keep [6, 66] (.cond (.tmp 66) (.keep [6] (.ops f58r19)) .skip)))
  (.keep [6] (.seq (.ops f58r20)
  (.keep [2, 3] .ret))))))))))))) .skip)))
  (.keep [0] (.seq (.ops f58r21)
  (.keep [9, 10] (.seq (.ops f58r22)
  (.keep [2, 3] .ret))))))))))

def f58 : AFn := ⟨77, [.tmp 2, .tmp 3], f58b⟩

theorem f58_ok : compFn Tryd.prog 58 = some f58.strip := by kernel_rfl

/- function 59: strconv.toError; parameters 5; operations that are not compiled: 12 -/
def f59r0 : List AInstr := [
    ⟨(some 10), none, .mov (.const (.nilIface))⟩]

def f59r1 : List AInstr := [
    ⟨(some 11), none, .mov (.tmp 4)⟩]

def f59r2 : List AInstr := [
    ⟨(some 13), none, .bad⟩,
    ⟨(some 14), none, .bad⟩,
    ⟨(some 12), none, .mov (.tmp 14)⟩]

def f59r3 : List AInstr := [
    ⟨(some 15), none, .mov (.tmp 0)⟩,
    ⟨(some 16), none, .mov (.tmp 1)⟩,
    ⟨(some 17), none, .callF 67 [.tmp 15, .tmp 16]⟩,
    ⟨(some 18), none, .bad⟩,
    ⟨(some 10), none, .mov (.tmp 18)⟩]

def f59r4 : List AInstr := [
    ⟨(some 20), none, .bad⟩,
    ⟨(some 21), none, .bad⟩,
    ⟨(some 19), none, .mov (.tmp 21)⟩]

def f59r5 : List AInstr := [
    ⟨(some 22), none, .mov (.tmp 0)⟩,
    ⟨(some 23), none, .mov (.tmp 1)⟩,
    ⟨(some 24), none, .callF 68 [.tmp 22, .tmp 23]⟩,
    ⟨(some 25), none, .bad⟩,
    ⟨(some 10), none, .mov (.tmp 25)⟩]

def f59r6 : List AInstr := [
    ⟨(some 27), none, .bad⟩,
    ⟨(some 28), none, .bad⟩,
    ⟨(some 26), none, .mov (.tmp 28)⟩]

def f59r7 : List AInstr := [
    ⟨(some 29), none, .mov (.tmp 0)⟩,
    ⟨(some 30), none, .mov (.tmp 1)⟩,
    ⟨(some 31), none, .mov (.tmp 2)⟩,
    ⟨(some 32), none, .callF 69 [.tmp 29, .tmp 30, .tmp 31]⟩,
    ⟨(some 33), none, .bad⟩,
    ⟨(some 10), none, .mov (.tmp 33)⟩]

def f59r8 : List AInstr := [
    ⟨(some 35), none, .bad⟩,
    ⟨(some 36), none, .bad⟩,
    ⟨(some 34), none, .mov (.tmp 36)⟩]

def f59r9 : List AInstr := [
    ⟨(some 37), none, .mov (.tmp 0)⟩,
    ⟨(some 38), none, .mov (.tmp 1)⟩,
    ⟨(some 39), none, .mov (.tmp 3)⟩,
    ⟨(some 40), none, .callF 70 [.tmp 37, .tmp 38, .tmp 39]⟩,
    ⟨(some 41), none, .bad⟩,
    ⟨(some 10), none, .mov (.tmp 41)⟩]

def f59r10 : List AInstr := [
    ⟨(some 42), none, .mov (.tmp 4)⟩,
    ⟨(some 10), none, .mov (.tmp 42)⟩]

def f59b : ACode := (.seq (.ops f59r0)
  (.keep [0, 1, 2, 3, 4] (.seq (.seq (.ops f59r1)
  (.keep [0, 1, 2, 3, 4] (.block 0 (.seq (.ops f59r2)
  (.keep [0, 1, 2, 3, 4, 12] (.cond (.tmp 12) (.keep [0, 1] (.seq (.ops f59r3)
  (.keep [10] .ret))) (.keep [0, 1, 2, 3, 4] (.seq (.ops f59r4)
  (.keep [0, 1, 2, 3, 4, 19] (.cond (.tmp 19) (.keep [0, 1] (.seq (.ops f59r5)
  (.keep [10] .ret))) (.keep [0, 1, 2, 3, 4] (.seq (.ops f59r6)
  (.keep [0, 1, 2, 3, 4, 26] (.cond (.tmp 26) (.keep [0, 1, 2] (.seq (.ops f59r7)
  (.keep [10] .ret))) (.keep [0, 1, 3, 4] (.seq (.ops f59r8)
  (.keep [0, 1, 3, 4, 34] (.cond (.tmp 34) (.keep [0, 1, 3] (.seq (.ops f59r9)
  (.keep [10] .ret))) .skip))))))))))))))))))
  (.keep [4] (.seq (.ops f59r10)
  (.keep [10] .ret))))))

def f59 : AFn := ⟨43, [.tmp 10], f59b⟩

theorem f59_ok : compFn Tryd.prog 59 = some f59.strip := by kernel_rfl

/- function 60: internal/strconv.log10Pow2; parameters 1; operations that are not compiled: 0 -/
def f60r0 : List AInstr := [
    ⟨(some 2), none, .mov (.const (.int .i64 0))⟩]

def f60r1 : List AInstr := [
    ⟨(some 3), none, .mov (.tmp 0)⟩,
    ⟨(some 4), none, .ibin .mul (.tmp 3) (.const (.int .i64 78913))⟩,
    ⟨(some 5), none, .ibin .shr (.tmp 4) (.const (.int .u64 18))⟩,
    ⟨(some 2), none, .mov (.tmp 5)⟩]

def f60b : ACode := (.seq (.ops f60r0)
  (.keep [0] (.seq (.ops f60r1)
  (.keep [2] .ret))))

def f60 : AFn := ⟨6, [.tmp 2], f60b⟩

theorem f60_ok : compFn Tryd.prog 60 = some f60.strip := by kernel_rfl

/- function 61: math/bits.Len64; parameters 1; operations that are not compiled: 0 -/
def f61r0 : List AInstr := [
    ⟨(some 2), none, .mov (.const (.int .i64 0))⟩]

def f61r1 : List AInstr := [
    ⟨(some 3), none, .mov (.tmp 0)⟩,
    ⟨(some 4), none, .ibin .geq (.tmp 3) (.const (.int .u64 4294967296))⟩]

def f61r2 : List AInstr := [
    ⟨(some 5), none, .mov (.tmp 0)⟩,
    ⟨(some 6), none, .ibin .shr (.tmp 5) (.const (.int .u64 32))⟩,
    ⟨(some 0), none, .mov (.tmp 6)⟩]

def f61r3 : List AInstr := [
    ⟨(some 2), none, .mov (.const (.int .i64 32))⟩]

def f61r4 : List AInstr := [
    ⟨(some 7), none, .mov (.tmp 0)⟩,
    ⟨(some 8), none, .ibin .geq (.tmp 7) (.const (.int .u64 65536))⟩]

def f61r5 : List AInstr := [
    ⟨(some 9), none, .mov (.tmp 0)⟩,
    ⟨(some 10), none, .ibin .shr (.tmp 9) (.const (.int .u64 16))⟩,
    ⟨(some 0), none, .mov (.tmp 10)⟩]

def f61r6 : List AInstr := [
    ⟨(some 11), none, .mov (.tmp 2)⟩,
    ⟨(some 12), none, .ibin .add (.tmp 11) (.const (.int .i64 16))⟩,
    ⟨(some 2), none, .mov (.tmp 12)⟩]

def f61r7 : List AInstr := [
    ⟨(some 13), none, .mov (.tmp 0)⟩,
    ⟨(some 14), none, .ibin .geq (.tmp 13) (.const (.int .u64 256))⟩]

def f61r8 : List AInstr := [
    ⟨(some 15), none, .mov (.tmp 0)⟩,
    ⟨(some 16), none, .ibin .shr (.tmp 15) (.const (.int .u64 8))⟩,
    ⟨(some 0), none, .mov (.tmp 16)⟩]

def f61r9 : List AInstr := [
    ⟨(some 17), none, .mov (.tmp 2)⟩,
    ⟨(some 18), none, .ibin .add (.tmp 17) (.const (.int .i64 8))⟩,
    ⟨(some 2), none, .mov (.tmp 18)⟩]

def f61r10s0 : ByteArray := ⟨#[0, 1, 2, 2, 3, 3, 3, 3, 4, 4, 4, 4, 4, 4, 4, 4, 5, 5, 5, 5, 5, 5, 5, 5, 5, 5, 5, 5, 5, 5, 5, 5, 6, 6, 6, 6, 6, 6, 6, 6, 6, 6, 6, 6, 6, 6, 6, 6, 6, 6, 6, 6, 6, 6, 6, 6, 6, 6, 6, 6, 6, 6, 6, 6, 7, 7, 7, 7, 7, 7, 7, 7, 7, 7, 7, 7, 7, 7, 7, 7, 7, 7, 7, 7, 7, 7, 7, 7, 7, 7, 7, 7, 7, 7, 7, 7, 7, 7, 7, 7, 7, 7, 7, 7, 7, 7, 7, 7, 7, 7, 7, 7, 7, 7, 7, 7, 7, 7, 7, 7, 7, 7, 7, 7, 7, 7, 7, 7, 8, 8, 8, 8, 8, 8, 8, 8, 8, 8, 8, 8, 8, 8, 8, 8, 8, 8, 8, 8, 8, 8, 8, 8, 8, 8, 8, 8, 8, 8, 8, 8, 8, 8, 8, 8, 8, 8, 8, 8, 8, 8, 8, 8, 8, 8, 8, 8, 8, 8, 8, 8, 8, 8, 8, 8, 8, 8, 8, 8, 8, 8, 8, 8, 8, 8, 8, 8, 8, 8, 8, 8, 8, 8, 8, 8, 8, 8, 8, 8, 8, 8, 8, 8, 8, 8, 8, 8, 8, 8, 8, 8, 8, 8, 8, 8, 8, 8, 8, 8, 8, 8, 8, 8, 8, 8, 8, 8, 8, 8, 8, 8, 8, 8, 8, 8, 8, 8, 8, 8, 8, 8, 8, 8, 8, 8, 8, 8]⟩

def f61r10 : List AInstr := [
    ⟨(some 19), none, .mov (.tmp 2)⟩,
    ⟨(some 20), none, .mov (.tmp 0)⟩,
    ⟨(some 21), none, .conv .u8 (.tmp 20)⟩,
    ⟨(some 22), none, .indexStr (.const (.string f61r10s0)) (.tmp 21)⟩,
    ⟨(some 23), none, .conv .i64 (.tmp 22)⟩,
    ⟨(some 24), none, .ibin .add (.tmp 19) (.tmp 23)⟩,
    ⟨(some 2), none, .mov (.tmp 24)⟩]

def f61b : ACode := (.seq (.ops f61r0)
  (.keep [0, 2] (.seq (.seq (.ops f61r1)
  (.keep [0, 2, 4] (.cond (.tmp 4) (.keep [0] (.seq (.ops f61r2)
  (.keep [0] (.ops f61r3)))) .skip)))
  (.keep [0, 2] (.seq (.seq (.ops f61r4)
  (.keep [0, 2, 8] (.cond (.tmp 8) (.keep [0, 2] (.seq (.ops f61r5)
  (.keep [0, 2] (.ops f61r6)))) .skip)))
  (.keep [0, 2] (.seq (.seq (.ops f61r7)
  (.keep [0, 2, 14] (.cond (.tmp 14) (.keep [0, 2] (.seq (.ops f61r8)
  (.keep [0, 2] (.ops f61r9)))) .skip)))
  (.keep [0, 2] (.seq (.ops f61r10)
  (.keep [2] .ret))))))))))

def f61 : AFn := ⟨25, [.tmp 2], f61b⟩

theorem f61_ok : compFn Tryd.prog 61 = some f61.strip := by kernel_rfl

/- function 62: internal/strconv.bool2[int]; parameters 1; operations that are not compiled: 0 -/
def f62r0 : List AInstr := [
    ⟨(some 2), none, .mov (.const (.int .i64 0))⟩]

def f62r1 : List AInstr := [
    ⟨(some 3), none, .mov (.tmp 0)⟩]

def f62r2 : List AInstr := [
    ⟨(some 2), none, .mov (.const (.int .i64 1))⟩]

def f62r3 : List AInstr := [
    ⟨(some 2), none, .mov (.const (.int .i64 0))⟩]

def f62b : ACode := (.seq (.ops f62r0)
  (.keep [0] (.seq (.seq (.ops f62r1)
  (.keep [3] (.cond (.tmp 3) (.keep [] (.seq (.ops f62r2)
  (.keep [2] .ret))) .skip)))
  (.keep [] (.seq (.ops f62r3)
  (.keep [2] .ret))))))

def f62 : AFn := ⟨4, [.tmp 2], f62b⟩

theorem f62_ok : compFn Tryd.prog 62 = some f62.strip := by kernel_rfl

/- function 63: internal/strconv.isPowerOfTwo; parameters 1; operations that are not compiled: 0 -/
def f63r0 : List AInstr := [
    ⟨(some 2), none, .mov (.const (.bool false))⟩]

def f63r1 : List AInstr := [
    ⟨(some 3), none, .mov (.tmp 0)⟩,
    ⟨(some 4), none, .mov (.tmp 0)⟩,
    ⟨(some 5), none, .ibin .sub (.tmp 4) (.const (.int .i64 1))⟩,
    ⟨(some 6), none, .ibin .and (.tmp 3) (.tmp 5)⟩,
    ⟨(some 7), none, .ibin .eql (.tmp 6) (.const (.int .i64 0))⟩,
    ⟨(some 2), none, .mov (.tmp 7)⟩]

def f63b : ACode := (.seq (.ops f63r0)
  (.keep [0] (.seq (.ops f63r1)
  (.keep [2] .ret))))

def f63 : AFn := ⟨8, [.tmp 2], f63b⟩

theorem f63_ok : compFn Tryd.prog 63 = some f63.strip := by kernel_rfl

/- function 64: math/bits.TrailingZeros; parameters 1; operations that are not compiled: 0 -/
def f64r0 : List AInstr := [
    ⟨(some 2), none, .mov (.const (.int .i64 0))⟩]

def f64r1 : List AInstr := [
    ⟨(some 3), none, .mov (.tmp 0)⟩,
    ⟨(some 4), none, .conv .u32 (.tmp 3)⟩,
    ⟨(some 5), none, .callF 71 [.tmp 4]⟩,
    ⟨(some 2), none, .mov (.tmp 5)⟩]

def f64r2 : List AInstr := [
    ⟨(some 6), none, .mov (.tmp 0)⟩,
    ⟨(some 7), none, .callF 72 [.tmp 6]⟩,
    ⟨(some 2), none, .mov (.tmp 7)⟩]

def f64b : ACode := (.seq (.ops f64r0)
  (.keep [0] (.seq (.cond (.const (.bool false)) (.keep [0] (.seq (.ops f64r1)
  (.keep [2] .ret))) .skip)
  (.keep [0] (.seq (.ops f64r2)
  (.keep [2] .ret))))))

def f64 : AFn := ⟨8, [.tmp 2], f64b⟩

theorem f64_ok : compFn Tryd.prog 64 = some f64.strip := by kernel_rfl

/- function 65: unicode/utf8.DecodeRuneInString; parameters 1; operations that are not compiled: 0 -/
def f65r0 : List AInstr := [
    ⟨(some 2), none, .mov (.const (.int .i32 0))⟩,
    ⟨(some 3), none, .mov (.const (.int .i64 0))⟩]

def f65r1 : List AInstr := [
    ⟨(some 4), none, .mov (.tmp 0)⟩,
    ⟨(some 5), none, .str (.cmp true) [.tmp 4, .const (.string ⟨#[]⟩)]⟩,
    ⟨(some 6), none, .mov (.tmp 5)⟩,
    ⟨(some 7), (some (6, true)), .mov (.tmp 0)⟩,
    ⟨(some 8), (some (6, true)), .indexStr (.tmp 7) (.const (.int .i64 0))⟩,
    ⟨(some 9), (some (6, true)), .ibin .lss (.tmp 8) (.const (.int .u8 128))⟩,
    ⟨(some 10), none, .pick (.tmp 6) (.tmp 9) (.const (.bool false))⟩]

def f65r2 : List AInstr := [
    ⟨(some 11), none, .mov (.tmp 0)⟩,
    ⟨(some 12), none, .indexStr (.tmp 11) (.const (.int .i64 0))⟩,
    ⟨(some 13), none, .conv .i32 (.tmp 12)⟩,
    ⟨(some 2), none, .mov (.tmp 13)⟩,
    ⟨(some 3), none, .mov (.const (.int .i64 1))⟩]

def f65r3 : List AInstr := [
    ⟨(some 15), none, .mov (.tmp 0)⟩,
    ⟨(some 16), none, .callF 73 [.tmp 15]⟩,
    ⟨(some 14), none, .mov (.tmp 16)⟩,
    ⟨(some 17), none, .extract 0 (.tmp 14)⟩,
    ⟨(some 18), none, .extract 1 (.tmp 14)⟩,
    ⟨(some 2), none, .mov (.tmp 17)⟩,
    ⟨(some 3), none, .mov (.tmp 18)⟩]

def f65b : ACode := (.seq (.ops f65r0)
  (.keep [0] (.seq (.seq (.ops f65r1)
  (.keep [0, 10] (.cond (.tmp 10) (.keep [0] (.seq (.ops f65r2)
  (.keep [2, 3] .ret))) (.keep [0] (.ops f65r3)))))
  (.keep [2, 3] .ret))))

def f65 : AFn := ⟨19, [.tmp 2, .tmp 3], f65b⟩

theorem f65_ok : compFn Tryd.prog 65 = some f65.strip := by kernel_rfl

/- function 66: internal/strconv.ParseInt; parameters 3; operations that are not compiled: 7 -/
def f66r0 : List AInstr := [
    ⟨(some 6), none, .mov (.const (.int .i64 0))⟩,
    ⟨(some 7), none, .mov (.const (.nilIface))⟩]

def f66r1 : List AInstr := [
    ⟨(some 12), none, .mov (.tmp 0)⟩,
    ⟨(some 13), none, .str (.cmp false) [.tmp 12, .const (.string ⟨#[]⟩)]⟩]

def f66r2 : List AInstr := [
    ⟨(some 14), none, .bad⟩,
    ⟨(some 6), none, .mov (.const (.int .i64 0))⟩,
    ⟨(some 7), none, .mov (.tmp 14)⟩]

def f66r3 : List AInstr := [
    ⟨(some 8), none, .mov (.const (.bool false))⟩]

def f66r4 : List AInstr := [
    ⟨(some 15), none, .mov (.tmp 0)⟩,
    ⟨(some 16), none, .indexStr (.tmp 15) (.const (.int .i64 0))⟩]

def f66r5 : List AInstr := [
    ⟨(some 18), none, .ibin .eql (.tmp 16) (.const (.int .u8 43))⟩,
    ⟨(some 17), none, .mov (.tmp 18)⟩]

def f66r6 : List AInstr := [
    ⟨(some 19), none, .mov (.tmp 0)⟩,
    ⟨(some 20), none, .bad⟩,
    ⟨(some 0), none, .mov (.tmp 20)⟩]

def f66r7 : List AInstr := [
    ⟨(some 22), none, .ibin .eql (.tmp 16) (.const (.int .u8 45))⟩,
    ⟨(some 21), none, .mov (.tmp 22)⟩]

def f66r8 : List AInstr := [
    ⟨(some 23), none, .mov (.tmp 0)⟩,
    ⟨(some 24), none, .bad⟩,
    ⟨(some 0), none, .mov (.tmp 24)⟩]

def f66r9 : List AInstr := [
    ⟨(some 8), none, .mov (.const (.bool true))⟩]

def f66r10 : List AInstr := [
    ⟨(some 9), none, .mov (.const (.int .u64 0))⟩]

def f66r11 : List AInstr := [
    ⟨(some 26), none, .mov (.tmp 0)⟩,
    ⟨(some 27), none, .mov (.tmp 1)⟩,
    ⟨(some 28), none, .mov (.tmp 2)⟩,
    ⟨(some 29), none, .callF 74 [.tmp 26, .tmp 27, .tmp 28]⟩,
    ⟨(some 25), none, .mov (.tmp 29)⟩,
    ⟨(some 30), none, .extract 0 (.tmp 25)⟩,
    ⟨(some 31), none, .extract 1 (.tmp 25)⟩,
    ⟨(some 9), none, .mov (.tmp 30)⟩,
    ⟨(some 7), none, .mov (.tmp 31)⟩]

def f66r12 : List AInstr := [
    ⟨(some 32), none, .mov (.tmp 7)⟩,
    ⟨(some 33), none, .str (.isNil true) [.tmp 32]⟩,
    ⟨(some 34), none, .mov (.tmp 33)⟩,
    ⟨(some 35), (some (34, true)), .mov (.tmp 7)⟩,
    ⟨(some 36), (some (34, true)), .bad⟩,
    ⟨(some 37), (some (34, true)), .bad⟩,
    ⟨(some 38), none, .pick (.tmp 34) (.tmp 37) (.const (.bool false))⟩]

def f66r13 : List AInstr := [
    ⟨(some 39), none, .mov (.tmp 7)⟩,
    ⟨(some 6), none, .mov (.const (.int .i64 0))⟩,
    ⟨(some 7), none, .mov (.tmp 39)⟩]

def f66r14 : List AInstr := [
    ⟨(some 40), none, .mov (.tmp 2)⟩,
    ⟨(some 41), none, .ibin .eql (.tmp 40) (.const (.int .i64 0))⟩]

def f66r15 : List AInstr := [
    ⟨(some 2), none, .mov (.const (.int .i64 64))⟩]

def f66r16 : List AInstr := [
    ⟨(some 42), none, .mov (.tmp 2)⟩,
    ⟨(some 43), none, .ibin .sub (.tmp 42) (.const (.int .i64 1))⟩,
    ⟨(some 44), none, .conv .u64 (.tmp 43)⟩,
    ⟨(some 45), none, .ibin .shl (.const (.int .u64 1)) (.tmp 44)⟩,
    ⟨(some 10), none, .mov (.tmp 45)⟩]

def f66r17 : List AInstr := [
    ⟨(some 46), none, .mov (.tmp 8)⟩,
    ⟨(some 47), none, .un .not (.tmp 46)⟩,
    ⟨(some 48), none, .mov (.tmp 47)⟩,
    ⟨(some 49), (some (48, true)), .mov (.tmp 9)⟩,
    ⟨(some 50), (some (48, true)), .mov (.tmp 10)⟩,
    ⟨(some 51), (some (48, true)), .ibin .geq (.tmp 49) (.tmp 50)⟩,
    ⟨(some 52), none, .pick (.tmp 48) (.tmp 51) (.const (.bool false))⟩]

def f66r18 : List AInstr := [
    ⟨(some 53), none, .mov (.tmp 10)⟩,
    ⟨(some 54), none, .ibin .sub (.tmp 53) (.const (.int .u64 1))⟩,
    ⟨(some 55), none, .conv .i64 (.tmp 54)⟩,
    ⟨(some 56), none, .bad⟩,
    ⟨(some 6), none, .mov (.tmp 55)⟩,
    ⟨(some 7), none, .mov (.tmp 56)⟩]

def f66r19 : List AInstr := [
    ⟨(some 57), none, .mov (.tmp 8)⟩,
    ⟨(some 58), none, .mov (.tmp 57)⟩,
    ⟨(some 59), (some (58, true)), .mov (.tmp 9)⟩,
    ⟨(some 60), (some (58, true)), .mov (.tmp 10)⟩,
    ⟨(some 61), (some (58, true)), .ibin .gtr (.tmp 59) (.tmp 60)⟩,
    ⟨(some 62), none, .pick (.tmp 58) (.tmp 61) (.const (.bool false))⟩]

def f66r20 : List AInstr := [
    ⟨(some 63), none, .mov (.tmp 10)⟩,
    ⟨(some 64), none, .conv .i64 (.tmp 63)⟩,
    ⟨(some 65), none, .un .neg (.tmp 64)⟩,
    ⟨(some 66), none, .bad⟩,
    ⟨(some 6), none, .mov (.tmp 65)⟩,
    ⟨(some 7), none, .mov (.tmp 66)⟩]

def f66r21 : List AInstr := [
    ⟨(some 67), none, .mov (.tmp 9)⟩,
    ⟨(some 68), none, .conv .i64 (.tmp 67)⟩,
    ⟨(some 11), none, .mov (.tmp 68)⟩]

def f66r22 : List AInstr := [
    ⟨(some 69), none, .mov (.tmp 8)⟩]

def f66r23 : List AInstr := [
    ⟨(some 70), none, .mov (.tmp 11)⟩,
    ⟨(some 71), none, .un .neg (.tmp 70)⟩,
    ⟨(some 11), none, .mov (.tmp 71)⟩]

def f66r24 : List AInstr := [
    ⟨(some 72), none, .mov (.tmp 11)⟩,
    ⟨(some 6), none, .mov (.tmp 72)⟩,
    ⟨(some 7), none, .mov (.const (.nilIface))⟩]

def f66b : ACode := (.seq (.ops f66r0)
  (.keep [0, 1, 2] (.seq (.seq (.ops f66r1)
  (.keep [0, 1, 2, 13] (.cond (.tmp 13) (.keep [] (.seq (.ops f66r2)
  (.keep [6, 7] .ret))) .skip)))
  (.keep [0, 1, 2] (.seq (.ops f66r3)
  (.keep [0, 1, 2, 8] (.seq (.seq (.ops f66r4)
  (.keep [0, 1, 2, 8, 16] (.block 0 (.seq (.ops f66r5)
  (.keep [0, 1, 2, 8, 16, 17] (.cond (.tmp 17) (.keep [0, 1, 2, 8] (.ops f66r6)) (.keep [0, 1, 2, 8, 16] (.seq (.ops f66r7)
  (.keep [0, 1, 2, 8, 21] (.cond (.tmp 21) (.keep [0, 1, 2] (.seq (.ops f66r8)
  (.keep [0, 1, 2] (.ops f66r9)))) .skip))))))))))
  (.keep [0, 1, 2, 8] (.seq (.ops f66r10)
  (.keep [0, 1, 2, 8] (.seq (.ops f66r11)
  (.keep [2, 7, 8, 9] (.seq (.seq (.ops f66r12)
  (.keep [2, 7, 8, 9, 38] (.cond (.tmp 38) (.keep [7] (.seq (.ops f66r13)
  (.keep [6, 7] .ret))) .skip)))
  (.keep [2, 8, 9] (.seq (.seq (.ops f66r14)
  (.keep [2, 8, 9, 41] (.cond (.tmp 41) (.keep [8, 9] (.ops f66r15)) .skip)))
  (.keep [2, 8, 9] (.seq (.ops f66r16)
  (.keep [8, 9, 10] (.seq (.seq (.ops f66r17)
  (.keep [8, 9, 10, 52] (.cond (.tmp 52) (.keep [10] (.seq (.ops f66r18)
  (.keep [6, 7] .ret))) .skip)))
  (.keep [8, 9, 10] (.seq (.seq (.ops f66r19)
  (.keep [8, 9, 10, 62] (.cond (.tmp 62) (.keep [10] (.seq (.ops f66r20)
  (.keep [6, 7] .ret))) .skip)))
  (.keep [8, 9] (.seq (.ops f66r21)
  (.keep [8, 11] (.seq (.seq (.ops f66r22)
  (.keep [11, 69] (.cond (.tmp 69) (.keep [11] (.ops f66r23)) .skip)))
  (.keep [11] (.seq (.ops f66r24)
  (.keep [6, 7] .ret))))))))))))))))))))))))))))

def f66 : AFn := ⟨73, [.tmp 6, .tmp 7], f66b⟩

theorem f66_ok : compFn Tryd.prog 66 = some f66.strip := by kernel_rfl

/- function 67: strconv.syntaxError; parameters 2; operations that are not compiled: 0 -/
def f67r0 : List AInstr := [
    ⟨(some 4), none, .mov (.const (.pointer none))⟩]

def f67r1 : List AInstr := [
    ⟨(some 5), none, .mov (.tmp 0)⟩,
    ⟨(some 6), none, .mov (.tmp 1)⟩,
    ⟨(some 8), none, .load none .bad⟩,
    ⟨(some 7), none, .callF 75 [.tmp 6]⟩,
    ⟨(some 9), none, .build [.string ⟨#[]⟩, .string ⟨#[]⟩, .nilIface] [(0, 1, (.tmp 5)), (1, 1, (.tmp 7)), (2, 1, (.tmp 8))]⟩,
    ⟨(some 10), none, .box (.tmp 9)⟩,
    ⟨(some 4), none, .mov (.tmp 10)⟩]

def f67b : ACode := (.seq (.ops f67r0)
  (.keep [0, 1] (.seq (.alt [(f67r1, [(0, 1, false), (0, 0, false), (0, 1, false), (0, 0, true), (1, 1, false), (1, 0, true), (2, 2, false)])])
  (.keep [4] .ret))))

def f67 : AFn := ⟨11, [.tmp 4], f67b⟩

theorem f67_ok : compFn Tryd.prog 67 = some f67.strip := by kernel_rfl

/- function 68: strconv.rangeError; parameters 2; operations that are not compiled: 0 -/
def f68r0 : List AInstr := [
    ⟨(some 4), none, .mov (.const (.pointer none))⟩]

def f68r1 : List AInstr := [
    ⟨(some 5), none, .mov (.tmp 0)⟩,
    ⟨(some 6), none, .mov (.tmp 1)⟩,
    ⟨(some 8), none, .load none .bad⟩,
    ⟨(some 7), none, .callF 75 [.tmp 6]⟩,
    ⟨(some 9), none, .build [.string ⟨#[]⟩, .string ⟨#[]⟩, .nilIface] [(0, 1, (.tmp 5)), (1, 1, (.tmp 7)), (2, 1, (.tmp 8))]⟩,
    ⟨(some 10), none, .box (.tmp 9)⟩,
    ⟨(some 4), none, .mov (.tmp 10)⟩]

def f68b : ACode := (.seq (.ops f68r0)
  (.keep [0, 1] (.seq (.alt [(f68r1, [(0, 1, false), (0, 0, false), (0, 1, false), (0, 0, true), (1, 1, false), (1, 0, true), (2, 2, false)])])
  (.keep [4] .ret))))

def f68 : AFn := ⟨11, [.tmp 4], f68b⟩

theorem f68_ok : compFn Tryd.prog 68 = some f68.strip := by kernel_rfl

/- function 69: strconv.baseError; parameters 3; operations that are not compiled: 0 -/
def f69r0 : List AInstr := [
    ⟨(some 6), none, .mov (.const (.pointer none))⟩]

def f69r1 : List AInstr := [
    ⟨(some 7), none, .mov (.tmp 0)⟩,
    ⟨(some 8), none, .mov (.tmp 1)⟩,
    ⟨(some 9), none, .callF 75 [.tmp 8]⟩,
    ⟨(some 10), none, .mov (.tmp 2)⟩,
    ⟨(some 11), none, .callF 13 [.tmp 10]⟩,
    ⟨(some 12), none, .str .add [.const (.string ⟨#[105, 110, 118, 97, 108, 105, 100, 32, 98, 97, 115, 101, 32]⟩), .tmp 11]⟩,
    ⟨(some 13), none, .callF 76 [.tmp 12]⟩,
    ⟨(some 14), none, .build [.string ⟨#[]⟩, .string ⟨#[]⟩, .nilIface] [(0, 1, (.tmp 7)), (1, 1, (.tmp 9)), (2, 1, (.tmp 13))]⟩,
    ⟨(some 15), none, .box (.tmp 14)⟩,
    ⟨(some 6), none, .mov (.tmp 15)⟩]

def f69b : ACode := (.seq (.ops f69r0)
  (.keep [0, 1, 2] (.seq (.ops f69r1)
  (.keep [6] .ret))))

def f69 : AFn := ⟨16, [.tmp 6], f69b⟩

theorem f69_ok : compFn Tryd.prog 69 = some f69.strip := by kernel_rfl

/- function 70: strconv.bitSizeError; parameters 3; operations that are not compiled: 0 -/
def f70r0 : List AInstr := [
    ⟨(some 6), none, .mov (.const (.pointer none))⟩]

def f70r1 : List AInstr := [
    ⟨(some 7), none, .mov (.tmp 0)⟩,
    ⟨(some 8), none, .mov (.tmp 1)⟩,
    ⟨(some 9), none, .callF 75 [.tmp 8]⟩,
    ⟨(some 10), none, .mov (.tmp 2)⟩,
    ⟨(some 11), none, .callF 13 [.tmp 10]⟩,
    ⟨(some 12), none, .str .add [.const (.string ⟨#[105, 110, 118, 97, 108, 105, 100, 32, 98, 105, 116, 32, 115, 105, 122, 101, 32]⟩), .tmp 11]⟩,
    ⟨(some 13), none, .callF 76 [.tmp 12]⟩,
    ⟨(some 14), none, .build [.string ⟨#[]⟩, .string ⟨#[]⟩, .nilIface] [(0, 1, (.tmp 7)), (1, 1, (.tmp 9)), (2, 1, (.tmp 13))]⟩,
    ⟨(some 15), none, .box (.tmp 14)⟩,
    ⟨(some 6), none, .mov (.tmp 15)⟩]

def f70b : ACode := (.seq (.ops f70r0)
  (.keep [0, 1, 2] (.seq (.ops f70r1)
  (.keep [6] .ret))))

def f70 : AFn := ⟨16, [.tmp 6], f70b⟩

theorem f70_ok : compFn Tryd.prog 70 = some f70.strip := by kernel_rfl

/- function 71: math/bits.TrailingZeros32; parameters 1; operations that are not compiled: 0 -/
def f71r0 : List AInstr := [
    ⟨(some 2), none, .mov (.const (.int .i64 0))⟩]

def f71r1 : List AInstr := [
    ⟨(some 3), none, .mov (.tmp 0)⟩,
    ⟨(some 4), none, .ibin .eql (.tmp 3) (.const (.int .u32 0))⟩]

def f71r2 : List AInstr := [
    ⟨(some 2), none, .mov (.const (.int .i64 32))⟩]

def f71r3 : List AInstr := [
    ⟨(some 5), none, .mov (.tmp 0)⟩,
    ⟨(some 6), none, .mov (.tmp 0)⟩,
    ⟨(some 7), none, .un .neg (.tmp 6)⟩,
    ⟨(some 8), none, .ibin .and (.tmp 5) (.tmp 7)⟩,
    ⟨(some 9), none, .ibin .mul (.tmp 8) (.const (.int .u32 125613361))⟩,
    ⟨(some 10), none, .ibin .shr (.tmp 9) (.const (.int .u64 27))⟩,
    ⟨(some 11), none, .indexArr 1 32 .bad (.tmp 10)⟩,
    ⟨(some 12), none, .load none (.tmp 11)⟩,
    ⟨(some 13), none, .conv .i64 (.tmp 12)⟩,
    ⟨(some 2), none, .mov (.tmp 13)⟩]

def f71b : ACode := (.seq (.ops f71r0)
  (.keep [0] (.seq (.seq (.ops f71r1)
  (.keep [0, 4] (.cond (.tmp 4) (.keep [] (.seq (.ops f71r2)
  (.keep [2] .ret))) .skip)))
  (.keep [0] (.seq (.ops f71r3)
  (.keep [2] .ret))))))

def f71 : AFn := ⟨14, [.tmp 2], f71b⟩

theorem f71_ok : compFn Tryd.prog 71 = some f71.strip := by kernel_rfl

/- function 72: math/bits.TrailingZeros64; parameters 1; operations that are not compiled: 0 -/
def f72r0 : List AInstr := [
    ⟨(some 2), none, .mov (.const (.int .i64 0))⟩]

def f72r1 : List AInstr := [
    ⟨(some 3), none, .mov (.tmp 0)⟩,
    ⟨(some 4), none, .ibin .eql (.tmp 3) (.const (.int .u64 0))⟩]

def f72r2 : List AInstr := [
    ⟨(some 2), none, .mov (.const (.int .i64 64))⟩]

def f72r3 : List AInstr := [
    ⟨(some 5), none, .mov (.tmp 0)⟩,
    ⟨(some 6), none, .mov (.tmp 0)⟩,
    ⟨(some 7), none, .un .neg (.tmp 6)⟩,
    ⟨(some 8), none, .ibin .and (.tmp 5) (.tmp 7)⟩,
    ⟨(some 9), none, .ibin .mul (.tmp 8) (.const (.int .u64 285870213051353865))⟩,
    ⟨(some 10), none, .ibin .shr (.tmp 9) (.const (.int .u64 58))⟩,
    ⟨(some 11), none, .indexArr 1 64 .bad (.tmp 10)⟩,
    ⟨(some 12), none, .load none (.tmp 11)⟩,
    ⟨(some 13), none, .conv .i64 (.tmp 12)⟩,
    ⟨(some 2), none, .mov (.tmp 13)⟩]

def f72b : ACode := (.seq (.ops f72r0)
  (.keep [0] (.seq (.seq (.ops f72r1)
  (.keep [0, 4] (.cond (.tmp 4) (.keep [] (.seq (.ops f72r2)
  (.keep [2] .ret))) .skip)))
  (.keep [0] (.seq (.ops f72r3)
  (.keep [2] .ret))))))

def f72 : AFn := ⟨14, [.tmp 2], f72b⟩

theorem f72_ok : compFn Tryd.prog 72 = some f72.strip := by kernel_rfl

/- function 73: unicode/utf8.decodeRuneInStringSlow; parameters 1; operations that are not compiled: 0 -/
def f73r0 : List AInstr := [
    ⟨(some 2), none, .mov (.const (.int .i32 0))⟩,
    ⟨(some 3), none, .mov (.const (.int .i64 0))⟩]

def f73r1 : List AInstr := [
    ⟨(some 13), none, .mov (.tmp 0)⟩,
    ⟨(some 14), none, .str .len [.tmp 13]⟩,
    ⟨(some 4), none, .mov (.tmp 14)⟩]

def f73r2 : List AInstr := [
    ⟨(some 15), none, .mov (.tmp 4)⟩,
    ⟨(some 16), none, .ibin .lss (.tmp 15) (.const (.int .i64 1))⟩]

def f73r3 : List AInstr := [
    ⟨(some 2), none, .mov (.const (.int .i32 65533))⟩,
    ⟨(some 3), none, .mov (.const (.int .i64 0))⟩]

def f73r4 : List AInstr := [
    ⟨(some 17), none, .mov (.tmp 0)⟩,
    ⟨(some 18), none, .indexStr (.tmp 17) (.const (.int .i64 0))⟩,
    ⟨(some 5), none, .mov (.tmp 18)⟩]

def f73r5 : List AInstr := [
    ⟨(some 19), none, .mov (.tmp 5)⟩,
    ⟨(some 20), none, .indexArr 1 256 .bad (.tmp 19)⟩,
    ⟨(some 21), none, .load none (.tmp 20)⟩,
    ⟨(some 6), none, .mov (.tmp 21)⟩]

def f73r6 : List AInstr := [
    ⟨(some 22), none, .mov (.tmp 6)⟩,
    ⟨(some 23), none, .ibin .geq (.tmp 22) (.const (.int .u8 240))⟩]

def f73r7 : List AInstr := [
    ⟨(some 24), none, .mov (.tmp 6)⟩,
    ⟨(some 25), none, .conv .i32 (.tmp 24)⟩,
    ⟨(some 26), none, .ibin .shl (.tmp 25) (.const (.int .u64 31))⟩,
    ⟨(some 27), none, .ibin .shr (.tmp 26) (.const (.int .u64 31))⟩,
    ⟨(some 7), none, .mov (.tmp 27)⟩]

def f73r8 : List AInstr := [
    ⟨(some 28), none, .mov (.tmp 0)⟩,
    ⟨(some 29), none, .indexStr (.tmp 28) (.const (.int .i64 0))⟩,
    ⟨(some 30), none, .conv .i32 (.tmp 29)⟩,
    ⟨(some 31), none, .mov (.tmp 7)⟩,
    ⟨(some 32), none, .ibin .andNot (.tmp 30) (.tmp 31)⟩,
    ⟨(some 33), none, .mov (.tmp 7)⟩,
    ⟨(some 34), none, .ibin .and (.const (.int .i32 65533)) (.tmp 33)⟩,
    ⟨(some 35), none, .ibin .or (.tmp 32) (.tmp 34)⟩,
    ⟨(some 2), none, .mov (.tmp 35)⟩,
    ⟨(some 3), none, .mov (.const (.int .i64 1))⟩]

def f73r9 : List AInstr := [
    ⟨(some 36), none, .mov (.tmp 6)⟩,
    ⟨(some 37), none, .ibin .and (.tmp 36) (.const (.int .u8 7))⟩,
    ⟨(some 38), none, .conv .i64 (.tmp 37)⟩,
    ⟨(some 8), none, .mov (.tmp 38)⟩]

def f73r10 : List AInstr := [
    ⟨(some 39), none, .mov (.tmp 6)⟩,
    ⟨(some 40), none, .ibin .shr (.tmp 39) (.const (.int .u64 4))⟩,
    ⟨(some 41), none, .indexArr 2 16 .bad (.tmp 40)⟩,
    ⟨(some 42), none, .load (some 2) (.tmp 41)⟩,
    ⟨(some 9), none, .alloc [.int .u8 0, .int .u8 0]⟩,
    ⟨none, none, .store 2 (.tmp 9) (.tmp 42)⟩]

def f73r11 : List AInstr := [
    ⟨(some 43), none, .mov (.tmp 4)⟩,
    ⟨(some 44), none, .mov (.tmp 8)⟩,
    ⟨(some 45), none, .ibin .lss (.tmp 43) (.tmp 44)⟩]

def f73r12 : List AInstr := [
    ⟨(some 2), none, .mov (.const (.int .i32 65533))⟩,
    ⟨(some 3), none, .mov (.const (.int .i64 1))⟩]

def f73r13 : List AInstr := [
    ⟨(some 46), none, .mov (.tmp 0)⟩,
    ⟨(some 47), none, .indexStr (.tmp 46) (.const (.int .i64 1))⟩,
    ⟨(some 10), none, .mov (.tmp 47)⟩]

def f73r14 : List AInstr := [
    ⟨(some 48), none, .mov (.tmp 10)⟩,
    ⟨(some 49), none, .fieldAddr 0 (.tmp 9)⟩,
    ⟨(some 50), none, .load none (.tmp 49)⟩,
    ⟨(some 51), none, .ibin .lss (.tmp 48) (.tmp 50)⟩,
    ⟨(some 52), none, .mov (.tmp 51)⟩,
    ⟨(some 53), (some (52, false)), .fieldAddr 1 (.tmp 9)⟩,
    ⟨(some 54), (some (52, false)), .load none (.tmp 53)⟩,
    ⟨(some 55), (some (52, false)), .mov (.tmp 10)⟩,
    ⟨(some 56), (some (52, false)), .ibin .lss (.tmp 54) (.tmp 55)⟩,
    ⟨(some 57), none, .pick (.tmp 52) (.const (.bool true)) (.tmp 56)⟩]

def f73r15 : List AInstr := [
    ⟨(some 2), none, .mov (.const (.int .i32 65533))⟩,
    ⟨(some 3), none, .mov (.const (.int .i64 1))⟩]

def f73r16 : List AInstr := [
    ⟨(some 58), none, .mov (.tmp 8)⟩,
    ⟨(some 59), none, .ibin .leq (.tmp 58) (.const (.int .i64 2))⟩]

def f73r17 : List AInstr := [
    ⟨(some 60), none, .mov (.tmp 5)⟩,
    ⟨(some 61), none, .ibin .and (.tmp 60) (.const (.int .u8 31))⟩,
    ⟨(some 62), none, .conv .i32 (.tmp 61)⟩,
    ⟨(some 63), none, .ibin .shl (.tmp 62) (.const (.int .u64 6))⟩,
    ⟨(some 64), none, .mov (.tmp 10)⟩,
    ⟨(some 65), none, .ibin .and (.tmp 64) (.const (.int .u8 63))⟩,
    ⟨(some 66), none, .conv .i32 (.tmp 65)⟩,
    ⟨(some 67), none, .ibin .or (.tmp 63) (.tmp 66)⟩,
    ⟨(some 2), none, .mov (.tmp 67)⟩,
    ⟨(some 3), none, .mov (.const (.int .i64 2))⟩]

def f73r18 : List AInstr := [
    ⟨(some 68), none, .mov (.tmp 0)⟩,
    ⟨(some 69), none, .indexStr (.tmp 68) (.const (.int .i64 2))⟩,
    ⟨(some 11), none, .mov (.tmp 69)⟩]

def f73r19 : List AInstr := [
    ⟨(some 70), none, .mov (.tmp 11)⟩,
    ⟨(some 71), none, .ibin .lss (.tmp 70) (.const (.int .u8 128))⟩,
    ⟨(some 72), none, .mov (.tmp 71)⟩,
    ⟨(some 73), (some (72, false)), .mov (.tmp 11)⟩,
    ⟨(some 74), (some (72, false)), .ibin .lss (.const (.int .u8 191)) (.tmp 73)⟩,
    ⟨(some 75), none, .pick (.tmp 72) (.const (.bool true)) (.tmp 74)⟩]

def f73r20 : List AInstr := [
    ⟨(some 2), none, .mov (.const (.int .i32 65533))⟩,
    ⟨(some 3), none, .mov (.const (.int .i64 1))⟩]

def f73r21 : List AInstr := [
    ⟨(some 76), none, .mov (.tmp 8)⟩,
    ⟨(some 77), none, .ibin .leq (.tmp 76) (.const (.int .i64 3))⟩]

def f73r22 : List AInstr := [
    ⟨(some 78), none, .mov (.tmp 5)⟩,
    ⟨(some 79), none, .ibin .and (.tmp 78) (.const (.int .u8 15))⟩,
    ⟨(some 80), none, .conv .i32 (.tmp 79)⟩,
    ⟨(some 81), none, .ibin .shl (.tmp 80) (.const (.int .u64 12))⟩,
    ⟨(some 82), none, .mov (.tmp 10)⟩,
    ⟨(some 83), none, .ibin .and (.tmp 82) (.const (.int .u8 63))⟩,
    ⟨(some 84), none, .conv .i32 (.tmp 83)⟩,
    ⟨(some 85), none, .ibin .shl (.tmp 84) (.const (.int .u64 6))⟩,
    ⟨(some 86), none, .ibin .or (.tmp 81) (.tmp 85)⟩,
    ⟨(some 87), none, .mov (.tmp 11)⟩,
    ⟨(some 88), none, .ibin .and (.tmp 87) (.const (.int .u8 63))⟩,
    ⟨(some 89), none, .conv .i32 (.tmp 88)⟩,
    ⟨(some 90), none, .ibin .or (.tmp 86) (.tmp 89)⟩,
    ⟨(some 2), none, .mov (.tmp 90)⟩,
    ⟨(some 3), none, .mov (.const (.int .i64 3))⟩]

def f73r23 : List AInstr := [
    ⟨(some 91), none, .mov (.tmp 0)⟩,
    ⟨(some 92), none, .indexStr (.tmp 91) (.const (.int .i64 3))⟩,
    ⟨(some 12), none, .mov (.tmp 92)⟩]

def f73r24 : List AInstr := [
    ⟨(some 93), none, .mov (.tmp 12)⟩,
    ⟨(some 94), none, .ibin .lss (.tmp 93) (.const (.int .u8 128))⟩,
    ⟨(some 95), none, .mov (.tmp 94)⟩,
    ⟨(some 96), (some (95, false)), .mov (.tmp 12)⟩,
    ⟨(some 97), (some (95, false)), .ibin .lss (.const (.int .u8 191)) (.tmp 96)⟩,
    ⟨(some 98), none, .pick (.tmp 95) (.const (.bool true)) (.tmp 97)⟩]

def f73r25 : List AInstr := [
    ⟨(some 2), none, .mov (.const (.int .i32 65533))⟩,
    ⟨(some 3), none, .mov (.const (.int .i64 1))⟩]

def f73r26 : List AInstr := [
    ⟨(some 99), none, .mov (.tmp 5)⟩,
    ⟨(some 100), none, .ibin .and (.tmp 99) (.const (.int .u8 7))⟩,
    ⟨(some 101), none, .conv .i32 (.tmp 100)⟩,
    ⟨(some 102), none, .ibin .shl (.tmp 101) (.const (.int .u64 18))⟩,
    ⟨(some 103), none, .mov (.tmp 10)⟩,
    ⟨(some 104), none, .ibin .and (.tmp 103) (.const (.int .u8 63))⟩,
    ⟨(some 105), none, .conv .i32 (.tmp 104)⟩,
    ⟨(some 106), none, .ibin .shl (.tmp 105) (.const (.int .u64 12))⟩,
    ⟨(some 107), none, .ibin .or (.tmp 102) (.tmp 106)⟩,
    ⟨(some 108), none, .mov (.tmp 11)⟩,
    ⟨(some 109), none, .ibin .and (.tmp 108) (.const (.int .u8 63))⟩,
    ⟨(some 110), none, .conv .i32 (.tmp 109)⟩,
    ⟨(some 111), none, .ibin .shl (.tmp 110) (.const (.int .u64 6))⟩,
    ⟨(some 112), none, .ibin .or (.tmp 107) (.tmp 111)⟩,
    ⟨(some 113), none, .mov (.tmp 12)⟩,
    ⟨(some 114), none, .ibin .and (.tmp 113) (.const (.int .u8 63))⟩,
    ⟨(some 115), none, .conv .i32 (.tmp 114)⟩,
    ⟨(some 116), none, .ibin .or (.tmp 112) (.tmp 115)⟩,
    ⟨(some 2), none, .mov (.tmp 116)⟩,
    ⟨(some 3), none, .mov (.const (.int .i64 4))⟩]

def f73b : ACode := (.seq (.ops f73r0)
  (.keep [0] (.seq (.ops f73r1)
  (.keep [0, 4] (.seq (.seq (.ops f73r2)
  (.keep [0, 4, 16] (.cond (.tmp 16) (.keep [] (.seq (.ops f73r3)
  (.keep [2, 3] .ret))) .skip)))
  (.keep [0, 4] (.seq (.ops f73r4)
  (.keep [0, 4, 5] (.seq (.ops f73r5)
  (.keep [0, 4, 5, 6] (.seq (.seq (.ops f73r6)
  (.keep [0, 4, 5, 6, 23] (.cond (.tmp 23) (.keep [0, 6] (.seq (.ops f73r7)
  (.keep [0, 7] (.seq (.ops f73r8)
  (.keep [2, 3] .ret))))) .skip)))
  (.keep [0, 4, 5, 6] (.seq (.ops f73r9)
  (.keep [0, 4, 5, 6, 8] (.seq (.ops f73r10)
  (.keep [0, 4, 5, 8, 9] (.seq (.seq (.ops f73r11)
  (.keep [0, 5, 8, 9, 45] (.cond (.tmp 45) (.keep [] (.seq (.ops f73r12)
  (.keep [2, 3] .ret))) .skip)))
  (.keep [0, 5, 8, 9] (.seq (.ops f73r13)
  (.keep [0, 5, 8, 9, 10] (.seq (.seq (.ops f73r14)
  (.keep [0, 5, 8, 10, 57] (.cond (.tmp 57) (.keep [] (.seq (.ops f73r15)
  (.keep [2, 3] .ret))) .skip)))
  (.keep [0, 5, 8, 10] (.seq (.seq (.ops f73r16)
  (.keep [0, 5, 8, 10, 59] (.cond (.tmp 59) (.keep [5, 10] (.seq (.ops f73r17)
  (.keep [2, 3] .ret))) .skip)))
  (.keep [0, 5, 8, 10] (.seq (.ops f73r18)
  (.keep [0, 5, 8, 10, 11] (.seq (.seq (.ops f73r19)
  (.keep [0, 5, 8, 10, 11, 75] (.cond (.tmp 75) (.keep [] (.seq (.ops f73r20)
  (.keep [2, 3] .ret))) .skip)))
  (.keep [0, 5, 8, 10, 11] (.seq (.seq (.ops f73r21)
  (.keep [0, 5, 10, 11, 77] (.cond (.tmp 77) (.keep [5, 10, 11] (.seq (.ops f73r22)
  (.keep [2, 3] .ret))) .skip)))
  (.keep [0, 5, 10, 11] (.seq (.ops f73r23)
  (.keep [5, 10, 11, 12] (.seq (.seq (.ops f73r24)
  (.keep [5, 10, 11, 12, 98] (.cond (.tmp 98) (.keep [] (.seq (.ops f73r25)
  (.keep [2, 3] .ret))) .skip)))
  (.keep [5, 10, 11, 12] (.seq (.ops f73r26)
  (.keep [2, 3] .ret))))))))))))))))))))))))))))))))))))

def f73 : AFn := ⟨117, [.tmp 2, .tmp 3], f73b⟩

theorem f73_ok : compFn Tryd.prog 73 = some f73.strip := by kernel_rfl

/- function 74: internal/strconv.ParseUint; parameters 3; operations that are not compiled: 13 -/
def f74r0 : List AInstr := [
    ⟨(some 6), none, .mov (.const (.int .u64 0))⟩,
    ⟨(some 7), none, .mov (.const (.nilIface))⟩]

def f74r1 : List AInstr := [
    ⟨(some 18), none, .mov (.tmp 0)⟩,
    ⟨(some 19), none, .str (.cmp false) [.tmp 18, .const (.string ⟨#[]⟩)]⟩]

def f74r2 : List AInstr := [
    ⟨(some 20), none, .bad⟩,
    ⟨(some 6), none, .mov (.const (.int .u64 0))⟩,
    ⟨(some 7), none, .mov (.tmp 20)⟩]

def f74r3 : List AInstr := [
    ⟨(some 21), none, .mov (.tmp 1)⟩,
    ⟨(some 22), none, .ibin .eql (.tmp 21) (.const (.int .i64 0))⟩,
    ⟨(some 8), none, .mov (.tmp 22)⟩]

def f74r4 : List AInstr := [
    ⟨(some 23), none, .mov (.tmp 0)⟩,
    ⟨(some 9), none, .mov (.tmp 23)⟩]

def f74r5 : List AInstr := [
    ⟨(some 26), none, .mov (.tmp 1)⟩,
    ⟨(some 27), none, .ibin .leq (.const (.int .i64 2)) (.tmp 26)⟩,
    ⟨(some 28), none, .mov (.tmp 27)⟩,
    ⟨(some 29), (some (28, true)), .mov (.tmp 1)⟩,
    ⟨(some 30), (some (28, true)), .ibin .leq (.tmp 29) (.const (.int .i64 36))⟩,
    ⟨(some 31), none, .pick (.tmp 28) (.tmp 30) (.const (.bool false))⟩,
    ⟨(some 25), none, .mov (.tmp 31)⟩]

def f74r6 : List AInstr := [
    ⟨(some 33), none, .mov (.tmp 1)⟩,
    ⟨(some 34), none, .ibin .eql (.tmp 33) (.const (.int .i64 0))⟩,
    ⟨(some 32), none, .mov (.tmp 34)⟩]

def f74r7 : List AInstr := [
    ⟨(some 1), none, .mov (.const (.int .i64 10))⟩]

def f74r8 : List AInstr := [
    ⟨(some 35), none, .mov (.tmp 0)⟩,
    ⟨(some 36), none, .indexStr (.tmp 35) (.const (.int .i64 0))⟩,
    ⟨(some 37), none, .ibin .eql (.tmp 36) (.const (.int .u8 48))⟩]

def f74r9 : List AInstr := [
    ⟨(some 41), none, .mov (.tmp 0)⟩,
    ⟨(some 42), none, .str .len [.tmp 41]⟩,
    ⟨(some 43), none, .ibin .geq (.tmp 42) (.const (.int .i64 3))⟩,
    ⟨(some 44), none, .mov (.tmp 43)⟩,
    ⟨(some 45), (some (44, true)), .mov (.tmp 0)⟩,
    ⟨(some 46), (some (44, true)), .indexStr (.tmp 45) (.const (.int .i64 1))⟩,
    ⟨(some 47), (some (44, true)), .callF 77 [.tmp 46]⟩,
    ⟨(some 48), (some (44, true)), .ibin .eql (.tmp 47) (.const (.int .u8 98))⟩,
    ⟨(some 49), none, .pick (.tmp 44) (.tmp 48) (.const (.bool false))⟩,
    ⟨(some 40), none, .mov (.tmp 49)⟩]

def f74r10 : List AInstr := [
    ⟨(some 1), none, .mov (.const (.int .i64 2))⟩]

def f74r11 : List AInstr := [
    ⟨(some 50), none, .mov (.tmp 0)⟩,
    ⟨(some 51), none, .bad⟩,
    ⟨(some 0), none, .mov (.tmp 51)⟩]

def f74r12 : List AInstr := [
    ⟨(some 53), none, .mov (.tmp 0)⟩,
    ⟨(some 54), none, .str .len [.tmp 53]⟩,
    ⟨(some 55), none, .ibin .geq (.tmp 54) (.const (.int .i64 3))⟩,
    ⟨(some 56), none, .mov (.tmp 55)⟩,
    ⟨(some 57), (some (56, true)), .mov (.tmp 0)⟩,
    ⟨(some 58), (some (56, true)), .indexStr (.tmp 57) (.const (.int .i64 1))⟩,
    ⟨(some 59), (some (56, true)), .callF 77 [.tmp 58]⟩,
    ⟨(some 60), (some (56, true)), .ibin .eql (.tmp 59) (.const (.int .u8 111))⟩,
    ⟨(some 61), none, .pick (.tmp 56) (.tmp 60) (.const (.bool false))⟩,
    ⟨(some 52), none, .mov (.tmp 61)⟩]

def f74r13 : List AInstr := [
    ⟨(some 1), none, .mov (.const (.int .i64 8))⟩]

def f74r14 : List AInstr := [
    ⟨(some 62), none, .mov (.tmp 0)⟩,
    ⟨(some 63), none, .bad⟩,
    ⟨(some 0), none, .mov (.tmp 63)⟩]

def f74r15 : List AInstr := [
    ⟨(some 65), none, .mov (.tmp 0)⟩,
    ⟨(some 66), none, .str .len [.tmp 65]⟩,
    ⟨(some 67), none, .ibin .geq (.tmp 66) (.const (.int .i64 3))⟩,
    ⟨(some 68), none, .mov (.tmp 67)⟩,
    ⟨(some 69), (some (68, true)), .mov (.tmp 0)⟩,
    ⟨(some 70), (some (68, true)), .indexStr (.tmp 69) (.const (.int .i64 1))⟩,
    ⟨(some 71), (some (68, true)), .callF 77 [.tmp 70]⟩,
    ⟨(some 72), (some (68, true)), .ibin .eql (.tmp 71) (.const (.int .u8 120))⟩,
    ⟨(some 73), none, .pick (.tmp 68) (.tmp 72) (.const (.bool false))⟩,
    ⟨(some 64), none, .mov (.tmp 73)⟩]

def f74r16 : List AInstr := [
    ⟨(some 1), none, .mov (.const (.int .i64 16))⟩]

def f74r17 : List AInstr := [
    ⟨(some 74), none, .mov (.tmp 0)⟩,
    ⟨(some 75), none, .bad⟩,
    ⟨(some 0), none, .mov (.tmp 75)⟩]

def f74r18 : List AInstr := [
    ⟨(some 1), none, .mov (.const (.int .i64 8))⟩]

def f74r19 : List AInstr := [
    ⟨(some 38), none, .mov (.tmp 0)⟩,
    ⟨(some 39), none, .bad⟩,
    ⟨(some 0), none, .mov (.tmp 39)⟩]

def f74r20 : List AInstr := [
    ⟨(some 24), none, .bad⟩,
    ⟨(some 6), none, .mov (.const (.int .u64 0))⟩,
    ⟨(some 7), none, .mov (.tmp 24)⟩]

def f74r21 : List AInstr := [
    ⟨(some 76), none, .mov (.tmp 2)⟩,
    ⟨(some 77), none, .ibin .eql (.tmp 76) (.const (.int .i64 0))⟩]

def f74r22 : List AInstr := [
    ⟨(some 2), none, .mov (.const (.int .i64 64))⟩]

def f74r23 : List AInstr := [
    ⟨(some 78), none, .mov (.tmp 2)⟩,
    ⟨(some 79), none, .ibin .lss (.tmp 78) (.const (.int .i64 0))⟩,
    ⟨(some 80), none, .mov (.tmp 79)⟩,
    ⟨(some 81), (some (80, false)), .mov (.tmp 2)⟩,
    ⟨(some 82), (some (80, false)), .ibin .gtr (.tmp 81) (.const (.int .i64 64))⟩,
    ⟨(some 83), none, .pick (.tmp 80) (.const (.bool true)) (.tmp 82)⟩]

def f74r24 : List AInstr := [
    ⟨(some 84), none, .bad⟩,
    ⟨(some 6), none, .mov (.const (.int .u64 0))⟩,
    ⟨(some 7), none, .mov (.tmp 84)⟩]

def f74r25 : List AInstr := [
    ⟨(some 10), none, .mov (.const (.int .u64 0))⟩]

def f74r26 : List AInstr := [
    ⟨(some 85), none, .mov (.tmp 1)⟩]

def f74r27 : List AInstr := [
    ⟨(some 91), none, .ibin .eql (.tmp 85) (.const (.int .i64 10))⟩,
    ⟨(some 90), none, .mov (.tmp 91)⟩]

def f74r28 : List AInstr := [
    ⟨(some 10), none, .mov (.const (.int .u64 1844674407370955162))⟩]

def f74r29 : List AInstr := [
    ⟨(some 93), none, .ibin .eql (.tmp 85) (.const (.int .i64 16))⟩,
    ⟨(some 92), none, .mov (.tmp 93)⟩]

def f74r30 : List AInstr := [
    ⟨(some 10), none, .mov (.const (.int .u64 1152921504606846976))⟩]

def f74r31 : List AInstr := [
    ⟨(some 86), none, .mov (.tmp 1)⟩,
    ⟨(some 87), none, .conv .u64 (.tmp 86)⟩,
    ⟨(some 88), none, .ibin .quo (.const (.int .u64 18446744073709551615)) (.tmp 87)⟩,
    ⟨(some 89), none, .ibin .add (.tmp 88) (.const (.int .u64 1))⟩,
    ⟨(some 10), none, .mov (.tmp 89)⟩]

def f74r32 : List AInstr := [
    ⟨(some 94), none, .mov (.tmp 2)⟩,
    ⟨(some 95), none, .conv .u64 (.tmp 94)⟩,
    ⟨(some 96), none, .ibin .shl (.const (.int .u64 1)) (.tmp 95)⟩,
    ⟨(some 97), none, .ibin .sub (.tmp 96) (.const (.int .u64 1))⟩,
    ⟨(some 11), none, .mov (.tmp 97)⟩]

def f74r33 : List AInstr := [
    ⟨(some 12), none, .mov (.const (.bool false))⟩]

def f74r34 : List AInstr := [
    ⟨(some 13), none, .mov (.const (.int .u64 0))⟩]

def f74r35 : List AInstr := [
    ⟨(some 98), none, .mov (.tmp 0)⟩,
    ⟨(some 99), none, .bad⟩,
    ⟨(some 100), none, .len (.tmp 99)⟩,
    ⟨(some 101), none, .mov (.const (.int .i64 0))⟩]

def f74r36 : List AInstr := [
    ⟨(some 102), none, .ibin .lss (.tmp 101) (.tmp 100)⟩]

def f74r37 : List AInstr := [
    ⟨(some 103), none, .indexAddr 1 (.tmp 99) (.tmp 101)⟩,
    ⟨(some 104), none, .load none (.tmp 103)⟩,
    ⟨(some 15), none, .mov (.tmp 104)⟩]

def f74r38 : List AInstr := [
    ⟨(some 16), none, .mov (.const (.int .u8 0))⟩]

def f74r39 : List AInstr := [
    ⟨(some 107), none, .mov (.tmp 15)⟩,
    ⟨(some 108), none, .ibin .eql (.tmp 107) (.const (.int .u8 95))⟩,
    ⟨(some 109), none, .mov (.tmp 108)⟩,
    ⟨(some 110), (some (109, true)), .mov (.tmp 8)⟩,
    ⟨(some 111), none, .pick (.tmp 109) (.tmp 110) (.const (.bool false))⟩,
    ⟨(some 106), none, .mov (.tmp 111)⟩]

def f74r40 : List AInstr := [
    ⟨(some 12), none, .mov (.const (.bool true))⟩]

def f74r41 : List AInstr := [
    ⟨(some 113), none, .mov (.tmp 15)⟩,
    ⟨(some 114), none, .ibin .leq (.const (.int .u8 48)) (.tmp 113)⟩,
    ⟨(some 115), none, .mov (.tmp 114)⟩,
    ⟨(some 116), (some (115, true)), .mov (.tmp 15)⟩,
    ⟨(some 117), (some (115, true)), .ibin .leq (.tmp 116) (.const (.int .u8 57))⟩,
    ⟨(some 118), none, .pick (.tmp 115) (.tmp 117) (.const (.bool false))⟩,
    ⟨(some 112), none, .mov (.tmp 118)⟩]

def f74r42 : List AInstr := [
    ⟨(some 119), none, .mov (.tmp 15)⟩,
    ⟨(some 120), none, .ibin .sub (.tmp 119) (.const (.int .u8 48))⟩,
    ⟨(some 16), none, .mov (.tmp 120)⟩]

def f74r43 : List AInstr := [
    ⟨(some 122), none, .mov (.tmp 15)⟩,
    ⟨(some 123), none, .callF 77 [.tmp 122]⟩,
    ⟨(some 124), none, .ibin .leq (.const (.int .u8 97)) (.tmp 123)⟩,
    ⟨(some 125), none, .mov (.tmp 124)⟩,
    ⟨(some 126), (some (125, true)), .mov (.tmp 15)⟩,
    ⟨(some 127), (some (125, true)), .callF 77 [.tmp 126]⟩,
    ⟨(some 128), (some (125, true)), .ibin .leq (.tmp 127) (.const (.int .u8 122))⟩,
    ⟨(some 129), none, .pick (.tmp 125) (.tmp 128) (.const (.bool false))⟩,
    ⟨(some 121), none, .mov (.tmp 129)⟩]

def f74r44 : List AInstr := [
    ⟨(some 130), none, .mov (.tmp 15)⟩,
    ⟨(some 131), none, .callF 77 [.tmp 130]⟩,
    ⟨(some 132), none, .ibin .sub (.tmp 131) (.const (.int .u8 97))⟩,
    ⟨(some 133), none, .ibin .add (.tmp 132) (.const (.int .u8 10))⟩,
    ⟨(some 16), none, .mov (.tmp 133)⟩]

def f74r45 : List AInstr := [
    ⟨(some 105), none, .bad⟩,
    ⟨(some 6), none, .mov (.const (.int .u64 0))⟩,
    ⟨(some 7), none, .mov (.tmp 105)⟩]

def f74r46 : List AInstr := [
    ⟨(some 134), none, .mov (.tmp 16)⟩,
    ⟨(some 135), none, .mov (.tmp 1)⟩,
    ⟨(some 136), none, .conv .u8 (.tmp 135)⟩,
    ⟨(some 137), none, .ibin .geq (.tmp 134) (.tmp 136)⟩]

def f74r47 : List AInstr := [
    ⟨(some 138), none, .bad⟩,
    ⟨(some 6), none, .mov (.const (.int .u64 0))⟩,
    ⟨(some 7), none, .mov (.tmp 138)⟩]

def f74r48 : List AInstr := [
    ⟨(some 139), none, .mov (.tmp 13)⟩,
    ⟨(some 140), none, .mov (.tmp 10)⟩,
    ⟨(some 141), none, .ibin .geq (.tmp 139) (.tmp 140)⟩]

def f74r49 : List AInstr := [
    ⟨(some 142), none, .mov (.tmp 11)⟩,
    ⟨(some 143), none, .bad⟩,
    ⟨(some 6), none, .mov (.tmp 142)⟩,
    ⟨(some 7), none, .mov (.tmp 143)⟩]

def f74r50 : List AInstr := [
    ⟨(some 144), none, .mov (.tmp 13)⟩,
    ⟨(some 145), none, .mov (.tmp 1)⟩,
    ⟨(some 146), none, .conv .u64 (.tmp 145)⟩,
    ⟨(some 147), none, .ibin .mul (.tmp 144) (.tmp 146)⟩,
    ⟨(some 13), none, .mov (.tmp 147)⟩]

def f74r51 : List AInstr := [
    ⟨(some 148), none, .mov (.tmp 13)⟩,
    ⟨(some 149), none, .mov (.tmp 16)⟩,
    ⟨(some 150), none, .conv .u64 (.tmp 149)⟩,
    ⟨(some 151), none, .ibin .add (.tmp 148) (.tmp 150)⟩,
    ⟨(some 17), none, .mov (.tmp 151)⟩]

def f74r52 : List AInstr := [
    ⟨(some 152), none, .mov (.tmp 17)⟩,
    ⟨(some 153), none, .mov (.tmp 13)⟩,
    ⟨(some 154), none, .ibin .lss (.tmp 152) (.tmp 153)⟩,
    ⟨(some 155), none, .mov (.tmp 154)⟩,
    ⟨(some 156), (some (155, false)), .mov (.tmp 17)⟩,
    ⟨(some 157), (some (155, false)), .mov (.tmp 11)⟩,
    ⟨(some 158), (some (155, false)), .ibin .gtr (.tmp 156) (.tmp 157)⟩,
    ⟨(some 159), none, .pick (.tmp 155) (.const (.bool true)) (.tmp 158)⟩]

def f74r53 : List AInstr := [
    ⟨(some 160), none, .mov (.tmp 11)⟩,
    ⟨(some 161), none, .bad⟩,
    ⟨(some 6), none, .mov (.tmp 160)⟩,
    ⟨(some 7), none, .mov (.tmp 161)⟩]

def f74r54 : List AInstr := [
    ⟨(some 162), none, .mov (.tmp 17)⟩,
    ⟨(some 13), none, .mov (.tmp 162)⟩]

def f74r55 : List AInstr := [
    ⟨(some 163), none, .ibin .add (.tmp 101) (.const (.int .i64 1))⟩,
    ⟨(some 101), none, .mov (.tmp 163)⟩]

/-- live: [1, 8, 9, 10, 11, 12, 13, 99, 100, 101] -/
def f74l0 : ACode := (.seq (.ops f74r36)
  (.keep [1, 8, 9, 10, 11, 12, 13, 99, 100, 101, 102] (.seq (.cond (.tmp 102) .skip (.exit 3))
  (.keep [1, 8, 9, 10, 11, 12, 13, 99, 100, 101] (.seq (.block 4 (.seq (.ops f74r37)
  (.keep [1, 8, 9, 10, 11, 12, 13, 15, 99, 100, 101] (.seq (.ops f74r38)
  (.keep [1, 8, 9, 10, 11, 12, 13, 15, 99, 100, 101] (.seq (.block 5 (.seq (.ops f74r39)
  (.keep [1, 8, 9, 10, 11, 12, 13, 15, 99, 100, 101, 106] (.cond (.tmp 106) (.keep [1, 8, 9, 10, 11, 13, 99, 100, 101] (.seq (.ops f74r40)
  (.exit 4))) (.keep [1, 8, 9, 10, 11, 12, 13, 15, 99, 100, 101] (.seq (.ops f74r41)
  (.keep [1, 8, 9, 10, 11, 12, 13, 15, 99, 100, 101, 112] (.cond (.tmp 112) (.keep [1, 8, 9, 10, 11, 12, 13, 15, 99, 100, 101] (.ops f74r42)) (.keep [1, 8, 9, 10, 11, 12, 13, 15, 99, 100, 101] (.seq (.ops f74r43)
  (.keep [1, 8, 9, 10, 11, 12, 13, 15, 99, 100, 101, 121] (.cond (.tmp 121) (.keep [1, 8, 9, 10, 11, 12, 13, 15, 99, 100, 101] (.ops f74r44)) (.keep [] (.seq (.ops f74r45)
  (.keep [6, 7] .ret)))))))))))))))
  (.keep [1, 8, 9, 10, 11, 12, 13, 16, 99, 100, 101] (.seq (.seq (.ops f74r46)
  (.keep [1, 8, 9, 10, 11, 12, 13, 16, 99, 100, 101, 137] (.cond (.tmp 137) (.keep [] (.seq (.ops f74r47)
  (.keep [6, 7] .ret))) .skip)))
  (.keep [1, 8, 9, 10, 11, 12, 13, 16, 99, 100, 101] (.seq (.seq (.ops f74r48)
  (.keep [1, 8, 9, 10, 11, 12, 13, 16, 99, 100, 101, 141] (.cond (.tmp 141) (.keep [11] (.seq (.ops f74r49)
  (.keep [6, 7] .ret))) .skip)))
  (.keep [1, 8, 9, 10, 11, 12, 13, 16, 99, 100, 101] (.seq (.ops f74r50)
  (.keep [1, 8, 9, 10, 11, 12, 13, 16, 99, 100, 101] (.seq (.ops f74r51)
  (.keep [1, 8, 9, 10, 11, 12, 13, 17, 99, 100, 101] (.seq (.seq (.ops f74r52)
  (.keep [1, 8, 9, 10, 11, 12, 17, 99, 100, 101, 159] (.cond (.tmp 159) (.keep [11] (.seq (.ops f74r53)
  (.keep [6, 7] .ret))) .skip)))
  (.keep [1, 8, 9, 10, 11, 12, 17, 99, 100, 101] (.ops f74r54))))))))))))))))))
  (.keep [1, 8, 9, 10, 11, 12, 13, 99, 100, 101] (.ops f74r55)))))))

def f74r57 : List AInstr := [
    ⟨(some 164), none, .mov (.tmp 12)⟩,
    ⟨(some 165), none, .mov (.tmp 164)⟩,
    ⟨(some 166), (some (165, true)), .mov (.tmp 9)⟩,
    ⟨(some 167), (some (165, true)), .callF 78 [.tmp 166]⟩,
    ⟨(some 168), (some (165, true)), .un .not (.tmp 167)⟩,
    ⟨(some 169), none, .pick (.tmp 165) (.tmp 168) (.const (.bool false))⟩]

def f74r58 : List AInstr := [
    ⟨(some 170), none, .bad⟩,
    ⟨(some 6), none, .mov (.const (.int .u64 0))⟩,
    ⟨(some 7), none, .mov (.tmp 170)⟩]

def f74r59 : List AInstr := [
    ⟨(some 171), none, .mov (.tmp 13)⟩,
    ⟨(some 6), none, .mov (.tmp 171)⟩,
    ⟨(some 7), none, .mov (.const (.nilIface))⟩]

def f74b : ACode := (.seq (.ops f74r0)
  (.keep [0, 1, 2] (.seq (.seq (.ops f74r1)
  (.keep [0, 1, 2, 19] (.cond (.tmp 19) (.keep [] (.seq (.ops f74r2)
  (.keep [6, 7] .ret))) .skip)))
  (.keep [0, 1, 2] (.seq (.ops f74r3)
  (.keep [0, 1, 2, 8] (.seq (.ops f74r4)
  (.keep [0, 1, 2, 8, 9] (.seq (.block 0 (.seq (.ops f74r5)
  (.keep [0, 1, 2, 8, 9, 25] (.cond (.tmp 25) .skip (.keep [0, 1, 2, 8, 9] (.seq (.ops f74r6)
  (.keep [0, 2, 8, 9, 32] (.cond (.tmp 32) (.keep [0, 2, 8, 9] (.seq (.ops f74r7)
  (.keep [0, 1, 2, 8, 9] (.seq (.ops f74r8)
  (.keep [0, 1, 2, 8, 9, 37] (.cond (.tmp 37) (.keep [0, 2, 8, 9] (.block 1 (.seq (.ops f74r9)
  (.keep [0, 2, 8, 9, 40] (.cond (.tmp 40) (.keep [0, 2, 8, 9] (.seq (.ops f74r10)
  (.keep [0, 1, 2, 8, 9] (.ops f74r11)))) (.keep [0, 2, 8, 9] (.seq (.ops f74r12)
  (.keep [0, 2, 8, 9, 52] (.cond (.tmp 52) (.keep [0, 2, 8, 9] (.seq (.ops f74r13)
  (.keep [0, 1, 2, 8, 9] (.ops f74r14)))) (.keep [0, 2, 8, 9] (.seq (.ops f74r15)
  (.keep [0, 2, 8, 9, 64] (.cond (.tmp 64) (.keep [0, 2, 8, 9] (.seq (.ops f74r16)
  (.keep [0, 1, 2, 8, 9] (.ops f74r17)))) (.keep [0, 2, 8, 9] (.seq (.ops f74r18)
  (.keep [0, 1, 2, 8, 9] (.ops f74r19))))))))))))))))) .skip)))))) (.keep [] (.seq (.ops f74r20)
  (.keep [6, 7] .ret)))))))))))
  (.keep [0, 1, 2, 8, 9] (.seq (.seq (.ops f74r21)
  (.keep [0, 1, 2, 8, 9, 77] (.cond (.tmp 77) (.keep [0, 1, 8, 9] (.ops f74r22)) (.keep [0, 1, 2, 8, 9] (.seq (.ops f74r23)
  (.keep [0, 1, 2, 8, 9, 83] (.cond (.tmp 83) (.keep [] (.seq (.ops f74r24)
  (.keep [6, 7] .ret))) .skip)))))))
  (.keep [0, 1, 2, 8, 9] (.seq (.ops f74r25)
  (.keep [0, 1, 2, 8, 9] (.seq (.seq (.ops f74r26)
  (.keep [0, 1, 2, 8, 9, 85] (.block 2 (.seq (.ops f74r27)
  (.keep [0, 1, 2, 8, 9, 85, 90] (.cond (.tmp 90) (.keep [0, 1, 2, 8, 9] (.ops f74r28)) (.keep [0, 1, 2, 8, 9, 85] (.seq (.ops f74r29)
  (.keep [0, 1, 2, 8, 9, 92] (.cond (.tmp 92) (.keep [0, 1, 2, 8, 9] (.ops f74r30)) (.keep [0, 1, 2, 8, 9] (.ops f74r31))))))))))))
  (.keep [0, 1, 2, 8, 9, 10] (.seq (.ops f74r32)
  (.keep [0, 1, 8, 9, 10, 11] (.seq (.ops f74r33)
  (.keep [0, 1, 8, 9, 10, 11, 12] (.seq (.ops f74r34)
  (.keep [0, 1, 8, 9, 10, 11, 12, 13] (.seq (.seq (.ops f74r35)
  (.keep [1, 8, 9, 10, 11, 12, 13, 99, 100, 101] (.block 3 (.loop f74l0))))
  (.keep [9, 12, 13] (.seq (.seq (.ops f74r57)
  (.keep [13, 169] (.cond (.tmp 169) (.keep [] (.seq (.ops f74r58)
  (.keep [6, 7] .ret))) .skip)))
  (.keep [13] (.seq (.ops f74r59)
  (.keep [6, 7] .ret))))))))))))))))))))))))))))

def f74 : AFn := ⟨172, [.tmp 6, .tmp 7], f74b⟩

theorem f74_ok : compFn Tryd.prog 74 = some f74.strip := by kernel_rfl

/- function 75: internal/stringslite.Clone; parameters 1; operations that are not compiled: 2 -/
def f75r0 : List AInstr := [
    ⟨(some 2), none, .mov (.const (.string ⟨#[]⟩))⟩]

def f75r1 : List AInstr := [
    ⟨(some 4), none, .mov (.tmp 0)⟩,
    ⟨(some 5), none, .str .len [.tmp 4]⟩,
    ⟨(some 6), none, .ibin .eql (.tmp 5) (.const (.int .i64 0))⟩]

def f75r2 : List AInstr := [
    ⟨(some 2), none, .mov (.const (.string ⟨#[]⟩))⟩]

def f75r3 : List AInstr := [
    ⟨(some 7), none, .mov (.tmp 0)⟩,
    ⟨(some 8), none, .str .len [.tmp 7]⟩,
    ⟨(some 9), none, .makeSlice 1 1 [.int .u8 0] (.tmp 8) (.tmp 8)⟩,
    ⟨(some 3), none, .mov (.tmp 9)⟩]

def f75r4 : List AInstr := [
    ⟨(some 10), none, .mov (.tmp 3)⟩,
    ⟨(some 11), none, .mov (.tmp 0)⟩,
    ⟨(some 12), none, .bad⟩]

def f75r5 : List AInstr := [
    ⟨(some 13), none, .mov (.tmp 3)⟩,
    ⟨(some 14), none, .indexAddr 1 (.tmp 13) (.const (.int .i64 0))⟩,
    ⟨(some 15), none, .mov (.tmp 3)⟩,
    ⟨(some 16), none, .len (.tmp 15)⟩,
    ⟨(some 17), none, .bad⟩,
    ⟨(some 2), none, .mov (.tmp 17)⟩]

def f75b : ACode := (.seq (.ops f75r0)
  (.keep [0] (.seq (.seq (.ops f75r1)
  (.keep [0, 6] (.cond (.tmp 6) (.keep [] (.seq (.ops f75r2)
  (.keep [2] .ret))) .skip)))
  (.keep [0] (.seq (.ops f75r3)
  (.keep [0, 3] (.seq (.ops f75r4)
  (.keep [3] (.seq (.ops f75r5)
  (.keep [2] .ret))))))))))

def f75 : AFn := ⟨18, [.tmp 2], f75b⟩

theorem f75_ok : compFn Tryd.prog 75 = some f75.strip := by kernel_rfl

/- function 76: errors.New; parameters 1; operations that are not compiled: 1 -/
def f76r0 : List AInstr := [
    ⟨(some 2), none, .mov (.const (.nilIface))⟩]

def f76r1 : List AInstr := [
    ⟨(some 3), none, .mov (.tmp 0)⟩,
    ⟨(some 4), none, .build [.string ⟨#[]⟩] [(0, 1, (.tmp 3))]⟩,
    ⟨(some 5), none, .box (.tmp 4)⟩,
    ⟨(some 6), none, .bad⟩,
    ⟨(some 2), none, .mov (.tmp 6)⟩]

def f76b : ACode := (.seq (.ops f76r0)
  (.keep [0] (.seq (.ops f76r1)
  (.keep [2] .ret))))

def f76 : AFn := ⟨7, [.tmp 2], f76b⟩

theorem f76_ok : compFn Tryd.prog 76 = some f76.strip := by kernel_rfl

/- function 77: internal/strconv.lower; parameters 1; operations that are not compiled: 0 -/
def f77r0 : List AInstr := [
    ⟨(some 2), none, .mov (.const (.int .u8 0))⟩]

def f77r1 : List AInstr := [
    ⟨(some 3), none, .mov (.tmp 0)⟩,
    ⟨(some 4), none, .ibin .or (.tmp 3) (.const (.int .u8 32))⟩,
    ⟨(some 2), none, .mov (.tmp 4)⟩]

def f77b : ACode := (.seq (.ops f77r0)
  (.keep [0] (.seq (.ops f77r1)
  (.keep [2] .ret))))

def f77 : AFn := ⟨5, [.tmp 2], f77b⟩

theorem f77_ok : compFn Tryd.prog 77 = some f77.strip := by kernel_rfl

/- function 78: internal/strconv.underscoreOK; parameters 1; operations that are not compiled: 1 -/
def f78r0 : List AInstr := [
    ⟨(some 2), none, .mov (.const (.bool false))⟩]

def f78r1 : List AInstr := [
    ⟨(some 3), none, .mov (.const (.int .i32 94))⟩]

def f78r2 : List AInstr := [
    ⟨(some 4), none, .mov (.const (.int .i64 0))⟩]

def f78r3 : List AInstr := [
    ⟨(some 6), none, .mov (.tmp 0)⟩,
    ⟨(some 7), none, .str .len [.tmp 6]⟩,
    ⟨(some 8), none, .ibin .geq (.tmp 7) (.const (.int .i64 1))⟩,
    ⟨(some 9), none, .mov (.tmp 8)⟩,
    ⟨(some 10), (some (9, true)), .mov (.tmp 0)⟩,
    ⟨(some 11), (some (9, true)), .indexStr (.tmp 10) (.const (.int .i64 0))⟩,
    ⟨(some 12), (some (9, true)), .ibin .eql (.tmp 11) (.const (.int .u8 45))⟩,
    ⟨(some 13), (some (9, true)), .mov (.tmp 12)⟩,
    ⟨(some 14), (some (13, false)), .mov (.tmp 0)⟩,
    ⟨(some 15), (some (13, false)), .indexStr (.tmp 14) (.const (.int .i64 0))⟩,
    ⟨(some 16), (some (13, false)), .ibin .eql (.tmp 15) (.const (.int .u8 43))⟩,
    ⟨(some 17), (some (9, true)), .pick (.tmp 13) (.const (.bool true)) (.tmp 16)⟩,
    ⟨(some 18), none, .pick (.tmp 9) (.tmp 17) (.const (.bool false))⟩]

def f78r4 : List AInstr := [
    ⟨(some 19), none, .mov (.tmp 0)⟩,
    ⟨(some 20), none, .bad⟩,
    ⟨(some 0), none, .mov (.tmp 20)⟩]

def f78r5 : List AInstr := [
    ⟨(some 5), none, .mov (.const (.bool false))⟩]

def f78r6 : List AInstr := [
    ⟨(some 21), none, .mov (.tmp 0)⟩,
    ⟨(some 22), none, .str .len [.tmp 21]⟩,
    ⟨(some 23), none, .ibin .geq (.tmp 22) (.const (.int .i64 2))⟩,
    ⟨(some 24), none, .mov (.tmp 23)⟩,
    ⟨(some 25), (some (24, true)), .mov (.tmp 0)⟩,
    ⟨(some 26), (some (24, true)), .indexStr (.tmp 25) (.const (.int .i64 0))⟩,
    ⟨(some 27), (some (24, true)), .ibin .eql (.tmp 26) (.const (.int .u8 48))⟩,
    ⟨(some 28), none, .pick (.tmp 24) (.tmp 27) (.const (.bool false))⟩,
    ⟨(some 29), none, .mov (.tmp 28)⟩,
    ⟨(some 30), (some (29, true)), .mov (.tmp 0)⟩,
    ⟨(some 31), (some (29, true)), .indexStr (.tmp 30) (.const (.int .i64 1))⟩,
    ⟨(some 32), (some (29, true)), .callF 77 [.tmp 31]⟩,
    ⟨(some 33), (some (29, true)), .ibin .eql (.tmp 32) (.const (.int .u8 98))⟩,
    ⟨(some 34), (some (29, true)), .mov (.tmp 33)⟩,
    ⟨(some 35), (some (34, false)), .mov (.tmp 0)⟩,
    ⟨(some 36), (some (34, false)), .indexStr (.tmp 35) (.const (.int .i64 1))⟩,
    ⟨(some 37), (some (34, false)), .callF 77 [.tmp 36]⟩,
    ⟨(some 38), (some (34, false)), .ibin .eql (.tmp 37) (.const (.int .u8 111))⟩,
    ⟨(some 39), (some (29, true)), .pick (.tmp 34) (.const (.bool true)) (.tmp 38)⟩,
    ⟨(some 40), (some (29, true)), .mov (.tmp 39)⟩,
    ⟨(some 41), (some (40, false)), .mov (.tmp 0)⟩,
    ⟨(some 42), (some (40, false)), .indexStr (.tmp 41) (.const (.int .i64 1))⟩,
    ⟨(some 43), (some (40, false)), .callF 77 [.tmp 42]⟩,
    ⟨(some 44), (some (40, false)), .ibin .eql (.tmp 43) (.const (.int .u8 120))⟩,
    ⟨(some 45), (some (29, true)), .pick (.tmp 40) (.const (.bool true)) (.tmp 44)⟩,
    ⟨(some 46), none, .pick (.tmp 29) (.tmp 45) (.const (.bool false))⟩]

def f78r7 : List AInstr := [
    ⟨(some 4), none, .mov (.const (.int .i64 2))⟩]

def f78r8 : List AInstr := [
    ⟨(some 3), none, .mov (.const (.int .i32 48))⟩]

def f78r9 : List AInstr := [
    ⟨(some 47), none, .mov (.tmp 0)⟩,
    ⟨(some 48), none, .indexStr (.tmp 47) (.const (.int .i64 1))⟩,
    ⟨(some 49), none, .callF 77 [.tmp 48]⟩,
    ⟨(some 50), none, .ibin .eql (.tmp 49) (.const (.int .u8 120))⟩,
    ⟨(some 5), none, .mov (.tmp 50)⟩]

def f78r10 : List AInstr := [
    ⟨(some 51), none, .mov (.tmp 4)⟩,
    ⟨(some 52), none, .mov (.tmp 0)⟩,
    ⟨(some 53), none, .str .len [.tmp 52]⟩,
    ⟨(some 54), none, .ibin .lss (.tmp 51) (.tmp 53)⟩]

def f78r11 : List AInstr := [
    ⟨(some 57), none, .mov (.tmp 0)⟩,
    ⟨(some 58), none, .mov (.tmp 4)⟩,
    ⟨(some 59), none, .indexStr (.tmp 57) (.tmp 58)⟩,
    ⟨(some 60), none, .ibin .leq (.const (.int .u8 48)) (.tmp 59)⟩,
    ⟨(some 61), none, .mov (.tmp 60)⟩,
    ⟨(some 62), (some (61, true)), .mov (.tmp 0)⟩,
    ⟨(some 63), (some (61, true)), .mov (.tmp 4)⟩,
    ⟨(some 64), (some (61, true)), .indexStr (.tmp 62) (.tmp 63)⟩,
    ⟨(some 65), (some (61, true)), .ibin .leq (.tmp 64) (.const (.int .u8 57))⟩,
    ⟨(some 66), none, .pick (.tmp 61) (.tmp 65) (.const (.bool false))⟩,
    ⟨(some 67), none, .mov (.tmp 66)⟩,
    ⟨(some 68), (some (67, false)), .mov (.tmp 5)⟩,
    ⟨(some 69), (some (67, false)), .mov (.tmp 68)⟩,
    ⟨(some 70), (some (69, true)), .mov (.tmp 0)⟩,
    ⟨(some 71), (some (69, true)), .mov (.tmp 4)⟩,
    ⟨(some 72), (some (69, true)), .indexStr (.tmp 70) (.tmp 71)⟩,
    ⟨(some 73), (some (69, true)), .callF 77 [.tmp 72]⟩,
    ⟨(some 74), (some (69, true)), .ibin .leq (.const (.int .u8 97)) (.tmp 73)⟩,
    ⟨(some 75), (some (67, false)), .pick (.tmp 69) (.tmp 74) (.const (.bool false))⟩,
    ⟨(some 76), (some (67, false)), .mov (.tmp 75)⟩,
    ⟨(some 77), (some (76, true)), .mov (.tmp 0)⟩,
    ⟨(some 78), (some (76, true)), .mov (.tmp 4)⟩,
    ⟨(some 79), (some (76, true)), .indexStr (.tmp 77) (.tmp 78)⟩,
    ⟨(some 80), (some (76, true)), .callF 77 [.tmp 79]⟩,
    ⟨(some 81), (some (76, true)), .ibin .leq (.tmp 80) (.const (.int .u8 102))⟩,
    ⟨(some 82), (some (67, false)), .pick (.tmp 76) (.tmp 81) (.const (.bool false))⟩,
    ⟨(some 83), none, .pick (.tmp 67) (.const (.bool true)) (.tmp 82)⟩]

def f78r12 : List AInstr := [
    ⟨(some 3), none, .mov (.const (.int .i32 48))⟩]

def f78r13 : List AInstr := [
    ⟨(some 84), none, .mov (.tmp 0)⟩,
    ⟨(some 85), none, .mov (.tmp 4)⟩,
    ⟨(some 86), none, .indexStr (.tmp 84) (.tmp 85)⟩,
    ⟨(some 87), none, .ibin .eql (.tmp 86) (.const (.int .u8 95))⟩]

def f78r14 : List AInstr := [
    ⟨(some 88), none, .mov (.tmp 3)⟩,
    ⟨(some 89), none, .ibin .neq (.tmp 88) (.const (.int .i32 48))⟩]

def f78r15 : List AInstr := [
    ⟨(some 2), none, .mov (.const (.bool false))⟩]

def f78r16 : List AInstr := [
    ⟨(some 3), none, .mov (.const (.int .i32 95))⟩]

def f78r17 : List AInstr := [
    ⟨(some 90), none, .mov (.tmp 3)⟩,
    ⟨(some 91), none, .ibin .eql (.tmp 90) (.const (.int .i32 95))⟩]

def f78r18 : List AInstr := [
    ⟨(some 2), none, .mov (.const (.bool false))⟩]

def f78r19 : List AInstr := [
    ⟨(some 3), none, .mov (.const (.int .i32 33))⟩]

def f78r20 : List AInstr := [
    ⟨(some 55), none, .mov (.tmp 4)⟩,
    ⟨(some 56), none, .ibin .add (.tmp 55) (.const (.int .i64 1))⟩,
    ⟨(some 4), none, .mov (.tmp 56)⟩]

/-- live: [0, 3, 4, 5] -/
def f78l0 : ACode := (.seq (.seq (.ops f78r10)
  (.keep [0, 3, 4, 5, 54] (.cond (.tmp 54) .skip (.exit 0))))
  (.keep [0, 3, 4, 5] (.seq (.block 1 (.seq (.seq (.ops f78r11)
  (.keep [0, 3, 4, 5, 83] (.cond (.tmp 83) (.keep [0, 4, 5] (.seq (.ops f78r12)
  (.exit 1))) .skip)))
  (.keep [0, 3, 4, 5] (.seq (.seq (.ops f78r13)
  (.keep [0, 3, 4, 5, 87] (.cond (.tmp 87) (.keep [0, 3, 4, 5] (.seq (.seq (.ops f78r14)
  (.keep [0, 4, 5, 89] (.cond (.tmp 89) (.keep [] (.seq (.ops f78r15)
  (.keep [2] .ret))) .skip)))
  (.keep [0, 4, 5] (.seq (.ops f78r16)
  (.exit 1))))) .skip)))
  (.keep [0, 3, 4, 5] (.seq (.seq (.ops f78r17)
  (.keep [0, 4, 5, 91] (.cond (.tmp 91) (.keep [] (.seq (.ops f78r18)
  (.keep [2] .ret))) .skip)))
  (.keep [0, 4, 5] (.ops f78r19))))))))
  (.keep [0, 3, 4, 5] (.ops f78r20)))))

def f78r22 : List AInstr := [
    ⟨(some 92), none, .mov (.tmp 3)⟩,
    ⟨(some 93), none, .ibin .neq (.tmp 92) (.const (.int .i32 95))⟩,
    ⟨(some 2), none, .mov (.tmp 93)⟩]

def f78b : ACode := (.seq (.ops f78r0)
  (.keep [0] (.seq (.ops f78r1)
  (.keep [0, 3] (.seq (.ops f78r2)
  (.keep [0, 3, 4] (.seq (.seq (.ops f78r3)
  (.keep [0, 3, 4, 18] (.cond (.tmp 18) (.keep [0, 3, 4] (.ops f78r4)) .skip)))
  (.keep [0, 3, 4] (.seq (.ops f78r5)
  (.keep [0, 3, 4, 5] (.seq (.seq (.ops f78r6)
  (.keep [0, 3, 4, 5, 46] (.cond (.tmp 46) (.keep [0] (.seq (.ops f78r7)
  (.keep [0, 4] (.seq (.ops f78r8)
  (.keep [0, 3, 4] (.ops f78r9)))))) .skip)))
  (.keep [0, 3, 4, 5] (.seq (.block 0 (.loop f78l0))
  (.keep [3] (.seq (.ops f78r22)
  (.keep [2] .ret))))))))))))))))

def f78 : AFn := ⟨94, [.tmp 2], f78b⟩

theorem f78_ok : compFn Tryd.prog 78 = some f78.strip := by kernel_rfl

end Go.Proofs.YtfkhljgifndbpaaDoor
