/-
  The functions of this seat as abstract code. Printed by a program of this claim's writer.
-/
import Derived.Test.YtimmpjfbejojhaaChecked
import Derived.Test.YtimmpjfbejojhaaAmS
import Derived.KernelRfl
namespace Go.Proofs.Ytimmpjfbejojhaa
open Go Go.Am

/- function 3: weirhouse/weirhousekeep.RingDrops; parameters 2; operations that are not compiled: 0 -/
def f3r0 : List AInstr := [
    ⟨(some 2), none, .box (.tmp 0)⟩,
    ⟨(some 4), none, .mov (.const (.bool false))⟩]

def f3r1 : List AInstr := [
    ⟨(some 12), none, .callF 6 []⟩,
    ⟨(some 13), none, .un .not (.tmp 12)⟩]

def f3r2 : List AInstr := [
    ⟨(some 4), none, .mov (.const (.bool false))⟩]

def f3r3 : List AInstr := [
    ⟨(some 15), none, .load (some 4) (.tmp 2)⟩,
    ⟨(some 16), none, .mov (.tmp 1)⟩,
    ⟨(some 17), none, .build [.int .i64 0, .int .i64 0] [(0, 1, (.const (.int .i64 1))), (1, 1, (.tmp 16))]⟩,
    ⟨(some 18), none, .callF 7 [.tmp 15, .tmp 17]⟩,
    ⟨(some 14), none, .mov (.tmp 18)⟩,
    ⟨(some 19), none, .extract 0 (.tmp 14)⟩,
    ⟨(some 20), none, .extract 1 (.tmp 14)⟩,
    ⟨(some 21), none, .extract 2 (.tmp 14)⟩,
    ⟨(some 5), none, .alloc [.slice none 0 0, .int .i64 0, .int .i64 0, .int .i64 0]⟩,
    ⟨none, none, .store 4 (.tmp 5) (.tmp 19)⟩,
    ⟨(some 6), none, .mov (.tmp 20)⟩,
    ⟨(some 7), none, .mov (.tmp 21)⟩]

def f3r4 : List AInstr := [
    ⟨(some 22), none, .mov (.tmp 7)⟩,
    ⟨(some 23), none, .ibin .neq (.tmp 22) (.const (.int .i64 0))⟩]

def f3r5 : List AInstr := [
    ⟨(some 4), none, .mov (.const (.bool true))⟩]

def f3r6 : List AInstr := [
    ⟨(some 24), none, .mov (.tmp 1)⟩,
    ⟨(some 8), none, .mov (.tmp 24)⟩]

def f3r7 : List AInstr := [
    ⟨(some 25), none, .fieldAddr 0 (.tmp 2)⟩,
    ⟨(some 26), none, .load none (.tmp 25)⟩,
    ⟨(some 27), none, .len (.tmp 26)⟩,
    ⟨(some 28), none, .mov (.const (.int .i64 0))⟩]

def f3r8 : List AInstr := [
    ⟨(some 29), none, .ibin .lss (.tmp 28) (.tmp 27)⟩]

def f3r9 : List AInstr := [
    ⟨(some 30), none, .indexAddr 1 (.tmp 26) (.tmp 28)⟩,
    ⟨(some 31), none, .load none (.tmp 30)⟩,
    ⟨(some 10), none, .mov (.tmp 31)⟩]

def f3r10 : List AInstr := [
    ⟨(some 32), none, .mov (.tmp 8)⟩,
    ⟨(some 33), none, .mov (.tmp 10)⟩,
    ⟨(some 34), none, .ibin .add (.tmp 32) (.tmp 33)⟩,
    ⟨(some 8), none, .mov (.tmp 34)⟩]

def f3r11 : List AInstr := [
    ⟨(some 35), none, .ibin .add (.tmp 28) (.const (.int .i64 1))⟩,
    ⟨(some 28), none, .mov (.tmp 35)⟩]

/-- live: [2, 5, 6, 8, 26, 27, 28] -/
def f3l0 : ACode := (.seq (.ops f3r8)
  (.keep [2, 5, 6, 8, 26, 27, 28, 29] (.seq (.cond (.tmp 29) .skip (.exit 0))
  (.keep [2, 5, 6, 8, 26, 27, 28] (.seq (.block 1 (.seq (.ops f3r9)
  (.keep [2, 5, 6, 8, 10, 26, 27, 28] (.ops f3r10))))
  (.keep [2, 5, 6, 8, 26, 27, 28] (.ops f3r11)))))))

def f3r13 : List AInstr := [
    ⟨(some 36), none, .fieldAddr 0 (.tmp 2)⟩,
    ⟨(some 37), none, .load none (.tmp 36)⟩,
    ⟨(some 38), none, .len (.tmp 37)⟩,
    ⟨(some 39), none, .fieldAddr 1 (.tmp 2)⟩,
    ⟨(some 40), none, .load none (.tmp 39)⟩,
    ⟨(some 41), none, .ibin .lss (.tmp 38) (.tmp 40)⟩,
    ⟨(some 42), none, .mov (.tmp 41)⟩,
    ⟨(some 43), (some (42, true)), .mov (.tmp 8)⟩,
    ⟨(some 44), (some (42, true)), .fieldAddr 2 (.tmp 2)⟩,
    ⟨(some 45), (some (42, true)), .load none (.tmp 44)⟩,
    ⟨(some 46), (some (42, true)), .ibin .leq (.tmp 43) (.tmp 45)⟩,
    ⟨(some 47), none, .pick (.tmp 42) (.tmp 46) (.const (.bool false))⟩,
    ⟨(some 11), none, .mov (.tmp 47)⟩]

def f3r14 : List AInstr := [
    ⟨(some 48), none, .mov (.tmp 6)⟩,
    ⟨(some 49), none, .ibin .eql (.tmp 48) (.const (.int .i64 1))⟩,
    ⟨(some 50), none, .mov (.tmp 11)⟩,
    ⟨(some 51), none, .eqB false (.tmp 49) (.tmp 50)⟩,
    ⟨(some 52), none, .mov (.tmp 51)⟩,
    ⟨(some 53), (some (52, true)), .mov (.tmp 11)⟩,
    ⟨(some 54), (some (52, true)), .mov (.tmp 53)⟩,
    ⟨(some 55), (some (54, true)), .fieldAddr 0 (.tmp 5)⟩,
    ⟨(some 56), (some (54, true)), .load none (.tmp 55)⟩,
    ⟨(some 57), (some (54, true)), .len (.tmp 56)⟩,
    ⟨(some 58), (some (54, true)), .fieldAddr 0 (.tmp 2)⟩,
    ⟨(some 59), (some (54, true)), .load none (.tmp 58)⟩,
    ⟨(some 60), (some (54, true)), .len (.tmp 59)⟩,
    ⟨(some 61), (some (54, true)), .ibin .add (.tmp 60) (.const (.int .i64 1))⟩,
    ⟨(some 62), (some (54, true)), .ibin .eql (.tmp 57) (.tmp 61)⟩,
    ⟨(some 63), (some (52, true)), .pick (.tmp 54) (.tmp 62) (.const (.bool false))⟩,
    ⟨(some 64), (some (52, true)), .mov (.tmp 63)⟩,
    ⟨(some 65), (some (64, true)), .fieldAddr 3 (.tmp 5)⟩,
    ⟨(some 66), (some (64, true)), .load none (.tmp 65)⟩,
    ⟨(some 67), (some (64, true)), .fieldAddr 3 (.tmp 2)⟩,
    ⟨(some 68), (some (64, true)), .load none (.tmp 67)⟩,
    ⟨(some 69), (some (64, true)), .ibin .eql (.tmp 66) (.tmp 68)⟩,
    ⟨(some 70), (some (52, true)), .pick (.tmp 64) (.tmp 69) (.const (.bool false))⟩,
    ⟨(some 71), (some (52, true)), .mov (.tmp 70)⟩,
    ⟨(some 72), (some (71, false)), .mov (.tmp 11)⟩,
    ⟨(some 73), (some (71, false)), .un .not (.tmp 72)⟩,
    ⟨(some 74), (some (71, false)), .mov (.tmp 73)⟩,
    ⟨(some 75), (some (74, true)), .fieldAddr 0 (.tmp 5)⟩,
    ⟨(some 76), (some (74, true)), .load none (.tmp 75)⟩,
    ⟨(some 77), (some (74, true)), .fieldAddr 0 (.tmp 2)⟩,
    ⟨(some 78), (some (74, true)), .load none (.tmp 77)⟩,
    ⟨(some 79), (some (74, true)), .callF 8 [.tmp 76, .tmp 78]⟩,
    ⟨(some 80), (some (71, false)), .pick (.tmp 74) (.tmp 79) (.const (.bool false))⟩,
    ⟨(some 81), (some (71, false)), .mov (.tmp 80)⟩,
    ⟨(some 82), (some (81, true)), .fieldAddr 3 (.tmp 5)⟩,
    ⟨(some 83), (some (81, true)), .load none (.tmp 82)⟩,
    ⟨(some 84), (some (81, true)), .fieldAddr 3 (.tmp 2)⟩,
    ⟨(some 85), (some (81, true)), .load none (.tmp 84)⟩,
    ⟨(some 86), (some (81, true)), .ibin .add (.tmp 85) (.const (.int .i64 1))⟩,
    ⟨(some 87), (some (81, true)), .ibin .eql (.tmp 83) (.tmp 86)⟩,
    ⟨(some 88), (some (71, false)), .pick (.tmp 81) (.tmp 87) (.const (.bool false))⟩,
    ⟨(some 89), (some (52, true)), .pick (.tmp 71) (.const (.bool true)) (.tmp 88)⟩,
    ⟨(some 90), none, .pick (.tmp 52) (.tmp 89) (.const (.bool false))⟩,
    ⟨(some 4), none, .mov (.tmp 90)⟩]

def f3b : ACode := (.seq (.ops f3r0)
  (.keep [1, 2] (.seq (.seq (.ops f3r1)
  (.keep [1, 2, 13] (.cond (.tmp 13) (.keep [] (.seq (.ops f3r2)
  (.keep [4] .ret))) .skip)))
  (.keep [1, 2] (.seq (.ops f3r3)
  (.keep [1, 2, 5, 6, 7] (.seq (.seq (.ops f3r4)
  (.keep [1, 2, 5, 6, 23] (.cond (.tmp 23) (.keep [] (.seq (.ops f3r5)
  (.keep [4] .ret))) .skip)))
  (.keep [1, 2, 5, 6] (.seq (.ops f3r6)
  (.keep [2, 5, 6, 8] (.seq (.seq (.ops f3r7)
  (.keep [2, 5, 6, 8, 26, 27, 28] (.block 0 (.loop f3l0))))
  (.keep [2, 5, 6, 8] (.seq (.ops f3r13)
  (.keep [2, 5, 6, 11] (.seq (.ops f3r14)
  (.keep [4] .ret))))))))))))))))

def f3 : AFn := ⟨91, [.tmp 4], f3b⟩

theorem f3_ok : compFn Try.prog 3 = some f3.strip := by kernel_rfl

/- function 4: weirhouse/weirhousekeep.RingMore; parameters 2; operations that are not compiled: 0 -/
def f4r0 : List AInstr := [
    ⟨(some 4), none, .mov (.const (.bool false))⟩]

def f4r1 : List AInstr := [
    ⟨(some 14), none, .callF 6 []⟩,
    ⟨(some 15), none, .un .not (.tmp 14)⟩]

def f4r2 : List AInstr := [
    ⟨(some 4), none, .mov (.const (.bool false))⟩]

def f4r3 : List AInstr := [
    ⟨(some 5), none, .mov (.const (.slice none 0 0))⟩]

def f4r4 : List AInstr := [
    ⟨(some 16), none, .mov (.tmp 0)⟩,
    ⟨(some 17), none, .len (.tmp 16)⟩,
    ⟨(some 18), none, .mov (.const (.int .i64 0))⟩]

def f4r5 : List AInstr := [
    ⟨(some 19), none, .ibin .lss (.tmp 18) (.tmp 17)⟩]

def f4r6 : List AInstr := [
    ⟨(some 20), none, .indexAddr 1 (.tmp 16) (.tmp 18)⟩,
    ⟨(some 21), none, .load none (.tmp 20)⟩,
    ⟨(some 7), none, .mov (.tmp 21)⟩]

def f4r7 : List AInstr := [
    ⟨(some 22), none, .mov (.tmp 5)⟩,
    ⟨(some 23), none, .mov (.tmp 7)⟩,
    ⟨(some 24), none, .build [.int .i64 0, .int .i64 0] [(0, 1, (.const (.int .i64 1))), (1, 1, (.tmp 23))]⟩,
    ⟨(some 25), none, .buildSlice 2 1 [.int .i64 0, .int .i64 0] [(0, 2, (.tmp 24))]⟩,
    ⟨(some 26), none, .append 2 16 (.tmp 22) (.tmp 25)⟩,
    ⟨(some 5), none, .mov (.tmp 26)⟩]

def f4r8 : List AInstr := [
    ⟨(some 27), none, .ibin .add (.tmp 18) (.const (.int .i64 1))⟩,
    ⟨(some 18), none, .mov (.tmp 27)⟩]

/-- live: [1, 5, 16, 17, 18] -/
def f4l0 : ACode := (.seq (.ops f4r5)
  (.keep [1, 5, 16, 17, 18, 19] (.seq (.cond (.tmp 19) .skip (.exit 0))
  (.keep [1, 5, 16, 17, 18] (.seq (.block 1 (.seq (.ops f4r6)
  (.keep [1, 5, 7, 16, 17, 18] (.ops f4r7))))
  (.keep [1, 5, 16, 17, 18] (.ops f4r8)))))))

def f4r10 : List AInstr := [
    ⟨(some 29), none, .mov (.tmp 1)⟩,
    ⟨(some 30), none, .mov (.tmp 5)⟩,
    ⟨(some 31), none, .callF 9 [.tmp 29, .const (.int .i64 1073741824), .tmp 30]⟩,
    ⟨(some 28), none, .mov (.tmp 31)⟩,
    ⟨(some 32), none, .extract 0 (.tmp 28)⟩,
    ⟨(some 33), none, .extract 1 (.tmp 28)⟩,
    ⟨(some 34), none, .extract 2 (.tmp 28)⟩,
    ⟨(some 9), none, .alloc [.slice none 0 0, .int .i64 0, .int .i64 0, .int .i64 0]⟩,
    ⟨(some 8), none, .mov (.tmp 32)⟩,
    ⟨none, none, .store 4 (.tmp 9) (.tmp 33)⟩,
    ⟨(some 10), none, .mov (.tmp 34)⟩]

def f4r11 : List AInstr := [
    ⟨(some 36), none, .mov (.tmp 1)⟩,
    ⟨(some 37), none, .ibin .add (.tmp 36) (.const (.int .i64 1))⟩,
    ⟨(some 38), none, .mov (.tmp 5)⟩,
    ⟨(some 39), none, .callF 9 [.tmp 37, .const (.int .i64 1073741824), .tmp 38]⟩,
    ⟨(some 35), none, .mov (.tmp 39)⟩,
    ⟨(some 40), none, .extract 0 (.tmp 35)⟩,
    ⟨(some 41), none, .extract 1 (.tmp 35)⟩,
    ⟨(some 42), none, .extract 2 (.tmp 35)⟩,
    ⟨(some 12), none, .alloc [.slice none 0 0, .int .i64 0, .int .i64 0, .int .i64 0]⟩,
    ⟨(some 11), none, .mov (.tmp 40)⟩,
    ⟨none, none, .store 4 (.tmp 12) (.tmp 41)⟩,
    ⟨(some 13), none, .mov (.tmp 42)⟩]

def f4r12 : List AInstr := [
    ⟨(some 43), none, .mov (.tmp 10)⟩,
    ⟨(some 44), none, .ibin .neq (.tmp 43) (.const (.int .i64 0))⟩,
    ⟨(some 45), none, .mov (.tmp 44)⟩,
    ⟨(some 46), (some (45, false)), .mov (.tmp 13)⟩,
    ⟨(some 47), (some (45, false)), .ibin .neq (.tmp 46) (.const (.int .i64 0))⟩,
    ⟨(some 48), none, .pick (.tmp 45) (.const (.bool true)) (.tmp 47)⟩]

def f4r13 : List AInstr := [
    ⟨(some 4), none, .mov (.const (.bool true))⟩]

def f4r14 : List AInstr := [
    ⟨(some 49), none, .fieldAddr 0 (.tmp 12)⟩,
    ⟨(some 50), none, .load none (.tmp 49)⟩,
    ⟨(some 51), none, .len (.tmp 50)⟩,
    ⟨(some 52), none, .fieldAddr 0 (.tmp 9)⟩,
    ⟨(some 53), none, .load none (.tmp 52)⟩,
    ⟨(some 54), none, .len (.tmp 53)⟩,
    ⟨(some 55), none, .ibin .geq (.tmp 51) (.tmp 54)⟩,
    ⟨(some 56), none, .mov (.tmp 55)⟩,
    ⟨(some 57), (some (56, true)), .fieldAddr 0 (.tmp 12)⟩,
    ⟨(some 58), (some (56, true)), .load none (.tmp 57)⟩,
    ⟨(some 59), (some (56, true)), .len (.tmp 58)⟩,
    ⟨(some 60), (some (56, true)), .fieldAddr 0 (.tmp 9)⟩,
    ⟨(some 61), (some (56, true)), .load none (.tmp 60)⟩,
    ⟨(some 62), (some (56, true)), .len (.tmp 61)⟩,
    ⟨(some 63), (some (56, true)), .ibin .add (.tmp 62) (.const (.int .i64 1))⟩,
    ⟨(some 64), (some (56, true)), .ibin .leq (.tmp 59) (.tmp 63)⟩,
    ⟨(some 65), none, .pick (.tmp 56) (.tmp 64) (.const (.bool false))⟩,
    ⟨(some 66), none, .mov (.tmp 65)⟩,
    ⟨(some 67), (some (66, true)), .fieldAddr 3 (.tmp 12)⟩,
    ⟨(some 68), (some (66, true)), .load none (.tmp 67)⟩,
    ⟨(some 69), (some (66, true)), .fieldAddr 3 (.tmp 9)⟩,
    ⟨(some 70), (some (66, true)), .load none (.tmp 69)⟩,
    ⟨(some 71), (some (66, true)), .ibin .leq (.tmp 68) (.tmp 70)⟩,
    ⟨(some 72), none, .pick (.tmp 66) (.tmp 71) (.const (.bool false))⟩,
    ⟨(some 73), none, .mov (.tmp 72)⟩,
    ⟨(some 74), (some (73, true)), .fieldAddr 0 (.tmp 12)⟩,
    ⟨(some 75), (some (73, true)), .load none (.tmp 74)⟩,
    ⟨(some 76), (some (73, true)), .fieldAddr 0 (.tmp 9)⟩,
    ⟨(some 77), (some (73, true)), .load none (.tmp 76)⟩,
    ⟨(some 78), (some (73, true)), .len (.tmp 77)⟩,
    ⟨(some 79), (some (73, true)), .slice 1 (.tmp 75) none (some (.tmp 78)) none⟩,
    ⟨(some 80), (some (73, true)), .fieldAddr 0 (.tmp 9)⟩,
    ⟨(some 81), (some (73, true)), .load none (.tmp 80)⟩,
    ⟨(some 82), (some (73, true)), .callF 8 [.tmp 79, .tmp 81]⟩,
    ⟨(some 83), none, .pick (.tmp 73) (.tmp 82) (.const (.bool false))⟩,
    ⟨(some 4), none, .mov (.tmp 83)⟩]

def f4b : ACode := (.seq (.ops f4r0)
  (.keep [0, 1] (.seq (.seq (.ops f4r1)
  (.keep [0, 1, 15] (.cond (.tmp 15) (.keep [] (.seq (.ops f4r2)
  (.keep [4] .ret))) .skip)))
  (.keep [0, 1] (.seq (.ops f4r3)
  (.keep [0, 1, 5] (.seq (.seq (.ops f4r4)
  (.keep [1, 5, 16, 17, 18] (.block 0 (.loop f4l0))))
  (.keep [1, 5] (.seq (.ops f4r10)
  (.keep [1, 5, 9, 10] (.seq (.ops f4r11)
  (.keep [9, 10, 12, 13] (.seq (.seq (.ops f4r12)
  (.keep [9, 12, 48] (.cond (.tmp 48) (.keep [] (.seq (.ops f4r13)
  (.keep [4] .ret))) .skip)))
  (.keep [9, 12] (.seq (.draw f4r14 [(0, 0, false), (0, 0, false), (0, 0, false), (0, 0, false), (0, 0, false), (0, 0, false), (0, 0, false), (0, 0, false), (0, 0, false), (0, 0, false), (0, 0, false), (0, 0, false), (0, 0, false), (0, 0, false), (0, 0, false), (0, 0, false), (0, 0, false), (0, 0, false), (0, 0, false), (0, 0, false), (0, 0, false), (0, 0, false), (0, 0, false), (0, 0, false), (0, 0, false), (0, 0, false), (0, 0, false), (0, 0, false), (0, 0, false), (0, 0, false), (0, 0, false), (0, 0, false), (0, 0, false), (0, 1, true), (1, 1, false), (1, 1, false)])
  (.keep [4] .ret))))))))))))))))

def f4 : AFn := ⟨84, [.tmp 4], f4b⟩

theorem f4_ok : compFn Try.prog 4 = some f4.strip := by kernel_rfl

/- function 5: weirhouse/weirhousekeep.RingOrder; parameters 3; operations that are not compiled: 0 -/
def f5r0 : List AInstr := [
    ⟨(some 6), none, .mov (.const (.bool false))⟩]

def f5r1 : List AInstr := [
    ⟨(some 15), none, .callF 6 []⟩,
    ⟨(some 16), none, .un .not (.tmp 15)⟩]

def f5r2 : List AInstr := [
    ⟨(some 6), none, .mov (.const (.bool false))⟩]

def f5r3 : List AInstr := [
    ⟨(some 18), none, .mov (.tmp 0)⟩,
    ⟨(some 19), none, .mov (.tmp 1)⟩,
    ⟨(some 20), none, .mov (.tmp 2)⟩,
    ⟨(some 21), none, .callF 9 [.tmp 18, .tmp 19, .tmp 20]⟩,
    ⟨(some 17), none, .mov (.tmp 21)⟩,
    ⟨(some 22), none, .extract 0 (.tmp 17)⟩,
    ⟨(some 23), none, .extract 1 (.tmp 17)⟩,
    ⟨(some 24), none, .extract 2 (.tmp 17)⟩,
    ⟨(some 8), none, .alloc [.slice none 0 0, .int .i64 0, .int .i64 0, .int .i64 0]⟩,
    ⟨(some 7), none, .mov (.tmp 22)⟩,
    ⟨none, none, .store 4 (.tmp 8) (.tmp 23)⟩,
    ⟨(some 9), none, .mov (.tmp 24)⟩]

def f5r4 : List AInstr := [
    ⟨(some 25), none, .mov (.tmp 9)⟩,
    ⟨(some 26), none, .ibin .neq (.tmp 25) (.const (.int .i64 0))⟩]

def f5r5 : List AInstr := [
    ⟨(some 27), none, .mov (.tmp 7)⟩,
    ⟨(some 28), none, .len (.tmp 27)⟩,
    ⟨(some 29), none, .ibin .eql (.tmp 28) (.const (.int .i64 0))⟩,
    ⟨(some 6), none, .mov (.tmp 29)⟩]

def f5r6 : List AInstr := [
    ⟨(some 30), none, .mov (.tmp 7)⟩,
    ⟨(some 31), none, .fieldAddr 0 (.tmp 8)⟩,
    ⟨(some 32), none, .load none (.tmp 31)⟩,
    ⟨(some 33), none, .buildSlice 1 2 [.slice none 0 0, .slice none 0 0] [(0, 1, (.tmp 30)), (1, 1, (.tmp 32))]⟩,
    ⟨(some 34), none, .callF 10 [.tmp 33]⟩,
    ⟨(some 10), none, .mov (.tmp 34)⟩]

def f5r7 : List AInstr := [
    ⟨(some 11), none, .mov (.const (.int .i64 0))⟩,
    ⟨(some 12), none, .mov (.const (.int .i64 0))⟩]

def f5r8 : List AInstr := [
    ⟨(some 35), none, .mov (.tmp 2)⟩,
    ⟨(some 36), none, .len (.tmp 35)⟩,
    ⟨(some 37), none, .mov (.const (.int .i64 0))⟩]

def f5r9 : List AInstr := [
    ⟨(some 38), none, .ibin .lss (.tmp 37) (.tmp 36)⟩]

def f5r10 : List AInstr := [
    ⟨(some 39), none, .indexAddr 2 (.tmp 35) (.tmp 37)⟩,
    ⟨(some 40), none, .load (some 2) (.tmp 39)⟩,
    ⟨(some 14), none, .alloc [.int .i64 0, .int .i64 0]⟩,
    ⟨none, none, .store 2 (.tmp 14) (.tmp 40)⟩]

def f5r11 : List AInstr := [
    ⟨(some 41), none, .fieldAddr 0 (.tmp 14)⟩,
    ⟨(some 42), none, .load none (.tmp 41)⟩,
    ⟨(some 43), none, .ibin .neq (.tmp 42) (.const (.int .i64 1))⟩,
    ⟨(some 44), none, .mov (.tmp 43)⟩,
    ⟨(some 45), (some (44, false)), .fieldAddr 1 (.tmp 14)⟩,
    ⟨(some 46), (some (44, false)), .load none (.tmp 45)⟩,
    ⟨(some 47), (some (44, false)), .ibin .lss (.tmp 46) (.const (.int .i64 1))⟩,
    ⟨(some 48), none, .pick (.tmp 44) (.const (.bool true)) (.tmp 47)⟩,
    ⟨(some 49), none, .mov (.tmp 48)⟩,
    ⟨(some 50), (some (49, false)), .fieldAddr 1 (.tmp 14)⟩,
    ⟨(some 51), (some (49, false)), .load none (.tmp 50)⟩,
    ⟨(some 52), (some (49, false)), .ibin .gtr (.tmp 51) (.const (.int .i64 1500))⟩,
    ⟨(some 53), none, .pick (.tmp 49) (.const (.bool true)) (.tmp 52)⟩]

def f5r12 : List AInstr := [
    ⟨(some 54), none, .mov (.tmp 12)⟩,
    ⟨(some 55), none, .ibin .add (.tmp 54) (.const (.int .i64 1))⟩,
    ⟨(some 12), none, .mov (.tmp 55)⟩]

def f5r13 : List AInstr := [
    ⟨(some 56), none, .mov (.tmp 11)⟩,
    ⟨(some 57), none, .mov (.tmp 10)⟩,
    ⟨(some 58), none, .len (.tmp 57)⟩,
    ⟨(some 59), none, .ibin .lss (.tmp 56) (.tmp 58)⟩,
    ⟨(some 60), none, .mov (.tmp 59)⟩,
    ⟨(some 61), (some (60, true)), .mov (.tmp 10)⟩,
    ⟨(some 62), (some (60, true)), .mov (.tmp 11)⟩,
    ⟨(some 63), (some (60, true)), .indexAddr 1 (.tmp 61) (.tmp 62)⟩,
    ⟨(some 64), (some (60, true)), .load none (.tmp 63)⟩,
    ⟨(some 65), (some (60, true)), .fieldAddr 1 (.tmp 14)⟩,
    ⟨(some 66), (some (60, true)), .load none (.tmp 65)⟩,
    ⟨(some 67), (some (60, true)), .ibin .eql (.tmp 64) (.tmp 66)⟩,
    ⟨(some 68), none, .pick (.tmp 60) (.tmp 67) (.const (.bool false))⟩]

def f5r14 : List AInstr := [
    ⟨(some 69), none, .mov (.tmp 11)⟩,
    ⟨(some 70), none, .ibin .add (.tmp 69) (.const (.int .i64 1))⟩,
    ⟨(some 11), none, .mov (.tmp 70)⟩]

def f5r15 : List AInstr := [
    ⟨(some 71), none, .ibin .add (.tmp 37) (.const (.int .i64 1))⟩,
    ⟨(some 37), none, .mov (.tmp 71)⟩]

/-- live: [8, 10, 11, 12, 35, 36, 37] -/
def f5l0 : ACode := (.seq (.ops f5r9)
  (.keep [8, 10, 11, 12, 35, 36, 37, 38] (.seq (.cond (.tmp 38) .skip (.exit 0))
  (.keep [8, 10, 11, 12, 35, 36, 37] (.seq (.block 1 (.seq (.ops f5r10)
  (.keep [8, 10, 11, 12, 14, 35, 36, 37] (.seq (.seq (.ops f5r11)
  (.keep [8, 10, 11, 12, 14, 35, 36, 37, 53] (.cond (.tmp 53) (.exit 1) .skip)))
  (.keep [8, 10, 11, 12, 14, 35, 36, 37] (.seq (.ops f5r12)
  (.keep [8, 10, 11, 12, 14, 35, 36, 37] (.seq (.draw f5r13 [(0, 0, false), (0, 0, false), (0, 0, false), (0, 0, false), (0, 0, false), (0, 0, false), (0, 0, false), (0, 0, false), (0, 0, false), (0, 0, false), (0, 0, false), (0, 0, false), (0, 0, false)])
  (.keep [8, 10, 11, 12, 35, 36, 37, 68] (.cond (.tmp 68) (.keep [8, 10, 11, 12, 35, 36, 37] (.ops f5r14)) .skip))))))))))
  (.keep [8, 10, 11, 12, 35, 36, 37] (.ops f5r15)))))))

def f5r17 : List AInstr := [
    ⟨(some 72), none, .mov (.tmp 11)⟩,
    ⟨(some 73), none, .mov (.tmp 10)⟩,
    ⟨(some 74), none, .len (.tmp 73)⟩,
    ⟨(some 75), none, .ibin .eql (.tmp 72) (.tmp 74)⟩,
    ⟨(some 76), none, .mov (.tmp 75)⟩,
    ⟨(some 77), (some (76, true)), .mov (.tmp 12)⟩,
    ⟨(some 78), (some (76, true)), .mov (.tmp 10)⟩,
    ⟨(some 79), (some (76, true)), .len (.tmp 78)⟩,
    ⟨(some 80), (some (76, true)), .fieldAddr 3 (.tmp 8)⟩,
    ⟨(some 81), (some (76, true)), .load none (.tmp 80)⟩,
    ⟨(some 82), (some (76, true)), .ibin .add (.tmp 79) (.tmp 81)⟩,
    ⟨(some 83), (some (76, true)), .ibin .eql (.tmp 77) (.tmp 82)⟩,
    ⟨(some 84), none, .pick (.tmp 76) (.tmp 83) (.const (.bool false))⟩,
    ⟨(some 85), none, .mov (.tmp 84)⟩,
    ⟨(some 86), (some (85, true)), .load (some 4) (.tmp 8)⟩,
    ⟨(some 87), (some (85, true)), .callF 11 [.tmp 86]⟩,
    ⟨(some 88), none, .pick (.tmp 85) (.tmp 87) (.const (.bool false))⟩,
    ⟨(some 6), none, .mov (.tmp 88)⟩]

def f5b : ACode := (.seq (.ops f5r0)
  (.keep [0, 1, 2] (.seq (.seq (.ops f5r1)
  (.keep [0, 1, 2, 16] (.cond (.tmp 16) (.keep [] (.seq (.ops f5r2)
  (.keep [6] .ret))) .skip)))
  (.keep [0, 1, 2] (.seq (.ops f5r3)
  (.keep [2, 7, 8, 9] (.seq (.seq (.ops f5r4)
  (.keep [2, 7, 8, 26] (.cond (.tmp 26) (.keep [7] (.seq (.ops f5r5)
  (.keep [6] .ret))) .skip)))
  (.keep [2, 7, 8] (.seq (.ops f5r6)
  (.keep [2, 8, 10] (.seq (.ops f5r7)
  (.keep [2, 8, 10, 11, 12] (.seq (.seq (.ops f5r8)
  (.keep [8, 10, 11, 12, 35, 36, 37] (.block 0 (.loop f5l0))))
  (.keep [8, 10, 11, 12] (.seq (.ops f5r17)
  (.keep [6] .ret))))))))))))))))

def f5 : AFn := ⟨89, [.tmp 6], f5b⟩

theorem f5_ok : compFn Try.prog 5 = some f5.strip := by kernel_rfl

/- function 6: weirhouse/weirhousekeep.alive8; parameters 0; operations that are not compiled: 0 -/
def f6r0 : List AInstr := [
    ⟨(some 0), none, .mov (.const (.bool false))⟩]

def f6r1 : List AInstr := [
    ⟨(some 5), none, .build [.int .i64 0, .int .i64 0] [(0, 1, (.const (.int .i64 1))), (1, 1, (.const (.int .i64 60)))]⟩,
    ⟨(some 6), none, .build [.int .i64 0, .int .i64 0] [(0, 1, (.const (.int .i64 1))), (1, 1, (.const (.int .i64 50)))]⟩,
    ⟨(some 7), none, .build [.int .i64 0, .int .i64 0] [(0, 1, (.const (.int .i64 1))), (1, 1, (.const (.int .i64 40)))]⟩,
    ⟨(some 8), none, .build [.int .i64 0, .int .i64 0] [(0, 1, (.const (.int .i64 2)))]⟩,
    ⟨(some 9), none, .build [.int .i64 0, .int .i64 0] [(0, 1, (.const (.int .i64 1))), (1, 1, (.const (.int .i64 60)))]⟩,
    ⟨(some 10), none, .buildSlice 2 5 [.int .i64 0, .int .i64 0, .int .i64 0, .int .i64 0, .int .i64 0, .int .i64 0, .int .i64 0, .int .i64 0, .int .i64 0, .int .i64 0] [(0, 2, (.tmp 5)), (2, 2, (.tmp 6)), (4, 2, (.tmp 7)), (6, 2, (.tmp 8)), (8, 2, (.tmp 9))]⟩,
    ⟨(some 11), none, .callF 9 [.const (.int .i64 2), .const (.int .i64 100), .tmp 10]⟩,
    ⟨(some 4), none, .mov (.tmp 11)⟩,
    ⟨(some 12), none, .extract 0 (.tmp 4)⟩,
    ⟨(some 13), none, .extract 1 (.tmp 4)⟩,
    ⟨(some 14), none, .extract 2 (.tmp 4)⟩,
    ⟨(some 2), none, .alloc [.slice none 0 0, .int .i64 0, .int .i64 0, .int .i64 0]⟩,
    ⟨(some 1), none, .mov (.tmp 12)⟩,
    ⟨none, none, .store 4 (.tmp 2) (.tmp 13)⟩,
    ⟨(some 3), none, .mov (.tmp 14)⟩]

def f6r2 : List AInstr := [
    ⟨(some 15), none, .mov (.tmp 3)⟩,
    ⟨(some 16), none, .ibin .eql (.tmp 15) (.const (.int .i64 0))⟩,
    ⟨(some 17), none, .mov (.tmp 16)⟩,
    ⟨(some 18), (some (17, true)), .mov (.tmp 1)⟩,
    ⟨(some 19), (some (17, true)), .buildSlice 1 1 [.int .i64 0] [(0, 1, (.const (.int .i64 60)))]⟩,
    ⟨(some 20), (some (17, true)), .callF 8 [.tmp 18, .tmp 19]⟩,
    ⟨(some 21), none, .pick (.tmp 17) (.tmp 20) (.const (.bool false))⟩,
    ⟨(some 22), none, .mov (.tmp 21)⟩,
    ⟨(some 23), (some (22, true)), .fieldAddr 0 (.tmp 2)⟩,
    ⟨(some 24), (some (22, true)), .load none (.tmp 23)⟩,
    ⟨(some 25), (some (22, true)), .buildSlice 1 2 [.int .i64 0, .int .i64 0] [(0, 1, (.const (.int .i64 40))), (1, 1, (.const (.int .i64 60)))]⟩,
    ⟨(some 26), (some (22, true)), .callF 8 [.tmp 24, .tmp 25]⟩,
    ⟨(some 27), none, .pick (.tmp 22) (.tmp 26) (.const (.bool false))⟩,
    ⟨(some 28), none, .mov (.tmp 27)⟩,
    ⟨(some 29), (some (28, true)), .fieldAddr 3 (.tmp 2)⟩,
    ⟨(some 30), (some (28, true)), .load none (.tmp 29)⟩,
    ⟨(some 31), (some (28, true)), .ibin .eql (.tmp 30) (.const (.int .i64 1))⟩,
    ⟨(some 32), none, .pick (.tmp 28) (.tmp 31) (.const (.bool false))⟩,
    ⟨(some 0), none, .mov (.tmp 32)⟩]

def f6b : ACode := (.seq (.ops f6r0)
  (.keep [] (.seq (.ops f6r1)
  (.keep [1, 2, 3] (.seq (.ops f6r2)
  (.keep [0] .ret))))))

def f6 : AFn := ⟨33, [.tmp 0], f6b⟩

theorem f6_ok : compFn Try.prog 6 = some f6.strip := by kernel_rfl

/- function 7: weirhouse/ring.Step; parameters 2; operations that are not compiled: 0 -/
def f7r0 : List AInstr := [
    ⟨(some 2), none, .box (.tmp 0)⟩,
    ⟨(some 3), none, .box (.tmp 1)⟩,
    ⟨(some 4), none, .alloc [.slice none 0 0, .int .i64 0, .int .i64 0, .int .i64 0]⟩,
    ⟨(some 5), none, .mov (.const (.int .i64 0))⟩,
    ⟨(some 6), none, .mov (.const (.int .i64 0))⟩]

def f7r1 : List AInstr := [
    ⟨(some 7), none, .mov (.const (.func (.func 12) #[] #[]))⟩]

def f7r2 : List AInstr := [
    ⟨(some 9), none, .load (some 4) (.tmp 2)⟩,
    ⟨(some 10), none, .callF 11 [.tmp 9]⟩,
    ⟨(some 11), none, .un .not (.tmp 10)⟩]

def f7r3 : List AInstr := [
    ⟨(some 12), none, .mov (.tmp 7)⟩,
    ⟨(some 13), none, .callV (.tmp 12) [.const (.int .i64 1)]⟩,
    ⟨(some 14), none, .extract 0 (.tmp 13)⟩,
    ⟨(some 15), none, .extract 1 (.tmp 13)⟩,
    ⟨(some 16), none, .extract 2 (.tmp 13)⟩,
    ⟨none, none, .store 4 (.tmp 4) (.tmp 14)⟩,
    ⟨(some 5), none, .mov (.tmp 15)⟩,
    ⟨(some 6), none, .mov (.tmp 16)⟩]

def f7r4 : List AInstr := [
    ⟨(some 17), none, .fieldAddr 0 (.tmp 2)⟩,
    ⟨(some 18), none, .load none (.tmp 17)⟩,
    ⟨(some 19), none, .callF 13 [.tmp 18]⟩,
    ⟨(some 20), none, .fieldAddr 0 (.tmp 2)⟩,
    ⟨none, none, .store 1 (.tmp 20) (.tmp 19)⟩]

def f7r5 : List AInstr := [
    ⟨(some 21), none, .fieldAddr 0 (.tmp 3)⟩,
    ⟨(some 22), none, .load none (.tmp 21)⟩]

def f7r6 : List AInstr := [
    ⟨(some 24), none, .ibin .eql (.tmp 22) (.const (.int .i64 1))⟩,
    ⟨(some 23), none, .mov (.tmp 24)⟩]

def f7r7 : List AInstr := [
    ⟨(some 26), none, .fieldAddr 1 (.tmp 3)⟩,
    ⟨(some 27), none, .load none (.tmp 26)⟩,
    ⟨(some 28), none, .ibin .lss (.tmp 27) (.const (.int .i64 1))⟩,
    ⟨(some 29), none, .mov (.tmp 28)⟩,
    ⟨(some 30), (some (29, false)), .fieldAddr 1 (.tmp 3)⟩,
    ⟨(some 31), (some (29, false)), .load none (.tmp 30)⟩,
    ⟨(some 32), (some (29, false)), .ibin .gtr (.tmp 31) (.const (.int .i64 1500))⟩,
    ⟨(some 33), none, .pick (.tmp 29) (.const (.bool true)) (.tmp 32)⟩,
    ⟨(some 25), none, .mov (.tmp 33)⟩]

def f7r8 : List AInstr := [
    ⟨(some 34), none, .mov (.tmp 7)⟩,
    ⟨(some 35), none, .callV (.tmp 34) [.const (.int .i64 2)]⟩,
    ⟨(some 36), none, .extract 0 (.tmp 35)⟩,
    ⟨(some 37), none, .extract 1 (.tmp 35)⟩,
    ⟨(some 38), none, .extract 2 (.tmp 35)⟩,
    ⟨none, none, .store 4 (.tmp 4) (.tmp 36)⟩,
    ⟨(some 5), none, .mov (.tmp 37)⟩,
    ⟨(some 6), none, .mov (.tmp 38)⟩]

def f7r9 : List AInstr := [
    ⟨(some 40), none, .fieldAddr 0 (.tmp 2)⟩,
    ⟨(some 41), none, .load none (.tmp 40)⟩,
    ⟨(some 42), none, .len (.tmp 41)⟩,
    ⟨(some 43), none, .fieldAddr 1 (.tmp 2)⟩,
    ⟨(some 44), none, .load none (.tmp 43)⟩,
    ⟨(some 45), none, .ibin .lss (.tmp 42) (.tmp 44)⟩,
    ⟨(some 46), none, .mov (.tmp 45)⟩,
    ⟨(some 47), (some (46, true)), .fieldAddr 0 (.tmp 2)⟩,
    ⟨(some 48), (some (46, true)), .load none (.tmp 47)⟩,
    ⟨(some 49), (some (46, true)), .callF 14 [.tmp 48]⟩,
    ⟨(some 50), (some (46, true)), .fieldAddr 1 (.tmp 3)⟩,
    ⟨(some 51), (some (46, true)), .load none (.tmp 50)⟩,
    ⟨(some 52), (some (46, true)), .ibin .add (.tmp 49) (.tmp 51)⟩,
    ⟨(some 53), (some (46, true)), .fieldAddr 2 (.tmp 2)⟩,
    ⟨(some 54), (some (46, true)), .load none (.tmp 53)⟩,
    ⟨(some 55), (some (46, true)), .ibin .leq (.tmp 52) (.tmp 54)⟩,
    ⟨(some 56), none, .pick (.tmp 46) (.tmp 55) (.const (.bool false))⟩,
    ⟨(some 39), none, .mov (.tmp 56)⟩]

def f7r10 : List AInstr := [
    ⟨(some 57), none, .fieldAddr 0 (.tmp 2)⟩,
    ⟨(some 58), none, .load none (.tmp 57)⟩,
    ⟨(some 59), none, .fieldAddr 1 (.tmp 3)⟩,
    ⟨(some 60), none, .load none (.tmp 59)⟩,
    ⟨(some 61), none, .buildSlice 1 1 [.int .i64 0] [(0, 1, (.tmp 60))]⟩,
    ⟨(some 62), none, .append 1 8 (.tmp 58) (.tmp 61)⟩,
    ⟨(some 63), none, .fieldAddr 0 (.tmp 2)⟩,
    ⟨none, none, .store 1 (.tmp 63) (.tmp 62)⟩]

def f7r11 : List AInstr := [
    ⟨(some 64), none, .load (some 4) (.tmp 2)⟩,
    ⟨none, none, .store 4 (.tmp 4) (.tmp 64)⟩,
    ⟨(some 5), none, .mov (.const (.int .i64 1))⟩,
    ⟨(some 6), none, .mov (.const (.int .i64 0))⟩]

def f7r12 : List AInstr := [
    ⟨(some 66), none, .fieldAddr 3 (.tmp 2)⟩,
    ⟨(some 67), none, .load none (.tmp 66)⟩,
    ⟨(some 68), none, .ibin .eql (.tmp 67) (.const (.int .i64 1099511627776))⟩,
    ⟨(some 65), none, .mov (.tmp 68)⟩]

def f7r13 : List AInstr := [
    ⟨(some 69), none, .mov (.tmp 7)⟩,
    ⟨(some 70), none, .callV (.tmp 69) [.const (.int .i64 4)]⟩,
    ⟨(some 71), none, .extract 0 (.tmp 70)⟩,
    ⟨(some 72), none, .extract 1 (.tmp 70)⟩,
    ⟨(some 73), none, .extract 2 (.tmp 70)⟩,
    ⟨none, none, .store 4 (.tmp 4) (.tmp 71)⟩,
    ⟨(some 5), none, .mov (.tmp 72)⟩,
    ⟨(some 6), none, .mov (.tmp 73)⟩]

def f7r14 : List AInstr := [
    ⟨(some 74), none, .fieldAddr 3 (.tmp 2)⟩,
    ⟨(some 75), none, .load none (.tmp 74)⟩,
    ⟨(some 76), none, .ibin .add (.tmp 75) (.const (.int .i64 1))⟩,
    ⟨(some 77), none, .fieldAddr 3 (.tmp 2)⟩,
    ⟨none, none, .store 1 (.tmp 77) (.tmp 76)⟩]

def f7r15 : List AInstr := [
    ⟨(some 78), none, .load (some 4) (.tmp 2)⟩,
    ⟨none, none, .store 4 (.tmp 4) (.tmp 78)⟩,
    ⟨(some 5), none, .mov (.const (.int .i64 0))⟩,
    ⟨(some 6), none, .mov (.const (.int .i64 0))⟩]

def f7r16 : List AInstr := [
    ⟨(some 80), none, .ibin .eql (.tmp 22) (.const (.int .i64 2))⟩,
    ⟨(some 79), none, .mov (.tmp 80)⟩]

def f7r17 : List AInstr := [
    ⟨(some 81), none, .fieldAddr 0 (.tmp 2)⟩,
    ⟨(some 82), none, .load none (.tmp 81)⟩,
    ⟨(some 83), none, .len (.tmp 82)⟩,
    ⟨(some 84), none, .ibin .eql (.tmp 83) (.const (.int .i64 0))⟩]

def f7r18 : List AInstr := [
    ⟨(some 85), none, .mov (.tmp 7)⟩,
    ⟨(some 86), none, .callV (.tmp 85) [.const (.int .i64 3)]⟩,
    ⟨(some 87), none, .extract 0 (.tmp 86)⟩,
    ⟨(some 88), none, .extract 1 (.tmp 86)⟩,
    ⟨(some 89), none, .extract 2 (.tmp 86)⟩,
    ⟨none, none, .store 4 (.tmp 4) (.tmp 87)⟩,
    ⟨(some 5), none, .mov (.tmp 88)⟩,
    ⟨(some 6), none, .mov (.tmp 89)⟩]

def f7r19 : List AInstr := [
    ⟨(some 90), none, .fieldAddr 0 (.tmp 2)⟩,
    ⟨(some 91), none, .load none (.tmp 90)⟩,
    ⟨(some 92), none, .indexAddr 1 (.tmp 91) (.const (.int .i64 0))⟩,
    ⟨(some 93), none, .load none (.tmp 92)⟩,
    ⟨(some 8), none, .mov (.tmp 93)⟩]

def f7r20 : List AInstr := [
    ⟨(some 94), none, .fieldAddr 0 (.tmp 2)⟩,
    ⟨(some 95), none, .load none (.tmp 94)⟩,
    ⟨(some 96), none, .slice 1 (.tmp 95) (some (.const (.int .i64 1))) none none⟩,
    ⟨(some 97), none, .callF 13 [.tmp 96]⟩,
    ⟨(some 98), none, .fieldAddr 0 (.tmp 2)⟩,
    ⟨none, none, .store 1 (.tmp 98) (.tmp 97)⟩]

def f7r21 : List AInstr := [
    ⟨(some 99), none, .load (some 4) (.tmp 2)⟩,
    ⟨(some 100), none, .mov (.tmp 8)⟩,
    ⟨none, none, .store 4 (.tmp 4) (.tmp 99)⟩,
    ⟨(some 5), none, .mov (.tmp 100)⟩,
    ⟨(some 6), none, .mov (.const (.int .i64 0))⟩]

def f7r22 : List AInstr := [
    ⟨(some 101), none, .mov (.tmp 7)⟩,
    ⟨(some 102), none, .callV (.tmp 101) [.const (.int .i64 5)]⟩,
    ⟨(some 103), none, .extract 0 (.tmp 102)⟩,
    ⟨(some 104), none, .extract 1 (.tmp 102)⟩,
    ⟨(some 105), none, .extract 2 (.tmp 102)⟩,
    ⟨none, none, .store 4 (.tmp 4) (.tmp 103)⟩,
    ⟨(some 5), none, .mov (.tmp 104)⟩,
    ⟨(some 6), none, .mov (.tmp 105)⟩]

def f7b : ACode := (.seq (.ops f7r0)
  (.keep [2, 3, 4] (.seq (.ops f7r1)
  (.keep [2, 3, 4, 7] (.seq (.seq (.ops f7r2)
  (.keep [2, 3, 4, 7, 11] (.cond (.tmp 11) (.keep [4, 7] (.seq (.ops f7r3)
  (.keep [4, 5, 6] .ret))) .skip)))
  (.keep [2, 3, 4, 7] (.seq (.ops f7r4)
  (.keep [2, 3, 4, 7] (.seq (.seq (.ops f7r5)
  (.keep [2, 3, 4, 7, 22] (.block 0 (.seq (.ops f7r6)
  (.keep [2, 3, 4, 7, 22, 23] (.cond (.tmp 23) (.keep [2, 3, 4, 7] (.seq (.block 1 (.seq (.ops f7r7)
  (.keep [2, 3, 4, 7, 25] (.cond (.tmp 25) (.keep [4, 7] (.seq (.ops f7r8)
  (.keep [4, 5, 6] .ret))) (.keep [2, 3, 4, 7] (.seq (.draw f7r9 [(0, 0, false), (0, 0, false), (0, 0, false), (0, 0, false), (0, 0, false), (0, 0, false), (0, 0, false), (0, 0, false), (0, 0, false), (0, 1, true), (0, 1, false), (0, 1, false), (1, 1, false), (0, 1, false), (0, 1, false), (1, 1, false), (1, 1, false), (1, 1, false)])
  (.keep [2, 3, 4, 7, 39] (.cond (.tmp 39) (.keep [2, 3, 4] (.seq (.ops f7r10)
  (.keep [2, 4] (.seq (.ops f7r11)
  (.keep [4, 5, 6] .ret))))) (.keep [2, 4, 7] (.seq (.ops f7r12)
  (.keep [2, 4, 7, 65] (.cond (.tmp 65) (.keep [4, 7] (.seq (.ops f7r13)
  (.keep [4, 5, 6] .ret))) .skip))))))))))))
  (.keep [2, 4] (.seq (.ops f7r14)
  (.keep [2, 4] (.seq (.ops f7r15)
  (.keep [4, 5, 6] .ret))))))) (.keep [2, 4, 7, 22] (.seq (.ops f7r16)
  (.keep [2, 4, 7, 79] (.cond (.tmp 79) (.keep [2, 4, 7] (.seq (.seq (.ops f7r17)
  (.keep [2, 4, 7, 84] (.cond (.tmp 84) (.keep [4, 7] (.seq (.ops f7r18)
  (.keep [4, 5, 6] .ret))) .skip)))
  (.keep [2, 4] (.seq (.ops f7r19)
  (.keep [2, 4, 8] (.seq (.ops f7r20)
  (.keep [2, 4, 8] (.seq (.ops f7r21)
  (.keep [4, 5, 6] .ret))))))))) .skip))))))))))
  (.keep [4, 7] (.seq (.ops f7r22)
  (.keep [4, 5, 6] .ret))))))))))))

def f7 : AFn := ⟨106, [.cell 4 (some 4), .tmp 5, .tmp 6], f7b⟩

theorem f7_ok : compFn Try.prog 7 = some f7.strip := by kernel_rfl

/- function 8: slices.Equal[[]int,int]; parameters 2; operations that are not compiled: 0 -/
def f8r0 : List AInstr := [
    ⟨(some 4), none, .mov (.const (.bool false))⟩]

def f8r1 : List AInstr := [
    ⟨(some 6), none, .mov (.tmp 0)⟩,
    ⟨(some 7), none, .len (.tmp 6)⟩,
    ⟨(some 8), none, .mov (.tmp 1)⟩,
    ⟨(some 9), none, .len (.tmp 8)⟩,
    ⟨(some 10), none, .ibin .neq (.tmp 7) (.tmp 9)⟩]

def f8r2 : List AInstr := [
    ⟨(some 4), none, .mov (.const (.bool false))⟩]

def f8r3 : List AInstr := [
    ⟨(some 11), none, .mov (.tmp 0)⟩,
    ⟨(some 12), none, .len (.tmp 11)⟩,
    ⟨(some 13), none, .mov (.const (.int .i64 0))⟩]

def f8r4 : List AInstr := [
    ⟨(some 14), none, .ibin .lss (.tmp 13) (.tmp 12)⟩]

def f8r5 : List AInstr := [
    ⟨(some 15), none, .mov (.tmp 13)⟩,
    ⟨(some 5), none, .mov (.tmp 15)⟩]

def f8r6 : List AInstr := [
    ⟨(some 16), none, .mov (.tmp 0)⟩,
    ⟨(some 17), none, .mov (.tmp 5)⟩,
    ⟨(some 18), none, .indexAddr 1 (.tmp 16) (.tmp 17)⟩,
    ⟨(some 19), none, .load none (.tmp 18)⟩,
    ⟨(some 20), none, .mov (.tmp 1)⟩,
    ⟨(some 21), none, .mov (.tmp 5)⟩,
    ⟨(some 22), none, .indexAddr 1 (.tmp 20) (.tmp 21)⟩,
    ⟨(some 23), none, .load none (.tmp 22)⟩,
    ⟨(some 24), none, .ibin .neq (.tmp 19) (.tmp 23)⟩]

def f8r7 : List AInstr := [
    ⟨(some 4), none, .mov (.const (.bool false))⟩]

def f8r8 : List AInstr := [
    ⟨(some 25), none, .ibin .add (.tmp 13) (.const (.int .i64 1))⟩,
    ⟨(some 13), none, .mov (.tmp 25)⟩]

/-- live: [0, 1, 12, 13] -/
def f8l0 : ACode := (.seq (.ops f8r4)
  (.keep [0, 1, 12, 13, 14] (.seq (.cond (.tmp 14) .skip (.exit 0))
  (.keep [0, 1, 12, 13] (.seq (.block 1 (.seq (.ops f8r5)
  (.keep [0, 1, 5, 12, 13] (.seq (.draw f8r6 [(0, 0, false), (0, 0, false), (0, 0, false), (0, 0, false), (0, 0, false), (0, 0, false), (0, 0, false), (0, 0, false), (0, 0, false)])
  (.keep [0, 1, 12, 13, 24] (.cond (.tmp 24) (.keep [] (.seq (.ops f8r7)
  (.keep [4] .ret))) .skip))))))
  (.keep [0, 1, 12, 13] (.ops f8r8)))))))

def f8r10 : List AInstr := [
    ⟨(some 4), none, .mov (.const (.bool true))⟩]

def f8b : ACode := (.seq (.ops f8r0)
  (.keep [0, 1] (.seq (.seq (.ops f8r1)
  (.keep [0, 1, 10] (.cond (.tmp 10) (.keep [] (.seq (.ops f8r2)
  (.keep [4] .ret))) .skip)))
  (.keep [0, 1] (.seq (.seq (.ops f8r3)
  (.keep [0, 1, 12, 13] (.block 0 (.loop f8l0))))
  (.keep [] (.seq (.ops f8r10)
  (.keep [4] .ret))))))))

def f8 : AFn := ⟨26, [.tmp 4], f8b⟩

theorem f8_ok : compFn Try.prog 8 = some f8.strip := by kernel_rfl

/- function 9: weirhouse/ring.Play; parameters 3; operations that are not compiled: 0 -/
def f9r0 : List AInstr := [
    ⟨(some 6), none, .mov (.const (.slice none 0 0))⟩,
    ⟨(some 7), none, .alloc [.slice none 0 0, .int .i64 0, .int .i64 0, .int .i64 0]⟩,
    ⟨(some 8), none, .mov (.const (.int .i64 0))⟩]

def f9r1 : List AInstr := [
    ⟨(some 16), none, .mov (.tmp 0)⟩,
    ⟨(some 17), none, .mov (.tmp 1)⟩,
    ⟨(some 18), none, .build [.slice none 0 0, .int .i64 0, .int .i64 0, .int .i64 0] [(1, 1, (.tmp 16)), (2, 1, (.tmp 17))]⟩,
    ⟨(some 9), none, .alloc [.slice none 0 0, .int .i64 0, .int .i64 0, .int .i64 0]⟩,
    ⟨none, none, .store 4 (.tmp 9) (.tmp 18)⟩]

def f9r2 : List AInstr := [
    ⟨(some 19), none, .load (some 4) (.tmp 9)⟩,
    ⟨(some 20), none, .callF 11 [.tmp 19]⟩,
    ⟨(some 21), none, .un .not (.tmp 20)⟩]

def f9r3 : List AInstr := [
    ⟨(some 22), none, .build [.slice none 0 0, .int .i64 0, .int .i64 0, .int .i64 0] []⟩,
    ⟨(some 6), none, .mov (.const (.slice none 0 0))⟩,
    ⟨none, none, .store 4 (.tmp 7) (.tmp 22)⟩,
    ⟨(some 8), none, .mov (.const (.int .i64 2))⟩]

def f9r4 : List AInstr := [
    ⟨(some 10), none, .mov (.const (.slice none 0 0))⟩]

def f9r5 : List AInstr := [
    ⟨(some 23), none, .mov (.tmp 2)⟩,
    ⟨(some 24), none, .len (.tmp 23)⟩,
    ⟨(some 25), none, .mov (.const (.int .i64 0))⟩]

def f9r6 : List AInstr := [
    ⟨(some 26), none, .ibin .lss (.tmp 25) (.tmp 24)⟩]

def f9r7 : List AInstr := [
    ⟨(some 27), none, .indexAddr 2 (.tmp 23) (.tmp 25)⟩,
    ⟨(some 28), none, .load (some 2) (.tmp 27)⟩,
    ⟨(some 12), none, .alloc [.int .i64 0, .int .i64 0]⟩,
    ⟨none, none, .store 2 (.tmp 12) (.tmp 28)⟩]

def f9r8 : List AInstr := [
    ⟨(some 30), none, .load (some 4) (.tmp 9)⟩,
    ⟨(some 31), none, .load (some 2) (.tmp 12)⟩,
    ⟨(some 32), none, .callF 7 [.tmp 30, .tmp 31]⟩,
    ⟨(some 29), none, .mov (.tmp 32)⟩,
    ⟨(some 33), none, .extract 0 (.tmp 29)⟩,
    ⟨(some 34), none, .extract 1 (.tmp 29)⟩,
    ⟨(some 35), none, .extract 2 (.tmp 29)⟩,
    ⟨(some 13), none, .alloc [.slice none 0 0, .int .i64 0, .int .i64 0, .int .i64 0]⟩,
    ⟨none, none, .store 4 (.tmp 13) (.tmp 33)⟩,
    ⟨(some 14), none, .mov (.tmp 34)⟩,
    ⟨(some 15), none, .mov (.tmp 35)⟩]

def f9r9 : List AInstr := [
    ⟨(some 36), none, .mov (.tmp 15)⟩,
    ⟨(some 37), none, .ibin .neq (.tmp 36) (.const (.int .i64 0))⟩]

def f9r10 : List AInstr := [
    ⟨(some 38), none, .load (some 4) (.tmp 13)⟩,
    ⟨none, none, .store 4 (.tmp 9) (.tmp 38)⟩]

def f9r11 : List AInstr := [
    ⟨(some 39), none, .fieldAddr 0 (.tmp 12)⟩,
    ⟨(some 40), none, .load none (.tmp 39)⟩,
    ⟨(some 41), none, .ibin .eql (.tmp 40) (.const (.int .i64 2))⟩]

def f9r12 : List AInstr := [
    ⟨(some 42), none, .mov (.tmp 10)⟩,
    ⟨(some 43), none, .mov (.tmp 14)⟩,
    ⟨(some 44), none, .buildSlice 1 1 [.int .i64 0] [(0, 1, (.tmp 43))]⟩,
    ⟨(some 45), none, .append 1 8 (.tmp 42) (.tmp 44)⟩,
    ⟨(some 10), none, .mov (.tmp 45)⟩]

def f9r13 : List AInstr := [
    ⟨(some 46), none, .ibin .add (.tmp 25) (.const (.int .i64 1))⟩,
    ⟨(some 25), none, .mov (.tmp 46)⟩]

/-- live: [7, 9, 10, 23, 24, 25] -/
def f9l0 : ACode := (.seq (.ops f9r6)
  (.keep [7, 9, 10, 23, 24, 25, 26] (.seq (.cond (.tmp 26) .skip (.exit 0))
  (.keep [7, 9, 10, 23, 24, 25] (.seq (.block 1 (.seq (.ops f9r7)
  (.keep [7, 9, 10, 12, 23, 24, 25] (.seq (.ops f9r8)
  (.keep [7, 9, 10, 12, 13, 14, 15, 23, 24, 25] (.seq (.seq (.ops f9r9)
  (.keep [7, 9, 10, 12, 13, 14, 23, 24, 25, 37] (.cond (.tmp 37) (.exit 1) .skip)))
  (.keep [7, 9, 10, 12, 13, 14, 23, 24, 25] (.seq (.ops f9r10)
  (.keep [7, 9, 10, 12, 14, 23, 24, 25] (.seq (.ops f9r11)
  (.keep [7, 9, 10, 14, 23, 24, 25, 41] (.cond (.tmp 41) (.keep [7, 9, 10, 14, 23, 24, 25] (.ops f9r12)) .skip))))))))))))
  (.keep [7, 9, 10, 23, 24, 25] (.ops f9r13)))))))

def f9r15 : List AInstr := [
    ⟨(some 47), none, .mov (.tmp 10)⟩,
    ⟨(some 48), none, .load (some 4) (.tmp 9)⟩,
    ⟨(some 6), none, .mov (.tmp 47)⟩,
    ⟨none, none, .store 4 (.tmp 7) (.tmp 48)⟩,
    ⟨(some 8), none, .mov (.const (.int .i64 0))⟩]

def f9b : ACode := (.seq (.ops f9r0)
  (.keep [0, 1, 2, 7] (.seq (.ops f9r1)
  (.keep [2, 7, 9] (.seq (.seq (.ops f9r2)
  (.keep [2, 7, 9, 21] (.cond (.tmp 21) (.keep [7] (.seq (.ops f9r3)
  (.keep [6, 7, 8] .ret))) .skip)))
  (.keep [2, 7, 9] (.seq (.ops f9r4)
  (.keep [2, 7, 9, 10] (.seq (.seq (.ops f9r5)
  (.keep [7, 9, 10, 23, 24, 25] (.block 0 (.loop f9l0))))
  (.keep [7, 9, 10] (.seq (.draw f9r15 [(0, 0, false), (0, 0, false), (0, 0, false), (0, 1, true), (1, 1, false)])
  (.keep [6, 7, 8] .ret))))))))))))

def f9 : AFn := ⟨49, [.tmp 6, .cell 7 (some 4), .tmp 8], f9b⟩

theorem f9_ok : compFn Try.prog 9 = some f9.strip := by kernel_rfl

/- function 10: slices.Concat[[]int,int]; parameters 1; operations that are not compiled: 2 -/
def f10r0 : List AInstr := [
    ⟨(some 2), none, .mov (.const (.slice none 0 0))⟩]

def f10r1 : List AInstr := [
    ⟨(some 3), none, .mov (.const (.int .i64 0))⟩]

def f10r2 : List AInstr := [
    ⟨(some 9), none, .mov (.tmp 0)⟩,
    ⟨(some 10), none, .len (.tmp 9)⟩,
    ⟨(some 11), none, .mov (.const (.int .i64 0))⟩]

def f10r3 : List AInstr := [
    ⟨(some 12), none, .ibin .lss (.tmp 11) (.tmp 10)⟩]

def f10r4 : List AInstr := [
    ⟨(some 13), none, .indexAddr 1 (.tmp 9) (.tmp 11)⟩,
    ⟨(some 14), none, .load none (.tmp 13)⟩,
    ⟨(some 5), none, .mov (.tmp 14)⟩]

def f10r5 : List AInstr := [
    ⟨(some 15), none, .mov (.tmp 3)⟩,
    ⟨(some 16), none, .mov (.tmp 5)⟩,
    ⟨(some 17), none, .len (.tmp 16)⟩,
    ⟨(some 18), none, .ibin .add (.tmp 15) (.tmp 17)⟩,
    ⟨(some 3), none, .mov (.tmp 18)⟩]

def f10r6 : List AInstr := [
    ⟨(some 19), none, .mov (.tmp 3)⟩,
    ⟨(some 20), none, .ibin .lss (.tmp 19) (.const (.int .i64 0))⟩]

def f10r7 : List AInstr := [
    ⟨(some 21), none, .bad⟩,
    ⟨none, none, .bad⟩]

def f10r8 : List AInstr := [
    ⟨(some 22), none, .ibin .add (.tmp 11) (.const (.int .i64 1))⟩,
    ⟨(some 11), none, .mov (.tmp 22)⟩]

/-- live: [0, 3, 9, 10, 11] -/
def f10l0 : ACode := (.seq (.ops f10r3)
  (.keep [0, 3, 9, 10, 11, 12] (.seq (.cond (.tmp 12) .skip (.exit 0))
  (.keep [0, 3, 9, 10, 11] (.seq (.block 1 (.seq (.ops f10r4)
  (.keep [0, 3, 5, 9, 10, 11] (.seq (.ops f10r5)
  (.keep [0, 3, 9, 10, 11] (.seq (.ops f10r6)
  (.keep [0, 3, 9, 10, 11, 20] (.cond (.tmp 20) (.keep [0, 3, 9, 10, 11] (.ops f10r7)) .skip))))))))
  (.keep [0, 3, 9, 10, 11] (.ops f10r8)))))))

def f10r10 : List AInstr := [
    ⟨(some 23), none, .mov (.tmp 3)⟩,
    ⟨(some 24), none, .callF 15 [.const (.slice none 0 0), .tmp 23]⟩,
    ⟨(some 6), none, .mov (.tmp 24)⟩]

def f10r11 : List AInstr := [
    ⟨(some 25), none, .mov (.tmp 0)⟩,
    ⟨(some 26), none, .len (.tmp 25)⟩,
    ⟨(some 27), none, .mov (.const (.int .i64 0))⟩]

def f10r12 : List AInstr := [
    ⟨(some 28), none, .ibin .lss (.tmp 27) (.tmp 26)⟩]

def f10r13 : List AInstr := [
    ⟨(some 29), none, .indexAddr 1 (.tmp 25) (.tmp 27)⟩,
    ⟨(some 30), none, .load none (.tmp 29)⟩,
    ⟨(some 8), none, .mov (.tmp 30)⟩]

def f10r14 : List AInstr := [
    ⟨(some 31), none, .mov (.tmp 6)⟩,
    ⟨(some 32), none, .mov (.tmp 8)⟩,
    ⟨(some 33), none, .append 1 8 (.tmp 31) (.tmp 32)⟩,
    ⟨(some 6), none, .mov (.tmp 33)⟩]

def f10r15 : List AInstr := [
    ⟨(some 34), none, .ibin .add (.tmp 27) (.const (.int .i64 1))⟩,
    ⟨(some 27), none, .mov (.tmp 34)⟩]

/-- live: [6, 25, 26, 27] -/
def f10l1 : ACode := (.seq (.ops f10r12)
  (.keep [6, 25, 26, 27, 28] (.seq (.cond (.tmp 28) .skip (.exit 2))
  (.keep [6, 25, 26, 27] (.seq (.block 3 (.seq (.ops f10r13)
  (.keep [6, 8, 25, 26, 27] (.ops f10r14))))
  (.keep [6, 25, 26, 27] (.ops f10r15)))))))

def f10r17 : List AInstr := [
    ⟨(some 35), none, .mov (.tmp 6)⟩,
    ⟨(some 2), none, .mov (.tmp 35)⟩]

def f10b : ACode := (.seq (.ops f10r0)
  (.keep [0] (.seq (.ops f10r1)
  (.keep [0, 3] (.seq (.seq (.ops f10r2)
  (.keep [0, 3, 9, 10, 11] (.block 0 (.loop f10l0))))
  (.keep [0, 3] (.seq (.ops f10r10)
  (.keep [0, 6] (.seq (.seq (.ops f10r11)
  (.keep [6, 25, 26, 27] (.block 2 (.loop f10l1))))
  (.keep [6] (.seq (.ops f10r17)
  (.keep [2] .ret))))))))))))

def f10 : AFn := ⟨36, [.tmp 2], f10b⟩

theorem f10_ok : compFn Try.prog 10 = some f10.strip := by kernel_rfl

/- function 11: weirhouse/ring.Right; parameters 1; operations that are not compiled: 0 -/
def f11r0 : List AInstr := [
    ⟨(some 1), none, .box (.tmp 0)⟩,
    ⟨(some 2), none, .mov (.const (.bool false))⟩]

def f11r1 : List AInstr := [
    ⟨(some 5), none, .fieldAddr 1 (.tmp 1)⟩,
    ⟨(some 6), none, .load none (.tmp 5)⟩,
    ⟨(some 7), none, .ibin .lss (.tmp 6) (.const (.int .i64 0))⟩,
    ⟨(some 8), none, .mov (.tmp 7)⟩,
    ⟨(some 9), (some (8, false)), .fieldAddr 1 (.tmp 1)⟩,
    ⟨(some 10), (some (8, false)), .load none (.tmp 9)⟩,
    ⟨(some 11), (some (8, false)), .ibin .gtr (.tmp 10) (.const (.int .i64 400))⟩,
    ⟨(some 12), none, .pick (.tmp 8) (.const (.bool true)) (.tmp 11)⟩,
    ⟨(some 13), none, .mov (.tmp 12)⟩,
    ⟨(some 14), (some (13, false)), .fieldAddr 2 (.tmp 1)⟩,
    ⟨(some 15), (some (13, false)), .load none (.tmp 14)⟩,
    ⟨(some 16), (some (13, false)), .ibin .lss (.tmp 15) (.const (.int .i64 0))⟩,
    ⟨(some 17), none, .pick (.tmp 13) (.const (.bool true)) (.tmp 16)⟩,
    ⟨(some 18), none, .mov (.tmp 17)⟩,
    ⟨(some 19), (some (18, false)), .fieldAddr 2 (.tmp 1)⟩,
    ⟨(some 20), (some (18, false)), .load none (.tmp 19)⟩,
    ⟨(some 21), (some (18, false)), .ibin .gtr (.tmp 20) (.const (.int .i64 1073741824))⟩,
    ⟨(some 22), none, .pick (.tmp 18) (.const (.bool true)) (.tmp 21)⟩,
    ⟨(some 23), none, .mov (.tmp 22)⟩,
    ⟨(some 24), (some (23, false)), .fieldAddr 3 (.tmp 1)⟩,
    ⟨(some 25), (some (23, false)), .load none (.tmp 24)⟩,
    ⟨(some 26), (some (23, false)), .ibin .lss (.tmp 25) (.const (.int .i64 0))⟩,
    ⟨(some 27), none, .pick (.tmp 23) (.const (.bool true)) (.tmp 26)⟩,
    ⟨(some 28), none, .mov (.tmp 27)⟩,
    ⟨(some 29), (some (28, false)), .fieldAddr 3 (.tmp 1)⟩,
    ⟨(some 30), (some (28, false)), .load none (.tmp 29)⟩,
    ⟨(some 31), (some (28, false)), .ibin .gtr (.tmp 30) (.const (.int .i64 1099511627776))⟩,
    ⟨(some 32), none, .pick (.tmp 28) (.const (.bool true)) (.tmp 31)⟩,
    ⟨(some 33), none, .mov (.tmp 32)⟩,
    ⟨(some 34), (some (33, false)), .fieldAddr 0 (.tmp 1)⟩,
    ⟨(some 35), (some (33, false)), .load none (.tmp 34)⟩,
    ⟨(some 36), (some (33, false)), .len (.tmp 35)⟩,
    ⟨(some 37), (some (33, false)), .fieldAddr 1 (.tmp 1)⟩,
    ⟨(some 38), (some (33, false)), .load none (.tmp 37)⟩,
    ⟨(some 39), (some (33, false)), .ibin .gtr (.tmp 36) (.tmp 38)⟩,
    ⟨(some 40), none, .pick (.tmp 33) (.const (.bool true)) (.tmp 39)⟩]

def f11r2 : List AInstr := [
    ⟨(some 2), none, .mov (.const (.bool false))⟩]

def f11r3 : List AInstr := [
    ⟨(some 41), none, .fieldAddr 0 (.tmp 1)⟩,
    ⟨(some 42), none, .load none (.tmp 41)⟩,
    ⟨(some 43), none, .len (.tmp 42)⟩,
    ⟨(some 44), none, .mov (.const (.int .i64 0))⟩]

def f11r4 : List AInstr := [
    ⟨(some 45), none, .ibin .lss (.tmp 44) (.tmp 43)⟩]

def f11r5 : List AInstr := [
    ⟨(some 46), none, .indexAddr 1 (.tmp 42) (.tmp 44)⟩,
    ⟨(some 47), none, .load none (.tmp 46)⟩,
    ⟨(some 4), none, .mov (.tmp 47)⟩]

def f11r6 : List AInstr := [
    ⟨(some 48), none, .mov (.tmp 4)⟩,
    ⟨(some 49), none, .ibin .lss (.tmp 48) (.const (.int .i64 1))⟩,
    ⟨(some 50), none, .mov (.tmp 49)⟩,
    ⟨(some 51), (some (50, false)), .mov (.tmp 4)⟩,
    ⟨(some 52), (some (50, false)), .ibin .gtr (.tmp 51) (.const (.int .i64 1500))⟩,
    ⟨(some 53), none, .pick (.tmp 50) (.const (.bool true)) (.tmp 52)⟩]

def f11r7 : List AInstr := [
    ⟨(some 2), none, .mov (.const (.bool false))⟩]

def f11r8 : List AInstr := [
    ⟨(some 54), none, .ibin .add (.tmp 44) (.const (.int .i64 1))⟩,
    ⟨(some 44), none, .mov (.tmp 54)⟩]

/-- live: [1, 42, 43, 44] -/
def f11l0 : ACode := (.seq (.ops f11r4)
  (.keep [1, 42, 43, 44, 45] (.seq (.cond (.tmp 45) .skip (.exit 0))
  (.keep [1, 42, 43, 44] (.seq (.block 1 (.seq (.ops f11r5)
  (.keep [1, 4, 42, 43, 44] (.seq (.ops f11r6)
  (.keep [1, 42, 43, 44, 53] (.cond (.tmp 53) (.keep [] (.seq (.ops f11r7)
  (.keep [2] .ret))) .skip))))))
  (.keep [1, 42, 43, 44] (.ops f11r8)))))))

def f11r10 : List AInstr := [
    ⟨(some 55), none, .fieldAddr 0 (.tmp 1)⟩,
    ⟨(some 56), none, .load none (.tmp 55)⟩,
    ⟨(some 57), none, .callF 14 [.tmp 56]⟩,
    ⟨(some 58), none, .fieldAddr 2 (.tmp 1)⟩,
    ⟨(some 59), none, .load none (.tmp 58)⟩,
    ⟨(some 60), none, .ibin .leq (.tmp 57) (.tmp 59)⟩,
    ⟨(some 2), none, .mov (.tmp 60)⟩]

def f11b : ACode := (.seq (.ops f11r0)
  (.keep [1] (.seq (.seq (.ops f11r1)
  (.keep [1, 40] (.cond (.tmp 40) (.keep [] (.seq (.ops f11r2)
  (.keep [2] .ret))) .skip)))
  (.keep [1] (.seq (.seq (.ops f11r3)
  (.keep [1, 42, 43, 44] (.block 0 (.loop f11l0))))
  (.keep [1] (.seq (.draw f11r10 [(0, 0, false), (0, 0, false), (0, 1, true), (0, 1, false), (0, 1, false), (1, 1, false), (1, 1, false)])
  (.keep [2] .ret))))))))

def f11 : AFn := ⟨61, [.tmp 2], f11b⟩

theorem f11_ok : compFn Try.prog 11 = some f11.strip := by kernel_rfl

/- function 12: weirhouse/ring.Step$1; parameters 1; operations that are not compiled: 0 -/
def f12r0 : List AInstr := [
    ⟨(some 2), none, .alloc [.slice none 0 0, .int .i64 0, .int .i64 0, .int .i64 0]⟩,
    ⟨(some 3), none, .mov (.const (.int .i64 0))⟩,
    ⟨(some 4), none, .mov (.const (.int .i64 0))⟩]

def f12r1 : List AInstr := [
    ⟨(some 5), none, .build [.slice none 0 0, .int .i64 0, .int .i64 0, .int .i64 0] []⟩,
    ⟨(some 6), none, .mov (.tmp 0)⟩,
    ⟨none, none, .store 4 (.tmp 2) (.tmp 5)⟩,
    ⟨(some 3), none, .mov (.const (.int .i64 0))⟩,
    ⟨(some 4), none, .mov (.tmp 6)⟩]

def f12b : ACode := (.seq (.ops f12r0)
  (.keep [0, 2] (.seq (.ops f12r1)
  (.keep [2, 3, 4] .ret))))

def f12 : AFn := ⟨7, [.cell 2 (some 4), .tmp 3, .tmp 4], f12b⟩

theorem f12_ok : compFn Try.prog 12 = some f12.strip := by kernel_rfl

/- function 13: slices.Clone[[]int,int]; parameters 1; operations that are not compiled: 0 -/
def f13r0 : List AInstr := [
    ⟨(some 2), none, .mov (.const (.slice none 0 0))⟩]

def f13r1 : List AInstr := [
    ⟨(some 3), none, .mov (.tmp 0)⟩,
    ⟨(some 4), none, .eqS false (.tmp 3) (.const (.slice none 0 0))⟩]

def f13r2 : List AInstr := [
    ⟨(some 2), none, .mov (.const (.slice none 0 0))⟩]

def f13r3 : List AInstr := [
    ⟨(some 5), none, .buildSlice 1 0 [] []⟩,
    ⟨(some 6), none, .mov (.tmp 0)⟩,
    ⟨(some 7), none, .append 1 8 (.tmp 5) (.tmp 6)⟩,
    ⟨(some 2), none, .mov (.tmp 7)⟩]

def f13b : ACode := (.seq (.ops f13r0)
  (.keep [0] (.seq (.seq (.ops f13r1)
  (.keep [0, 4] (.cond (.tmp 4) (.keep [] (.seq (.ops f13r2)
  (.keep [2] .ret))) .skip)))
  (.keep [0] (.seq (.ops f13r3)
  (.keep [2] .ret))))))

def f13 : AFn := ⟨8, [.tmp 2], f13b⟩

theorem f13_ok : compFn Try.prog 13 = some f13.strip := by kernel_rfl

/- function 14: weirhouse/ring.sum; parameters 1; operations that are not compiled: 0 -/
def f14r0 : List AInstr := [
    ⟨(some 2), none, .mov (.const (.int .i64 0))⟩]

def f14r1 : List AInstr := [
    ⟨(some 3), none, .mov (.const (.int .i64 0))⟩]

def f14r2 : List AInstr := [
    ⟨(some 6), none, .mov (.tmp 0)⟩,
    ⟨(some 7), none, .len (.tmp 6)⟩,
    ⟨(some 8), none, .mov (.const (.int .i64 0))⟩]

def f14r3 : List AInstr := [
    ⟨(some 9), none, .ibin .lss (.tmp 8) (.tmp 7)⟩]

def f14r4 : List AInstr := [
    ⟨(some 10), none, .indexAddr 1 (.tmp 6) (.tmp 8)⟩,
    ⟨(some 11), none, .load none (.tmp 10)⟩,
    ⟨(some 5), none, .mov (.tmp 11)⟩]

def f14r5 : List AInstr := [
    ⟨(some 12), none, .mov (.tmp 3)⟩,
    ⟨(some 13), none, .mov (.tmp 5)⟩,
    ⟨(some 14), none, .ibin .add (.tmp 12) (.tmp 13)⟩,
    ⟨(some 3), none, .mov (.tmp 14)⟩]

def f14r6 : List AInstr := [
    ⟨(some 15), none, .ibin .add (.tmp 8) (.const (.int .i64 1))⟩,
    ⟨(some 8), none, .mov (.tmp 15)⟩]

/-- live: [3, 6, 7, 8] -/
def f14l0 : ACode := (.seq (.ops f14r3)
  (.keep [3, 6, 7, 8, 9] (.seq (.cond (.tmp 9) .skip (.exit 0))
  (.keep [3, 6, 7, 8] (.seq (.block 1 (.seq (.ops f14r4)
  (.keep [3, 5, 6, 7, 8] (.ops f14r5))))
  (.keep [3, 6, 7, 8] (.ops f14r6)))))))

def f14r8 : List AInstr := [
    ⟨(some 16), none, .mov (.tmp 3)⟩,
    ⟨(some 2), none, .mov (.tmp 16)⟩]

def f14b : ACode := (.seq (.ops f14r0)
  (.keep [0] (.seq (.ops f14r1)
  (.keep [0, 3] (.seq (.seq (.ops f14r2)
  (.keep [3, 6, 7, 8] (.block 0 (.loop f14l0))))
  (.keep [3] (.seq (.ops f14r8)
  (.keep [2] .ret))))))))

def f14 : AFn := ⟨17, [.tmp 2], f14b⟩

theorem f14_ok : compFn Try.prog 14 = some f14.strip := by kernel_rfl

/- function 15: slices.Grow[[]int,int]; parameters 2; operations that are not compiled: 2 -/
def f15r0 : List AInstr := [
    ⟨(some 4), none, .mov (.const (.slice none 0 0))⟩]

def f15r1 : List AInstr := [
    ⟨(some 5), none, .mov (.tmp 1)⟩,
    ⟨(some 6), none, .ibin .lss (.tmp 5) (.const (.int .i64 0))⟩]

def f15r2 : List AInstr := [
    ⟨(some 7), none, .bad⟩,
    ⟨none, none, .bad⟩]

def f15r3 : List AInstr := [
    ⟨(some 8), none, .mov (.tmp 1)⟩,
    ⟨(some 9), none, .mov (.tmp 0)⟩,
    ⟨(some 10), none, .cap (.tmp 9)⟩,
    ⟨(some 11), none, .mov (.tmp 0)⟩,
    ⟨(some 12), none, .len (.tmp 11)⟩,
    ⟨(some 13), none, .ibin .sub (.tmp 10) (.tmp 12)⟩,
    ⟨(some 14), none, .ibin .sub (.tmp 8) (.tmp 13)⟩,
    ⟨(some 1), none, .mov (.tmp 14)⟩]

def f15r4 : List AInstr := [
    ⟨(some 15), none, .mov (.tmp 1)⟩,
    ⟨(some 16), none, .ibin .gtr (.tmp 15) (.const (.int .i64 0))⟩]

def f15r5 : List AInstr := [
    ⟨(some 17), none, .mov (.tmp 0)⟩,
    ⟨(some 18), none, .mov (.tmp 0)⟩,
    ⟨(some 19), none, .cap (.tmp 18)⟩,
    ⟨(some 20), none, .slice 1 (.tmp 17) none (some (.tmp 19)) none⟩,
    ⟨(some 21), none, .mov (.tmp 1)⟩,
    ⟨(some 22), none, .appendZ 1 8 [.int .i64 0] (.tmp 20) (.tmp 21)⟩,
    ⟨(some 23), none, .mov (.tmp 0)⟩,
    ⟨(some 24), none, .len (.tmp 23)⟩,
    ⟨(some 25), none, .slice 1 (.tmp 22) none (some (.tmp 24)) none⟩,
    ⟨(some 0), none, .mov (.tmp 25)⟩]

def f15r6 : List AInstr := [
    ⟨(some 26), none, .mov (.tmp 0)⟩,
    ⟨(some 4), none, .mov (.tmp 26)⟩]

def f15b : ACode := (.seq (.ops f15r0)
  (.keep [0, 1] (.seq (.seq (.ops f15r1)
  (.keep [0, 1, 6] (.cond (.tmp 6) (.keep [0, 1] (.ops f15r2)) .skip)))
  (.keep [0, 1] (.seq (.seq (.ops f15r3)
  (.keep [0, 1] (.seq (.ops f15r4)
  (.keep [0, 1, 16] (.cond (.tmp 16) (.keep [0, 1] (.ops f15r5)) .skip)))))
  (.keep [0] (.seq (.ops f15r6)
  (.keep [4] .ret))))))))

def f15 : AFn := ⟨27, [.tmp 4], f15b⟩

theorem f15_ok : compFn Try.prog 15 = some f15.strip := by kernel_rfl

end Go.Proofs.Ytimmpjfbejojhaa
