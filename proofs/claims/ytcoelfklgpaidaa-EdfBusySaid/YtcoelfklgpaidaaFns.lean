/-
  The functions of this seat as abstract code. Printed by a program of this claim's writer.
-/
import Derived.Test.YtcoelfklgpaidaaChecked
import Derived.Test.YtcoelfklgpaidaaAmS
import Derived.KernelRfl
namespace Go.Proofs.Ytcoelfklgpaidaa
open Go Go.Am

/- function 3: weirhouse/weirhousekeep.EdfRight; parameters 1; operations that are not compiled: 0 -/
def f3r0 : List AInstr := [
    ⟨(some 2), none, .mov (.const (.bool false))⟩]

def f3r1 : List AInstr := [
    ⟨(some 8), none, .callF 7 []⟩,
    ⟨(some 9), none, .un .not (.tmp 8)⟩]

def f3r2 : List AInstr := [
    ⟨(some 2), none, .mov (.const (.bool false))⟩]

def f3r3 : List AInstr := [
    ⟨(some 11), none, .mov (.tmp 0)⟩,
    ⟨(some 12), none, .callF 8 [.tmp 11]⟩,
    ⟨(some 10), none, .mov (.tmp 12)⟩,
    ⟨(some 13), none, .extract 0 (.tmp 10)⟩,
    ⟨(some 14), none, .extract 1 (.tmp 10)⟩,
    ⟨(some 3), none, .mov (.tmp 13)⟩,
    ⟨(some 4), none, .mov (.tmp 14)⟩]

def f3r4 : List AInstr := [
    ⟨(some 15), none, .mov (.tmp 4)⟩,
    ⟨(some 16), none, .ibin .neq (.tmp 15) (.const (.int .i64 0))⟩,
    ⟨(some 17), none, .mov (.tmp 16)⟩,
    ⟨(some 18), (some (17, false)), .mov (.tmp 3)⟩,
    ⟨(some 19), (some (17, false)), .len (.tmp 18)⟩,
    ⟨(some 20), (some (17, false)), .mov (.tmp 0)⟩,
    ⟨(some 21), (some (17, false)), .len (.tmp 20)⟩,
    ⟨(some 22), (some (17, false)), .ibin .neq (.tmp 19) (.tmp 21)⟩,
    ⟨(some 23), none, .pick (.tmp 17) (.const (.bool true)) (.tmp 22)⟩]

def f3r5 : List AInstr := [
    ⟨(some 24), none, .mov (.tmp 4)⟩,
    ⟨(some 25), none, .ibin .neq (.tmp 24) (.const (.int .i64 0))⟩,
    ⟨(some 2), none, .mov (.tmp 25)⟩]

def f3r6 : List AInstr := [
    ⟨(some 26), none, .makeMap⟩,
    ⟨(some 5), none, .mov (.tmp 26)⟩]

def f3r7 : List AInstr := [
    ⟨(some 27), none, .mov (.tmp 3)⟩,
    ⟨(some 28), none, .len (.tmp 27)⟩,
    ⟨(some 29), none, .mov (.const (.int .i64 0))⟩]

def f3r8 : List AInstr := [
    ⟨(some 30), none, .ibin .lss (.tmp 29) (.tmp 28)⟩]

def f3r9 : List AInstr := [
    ⟨(some 31), none, .mov (.tmp 29)⟩,
    ⟨(some 32), none, .indexAddr 1 (.tmp 27) (.tmp 29)⟩,
    ⟨(some 33), none, .load none (.tmp 32)⟩,
    ⟨(some 6), none, .mov (.tmp 31)⟩,
    ⟨(some 7), none, .mov (.tmp 33)⟩]

def f3r10 : List AInstr := [
    ⟨(some 34), none, .mov (.tmp 7)⟩,
    ⟨(some 35), none, .ibin .eql (.tmp 34) (.const (.int .i64 (-1)))⟩]

def f3r11 : List AInstr := [
    ⟨(some 36), none, .mov (.tmp 7)⟩,
    ⟨(some 37), none, .mov (.tmp 0)⟩,
    ⟨(some 38), none, .mov (.tmp 6)⟩,
    ⟨(some 39), none, .indexAddr 2 (.tmp 37) (.tmp 38)⟩,
    ⟨(some 40), none, .fieldAddr 0 (.tmp 39)⟩,
    ⟨(some 41), none, .load none (.tmp 40)⟩,
    ⟨(some 42), none, .ibin .lss (.tmp 36) (.tmp 41)⟩,
    ⟨(some 43), none, .mov (.tmp 42)⟩,
    ⟨(some 44), (some (43, false)), .mov (.tmp 7)⟩,
    ⟨(some 45), (some (43, false)), .mov (.tmp 0)⟩,
    ⟨(some 46), (some (43, false)), .mov (.tmp 6)⟩,
    ⟨(some 47), (some (43, false)), .indexAddr 2 (.tmp 45) (.tmp 46)⟩,
    ⟨(some 48), (some (43, false)), .fieldAddr 1 (.tmp 47)⟩,
    ⟨(some 49), (some (43, false)), .load none (.tmp 48)⟩,
    ⟨(some 50), (some (43, false)), .ibin .geq (.tmp 44) (.tmp 49)⟩,
    ⟨(some 51), none, .pick (.tmp 43) (.const (.bool true)) (.tmp 50)⟩,
    ⟨(some 52), none, .mov (.tmp 51)⟩,
    ⟨(some 53), (some (52, false)), .mov (.tmp 5)⟩,
    ⟨(some 54), (some (52, false)), .mov (.tmp 7)⟩,
    ⟨(some 55), (some (52, false)), .lookup (.bool false) false (.tmp 53) (.tmp 54)⟩,
    ⟨(some 56), none, .pick (.tmp 52) (.const (.bool true)) (.tmp 55)⟩]

def f3r12 : List AInstr := [
    ⟨(some 2), none, .mov (.const (.bool false))⟩]

def f3r13 : List AInstr := [
    ⟨(some 57), none, .mov (.tmp 5)⟩,
    ⟨(some 58), none, .mov (.tmp 7)⟩,
    ⟨none, none, .mapUpdate (.tmp 57) (.tmp 58) (.const (.bool true))⟩]

def f3r14 : List AInstr := [
    ⟨(some 59), none, .ibin .add (.tmp 29) (.const (.int .i64 1))⟩,
    ⟨(some 29), none, .mov (.tmp 59)⟩]

/-- live: [0, 5, 27, 28, 29] -/
def f3l0 : ACode := (.seq (.ops f3r8)
  (.keep [0, 5, 27, 28, 29, 30] (.seq (.cond (.tmp 30) .skip (.exit 0))
  (.keep [0, 5, 27, 28, 29] (.seq (.block 1 (.seq (.ops f3r9)
  (.keep [0, 5, 6, 7, 27, 28, 29] (.seq (.seq (.ops f3r10)
  (.keep [0, 5, 6, 7, 27, 28, 29, 35] (.cond (.tmp 35) (.exit 1) .skip)))
  (.keep [0, 5, 6, 7, 27, 28, 29] (.seq (.seq (.ops f3r11)
  (.keep [0, 5, 7, 27, 28, 29, 56] (.cond (.tmp 56) (.keep [] (.seq (.ops f3r12)
  (.keep [2] .ret))) .skip)))
  (.keep [0, 5, 7, 27, 28, 29] (.ops f3r13))))))))
  (.keep [0, 5, 27, 28, 29] (.ops f3r14)))))))

def f3r16 : List AInstr := [
    ⟨(some 2), none, .mov (.const (.bool true))⟩]

def f3b : ACode := (.seq (.ops f3r0)
  (.keep [0] (.seq (.seq (.ops f3r1)
  (.keep [0, 9] (.cond (.tmp 9) (.keep [] (.seq (.ops f3r2)
  (.keep [2] .ret))) .skip)))
  (.keep [0] (.seq (.ops f3r3)
  (.keep [0, 3, 4] (.seq (.seq (.ops f3r4)
  (.keep [0, 3, 4, 23] (.cond (.tmp 23) (.keep [4] (.seq (.ops f3r5)
  (.keep [2] .ret))) .skip)))
  (.keep [0, 3] (.seq (.ops f3r6)
  (.keep [0, 3, 5] (.seq (.seq (.ops f3r7)
  (.keep [0, 5, 27, 28, 29] (.block 0 (.loop f3l0))))
  (.keep [] (.seq (.ops f3r16)
  (.keep [2] .ret))))))))))))))

def f3 : AFn := ⟨60, [.tmp 2], f3b⟩

theorem f3_ok : compFn Try.prog 3 = some f3.strip := by kernel_rfl

/- function 4: weirhouse/weirhousekeep.EdfBest; parameters 1; operations that are not compiled: 0 -/
def f4r0 : List AInstr := [
    ⟨(some 2), none, .mov (.const (.bool false))⟩]

def f4r1 : List AInstr := [
    ⟨(some 8), none, .callF 7 []⟩,
    ⟨(some 9), none, .un .not (.tmp 8)⟩]

def f4r2 : List AInstr := [
    ⟨(some 2), none, .mov (.const (.bool false))⟩]

def f4r3 : List AInstr := [
    ⟨(some 11), none, .mov (.tmp 0)⟩,
    ⟨(some 12), none, .callF 8 [.tmp 11]⟩,
    ⟨(some 10), none, .mov (.tmp 12)⟩,
    ⟨(some 13), none, .extract 0 (.tmp 10)⟩,
    ⟨(some 14), none, .extract 1 (.tmp 10)⟩,
    ⟨(some 3), none, .mov (.tmp 13)⟩,
    ⟨(some 4), none, .mov (.tmp 14)⟩]

def f4r4 : List AInstr := [
    ⟨(some 16), none, .mov (.tmp 0)⟩,
    ⟨(some 17), none, .callF 9 [.tmp 16]⟩,
    ⟨(some 15), none, .mov (.tmp 17)⟩,
    ⟨(some 18), none, .extract 0 (.tmp 15)⟩,
    ⟨(some 19), none, .extract 1 (.tmp 15)⟩,
    ⟨(some 20), none, .extract 2 (.tmp 15)⟩,
    ⟨(some 5), none, .alloc [.int .i64 0, .int .i64 0]⟩,
    ⟨none, none, .store 2 (.tmp 5) (.tmp 18)⟩,
    ⟨(some 6), none, .mov (.tmp 19)⟩,
    ⟨(some 7), none, .mov (.tmp 20)⟩]

def f4r5 : List AInstr := [
    ⟨(some 21), none, .mov (.tmp 4)⟩,
    ⟨(some 22), none, .ibin .neq (.tmp 21) (.const (.int .i64 0))⟩]

def f4r6 : List AInstr := [
    ⟨(some 23), none, .mov (.tmp 7)⟩,
    ⟨(some 24), none, .mov (.tmp 4)⟩,
    ⟨(some 25), none, .ibin .eql (.tmp 23) (.tmp 24)⟩,
    ⟨(some 26), none, .mov (.tmp 25)⟩,
    ⟨(some 27), (some (26, true)), .mov (.tmp 3)⟩,
    ⟨(some 28), (some (26, true)), .len (.tmp 27)⟩,
    ⟨(some 29), (some (26, true)), .ibin .eql (.tmp 28) (.const (.int .i64 0))⟩,
    ⟨(some 30), none, .pick (.tmp 26) (.tmp 29) (.const (.bool false))⟩,
    ⟨(some 2), none, .mov (.tmp 30)⟩]

def f4r7 : List AInstr := [
    ⟨(some 31), none, .mov (.tmp 7)⟩,
    ⟨(some 32), none, .ibin .eql (.tmp 31) (.const (.int .i64 0))⟩,
    ⟨(some 33), none, .mov (.tmp 32)⟩,
    ⟨(some 34), (some (33, true)), .mov (.tmp 3)⟩,
    ⟨(some 35), (some (33, true)), .len (.tmp 34)⟩,
    ⟨(some 36), (some (33, true)), .mov (.tmp 0)⟩,
    ⟨(some 37), (some (33, true)), .len (.tmp 36)⟩,
    ⟨(some 38), (some (33, true)), .ibin .eql (.tmp 35) (.tmp 37)⟩,
    ⟨(some 39), none, .pick (.tmp 33) (.tmp 38) (.const (.bool false))⟩,
    ⟨(some 40), none, .mov (.tmp 39)⟩,
    ⟨(some 41), (some (40, true)), .mov (.tmp 6)⟩,
    ⟨(some 42), (some (40, true)), .mov (.tmp 3)⟩,
    ⟨(some 43), (some (40, true)), .callF 10 [.tmp 42, .const (.int .i64 (-1))]⟩,
    ⟨(some 44), (some (40, true)), .eqB false (.tmp 41) (.tmp 43)⟩,
    ⟨(some 45), none, .pick (.tmp 40) (.tmp 44) (.const (.bool false))⟩,
    ⟨(some 2), none, .mov (.tmp 45)⟩]

def f4b : ACode := (.seq (.ops f4r0)
  (.keep [0] (.seq (.seq (.ops f4r1)
  (.keep [0, 9] (.cond (.tmp 9) (.keep [] (.seq (.ops f4r2)
  (.keep [2] .ret))) .skip)))
  (.keep [0] (.seq (.ops f4r3)
  (.keep [0, 3, 4] (.seq (.ops f4r4)
  (.keep [0, 3, 4, 6, 7] (.seq (.seq (.ops f4r5)
  (.keep [0, 3, 4, 6, 7, 22] (.cond (.tmp 22) (.keep [3, 4, 7] (.seq (.ops f4r6)
  (.keep [2] .ret))) .skip)))
  (.keep [0, 3, 6, 7] (.seq (.ops f4r7)
  (.keep [2] .ret))))))))))))

def f4 : AFn := ⟨46, [.tmp 2], f4b⟩

theorem f4_ok : compFn Try.prog 4 = some f4.strip := by kernel_rfl

/- function 5: weirhouse/weirhousekeep.EdfOther; parameters 2; operations that are not compiled: 0 -/
def f5r0 : List AInstr := [
    ⟨(some 4), none, .mov (.const (.bool false))⟩]

def f5r1 : List AInstr := [
    ⟨(some 10), none, .callF 7 []⟩,
    ⟨(some 11), none, .un .not (.tmp 10)⟩]

def f5r2 : List AInstr := [
    ⟨(some 4), none, .mov (.const (.bool false))⟩]

def f5r3 : List AInstr := [
    ⟨(some 13), none, .mov (.tmp 0)⟩,
    ⟨(some 14), none, .callF 8 [.tmp 13]⟩,
    ⟨(some 12), none, .mov (.tmp 14)⟩,
    ⟨(some 15), none, .extract 0 (.tmp 12)⟩,
    ⟨(some 16), none, .extract 1 (.tmp 12)⟩,
    ⟨(some 5), none, .mov (.tmp 15)⟩,
    ⟨(some 6), none, .mov (.tmp 16)⟩]

def f5r4 : List AInstr := [
    ⟨(some 17), none, .mov (.tmp 6)⟩,
    ⟨(some 18), none, .ibin .neq (.tmp 17) (.const (.int .i64 0))⟩,
    ⟨(some 19), none, .mov (.tmp 18)⟩,
    ⟨(some 20), (some (19, false)), .mov (.tmp 1)⟩,
    ⟨(some 21), (some (19, false)), .len (.tmp 20)⟩,
    ⟨(some 22), (some (19, false)), .mov (.tmp 0)⟩,
    ⟨(some 23), (some (19, false)), .len (.tmp 22)⟩,
    ⟨(some 24), (some (19, false)), .ibin .neq (.tmp 21) (.tmp 23)⟩,
    ⟨(some 25), none, .pick (.tmp 19) (.const (.bool true)) (.tmp 24)⟩]

def f5r5 : List AInstr := [
    ⟨(some 4), none, .mov (.const (.bool true))⟩]

def f5r6 : List AInstr := [
    ⟨(some 26), none, .makeMap⟩,
    ⟨(some 7), none, .mov (.tmp 26)⟩]

def f5r7 : List AInstr := [
    ⟨(some 27), none, .mov (.tmp 1)⟩,
    ⟨(some 28), none, .len (.tmp 27)⟩,
    ⟨(some 29), none, .mov (.const (.int .i64 0))⟩]

def f5r8 : List AInstr := [
    ⟨(some 30), none, .ibin .lss (.tmp 29) (.tmp 28)⟩]

def f5r9 : List AInstr := [
    ⟨(some 31), none, .mov (.tmp 29)⟩,
    ⟨(some 32), none, .indexAddr 1 (.tmp 27) (.tmp 29)⟩,
    ⟨(some 33), none, .load none (.tmp 32)⟩,
    ⟨(some 8), none, .mov (.tmp 31)⟩,
    ⟨(some 9), none, .mov (.tmp 33)⟩]

def f5r10 : List AInstr := [
    ⟨(some 34), none, .mov (.tmp 9)⟩,
    ⟨(some 35), none, .mov (.tmp 0)⟩,
    ⟨(some 36), none, .mov (.tmp 8)⟩,
    ⟨(some 37), none, .indexAddr 2 (.tmp 35) (.tmp 36)⟩,
    ⟨(some 38), none, .fieldAddr 0 (.tmp 37)⟩,
    ⟨(some 39), none, .load none (.tmp 38)⟩,
    ⟨(some 40), none, .ibin .lss (.tmp 34) (.tmp 39)⟩,
    ⟨(some 41), none, .mov (.tmp 40)⟩,
    ⟨(some 42), (some (41, false)), .mov (.tmp 9)⟩,
    ⟨(some 43), (some (41, false)), .mov (.tmp 0)⟩,
    ⟨(some 44), (some (41, false)), .mov (.tmp 8)⟩,
    ⟨(some 45), (some (41, false)), .indexAddr 2 (.tmp 43) (.tmp 44)⟩,
    ⟨(some 46), (some (41, false)), .fieldAddr 1 (.tmp 45)⟩,
    ⟨(some 47), (some (41, false)), .load none (.tmp 46)⟩,
    ⟨(some 48), (some (41, false)), .ibin .geq (.tmp 42) (.tmp 47)⟩,
    ⟨(some 49), none, .pick (.tmp 41) (.const (.bool true)) (.tmp 48)⟩,
    ⟨(some 50), none, .mov (.tmp 49)⟩,
    ⟨(some 51), (some (50, false)), .mov (.tmp 7)⟩,
    ⟨(some 52), (some (50, false)), .mov (.tmp 9)⟩,
    ⟨(some 53), (some (50, false)), .lookup (.bool false) false (.tmp 51) (.tmp 52)⟩,
    ⟨(some 54), none, .pick (.tmp 50) (.const (.bool true)) (.tmp 53)⟩]

def f5r11 : List AInstr := [
    ⟨(some 4), none, .mov (.const (.bool true))⟩]

def f5r12 : List AInstr := [
    ⟨(some 55), none, .mov (.tmp 7)⟩,
    ⟨(some 56), none, .mov (.tmp 9)⟩,
    ⟨none, none, .mapUpdate (.tmp 55) (.tmp 56) (.const (.bool true))⟩]

def f5r13 : List AInstr := [
    ⟨(some 57), none, .ibin .add (.tmp 29) (.const (.int .i64 1))⟩,
    ⟨(some 29), none, .mov (.tmp 57)⟩]

/-- live: [0, 5, 7, 27, 28, 29] -/
def f5l0 : ACode := (.seq (.ops f5r8)
  (.keep [0, 5, 7, 27, 28, 29, 30] (.seq (.cond (.tmp 30) .skip (.exit 0))
  (.keep [0, 5, 7, 27, 28, 29] (.seq (.block 1 (.seq (.ops f5r9)
  (.keep [0, 5, 7, 8, 9, 27, 28, 29] (.seq (.seq (.ops f5r10)
  (.keep [0, 5, 7, 9, 27, 28, 29, 54] (.cond (.tmp 54) (.keep [] (.seq (.ops f5r11)
  (.keep [4] .ret))) .skip)))
  (.keep [0, 5, 7, 9, 27, 28, 29] (.ops f5r12))))))
  (.keep [0, 5, 7, 27, 28, 29] (.ops f5r13)))))))

def f5r15 : List AInstr := [
    ⟨(some 58), none, .mov (.tmp 5)⟩,
    ⟨(some 59), none, .callF 10 [.tmp 58, .const (.int .i64 (-1))]⟩,
    ⟨(some 60), none, .un .not (.tmp 59)⟩,
    ⟨(some 61), none, .mov (.tmp 60)⟩,
    ⟨(some 62), (some (61, true)), .mov (.tmp 5)⟩,
    ⟨(some 63), (some (61, true)), .len (.tmp 62)⟩,
    ⟨(some 64), (some (61, true)), .mov (.tmp 0)⟩,
    ⟨(some 65), (some (61, true)), .len (.tmp 64)⟩,
    ⟨(some 66), (some (61, true)), .ibin .eql (.tmp 63) (.tmp 65)⟩,
    ⟨(some 67), none, .pick (.tmp 61) (.tmp 66) (.const (.bool false))⟩,
    ⟨(some 4), none, .mov (.tmp 67)⟩]

def f5b : ACode := (.seq (.ops f5r0)
  (.keep [0, 1] (.seq (.seq (.ops f5r1)
  (.keep [0, 1, 11] (.cond (.tmp 11) (.keep [] (.seq (.ops f5r2)
  (.keep [4] .ret))) .skip)))
  (.keep [0, 1] (.seq (.ops f5r3)
  (.keep [0, 1, 5, 6] (.seq (.seq (.ops f5r4)
  (.keep [0, 1, 5, 25] (.cond (.tmp 25) (.keep [] (.seq (.ops f5r5)
  (.keep [4] .ret))) .skip)))
  (.keep [0, 1, 5] (.seq (.ops f5r6)
  (.keep [0, 1, 5, 7] (.seq (.seq (.ops f5r7)
  (.keep [0, 5, 7, 27, 28, 29] (.block 0 (.loop f5l0))))
  (.keep [0, 5] (.seq (.ops f5r15)
  (.keep [4] .ret))))))))))))))

def f5 : AFn := ⟨68, [.tmp 4], f5b⟩

theorem f5_ok : compFn Try.prog 5 = some f5.strip := by kernel_rfl

/- function 6: weirhouse/weirhousekeep.EdfBusy; parameters 1; operations that are not compiled: 0 -/
def f6r0 : List AInstr := [
    ⟨(some 2), none, .mov (.const (.bool false))⟩]

def f6r1 : List AInstr := [
    ⟨(some 8), none, .callF 7 []⟩,
    ⟨(some 9), none, .un .not (.tmp 8)⟩]

def f6r2 : List AInstr := [
    ⟨(some 2), none, .mov (.const (.bool false))⟩]

def f6r3 : List AInstr := [
    ⟨(some 11), none, .mov (.tmp 0)⟩,
    ⟨(some 12), none, .callF 8 [.tmp 11]⟩,
    ⟨(some 10), none, .mov (.tmp 12)⟩,
    ⟨(some 13), none, .extract 0 (.tmp 10)⟩,
    ⟨(some 14), none, .extract 1 (.tmp 10)⟩,
    ⟨(some 3), none, .mov (.tmp 13)⟩,
    ⟨(some 4), none, .mov (.tmp 14)⟩]

def f6r4 : List AInstr := [
    ⟨(some 15), none, .mov (.tmp 4)⟩,
    ⟨(some 16), none, .ibin .neq (.tmp 15) (.const (.int .i64 0))⟩,
    ⟨(some 17), none, .mov (.tmp 16)⟩,
    ⟨(some 18), (some (17, false)), .mov (.tmp 3)⟩,
    ⟨(some 19), (some (17, false)), .len (.tmp 18)⟩,
    ⟨(some 20), (some (17, false)), .mov (.tmp 0)⟩,
    ⟨(some 21), (some (17, false)), .len (.tmp 20)⟩,
    ⟨(some 22), (some (17, false)), .ibin .neq (.tmp 19) (.tmp 21)⟩,
    ⟨(some 23), none, .pick (.tmp 17) (.const (.bool true)) (.tmp 22)⟩]

def f6r5 : List AInstr := [
    ⟨(some 24), none, .mov (.tmp 4)⟩,
    ⟨(some 25), none, .ibin .neq (.tmp 24) (.const (.int .i64 0))⟩,
    ⟨(some 2), none, .mov (.tmp 25)⟩]

def f6r6 : List AInstr := [
    ⟨(some 26), none, .mov (.tmp 3)⟩,
    ⟨(some 27), none, .len (.tmp 26)⟩,
    ⟨(some 28), none, .mov (.const (.int .i64 0))⟩]

def f6r7 : List AInstr := [
    ⟨(some 29), none, .ibin .lss (.tmp 28) (.tmp 27)⟩]

def f6r8 : List AInstr := [
    ⟨(some 30), none, .mov (.tmp 28)⟩,
    ⟨(some 31), none, .indexAddr 1 (.tmp 26) (.tmp 28)⟩,
    ⟨(some 32), none, .load none (.tmp 31)⟩,
    ⟨(some 5), none, .mov (.tmp 30)⟩,
    ⟨(some 6), none, .mov (.tmp 32)⟩]

def f6r9 : List AInstr := [
    ⟨(some 33), none, .mov (.tmp 6)⟩,
    ⟨(some 34), none, .ibin .neq (.tmp 33) (.const (.int .i64 (-1)))⟩]

def f6r10 : List AInstr := [
    ⟨(some 35), none, .mov (.tmp 0)⟩,
    ⟨(some 36), none, .mov (.tmp 5)⟩,
    ⟨(some 37), none, .indexAddr 2 (.tmp 35) (.tmp 36)⟩,
    ⟨(some 38), none, .fieldAddr 0 (.tmp 37)⟩,
    ⟨(some 39), none, .load none (.tmp 38)⟩,
    ⟨(some 7), none, .alloc [.int .i64 0]⟩,
    ⟨none, none, .store 1 (.tmp 7) (.tmp 39)⟩]

def f6r11 : List AInstr := [
    ⟨(some 40), none, .load none (.tmp 7)⟩,
    ⟨(some 41), none, .mov (.tmp 0)⟩,
    ⟨(some 42), none, .mov (.tmp 5)⟩,
    ⟨(some 43), none, .indexAddr 2 (.tmp 41) (.tmp 42)⟩,
    ⟨(some 44), none, .fieldAddr 1 (.tmp 43)⟩,
    ⟨(some 45), none, .load none (.tmp 44)⟩,
    ⟨(some 46), none, .ibin .lss (.tmp 40) (.tmp 45)⟩]

def f6r12 : List AInstr := [
    ⟨(some 49), none, .mov (.tmp 3)⟩,
    ⟨(some 50), none, .func (.func 12) [] [.tmp 7]⟩,
    ⟨(some 51), none, .callF 11 [.tmp 49, .tmp 50]⟩,
    ⟨(some 52), none, .un .not (.tmp 51)⟩,
    ⟨(some 53), none, .mov (.tmp 52)⟩,
    ⟨(some 54), (some (53, false)), .mov (.tmp 0)⟩,
    ⟨(some 55), (some (53, false)), .mov (.tmp 3)⟩,
    ⟨(some 56), (some (53, false)), .load none (.tmp 7)⟩,
    ⟨(some 61), (some (53, false)), .mov (.tmp 0)⟩,
    ⟨(some 62), (some (53, false)), .mov (.tmp 5)⟩,
    ⟨(some 63), (some (53, false)), .indexAddr 2 (.tmp 61) (.tmp 62)⟩,
    ⟨(some 64), (some (53, false)), .fieldAddr 1 (.tmp 63)⟩,
    ⟨(some 65), (some (53, false)), .load none (.tmp 64)⟩,
    ⟨(some 57), (some (53, false)), .callF 13 [.tmp 55, .tmp 56]⟩,
    ⟨(some 58), (some (53, false)), .indexAddr 2 (.tmp 54) (.tmp 57)⟩,
    ⟨(some 59), (some (53, false)), .fieldAddr 1 (.tmp 58)⟩,
    ⟨(some 60), (some (53, false)), .load none (.tmp 59)⟩,
    ⟨(some 66), (some (53, false)), .ibin .gtr (.tmp 60) (.tmp 65)⟩,
    ⟨(some 67), none, .pick (.tmp 53) (.const (.bool true)) (.tmp 66)⟩]

def f6r13 : List AInstr := [
    ⟨(some 2), none, .mov (.const (.bool false))⟩]

def f6r14 : List AInstr := [
    ⟨(some 68), none, .load none (.tmp 7)⟩]

def f6r15 : List AInstr := [
    ⟨(some 7), none, .alloc [.int .i64 0]⟩,
    ⟨none, none, .store 1 (.tmp 7) (.tmp 68)⟩]

def f6r16 : List AInstr := [
    ⟨(some 47), none, .load none (.tmp 7)⟩,
    ⟨(some 48), none, .ibin .add (.tmp 47) (.const (.int .i64 1))⟩,
    ⟨none, none, .store 1 (.tmp 7) (.tmp 48)⟩]

/-- live: [0, 3, 5, 7, 26, 27, 28] -/
def f6l0 : ACode := (.seq (.seq (.draw f6r11 [(0, 0, false), (0, 0, false), (0, 0, false), (0, 0, false), (0, 0, false), (0, 0, false), (0, 0, false)])
  (.keep [0, 3, 5, 7, 26, 27, 28, 46] (.cond (.tmp 46) .skip (.exit 2))))
  (.keep [0, 3, 5, 7, 26, 27, 28] (.seq (.block 3 (.seq (.alt [(f6r12, [(0, 0, false), (0, 0, false), (0, 0, true), (1, 1, false), (1, 1, false), (1, 2, false), (1, 1, false), (1, 1, false), (1, 2, false), (1, 2, false), (1, 2, false), (1, 2, false), (1, 2, false), (1, 0, true), (2, 2, false), (2, 2, false), (2, 2, false), (2, 2, false), (2, 2, false)])])
  (.keep [0, 3, 5, 7, 26, 27, 28, 67] (.cond (.tmp 67) (.keep [] (.seq (.ops f6r13)
  (.keep [2] .ret))) .skip))))
  (.keep [0, 3, 5, 7, 26, 27, 28] (.seq (.seq (.ops f6r14)
  (.keep [0, 3, 5, 26, 27, 28, 68] (.ops f6r15)))
  (.keep [0, 3, 5, 7, 26, 27, 28] (.ops f6r16)))))))

def f6r18 : List AInstr := [
    ⟨(some 69), none, .ibin .add (.tmp 28) (.const (.int .i64 1))⟩,
    ⟨(some 28), none, .mov (.tmp 69)⟩]

/-- live: [0, 3, 26, 27, 28] -/
def f6l1 : ACode := (.seq (.ops f6r7)
  (.keep [0, 3, 26, 27, 28, 29] (.seq (.cond (.tmp 29) .skip (.exit 0))
  (.keep [0, 3, 26, 27, 28] (.seq (.block 1 (.seq (.ops f6r8)
  (.keep [0, 3, 5, 6, 26, 27, 28] (.seq (.seq (.ops f6r9)
  (.keep [0, 3, 5, 26, 27, 28, 34] (.cond (.tmp 34) (.exit 1) .skip)))
  (.keep [0, 3, 5, 26, 27, 28] (.seq (.ops f6r10)
  (.keep [0, 3, 5, 7, 26, 27, 28] (.block 2 (.loop f6l0)))))))))
  (.keep [0, 3, 26, 27, 28] (.ops f6r18)))))))

def f6r20 : List AInstr := [
    ⟨(some 2), none, .mov (.const (.bool true))⟩]

def f6b : ACode := (.seq (.ops f6r0)
  (.keep [0] (.seq (.seq (.ops f6r1)
  (.keep [0, 9] (.cond (.tmp 9) (.keep [] (.seq (.ops f6r2)
  (.keep [2] .ret))) .skip)))
  (.keep [0] (.seq (.ops f6r3)
  (.keep [0, 3, 4] (.seq (.seq (.ops f6r4)
  (.keep [0, 3, 4, 23] (.cond (.tmp 23) (.keep [4] (.seq (.ops f6r5)
  (.keep [2] .ret))) .skip)))
  (.keep [0, 3] (.seq (.seq (.ops f6r6)
  (.keep [0, 3, 26, 27, 28] (.block 0 (.loop f6l1))))
  (.keep [] (.seq (.ops f6r20)
  (.keep [2] .ret))))))))))))

def f6 : AFn := ⟨70, [.tmp 2], f6b⟩

theorem f6_ok : compFn Try.prog 6 = some f6.strip := by kernel_rfl

/- function 7: weirhouse/weirhousekeep.alive19; parameters 0; operations that are not compiled: 0 -/
def f7r0 : List AInstr := [
    ⟨(some 0), none, .mov (.const (.bool false))⟩]

def f7r1 : List AInstr := [
    ⟨(some 7), none, .build [.int .i64 0, .int .i64 0] [(1, 1, (.const (.int .i64 3)))]⟩,
    ⟨(some 8), none, .build [.int .i64 0, .int .i64 0] [(1, 1, (.const (.int .i64 1)))]⟩,
    ⟨(some 9), none, .build [.int .i64 0, .int .i64 0] [(0, 1, (.const (.int .i64 1))), (1, 1, (.const (.int .i64 2)))]⟩,
    ⟨(some 10), none, .build [.int .i64 0, .int .i64 0] [(0, 1, (.const (.int .i64 1))), (1, 1, (.const (.int .i64 2)))]⟩,
    ⟨(some 11), none, .buildSlice 2 4 [.int .i64 0, .int .i64 0, .int .i64 0, .int .i64 0, .int .i64 0, .int .i64 0, .int .i64 0, .int .i64 0] [(0, 2, (.tmp 7)), (2, 2, (.tmp 8)), (4, 2, (.tmp 9)), (6, 2, (.tmp 10))]⟩,
    ⟨(some 12), none, .callF 8 [.tmp 11]⟩,
    ⟨(some 6), none, .mov (.tmp 12)⟩,
    ⟨(some 13), none, .extract 0 (.tmp 6)⟩,
    ⟨(some 14), none, .extract 1 (.tmp 6)⟩,
    ⟨(some 1), none, .mov (.tmp 13)⟩,
    ⟨(some 2), none, .mov (.tmp 14)⟩]

def f7r2 : List AInstr := [
    ⟨(some 16), none, .build [.int .i64 0, .int .i64 0] [(1, 1, (.const (.int .i64 3)))]⟩,
    ⟨(some 17), none, .build [.int .i64 0, .int .i64 0] [(1, 1, (.const (.int .i64 1)))]⟩,
    ⟨(some 18), none, .build [.int .i64 0, .int .i64 0] [(0, 1, (.const (.int .i64 1))), (1, 1, (.const (.int .i64 2)))]⟩,
    ⟨(some 19), none, .build [.int .i64 0, .int .i64 0] [(0, 1, (.const (.int .i64 1))), (1, 1, (.const (.int .i64 2)))]⟩,
    ⟨(some 20), none, .buildSlice 2 4 [.int .i64 0, .int .i64 0, .int .i64 0, .int .i64 0, .int .i64 0, .int .i64 0, .int .i64 0, .int .i64 0] [(0, 2, (.tmp 16)), (2, 2, (.tmp 17)), (4, 2, (.tmp 18)), (6, 2, (.tmp 19))]⟩,
    ⟨(some 21), none, .callF 9 [.tmp 20]⟩,
    ⟨(some 15), none, .mov (.tmp 21)⟩,
    ⟨(some 22), none, .extract 0 (.tmp 15)⟩,
    ⟨(some 23), none, .extract 1 (.tmp 15)⟩,
    ⟨(some 24), none, .extract 2 (.tmp 15)⟩,
    ⟨(some 3), none, .alloc [.int .i64 0, .int .i64 0]⟩,
    ⟨none, none, .store 2 (.tmp 3) (.tmp 22)⟩,
    ⟨(some 4), none, .mov (.tmp 23)⟩,
    ⟨(some 5), none, .mov (.tmp 24)⟩]

def f7r3 : List AInstr := [
    ⟨(some 25), none, .mov (.tmp 2)⟩,
    ⟨(some 26), none, .ibin .eql (.tmp 25) (.const (.int .i64 0))⟩,
    ⟨(some 27), none, .mov (.tmp 26)⟩,
    ⟨(some 28), (some (27, true)), .mov (.tmp 5)⟩,
    ⟨(some 29), (some (27, true)), .ibin .eql (.tmp 28) (.const (.int .i64 0))⟩,
    ⟨(some 30), none, .pick (.tmp 27) (.tmp 29) (.const (.bool false))⟩,
    ⟨(some 31), none, .mov (.tmp 30)⟩,
    ⟨(some 32), (some (31, true)), .mov (.tmp 1)⟩,
    ⟨(some 33), (some (31, true)), .buildSlice 1 4 [.int .i64 0, .int .i64 0, .int .i64 0, .int .i64 0] [(0, 1, (.const (.int .i64 2))), (1, 1, (.const (.int .i64 0))), (2, 1, (.const (.int .i64 1))), (3, 1, (.const (.int .i64 (-1))))]⟩,
    ⟨(some 34), (some (31, true)), .callF 14 [.tmp 32, .tmp 33]⟩,
    ⟨(some 35), none, .pick (.tmp 31) (.tmp 34) (.const (.bool false))⟩,
    ⟨(some 36), none, .mov (.tmp 35)⟩,
    ⟨(some 37), (some (36, true)), .mov (.tmp 4)⟩,
    ⟨(some 38), none, .pick (.tmp 36) (.tmp 37) (.const (.bool false))⟩,
    ⟨(some 39), none, .mov (.tmp 38)⟩,
    ⟨(some 40), (some (39, true)), .load (some 2) (.tmp 3)⟩,
    ⟨(some 41), (some (39, true)), .build [.int .i64 0, .int .i64 0] [(1, 1, (.const (.int .i64 3)))]⟩,
    ⟨(some 42), (some (39, true)), .eqA false [false, false] (.tmp 40) (.tmp 41)⟩,
    ⟨(some 43), none, .pick (.tmp 39) (.tmp 42) (.const (.bool false))⟩,
    ⟨(some 0), none, .mov (.tmp 43)⟩]

def f7b : ACode := (.seq (.ops f7r0)
  (.keep [] (.seq (.ops f7r1)
  (.keep [1, 2] (.seq (.ops f7r2)
  (.keep [1, 2, 3, 4, 5] (.seq (.ops f7r3)
  (.keep [0] .ret))))))))

def f7 : AFn := ⟨44, [.tmp 0], f7b⟩

theorem f7_ok : compFn Try.prog 7 = some f7.strip := by kernel_rfl

/- function 8: weirhouse/edf.Run; parameters 1; operations that are not compiled: 0 -/
def f8r0 : List AInstr := [
    ⟨(some 2), none, .mov (.const (.slice none 0 0))⟩,
    ⟨(some 3), none, .mov (.const (.int .i64 0))⟩]

def f8r1 : List AInstr := [
    ⟨(some 10), none, .mov (.tmp 0)⟩,
    ⟨(some 11), none, .callF 15 [.tmp 10]⟩,
    ⟨(some 4), none, .mov (.tmp 11)⟩]

def f8r2 : List AInstr := [
    ⟨(some 12), none, .mov (.tmp 4)⟩,
    ⟨(some 13), none, .ibin .neq (.tmp 12) (.const (.int .i64 0))⟩]

def f8r3 : List AInstr := [
    ⟨(some 14), none, .mov (.tmp 4)⟩,
    ⟨(some 2), none, .mov (.const (.slice none 0 0))⟩,
    ⟨(some 3), none, .mov (.tmp 14)⟩]

def f8r4 : List AInstr := [
    ⟨(some 15), none, .buildSlice 1 1 [.int .i64 0] [(0, 1, (.const (.int .i64 (-1))))]⟩,
    ⟨(some 16), none, .mov (.tmp 0)⟩,
    ⟨(some 17), none, .len (.tmp 16)⟩,
    ⟨(some 18), none, .callF 16 [.tmp 15, .tmp 17]⟩,
    ⟨(some 5), none, .mov (.tmp 18)⟩]

def f8r5 : List AInstr := [
    ⟨(some 19), none, .mov (.const (.int .i64 0))⟩]

def f8r6 : List AInstr := [
    ⟨(some 20), none, .ibin .lss (.tmp 19) (.const (.int .i64 1000))⟩]

def f8r7 : List AInstr := [
    ⟨(some 21), none, .mov (.tmp 19)⟩,
    ⟨(some 6), none, .mov (.tmp 21)⟩]

def f8r8 : List AInstr := [
    ⟨(some 7), none, .mov (.const (.int .i64 (-1)))⟩]

def f8r9 : List AInstr := [
    ⟨(some 22), none, .mov (.tmp 0)⟩,
    ⟨(some 23), none, .len (.tmp 22)⟩,
    ⟨(some 24), none, .mov (.const (.int .i64 0))⟩]

def f8r10 : List AInstr := [
    ⟨(some 25), none, .ibin .lss (.tmp 24) (.tmp 23)⟩]

def f8r11 : List AInstr := [
    ⟨(some 26), none, .mov (.tmp 24)⟩,
    ⟨(some 27), none, .indexAddr 2 (.tmp 22) (.tmp 24)⟩,
    ⟨(some 28), none, .load (some 2) (.tmp 27)⟩,
    ⟨(some 9), none, .alloc [.int .i64 0, .int .i64 0]⟩,
    ⟨(some 8), none, .mov (.tmp 26)⟩,
    ⟨none, none, .store 2 (.tmp 9) (.tmp 28)⟩]

def f8r12 : List AInstr := [
    ⟨(some 29), none, .mov (.tmp 5)⟩,
    ⟨(some 30), none, .mov (.tmp 8)⟩,
    ⟨(some 31), none, .indexAddr 1 (.tmp 29) (.tmp 30)⟩,
    ⟨(some 32), none, .load none (.tmp 31)⟩,
    ⟨(some 33), none, .ibin .lss (.tmp 32) (.const (.int .i64 0))⟩,
    ⟨(some 34), none, .mov (.tmp 33)⟩,
    ⟨(some 35), (some (34, true)), .fieldAddr 0 (.tmp 9)⟩,
    ⟨(some 36), (some (34, true)), .load none (.tmp 35)⟩,
    ⟨(some 37), (some (34, true)), .mov (.tmp 6)⟩,
    ⟨(some 38), (some (34, true)), .ibin .leq (.tmp 36) (.tmp 37)⟩,
    ⟨(some 39), none, .pick (.tmp 34) (.tmp 38) (.const (.bool false))⟩,
    ⟨(some 40), none, .mov (.tmp 39)⟩,
    ⟨(some 41), (some (40, true)), .mov (.tmp 6)⟩,
    ⟨(some 42), (some (40, true)), .fieldAddr 1 (.tmp 9)⟩,
    ⟨(some 43), (some (40, true)), .load none (.tmp 42)⟩,
    ⟨(some 44), (some (40, true)), .ibin .lss (.tmp 41) (.tmp 43)⟩,
    ⟨(some 45), none, .pick (.tmp 40) (.tmp 44) (.const (.bool false))⟩,
    ⟨(some 46), none, .mov (.tmp 45)⟩,
    ⟨(some 47), (some (46, true)), .mov (.tmp 7)⟩,
    ⟨(some 48), (some (46, true)), .ibin .lss (.tmp 47) (.const (.int .i64 0))⟩,
    ⟨(some 49), (some (46, true)), .mov (.tmp 48)⟩,
    ⟨(some 50), (some (49, false)), .fieldAddr 1 (.tmp 9)⟩,
    ⟨(some 51), (some (49, false)), .load none (.tmp 50)⟩,
    ⟨(some 52), (some (49, false)), .mov (.tmp 0)⟩,
    ⟨(some 53), (some (49, false)), .mov (.tmp 7)⟩,
    ⟨(some 54), (some (49, false)), .indexAddr 2 (.tmp 52) (.tmp 53)⟩,
    ⟨(some 55), (some (49, false)), .fieldAddr 1 (.tmp 54)⟩,
    ⟨(some 56), (some (49, false)), .load none (.tmp 55)⟩,
    ⟨(some 57), (some (49, false)), .ibin .lss (.tmp 51) (.tmp 56)⟩,
    ⟨(some 58), (some (46, true)), .pick (.tmp 49) (.const (.bool true)) (.tmp 57)⟩,
    ⟨(some 59), none, .pick (.tmp 46) (.tmp 58) (.const (.bool false))⟩]

def f8r13 : List AInstr := [
    ⟨(some 60), none, .mov (.tmp 8)⟩,
    ⟨(some 7), none, .mov (.tmp 60)⟩]

def f8r14 : List AInstr := [
    ⟨(some 61), none, .ibin .add (.tmp 24) (.const (.int .i64 1))⟩,
    ⟨(some 24), none, .mov (.tmp 61)⟩]

/-- live: [0, 5, 6, 7, 19, 22, 23, 24] -/
def f8l0 : ACode := (.seq (.ops f8r10)
  (.keep [0, 5, 6, 7, 19, 22, 23, 24, 25] (.seq (.cond (.tmp 25) .skip (.exit 2))
  (.keep [0, 5, 6, 7, 19, 22, 23, 24] (.seq (.block 3 (.seq (.ops f8r11)
  (.keep [0, 5, 6, 7, 8, 9, 19, 22, 23, 24] (.seq (.draw f8r12 [(0, 0, false), (0, 0, false), (0, 0, false), (0, 0, false), (0, 0, false), (0, 0, false), (0, 0, false), (0, 0, false), (0, 0, false), (0, 0, false), (0, 0, false), (0, 0, false), (0, 0, false), (0, 0, false), (0, 0, false), (0, 0, false), (0, 0, false), (0, 0, false), (0, 0, false), (0, 0, false), (0, 0, false), (0, 0, false), (0, 0, false), (0, 0, false), (0, 0, false), (0, 0, false), (0, 0, false), (0, 0, false), (0, 0, false), (0, 0, false), (0, 0, false)])
  (.keep [0, 5, 6, 7, 8, 19, 22, 23, 24, 59] (.cond (.tmp 59) (.keep [0, 5, 6, 8, 19, 22, 23, 24] (.ops f8r13)) .skip))))))
  (.keep [0, 5, 6, 7, 19, 22, 23, 24] (.ops f8r14)))))))

def f8r16 : List AInstr := [
    ⟨(some 62), none, .mov (.tmp 7)⟩,
    ⟨(some 63), none, .ibin .geq (.tmp 62) (.const (.int .i64 0))⟩]

def f8r17 : List AInstr := [
    ⟨(some 64), none, .mov (.tmp 5)⟩,
    ⟨(some 65), none, .mov (.tmp 7)⟩,
    ⟨(some 66), none, .mov (.tmp 6)⟩,
    ⟨(some 67), none, .indexAddr 1 (.tmp 64) (.tmp 65)⟩,
    ⟨none, none, .store 1 (.tmp 67) (.tmp 66)⟩]

def f8r18 : List AInstr := [
    ⟨(some 68), none, .ibin .add (.tmp 19) (.const (.int .i64 1))⟩,
    ⟨(some 19), none, .mov (.tmp 68)⟩]

/-- live: [0, 5, 19] -/
def f8l1 : ACode := (.seq (.ops f8r6)
  (.keep [0, 5, 19, 20] (.seq (.cond (.tmp 20) .skip (.exit 0))
  (.keep [0, 5, 19] (.seq (.block 1 (.seq (.ops f8r7)
  (.keep [0, 5, 6, 19] (.seq (.ops f8r8)
  (.keep [0, 5, 6, 7, 19] (.seq (.seq (.ops f8r9)
  (.keep [0, 5, 6, 7, 19, 22, 23, 24] (.block 2 (.loop f8l0))))
  (.keep [0, 5, 6, 7, 19] (.seq (.ops f8r16)
  (.keep [0, 5, 6, 7, 19, 63] (.cond (.tmp 63) (.keep [0, 5, 6, 7, 19] (.ops f8r17)) .skip))))))))))
  (.keep [0, 5, 19] (.ops f8r18)))))))

def f8r20 : List AInstr := [
    ⟨(some 69), none, .mov (.tmp 5)⟩,
    ⟨(some 2), none, .mov (.tmp 69)⟩,
    ⟨(some 3), none, .mov (.const (.int .i64 0))⟩]

def f8b : ACode := (.seq (.ops f8r0)
  (.keep [0] (.seq (.seq (.ops f8r1)
  (.keep [0, 4] (.seq (.ops f8r2)
  (.keep [0, 4, 13] (.cond (.tmp 13) (.keep [4] (.seq (.ops f8r3)
  (.keep [2, 3] .ret))) .skip)))))
  (.keep [0] (.seq (.ops f8r4)
  (.keep [0, 5] (.seq (.seq (.ops f8r5)
  (.keep [0, 5, 19] (.block 0 (.loop f8l1))))
  (.keep [5] (.seq (.ops f8r20)
  (.keep [2, 3] .ret))))))))))

def f8 : AFn := ⟨70, [.tmp 2, .tmp 3], f8b⟩

theorem f8_ok : compFn Try.prog 8 = some f8.strip := by kernel_rfl

/- function 9: weirhouse/edf.Tight; parameters 1; operations that are not compiled: 0 -/
def f9r0 : List AInstr := [
    ⟨(some 2), none, .alloc [.int .i64 0, .int .i64 0]⟩,
    ⟨(some 3), none, .mov (.const (.bool false))⟩,
    ⟨(some 4), none, .mov (.const (.int .i64 0))⟩]

def f9r1 : List AInstr := [
    ⟨(some 13), none, .mov (.tmp 0)⟩,
    ⟨(some 14), none, .callF 15 [.tmp 13]⟩,
    ⟨(some 5), none, .mov (.tmp 14)⟩]

def f9r2 : List AInstr := [
    ⟨(some 15), none, .mov (.tmp 5)⟩,
    ⟨(some 16), none, .ibin .neq (.tmp 15) (.const (.int .i64 0))⟩]

def f9r3 : List AInstr := [
    ⟨(some 17), none, .build [.int .i64 0, .int .i64 0] []⟩,
    ⟨(some 18), none, .mov (.tmp 5)⟩,
    ⟨none, none, .store 2 (.tmp 2) (.tmp 17)⟩,
    ⟨(some 3), none, .mov (.const (.bool false))⟩,
    ⟨(some 4), none, .mov (.tmp 18)⟩]

def f9r4 : List AInstr := [
    ⟨(some 19), none, .mov (.tmp 0)⟩,
    ⟨(some 20), none, .len (.tmp 19)⟩,
    ⟨(some 21), none, .mov (.const (.int .i64 0))⟩]

def f9r5 : List AInstr := [
    ⟨(some 22), none, .ibin .lss (.tmp 21) (.tmp 20)⟩]

def f9r6 : List AInstr := [
    ⟨(some 23), none, .indexAddr 2 (.tmp 19) (.tmp 21)⟩,
    ⟨(some 24), none, .load (some 2) (.tmp 23)⟩,
    ⟨(some 7), none, .alloc [.int .i64 0, .int .i64 0]⟩,
    ⟨none, none, .store 2 (.tmp 7) (.tmp 24)⟩]

def f9r7 : List AInstr := [
    ⟨(some 25), none, .mov (.tmp 0)⟩,
    ⟨(some 26), none, .len (.tmp 25)⟩,
    ⟨(some 27), none, .mov (.const (.int .i64 0))⟩]

def f9r8 : List AInstr := [
    ⟨(some 28), none, .ibin .lss (.tmp 27) (.tmp 26)⟩]

def f9r9 : List AInstr := [
    ⟨(some 29), none, .indexAddr 2 (.tmp 25) (.tmp 27)⟩,
    ⟨(some 30), none, .load (some 2) (.tmp 29)⟩,
    ⟨(some 9), none, .alloc [.int .i64 0, .int .i64 0]⟩,
    ⟨none, none, .store 2 (.tmp 9) (.tmp 30)⟩]

def f9r10 : List AInstr := [
    ⟨(some 10), none, .mov (.const (.int .i64 0))⟩]

def f9r11 : List AInstr := [
    ⟨(some 31), none, .mov (.tmp 0)⟩,
    ⟨(some 32), none, .len (.tmp 31)⟩,
    ⟨(some 33), none, .mov (.const (.int .i64 0))⟩]

def f9r12 : List AInstr := [
    ⟨(some 34), none, .ibin .lss (.tmp 33) (.tmp 32)⟩]

def f9r13 : List AInstr := [
    ⟨(some 35), none, .indexAddr 2 (.tmp 31) (.tmp 33)⟩,
    ⟨(some 36), none, .load (some 2) (.tmp 35)⟩,
    ⟨(some 12), none, .alloc [.int .i64 0, .int .i64 0]⟩,
    ⟨none, none, .store 2 (.tmp 12) (.tmp 36)⟩]

def f9r14 : List AInstr := [
    ⟨(some 37), none, .fieldAddr 0 (.tmp 12)⟩,
    ⟨(some 38), none, .load none (.tmp 37)⟩,
    ⟨(some 39), none, .fieldAddr 0 (.tmp 7)⟩,
    ⟨(some 40), none, .load none (.tmp 39)⟩,
    ⟨(some 41), none, .ibin .geq (.tmp 38) (.tmp 40)⟩,
    ⟨(some 42), none, .mov (.tmp 41)⟩,
    ⟨(some 43), (some (42, true)), .fieldAddr 1 (.tmp 12)⟩,
    ⟨(some 44), (some (42, true)), .load none (.tmp 43)⟩,
    ⟨(some 45), (some (42, true)), .fieldAddr 1 (.tmp 9)⟩,
    ⟨(some 46), (some (42, true)), .load none (.tmp 45)⟩,
    ⟨(some 47), (some (42, true)), .ibin .leq (.tmp 44) (.tmp 46)⟩,
    ⟨(some 48), none, .pick (.tmp 42) (.tmp 47) (.const (.bool false))⟩]

def f9r15 : List AInstr := [
    ⟨(some 49), none, .mov (.tmp 10)⟩,
    ⟨(some 50), none, .ibin .add (.tmp 49) (.const (.int .i64 1))⟩,
    ⟨(some 10), none, .mov (.tmp 50)⟩]

def f9r16 : List AInstr := [
    ⟨(some 51), none, .ibin .add (.tmp 33) (.const (.int .i64 1))⟩,
    ⟨(some 33), none, .mov (.tmp 51)⟩]

/-- live: [0, 2, 7, 9, 10, 19, 20, 21, 25, 26, 27, 31, 32, 33] -/
def f9l0 : ACode := (.seq (.ops f9r12)
  (.keep [0, 2, 7, 9, 10, 19, 20, 21, 25, 26, 27, 31, 32, 33, 34] (.seq (.cond (.tmp 34) .skip (.exit 4))
  (.keep [0, 2, 7, 9, 10, 19, 20, 21, 25, 26, 27, 31, 32, 33] (.seq (.block 5 (.seq (.ops f9r13)
  (.keep [0, 2, 7, 9, 10, 12, 19, 20, 21, 25, 26, 27, 31, 32, 33] (.seq (.ops f9r14)
  (.keep [0, 2, 7, 9, 10, 19, 20, 21, 25, 26, 27, 31, 32, 33, 48] (.cond (.tmp 48) (.keep [0, 2, 7, 9, 10, 19, 20, 21, 25, 26, 27, 31, 32, 33] (.ops f9r15)) .skip))))))
  (.keep [0, 2, 7, 9, 10, 19, 20, 21, 25, 26, 27, 31, 32, 33] (.ops f9r16)))))))

def f9r18 : List AInstr := [
    ⟨(some 52), none, .mov (.tmp 10)⟩,
    ⟨(some 53), none, .fieldAddr 1 (.tmp 9)⟩,
    ⟨(some 54), none, .load none (.tmp 53)⟩,
    ⟨(some 55), none, .fieldAddr 0 (.tmp 7)⟩,
    ⟨(some 56), none, .load none (.tmp 55)⟩,
    ⟨(some 57), none, .ibin .sub (.tmp 54) (.tmp 56)⟩,
    ⟨(some 58), none, .minmax true [.tmp 57, .const (.int .i64 0)]⟩,
    ⟨(some 59), none, .ibin .gtr (.tmp 52) (.tmp 58)⟩]

def f9r19 : List AInstr := [
    ⟨(some 60), none, .fieldAddr 0 (.tmp 7)⟩,
    ⟨(some 61), none, .load none (.tmp 60)⟩,
    ⟨(some 62), none, .fieldAddr 1 (.tmp 9)⟩,
    ⟨(some 63), none, .load none (.tmp 62)⟩,
    ⟨(some 64), none, .build [.int .i64 0, .int .i64 0] [(0, 1, (.tmp 61)), (1, 1, (.tmp 63))]⟩,
    ⟨none, none, .store 2 (.tmp 2) (.tmp 64)⟩,
    ⟨(some 3), none, .mov (.const (.bool true))⟩,
    ⟨(some 4), none, .mov (.const (.int .i64 0))⟩]

def f9r20 : List AInstr := [
    ⟨(some 65), none, .ibin .add (.tmp 27) (.const (.int .i64 1))⟩,
    ⟨(some 27), none, .mov (.tmp 65)⟩]

/-- live: [0, 2, 7, 19, 20, 21, 25, 26, 27] -/
def f9l1 : ACode := (.seq (.ops f9r8)
  (.keep [0, 2, 7, 19, 20, 21, 25, 26, 27, 28] (.seq (.cond (.tmp 28) .skip (.exit 2))
  (.keep [0, 2, 7, 19, 20, 21, 25, 26, 27] (.seq (.block 3 (.seq (.ops f9r9)
  (.keep [0, 2, 7, 9, 19, 20, 21, 25, 26, 27] (.seq (.ops f9r10)
  (.keep [0, 2, 7, 9, 10, 19, 20, 21, 25, 26, 27] (.seq (.seq (.ops f9r11)
  (.keep [0, 2, 7, 9, 10, 19, 20, 21, 25, 26, 27, 31, 32, 33] (.block 4 (.loop f9l0))))
  (.keep [0, 2, 7, 9, 10, 19, 20, 21, 25, 26, 27] (.seq (.ops f9r18)
  (.keep [0, 2, 7, 9, 19, 20, 21, 25, 26, 27, 59] (.cond (.tmp 59) (.keep [2, 7, 9] (.seq (.ops f9r19)
  (.keep [2, 3, 4] .ret))) .skip))))))))))
  (.keep [0, 2, 7, 19, 20, 21, 25, 26, 27] (.ops f9r20)))))))

def f9r22 : List AInstr := [
    ⟨(some 66), none, .ibin .add (.tmp 21) (.const (.int .i64 1))⟩,
    ⟨(some 21), none, .mov (.tmp 66)⟩]

/-- live: [0, 2, 19, 20, 21] -/
def f9l2 : ACode := (.seq (.ops f9r5)
  (.keep [0, 2, 19, 20, 21, 22] (.seq (.cond (.tmp 22) .skip (.exit 0))
  (.keep [0, 2, 19, 20, 21] (.seq (.block 1 (.seq (.ops f9r6)
  (.keep [0, 2, 7, 19, 20, 21] (.seq (.ops f9r7)
  (.keep [0, 2, 7, 19, 20, 21, 25, 26, 27] (.block 2 (.loop f9l1)))))))
  (.keep [0, 2, 19, 20, 21] (.ops f9r22)))))))

def f9r24 : List AInstr := [
    ⟨(some 67), none, .build [.int .i64 0, .int .i64 0] []⟩,
    ⟨none, none, .store 2 (.tmp 2) (.tmp 67)⟩,
    ⟨(some 3), none, .mov (.const (.bool false))⟩,
    ⟨(some 4), none, .mov (.const (.int .i64 0))⟩]

def f9b : ACode := (.seq (.ops f9r0)
  (.keep [0, 2] (.seq (.seq (.ops f9r1)
  (.keep [0, 2, 5] (.seq (.ops f9r2)
  (.keep [0, 2, 5, 16] (.cond (.tmp 16) (.keep [2, 5] (.seq (.ops f9r3)
  (.keep [2, 3, 4] .ret))) .skip)))))
  (.keep [0, 2] (.seq (.seq (.ops f9r4)
  (.keep [0, 2, 19, 20, 21] (.block 0 (.loop f9l2))))
  (.keep [2] (.seq (.ops f9r24)
  (.keep [2, 3, 4] .ret))))))))

def f9 : AFn := ⟨68, [.cell 2 (some 2), .tmp 3, .tmp 4], f9b⟩

theorem f9_ok : compFn Try.prog 9 = some f9.strip := by kernel_rfl

/- function 10: slices.Contains[[]int,int]; parameters 2; operations that are not compiled: 0 -/
def f10r0 : List AInstr := [
    ⟨(some 4), none, .mov (.const (.bool false))⟩]

def f10r1 : List AInstr := [
    ⟨(some 5), none, .mov (.tmp 0)⟩,
    ⟨(some 6), none, .mov (.tmp 1)⟩,
    ⟨(some 7), none, .callF 13 [.tmp 5, .tmp 6]⟩,
    ⟨(some 8), none, .ibin .geq (.tmp 7) (.const (.int .i64 0))⟩,
    ⟨(some 4), none, .mov (.tmp 8)⟩]

def f10b : ACode := (.seq (.ops f10r0)
  (.keep [0, 1] (.seq (.ops f10r1)
  (.keep [4] .ret))))

def f10 : AFn := ⟨9, [.tmp 4], f10b⟩

theorem f10_ok : compFn Try.prog 10 = some f10.strip := by kernel_rfl

/- function 11: slices.ContainsFunc[[]int,int]; parameters 2; operations that are not compiled: 0 -/
def f11r0 : List AInstr := [
    ⟨(some 4), none, .mov (.const (.bool false))⟩]

def f11r1 : List AInstr := [
    ⟨(some 5), none, .mov (.tmp 0)⟩,
    ⟨(some 6), none, .mov (.tmp 1)⟩,
    ⟨(some 7), none, .callF 17 [.tmp 5, .tmp 6]⟩,
    ⟨(some 8), none, .ibin .geq (.tmp 7) (.const (.int .i64 0))⟩,
    ⟨(some 4), none, .mov (.tmp 8)⟩]

def f11b : ACode := (.seq (.ops f11r0)
  (.keep [0, 1] (.seq (.ops f11r1)
  (.keep [4] .ret))))

def f11 : AFn := ⟨9, [.tmp 4], f11b⟩

theorem f11_ok : compFn Try.prog 11 = some f11.strip := by kernel_rfl

/- function 12: weirhouse/weirhousekeep.EdfBusy$1; parameters 1; operations that are not compiled: 0 -/
def f12r0 : List AInstr := [
    ⟨(some 3), none, .mov (.const (.bool false))⟩]

def f12r1 : List AInstr := [
    ⟨(some 4), none, .mov (.tmp 0)⟩,
    ⟨(some 5), none, .load none (.tmp 1)⟩,
    ⟨(some 6), none, .ibin .eql (.tmp 4) (.tmp 5)⟩,
    ⟨(some 3), none, .mov (.tmp 6)⟩]

def f12b : ACode := (.seq (.ops f12r0)
  (.keep [0, 1] (.seq (.ops f12r1)
  (.keep [3] .ret))))

def f12 : AFn := ⟨7, [.tmp 3], f12b⟩

theorem f12_ok : compFn Try.prog 12 = some f12.strip := by kernel_rfl

/- function 13: slices.Index[[]int,int]; parameters 2; operations that are not compiled: 0 -/
def f13r0 : List AInstr := [
    ⟨(some 4), none, .mov (.const (.int .i64 0))⟩]

def f13r1 : List AInstr := [
    ⟨(some 6), none, .mov (.tmp 0)⟩,
    ⟨(some 7), none, .len (.tmp 6)⟩,
    ⟨(some 8), none, .mov (.const (.int .i64 0))⟩]

def f13r2 : List AInstr := [
    ⟨(some 9), none, .ibin .lss (.tmp 8) (.tmp 7)⟩]

def f13r3 : List AInstr := [
    ⟨(some 10), none, .mov (.tmp 8)⟩,
    ⟨(some 5), none, .mov (.tmp 10)⟩]

def f13r4 : List AInstr := [
    ⟨(some 11), none, .mov (.tmp 1)⟩,
    ⟨(some 12), none, .mov (.tmp 0)⟩,
    ⟨(some 13), none, .mov (.tmp 5)⟩,
    ⟨(some 14), none, .indexAddr 1 (.tmp 12) (.tmp 13)⟩,
    ⟨(some 15), none, .load none (.tmp 14)⟩,
    ⟨(some 16), none, .ibin .eql (.tmp 11) (.tmp 15)⟩]

def f13r5 : List AInstr := [
    ⟨(some 17), none, .mov (.tmp 5)⟩,
    ⟨(some 4), none, .mov (.tmp 17)⟩]

def f13r6 : List AInstr := [
    ⟨(some 18), none, .ibin .add (.tmp 8) (.const (.int .i64 1))⟩,
    ⟨(some 8), none, .mov (.tmp 18)⟩]

/-- live: [0, 1, 7, 8] -/
def f13l0 : ACode := (.seq (.ops f13r2)
  (.keep [0, 1, 7, 8, 9] (.seq (.cond (.tmp 9) .skip (.exit 0))
  (.keep [0, 1, 7, 8] (.seq (.block 1 (.seq (.ops f13r3)
  (.keep [0, 1, 5, 7, 8] (.seq (.ops f13r4)
  (.keep [0, 1, 5, 7, 8, 16] (.cond (.tmp 16) (.keep [5] (.seq (.ops f13r5)
  (.keep [4] .ret))) .skip))))))
  (.keep [0, 1, 7, 8] (.ops f13r6)))))))

def f13r8 : List AInstr := [
    ⟨(some 4), none, .mov (.const (.int .i64 (-1)))⟩]

def f13b : ACode := (.seq (.ops f13r0)
  (.keep [0, 1] (.seq (.seq (.ops f13r1)
  (.keep [0, 1, 7, 8] (.block 0 (.loop f13l0))))
  (.keep [] (.seq (.ops f13r8)
  (.keep [4] .ret))))))

def f13 : AFn := ⟨19, [.tmp 4], f13b⟩

theorem f13_ok : compFn Try.prog 13 = some f13.strip := by kernel_rfl

/- function 14: slices.Equal[[]int,int]; parameters 2; operations that are not compiled: 0 -/
def f14r0 : List AInstr := [
    ⟨(some 4), none, .mov (.const (.bool false))⟩]

def f14r1 : List AInstr := [
    ⟨(some 6), none, .mov (.tmp 0)⟩,
    ⟨(some 7), none, .len (.tmp 6)⟩,
    ⟨(some 8), none, .mov (.tmp 1)⟩,
    ⟨(some 9), none, .len (.tmp 8)⟩,
    ⟨(some 10), none, .ibin .neq (.tmp 7) (.tmp 9)⟩]

def f14r2 : List AInstr := [
    ⟨(some 4), none, .mov (.const (.bool false))⟩]

def f14r3 : List AInstr := [
    ⟨(some 11), none, .mov (.tmp 0)⟩,
    ⟨(some 12), none, .len (.tmp 11)⟩,
    ⟨(some 13), none, .mov (.const (.int .i64 0))⟩]

def f14r4 : List AInstr := [
    ⟨(some 14), none, .ibin .lss (.tmp 13) (.tmp 12)⟩]

def f14r5 : List AInstr := [
    ⟨(some 15), none, .mov (.tmp 13)⟩,
    ⟨(some 5), none, .mov (.tmp 15)⟩]

def f14r6 : List AInstr := [
    ⟨(some 16), none, .mov (.tmp 0)⟩,
    ⟨(some 17), none, .mov (.tmp 5)⟩,
    ⟨(some 18), none, .indexAddr 1 (.tmp 16) (.tmp 17)⟩,
    ⟨(some 19), none, .load none (.tmp 18)⟩,
    ⟨(some 20), none, .mov (.tmp 1)⟩,
    ⟨(some 21), none, .mov (.tmp 5)⟩,
    ⟨(some 22), none, .indexAddr 1 (.tmp 20) (.tmp 21)⟩,
    ⟨(some 23), none, .load none (.tmp 22)⟩,
    ⟨(some 24), none, .ibin .neq (.tmp 19) (.tmp 23)⟩]

def f14r7 : List AInstr := [
    ⟨(some 4), none, .mov (.const (.bool false))⟩]

def f14r8 : List AInstr := [
    ⟨(some 25), none, .ibin .add (.tmp 13) (.const (.int .i64 1))⟩,
    ⟨(some 13), none, .mov (.tmp 25)⟩]

/-- live: [0, 1, 12, 13] -/
def f14l0 : ACode := (.seq (.ops f14r4)
  (.keep [0, 1, 12, 13, 14] (.seq (.cond (.tmp 14) .skip (.exit 0))
  (.keep [0, 1, 12, 13] (.seq (.block 1 (.seq (.ops f14r5)
  (.keep [0, 1, 5, 12, 13] (.seq (.draw f14r6 [(0, 0, false), (0, 0, false), (0, 0, false), (0, 0, false), (0, 0, false), (0, 0, false), (0, 0, false), (0, 0, false), (0, 0, false)])
  (.keep [0, 1, 12, 13, 24] (.cond (.tmp 24) (.keep [] (.seq (.ops f14r7)
  (.keep [4] .ret))) .skip))))))
  (.keep [0, 1, 12, 13] (.ops f14r8)))))))

def f14r10 : List AInstr := [
    ⟨(some 4), none, .mov (.const (.bool true))⟩]

def f14b : ACode := (.seq (.ops f14r0)
  (.keep [0, 1] (.seq (.seq (.ops f14r1)
  (.keep [0, 1, 10] (.cond (.tmp 10) (.keep [] (.seq (.ops f14r2)
  (.keep [4] .ret))) .skip)))
  (.keep [0, 1] (.seq (.seq (.ops f14r3)
  (.keep [0, 1, 12, 13] (.block 0 (.loop f14l0))))
  (.keep [] (.seq (.ops f14r10)
  (.keep [4] .ret))))))))

def f14 : AFn := ⟨26, [.tmp 4], f14b⟩

theorem f14_ok : compFn Try.prog 14 = some f14.strip := by kernel_rfl

/- function 15: weirhouse/edf.Wrong; parameters 1; operations that are not compiled: 0 -/
def f15r0 : List AInstr := [
    ⟨(some 2), none, .mov (.const (.int .i64 0))⟩]

def f15r1 : List AInstr := [
    ⟨(some 5), none, .mov (.tmp 0)⟩,
    ⟨(some 6), none, .len (.tmp 5)⟩,
    ⟨(some 7), none, .ibin .gtr (.tmp 6) (.const (.int .i64 400))⟩]

def f15r2 : List AInstr := [
    ⟨(some 2), none, .mov (.const (.int .i64 2))⟩]

def f15r3 : List AInstr := [
    ⟨(some 8), none, .mov (.tmp 0)⟩,
    ⟨(some 9), none, .len (.tmp 8)⟩,
    ⟨(some 10), none, .mov (.const (.int .i64 0))⟩]

def f15r4 : List AInstr := [
    ⟨(some 11), none, .ibin .lss (.tmp 10) (.tmp 9)⟩]

def f15r5 : List AInstr := [
    ⟨(some 12), none, .indexAddr 2 (.tmp 8) (.tmp 10)⟩,
    ⟨(some 13), none, .load (some 2) (.tmp 12)⟩,
    ⟨(some 4), none, .alloc [.int .i64 0, .int .i64 0]⟩,
    ⟨none, none, .store 2 (.tmp 4) (.tmp 13)⟩]

def f15r6 : List AInstr := [
    ⟨(some 14), none, .fieldAddr 0 (.tmp 4)⟩,
    ⟨(some 15), none, .load none (.tmp 14)⟩,
    ⟨(some 16), none, .ibin .lss (.tmp 15) (.const (.int .i64 0))⟩,
    ⟨(some 17), none, .mov (.tmp 16)⟩,
    ⟨(some 18), (some (17, false)), .fieldAddr 1 (.tmp 4)⟩,
    ⟨(some 19), (some (17, false)), .load none (.tmp 18)⟩,
    ⟨(some 20), (some (17, false)), .ibin .gtr (.tmp 19) (.const (.int .i64 1000))⟩,
    ⟨(some 21), none, .pick (.tmp 17) (.const (.bool true)) (.tmp 20)⟩,
    ⟨(some 22), none, .mov (.tmp 21)⟩,
    ⟨(some 23), (some (22, false)), .fieldAddr 1 (.tmp 4)⟩,
    ⟨(some 24), (some (22, false)), .load none (.tmp 23)⟩,
    ⟨(some 25), (some (22, false)), .fieldAddr 0 (.tmp 4)⟩,
    ⟨(some 26), (some (22, false)), .load none (.tmp 25)⟩,
    ⟨(some 27), (some (22, false)), .ibin .lss (.tmp 24) (.tmp 26)⟩,
    ⟨(some 28), none, .pick (.tmp 22) (.const (.bool true)) (.tmp 27)⟩]

def f15r7 : List AInstr := [
    ⟨(some 2), none, .mov (.const (.int .i64 2))⟩]

def f15r8 : List AInstr := [
    ⟨(some 29), none, .ibin .add (.tmp 10) (.const (.int .i64 1))⟩,
    ⟨(some 10), none, .mov (.tmp 29)⟩]

/-- live: [8, 9, 10] -/
def f15l0 : ACode := (.seq (.ops f15r4)
  (.keep [8, 9, 10, 11] (.seq (.cond (.tmp 11) .skip (.exit 0))
  (.keep [8, 9, 10] (.seq (.block 1 (.seq (.ops f15r5)
  (.keep [4, 8, 9, 10] (.seq (.ops f15r6)
  (.keep [8, 9, 10, 28] (.cond (.tmp 28) (.keep [] (.seq (.ops f15r7)
  (.keep [2] .ret))) .skip))))))
  (.keep [8, 9, 10] (.ops f15r8)))))))

def f15r10 : List AInstr := [
    ⟨(some 2), none, .mov (.const (.int .i64 0))⟩]

def f15b : ACode := (.seq (.ops f15r0)
  (.keep [0] (.seq (.seq (.ops f15r1)
  (.keep [0, 7] (.cond (.tmp 7) (.keep [] (.seq (.ops f15r2)
  (.keep [2] .ret))) .skip)))
  (.keep [0] (.seq (.seq (.ops f15r3)
  (.keep [8, 9, 10] (.block 0 (.loop f15l0))))
  (.keep [] (.seq (.ops f15r10)
  (.keep [2] .ret))))))))

def f15 : AFn := ⟨30, [.tmp 2], f15b⟩

theorem f15_ok : compFn Try.prog 15 = some f15.strip := by kernel_rfl

/- function 16: slices.Repeat[[]int,int]; parameters 2; operations that are not compiled: 4 -/
def f16r0 : List AInstr := [
    ⟨(some 4), none, .mov (.const (.slice none 0 0))⟩]

def f16r1 : List AInstr := [
    ⟨(some 9), none, .mov (.tmp 1)⟩,
    ⟨(some 10), none, .ibin .lss (.tmp 9) (.const (.int .i64 0))⟩]

def f16r2 : List AInstr := [
    ⟨(some 11), none, .bad⟩,
    ⟨none, none, .bad⟩]

def f16r3 : List AInstr := [
    ⟨(some 13), none, .mov (.tmp 0)⟩,
    ⟨(some 14), none, .len (.tmp 13)⟩,
    ⟨(some 15), none, .conv .u64 (.tmp 14)⟩,
    ⟨(some 16), none, .mov (.tmp 1)⟩,
    ⟨(some 17), none, .conv .u64 (.tmp 16)⟩,
    ⟨(some 18), none, .callF 18 [.tmp 15, .tmp 17]⟩,
    ⟨(some 12), none, .mov (.tmp 18)⟩,
    ⟨(some 19), none, .extract 0 (.tmp 12)⟩,
    ⟨(some 20), none, .extract 1 (.tmp 12)⟩,
    ⟨(some 5), none, .mov (.tmp 19)⟩,
    ⟨(some 6), none, .mov (.tmp 20)⟩]

def f16r4 : List AInstr := [
    ⟨(some 21), none, .mov (.tmp 5)⟩,
    ⟨(some 22), none, .ibin .gtr (.tmp 21) (.const (.int .u64 0))⟩,
    ⟨(some 23), none, .mov (.tmp 22)⟩,
    ⟨(some 24), (some (23, false)), .mov (.tmp 6)⟩,
    ⟨(some 25), (some (23, false)), .ibin .gtr (.tmp 24) (.const (.int .u64 9223372036854775807))⟩,
    ⟨(some 26), none, .pick (.tmp 23) (.const (.bool true)) (.tmp 25)⟩]

def f16r5 : List AInstr := [
    ⟨(some 27), none, .bad⟩,
    ⟨none, none, .bad⟩]

def f16r6 : List AInstr := [
    ⟨(some 28), none, .mov (.tmp 6)⟩,
    ⟨(some 29), none, .conv .i64 (.tmp 28)⟩,
    ⟨(some 30), none, .makeSlice 1 8 [.int .i64 0] (.tmp 29) (.tmp 29)⟩,
    ⟨(some 7), none, .mov (.tmp 30)⟩]

def f16r7 : List AInstr := [
    ⟨(some 31), none, .mov (.tmp 7)⟩,
    ⟨(some 32), none, .mov (.tmp 0)⟩,
    ⟨(some 33), none, .copy 1 (.tmp 31) (.tmp 32)⟩,
    ⟨(some 8), none, .mov (.tmp 33)⟩]

def f16r8 : List AInstr := [
    ⟨(some 34), none, .mov (.tmp 8)⟩,
    ⟨(some 35), none, .mov (.tmp 7)⟩,
    ⟨(some 36), none, .len (.tmp 35)⟩,
    ⟨(some 37), none, .ibin .lss (.tmp 34) (.tmp 36)⟩]

def f16r9 : List AInstr := [
    ⟨(some 38), none, .mov (.tmp 8)⟩,
    ⟨(some 39), none, .mov (.tmp 7)⟩,
    ⟨(some 40), none, .mov (.tmp 8)⟩,
    ⟨(some 41), none, .slice 1 (.tmp 39) (some (.tmp 40)) none none⟩,
    ⟨(some 42), none, .mov (.tmp 7)⟩,
    ⟨(some 43), none, .mov (.tmp 8)⟩,
    ⟨(some 44), none, .slice 1 (.tmp 42) none (some (.tmp 43)) none⟩,
    ⟨(some 45), none, .copy 1 (.tmp 41) (.tmp 44)⟩,
    ⟨(some 46), none, .ibin .add (.tmp 38) (.tmp 45)⟩,
    ⟨(some 8), none, .mov (.tmp 46)⟩]

/-- live: [7, 8] -/
def f16l0 : ACode := (.seq (.seq (.ops f16r8)
  (.keep [7, 8, 37] (.cond (.tmp 37) .skip (.exit 0))))
  (.keep [7, 8] (.block 1 (.draw f16r9 [(0, 1, false), (0, 0, false), (0, 0, false), (0, 0, false), (0, 0, false), (0, 0, false), (0, 0, false), (0, 0, true), (1, 1, false), (1, 1, false)]))))

def f16r11 : List AInstr := [
    ⟨(some 47), none, .mov (.tmp 7)⟩,
    ⟨(some 4), none, .mov (.tmp 47)⟩]

def f16b : ACode := (.seq (.ops f16r0)
  (.keep [0, 1] (.seq (.seq (.ops f16r1)
  (.keep [0, 1, 10] (.cond (.tmp 10) (.keep [0, 1] (.ops f16r2)) .skip)))
  (.keep [0, 1] (.seq (.ops f16r3)
  (.keep [0, 5, 6] (.seq (.seq (.ops f16r4)
  (.keep [0, 6, 26] (.cond (.tmp 26) (.keep [0, 6] (.ops f16r5)) .skip)))
  (.keep [0, 6] (.seq (.ops f16r6)
  (.keep [0, 7] (.seq (.ops f16r7)
  (.keep [7, 8] (.seq (.block 0 (.loop f16l0))
  (.keep [7] (.seq (.ops f16r11)
  (.keep [4] .ret))))))))))))))))

def f16 : AFn := ⟨48, [.tmp 4], f16b⟩

theorem f16_ok : compFn Try.prog 16 = some f16.strip := by kernel_rfl

/- function 17: slices.IndexFunc[[]int,int]; parameters 2; operations that are not compiled: 0 -/
def f17r0 : List AInstr := [
    ⟨(some 4), none, .mov (.const (.int .i64 0))⟩]

def f17r1 : List AInstr := [
    ⟨(some 6), none, .mov (.tmp 0)⟩,
    ⟨(some 7), none, .len (.tmp 6)⟩,
    ⟨(some 8), none, .mov (.const (.int .i64 0))⟩]

def f17r2 : List AInstr := [
    ⟨(some 9), none, .ibin .lss (.tmp 8) (.tmp 7)⟩]

def f17r3 : List AInstr := [
    ⟨(some 10), none, .mov (.tmp 8)⟩,
    ⟨(some 5), none, .mov (.tmp 10)⟩]

def f17r4 : List AInstr := [
    ⟨(some 11), none, .mov (.tmp 1)⟩,
    ⟨(some 12), none, .mov (.tmp 0)⟩,
    ⟨(some 13), none, .mov (.tmp 5)⟩,
    ⟨(some 14), none, .indexAddr 1 (.tmp 12) (.tmp 13)⟩,
    ⟨(some 15), none, .load none (.tmp 14)⟩,
    ⟨(some 16), none, .callV (.tmp 11) [.tmp 15]⟩]

def f17r5 : List AInstr := [
    ⟨(some 17), none, .mov (.tmp 5)⟩,
    ⟨(some 4), none, .mov (.tmp 17)⟩]

def f17r6 : List AInstr := [
    ⟨(some 18), none, .ibin .add (.tmp 8) (.const (.int .i64 1))⟩,
    ⟨(some 8), none, .mov (.tmp 18)⟩]

/-- live: [0, 1, 7, 8] -/
def f17l0 : ACode := (.seq (.ops f17r2)
  (.keep [0, 1, 7, 8, 9] (.seq (.cond (.tmp 9) .skip (.exit 0))
  (.keep [0, 1, 7, 8] (.seq (.block 1 (.seq (.ops f17r3)
  (.keep [0, 1, 5, 7, 8] (.seq (.ops f17r4)
  (.keep [0, 1, 5, 7, 8, 16] (.cond (.tmp 16) (.keep [5] (.seq (.ops f17r5)
  (.keep [4] .ret))) .skip))))))
  (.keep [0, 1, 7, 8] (.ops f17r6)))))))

def f17r8 : List AInstr := [
    ⟨(some 4), none, .mov (.const (.int .i64 (-1)))⟩]

def f17b : ACode := (.seq (.ops f17r0)
  (.keep [0, 1] (.seq (.seq (.ops f17r1)
  (.keep [0, 1, 7, 8] (.block 0 (.loop f17l0))))
  (.keep [] (.seq (.ops f17r8)
  (.keep [4] .ret))))))

def f17 : AFn := ⟨19, [.tmp 4], f17b⟩

theorem f17_ok : compFn Try.prog 17 = some f17.strip := by kernel_rfl

/- function 18: math/bits.Mul; parameters 2; operations that are not compiled: 0 -/
def f18r0 : List AInstr := [
    ⟨(some 4), none, .mov (.const (.int .u64 0))⟩,
    ⟨(some 5), none, .mov (.const (.int .u64 0))⟩]

def f18r1 : List AInstr := [
    ⟨(some 11), none, .mov (.tmp 0)⟩,
    ⟨(some 12), none, .conv .u32 (.tmp 11)⟩,
    ⟨(some 13), none, .mov (.tmp 1)⟩,
    ⟨(some 14), none, .conv .u32 (.tmp 13)⟩,
    ⟨(some 15), none, .callF 19 [.tmp 12, .tmp 14]⟩,
    ⟨(some 10), none, .mov (.tmp 15)⟩,
    ⟨(some 16), none, .extract 0 (.tmp 10)⟩,
    ⟨(some 17), none, .extract 1 (.tmp 10)⟩,
    ⟨(some 6), none, .mov (.tmp 16)⟩,
    ⟨(some 7), none, .mov (.tmp 17)⟩]

def f18r2 : List AInstr := [
    ⟨(some 18), none, .mov (.tmp 6)⟩,
    ⟨(some 19), none, .conv .u64 (.tmp 18)⟩,
    ⟨(some 20), none, .mov (.tmp 7)⟩,
    ⟨(some 21), none, .conv .u64 (.tmp 20)⟩,
    ⟨(some 4), none, .mov (.tmp 19)⟩,
    ⟨(some 5), none, .mov (.tmp 21)⟩]

def f18r3 : List AInstr := [
    ⟨(some 23), none, .mov (.tmp 0)⟩,
    ⟨(some 24), none, .mov (.tmp 1)⟩,
    ⟨(some 25), none, .callF 20 [.tmp 23, .tmp 24]⟩,
    ⟨(some 22), none, .mov (.tmp 25)⟩,
    ⟨(some 26), none, .extract 0 (.tmp 22)⟩,
    ⟨(some 27), none, .extract 1 (.tmp 22)⟩,
    ⟨(some 8), none, .mov (.tmp 26)⟩,
    ⟨(some 9), none, .mov (.tmp 27)⟩]

def f18r4 : List AInstr := [
    ⟨(some 28), none, .mov (.tmp 8)⟩,
    ⟨(some 29), none, .mov (.tmp 9)⟩,
    ⟨(some 4), none, .mov (.tmp 28)⟩,
    ⟨(some 5), none, .mov (.tmp 29)⟩]

def f18b : ACode := (.seq (.ops f18r0)
  (.keep [0, 1] (.seq (.cond (.const (.bool false)) (.keep [0, 1] (.seq (.ops f18r1)
  (.keep [6, 7] (.seq (.ops f18r2)
  (.keep [4, 5] .ret))))) .skip)
  (.keep [0, 1] (.seq (.ops f18r3)
  (.keep [8, 9] (.seq (.ops f18r4)
  (.keep [4, 5] .ret))))))))

def f18 : AFn := ⟨30, [.tmp 4, .tmp 5], f18b⟩

theorem f18_ok : compFn Try.prog 18 = some f18.strip := by kernel_rfl

/- function 19: math/bits.Mul32; parameters 2; operations that are not compiled: 0 -/
def f19r0 : List AInstr := [
    ⟨(some 4), none, .mov (.const (.int .u32 0))⟩,
    ⟨(some 5), none, .mov (.const (.int .u32 0))⟩]

def f19r1 : List AInstr := [
    ⟨(some 7), none, .mov (.tmp 0)⟩,
    ⟨(some 8), none, .conv .u64 (.tmp 7)⟩,
    ⟨(some 9), none, .mov (.tmp 1)⟩,
    ⟨(some 10), none, .conv .u64 (.tmp 9)⟩,
    ⟨(some 11), none, .ibin .mul (.tmp 8) (.tmp 10)⟩,
    ⟨(some 6), none, .mov (.tmp 11)⟩]

def f19r2 : List AInstr := [
    ⟨(some 12), none, .mov (.tmp 6)⟩,
    ⟨(some 13), none, .ibin .shr (.tmp 12) (.const (.int .u64 32))⟩,
    ⟨(some 14), none, .conv .u32 (.tmp 13)⟩,
    ⟨(some 15), none, .mov (.tmp 6)⟩,
    ⟨(some 16), none, .conv .u32 (.tmp 15)⟩,
    ⟨(some 4), none, .mov (.tmp 14)⟩,
    ⟨(some 5), none, .mov (.tmp 16)⟩]

def f19b : ACode := (.seq (.ops f19r0)
  (.keep [0, 1] (.seq (.ops f19r1)
  (.keep [6] (.seq (.ops f19r2)
  (.keep [4, 5] .ret))))))

def f19 : AFn := ⟨17, [.tmp 4, .tmp 5], f19b⟩

theorem f19_ok : compFn Try.prog 19 = some f19.strip := by kernel_rfl

/- function 20: math/bits.Mul64; parameters 2; operations that are not compiled: 0 -/
def f20r0 : List AInstr := [
    ⟨(some 4), none, .mov (.const (.int .u64 0))⟩,
    ⟨(some 5), none, .mov (.const (.int .u64 0))⟩]

def f20r1 : List AInstr := [
    ⟨(some 14), none, .mov (.tmp 0)⟩,
    ⟨(some 15), none, .ibin .and (.tmp 14) (.const (.int .u64 4294967295))⟩,
    ⟨(some 6), none, .mov (.tmp 15)⟩]

def f20r2 : List AInstr := [
    ⟨(some 16), none, .mov (.tmp 0)⟩,
    ⟨(some 17), none, .ibin .shr (.tmp 16) (.const (.int .u64 32))⟩,
    ⟨(some 7), none, .mov (.tmp 17)⟩]

def f20r3 : List AInstr := [
    ⟨(some 18), none, .mov (.tmp 1)⟩,
    ⟨(some 19), none, .ibin .and (.tmp 18) (.const (.int .u64 4294967295))⟩,
    ⟨(some 8), none, .mov (.tmp 19)⟩]

def f20r4 : List AInstr := [
    ⟨(some 20), none, .mov (.tmp 1)⟩,
    ⟨(some 21), none, .ibin .shr (.tmp 20) (.const (.int .u64 32))⟩,
    ⟨(some 9), none, .mov (.tmp 21)⟩]

def f20r5 : List AInstr := [
    ⟨(some 22), none, .mov (.tmp 6)⟩,
    ⟨(some 23), none, .mov (.tmp 8)⟩,
    ⟨(some 24), none, .ibin .mul (.tmp 22) (.tmp 23)⟩,
    ⟨(some 10), none, .mov (.tmp 24)⟩]

def f20r6 : List AInstr := [
    ⟨(some 25), none, .mov (.tmp 7)⟩,
    ⟨(some 26), none, .mov (.tmp 8)⟩,
    ⟨(some 27), none, .ibin .mul (.tmp 25) (.tmp 26)⟩,
    ⟨(some 28), none, .mov (.tmp 10)⟩,
    ⟨(some 29), none, .ibin .shr (.tmp 28) (.const (.int .u64 32))⟩,
    ⟨(some 30), none, .ibin .add (.tmp 27) (.tmp 29)⟩,
    ⟨(some 11), none, .mov (.tmp 30)⟩]

def f20r7 : List AInstr := [
    ⟨(some 31), none, .mov (.tmp 11)⟩,
    ⟨(some 32), none, .ibin .and (.tmp 31) (.const (.int .u64 4294967295))⟩,
    ⟨(some 12), none, .mov (.tmp 32)⟩]

def f20r8 : List AInstr := [
    ⟨(some 33), none, .mov (.tmp 11)⟩,
    ⟨(some 34), none, .ibin .shr (.tmp 33) (.const (.int .u64 32))⟩,
    ⟨(some 13), none, .mov (.tmp 34)⟩]

def f20r9 : List AInstr := [
    ⟨(some 35), none, .mov (.tmp 12)⟩,
    ⟨(some 36), none, .mov (.tmp 6)⟩,
    ⟨(some 37), none, .mov (.tmp 9)⟩,
    ⟨(some 38), none, .ibin .mul (.tmp 36) (.tmp 37)⟩,
    ⟨(some 39), none, .ibin .add (.tmp 35) (.tmp 38)⟩,
    ⟨(some 12), none, .mov (.tmp 39)⟩]

def f20r10 : List AInstr := [
    ⟨(some 40), none, .mov (.tmp 7)⟩,
    ⟨(some 41), none, .mov (.tmp 9)⟩,
    ⟨(some 42), none, .ibin .mul (.tmp 40) (.tmp 41)⟩,
    ⟨(some 43), none, .mov (.tmp 13)⟩,
    ⟨(some 44), none, .ibin .add (.tmp 42) (.tmp 43)⟩,
    ⟨(some 45), none, .mov (.tmp 12)⟩,
    ⟨(some 46), none, .ibin .shr (.tmp 45) (.const (.int .u64 32))⟩,
    ⟨(some 47), none, .ibin .add (.tmp 44) (.tmp 46)⟩,
    ⟨(some 4), none, .mov (.tmp 47)⟩]

def f20r11 : List AInstr := [
    ⟨(some 48), none, .mov (.tmp 0)⟩,
    ⟨(some 49), none, .mov (.tmp 1)⟩,
    ⟨(some 50), none, .ibin .mul (.tmp 48) (.tmp 49)⟩,
    ⟨(some 5), none, .mov (.tmp 50)⟩]

def f20b : ACode := (.seq (.ops f20r0)
  (.keep [0, 1] (.seq (.ops f20r1)
  (.keep [0, 1, 6] (.seq (.ops f20r2)
  (.keep [0, 1, 6, 7] (.seq (.ops f20r3)
  (.keep [0, 1, 6, 7, 8] (.seq (.ops f20r4)
  (.keep [0, 1, 6, 7, 8, 9] (.seq (.ops f20r5)
  (.keep [0, 1, 6, 7, 8, 9, 10] (.seq (.ops f20r6)
  (.keep [0, 1, 6, 7, 9, 11] (.seq (.ops f20r7)
  (.keep [0, 1, 6, 7, 9, 11, 12] (.seq (.ops f20r8)
  (.keep [0, 1, 6, 7, 9, 12, 13] (.seq (.ops f20r9)
  (.keep [0, 1, 7, 9, 12, 13] (.seq (.ops f20r10)
  (.keep [0, 1, 4] (.seq (.ops f20r11)
  (.keep [4, 5] .ret))))))))))))))))))))))))

def f20 : AFn := ⟨51, [.tmp 4, .tmp 5], f20b⟩

theorem f20_ok : compFn Try.prog 20 = some f20.strip := by kernel_rfl

end Go.Proofs.Ytcoelfklgpaidaa
