/-
  The functions of this seat as abstract code. Printed by a program of this claim's writer.
-/
import Derived.Test.YthppmhidhgaplaaChecked
import Derived.Test.YthppmhidhgaplaaAmS
import Derived.KernelRfl
namespace Go.Proofs.Ythppmhidhgaplaa
open Go Go.Am

/- function 3: weirhouse/weirhousetop.Names; parameters 0; operations that are not compiled: 0 -/
def f3r0 : List AInstr := [
    ⟨(some 0), none, .mov (.const (.bool false))⟩]

def f3r1 : List AInstr := [
    ⟨(some 7), none, .buildSlice 1 9 [.int .i64 0, .int .i64 0, .int .i64 0, .int .i64 0, .int .i64 0, .int .i64 0, .int .i64 0, .int .i64 0, .int .i64 0] [(0, 1, (.const (.int .i64 0))), (1, 1, (.const (.int .i64 1))), (2, 1, (.const (.int .i64 2))), (3, 1, (.const (.int .i64 3))), (4, 1, (.const (.int .i64 4))), (5, 1, (.const (.int .i64 5))), (6, 1, (.const (.int .i64 6))), (7, 1, (.const (.int .i64 7))), (8, 1, (.const (.int .i64 8)))]⟩,
    ⟨(some 1), none, .mov (.tmp 7)⟩]

def f3r2 : List AInstr := [
    ⟨(some 8), none, .mov (.tmp 1)⟩,
    ⟨(some 9), none, .len (.tmp 8)⟩,
    ⟨(some 10), none, .mov (.const (.int .i64 0))⟩]

def f3r3 : List AInstr := [
    ⟨(some 11), none, .ibin .lss (.tmp 10) (.tmp 9)⟩]

def f3r4 : List AInstr := [
    ⟨(some 12), none, .mov (.tmp 10)⟩,
    ⟨(some 13), none, .indexAddr 1 (.tmp 8) (.tmp 10)⟩,
    ⟨(some 14), none, .load none (.tmp 13)⟩,
    ⟨(some 2), none, .mov (.tmp 12)⟩,
    ⟨(some 3), none, .mov (.tmp 14)⟩]

def f3r5 : List AInstr := [
    ⟨(some 15), none, .mov (.tmp 3)⟩,
    ⟨(some 16), none, .mov (.tmp 2)⟩,
    ⟨(some 17), none, .ibin .neq (.tmp 15) (.tmp 16)⟩]

def f3r6 : List AInstr := [
    ⟨(some 0), none, .mov (.const (.bool false))⟩]

def f3r7 : List AInstr := [
    ⟨(some 18), none, .ibin .add (.tmp 10) (.const (.int .i64 1))⟩,
    ⟨(some 10), none, .mov (.tmp 18)⟩]

/-- live: [8, 9, 10] -/
def f3l0 : ACode := (.seq (.ops f3r3)
  (.keep [8, 9, 10, 11] (.seq (.cond (.tmp 11) .skip (.exit 0))
  (.keep [8, 9, 10] (.seq (.block 1 (.seq (.ops f3r4)
  (.keep [2, 3, 8, 9, 10] (.seq (.ops f3r5)
  (.keep [8, 9, 10, 17] (.cond (.tmp 17) (.keep [] (.seq (.ops f3r6)
  (.keep [0] .ret))) .skip))))))
  (.keep [8, 9, 10] (.ops f3r7)))))))

def f3r9 : List AInstr := [
    ⟨(some 19), none, .buildSlice 1 20 [.int .i64 0, .int .i64 0, .int .i64 0, .int .i64 0, .int .i64 0, .int .i64 0, .int .i64 0, .int .i64 0, .int .i64 0, .int .i64 0, .int .i64 0, .int .i64 0, .int .i64 0, .int .i64 0, .int .i64 0, .int .i64 0, .int .i64 0, .int .i64 0, .int .i64 0, .int .i64 0] [(0, 1, (.const (.int .i64 400))), (1, 1, (.const (.int .i64 1099511627776))), (2, 1, (.const (.int .i64 1073741824))), (3, 1, (.const (.int .i64 1500))), (4, 1, (.const (.int .i64 16))), (5, 1, (.const (.int .i64 1))), (6, 1, (.const (.int .i64 2))), (7, 1, (.const (.int .i64 3))), (8, 1, (.const (.int .i64 4))), (9, 1, (.const (.int .i64 1))), (10, 1, (.const (.int .i64 2))), (11, 1, (.const (.int .i64 1))), (12, 1, (.const (.int .i64 2))), (13, 1, (.const (.int .i64 3))), (14, 1, (.const (.int .i64 1))), (15, 1, (.const (.int .i64 2))), (16, 1, (.const (.int .i64 1))), (17, 1, (.const (.int .i64 2))), (18, 1, (.const (.int .i64 3))), (19, 1, (.const (.int .i64 16)))]⟩,
    ⟨(some 4), none, .mov (.tmp 19)⟩]

def f3r10 : List AInstr := [
    ⟨(some 20), none, .buildSlice 1 20 [.int .i64 0, .int .i64 0, .int .i64 0, .int .i64 0, .int .i64 0, .int .i64 0, .int .i64 0, .int .i64 0, .int .i64 0, .int .i64 0, .int .i64 0, .int .i64 0, .int .i64 0, .int .i64 0, .int .i64 0, .int .i64 0, .int .i64 0, .int .i64 0, .int .i64 0, .int .i64 0] [(0, 1, (.const (.int .i64 400))), (1, 1, (.const (.int .i64 1099511627776))), (2, 1, (.const (.int .i64 1073741824))), (3, 1, (.const (.int .i64 1500))), (4, 1, (.const (.int .i64 16))), (5, 1, (.const (.int .i64 1))), (6, 1, (.const (.int .i64 2))), (7, 1, (.const (.int .i64 3))), (8, 1, (.const (.int .i64 4))), (9, 1, (.const (.int .i64 1))), (10, 1, (.const (.int .i64 2))), (11, 1, (.const (.int .i64 1))), (12, 1, (.const (.int .i64 2))), (13, 1, (.const (.int .i64 3))), (14, 1, (.const (.int .i64 1))), (15, 1, (.const (.int .i64 2))), (16, 1, (.const (.int .i64 1))), (17, 1, (.const (.int .i64 2))), (18, 1, (.const (.int .i64 3))), (19, 1, (.const (.int .i64 16)))]⟩,
    ⟨(some 5), none, .mov (.tmp 20)⟩]

def f3r11 : List AInstr := [
    ⟨(some 21), none, .mov (.tmp 5)⟩,
    ⟨(some 22), none, .len (.tmp 21)⟩,
    ⟨(some 23), none, .mov (.const (.int .i64 0))⟩]

def f3r12 : List AInstr := [
    ⟨(some 24), none, .ibin .lss (.tmp 23) (.tmp 22)⟩]

def f3r13 : List AInstr := [
    ⟨(some 25), none, .mov (.tmp 23)⟩,
    ⟨(some 6), none, .mov (.tmp 25)⟩]

def f3r14 : List AInstr := [
    ⟨(some 26), none, .mov (.tmp 4)⟩,
    ⟨(some 27), none, .mov (.tmp 6)⟩,
    ⟨(some 28), none, .indexAddr 1 (.tmp 26) (.tmp 27)⟩,
    ⟨(some 29), none, .load none (.tmp 28)⟩,
    ⟨(some 30), none, .mov (.tmp 5)⟩,
    ⟨(some 31), none, .mov (.tmp 6)⟩,
    ⟨(some 32), none, .indexAddr 1 (.tmp 30) (.tmp 31)⟩,
    ⟨(some 33), none, .load none (.tmp 32)⟩,
    ⟨(some 34), none, .ibin .neq (.tmp 29) (.tmp 33)⟩]

def f3r15 : List AInstr := [
    ⟨(some 0), none, .mov (.const (.bool false))⟩]

def f3r16 : List AInstr := [
    ⟨(some 35), none, .ibin .add (.tmp 23) (.const (.int .i64 1))⟩,
    ⟨(some 23), none, .mov (.tmp 35)⟩]

/-- live: [4, 5, 22, 23] -/
def f3l1 : ACode := (.seq (.ops f3r12)
  (.keep [4, 5, 22, 23, 24] (.seq (.cond (.tmp 24) .skip (.exit 2))
  (.keep [4, 5, 22, 23] (.seq (.block 3 (.seq (.ops f3r13)
  (.keep [4, 5, 6, 22, 23] (.seq (.draw f3r14 [(0, 0, false), (0, 0, false), (0, 0, false), (0, 0, false), (0, 0, false), (0, 0, false), (0, 0, false), (0, 0, false), (0, 0, false)])
  (.keep [4, 5, 22, 23, 34] (.cond (.tmp 34) (.keep [] (.seq (.ops f3r15)
  (.keep [0] .ret))) .skip))))))
  (.keep [4, 5, 22, 23] (.ops f3r16)))))))

def f3r18 : List AInstr := [
    ⟨(some 0), none, .mov (.const (.bool true))⟩]

def f3b : ACode := (.seq (.ops f3r0)
  (.keep [] (.seq (.ops f3r1)
  (.keep [1] (.seq (.seq (.ops f3r2)
  (.keep [8, 9, 10] (.block 0 (.loop f3l0))))
  (.keep [] (.seq (.ops f3r9)
  (.keep [4] (.seq (.ops f3r10)
  (.keep [4, 5] (.seq (.seq (.ops f3r11)
  (.keep [4, 5, 22, 23] (.block 2 (.loop f3l1))))
  (.keep [] (.seq (.ops f3r18)
  (.keep [0] .ret))))))))))))))

def f3 : AFn := ⟨36, [.tmp 0], f3b⟩

theorem f3_ok : compFn Try.prog 3 = some f3.strip := by kernel_rfl

end Go.Proofs.Ythppmhidhgaplaa
