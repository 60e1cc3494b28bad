import Derived.Test.YtknfaoonjmlncaaProg
import Derived.Shelf.Spec.SlicesInsertGrow
/- Where slices.Insert and what it calls lie in this program. -/
namespace Go.Proofs.Ytknfaoonjmlncaa
open Go Go.Shelf
def ren : Ren := ⟨fun k => if k = 21 then 21 else if k = 27 then 29 else if k = 28 then 30 else if k = 35 then 32 else if k = 39 then 33 else k, fun t => if t = 22 then 27 else t, fun g => g⟩
theorem lays : Lays2.n21 Try.prog ren where
  mixed := by kernel_rfl
  f21 := by kernel_rfl
  f27 := by kernel_rfl
  f28 := by kernel_rfl
  f35 := by kernel_rfl
  f39 := by kernel_rfl
  t0 := Try.underlying0
  a0 := Try.isAgg0
  z0 := Try.sizeOf0
  v0 := Try.zeroValue0
  t3 := Try.underlying3
  a3 := Try.isAgg3
  z3 := Try.sizeOf3
  v3 := Try.zeroValue3
  t4 := Try.underlying4
  a4 := Try.isAgg4
  z4 := Try.sizeOf4
  v4 := Try.zeroValue4
  t22 := Try.underlying27
  a22 := Try.isAgg27
  z22 := Try.sizeOf27
  v22 := Try.zeroValue27
  i3 := by kernel_rfl
end Go.Proofs.Ytknfaoonjmlncaa
