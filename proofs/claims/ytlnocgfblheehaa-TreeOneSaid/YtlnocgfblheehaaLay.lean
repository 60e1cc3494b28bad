import Derived.Test.YtlnocgfblheehaaProg
import Derived.Shelf.Spec.SlicesInsertGrow
/- Where slices.Insert and what it calls lie in this program. -/
namespace Go.Proofs.Ytlnocgfblheehaa
open Go Go.Shelf
def ren : Ren := ⟨fun k => if k = 21 then 18 else if k = 27 then 26 else if k = 28 then 27 else if k = 35 then 30 else if k = 39 then 31 else k, fun t => if t = 22 then 24 else t, fun g => g⟩
theorem lays : Lays2.n21 Try.prog ren where
  mixed := by kernel_rfl
  f21 := by kernel_rfl
  f27 := by kernel_rfl
  f28 := by kernel_rfl
  f35 := by kernel_rfl
  f39 := by kernel_rfl
  t0 := Try.underlying0
  a0 := Try.isAgg0
  z0 := Try.sizeOf0
  v0 := Try.zeroValue0
  t3 := Try.underlying3
  a3 := Try.isAgg3
  z3 := Try.sizeOf3
  v3 := Try.zeroValue3
  t4 := Try.underlying4
  a4 := Try.isAgg4
  z4 := Try.sizeOf4
  v4 := Try.zeroValue4
  t22 := Try.underlying24
  a22 := Try.isAgg24
  z22 := Try.sizeOf24
  v22 := Try.zeroValue24
  i3 := by kernel_rfl
end Go.Proofs.Ytlnocgfblheehaa
