/-
  The functions' table, for what is reckoned. Printed by a program of this claim's writer.
-/
import Derived.Test.YthppmhidhgaplaaFns
import Derived.Test.YthppmhidhgaplaaAmW
namespace Go.Proofs.Ythppmhidhgaplaa
open Go Go.Am

def tab : FuncId → Option AFn
  | 3 => some f3
  | _ => none
theorem tab_ok : TabOk Try.prog tab := by
  intro f F h
  unfold tab at h
  split at h
  · obtain rfl := Option.some.inj h; exact ⟨f3_ok, by decide⟩
  · cases h
end Go.Proofs.Ythppmhidhgaplaa
