/-
  The functions' table, for what is reckoned. Printed by a program of this claim's writer.
-/
import Derived.Test.YtmbcgelfnbnicaaDoorFns
import Derived.Test.YtmbcgelfnbnicaaDoorAmW
namespace Go.Proofs.YtmbcgelfnbnicaaDoor
open Go Go.Am

def tab : FuncId → Option AFn
  | 6 => some f6
  | 8 => some f8
  | 18 => some f18
  | 19 => some f19
  | 22 => some f22
  | 23 => some f23
  | 24 => some f24
  | 25 => some f25
  | 35 => some f35
  | 39 => some f39
  | 40 => some f40
  | 41 => some f41
  | 42 => some f42
  | 43 => some f43
  | 48 => some f48
  | 49 => some f49
  | 52 => some f52
  | 53 => some f53
  | 54 => some f54
  | 55 => some f55
  | 59 => some f59
  | 60 => some f60
  | _ => none
theorem tab_ok : TabOk Tryd.prog tab := by
  intro f F h
  unfold tab at h
  split at h
  · obtain rfl := Option.some.inj h; exact ⟨f6_ok, by decide⟩
  · obtain rfl := Option.some.inj h; exact ⟨f8_ok, by decide⟩
  · obtain rfl := Option.some.inj h; exact ⟨f18_ok, by decide⟩
  · obtain rfl := Option.some.inj h; exact ⟨f19_ok, by decide⟩
  · obtain rfl := Option.some.inj h; exact ⟨f22_ok, by decide⟩
  · obtain rfl := Option.some.inj h; exact ⟨f23_ok, by decide⟩
  · obtain rfl := Option.some.inj h; exact ⟨f24_ok, by decide⟩
  · obtain rfl := Option.some.inj h; exact ⟨f25_ok, by decide⟩
  · obtain rfl := Option.some.inj h; exact ⟨f35_ok, by decide⟩
  · obtain rfl := Option.some.inj h; exact ⟨f39_ok, by decide⟩
  · obtain rfl := Option.some.inj h; exact ⟨f40_ok, by decide⟩
  · obtain rfl := Option.some.inj h; exact ⟨f41_ok, by decide⟩
  · obtain rfl := Option.some.inj h; exact ⟨f42_ok, by decide⟩
  · obtain rfl := Option.some.inj h; exact ⟨f43_ok, by decide⟩
  · obtain rfl := Option.some.inj h; exact ⟨f48_ok, by decide⟩
  · obtain rfl := Option.some.inj h; exact ⟨f49_ok, by decide⟩
  · obtain rfl := Option.some.inj h; exact ⟨f52_ok, by decide⟩
  · obtain rfl := Option.some.inj h; exact ⟨f53_ok, by decide⟩
  · obtain rfl := Option.some.inj h; exact ⟨f54_ok, by decide⟩
  · obtain rfl := Option.some.inj h; exact ⟨f55_ok, by decide⟩
  · obtain rfl := Option.some.inj h; exact ⟨f59_ok, by decide⟩
  · obtain rfl := Option.some.inj h; exact ⟨f60_ok, by decide⟩
  · cases h
end Go.Proofs.YtmbcgelfnbnicaaDoor
