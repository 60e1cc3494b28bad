/-
  The functions' table, for what is reckoned. Printed by a program of this claim's writer.
-/
import Derived.Test.YtfkhljgifndbpaaDoorFns
import Derived.Test.YtfkhljgifndbpaaDoorAmW
namespace Go.Proofs.YtfkhljgifndbpaaDoor
open Go Go.Am

def tab : FuncId → Option AFn
  | 5 => some f5
  | 6 => some f6
  | 8 => some f8
  | 10 => some f10
  | 12 => some f12
  | 17 => some f17
  | 19 => some f19
  | 21 => some f21
  | 22 => some f22
  | 24 => some f24
  | 25 => some f25
  | 26 => some f26
  | 27 => some f27
  | 32 => some f32
  | 34 => some f34
  | 35 => some f35
  | 36 => some f36
  | 37 => some f37
  | 38 => some f38
  | 47 => some f47
  | 48 => some f48
  | 49 => some f49
  | 50 => some f50
  | _ => none
theorem tab_ok : TabOk Tryd.prog tab := by
  intro f F h
  unfold tab at h
  split at h
  · obtain rfl := Option.some.inj h; exact ⟨f5_ok, by decide⟩
  · obtain rfl := Option.some.inj h; exact ⟨f6_ok, by decide⟩
  · obtain rfl := Option.some.inj h; exact ⟨f8_ok, by decide⟩
  · obtain rfl := Option.some.inj h; exact ⟨f10_ok, by decide⟩
  · obtain rfl := Option.some.inj h; exact ⟨f12_ok, by decide⟩
  · obtain rfl := Option.some.inj h; exact ⟨f17_ok, by decide⟩
  · obtain rfl := Option.some.inj h; exact ⟨f19_ok, by decide⟩
  · obtain rfl := Option.some.inj h; exact ⟨f21_ok, by decide⟩
  · obtain rfl := Option.some.inj h; exact ⟨f22_ok, by decide⟩
  · obtain rfl := Option.some.inj h; exact ⟨f24_ok, by decide⟩
  · obtain rfl := Option.some.inj h; exact ⟨f25_ok, by decide⟩
  · obtain rfl := Option.some.inj h; exact ⟨f26_ok, by decide⟩
  · obtain rfl := Option.some.inj h; exact ⟨f27_ok, by decide⟩
  · obtain rfl := Option.some.inj h; exact ⟨f32_ok, by decide⟩
  · obtain rfl := Option.some.inj h; exact ⟨f34_ok, by decide⟩
  · obtain rfl := Option.some.inj h; exact ⟨f35_ok, by decide⟩
  · obtain rfl := Option.some.inj h; exact ⟨f36_ok, by decide⟩
  · obtain rfl := Option.some.inj h; exact ⟨f37_ok, by decide⟩
  · obtain rfl := Option.some.inj h; exact ⟨f38_ok, by decide⟩
  · obtain rfl := Option.some.inj h; exact ⟨f47_ok, by decide⟩
  · obtain rfl := Option.some.inj h; exact ⟨f48_ok, by decide⟩
  · obtain rfl := Option.some.inj h; exact ⟨f49_ok, by decide⟩
  · obtain rfl := Option.some.inj h; exact ⟨f50_ok, by decide⟩
  · cases h
end Go.Proofs.YtfkhljgifndbpaaDoor
