/-
  The functions' table, for what is reckoned. Printed by a program of this claim's writer.
-/
import Derived.Test.YtcocblbfgjjlbaaGreatDoorFns
import Derived.Test.YtcocblbfgjjlbaaGreatDoorAmW
namespace Go.Proofs.YtcocblbfgjjlbaaGreatDoor
open Go Go.Am

def tab : FuncId → Option AFn
  | 4 => some f4
  | 13 => some f13
  | 14 => some f14
  | 28 => some f28
  | 29 => some f29
  | 39 => some f39
  | 40 => some f40
  | 42 => some f42
  | 43 => some f43
  | 44 => some f44
  | 45 => some f45
  | 49 => some f49
  | 50 => some f50
  | 52 => some f52
  | 53 => some f53
  | 54 => some f54
  | 55 => some f55
  | 56 => some f56
  | 62 => some f62
  | 63 => some f63
  | 64 => some f64
  | 65 => some f65
  | _ => none
theorem tab_ok : TabOk Tryz.prog tab := by
  intro f F h
  unfold tab at h
  split at h
  · obtain rfl := Option.some.inj h; exact ⟨f4_ok, by decide⟩
  · obtain rfl := Option.some.inj h; exact ⟨f13_ok, by decide⟩
  · obtain rfl := Option.some.inj h; exact ⟨f14_ok, by decide⟩
  · obtain rfl := Option.some.inj h; exact ⟨f28_ok, by decide⟩
  · obtain rfl := Option.some.inj h; exact ⟨f29_ok, by decide⟩
  · obtain rfl := Option.some.inj h; exact ⟨f39_ok, by decide⟩
  · obtain rfl := Option.some.inj h; exact ⟨f40_ok, by decide⟩
  · obtain rfl := Option.some.inj h; exact ⟨f42_ok, by decide⟩
  · obtain rfl := Option.some.inj h; exact ⟨f43_ok, by decide⟩
  · obtain rfl := Option.some.inj h; exact ⟨f44_ok, by decide⟩
  · obtain rfl := Option.some.inj h; exact ⟨f45_ok, by decide⟩
  · obtain rfl := Option.some.inj h; exact ⟨f49_ok, by decide⟩
  · obtain rfl := Option.some.inj h; exact ⟨f50_ok, by decide⟩
  · obtain rfl := Option.some.inj h; exact ⟨f52_ok, by decide⟩
  · obtain rfl := Option.some.inj h; exact ⟨f53_ok, by decide⟩
  · obtain rfl := Option.some.inj h; exact ⟨f54_ok, by decide⟩
  · obtain rfl := Option.some.inj h; exact ⟨f55_ok, by decide⟩
  · obtain rfl := Option.some.inj h; exact ⟨f56_ok, by decide⟩
  · obtain rfl := Option.some.inj h; exact ⟨f62_ok, by decide⟩
  · obtain rfl := Option.some.inj h; exact ⟨f63_ok, by decide⟩
  · obtain rfl := Option.some.inj h; exact ⟨f64_ok, by decide⟩
  · obtain rfl := Option.some.inj h; exact ⟨f65_ok, by decide⟩
  · cases h
end Go.Proofs.YtcocblbfgjjlbaaGreatDoor
