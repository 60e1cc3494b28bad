/-
  The functions' table, for what is reckoned. Printed by a program of this claim's writer.
-/
import Derived.Test.YtdkccpppflnmpaaFns
import Derived.Test.YtdkccpppflnmpaaAmW
namespace Go.Proofs.Ytdkccpppflnmpaa
open Go Go.Am

def tab : FuncId → Option AFn
  | 3 => some f3
  | 4 => some f4
  | 5 => some f5
  | 6 => some f6
  | 7 => some f7
  | 8 => some f8
  | 9 => some f9
  | 10 => some f10
  | 11 => some f11
  | 12 => some f12
  | 13 => some f13
  | 14 => some f14
  | 15 => some f15
  | 16 => some f16
  | 17 => some f17
  | 18 => some f18
  | _ => none
theorem tab_ok : TabOk Try.prog tab := by
  intro f F h
  unfold tab at h
  split at h
  · obtain rfl := Option.some.inj h; exact ⟨f3_ok, by decide⟩
  · obtain rfl := Option.some.inj h; exact ⟨f4_ok, by decide⟩
  · obtain rfl := Option.some.inj h; exact ⟨f5_ok, by decide⟩
  · obtain rfl := Option.some.inj h; exact ⟨f6_ok, by decide⟩
  · obtain rfl := Option.some.inj h; exact ⟨f7_ok, by decide⟩
  · obtain rfl := Option.some.inj h; exact ⟨f8_ok, by decide⟩
  · obtain rfl := Option.some.inj h; exact ⟨f9_ok, by decide⟩
  · obtain rfl := Option.some.inj h; exact ⟨f10_ok, by decide⟩
  · obtain rfl := Option.some.inj h; exact ⟨f11_ok, by decide⟩
  · obtain rfl := Option.some.inj h; exact ⟨f12_ok, by decide⟩
  · obtain rfl := Option.some.inj h; exact ⟨f13_ok, by decide⟩
  · obtain rfl := Option.some.inj h; exact ⟨f14_ok, by decide⟩
  · obtain rfl := Option.some.inj h; exact ⟨f15_ok, by decide⟩
  · obtain rfl := Option.some.inj h; exact ⟨f16_ok, by decide⟩
  · obtain rfl := Option.some.inj h; exact ⟨f17_ok, by decide⟩
  · obtain rfl := Option.some.inj h; exact ⟨f18_ok, by decide⟩
  · cases h
/-- weirhouse/weirhousekeep.alive5 -/
theorem alive (H : Heap) : ACallK Try.prog 7 [] H (fun v H' => v = .bool true ∧ H' = H) := .yesC tab_ok 100000 (by kernel_rfl) H
end Go.Proofs.Ytdkccpppflnmpaa
