/-
  The functions' table, for what is reckoned. Printed by a program of this claim's writer.
-/
import Derived.Test.YtabcjhpgamhpoaaFns
import Derived.Test.YtabcjhpgamhpoaaAmW
namespace Go.Proofs.Ytabcjhpgamhpoaa
open Go Go.Am

def tab : FuncId → Option AFn
  | 3 => some f3
  | 4 => some f4
  | 5 => some f5
  | 6 => some f6
  | 7 => some f7
  | 8 => some f8
  | 9 => some f9
  | 10 => some f10
  | 11 => some f11
  | 12 => some f12
  | 13 => some f13
  | 14 => some f14
  | 15 => some f15
  | 16 => some f16
  | 17 => some f17
  | 18 => some f18
  | 19 => some f19
  | 20 => some f20
  | 21 => some f21
  | 22 => some f22
  | 23 => some f23
  | 24 => some f24
  | 25 => some f25
  | 26 => some f26
  | 27 => some f27
  | 28 => some f28
  | 29 => some f29
  | 30 => some f30
  | 31 => some f31
  | 32 => some f32
  | 33 => some f33
  | 35 => some f35
  | 36 => some f36
  | 37 => some f37
  | 38 => some f38
  | 39 => some f39
  | 40 => some f40
  | 41 => some f41
  | 42 => some f42
  | 43 => some f43
  | 44 => some f44
  | 45 => some f45
  | 46 => some f46
  | 47 => some f47
  | 48 => some f48
  | 49 => some f49
  | 50 => some f50
  | 51 => some f51
  | 52 => some f52
  | 53 => some f53
  | 54 => some f54
  | 55 => some f55
  | 56 => some f56
  | 57 => some f57
  | 58 => some f58
  | 59 => some f59
  | 60 => some f60
  | 61 => some f61
  | 62 => some f62
  | 63 => some f63
  | 64 => some f64
  | 65 => some f65
  | 66 => some f66
  | 67 => some f67
  | _ => none
theorem tab_ok : TabOk Try.prog tab := by
  intro f F h
  unfold tab at h
  split at h
  · obtain rfl := Option.some.inj h; exact ⟨f3_ok, by decide⟩
  · obtain rfl := Option.some.inj h; exact ⟨f4_ok, by decide⟩
  · obtain rfl := Option.some.inj h; exact ⟨f5_ok, by decide⟩
  · obtain rfl := Option.some.inj h; exact ⟨f6_ok, by decide⟩
  · obtain rfl := Option.some.inj h; exact ⟨f7_ok, by decide⟩
  · obtain rfl := Option.some.inj h; exact ⟨f8_ok, by decide⟩
  · obtain rfl := Option.some.inj h; exact ⟨f9_ok, by decide⟩
  · obtain rfl := Option.some.inj h; exact ⟨f10_ok, by decide⟩
  · obtain rfl := Option.some.inj h; exact ⟨f11_ok, by decide⟩
  · obtain rfl := Option.some.inj h; exact ⟨f12_ok, by decide⟩
  · obtain rfl := Option.some.inj h; exact ⟨f13_ok, by decide⟩
  · obtain rfl := Option.some.inj h; exact ⟨f14_ok, by decide⟩
  · obtain rfl := Option.some.inj h; exact ⟨f15_ok, by decide⟩
  · obtain rfl := Option.some.inj h; exact ⟨f16_ok, by decide⟩
  · obtain rfl := Option.some.inj h; exact ⟨f17_ok, by decide⟩
  · obtain rfl := Option.some.inj h; exact ⟨f18_ok, by decide⟩
  · obtain rfl := Option.some.inj h; exact ⟨f19_ok, by decide⟩
  · obtain rfl := Option.some.inj h; exact ⟨f20_ok, by decide⟩
  · obtain rfl := Option.some.inj h; exact ⟨f21_ok, by decide⟩
  · obtain rfl := Option.some.inj h; exact ⟨f22_ok, by decide⟩
  · obtain rfl := Option.some.inj h; exact ⟨f23_ok, by decide⟩
  · obtain rfl := Option.some.inj h; exact ⟨f24_ok, by decide⟩
  · obtain rfl := Option.some.inj h; exact ⟨f25_ok, by decide⟩
  · obtain rfl := Option.some.inj h; exact ⟨f26_ok, by decide⟩
  · obtain rfl := Option.some.inj h; exact ⟨f27_ok, by decide⟩
  · obtain rfl := Option.some.inj h; exact ⟨f28_ok, by decide⟩
  · obtain rfl := Option.some.inj h; exact ⟨f29_ok, by decide⟩
  · obtain rfl := Option.some.inj h; exact ⟨f30_ok, by decide⟩
  · obtain rfl := Option.some.inj h; exact ⟨f31_ok, by decide⟩
  · obtain rfl := Option.some.inj h; exact ⟨f32_ok, by decide⟩
  · obtain rfl := Option.some.inj h; exact ⟨f33_ok, by decide⟩
  · obtain rfl := Option.some.inj h; exact ⟨f35_ok, by decide⟩
  · obtain rfl := Option.some.inj h; exact ⟨f36_ok, by decide⟩
  · obtain rfl := Option.some.inj h; exact ⟨f37_ok, by decide⟩
  · obtain rfl := Option.some.inj h; exact ⟨f38_ok, by decide⟩
  · obtain rfl := Option.some.inj h; exact ⟨f39_ok, by decide⟩
  · obtain rfl := Option.some.inj h; exact ⟨f40_ok, by decide⟩
  · obtain rfl := Option.some.inj h; exact ⟨f41_ok, by decide⟩
  · obtain rfl := Option.some.inj h; exact ⟨f42_ok, by decide⟩
  · obtain rfl := Option.some.inj h; exact ⟨f43_ok, by decide⟩
  · obtain rfl := Option.some.inj h; exact ⟨f44_ok, by decide⟩
  · obtain rfl := Option.some.inj h; exact ⟨f45_ok, by decide⟩
  · obtain rfl := Option.some.inj h; exact ⟨f46_ok, by decide⟩
  · obtain rfl := Option.some.inj h; exact ⟨f47_ok, by decide⟩
  · obtain rfl := Option.some.inj h; exact ⟨f48_ok, by decide⟩
  · obtain rfl := Option.some.inj h; exact ⟨f49_ok, by decide⟩
  · obtain rfl := Option.some.inj h; exact ⟨f50_ok, by decide⟩
  · obtain rfl := Option.some.inj h; exact ⟨f51_ok, by decide⟩
  · obtain rfl := Option.some.inj h; exact ⟨f52_ok, by decide⟩
  · obtain rfl := Option.some.inj h; exact ⟨f53_ok, by decide⟩
  · obtain rfl := Option.some.inj h; exact ⟨f54_ok, by decide⟩
  · obtain rfl := Option.some.inj h; exact ⟨f55_ok, by decide⟩
  · obtain rfl := Option.some.inj h; exact ⟨f56_ok, by decide⟩
  · obtain rfl := Option.some.inj h; exact ⟨f57_ok, by decide⟩
  · obtain rfl := Option.some.inj h; exact ⟨f58_ok, by decide⟩
  · obtain rfl := Option.some.inj h; exact ⟨f59_ok, by decide⟩
  · obtain rfl := Option.some.inj h; exact ⟨f60_ok, by decide⟩
  · obtain rfl := Option.some.inj h; exact ⟨f61_ok, by decide⟩
  · obtain rfl := Option.some.inj h; exact ⟨f62_ok, by decide⟩
  · obtain rfl := Option.some.inj h; exact ⟨f63_ok, by decide⟩
  · obtain rfl := Option.some.inj h; exact ⟨f64_ok, by decide⟩
  · obtain rfl := Option.some.inj h; exact ⟨f65_ok, by decide⟩
  · obtain rfl := Option.some.inj h; exact ⟨f66_ok, by decide⟩
  · obtain rfl := Option.some.inj h; exact ⟨f67_ok, by decide⟩
  · cases h
/-- weirhouse/weirhousekeep.alive23 -/
theorem alive (H : Heap) : ACallK Try.prog 7 [] H (fun v H' => v = .bool true ∧ H' = H) := .yesC tab_ok 100000 (by kernel_rfl) H
end Go.Proofs.Ytabcjhpgamhpoaa
