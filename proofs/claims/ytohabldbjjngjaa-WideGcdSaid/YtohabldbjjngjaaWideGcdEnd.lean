/-
  The law WideGcd holds of every input.
-/
import Derived.Test.YtohabldbjjngjaaLaws3
import Derived.Test.YtohabldbjjngjaaBase
namespace Go.Proofs.Ytohabldbjjngjaa
open Go Go.Am

theorem WideGcd_fits : ∀ H vals, ArgsOk maxLen H WideGcdSh vals → ACallK Try.prog 4 vals H fun v _ => v = .bool true := WideGcd_args
theorem WideGcd_contract (H : Type) (enc : TypeId × Value → H) (W : World) (base : Nat) (args : Array Value) (ds gs : List (DataW H)) (before : List MemPlace)
    (hval : ∀ (j : Nat) t v, Try.f4.params[j]? = some t → args[j]? = some v → Value.okWide Try.prog W .any base t v)
    (hW : DataW.Whole enc Try.prog Try.f4.params.toList Rows.wideGcdSpec.vars false W args.toList ds gs before) :
    Calls Try.prog 4 args W fun e W' => ∃ v, e = .returned v ∧ Rows.wideGcdSpec.post enc Try.prog Try.f4 false true false false W args v W' :=
  law_contract laid Try.underlying4 (by kernel_rfl) rfl (by kernel_rfl) WideGcdSh (by kernel_rfl) WideGcd_fits (fun _ ds h => match ds, h with | [_, _, _], _ => rfl) hval hW great

set_option maxRecDepth 100000 in
theorem WideGcd_lifted (os : Os) (started : os.Started) (H : Type) (enc : TypeId × Value → H) :
    ReturnsInHanded {} Try.checked os 4 .any (Rows.wideGcdSpec.pre6 enc Try.prog Try.f4 Rows.wideGcdRow.domain false) (Rows.wideGcdSpec.post enc Try.prog Try.f4 false true false false) := by
  refine returnsInHanded_of_change own started (by kernel_rfl) Try.func4
    (ChangeSpec.witness6 (enc := enc) (C := Try.checked) false ⟨#[], #[.int .u64 0, .int .u64 0, .int .u64 0], []⟩ 8 (by kernel_rfl) (by kernel_rfl) (by kernel_rfl) (by kernel_rfl)) ?_
  intro W base args ds gs before hval hW _ _
  exact WideGcd_contract H enc W base args ds gs before hval hW

theorem WideGcd_proved : Rows.WideGcdSaid :=
  OpenClaim.holds_of_wide 4 Try.f4 rfl rfl rfl rfl rfl rfl rfl ⟨rfl, rfl, rfl, rfl, rfl⟩ rfl rfl rfl rfl rfl (by kernel_rfl) Try.func4 (by kernel_rfl)
    (of_decide_eq_true (by kernel_rfl)) (by unfold Func.isWrapper; first | (rw [if_pos (by decide +kernel)]; kernel_rfl) | (rw [if_neg (by decide +kernel)]; exact ⟨rfl, rfl⟩))
    (fun os started H enc _ => WideGcd_lifted os started H enc)
end Go.Proofs.Ytohabldbjjngjaa
