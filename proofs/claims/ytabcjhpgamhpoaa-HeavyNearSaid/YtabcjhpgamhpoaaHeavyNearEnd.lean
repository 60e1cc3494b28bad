/-
  The law HeavyNear holds of every input.
-/
import Derived.Test.YtabcjhpgamhpoaaLaws2
import Derived.Test.YtabcjhpgamhpoaaBase
namespace Go.Proofs.Ytabcjhpgamhpoaa
open Go Go.Am

theorem HeavyNear_fits : ∀ H vals, ArgsOk maxLen H HeavyNearSh vals → ACallK Try.prog 3 vals H fun v _ => v = .bool true := HeavyNear_args
theorem HeavyNear_contract (H : Type) (enc : TypeId × Value → H) (W : World) (base : Nat) (args : Array Value) (ds gs : List (DataW H)) (before : List MemPlace)
    (hval : ∀ (j : Nat) t v, Try.f3.params[j]? = some t → args[j]? = some v → Value.okWide Try.prog W .any base t v)
    (hW : DataW.Whole enc Try.prog Try.f3.params.toList Rows.heavyNearSpec.vars false W args.toList ds gs before) :
    Calls Try.prog 3 args W fun e W' => ∃ v, e = .returned v ∧ Rows.heavyNearSpec.post enc Try.prog Try.f3 false true false false W args v W' :=
  law_contract laid Try.underlying4 (by kernel_rfl) rfl (by kernel_rfl) HeavyNearSh (by kernel_rfl) HeavyNear_fits (fun _ ds h => match ds, h with | [_, _, _], _ => rfl) hval hW great

set_option maxRecDepth 100000 in
theorem HeavyNear_lifted (os : Os) (started : os.Started) (H : Type) (enc : TypeId × Value → H) :
    ReturnsInHanded {} Try.checked os 3 .any (Rows.heavyNearSpec.pre6 enc Try.prog Try.f3 Rows.heavyNearRow.domain false) (Rows.heavyNearSpec.post enc Try.prog Try.f3 false true false false) := by
  refine returnsInHanded_of_change own started (by kernel_rfl) Try.func3
    (ChangeSpec.witness6 (enc := enc) (C := Try.checked) false ⟨#[], #[.int .i64 0, .slice none 0 0, .int .i64 0], []⟩ 8 (by kernel_rfl) (by kernel_rfl) (by kernel_rfl) (by kernel_rfl)) ?_
  intro W base args ds gs before hval hW _ _
  exact HeavyNear_contract H enc W base args ds gs before hval hW

theorem HeavyNear_proved : Rows.HeavyNearSaid :=
  OpenClaim.holds_of_wide 3 Try.f3 rfl rfl rfl rfl rfl rfl rfl ⟨rfl, rfl, rfl, rfl, rfl⟩ rfl rfl rfl rfl rfl (by kernel_rfl) Try.func3 (by kernel_rfl)
    (of_decide_eq_true (by kernel_rfl)) (by unfold Func.isWrapper; first | (rw [if_pos (by decide +kernel)]; kernel_rfl) | (rw [if_neg (by decide +kernel)]; exact ⟨rfl, rfl⟩))
    (fun os started H enc _ => HeavyNear_lifted os started H enc)
end Go.Proofs.Ytabcjhpgamhpoaa
