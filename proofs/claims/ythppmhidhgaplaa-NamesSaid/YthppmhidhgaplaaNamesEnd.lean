/-
  The law Names holds of every input.
-/
import Derived.Test.YthppmhidhgaplaaLaws
import Derived.Test.YthppmhidhgaplaaBase
namespace Go.Proofs.Ythppmhidhgaplaa
open Go Go.Am

theorem Names_fits : ∀ H vals, ArgsOk maxLen H NamesSh vals → ACallK Try.prog 3 vals H fun v _ => v = .bool true := Names_args
theorem Names_contract (H : Type) (enc : TypeId × Value → H) (W : World) (base : Nat) (args : Array Value) (ds gs : List (DataW H)) (before : List MemPlace)
    (hval : ∀ (j : Nat) t v, Try.f3.params[j]? = some t → args[j]? = some v → Value.okWide Try.prog W .any base t v)
    (hW : DataW.Whole enc Try.prog Try.f3.params.toList Rows.namesSpec.vars false W args.toList ds gs before) :
    Calls Try.prog 3 args W fun e W' => ∃ v, e = .returned v ∧ Rows.namesSpec.post enc Try.prog Try.f3 false true false false W args v W' :=
  law_contract laid Try.underlying4 (by kernel_rfl) rfl (by kernel_rfl) NamesSh (by kernel_rfl) Names_fits (fun _ ds h => match ds, h with | [], _ => rfl) hval hW great

set_option maxRecDepth 100000 in
theorem Names_lifted (os : Os) (started : os.Started) (H : Type) (enc : TypeId × Value → H) :
    ReturnsInHanded {} Try.checked os 3 .any (Rows.namesSpec.pre6 enc Try.prog Try.f3 Rows.namesRow.domain false) (Rows.namesSpec.post enc Try.prog Try.f3 false true false false) := by
  refine returnsInHanded_of_change own started (by kernel_rfl) Try.func3
    (ChangeSpec.witness6 (enc := enc) (C := Try.checked) false ⟨#[], #[], []⟩ 8 (by kernel_rfl) (by kernel_rfl) (by kernel_rfl) (by kernel_rfl)) ?_
  intro W base args ds gs before hval hW _ _
  exact Names_contract H enc W base args ds gs before hval hW

theorem Names_proved : Rows.NamesSaid :=
  OpenClaim.holds_of_wide 3 Try.f3 rfl rfl rfl rfl rfl rfl rfl ⟨rfl, rfl, rfl, rfl, rfl⟩ rfl rfl rfl rfl rfl (by kernel_rfl) Try.func3 (by kernel_rfl)
    (of_decide_eq_true (by kernel_rfl)) (by unfold Func.isWrapper; first | (rw [if_pos (by decide +kernel)]; kernel_rfl) | (rw [if_neg (by decide +kernel)]; exact ⟨rfl, rfl⟩))
    (fun os started H enc _ => Names_lifted os started H enc)
end Go.Proofs.Ythppmhidhgaplaa
