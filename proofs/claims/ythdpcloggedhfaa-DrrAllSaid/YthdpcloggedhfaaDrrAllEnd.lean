/-
  The law DrrAll holds of every input.
-/
import Derived.Test.YthdpcloggedhfaaLaws3
import Derived.Test.YthdpcloggedhfaaBase
namespace Go.Proofs.Ythdpcloggedhfaa
open Go Go.Am

theorem DrrAll_fits : ∀ H vals, ArgsOk maxLen H DrrAllSh vals → ACallK Try.prog 6 vals H fun v _ => v = .bool true := DrrAll_args
theorem DrrAll_contract (H : Type) (enc : TypeId × Value → H) (W : World) (base : Nat) (args : Array Value) (ds gs : List (DataW H)) (before : List MemPlace)
    (hval : ∀ (j : Nat) t v, Try.f6.params[j]? = some t → args[j]? = some v → Value.okWide Try.prog W .any base t v)
    (hW : DataW.Whole enc Try.prog Try.f6.params.toList Rows.drrAllSpec.vars false W args.toList ds gs before) :
    Calls Try.prog 6 args W fun e W' => ∃ v, e = .returned v ∧ Rows.drrAllSpec.post enc Try.prog Try.f6 false true false false W args v W' :=
  law_contract laid Try.underlying4 (by kernel_rfl) rfl (by kernel_rfl) DrrAllSh (by kernel_rfl) DrrAll_fits (fun _ ds h => match ds, h with | [_, _], _ => rfl) hval hW great

set_option maxRecDepth 100000 in
theorem DrrAll_lifted (os : Os) (started : os.Started) (H : Type) (enc : TypeId × Value → H) :
    ReturnsInHanded {} Try.checked os 6 .any (Rows.drrAllSpec.pre6 enc Try.prog Try.f6 Rows.drrAllRow.domain false) (Rows.drrAllSpec.post enc Try.prog Try.f6 false true false false) := by
  refine returnsInHanded_of_change own started (by kernel_rfl) Try.func6
    (ChangeSpec.witness6 (enc := enc) (C := Try.checked) false ⟨#[], #[.slice none 0 0, .slice none 0 0], []⟩ 8 (by kernel_rfl) (by kernel_rfl) (by kernel_rfl) (by kernel_rfl)) ?_
  intro W base args ds gs before hval hW _ _
  exact DrrAll_contract H enc W base args ds gs before hval hW

theorem DrrAll_proved : Rows.DrrAllSaid :=
  OpenClaim.holds_of_wide 6 Try.f6 rfl rfl rfl rfl rfl rfl rfl ⟨rfl, rfl, rfl, rfl, rfl⟩ rfl rfl rfl rfl rfl (by kernel_rfl) Try.func6 (by kernel_rfl)
    (of_decide_eq_true (by kernel_rfl)) (by unfold Func.isWrapper; first | (rw [if_pos (by decide +kernel)]; kernel_rfl) | (rw [if_neg (by decide +kernel)]; exact ⟨rfl, rfl⟩))
    (fun os started H enc _ => DrrAll_lifted os started H enc)
end Go.Proofs.Ythdpcloggedhfaa
