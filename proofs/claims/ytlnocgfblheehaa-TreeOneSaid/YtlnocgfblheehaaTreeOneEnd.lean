/-
  The law TreeOne holds of every input.
-/
import Derived.Test.YtlnocgfblheehaaLaws4
import Derived.Test.YtlnocgfblheehaaBase
namespace Go.Proofs.Ytlnocgfblheehaa
open Go Go.Am

theorem TreeOne_fits : ∀ H vals, ArgsOk maxLen H TreeOneSh vals → ACallK Try.prog 5 vals H fun v _ => v = .bool true := TreeOne_args
theorem TreeOne_contract (H : Type) (enc : TypeId × Value → H) (W : World) (base : Nat) (args : Array Value) (ds gs : List (DataW H)) (before : List MemPlace)
    (hval : ∀ (j : Nat) t v, Try.f5.params[j]? = some t → args[j]? = some v → Value.okWide Try.prog W .any base t v)
    (hW : DataW.Whole enc Try.prog Try.f5.params.toList Rows.treeOneSpec.vars false W args.toList ds gs before) :
    Calls Try.prog 5 args W fun e W' => ∃ v, e = .returned v ∧ Rows.treeOneSpec.post enc Try.prog Try.f5 false true false false W args v W' :=
  law_contract laid Try.underlying4 (by kernel_rfl) rfl (by kernel_rfl) TreeOneSh (by kernel_rfl) TreeOne_fits (fun _ ds h => match ds, h with | [_], _ => rfl) hval hW great

set_option maxRecDepth 100000 in
theorem TreeOne_lifted (os : Os) (started : os.Started) (H : Type) (enc : TypeId × Value → H) :
    ReturnsInHanded {} Try.checked os 5 .any (Rows.treeOneSpec.pre6 enc Try.prog Try.f5 Rows.treeOneRow.domain false) (Rows.treeOneSpec.post enc Try.prog Try.f5 false true false false) := by
  refine returnsInHanded_of_change own started (by kernel_rfl) Try.func5
    (ChangeSpec.witness6 (enc := enc) (C := Try.checked) false ⟨#[], #[.slice none 0 0], []⟩ 8 (by kernel_rfl) (by kernel_rfl) (by kernel_rfl) (by kernel_rfl)) ?_
  intro W base args ds gs before hval hW _ _
  exact TreeOne_contract H enc W base args ds gs before hval hW

theorem TreeOne_proved : Rows.TreeOneSaid :=
  OpenClaim.holds_of_wide 5 Try.f5 rfl rfl rfl rfl rfl rfl rfl ⟨rfl, rfl, rfl, rfl, rfl⟩ rfl rfl rfl rfl rfl (by kernel_rfl) Try.func5 (by kernel_rfl)
    (of_decide_eq_true (by kernel_rfl)) (by unfold Func.isWrapper; first | (rw [if_pos (by decide +kernel)]; kernel_rfl) | (rw [if_neg (by decide +kernel)]; exact ⟨rfl, rfl⟩))
    (fun os started H enc _ => TreeOne_lifted os started H enc)
end Go.Proofs.Ytlnocgfblheehaa
