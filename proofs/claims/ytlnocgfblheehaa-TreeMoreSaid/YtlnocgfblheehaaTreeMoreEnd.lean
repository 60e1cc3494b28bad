/-
  The law TreeMore holds of every input.
-/
import Derived.Test.YtlnocgfblheehaaLaws3
import Derived.Test.YtlnocgfblheehaaBase
namespace Go.Proofs.Ytlnocgfblheehaa
open Go Go.Am

theorem TreeMore_fits : ∀ H vals, ArgsOk maxLen H TreeMoreSh vals → ACallK Try.prog 6 vals H fun v _ => v = .bool true := TreeMore_args
theorem TreeMore_contract (H : Type) (enc : TypeId × Value → H) (W : World) (base : Nat) (args : Array Value) (ds gs : List (DataW H)) (before : List MemPlace)
    (hval : ∀ (j : Nat) t v, Try.f6.params[j]? = some t → args[j]? = some v → Value.okWide Try.prog W .any base t v)
    (hW : DataW.Whole enc Try.prog Try.f6.params.toList Rows.treeMoreSpec.vars false W args.toList ds gs before) :
    Calls Try.prog 6 args W fun e W' => ∃ v, e = .returned v ∧ Rows.treeMoreSpec.post enc Try.prog Try.f6 false true false false W args v W' :=
  law_contract laid Try.underlying4 (by kernel_rfl) rfl (by kernel_rfl) TreeMoreSh (by kernel_rfl) TreeMore_fits (fun _ ds h => match ds, h with | [_, _, _], _ => rfl) hval hW great

set_option maxRecDepth 100000 in
theorem TreeMore_lifted (os : Os) (started : os.Started) (H : Type) (enc : TypeId × Value → H) :
    ReturnsInHanded {} Try.checked os 6 .any (Rows.treeMoreSpec.pre6 enc Try.prog Try.f6 Rows.treeMoreRow.domain false) (Rows.treeMoreSpec.post enc Try.prog Try.f6 false true false false) := by
  refine returnsInHanded_of_change own started (by kernel_rfl) Try.func6
    (ChangeSpec.witness6 (enc := enc) (C := Try.checked) false ⟨#[], #[.slice none 0 0, .int .i64 0, .int .i64 0], []⟩ 8 (by kernel_rfl) (by kernel_rfl) (by kernel_rfl) (by kernel_rfl)) ?_
  intro W base args ds gs before hval hW _ _
  exact TreeMore_contract H enc W base args ds gs before hval hW

theorem TreeMore_proved : Rows.TreeMoreSaid :=
  OpenClaim.holds_of_wide 6 Try.f6 rfl rfl rfl rfl rfl rfl rfl ⟨rfl, rfl, rfl, rfl, rfl⟩ rfl rfl rfl rfl rfl (by kernel_rfl) Try.func6 (by kernel_rfl)
    (of_decide_eq_true (by kernel_rfl)) (by unfold Func.isWrapper; first | (rw [if_pos (by decide +kernel)]; kernel_rfl) | (rw [if_neg (by decide +kernel)]; exact ⟨rfl, rfl⟩))
    (fun os started H enc _ => TreeMore_lifted os started H enc)
end Go.Proofs.Ytlnocgfblheehaa
