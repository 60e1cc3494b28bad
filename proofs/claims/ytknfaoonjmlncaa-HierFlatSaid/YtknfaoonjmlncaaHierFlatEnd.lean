/-
  The law HierFlat holds of every input.
-/
import Derived.Test.YtknfaoonjmlncaaLaws3
import Derived.Test.YtknfaoonjmlncaaBase
namespace Go.Proofs.Ytknfaoonjmlncaa
open Go Go.Am

theorem HierFlat_fits : ∀ H vals, ArgsOk maxLen H HierFlatSh vals → ACallK Try.prog 4 vals H fun v _ => v = .bool true := HierFlat_args
theorem HierFlat_contract (H : Type) (enc : TypeId × Value → H) (W : World) (base : Nat) (args : Array Value) (ds gs : List (DataW H)) (before : List MemPlace)
    (hval : ∀ (j : Nat) t v, Try.f4.params[j]? = some t → args[j]? = some v → Value.okWide Try.prog W .any base t v)
    (hW : DataW.Whole enc Try.prog Try.f4.params.toList Rows.hierFlatSpec.vars false W args.toList ds gs before) :
    Calls Try.prog 4 args W fun e W' => ∃ v, e = .returned v ∧ Rows.hierFlatSpec.post enc Try.prog Try.f4 false true false false W args v W' :=
  law_contract laid Try.underlying4 (by kernel_rfl) rfl (by kernel_rfl) HierFlatSh (by kernel_rfl) HierFlat_fits (fun _ ds h => match ds, h with | [_, _], _ => rfl) hval hW great

set_option maxRecDepth 100000 in
theorem HierFlat_lifted (os : Os) (started : os.Started) (H : Type) (enc : TypeId × Value → H) :
    ReturnsInHanded {} Try.checked os 4 .any (Rows.hierFlatSpec.pre6 enc Try.prog Try.f4 Rows.hierFlatRow.domain false) (Rows.hierFlatSpec.post enc Try.prog Try.f4 false true false false) := by
  refine returnsInHanded_of_change own started (by kernel_rfl) Try.func4
    (ChangeSpec.witness6 (enc := enc) (C := Try.checked) false ⟨#[], #[.slice none 0 0, .slice none 0 0], []⟩ 8 (by kernel_rfl) (by kernel_rfl) (by kernel_rfl) (by kernel_rfl)) ?_
  intro W base args ds gs before hval hW _ _
  exact HierFlat_contract H enc W base args ds gs before hval hW

theorem HierFlat_proved : Rows.HierFlatSaid :=
  OpenClaim.holds_of_wide 4 Try.f4 rfl rfl rfl rfl rfl rfl rfl ⟨rfl, rfl, rfl, rfl, rfl⟩ rfl rfl rfl rfl rfl (by kernel_rfl) Try.func4 (by kernel_rfl)
    (of_decide_eq_true (by kernel_rfl)) (by unfold Func.isWrapper; first | (rw [if_pos (by decide +kernel)]; kernel_rfl) | (rw [if_neg (by decide +kernel)]; exact ⟨rfl, rfl⟩))
    (fun os started H enc _ => HierFlat_lifted os started H enc)
end Go.Proofs.Ytknfaoonjmlncaa
