/-
  The law HierShare holds of every input.
-/
import Derived.Test.YtknfaoonjmlncaaLaws2
import Derived.Test.YtknfaoonjmlncaaBase
namespace Go.Proofs.Ytknfaoonjmlncaa
open Go Go.Am

theorem HierShare_fits : ∀ H vals, ArgsOk maxLen H HierShareSh vals → ACallK Try.prog 5 vals H fun v _ => v = .bool true := HierShare_args
theorem HierShare_contract (H : Type) (enc : TypeId × Value → H) (W : World) (base : Nat) (args : Array Value) (ds gs : List (DataW H)) (before : List MemPlace)
    (hval : ∀ (j : Nat) t v, Try.f5.params[j]? = some t → args[j]? = some v → Value.okWide Try.prog W .any base t v)
    (hW : DataW.Whole enc Try.prog Try.f5.params.toList Rows.hierShareSpec.vars false W args.toList ds gs before) :
    Calls Try.prog 5 args W fun e W' => ∃ v, e = .returned v ∧ Rows.hierShareSpec.post enc Try.prog Try.f5 false true false false W args v W' :=
  law_contract laid Try.underlying4 (by kernel_rfl) rfl (by kernel_rfl) HierShareSh (by kernel_rfl) HierShare_fits (fun _ ds h => match ds, h with | [_, _, _], _ => rfl) hval hW great

set_option maxRecDepth 100000 in
theorem HierShare_lifted (os : Os) (started : os.Started) (H : Type) (enc : TypeId × Value → H) :
    ReturnsInHanded {} Try.checked os 5 .any (Rows.hierShareSpec.pre6 enc Try.prog Try.f5 Rows.hierShareRow.domain false) (Rows.hierShareSpec.post enc Try.prog Try.f5 false true false false) := by
  refine returnsInHanded_of_change own started (by kernel_rfl) Try.func5
    (ChangeSpec.witness6 (enc := enc) (C := Try.checked) false ⟨#[], #[.slice none 0 0, .slice none 0 0, .int .i64 0], []⟩ 8 (by kernel_rfl) (by kernel_rfl) (by kernel_rfl) (by kernel_rfl)) ?_
  intro W base args ds gs before hval hW _ _
  exact HierShare_contract H enc W base args ds gs before hval hW

theorem HierShare_proved : Rows.HierShareSaid :=
  OpenClaim.holds_of_wide 5 Try.f5 rfl rfl rfl rfl rfl rfl rfl ⟨rfl, rfl, rfl, rfl, rfl⟩ rfl rfl rfl rfl rfl (by kernel_rfl) Try.func5 (by kernel_rfl)
    (of_decide_eq_true (by kernel_rfl)) (by unfold Func.isWrapper; first | (rw [if_pos (by decide +kernel)]; kernel_rfl) | (rw [if_neg (by decide +kernel)]; exact ⟨rfl, rfl⟩))
    (fun os started H enc _ => HierShare_lifted os started H enc)
end Go.Proofs.Ytknfaoonjmlncaa
