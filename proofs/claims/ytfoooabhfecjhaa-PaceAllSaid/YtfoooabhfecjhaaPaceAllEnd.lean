/-
  The law PaceAll holds of every input.
-/
import Derived.Test.YtfoooabhfecjhaaLaws2
import Derived.Test.YtfoooabhfecjhaaBase
namespace Go.Proofs.Ytfoooabhfecjhaa
open Go Go.Am

theorem PaceAll_fits : ∀ H vals, ArgsOk maxLen H PaceAllSh vals → ACallK Try.prog 5 vals H fun v _ => v = .bool true := PaceAll_args
theorem PaceAll_contract (H : Type) (enc : TypeId × Value → H) (W : World) (base : Nat) (args : Array Value) (ds gs : List (DataW H)) (before : List MemPlace)
    (hval : ∀ (j : Nat) t v, Try.f5.params[j]? = some t → args[j]? = some v → Value.okWide Try.prog W .any base t v)
    (hW : DataW.Whole enc Try.prog Try.f5.params.toList Rows.paceAllSpec.vars false W args.toList ds gs before) :
    Calls Try.prog 5 args W fun e W' => ∃ v, e = .returned v ∧ Rows.paceAllSpec.post enc Try.prog Try.f5 false true false false W args v W' :=
  law_contract laid Try.underlying4 (by kernel_rfl) rfl (by kernel_rfl) PaceAllSh (by kernel_rfl) PaceAll_fits (fun _ ds h => match ds, h with | [_, _, _, _], _ => rfl) hval hW great

set_option maxRecDepth 100000 in
theorem PaceAll_lifted (os : Os) (started : os.Started) (H : Type) (enc : TypeId × Value → H) :
    ReturnsInHanded {} Try.checked os 5 .any (Rows.paceAllSpec.pre6 enc Try.prog Try.f5 Rows.paceAllRow.domain false) (Rows.paceAllSpec.post enc Try.prog Try.f5 false true false false) := by
  refine returnsInHanded_of_change own started (by kernel_rfl) Try.func5
    (ChangeSpec.witness6 (enc := enc) (C := Try.checked) false ⟨#[], #[.int .i64 0, .int .i64 0, .int .i64 0, .slice none 0 0], []⟩ 8 (by kernel_rfl) (by kernel_rfl) (by kernel_rfl) (by kernel_rfl)) ?_
  intro W base args ds gs before hval hW _ _
  exact PaceAll_contract H enc W base args ds gs before hval hW

theorem PaceAll_proved : Rows.PaceAllSaid :=
  OpenClaim.holds_of_wide 5 Try.f5 rfl rfl rfl rfl rfl rfl rfl ⟨rfl, rfl, rfl, rfl, rfl⟩ rfl rfl rfl rfl rfl (by kernel_rfl) Try.func5 (by kernel_rfl)
    (of_decide_eq_true (by kernel_rfl)) (by unfold Func.isWrapper; first | (rw [if_pos (by decide +kernel)]; kernel_rfl) | (rw [if_neg (by decide +kernel)]; exact ⟨rfl, rfl⟩))
    (fun os started H enc _ => PaceAll_lifted os started H enc)
end Go.Proofs.Ytfoooabhfecjhaa
