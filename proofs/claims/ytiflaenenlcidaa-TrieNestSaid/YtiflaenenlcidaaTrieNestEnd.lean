/-
  The law TrieNest holds of every input.
-/
import Derived.Test.YtiflaenenlcidaaLaws
import Derived.Test.YtiflaenenlcidaaBase
namespace Go.Proofs.Ytiflaenenlcidaa
open Go Go.Am

theorem TrieNest_fits : ∀ H vals, ArgsOk maxLen H TrieNestSh vals → ACallK Try.prog 4 vals H fun v _ => v = .bool true := TrieNest_args
theorem TrieNest_contract (H : Type) (enc : TypeId × Value → H) (W : World) (base : Nat) (args : Array Value) (ds gs : List (DataW H)) (before : List MemPlace)
    (hval : ∀ (j : Nat) t v, Try.f4.params[j]? = some t → args[j]? = some v → Value.okWide Try.prog W .any base t v)
    (hW : DataW.Whole enc Try.prog Try.f4.params.toList Rows.trieNestSpec.vars false W args.toList ds gs before) :
    Calls Try.prog 4 args W fun e W' => ∃ v, e = .returned v ∧ Rows.trieNestSpec.post enc Try.prog Try.f4 false true false false W args v W' :=
  law_contract laid Try.underlying4 (by kernel_rfl) rfl (by kernel_rfl) TrieNestSh (by kernel_rfl) TrieNest_fits (fun _ ds h => match ds, h with | [_, _, _], _ => rfl) hval hW great

set_option maxRecDepth 100000 in
theorem TrieNest_lifted (os : Os) (started : os.Started) (H : Type) (enc : TypeId × Value → H) :
    ReturnsInHanded {} Try.checked os 4 .any (Rows.trieNestSpec.pre6 enc Try.prog Try.f4 Rows.trieNestRow.domain false) (Rows.trieNestSpec.post enc Try.prog Try.f4 false true false false) := by
  refine returnsInHanded_of_change own started (by kernel_rfl) Try.func4
    (ChangeSpec.witness6 (enc := enc) (C := Try.checked) false ⟨#[], #[.agg #[.int .u8 0, .int .u8 0, .int .u8 0, .int .u8 0, .int .i64 0, .int .i64 0], .agg #[.int .u8 0, .int .u8 0, .int .u8 0, .int .u8 0, .int .i64 0, .int .i64 0], .agg #[.int .u8 0, .int .u8 0, .int .u8 0, .int .u8 0]], []⟩ 8 (by kernel_rfl) (by kernel_rfl) (by kernel_rfl) (by kernel_rfl)) ?_
  intro W base args ds gs before hval hW _ _
  exact TrieNest_contract H enc W base args ds gs before hval hW

theorem TrieNest_proved : Rows.TrieNestSaid :=
  OpenClaim.holds_of_wide 4 Try.f4 rfl rfl rfl rfl rfl rfl rfl ⟨rfl, rfl, rfl, rfl, rfl⟩ rfl rfl rfl rfl rfl (by kernel_rfl) Try.func4 (by kernel_rfl)
    (of_decide_eq_true (by kernel_rfl)) (by unfold Func.isWrapper; first | (rw [if_pos (by decide +kernel)]; kernel_rfl) | (rw [if_neg (by decide +kernel)]; exact ⟨rfl, rfl⟩))
    (fun os started H enc _ => TrieNest_lifted os started H enc)
end Go.Proofs.Ytiflaenenlcidaa
