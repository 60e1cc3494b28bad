/-
  The law TrieAll holds of every input, up to the bulk that the statement names.
-/
import Derived.Test.YtiflaenenlcidaaLaws3
import Derived.Test.YtiflaenenlcidaaBase
namespace Go.Proofs.Ytiflaenenlcidaa
open Go Go.Am

theorem TrieAll_fits : ∀ H vals, ArgsOk 1048576 H TrieAllSh vals → ACallK Try.prog 3 vals H fun v _ => v = .bool true := TrieAll_args
theorem TrieAll_contract (H : Type) (enc : TypeId × Value → H) (W : World) (base : Nat) (args : Array Value) (ds gs : List (DataW H)) (before : List MemPlace)
    (hval : ∀ (j : Nat) t v, Try.f3.params[j]? = some t → args[j]? = some v → Value.okWide Try.prog W .any base t v)
    (hW : DataW.Whole enc Try.prog Try.f3.params.toList Rows.trieAllSpec.vars false W args.toList ds gs before) (hk : Rows.uptoSmall H (ds ++ gs) = true) :
    Calls Try.prog 3 args W fun e W' => ∃ v, e = .returned v ∧ Rows.trieAllSpec.post enc Try.prog Try.f3 false true false false W args v W' :=
  law_contract laid Try.underlying4 (by kernel_rfl) rfl (by kernel_rfl) TrieAllSh (by kernel_rfl) TrieAll_fits (fun _ ds h => match ds, h with | [_, _, _], _ => rfl) hval hW (small hk)

set_option maxRecDepth 100000 in
theorem TrieAll_lifted (os : Os) (started : os.Started) (H : Type) (enc : TypeId × Value → H) (F : Stop.Interp) :
    ReturnsInHanded {} Try.checked os 3 .any ((Rows.OpenSpec.upto Rows.trieAllSpec).pre6 enc Try.prog Try.f3 Rows.trieAllUptoRow.domain false) (((Rows.OpenSpec.upto Rows.trieAllSpec).at F).post enc Try.prog Try.f3 false true false false) := by
  refine returnsInHanded_of_cond (C := Try.checked) (s := Rows.OpenSpec.upto Rows.trieAllSpec) (k := Rows.uptoSmall) rfl own started (by kernel_rfl) Try.func3
    (OpenSpec.witness (enc := enc) (C := Try.checked) (s := Rows.OpenSpec.upto Rows.trieAllSpec) (k := Rows.uptoSmall) rfl false ⟨#[], #[.slice none 0 0, .slice none 0 0, .int .i64 0], []⟩ 8 (by kernel_rfl) (by kernel_rfl) (by kernel_rfl)
      (x := ([.nil, .nil, .lit (.int .i64 0)], [], [])) (by kernel_rfl) rfl (by kernel_rfl)) ?_
  intro W base args ds gs before hval hW _ hk _
  exact TrieAll_contract H enc W base args ds gs before hval hW hk

theorem TrieAll_proved : Rows.TrieAllUptoSaid :=
  OpenClaim.holds_of_cond 3 Try.f3 rfl rfl rfl rfl rfl rfl rfl ⟨rfl, rfl, rfl, rfl, rfl⟩ rfl rfl rfl rfl rfl (by kernel_rfl) Try.func3 (by kernel_rfl)
    (of_decide_eq_true (by kernel_rfl)) (by unfold Func.isWrapper; first | (rw [if_pos (by decide +kernel)]; kernel_rfl) | (rw [if_neg (by decide +kernel)]; exact ⟨rfl, rfl⟩))
    (fun os started H enc _ F => TrieAll_lifted os started H enc F)
end Go.Proofs.Ytiflaenenlcidaa
