/-
  The law HeapsSorted holds of every input, up to the bulk that the statement names.
-/
import Derived.Test.YtjdmpkaiijcchaaLaws4
import Derived.Test.YtjdmpkaiijcchaaBase
namespace Go.Proofs.Ytjdmpkaiijcchaa
open Go Go.Am

theorem HeapsSorted_fits : ∀ H vals, ArgsOk 1048576 H HeapsSortedSh vals → ACallK Try.prog 6 vals H fun v _ => v = .bool true := HeapsSorted_args
theorem HeapsSorted_contract (H : Type) (enc : TypeId × Value → H) (W : World) (base : Nat) (args : Array Value) (ds gs : List (DataW H)) (before : List MemPlace)
    (hval : ∀ (j : Nat) t v, Try.f6.params[j]? = some t → args[j]? = some v → Value.okWide Try.prog W .any base t v)
    (hW : DataW.Whole enc Try.prog Try.f6.params.toList Rows.heapsSortedSpec.vars false W args.toList ds gs before) (hk : Rows.uptoSmall H (ds ++ gs) = true) :
    Calls Try.prog 6 args W fun e W' => ∃ v, e = .returned v ∧ Rows.heapsSortedSpec.post enc Try.prog Try.f6 false true false false W args v W' :=
  law_contract laid Try.underlying4 (by kernel_rfl) rfl (by kernel_rfl) HeapsSortedSh (by kernel_rfl) HeapsSorted_fits (fun _ ds h => match ds, h with | [_], _ => rfl) hval hW (small hk)

set_option maxRecDepth 100000 in
theorem HeapsSorted_lifted (os : Os) (started : os.Started) (H : Type) (enc : TypeId × Value → H) (F : Stop.Interp) :
    ReturnsInHanded {} Try.checked os 6 .any ((Rows.OpenSpec.upto Rows.heapsSortedSpec).pre6 enc Try.prog Try.f6 Rows.heapsSortedUptoRow.domain false) (((Rows.OpenSpec.upto Rows.heapsSortedSpec).at F).post enc Try.prog Try.f6 false true false false) := by
  refine returnsInHanded_of_cond (C := Try.checked) (s := Rows.OpenSpec.upto Rows.heapsSortedSpec) (k := Rows.uptoSmall) rfl own started (by kernel_rfl) Try.func6
    (OpenSpec.witness (enc := enc) (C := Try.checked) (s := Rows.OpenSpec.upto Rows.heapsSortedSpec) (k := Rows.uptoSmall) rfl false ⟨#[], #[.slice none 0 0], []⟩ 8 (by kernel_rfl) (by kernel_rfl) (by kernel_rfl)
      (x := ([.nil], [], [])) (by kernel_rfl) rfl (by kernel_rfl)) ?_
  intro W base args ds gs before hval hW _ hk _
  exact HeapsSorted_contract H enc W base args ds gs before hval hW hk

theorem HeapsSorted_proved : Rows.HeapsSortedUptoSaid :=
  OpenClaim.holds_of_cond 6 Try.f6 rfl rfl rfl rfl rfl rfl rfl ⟨rfl, rfl, rfl, rfl, rfl⟩ rfl rfl rfl rfl rfl (by kernel_rfl) Try.func6 (by kernel_rfl)
    (of_decide_eq_true (by kernel_rfl)) (by unfold Func.isWrapper; first | (rw [if_pos (by decide +kernel)]; kernel_rfl) | (rw [if_neg (by decide +kernel)]; exact ⟨rfl, rfl⟩))
    (fun os started H enc _ F => HeapsSorted_lifted os started H enc F)
end Go.Proofs.Ytjdmpkaiijcchaa
