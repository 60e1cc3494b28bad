/-
  The law HeavyJoined holds of every input, up to the bulk that the statement names.
-/
import Derived.Test.YtabcjhpgamhpoaaLaws4
import Derived.Test.YtabcjhpgamhpoaaBase
namespace Go.Proofs.Ytabcjhpgamhpoaa
open Go Go.Am

theorem HeavyJoined_fits : ∀ H vals, ArgsOk 1048576 H HeavyJoinedSh vals → ACallK Try.prog 4 vals H fun v _ => v = .bool true := HeavyJoined_args
theorem HeavyJoined_contract (H : Type) (enc : TypeId × Value → H) (W : World) (base : Nat) (args : Array Value) (ds gs : List (DataW H)) (before : List MemPlace)
    (hval : ∀ (j : Nat) t v, Try.f4.params[j]? = some t → args[j]? = some v → Value.okWide Try.prog W .any base t v)
    (hW : DataW.Whole enc Try.prog Try.f4.params.toList Rows.heavyJoinedSpec.vars false W args.toList ds gs before) (hk : Rows.uptoSmall H (ds ++ gs) = true) :
    Calls Try.prog 4 args W fun e W' => ∃ v, e = .returned v ∧ Rows.heavyJoinedSpec.post enc Try.prog Try.f4 false true false false W args v W' :=
  law_contract laid Try.underlying4 (by kernel_rfl) rfl (by kernel_rfl) HeavyJoinedSh (by kernel_rfl) HeavyJoined_fits (fun _ ds h => match ds, h with | [_, _, _, _], _ => rfl) hval hW (small hk)

set_option maxRecDepth 100000 in
theorem HeavyJoined_lifted (os : Os) (started : os.Started) (H : Type) (enc : TypeId × Value → H) (F : Stop.Interp) :
    ReturnsInHanded {} Try.checked os 4 .any ((Rows.OpenSpec.upto Rows.heavyJoinedSpec).pre6 enc Try.prog Try.f4 Rows.heavyJoinedUptoRow.domain false) (((Rows.OpenSpec.upto Rows.heavyJoinedSpec).at F).post enc Try.prog Try.f4 false true false false) := by
  refine returnsInHanded_of_cond (C := Try.checked) (s := Rows.OpenSpec.upto Rows.heavyJoinedSpec) (k := Rows.uptoSmall) rfl own started (by kernel_rfl) Try.func4
    (OpenSpec.witness (enc := enc) (C := Try.checked) (s := Rows.OpenSpec.upto Rows.heavyJoinedSpec) (k := Rows.uptoSmall) rfl false ⟨#[], #[.int .i64 0, .slice none 0 0, .slice none 0 0, .int .i64 0], []⟩ 8 (by kernel_rfl) (by kernel_rfl) (by kernel_rfl)
      (x := ([.lit (.int .i64 0), .nil, .nil, .lit (.int .i64 0)], [], [])) (by kernel_rfl) rfl (by kernel_rfl)) ?_
  intro W base args ds gs before hval hW _ hk _
  exact HeavyJoined_contract H enc W base args ds gs before hval hW hk

theorem HeavyJoined_proved : Rows.HeavyJoinedUptoSaid :=
  OpenClaim.holds_of_cond 4 Try.f4 rfl rfl rfl rfl rfl rfl rfl ⟨rfl, rfl, rfl, rfl, rfl⟩ rfl rfl rfl rfl rfl (by kernel_rfl) Try.func4 (by kernel_rfl)
    (of_decide_eq_true (by kernel_rfl)) (by unfold Func.isWrapper; first | (rw [if_pos (by decide +kernel)]; kernel_rfl) | (rw [if_neg (by decide +kernel)]; exact ⟨rfl, rfl⟩))
    (fun os started H enc _ F => HeavyJoined_lifted os started H enc F)
end Go.Proofs.Ytabcjhpgamhpoaa
