/-
  The law PaceOrder holds of every input, up to the bulk that the statement names.
-/
import Derived.Test.YtfoooabhfecjhaaLaws5
import Derived.Test.YtfoooabhfecjhaaBase
namespace Go.Proofs.Ytfoooabhfecjhaa
open Go Go.Am

theorem PaceOrder_fits : ∀ H vals, ArgsOk 1048576 H PaceOrderSh vals → ACallK Try.prog 7 vals H fun v _ => v = .bool true := PaceOrder_args
theorem PaceOrder_contract (H : Type) (enc : TypeId × Value → H) (W : World) (base : Nat) (args : Array Value) (ds gs : List (DataW H)) (before : List MemPlace)
    (hval : ∀ (j : Nat) t v, Try.f7.params[j]? = some t → args[j]? = some v → Value.okWide Try.prog W .any base t v)
    (hW : DataW.Whole enc Try.prog Try.f7.params.toList Rows.paceOrderSpec.vars false W args.toList ds gs before) (hk : Rows.uptoSmall H (ds ++ gs) = true) :
    Calls Try.prog 7 args W fun e W' => ∃ v, e = .returned v ∧ Rows.paceOrderSpec.post enc Try.prog Try.f7 false true false false W args v W' :=
  law_contract laid Try.underlying4 (by kernel_rfl) rfl (by kernel_rfl) PaceOrderSh (by kernel_rfl) PaceOrder_fits (fun _ ds h => match ds, h with | [_, _, _, _], _ => rfl) hval hW (small hk)

set_option maxRecDepth 100000 in
theorem PaceOrder_lifted (os : Os) (started : os.Started) (H : Type) (enc : TypeId × Value → H) (F : Stop.Interp) :
    ReturnsInHanded {} Try.checked os 7 .any ((Rows.OpenSpec.upto Rows.paceOrderSpec).pre6 enc Try.prog Try.f7 Rows.paceOrderUptoRow.domain false) (((Rows.OpenSpec.upto Rows.paceOrderSpec).at F).post enc Try.prog Try.f7 false true false false) := by
  refine returnsInHanded_of_cond (C := Try.checked) (s := Rows.OpenSpec.upto Rows.paceOrderSpec) (k := Rows.uptoSmall) rfl own started (by kernel_rfl) Try.func7
    (OpenSpec.witness (enc := enc) (C := Try.checked) (s := Rows.OpenSpec.upto Rows.paceOrderSpec) (k := Rows.uptoSmall) rfl false ⟨#[], #[.int .i64 0, .int .i64 0, .int .i64 0, .slice none 0 0], []⟩ 8 (by kernel_rfl) (by kernel_rfl) (by kernel_rfl)
      (x := ([.lit (.int .i64 0), .lit (.int .i64 0), .lit (.int .i64 0), .nil], [], [])) (by kernel_rfl) rfl (by kernel_rfl)) ?_
  intro W base args ds gs before hval hW _ hk _
  exact PaceOrder_contract H enc W base args ds gs before hval hW hk

theorem PaceOrder_proved : Rows.PaceOrderUptoSaid :=
  OpenClaim.holds_of_cond 7 Try.f7 rfl rfl rfl rfl rfl rfl rfl ⟨rfl, rfl, rfl, rfl, rfl⟩ rfl rfl rfl rfl rfl (by kernel_rfl) Try.func7 (by kernel_rfl)
    (of_decide_eq_true (by kernel_rfl)) (by unfold Func.isWrapper; first | (rw [if_pos (by decide +kernel)]; kernel_rfl) | (rw [if_neg (by decide +kernel)]; exact ⟨rfl, rfl⟩))
    (fun os started H enc _ F => PaceOrder_lifted os started H enc F)
end Go.Proofs.Ytfoooabhfecjhaa
