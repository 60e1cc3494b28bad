/-
  The law SumsCheck holds of every input, up to the bulk that the statement names.
-/
import Derived.Test.YtmfcccgfifaojaaCheckLaw
import Derived.Test.YtmfcccgfifaojaaBase
import Derived.Test.YtmfcccgfifaojaaAmX
namespace Go.Proofs.Ytmfcccgfifaojaa
open Go Go.Am

def SumsCheckSh : List (Bool × List CS) := [(false, [.slice [.int .u8]]), (false, [.int .i64]), (false, [.int .u8])]
theorem SumsCheck_args (H : Heap) (vals : List Value) (h : ArgsOk 1048576 H SumsCheckSh vals) : ACallK Try.prog 3 vals H fun v _ => v = .bool true := by
  obtain ⟨_, _, rfl, a1, h⟩ := h.cons
  obtain ⟨_, _, rfl, a2, h⟩ := h.cons
  obtain ⟨_, _, rfl, a3, h⟩ := h.cons
  obtain rfl := h.nil
  obtain ⟨k, n, zs, rfl, hn, hB, hk, hz⟩ := a1.cell.ints
  obtain ⟨at', rfl, h2⟩ := a2.cell.int_inv
  obtain ⟨turn, rfl, h3⟩ := a3.cell.int_inv
  have hl : (zs.take n).length = n := by simp; omega
  have := Check_law (zs.take n) k 0 0 zs.length at' turn H (fun x hx => hz x (List.mem_of_mem_take hx)) ⟨true, _, hk, by simp; omega, fun i hi => by
    rw [hl] at hi
    rw [Nat.zero_add, List.getElem?_map, List.getElem?_eq_getElem (by omega : i < zs.length)]
    simp [List.getD_eq_getElem?_getD, hi, List.getElem?_eq_getElem (by omega : i < zs.length)]⟩ (by omega) (by omega) h3 h2
  rw [hl] at this
  exact this.mono fun v _ h => h.1
theorem SumsCheck_contract (H : Type) (enc : TypeId × Value → H) (W : World) (base : Nat) (args : Array Value) (ds gs : List (DataW H)) (before : List MemPlace)
    (hval : ∀ (j : Nat) t v, Try.f3.params[j]? = some t → args[j]? = some v → Value.okWide Try.prog W .any base t v)
    (hW : DataW.Whole enc Try.prog Try.f3.params.toList Rows.sumsCheckSpec.vars false W args.toList ds gs before) (hk : Rows.uptoSmall H (ds ++ gs) = true) :
    Calls Try.prog 3 args W fun e W' => ∃ v, e = .returned v ∧ Rows.sumsCheckSpec.post enc Try.prog Try.f3 false true false false W args v W' :=
  law_contract laid Try.underlying4 (by kernel_rfl) rfl (by kernel_rfl) SumsCheckSh (by kernel_rfl) SumsCheck_args (fun _ ds h => match ds, h with | [_, _, _], _ => rfl) hval hW (small hk)

set_option maxRecDepth 100000 in
theorem SumsCheck_lifted (os : Os) (started : os.Started) (H : Type) (enc : TypeId × Value → H) (F : Stop.Interp) :
    ReturnsInHanded {} Try.checked os 3 .any ((Rows.OpenSpec.upto Rows.sumsCheckSpec).pre6 enc Try.prog Try.f3 Rows.sumsCheckUptoRow.domain false) (((Rows.OpenSpec.upto Rows.sumsCheckSpec).at F).post enc Try.prog Try.f3 false true false false) := by
  refine returnsInHanded_of_cond (C := Try.checked) (s := Rows.OpenSpec.upto Rows.sumsCheckSpec) (k := Rows.uptoSmall) rfl own started (by kernel_rfl) Try.func3
    (OpenSpec.witness (enc := enc) (C := Try.checked) (s := Rows.OpenSpec.upto Rows.sumsCheckSpec) (k := Rows.uptoSmall) rfl false ⟨#[], #[.slice none 0 0, .int .i64 0, .int .u8 0], []⟩ 8 (by kernel_rfl) (by kernel_rfl) (by kernel_rfl)
      (x := ([.nil, .lit (.int .i64 0), .lit (.int .u8 0)], [], [])) (by kernel_rfl) rfl (by kernel_rfl)) ?_
  intro W base args ds gs before hval hW _ hk _
  exact SumsCheck_contract H enc W base args ds gs before hval hW hk

theorem SumsCheck_proved : Rows.SumsCheckUptoSaid :=
  OpenClaim.holds_of_cond 3 Try.f3 rfl rfl rfl rfl rfl rfl rfl ⟨rfl, rfl, rfl, rfl, rfl⟩ rfl rfl rfl rfl rfl (by kernel_rfl) Try.func3 (by kernel_rfl)
    (of_decide_eq_true (by kernel_rfl)) (by unfold Func.isWrapper; first | (rw [if_pos (by decide +kernel)]; kernel_rfl) | (rw [if_neg (by decide +kernel)]; exact ⟨rfl, rfl⟩))
    (fun os started H enc _ F => SumsCheck_lifted os started H enc F)
end Go.Proofs.Ytmfcccgfifaojaa
