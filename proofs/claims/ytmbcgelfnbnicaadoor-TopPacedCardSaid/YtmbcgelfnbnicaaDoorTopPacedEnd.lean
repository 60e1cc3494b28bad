/-
  The law TopPaced holds of every input; the listed package variables hold what the program's text lays.
-/
import Derived.Test.YtmbcgelfnbnicaaDoorPacedLaw
import Derived.Test.YtmbcgelfnbnicaaDoorGlob
namespace Go.Proofs.YtmbcgelfnbnicaaDoor
open Go Go.Am

theorem TopPaced_fits : ∀ H vals, ArgsOk maxLen H TopPacedSh vals → ACallK Tryd.prog 3 vals H fun v _ => v = .bool true := TopPaced_args
set_option maxRecDepth 100000 in
theorem TopPaced_contract (H : Type) (enc : TypeId × Value → H) (W : World) (base : Nat) (args : Array Value) (ds gs : List (DataW H)) (before : List MemPlace)
    (hval : ∀ (j : Nat) t v, Tryd.f3.params[j]? = some t → args[j]? = some v → Value.okWide Tryd.prog W .any base t v)
    (hW : DataW.Whole enc Tryd.prog Tryd.f3.params.toList Rows.topPacedSpec.vars false W args.toList ds gs before) (hL : laidMetH Tryd.prog Rows.topPacedRow.laid W) (hsh : W.ShapedOpen Tryd.prog) :
    Calls Tryd.prog 3 args W fun e W' => ∃ v, e = .returned v ∧ Rows.topPacedSpec.post enc Tryd.prog Tryd.f3 false true false false W args v W' :=
  law_contract laid Tryd.underlying4 (by kernel_rfl) rfl (by kernel_rfl) TopPacedSh (by kernel_rfl) TopPaced_fits (fun _ ds h => match ds, h with | [_, _, _], _ => rfl) (gl_of hL (by kernel_rfl) (by kernel_rfl) (by kernel_rfl) hsh) hval hW great
set_option maxRecDepth 100000 in
theorem TopPaced_met (os : Os) : laidMet Tryd.prog Rows.topPacedRow.laid ((laidWorld os).forCall (fun _ _ => 0) ⟨#[], #[.int .i64 0, .int .i64 0, .slice none 0 0], []⟩).memory :=
  laidMet_of_run' 8 (by kernel_rfl) (by kernel_rfl)
theorem TopPaced_reads (os : Os) {H : Type} (enc : TypeId × Value → H) : ∃ places, DataW.whole enc Tryd.prog ((laidWorld os).forCall (fun _ _ => 0) ⟨#[], #[.int .i64 0, .int .i64 0, .slice none 0 0], []⟩).memory Tryd.f3.params.toList Rows.topPacedSpec.vars false (#[.int .i64 0, .int .i64 0, .slice none 0 0] : Array Value).toList 8 = some ([.lit (.int .i64 0), .lit (.int .i64 0), .nil], [], places) :=
  ⟨[], by kernel_rfl⟩
set_option maxRecDepth 100000 in
theorem TopPaced_lifted (os : Os) (started : os.Started) (H : Type) (enc : TypeId × Value → H) (F : Stop.Interp) :
    ReturnsInHanded {} Tryd.checked os 3 .any ((OpenSpec.ofChange Rows.topPacedSpec).preRow enc Tryd.prog Tryd.f3 Rows.topPacedRow.domain false Rows.topPacedRow.laid) (((OpenSpec.ofChange Rows.topPacedSpec).at F).post enc Tryd.prog Tryd.f3 false true false false) := by
  obtain ⟨places, hx⟩ := TopPaced_reads os enc
  refine returnsInHanded_of_row (C := Tryd.checked) (s := (OpenSpec.ofChange Rows.topPacedSpec)) own started (by kernel_rfl) Tryd.func3
    (witness_row_at (enc := enc) (C := Tryd.checked) false (laidWorld os) #[.int .i64 0, .int .i64 0, .slice none 0 0] rfl (by kernel_rfl) (by kernel_rfl) (by kernel_rfl)
      (OpenSpec.preRow_of_cond 8 hx (by kernel_rfl) (fun k hk => by cases hk) (by kernel_rfl) (TopPaced_met os))) ?_
  intro W base args ds gs before hval hW _ hk _ hL hsh _
  exact TopPaced_contract H enc W base args ds gs before hval hW hL hsh
theorem TopPaced_said : Rows.TopPacedSaid :=
  OpenClaim.holds_of_cond 3 Tryd.f3 rfl rfl rfl rfl rfl rfl rfl ⟨rfl, rfl, rfl, rfl, rfl⟩ rfl rfl rfl rfl rfl (by kernel_rfl) Tryd.func3 (by kernel_rfl)
    (of_decide_eq_true (by kernel_rfl)) (by unfold Func.isWrapper; first | (rw [if_pos (by decide +kernel)]; kernel_rfl) | (rw [if_neg (by decide +kernel)]; exact ⟨rfl, rfl⟩))
    (fun os started H enc _ F => by rw [OpenClaim.pre_eq_preRow]; exact TopPaced_lifted os started H enc F)
theorem TopPaced_plain (f : FuncId) (fn : Func) (hf : Tryd.pinned.checked.prog.funcNamed "weirhouse/weirhousetop.TopPaced" = some f) (hfn : Tryd.pinned.checked.prog.funcs[f]? = some fn) :
    true = Tryd.pinned.checked.prog.looks [] ∧ ∀ (j : Nat) t, fn.params[j]? = some t → Tryd.pinned.checked.prog.wantsStandIn t = false := by
  obtain rfl : f = 3 := Option.some.inj ((show Tryd.prog.funcNamed "weirhouse/weirhousetop.TopPaced" = some 3 by kernel_rfl).symm.trans hf) |>.symm
  obtain rfl : fn = Tryd.f3 := (Option.some.inj (Tryd.func3.symm.trans hfn)).symm
  refine ⟨by kernel_rfl, fun j t ht => ?_⟩
  rw [Tryd.params3] at ht
  have hm := Array.mem_of_getElem? ht
  have h := List.all_eq_true.1 (show ([3, 3, 22] : List Nat).all (fun t => !Tryd.prog.wantsStandIn t) = true by kernel_rfl) t (by simpa using hm)
  exact (by simpa using h : Tryd.prog.wantsStandIn t = false)
theorem TopPaced_proved : Rows.TopPacedCardSaid :=
  Claim7.holds_tied_plain_at .later [] _ _ _ _ TopPaced_said (fun _ h => by cases h) (by kernel_rfl) (fun _ h => by cases h) topPaced_row_tie rfl ⟨rfl, rfl⟩ (by kernel_rfl) rfl TopPaced_plain (by kernel_rfl)
end Go.Proofs.YtmbcgelfnbnicaaDoor
