/-
  The law TopFluid holds of every input; the listed package variables hold what the program's text lays.
-/
import Derived.Test.YtmbcgelfnbnicaaDoorFluidLaw
import Derived.Test.YtmbcgelfnbnicaaDoorGlob
namespace Go.Proofs.YtmbcgelfnbnicaaDoor
open Go Go.Am

theorem TopFluid_fits : ∀ H vals, ArgsOk maxLen H TopFluidSh vals → ACallK Tryd.prog 5 vals H fun v _ => v = .bool true := TopFluid_args
set_option maxRecDepth 100000 in
theorem TopFluid_contract (H : Type) (enc : TypeId × Value → H) (W : World) (base : Nat) (args : Array Value) (ds gs : List (DataW H)) (before : List MemPlace)
    (hval : ∀ (j : Nat) t v, Tryd.f5.params[j]? = some t → args[j]? = some v → Value.okWide Tryd.prog W .any base t v)
    (hW : DataW.Whole enc Tryd.prog Tryd.f5.params.toList Rows.topFluidSpec.vars false W args.toList ds gs before) (hL : laidMetH Tryd.prog Rows.topFluidRow.laid W) (hsh : W.ShapedOpen Tryd.prog) :
    Calls Tryd.prog 5 args W fun e W' => ∃ v, e = .returned v ∧ Rows.topFluidSpec.post enc Tryd.prog Tryd.f5 false true false false W args v W' :=
  law_contract laid Tryd.underlying4 (by kernel_rfl) rfl (by kernel_rfl) TopFluidSh (by kernel_rfl) TopFluid_fits (fun _ ds h => match ds, h with | [_, _], _ => rfl) (gl_of hL (by kernel_rfl) (by kernel_rfl) (by kernel_rfl) hsh) hval hW great
set_option maxRecDepth 100000 in
theorem TopFluid_met (os : Os) : laidMet Tryd.prog Rows.topFluidRow.laid ((laidWorld os).forCall (fun _ _ => 0) ⟨#[], #[.slice none 0 0, .slice none 0 0], []⟩).memory :=
  laidMet_of_run' 8 (by kernel_rfl) (by kernel_rfl)
theorem TopFluid_reads (os : Os) {H : Type} (enc : TypeId × Value → H) : ∃ places, DataW.whole enc Tryd.prog ((laidWorld os).forCall (fun _ _ => 0) ⟨#[], #[.slice none 0 0, .slice none 0 0], []⟩).memory Tryd.f5.params.toList Rows.topFluidSpec.vars false (#[.slice none 0 0, .slice none 0 0] : Array Value).toList 8 = some ([.nil, .nil], [], places) :=
  ⟨[], by kernel_rfl⟩
set_option maxRecDepth 100000 in
theorem TopFluid_lifted (os : Os) (started : os.Started) (H : Type) (enc : TypeId × Value → H) (F : Stop.Interp) :
    ReturnsInHanded {} Tryd.checked os 5 .any ((OpenSpec.ofChange Rows.topFluidSpec).preRow enc Tryd.prog Tryd.f5 Rows.topFluidRow.domain false Rows.topFluidRow.laid) (((OpenSpec.ofChange Rows.topFluidSpec).at F).post enc Tryd.prog Tryd.f5 false true false false) := by
  obtain ⟨places, hx⟩ := TopFluid_reads os enc
  refine returnsInHanded_of_row (C := Tryd.checked) (s := (OpenSpec.ofChange Rows.topFluidSpec)) own started (by kernel_rfl) Tryd.func5
    (witness_row_at (enc := enc) (C := Tryd.checked) false (laidWorld os) #[.slice none 0 0, .slice none 0 0] rfl (by kernel_rfl) (by kernel_rfl) (by kernel_rfl)
      (OpenSpec.preRow_of_cond 8 hx (by kernel_rfl) (fun k hk => by cases hk) (by kernel_rfl) (TopFluid_met os))) ?_
  intro W base args ds gs before hval hW _ hk _ hL hsh _
  exact TopFluid_contract H enc W base args ds gs before hval hW hL hsh
theorem TopFluid_said : Rows.TopFluidSaid :=
  OpenClaim.holds_of_cond 5 Tryd.f5 rfl rfl rfl rfl rfl rfl rfl ⟨rfl, rfl, rfl, rfl, rfl⟩ rfl rfl rfl rfl rfl (by kernel_rfl) Tryd.func5 (by kernel_rfl)
    (of_decide_eq_true (by kernel_rfl)) (by unfold Func.isWrapper; first | (rw [if_pos (by decide +kernel)]; kernel_rfl) | (rw [if_neg (by decide +kernel)]; exact ⟨rfl, rfl⟩))
    (fun os started H enc _ F => by rw [OpenClaim.pre_eq_preRow]; exact TopFluid_lifted os started H enc F)
theorem TopFluid_plain (f : FuncId) (fn : Func) (hf : Tryd.pinned.checked.prog.funcNamed "weirhouse/weirhousetop.TopFluid" = some f) (hfn : Tryd.pinned.checked.prog.funcs[f]? = some fn) :
    true = Tryd.pinned.checked.prog.looks [] ∧ ∀ (j : Nat) t, fn.params[j]? = some t → Tryd.pinned.checked.prog.wantsStandIn t = false := by
  obtain rfl : f = 5 := Option.some.inj ((show Tryd.prog.funcNamed "weirhouse/weirhousetop.TopFluid" = some 5 by kernel_rfl).symm.trans hf) |>.symm
  obtain rfl : fn = Tryd.f5 := (Option.some.inj (Tryd.func5.symm.trans hfn)).symm
  refine ⟨by kernel_rfl, fun j t ht => ?_⟩
  rw [Tryd.params5] at ht
  have hm := Array.mem_of_getElem? ht
  have h := List.all_eq_true.1 (show ([24, 24] : List Nat).all (fun t => !Tryd.prog.wantsStandIn t) = true by kernel_rfl) t (by simpa using hm)
  exact (by simpa using h : Tryd.prog.wantsStandIn t = false)
theorem TopFluid_proved : Rows.TopFluidCardSaid :=
  Claim7.holds_tied_plain_at .later [] _ _ _ _ TopFluid_said (fun _ h => by cases h) (by kernel_rfl) (fun _ h => by cases h) topFluid_row_tie rfl ⟨rfl, rfl⟩ (by kernel_rfl) rfl TopFluid_plain (by kernel_rfl)
end Go.Proofs.YtmbcgelfnbnicaaDoor
