/-
  The law TopClass holds of every input; the listed package variables hold what the program's text lays.
-/
import Derived.Test.YtcocblbfgjjlbaaGreatDoorClassLaw
import Derived.Test.YtcocblbfgjjlbaaGreatDoorGlob
namespace Go.Proofs.YtcocblbfgjjlbaaGreatDoor
open Go Go.Am

theorem TopClass_fits : ∀ H vals, ArgsOk maxLen H TopClassSh vals → ACallK Tryz.prog 3 vals H fun v _ => v = .bool true := TopClass_args
set_option maxRecDepth 100000 in
theorem TopClass_contract (H : Type) (enc : TypeId × Value → H) (W : World) (base : Nat) (args : Array Value) (ds gs : List (DataW H)) (before : List MemPlace)
    (hval : ∀ (j : Nat) t v, Tryz.f3.params[j]? = some t → args[j]? = some v → Value.okWide Tryz.prog W .any base t v)
    (hW : DataW.Whole enc Tryz.prog Tryz.f3.params.toList Rows.topClassSpec.vars false W args.toList ds gs before) (hL : laidMetH Tryz.prog Rows.topClassRow.laid W) (hsh : W.ShapedOpen Tryz.prog) :
    Calls Tryz.prog 3 args W fun e W' => ∃ v, e = .returned v ∧ Rows.topClassSpec.post enc Tryz.prog Tryz.f3 false true false false W args v W' :=
  law_contract laid Tryz.underlying4 (by kernel_rfl) rfl (by kernel_rfl) TopClassSh (by kernel_rfl) TopClass_fits (fun _ ds h => match ds, h with | [_, _], _ => rfl) (gl_of hL (by kernel_rfl) (by kernel_rfl) (by kernel_rfl) hsh) hval hW great
set_option maxRecDepth 100000 in
theorem TopClass_met (os : Os) : laidMet Tryz.prog Rows.topClassRow.laid ((laidWorld os).forCall (fun _ _ => 0) ⟨#[], #[.agg #[.int .u8 0, .int .u8 0, .int .u8 0, .int .u8 0, .int .u8 0, .int .u8 0, .int .u8 0, .int .u8 0, .int .i64 0, .int .i64 0, .int .i64 0, .int .i64 0, .int .i64 0], .slice none 0 0], []⟩).memory :=
  laidMet_of_run' 8 (by kernel_rfl) (by kernel_rfl)
theorem TopClass_reads (os : Os) {H : Type} (enc : TypeId × Value → H) : ∃ places, DataW.whole enc Tryz.prog ((laidWorld os).forCall (fun _ _ => 0) ⟨#[], #[.agg #[.int .u8 0, .int .u8 0, .int .u8 0, .int .u8 0, .int .u8 0, .int .u8 0, .int .u8 0, .int .u8 0, .int .i64 0, .int .i64 0, .int .i64 0, .int .i64 0, .int .i64 0], .slice none 0 0], []⟩).memory Tryz.f3.params.toList Rows.topClassSpec.vars false (#[.agg #[.int .u8 0, .int .u8 0, .int .u8 0, .int .u8 0, .int .u8 0, .int .u8 0, .int .u8 0, .int .u8 0, .int .i64 0, .int .i64 0, .int .i64 0, .int .i64 0, .int .i64 0], .slice none 0 0] : Array Value).toList 8 = some ([.agg [.agg [.lit (.int .u8 0), .lit (.int .u8 0), .lit (.int .u8 0), .lit (.int .u8 0)], .agg [.lit (.int .u8 0), .lit (.int .u8 0), .lit (.int .u8 0), .lit (.int .u8 0)], .lit (.int .i64 0), .lit (.int .i64 0), .lit (.int .i64 0), .lit (.int .i64 0), .lit (.int .i64 0)], .nil], [], places) :=
  ⟨[], by kernel_rfl⟩
set_option maxRecDepth 100000 in
theorem TopClass_lifted (os : Os) (started : os.Started) (H : Type) (enc : TypeId × Value → H) (F : Stop.Interp) :
    ReturnsInHanded {} Tryz.checked os 3 .any ((OpenSpec.ofChange Rows.topClassSpec).preRow enc Tryz.prog Tryz.f3 Rows.topClassRow.domain false Rows.topClassRow.laid) (((OpenSpec.ofChange Rows.topClassSpec).at F).post enc Tryz.prog Tryz.f3 false true false false) := by
  obtain ⟨places, hx⟩ := TopClass_reads os enc
  refine returnsInHanded_of_row (C := Tryz.checked) (s := (OpenSpec.ofChange Rows.topClassSpec)) own started (by kernel_rfl) Tryz.func3
    (witness_row_at (enc := enc) (C := Tryz.checked) false (laidWorld os) #[.agg #[.int .u8 0, .int .u8 0, .int .u8 0, .int .u8 0, .int .u8 0, .int .u8 0, .int .u8 0, .int .u8 0, .int .i64 0, .int .i64 0, .int .i64 0, .int .i64 0, .int .i64 0], .slice none 0 0] rfl (by kernel_rfl) (by kernel_rfl) (by kernel_rfl)
      (OpenSpec.preRow_of_cond 8 hx (by kernel_rfl) (fun k hk => by cases hk) (by kernel_rfl) (TopClass_met os))) ?_
  intro W base args ds gs before hval hW _ hk _ hL hsh _
  exact TopClass_contract H enc W base args ds gs before hval hW hL hsh
theorem TopClass_said : Rows.TopClassSaid :=
  OpenClaim.holds_of_cond 3 Tryz.f3 rfl rfl rfl rfl rfl rfl rfl ⟨rfl, rfl, rfl, rfl, rfl⟩ rfl rfl rfl rfl rfl (by kernel_rfl) Tryz.func3 (by kernel_rfl)
    (of_decide_eq_true (by kernel_rfl)) (by unfold Func.isWrapper; first | (rw [if_pos (by decide +kernel)]; kernel_rfl) | (rw [if_neg (by decide +kernel)]; exact ⟨rfl, rfl⟩))
    (fun os started H enc _ F => by rw [OpenClaim.pre_eq_preRow]; exact TopClass_lifted os started H enc F)
theorem TopClass_plain (f : FuncId) (fn : Func) (hf : Tryz.pinned.checked.prog.funcNamed "weirhouse/weirhousetop.TopClass" = some f) (hfn : Tryz.pinned.checked.prog.funcs[f]? = some fn) :
    true = Tryz.pinned.checked.prog.looks [] ∧ ∀ (j : Nat) t, fn.params[j]? = some t → Tryz.pinned.checked.prog.wantsStandIn t = false := by
  obtain rfl : f = 3 := Option.some.inj ((show Tryz.prog.funcNamed "weirhouse/weirhousetop.TopClass" = some 3 by kernel_rfl).symm.trans hf) |>.symm
  obtain rfl : fn = Tryz.f3 := (Option.some.inj (Tryz.func3.symm.trans hfn)).symm
  refine ⟨by kernel_rfl, fun j t ht => ?_⟩
  rw [Tryz.params3] at ht
  have hm := Array.mem_of_getElem? ht
  have h := List.all_eq_true.1 (show ([24, 25] : List Nat).all (fun t => !Tryz.prog.wantsStandIn t) = true by kernel_rfl) t (by simpa using hm)
  exact (by simpa using h : Tryz.prog.wantsStandIn t = false)
theorem TopClass_proved : Rows.TopClassCardSaid :=
  Claim7.holds_tied_plain_at .later [] _ _ _ _ TopClass_said (fun _ h => by cases h) (by kernel_rfl) (fun _ h => by cases h) topClass_row_tie rfl ⟨rfl, rfl⟩ (by kernel_rfl) rfl TopClass_plain (by kernel_rfl)
end Go.Proofs.YtcocblbfgjjlbaaGreatDoor
