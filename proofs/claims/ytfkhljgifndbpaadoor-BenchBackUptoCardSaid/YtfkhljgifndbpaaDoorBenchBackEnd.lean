/-
  The law BenchBack holds of every input, up to the bulk that the statement names; the listed package variables hold what the program's text lays.
-/
import Derived.Test.YtfkhljgifndbpaaDoorBack
import Derived.Test.YtfkhljgifndbpaaDoorGlob
namespace Go.Proofs.YtfkhljgifndbpaaDoor
open Go Go.Am

theorem BenchBack_fits : ∀ H vals, ArgsOk 1048576 H BenchBackSh vals → ACallK Tryd.prog 4 vals H fun v _ => v = .bool true := BenchBack_args
set_option maxRecDepth 100000 in
theorem BenchBack_contract (H : Type) (enc : TypeId × Value → H) (W : World) (base : Nat) (args : Array Value) (ds gs : List (DataW H)) (before : List MemPlace)
    (hval : ∀ (j : Nat) t v, Tryd.f4.params[j]? = some t → args[j]? = some v → Value.okWide Tryd.prog W .any base t v)
    (hW : DataW.Whole enc Tryd.prog Tryd.f4.params.toList Rows.benchBackSpec.vars false W args.toList ds gs before) (hk : Rows.uptoSmall H (ds ++ gs) = true) (hL : laidMetH Tryd.prog Rows.benchBackUptoRow.laid W) (hsh : W.ShapedOpen Tryd.prog) :
    Calls Tryd.prog 4 args W fun e W' => ∃ v, e = .returned v ∧ Rows.benchBackSpec.post enc Tryd.prog Tryd.f4 false true false false W args v W' :=
  law_contract laid Tryd.underlying4 (by kernel_rfl) rfl (by kernel_rfl) BenchBackSh (by kernel_rfl) BenchBack_fits (fun _ ds h => match ds, h with | [_, _], _ => rfl) (gl_of hL (by kernel_rfl) (by kernel_rfl) (by kernel_rfl) hsh) hval hW (small hk)
set_option maxRecDepth 100000 in
theorem BenchBack_met (os : Os) : laidMet Tryd.prog Rows.benchBackUptoRow.laid ((laidWorld os).forCall (fun _ _ => 0) ⟨#[], #[.agg #[.int .i64 0, .int .i64 0, .int .i64 0, .slice none 0 0], .string .empty], []⟩).memory :=
  laidMet_of_run' 8 (by kernel_rfl) (by kernel_rfl)
theorem BenchBack_reads (os : Os) {H : Type} (enc : TypeId × Value → H) : ∃ places, DataW.whole enc Tryd.prog ((laidWorld os).forCall (fun _ _ => 0) ⟨#[], #[.agg #[.int .i64 0, .int .i64 0, .int .i64 0, .slice none 0 0], .string .empty], []⟩).memory Tryd.f4.params.toList Rows.benchBackSpec.vars false (#[.agg #[.int .i64 0, .int .i64 0, .int .i64 0, .slice none 0 0], .string .empty] : Array Value).toList 8 = some ([.agg [.lit (.int .i64 0), .lit (.int .i64 0), .lit (.int .i64 0), .nil], .lit (.string [])], [], places) :=
  ⟨[], by kernel_rfl⟩
set_option maxRecDepth 100000 in
theorem BenchBack_lifted (os : Os) (started : os.Started) (H : Type) (enc : TypeId × Value → H) (F : Stop.Interp) :
    ReturnsInHanded {} Tryd.checked os 4 .any ((Rows.OpenSpec.upto Rows.benchBackSpec).preRow enc Tryd.prog Tryd.f4 Rows.benchBackUptoRow.domain false Rows.benchBackUptoRow.laid) (((Rows.OpenSpec.upto Rows.benchBackSpec).at F).post enc Tryd.prog Tryd.f4 false true false false) := by
  obtain ⟨places, hx⟩ := BenchBack_reads os enc
  refine returnsInHanded_of_row (C := Tryd.checked) (s := (Rows.OpenSpec.upto Rows.benchBackSpec)) own started (by kernel_rfl) Tryd.func4
    (witness_row_at (enc := enc) (C := Tryd.checked) false (laidWorld os) #[.agg #[.int .i64 0, .int .i64 0, .int .i64 0, .slice none 0 0], .string .empty] rfl (by kernel_rfl) (by kernel_rfl) (by kernel_rfl)
      (OpenSpec.preRow_of_cond 8 hx (by kernel_rfl) (fun k hk => by cases hk; kernel_rfl) (by kernel_rfl) (BenchBack_met os))) ?_
  intro W base args ds gs before hval hW _ hk _ hL hsh _
  exact BenchBack_contract H enc W base args ds gs before hval hW (hk _ rfl) hL hsh
theorem BenchBack_said : Rows.BenchBackUptoSaid :=
  OpenClaim.holds_of_cond 4 Tryd.f4 rfl rfl rfl rfl rfl rfl rfl ⟨rfl, rfl, rfl, rfl, rfl⟩ rfl rfl rfl rfl rfl (by kernel_rfl) Tryd.func4 (by kernel_rfl)
    (of_decide_eq_true (by kernel_rfl)) (by unfold Func.isWrapper; first | (rw [if_pos (by decide +kernel)]; kernel_rfl) | (rw [if_neg (by decide +kernel)]; exact ⟨rfl, rfl⟩))
    (fun os started H enc _ F => by rw [OpenClaim.pre_eq_preRow]; exact BenchBack_lifted os started H enc F)
theorem BenchBack_plain (f : FuncId) (fn : Func) (hf : Tryd.pinned.checked.prog.funcNamed "weirhouse/weirhousekeep.BenchBack" = some f) (hfn : Tryd.pinned.checked.prog.funcs[f]? = some fn) :
    true = Tryd.pinned.checked.prog.looks [] ∧ ∀ (j : Nat) t, fn.params[j]? = some t → Tryd.pinned.checked.prog.wantsStandIn t = false := by
  obtain rfl : f = 4 := Option.some.inj ((show Tryd.prog.funcNamed "weirhouse/weirhousekeep.BenchBack" = some 4 by kernel_rfl).symm.trans hf) |>.symm
  obtain rfl : fn = Tryd.f4 := (Option.some.inj (Tryd.func4.symm.trans hfn)).symm
  refine ⟨by kernel_rfl, fun j t ht => ?_⟩
  rw [Tryd.params4] at ht
  have hm := Array.mem_of_getElem? ht
  have h := List.all_eq_true.1 (show ([32, 9] : List Nat).all (fun t => !Tryd.prog.wantsStandIn t) = true by kernel_rfl) t (by simpa using hm)
  exact (by simpa using h : Tryd.prog.wantsStandIn t = false)
theorem BenchBack_proved : Rows.BenchBackUptoCardSaid :=
  Claim7.holds_tied_plain_at .later [] _ _ _ _ BenchBack_said (fun _ h => by cases h) (by kernel_rfl) (fun _ h => by cases h) benchBackUpto_row_tie rfl ⟨rfl, rfl⟩ (by kernel_rfl) rfl BenchBack_plain (by kernel_rfl)
end Go.Proofs.YtfkhljgifndbpaaDoor
