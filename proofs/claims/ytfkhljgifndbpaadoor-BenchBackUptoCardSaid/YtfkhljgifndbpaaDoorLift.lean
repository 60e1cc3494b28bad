import Derived.Test.YtfkhljgifndbpaaDoorAmX
import Derived.Test.YtfkhljgifndbpaaDoorAmW
/- The library's contracts told of abstract heaps. -/
namespace Go.Proofs.YtfkhljgifndbpaaDoor
open Go Go.Am Go.RowKit

/-- The package variables in a memory. -/
def Glob (w : World) : Prop := ∀ x ∈ GLs, ∃ c t fr, w.heap[x.1]? = some (.cells c t fr) ∧ x.2 c
theorem globW {prot : Nat → Prop} {B w : World} {ι : Inj} {H : Heap} (h : HSim prot B w ι H) : Glob w := fun x hx => by
  obtain ⟨h1, c, t, fr, h2, h3⟩ := h.glob x hx
  exact ⟨c, t, fr, (h.frame _ h1).trans h2, h3⟩
theorem Glob.max {w : World} (h : Glob w) : ∃ m : Int, w.cell? ⟨0, 0, none⟩ = some (.int .i64 m) := by
  obtain ⟨c, t, fr, h1, m, rfl⟩ := h (0, _) List.mem_cons_self
  exact ⟨m, by simp only [World.cell?]; rw [h1]; rfl⟩
theorem Glob.synt {w : World} (h : Glob w) : ∃ t p, w.cell? ⟨2, 0, none⟩ = some (.iface t p) := by
  obtain ⟨c, t, fr, h1, t', p, rfl⟩ := h (2, _) (List.mem_cons_of_mem _ (List.mem_cons_of_mem _ List.mem_cons_self))
  exact ⟨t', p, by simp only [World.cell?]; rw [h1]; rfl⟩
theorem Glob.rang {w : World} (h : Glob w) : ∃ t p, w.cell? ⟨3, 0, none⟩ = some (.iface t p) := by
  obtain ⟨c, t, fr, h1, t', p, rfl⟩ := h (3, _) (List.mem_cons_of_mem _ (List.mem_cons_of_mem _ (List.mem_cons_of_mem _ List.mem_cons_self)))
  exact ⟨t', p, by simp only [World.cell?]; rw [h1]; rfl⟩
theorem Glob.pow {w : World} (h : Glob w) : ∃ t fr, w.heap[1]? = some (.cells (Lib.pow10Tab.map fun z => Value.int .u64 z).toArray t fr) := by
  obtain ⟨c, t, fr, h1, rfl⟩ := h (1, _) (List.mem_cons_of_mem _ List.mem_cons_self)
  exact ⟨t, fr, h1⟩
theorem plain_args {T : List Tag} {ι : Inj} {args : List Value} {args' : Array Value} (ha : args.all plain = true) (hv : VRels T ι args args'.toList) : args' = args.toArray := by
  apply Array.ext'
  apply List.ext_getElem?
  intro i
  have hl := hv.1
  by_cases hi : i < args.length
  · rw [List.getElem?_eq_getElem (by omega), List.getElem?_eq_getElem hi]
    have hp : plain args[i] = true := List.all_eq_true.1 ha _ (List.getElem_mem hi)
    exact congrArg some ((hv.2 i _ _ (List.getElem?_eq_getElem hi) (List.getElem?_eq_getElem (by omega))).plain_inv hp)
  · rw [List.getElem?_eq_none (by omega), List.getElem?_eq_none (by simp; omega)]
/-- Plain values in and out; below the old memory's end nothing turns. -/
theorem lifted {P : Program} {f : FuncId} {args : List Value} {r : Value} (hf : fnOk P f) (ha : args.all plain = true) (hr : plain r = true)
    (h : ∀ w, Glob w → Calls P f args.toArray w fun e w' => e = .returned r ∧ Below w.heap.size w w') (H : Heap) : ACallK P f args H (fun v H' => v = r ∧ H' = H) := by
  refine ⟨hf, fun prot B ι w args' hs hv => ?_⟩
  have := plain_args ha hv
  subst this
  refine (h w (globW hs)).mono ?_
  rintro e w' ⟨rfl, hb⟩
  exact ⟨r, r, ι, H, rfl, hs.later hb.os hb.tape hb.output hb.size hb.block, .refl _ _, VRel.plain hr, rfl, rfl⟩
/-- Plain values in; a new row of cells that refer to nothing comes out. -/
theorem liftedRow {P : Program} {f : FuncId} {args : List Value} {cs : List Value} {n : Nat} (hf : fnOk P f) (ha : args.all plain = true) (hc : cs.all flat = true) (_hn : cs.length = n)
    (h : ∀ w, Glob w → Calls P f args.toArray w fun e w' => e = .returned (.slice (some ⟨w.heap.size, 0, none⟩) n n) ∧ ∃ t, w' = w.alloc (.cells cs.toArray t)) (H : Heap) :
    ACallK P f args H (fun v H' => v = .slice (some ⟨H.length, 0, some 1⟩) n n ∧ H' = H ++ [.cells 0 1 false cs]) := by
  refine ⟨hf, fun prot B ι w args' hs hv => ?_⟩
  have := plain_args ha hv
  subst this
  refine (h w (globW hs)).mono ?_
  rintro e w' ⟨rfl, t, rfl⟩
  obtain ⟨h1, h2⟩ := hs.row_new cs.toArray t 1 cs (by simp) fun i v hv => by
    have hfl := List.all_eq_true.1 hc v (List.mem_of_getElem? hv)
    exact ⟨flat_one hfl, v, by simpa using hv, .flat hfl⟩
  exact ⟨_, _, _, _, rfl, h1, h2, VRel.new_slice hs (Nat.le_refl _) (.inl rfl), rfl, rfl⟩
/-- Plain values in; a number and an error that is not nil come out, behind some address of which nothing is known. -/
theorem liftedErr {P : Program} {f : FuncId} {args : List Value} {n : Int} {t : TypeId} (hf : fnOk P f) (ha : args.all plain = true)
    (h : ∀ w, Glob w → Calls P f args.toArray w fun e w' => ∃ N, e = .returned (.tuple #[.int .i64 n, .iface t (.pointer (some ⟨N, 0, none⟩))]) ∧ Below w.heap.size w w') (H : Heap) :
    ACallK P f args H (fun v H' => v = .tuple #[.int .i64 n, .iface t (.pointer (some ⟨H.length, 0, some 1⟩))] ∧ H' = H ++ [.cells 1 0 false []]) := by
  refine ⟨hf, fun prot B ι w args' hs hv => ?_⟩
  have := plain_args ha hv
  subst this
  refine (h w (globW hs)).mono ?_
  rintro e w' ⟨N, rfl, hb⟩
  have hs' := hs.later hb.os hb.tape hb.output hb.size hb.block
  obtain ⟨h1, h2⟩ := hs'.push (o' := .cells 1 0 false []) none rfl rfl rfl (Nat.le_refl _) (fun _ _ => rfl) (.inl ⟨by rw [← hs.len]; simp, rfl⟩) (fun L hL => by cases hL)
  refine ⟨.tuple #[.int .i64 n, .iface t (.pointer (some ⟨H.length, 0, some 1⟩))], .tuple #[.int .i64 n, .iface t (.pointer (some ⟨N, 0, none⟩))], _, _, rfl, h1, h2, .tuple rfl fun i v v' hv hv' => ?_, rfl, rfl⟩
  match i with
  | 0 => simp at hv hv'; subst hv; subst hv'; exact .flat rfl
  | 1 => simp at hv hv'; subst hv; subst hv'; exact .iface (.staleP (t := ⟨1, 0, false⟩) (by simp [AObj.tag]) (Nat.zero_lt_one) rfl)
  | i + 2 => simp at hv
end Go.Proofs.YtfkhljgifndbpaaDoor
