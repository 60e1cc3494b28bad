/-
  The abstract machine, part Y: a walk through regions that draw their order, what stands behind hidden as in part T. For any program.
-/
import Derived.Test.YtdddoioecccfpaaAmT
namespace Go.Am

section
variable {call : CallR} {loop : LoopR} {e : Env} {H cur : Heap} {past : List Heap} {pend : List (Nat × (Heap → Prop))}

def dcallW (call : CallR) (f : FuncId) (l : List Value) (cur : Heap) [K : LV] : Prop := ∃ v H', call f l cur (fun a b => a = v ∧ b = H') ∧ K.run v H'
theorem dcallW.of {f : FuncId} {l : List Value} {K : LV} (v : Value) (H' : Heap) (h : call f l cur (fun a b => a = v ∧ b = H')) (hk : K.run v H') : @dcallW call f l cur K := ⟨v, H', h, hk⟩
def outDW (call : CallR) (cur : Heap) [K : LV] (o : Out) : Prop := outD call cur K.run o
theorem outDW_val (K : LV) (v : Value) (H' : Heap) : @outDW call cur K (.val v H') ↔ K.run v H' := by simp only [outDW, outD]
theorem outDW_call (K : LV) (f : FuncId) (l : List Value) : @outDW call cur K (.call f l) ↔ @dcallW call f l cur K := by simp only [outDW, outD, dcallW]
theorem outDW_maybe (K : LV) (u v : Value) (H' : Heap) : @outDW call cur K (.maybe false u v H') ↔ K.run u H' := by simp only [outDW, outD, true_and]

def pendI (b : Bool) (hi : Nat) (p : Heap → Prop) (l : List (Nat × (Heap → Prop))) : List (Nat × (Heap → Prop)) := if b = true then (hi, p) :: l else l
theorem pendI_true (hi : Nat) (p : Heap → Prop) (l : List (Nat × (Heap → Prop))) : pendI true hi p l = (hi, p) :: l := by simp only [pendI, if_true]
theorem pendI_false (hi : Nat) (p : Heap → Prop) (l : List (Nat × (Heap → Prop))) : pendI false hi p l = l := by simp [pendI]

def drawW (call : CallR) (l : List AInstr) (sp : List (Nat × Nat × Bool)) (cur : Heap) (past : List Heap) (pend : List (Nat × (Heap → Prop))) (e : Env) [K : LE] : Prop := drawV call l sp cur past pend e K.run
theorem Ww_draw (Q : LQ) (l : List AInstr) (sp : List (Nat × Nat × Bool)) : @Ww call loop (.draw l sp) Q e H ↔ @drawW call l sp H [] [] e ⟨fun e H => Q.run .normal e H⟩ := by simp only [Ww, Ws, drawW, Later.run]
theorem drawW_nil (K : LE) (sp : List (Nat × Nat × Bool)) : @drawW call [] sp cur past pend e K ↔ K.run e cur := by simp only [drawW, drawV]
theorem drawW_quiet (K : LE) (d : Option Nat) (op : AOp) (r : List AInstr) (lo hi : Nat) (sp : List (Nat × Nat × Bool)) :
    @drawW call (⟨d, none, op⟩ :: r) ((lo, hi, false) :: sp) cur past pend e K ↔
      @outDW call cur ⟨fun v H' => H' = cur ∧ allP (past.take (past.length - lo)) (fun H => detV call op e H v H) ∧ @drawW call r sp cur past (pendI (decide (past.length < hi)) hi (fun H => detV call op e H v H) pend) (putE d v e) K⟩ (outV op e cur) := by
  simp only [drawW, drawV, wantE, outDW, Later.run, Bool.false_eq_true, if_false, pendI, decide_eq_true_eq]
theorem drawW_loud (K : LE) (d : Option Nat) (op : AOp) (r : List AInstr) (lo hi : Nat) (sp : List (Nat × Nat × Bool)) :
    @drawW call (⟨d, none, op⟩ :: r) ((lo, hi, true) :: sp) cur past pend e K ↔
      @outDW call cur ⟨fun v H' => pendP past.length H' pend ∧ @drawW call r sp H' (cur :: past) pend (putE d v e) K⟩ (outV op e cur) := by
  simp only [drawW, drawV, wantE, outDW, Later.run, if_true]
theorem drawW_guard (K : LE) (d : Option Nat) (t : Nat) (want : Bool) (op : AOp) (r : List AInstr) (lo hi : Nat) (loud : Bool) (sp : List (Nat × Nat × Bool)) :
    @drawW call (⟨d, some (t, want), op⟩ :: r) ((lo, hi, loud) :: sp) cur past pend e K ↔
      @gW want ⟨@drawW call (⟨d, none, op⟩ :: r) ((lo, hi, loud) :: sp) cur past pend e K⟩ ⟨(loud = true → pendP past.length cur pend) ∧ @drawW call r sp cur (if loud = true then cur :: past else past) pend (putE d (.tuple #[]) e) K⟩ (e.get t) := by
  unfold drawW
  rw [drawV]
  simp only [wantE, gW, gK, Later.run]
  cases h : e.get t with
  | none => simp
  | some v =>
    cases v with
    | bool b =>
      simp only
      cases hb : (b == want) with
      | true => simp only [Br, if_true, drawV, wantE]
      | false => simp [Br]
    | tuple a => simp
    | _ => simp

def detO (v : Value) (H : Heap) : Out → Prop
  | .val a b => a = v ∧ b = H
  | _ => False
/-- A quiet operation's value, seen at another heap. -/
theorem detV_of {op : AOp} {v : Value} {H' : Heap} (h : detO v H' (outV op e H)) : detV call op e H v H' := by
  unfold detV
  generalize outV op e H = o at h
  cases o with
  | val a b => exact h
  | _ => exact h.elim
theorem allP_nil (p : Heap → Prop) : allP [] p ↔ True := by simp [allP]
theorem allP_cons (H : Heap) (l : List Heap) (p : Heap → Prop) : allP (H :: l) p ↔ p H ∧ allP l p := by simp [allP]
theorem pendP_nil (n : Nat) (H : Heap) : pendP n H [] ↔ True := by simp [pendP]
theorem pendP_yes (n m : Nat) (H : Heap) (p : Heap → Prop) (l : List (Nat × (Heap → Prop))) (h : n < m) : pendP n H ((m, p) :: l) ↔ p H ∧ pendP n H l := by simp [pendP, h]
theorem pendP_no (n m : Nat) (H : Heap) (p : Heap → Prop) (l : List (Nat × (Heap → Prop))) (h : ¬ n < m) : pendP n H ((m, p) :: l) ↔ pendP n H l := by simp [pendP, h]
/-- A quiet operation's value at another heap, by the walk's own rules. -/
theorem detV_val {op : AOp} {v a : Value} {H' b : Heap} (h : outV op e H = .val a b) : detV call op e H v H' ↔ (a = v ∧ b = H') := by
  unfold detV; rw [h]; exact Iff.rfl
end
end Go.Am
