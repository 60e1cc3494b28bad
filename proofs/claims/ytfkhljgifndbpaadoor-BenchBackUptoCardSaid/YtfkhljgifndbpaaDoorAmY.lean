/-
  The abstract machine, part Y: a walk through regions that draw their order, what stands behind hidden as in part T. For any program.
-/
import Derived.Test.YtfkhljgifndbpaaDoorAmT
namespace Go.Am

section
variable {call : CallR} {loop : LoopR} {e : Env} {H cur : Heap} {past : List Heap} {pend : List (Nat × AOp × Env × Value)}

def dcallW (call : CallR) (f : FuncId) (l : List Value) (cur : Heap) [K : LV] : Prop := ∃ v H', call f l cur (fun a b => a = v ∧ b = H') ∧ K.run v H'
theorem dcallW.of {f : FuncId} {l : List Value} {K : LV} (v : Value) (H' : Heap) (h : call f l cur (fun a b => a = v ∧ b = H')) (hk : K.run v H') : @dcallW call f l cur K := ⟨v, H', h, hk⟩
def outDW (call : CallR) (cur : Heap) [K : LV] (o : Out) : Prop := outD call cur K.run o
theorem outDW_val (K : LV) (v : Value) (H' : Heap) : @outDW call cur K (.val v H') ↔ K.run v H' := by simp only [outDW, outD]
theorem outDW_call (K : LV) (f : FuncId) (l : List Value) : @outDW call cur K (.call f l) ↔ @dcallW call f l cur K := by simp only [outDW, outD, dcallW]
theorem outDW_maybe (K : LV) (u v : Value) (H' : Heap) : @outDW call cur K (.maybe false u v H') ↔ K.run u H' := by simp only [outDW, outD, true_and]

abbrev Pend := List (Nat × AOp × Env × Value)
def pendW (call : CallR) (l : Pend) : List (Nat × (Heap → Prop)) := l.map fun p => (p.1, fun H => detV call p.2.1 p.2.2.1 H p.2.2.2 H)
def pendI (b : Bool) (p : Nat × AOp × Env × Value) (l : Pend) : Pend := if b = true then p :: l else l
theorem pendI_true (p : Nat × AOp × Env × Value) (l : Pend) : pendI true p l = p :: l := by simp only [pendI, if_true]
theorem pendI_false (p : Nat × AOp × Env × Value) (l : Pend) : pendI false p l = l := by simp [pendI]
/-- The same value at all these heaps. -/
def allD (call : CallR) (op : AOp) (e : Env) (v : Value) (l : List Heap) : Prop := allP l fun H => detV call op e H v H
def pendD (call : CallR) (n : Nat) (H : Heap) (l : Pend) : Prop := pendP n H (pendW call l)

def drawW (call : CallR) (l : List AInstr) (sp : List (Nat × Nat × Bool)) (cur : Heap) (past : List Heap) (pend : Pend) (e : Env) [K : LE] : Prop := drawV call l sp cur past (pendW call pend) e K.run
theorem Ww_draw (Q : LQ) (l : List AInstr) (sp : List (Nat × Nat × Bool)) : @Ww call loop (.draw l sp) Q e H ↔ @drawW call l sp H [] [] e ⟨fun e H => Q.run .normal e H⟩ := by simp only [Ww, Ws, drawW, Later.run, pendW, List.map_nil]
def altW [A : LP] [B : LP] : Prop := A.run ∧ B.run
theorem altW.of {A B : LP} (ha : A.run) (hb : B.run) : @altW A B := ⟨ha, hb⟩
theorem Ww_alt_one (Q : LQ) (l : List AInstr) (sp : List (Nat × Nat × Bool)) : @Ww call loop (.alt [(l, sp)]) Q e H ↔ @Ww call loop (.draw l sp) Q e H := by simp only [Ww, Ws, List.mem_singleton, forall_eq]
theorem Ww_alt_cons (Q : LQ) (x y : List AInstr × List (Nat × Nat × Bool)) (r : List (List AInstr × List (Nat × Nat × Bool))) : @Ww call loop (.alt (x :: y :: r)) Q e H ↔ @altW ⟨@Ww call loop (.draw x.1 x.2) Q e H⟩ ⟨@Ww call loop (.alt (y :: r)) Q e H⟩ := by
  simp only [Ww, Ws, altW, Later.run]
  exact List.forall_mem_cons
theorem drawW_nil (K : LE) (sp : List (Nat × Nat × Bool)) : @drawW call [] sp cur past pend e K ↔ K.run e cur := by simp only [drawW, drawV]
theorem pendW_I (b : Bool) (p : Nat × AOp × Env × Value) (l : Pend) : pendW call (pendI b p l) = if b = true then (p.1, fun H => detV call p.2.1 p.2.2.1 H p.2.2.2 H) :: pendW call l else pendW call l := by
  unfold pendI
  split <;> simp [pendW]
theorem drawW_quiet (K : LE) (d : Option Nat) (op : AOp) (r : List AInstr) (lo hi : Nat) (sp : List (Nat × Nat × Bool)) :
    @drawW call (⟨d, none, op⟩ :: r) ((lo, hi, false) :: sp) cur past pend e K ↔
      @outDW call cur ⟨fun v H' => H' = cur ∧ allD call op e v (past.take (past.length - lo)) ∧ @drawW call r sp cur past (pendI (decide (past.length < hi)) (hi, op, e, v) pend) (putE d v e) K⟩ (outV op e cur) := by
  simp only [drawW, drawV, wantE, outDW, Later.run, Bool.false_eq_true, if_false, pendW_I, decide_eq_true_eq, allD]
theorem drawW_cut (K : LE) (d : Option Nat) (op : AOp) (r : List AInstr) (lo : Nat) (sp : List (Nat × Nat × Bool)) :
    @drawW call (⟨d, none, op⟩ :: r) ((lo, 0, true) :: sp) cur past pend e K ↔
      @outW call cur ⟨fun v H' => pendD call past.length H' pend ∧ @drawW call r sp H' (cur :: past) pend (putE d v e) K⟩ (outV op e cur) := by
  simp only [drawW, drawV, wantE, outW, Later.run, if_true, pendD]
theorem drawW_loud (K : LE) (d : Option Nat) (op : AOp) (r : List AInstr) (lo hi : Nat) (hz : hi ≠ 0) (sp : List (Nat × Nat × Bool)) :
    @drawW call (⟨d, none, op⟩ :: r) ((lo, hi, true) :: sp) cur past pend e K ↔
      @outDW call cur ⟨fun v H' => pendD call past.length H' pend ∧ @drawW call r sp H' (cur :: past) pend (putE d v e) K⟩ (outV op e cur) := by
  simp only [drawW, drawV, wantE, outDW, Later.run, if_true, pendD, if_neg hz]
theorem drawW_guard (K : LE) (d : Option Nat) (t : Nat) (want : Bool) (op : AOp) (r : List AInstr) (lo hi : Nat) (loud : Bool) (sp : List (Nat × Nat × Bool)) :
    @drawW call (⟨d, some (t, want), op⟩ :: r) ((lo, hi, loud) :: sp) cur past pend e K ↔
      @gW want ⟨@drawW call (⟨d, none, op⟩ :: r) ((lo, hi, loud) :: sp) cur past pend e K⟩ ⟨(loud = true → pendD call past.length cur pend) ∧ @drawW call r sp cur (if loud = true then cur :: past else past) pend (putE d (.tuple #[]) e) K⟩ (e.get t) := by
  unfold drawW pendD
  rw [drawV]
  simp only [wantE, gW, gK, Later.run]
  cases h : e.get t with
  | none => simp
  | some v =>
    cases v with
    | bool b =>
      simp only
      cases hb : (b == want) with
      | true => simp only [Br, if_true, drawV, wantE]
      | false => simp [Br]
    | tuple a => simp
    | _ => simp

def detO (v : Value) (H : Heap) : Out → Prop
  | .val a b => a = v ∧ b = H
  | _ => False
/-- A quiet operation's value, seen at another heap. -/
theorem detV_of {op : AOp} {v : Value} {H' : Heap} (h : detO v H' (outV op e H)) : detV call op e H v H' := by
  unfold detV
  generalize outV op e H = o at h
  cases o with
  | val a b => exact h
  | _ => exact h.elim
theorem allD_nil (op : AOp) (v : Value) : allD call op e v [] ↔ True := by simp [allD, allP]
theorem allD_cons (op : AOp) (v : Value) (H : Heap) (l : List Heap) : allD call op e v (H :: l) ↔ detV call op e H v H ∧ allD call op e v l := by simp [allD, allP]
theorem pendD_nil (n : Nat) (H : Heap) : pendD call n H [] ↔ True := by simp [pendD, pendW, pendP]
theorem pendD_yes (n m : Nat) (H : Heap) (op : AOp) (v : Value) (l : Pend) (h : n < m) : pendD call n H ((m, op, e, v) :: l) ↔ detV call op e H v H ∧ pendD call n H l := by simp [pendD, pendW, pendP, h]
theorem pendD_no (n m : Nat) (H : Heap) (op : AOp) (v : Value) (l : Pend) (h : ¬ n < m) : pendD call n H ((m, op, e, v) :: l) ↔ pendD call n H l := by simp [pendD, pendW, pendP, h]
/-- A quiet operation's value at another heap, by the walk's own rules. -/
theorem detV_val {op : AOp} {v a : Value} {H' b : Heap} (h : outV op e H = .val a b) : detV call op e H v H' ↔ (a = v ∧ b = H') := by
  unfold detV; rw [h]; exact Iff.rfl
end
end Go.Am
