import Derived.Test.YtjdmpkaiijcchaaInsL
import Derived.Test.YtjdmpkaiijcchaaLaws
set_option linter.unusedSimpArgs false
set_option linter.unusedVariables false
set_option maxHeartbeats 2000000
set_option maxRecDepth 20000
namespace Go.Proofs.Ytjdmpkaiijcchaa
open Go Go.Am
attribute [local irreducible] opsW Ww loopW callW drawW outW outDW gW cW BrW bothW vW resW DropW RdW dcallW altW forkW splitW Later.run

structure W2 where
  h : Int
  l : Int
def w0 : W2 := ⟨0, 0⟩
def W2.cells (w : W2) : List Value := [.int .u64 w.h, .int .u64 w.l]
def W2.ok (w : W2) : Prop := (0 ≤ w.h ∧ w.h ≤ 18446744073709551615) ∧ 0 ≤ w.l ∧ w.l ≤ 18446744073709551615
def pushO (ks : List W2) (k : Nat) : Op := ⟨1, k, (ks.getD k w0).h, (ks.getD k w0).l⟩
def aO (ks : List W2) : Nat → List Op
  | 0 => []
  | i + 1 => aO ks i ++ [pushO ks i]
def bO (ks : List W2) : Nat → List Op
  | 0 => []
  | i + 1 => pushO ks i :: bO ks i
theorem aO_len (ks : List W2) : ∀ i, (aO ks i).length = i
  | 0 => rfl
  | i + 1 => by simp [aO, aO_len ks i]
theorem bO_len (ks : List W2) : ∀ i, (bO ks i).length = i
  | 0 => rfl
  | i + 1 => by simp [bO, bO_len ks i]
theorem aO_mem (ks : List W2) : ∀ (i : Nat) (o : Op), o ∈ aO ks i ↔ ∃ k, k < i ∧ o = pushO ks k
  | 0, o => by simp [aO]
  | i + 1, o => by
    rw [aO, List.mem_append, aO_mem ks i, List.mem_singleton]
    constructor
    · rintro (⟨k, h1, h2⟩ | h)
      · exact ⟨k, by omega, h2⟩
      · exact ⟨i, by omega, h⟩
    · rintro ⟨k, h1, h2⟩
      by_cases e : k = i
      · subst e; exact .inr h2
      · exact .inl ⟨k, by omega, h2⟩
theorem bO_mem (ks : List W2) : ∀ (i : Nat) (o : Op), o ∈ bO ks i ↔ ∃ k, k < i ∧ o = pushO ks k
  | 0, o => by simp [bO]
  | i + 1, o => by
    rw [bO, List.mem_cons, bO_mem ks i]
    constructor
    · rintro (h | ⟨k, h1, h2⟩)
      · exact ⟨i, by omega, h⟩
      · exact ⟨k, by omega, h2⟩
    · rintro ⟨k, h1, h2⟩
      by_cases e : k = i
      · subst e; exact .inl h2
      · exact .inr ⟨k, by omega, h2⟩
theorem aO_get (ks : List W2) : ∀ (i p : Nat), p < i → (aO ks i).getD p o0 = pushO ks p
  | 0, p, h => by omega
  | i + 1, p, h => by
    have hl := aO_len ks i
    rw [aO, List.getD_eq_getElem?_getD]
    by_cases hp : p < i
    · rw [List.getElem?_append_left (by omega), ← List.getD_eq_getElem?_getD]; exact aO_get ks i p hp
    · obtain rfl : p = i := by omega
      rw [List.getElem?_append_right (by omega), hl, Nat.sub_self]; rfl
theorem bO_get (ks : List W2) : ∀ (i p : Nat), p < i → (bO ks i).getD p o0 = pushO ks (i - 1 - p)
  | 0, p, h => by omega
  | i + 1, 0, h => rfl
  | i + 1, p + 1, h => by
    rw [bO]
    show (bO ks i).getD p o0 = _
    rw [bO_get ks i p (by omega)]
    congr 1; omega
/-- Pushed, each with a number of its own. -/
theorem push_run {ops : List Op} (hk : ∀ p, p < ops.length → (ops.getD p o0).k = 1) (hok : ∀ p, p < ops.length → (ops.getD p o0).ok) (hd : ∀ p q, p < ops.length → q < ops.length → (ops.getD p o0).i = (ops.getD q o0).i → p = q) :
    ∀ i, i ≤ ops.length → Srt (runR (ops.take i)).s ∧ (∀ x, x ∈ (runR (ops.take i)).s ↔ ∃ p, p < i ∧ x = ⟨(ops.getD p o0).i, (ops.getD p o0).h, (ops.getD p o0).l⟩) ∧ (runR (ops.take i)).s.length = i
  | 0, _ => ⟨trivial, fun x => ⟨fun h => (by cases h), fun ⟨p, h, _⟩ => by omega⟩, rfl⟩
  | i + 1, hi => by
    obtain ⟨h1, h2, h3⟩ := push_run hk hok hd i (by omega)
    rw [take_snocO ops i (by omega), runR_snoc]
    have hki := hk i (by omega)
    have hno : hasI (runR (ops.take i)).s (ops.getD i o0).i = false := by
      rw [Bool.eq_false_iff]
      intro hh
      obtain ⟨x, h4, h5⟩ := (hasI_iff _ _).1 hh
      obtain ⟨p, h6, rfl⟩ := (h2 x).1 h4
      have := hd p i (by omega) (by omega) h5
      omega
    have hp : doP (runR (ops.take i)).s (ops.getD i o0) = (0, 0, insS ⟨(ops.getD i o0).i, (ops.getD i o0).h, (ops.getD i o0).l⟩ (runR (ops.take i)).s) := by
      unfold doP; rw [if_pos hki, if_neg (by rw [hno]; decide)]
    unfold stepR
    rw [hp]
    simp only
    refine ⟨insS_srt h1 fun y hy e => ?_, fun x => ?_, by rw [len_insS, h3]⟩
    · obtain ⟨p, h6, rfl⟩ := (h2 y).1 hy
      have e2 := rk_inj (x := ⟨(ops.getD p o0).i, (ops.getD p o0).h, (ops.getD p o0).l⟩) (y := ⟨(ops.getD i o0).i, (ops.getD i o0).h, (ops.getD i o0).l⟩) (hok p (by omega)) (hok i (by omega)) e
      have := hd p i (by omega) (by omega) (congrArg It.i e2)
      omega
    · rw [insS_mem, h2]
      constructor
      · rintro (h | ⟨p, h4, h5⟩)
        · exact ⟨i, by omega, h⟩
        · exact ⟨p, by omega, h5⟩
      · rintro ⟨p, h4, h5⟩
        by_cases e : p = i
        · subst e; exact .inl h5
        · exact .inr ⟨p, by omega, h5⟩
theorem order_run (ks : List W2) (hks : ∀ p, p < ks.length → (ks.getD p w0).ok) (hl : ks.length ≤ 1048576) : (runR (aO ks ks.length)).s = (runR (bO ks ks.length)).s ∧ (runR (aO ks ks.length)).s.length = ks.length := by
  have hA := aO_len ks ks.length
  have hB := bO_len ks ks.length
  have okp : ∀ p, p < ks.length → (pushO ks p).ok := fun p hp => ⟨by show -9223372036854775808 ≤ (p : Int) ∧ (p : Int) ≤ 9223372036854775807; omega, (hks p hp).1, (hks p hp).2⟩
  have ha := push_run (ops := aO ks ks.length) (fun p hp => by rw [aO_get ks _ p (by omega)]; rfl) (fun p hp => by rw [aO_get ks _ p (by omega)]; exact okp p (by omega)) (fun p q hp hq e => by
    rw [aO_get ks _ p (by omega), aO_get ks _ q (by omega)] at e
    have : (p : Int) = q := e
    omega) ks.length (by omega)
  have hb := push_run (ops := bO ks ks.length) (fun p hp => by rw [bO_get ks _ p (by omega)]; rfl) (fun p hp => by rw [bO_get ks _ p (by omega)]; exact okp _ (by omega)) (fun p q hp hq e => by
    rw [bO_get ks _ p (by omega), bO_get ks _ q (by omega)] at e
    have : ((ks.length - 1 - p : Nat) : Int) = ((ks.length - 1 - q : Nat) : Int) := e
    omega) ks.length (by omega)
  rw [List.take_of_length_le (by omega)] at ha hb
  refine ⟨ha.1.uniq hb.1 fun x => ?_, ha.2.2⟩
  rw [ha.2.1, hb.2.1]
  constructor
  · rintro ⟨p, hp, h⟩
    refine ⟨ks.length - 1 - p, by omega, ?_⟩
    rw [bO_get ks _ _ (by omega), show ks.length - 1 - (ks.length - 1 - p) = p by omega, h, aO_get ks _ p hp]
  · rintro ⟨p, hp, h⟩
    refine ⟨ks.length - 1 - p, by omega, ?_⟩
    rw [aO_get ks _ _ (by omega), h, bO_get ks _ p hp]
theorem Insert_end (a b c d : Value) (k g kv gv : Nat) (H : Heap) (hbk : H[k]? = some (.cells g 4 false [])) (hv : H[kv]? = some (.cells gv 4 false [a, b, c, d])) :
    ACallK Try.prog 15 [slv k 0 g 0 0, .int .i64 0, slv kv 0 gv 1 1] H (fun v H' => v = slv k 0 (g + 1) 1 1 ∧ H' = H.set k (.cells (g + 1) 4 false [a, b, c, d])) := by
  refine .walkW f15_ok (by simp; decide) (by decide) ?_
  have z0 : ((0 : Nat) : Int) = 0 := rfl
  repeat' first | simp (disch := first | with_reducible assumption | omega) only [go_sem, Bool.true_and, Bool.and_true, Bool.and_self, Bool.false_and, Bool.and_false, Bool.true_or, Bool.or_true, Bool.false_or, Bool.or_false, ↓reduceIte, Nat.reduceEqDiff, Nat.reduceAdd, Nat.reduceMul, Nat.reduceSub, Nat.reduceBEq, Nat.reduceLeDiff, Nat.reduceLT, Nat.reduceMod, Nat.reduceDiv, Int.reduceToNat, Int.reducePow, Int.reduceMul, Int.reduceAdd, Int.reduceSub, Int.reduceLE, Int.reduceLT, Int.reduceNeg, Int.reduceDiv, Int.reduceMod, Int.reduceEq, Int.reduceBEq, Int.reduceBNe, f15, f15b, f15r0, f15r1, f15r2, f15r3, f15r4, f15r5, f15r6, f15r7, f15r8, f15r9, f15r10, f15r11, f15r12, f15r13, f15r14, f15r15, f15r16, f15r17, f15r18, f15r19, f15r20, hbk, hv, z0] | (refine BrW.of (fun hb => ?_) (fun hb => ?_) <;> (have hb' := hb; try simp only [decide_eq_true_eq, decide_eq_false_iff_not, beq_iff_eq, bne_iff_ne, beq_eq_false_iff_ne, bne_eq_false_iff_eq, Bool.not_eq_true', Bool.not_eq_false', Bool.not_eq_true, Bool.not_eq_false, Bool.and_eq_true, Bool.or_eq_true, Bool.and_eq_false_iff, Bool.or_eq_false_iff, Int.not_lt, Int.not_le, ne_eq, gt_iff_lt, ge_iff_le] at hb') <;> (try (exfalso; omega))) | (refine altW.of ?_ ?_)
  all_goals first | exact .here ⟨rfl, rfl⟩ | (exfalso; omega)
theorem cells_ints (l : List Op) : ∀ v ∈ flat' Op.cells l, ∃ kd n, v = Value.int kd n := by
  induction l with
  | nil => intro v hv; cases hv
  | cons o t ih =>
    intro v hv
    rcases List.mem_append.1 (show v ∈ o.cells ++ flat' Op.cells t from hv) with h | h
    · simp only [Op.cells, List.mem_cons, List.not_mem_nil, or_false] at h
      rcases h with rfl | rfl | rfl | rfl <;> exact ⟨_, _, rfl⟩
    · exact ih v h
/-- One ahead of all. -/
theorem Insert_front (ks : List W2) (i k g kv gv : Nat) (H : Heap) (hbk : H[k]? = some (.cells g 4 false (flat' Op.cells (bO ks i)))) (hi : i ≤ 2097152) (hv : H[kv]? = some (.cells gv 4 false (pushO ks i).cells)) (hkv : kv ≠ k) :
    ACallK Try.prog 15 [slv k 0 g i i, .int .i64 0, slv kv 0 gv 1 1] H (fun v H' => v = slv k 0 (g + 1) (i + 1) (i + 1) ∧ H' = H.set k (.cells (g + 1) 4 false (flat' Op.cells (bO ks (i + 1))))) := by
  cases i with
  | zero => exact Insert_end _ _ _ _ k g kv gv H hbk hv
  | succ i =>
    have hfn := (Insert_end (.int .i64 0) (.int .i64 0) (.int .i64 0) (.int .i64 0) 0 0 1 0 [.cells 0 4 false [], .cells 0 4 false [.int .i64 0, .int .i64 0, .int .i64 0, .int .i64 0]] rfl rfl).1
    have := insert_at hfn (flat' Op.cells (bO ks (i + 1))) (pushO ks (i + 1)).cells (i + 1) 0 k g kv gv 1 H hbk (by rw [flO, bO_len]) (by omega) hi hv rfl hkv (by omega) (cells_ints _) (by
      have := cells_ints [pushO ks (i + 1)]
      exact fun v hv => this v (by show v ∈ (pushO ks (i + 1)).cells ++ []; rw [List.append_nil]; exact hv))
    refine ACallK.mono this ?_
    rintro v H' ⟨rfl, rfl⟩
    exact ⟨rfl, rfl⟩
theorem W2.of {B : Nat} {H : Heap} (cs : List Value) (h : RowOk B H [.int .u64, .int .u64] cs) : ∃ s : W2, cs = s.cells ∧ s.ok := by
  obtain ⟨_, _, rfl, c0, h⟩ := h.cons_inv
  obtain ⟨_, _, rfl, c1, h⟩ := h.cons_inv
  obtain rfl := h.nil_inv
  obtain ⟨x0, rfl, h0⟩ := c0.int_inv
  obtain ⟨x1, rfl, h1⟩ := c1.int_inv
  exact ⟨⟨x0, x1⟩, rfl, h0, h1⟩
theorem set_one (H : Heap) (A C C' : AObj) (z : Heap) : (H ++ A :: C :: z).set (H.length + 1) C' = H ++ A :: C' :: z := by
  induction H with
  | nil => rfl
  | cons h t ih => simp
theorem HeapsOrder_args (H : Heap) (vals : List Value) (h : ArgsOk 1048576 H HeapsOrderSh vals) : ACallK Try.prog 5 vals H fun v _ => v = .bool true := by
  obtain ⟨_, _, rfl, a1, h⟩ := h.cons
  obtain rfl := h.nil
  obtain ⟨k, c, ks, rfl, hB, hlc, hs, hok⟩ := rows_of (α := W2) (enc := W2.cells) (ok := W2.ok) 2 (fun _ => rfl) w0 rfl (fun cs h => W2.of cs h) a1
  clear a1 h
  obtain ⟨ho1, ho2⟩ := order_run ks hok hB
  obtain ⟨ro, cs, hk, _, hcs⟩ := hs.at'
  have okp : ∀ p, p < ks.length → (pushO ks p).ok := fun p hp => ⟨by show -9223372036854775808 ≤ (p : Int) ∧ (p : Int) ≤ 9223372036854775807; omega, (hok p hp).1, (hok p hp).2⟩
  have okA : ∀ p, p < (aO ks ks.length).length → ((aO ks ks.length).getD p o0).ok := fun p hp => by
    rw [aO_len] at hp; rw [aO_get ks _ p hp]; exact okp p hp
  have okB : ∀ p, p < (bO ks ks.length).length → ((bO ks ks.length).getD p o0).ok := fun p hp => by
    rw [bO_len] at hp; rw [bO_get ks _ p hp]; exact okp _ (by omega)
  refine .walkW f5_ok (by simp; decide) (by decide) ?_
  repeat' first | simp (disch := first | with_reducible assumption | omega) only [go_sem, Bool.true_and, Bool.and_true, Bool.and_self, Bool.false_and, Bool.and_false, Bool.true_or, Bool.or_true, Bool.false_or, Bool.or_false, ↓reduceIte, Nat.reduceEqDiff, Nat.reduceAdd, Nat.reduceMul, Nat.reduceSub, Nat.reduceBEq, Nat.reduceLeDiff, Nat.reduceLT, Nat.reduceMod, Nat.reduceDiv, Int.reduceToNat, Int.reducePow, Int.reduceMul, Int.reduceAdd, Int.reduceSub, Int.reduceLE, Int.reduceLT, Int.reduceNeg, Int.reduceDiv, Int.reduceMod, Int.reduceEq, Int.reduceBEq, Int.reduceBNe, f5, f5b, f5r0, f5r1, f5r2, f5r3, f5r4, f5r5, f5r6, f5r7, f5r8, f5r9, f5r10, f5r11, f5r13, f5r14, f5r15, hk] | (refine BrW.of (fun hb => ?_) (fun hb => ?_) <;> (have hb' := hb; try simp only [decide_eq_true_eq, decide_eq_false_iff_not, beq_iff_eq, bne_iff_ne, beq_eq_false_iff_ne, bne_eq_false_iff_eq, Bool.not_eq_true', Bool.not_eq_false', Bool.not_eq_true, Bool.not_eq_false, Bool.and_eq_true, Bool.or_eq_true, Bool.and_eq_false_iff, Bool.or_eq_false_iff, Int.not_lt, Int.not_le, ne_eq, gt_iff_lt, ge_iff_le] at hb') <;> (try (exfalso; omega))) | (refine altW.of ?_ ?_) | (refine .of ((alive _).mono ?_); rintro v H ⟨rfl, rfl⟩)
  refine loopW.ghost 3 4 rfl ?_
  simp (disch := first | with_reducible assumption | omega) only [go_sem, Bool.true_and, Bool.and_true, Bool.and_self, Bool.false_and, Bool.and_false, Bool.true_or, Bool.or_true, Bool.false_or, Bool.or_false, ↓reduceIte, Nat.reduceEqDiff, Nat.reduceAdd, Nat.reduceMul, Nat.reduceSub, Nat.reduceBEq, Nat.reduceLeDiff, Nat.reduceLT, Nat.reduceMod, Nat.reduceDiv, Int.reduceToNat, Int.reducePow, Int.reduceMul, Int.reduceAdd, Int.reduceSub, Int.reduceLE, Int.reduceLT, Int.reduceNeg, Int.reduceDiv, Int.reduceMod, Int.reduceEq, Int.reduceBEq, Int.reduceBNe]
  refine loopW.ghost 4 4 rfl ?_
  simp (disch := first | with_reducible assumption | omega) only [go_sem, Bool.true_and, Bool.and_true, Bool.and_self, Bool.false_and, Bool.and_false, Bool.true_or, Bool.or_true, Bool.false_or, Bool.or_false, ↓reduceIte, Nat.reduceEqDiff, Nat.reduceAdd, Nat.reduceMul, Nat.reduceSub, Nat.reduceBEq, Nat.reduceLeDiff, Nat.reduceLT, Nat.reduceMod, Nat.reduceDiv, Int.reduceToNat, Int.reducePow, Int.reduceMul, Int.reduceAdd, Int.reduceSub, Int.reduceLE, Int.reduceLT, Int.reduceNeg, Int.reduceDiv, Int.reduceMod, Int.reduceEq, Int.reduceBEq, Int.reduceBNe]
  refine loopW.of (by decide) (fun m e J => ∃ (i ga gb : Nat) (x : Heap), e = [(0, slv k 0 0 ks.length c), (3, slv H.length 0 ga i i), (4, slv (H.length + 1) 0 gb i i), (16, slv k 0 0 ks.length c), (17, .int .i64 ks.length), (18, .int .i64 i)] ∧
    J = H ++ (.cells ga 4 false (flat' Op.cells (aO ks i)) :: .cells gb 4 false (flat' Op.cells (bO ks i)) :: x) ∧ i ≤ ks.length ∧ m = ks.length - i) ks.length ⟨0, 0, 0, [], rfl, rfl, by omega, rfl⟩ ?_
  rintro m e J ⟨i, ga, gb, x, rfl, rfl, hi, rfl⟩
  by_cases hlt : i < ks.length
  · have x0 := hcs i hlt 0 (by omega)
    have x1 := hcs i hlt 1 (by omega)
    simp only [W2.cells, List.getElem?_cons_zero, List.getElem?_cons_succ, Nat.add_zero, Nat.zero_add] at x0 x1
    have hfl := flO (aO ks i)
    have htk := flO_tk (aO ks i)
    have hsn := flO_sn (aO ks i) (pushO ks i)
    have hsn : flat' Op.cells (aO ks i) ++ [.int .i64 1, .int .i64 (i : Int), .int .u64 (ks.getD i w0).h, .int .u64 (ks.getD i w0).l] = flat' Op.cells (aO ks (i + 1)) := hsn
    rw [aO_len] at hfl htk
    have hni : ¬ i + 1 ≤ i := by omega
    have hIn := fun (J : Heap) (kv : Nat) h1 h2 h3 => Insert_front ks i (H.length + 1) gb kv 0 J h1 (by omega) h2 h3
    have hpc : (pushO ks i).cells = [.int .i64 1, .int .i64 (i : Int), .int .u64 (ks.getD i w0).h, .int .u64 (ks.getD i w0).l] := rfl
    rw [hpc] at hIn
    generalize hLB : flat' Op.cells (bO ks i) = LB at *
    generalize hLB2 : flat' Op.cells (bO ks (i + 1)) = LB2 at *
    generalize hLA : flat' Op.cells (aO ks i) = LA at *
    generalize hLA2 : flat' Op.cells (aO ks (i + 1)) = LA2 at *
    generalize ks.getD i w0 = w at *
    have hkv : ∀ (A B : AObj) (T : Heap) (q : Nat) (ob : AObj), T[q]? = some ob → (H ++ A :: B :: (x ++ T))[H.length + (x.length + q + 1 + 1)]? = some ob := fun A B T q ob h => by
      rw [List.getElem?_append_right (by omega), Nat.add_sub_cancel_left, List.getElem?_cons_succ, List.getElem?_cons_succ, List.getElem?_append_right (by omega), Nat.add_sub_cancel_left, h]
    repeat' first | simp (disch := first | with_reducible assumption | omega) only [go_sem, Bool.true_and, Bool.and_true, Bool.and_self, Bool.false_and, Bool.and_false, Bool.true_or, Bool.or_true, Bool.false_or, Bool.or_false, ↓reduceIte, Nat.reduceEqDiff, Nat.reduceAdd, Nat.reduceMul, Nat.reduceSub, Nat.reduceBEq, Nat.reduceLeDiff, Nat.reduceLT, Nat.reduceMod, Nat.reduceDiv, Int.reduceToNat, Int.reducePow, Int.reduceMul, Int.reduceAdd, Int.reduceSub, Int.reduceLE, Int.reduceLT, Int.reduceNeg, Int.reduceDiv, Int.reduceMod, Int.reduceEq, Int.reduceBEq, Int.reduceBNe, f5, f5b, f5r0, f5r1, f5r2, f5r3, f5r4, f5r5, f5r6, f5r7, f5r8, f5r9, f5r10, f5r11, f5r13, f5r14, f5r15, f5l0, hk, get_old hk, x0, x1, hfl, htk, hsn, hni] | (refine BrW.of (fun hb => ?_) (fun hb => ?_) <;> (have hb' := hb; try simp only [decide_eq_true_eq, decide_eq_false_iff_not, beq_iff_eq, bne_iff_ne, beq_eq_false_iff_ne, bne_eq_false_iff_eq, Bool.not_eq_true', Bool.not_eq_false', Bool.not_eq_true, Bool.not_eq_false, Bool.and_eq_true, Bool.or_eq_true, Bool.and_eq_false_iff, Bool.or_eq_false_iff, Int.not_lt, Int.not_le, ne_eq, gt_iff_lt, ge_iff_le] at hb') <;> (try (exfalso; omega))) | (refine altW.of ?_ ?_)
    all_goals
      refine .of ((hIn _ _ (by rw [get_new]; rfl) (hkv _ _ _ _ _ rfl) (by omega)).mono ?_)
      rintro v J ⟨rfl, rfl⟩
      rw [set_one]
      repeat' first | simp (disch := first | with_reducible assumption | omega) only [go_sem, Bool.true_and, Bool.and_true, Bool.and_self, Bool.false_and, Bool.and_false, Bool.true_or, Bool.or_true, Bool.false_or, Bool.or_false, ↓reduceIte, Nat.reduceEqDiff, Nat.reduceAdd, Nat.reduceMul, Nat.reduceSub, Nat.reduceBEq, Nat.reduceLeDiff, Nat.reduceLT, Nat.reduceMod, Nat.reduceDiv, Int.reduceToNat, Int.reducePow, Int.reduceMul, Int.reduceAdd, Int.reduceSub, Int.reduceLE, Int.reduceLT, Int.reduceNeg, Int.reduceDiv, Int.reduceMod, Int.reduceEq, Int.reduceBEq, Int.reduceBNe, f5, f5b, f5r0, f5r1, f5r2, f5r3, f5r4, f5r5, f5r6, f5r7, f5r8, f5r9, f5r10, f5r11, f5r13, f5r14, f5r15, f5l0, hk, get_old hk] | (refine BrW.of (fun hb => ?_) (fun hb => ?_) <;> (have hb' := hb; try simp only [decide_eq_true_eq, decide_eq_false_iff_not, beq_iff_eq, bne_iff_ne, beq_eq_false_iff_ne, bne_eq_false_iff_eq, Bool.not_eq_true', Bool.not_eq_false', Bool.not_eq_true, Bool.not_eq_false, Bool.and_eq_true, Bool.or_eq_true, Bool.and_eq_false_iff, Bool.or_eq_false_iff, Int.not_lt, Int.not_le, ne_eq, gt_iff_lt, ge_iff_le] at hb') <;> (try (exfalso; omega))) | (refine altW.of ?_ ?_)
      refine RdW.keep [0, 3, 4, 16, 17, 18] (ks.length - (i + 1)) (by omega) ?_
      simp (disch := first | with_reducible assumption | omega) only [go_sem, Bool.true_and, Bool.and_true, Bool.and_self, Bool.false_and, Bool.and_false, Bool.true_or, Bool.or_true, Bool.false_or, Bool.or_false, ↓reduceIte, Nat.reduceEqDiff, Nat.reduceAdd, Nat.reduceMul, Nat.reduceSub, Nat.reduceBEq, Nat.reduceLeDiff, Nat.reduceLT, Nat.reduceMod, Nat.reduceDiv, Int.reduceToNat, Int.reducePow, Int.reduceMul, Int.reduceAdd, Int.reduceSub, Int.reduceLE, Int.reduceLT, Int.reduceNeg, Int.reduceDiv, Int.reduceMod, Int.reduceEq, Int.reduceBEq, Int.reduceBNe]
      exact ⟨i + 1, ga + 1, gb + 1, _, rfl, by rw [hLA2, hLB2], by omega, rfl⟩
  · obtain rfl : i = ks.length := by omega
    have hoA := fun J hJ => IsH.at J H.length ga (aO ks ks.length) ks.length (aO_len ks _) hJ
    have hoB := fun J hJ => IsH.at J (H.length + 1) gb (bO ks ks.length) ks.length (bO_len ks _) hJ
    repeat' first | simp (disch := first | with_reducible assumption | omega) only [go_sem, Bool.true_and, Bool.and_true, Bool.and_self, Bool.false_and, Bool.and_false, Bool.true_or, Bool.or_true, Bool.false_or, Bool.or_false, ↓reduceIte, Nat.reduceEqDiff, Nat.reduceAdd, Nat.reduceMul, Nat.reduceSub, Nat.reduceBEq, Nat.reduceLeDiff, Nat.reduceLT, Nat.reduceMod, Nat.reduceDiv, Int.reduceToNat, Int.reducePow, Int.reduceMul, Int.reduceAdd, Int.reduceSub, Int.reduceLE, Int.reduceLT, Int.reduceNeg, Int.reduceDiv, Int.reduceMod, Int.reduceEq, Int.reduceBEq, Int.reduceBNe, f5, f5b, f5r0, f5r1, f5r2, f5r3, f5r4, f5r5, f5r6, f5r7, f5r8, f5r9, f5r10, f5r11, f5r13, f5r14, f5r15, f5l0, f5, f5b, f5r0, f5r1, f5r2, f5r3, f5r4, f5r5, f5r6, f5r7, f5r8, f5r9, f5r10, f5r11, f5r13, f5r14, f5r15, hk] | (refine BrW.of (fun hb => ?_) (fun hb => ?_) <;> (have hb' := hb; try simp only [decide_eq_true_eq, decide_eq_false_iff_not, beq_iff_eq, bne_iff_ne, beq_eq_false_iff_ne, bne_eq_false_iff_eq, Bool.not_eq_true', Bool.not_eq_false', Bool.not_eq_true, Bool.not_eq_false, Bool.and_eq_true, Bool.or_eq_true, Bool.and_eq_false_iff, Bool.or_eq_false_iff, Int.not_lt, Int.not_le, ne_eq, gt_iff_lt, ge_iff_le] at hb') <;> (try (exfalso; omega))) | (refine altW.of ?_ ?_)
    have q1 : (H ++ (AObj.cells ga 4 false (flat' Op.cells (aO ks ks.length)) :: AObj.cells gb 4 false (flat' Op.cells (bO ks ks.length)) :: x))[H.length]? = some (AObj.cells ga 4 false (flat' Op.cells (aO ks ks.length))) := get_new0 _ _ _
    have q2 : (H ++ (AObj.cells ga 4 false (flat' Op.cells (aO ks ks.length)) :: AObj.cells gb 4 false (flat' Op.cells (bO ks ks.length)) :: x))[H.length + 1]? = some (AObj.cells gb 4 false (flat' Op.cells (bO ks ks.length))) := by rw [get_new]; rfl
    have hA := hoA _ q1
    have hB2 := hoB _ q2
    have hkJ := get_old hk (AObj.cells ga 4 false (flat' Op.cells (aO ks ks.length)) :: AObj.cells gb 4 false (flat' Op.cells (bO ks ks.length)) :: x)
    generalize H ++ (AObj.cells ga 4 false (flat' Op.cells (aO ks ks.length)) :: AObj.cells gb 4 false (flat' Op.cells (bO ks ks.length)) :: x) = J at *
    refine .of ((Play_spec (aO ks ks.length) _ (fun _ => True) _ hA okA (by rw [aO_len]; omega)).mono ?_)
    rintro v G ⟨a, b, d, rfl, hLe, _, _, p3⟩
    have hB3 := hB2.le hLe
    have hkG := hLe.get hkJ
    repeat' first | simp (disch := first | with_reducible assumption | omega) only [go_sem, Bool.true_and, Bool.and_true, Bool.and_self, Bool.false_and, Bool.and_false, Bool.true_or, Bool.or_true, Bool.false_or, Bool.or_false, ↓reduceIte, Nat.reduceEqDiff, Nat.reduceAdd, Nat.reduceMul, Nat.reduceSub, Nat.reduceBEq, Nat.reduceLeDiff, Nat.reduceLT, Nat.reduceMod, Nat.reduceDiv, Int.reduceToNat, Int.reducePow, Int.reduceMul, Int.reduceAdd, Int.reduceSub, Int.reduceLE, Int.reduceLT, Int.reduceNeg, Int.reduceDiv, Int.reduceMod, Int.reduceEq, Int.reduceBEq, Int.reduceBNe, f5, f5b, f5r0, f5r1, f5r2, f5r3, f5r4, f5r5, f5r6, f5r7, f5r8, f5r9, f5r10, f5r11, f5r13, f5r14, f5r15] | (refine BrW.of (fun hb => ?_) (fun hb => ?_) <;> (have hb' := hb; try simp only [decide_eq_true_eq, decide_eq_false_iff_not, beq_iff_eq, bne_iff_ne, beq_eq_false_iff_ne, bne_eq_false_iff_eq, Bool.not_eq_true', Bool.not_eq_false', Bool.not_eq_true, Bool.not_eq_false, Bool.and_eq_true, Bool.or_eq_true, Bool.and_eq_false_iff, Bool.or_eq_false_iff, Int.not_lt, Int.not_le, ne_eq, gt_iff_lt, ge_iff_le] at hb') <;> (try (exfalso; omega))) | (refine altW.of ?_ ?_)
    refine .of ((Play_spec (bO ks ks.length) _ (fun _ => True) _ hB3 okB (by rw [bO_len]; omega)).mono ?_)
    rintro v G2 ⟨a2, b2, d2, rfl, hLe2, _, _, r3⟩
    have hkG2 := hLe2.get hkG
    rw [← ho1] at r3
    have p3 := p3.le hLe2
    have hE := EqualI_of ((runR (aO ks ks.length)).s.map (·.i)) d d2 G2 G2 p3 r3 (by rw [List.length_map, ho2]; omega) (Le.refl _)
    obtain ⟨k3, o3, g3, c3, _, rfl, t3, _⟩ := p3
    obtain ⟨rb, cb, hb9, _, _⟩ := Ints.cell t3
    have z3 : ((runR (aO ks ks.length)).s.map (·.i)).length = ks.length := by rw [List.length_map, ho2]
    rw [z3] at hE ⊢
    repeat' first | simp (disch := first | with_reducible assumption | omega) only [go_sem, Bool.true_and, Bool.and_true, Bool.and_self, Bool.false_and, Bool.and_false, Bool.true_or, Bool.or_true, Bool.false_or, Bool.or_false, ↓reduceIte, Nat.reduceEqDiff, Nat.reduceAdd, Nat.reduceMul, Nat.reduceSub, Nat.reduceBEq, Nat.reduceLeDiff, Nat.reduceLT, Nat.reduceMod, Nat.reduceDiv, Int.reduceToNat, Int.reducePow, Int.reduceMul, Int.reduceAdd, Int.reduceSub, Int.reduceLE, Int.reduceLT, Int.reduceNeg, Int.reduceDiv, Int.reduceMod, Int.reduceEq, Int.reduceBEq, Int.reduceBNe, f5, f5b, f5r0, f5r1, f5r2, f5r3, f5r4, f5r5, f5r6, f5r7, f5r8, f5r9, f5r10, f5r11, f5r13, f5r14, f5r15, hkG2, hb9] | (refine BrW.of (fun hb => ?_) (fun hb => ?_) <;> (have hb' := hb; try simp only [decide_eq_true_eq, decide_eq_false_iff_not, beq_iff_eq, bne_iff_ne, beq_eq_false_iff_ne, bne_eq_false_iff_eq, Bool.not_eq_true', Bool.not_eq_false', Bool.not_eq_true, Bool.not_eq_false, Bool.and_eq_true, Bool.or_eq_true, Bool.and_eq_false_iff, Bool.or_eq_false_iff, Int.not_lt, Int.not_le, ne_eq, gt_iff_lt, ge_iff_le] at hb') <;> (try (exfalso; omega))) | (refine altW.of ?_ ?_) | (refine .of (hE.mono ?_); rintro v J' ⟨rfl, hJ⟩; obtain rfl := hJ.symm)
    all_goals first | exact .here rfl | (exfalso; omega)
end Go.Proofs.Ytjdmpkaiijcchaa
