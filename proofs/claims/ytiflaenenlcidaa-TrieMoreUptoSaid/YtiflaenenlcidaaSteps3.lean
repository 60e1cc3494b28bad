import Derived.Test.YtiflaenenlcidaaSteps2
set_option linter.unusedSimpArgs false
set_option linter.unusedVariables false
set_option maxHeartbeats 1000000
set_option maxRecDepth 20000
namespace Go.Proofs.Ytiflaenenlcidaa
open Go Go.Am
attribute [local irreducible] opsW Ww loopW callW drawW outW outDW gW cW BrW bothW vW resW DropW RdW dcallW altW Later.run

def a0 : A := ⟨0, 0, 0, 0⟩
abbrev As (H : Heap) (k o g : Nat) (l : List A) : Prop := Tbl A A.cells 4 a0 H k o g l
/-- What is found by paths shorter than k. -/
def fn (l : List Px) (a : A) : Nat → Option Int
  | 0 => none
  | k + 1 => found l a k
theorem fn_succ (l : List Px) (a : A) (k : Nat) : fn l a (k + 1) = (look l (pathOf a k)).or (fn l a k) := by
  cases k with
  | zero => simp only [fn, found, pathOf, Option.or_none]
  | succ k => rfl
theorem fn_stop (l : List Px) (a : A) (k : Nat) (h : ∀ m, k ≤ m → m ≤ 32 → look l (pathOf a m) = none) : ∀ d, k + d ≤ 33 → fn l a (k + d) = fn l a k
  | 0, _ => rfl
  | d + 1, hd => by
    rw [show k + (d + 1) = (k + d) + 1 from rfl, fn_succ, h (k + d) (by omega) (by omega), Option.none_or]
    exact fn_stop l a k h d (by omega)
def nodeV (N : NMap) (a : A) (k : Nat) : Value := match N (pathOf a k) with | some j => .pointer (some ⟨j, 0, some 1⟩) | none => .pointer none
def vals' (l : List Px) (ls : List A) : List Int := ls.map fun a => (found l a 32).getD 0
def oks' (l : List Px) (ls : List A) : List Bool := ls.map fun a => (found l a 32).isSome

theorem Find_u (l : List Px) (ls : List A) (k1 o1 g1 c1 k2 o2 g2 c2 : Nat) (H : Heap) (hs : Ps H k1 o1 g1 l) (hlc : l.length ≤ c1) (hB : l.length ≤ 9223372036854775807) (hok : ∀ x ∈ l, x.ad.ok) (ha : As H k2 o2 g2 ls) (hA : ls.length ≤ 1048576) (hao : ∀ a ∈ ls, a.ok) :
    ACallK Try.prog 10 [slv k1 o1 g1 l.length c1, slv k2 o2 g2 ls.length c2] H (fun v H' => ∃ a b e, v = .tuple #[a, b, .int .i64 e] ∧ Le H H' ∧ (e = 0 ↔ Fine l) ∧ (e ≠ 0 → a = .slice none 0 0 ∧ b = .slice none 0 0) ∧
      (e = 0 → ∃ q1 p1 q2 p2, a = slv q1 0 p1 ls.length ls.length ∧ b = slv q2 0 p2 ls.length ls.length ∧ Ints H' q1 0 p1 (vals' l ls) ∧ Bools H' q2 0 p2 (oks' l ls))) := by
  obtain ⟨ro, cs, hk, hcl, hcs⟩ := ha.at'
  have hW := fun H' hs' => Wrong_u l k1 o1 g1 c1 H' hs' hlc hB (fun i hi => hok _ (getD_mem hi))
  refine .walkW f10_ok (by simp; decide) (by decide) ?_
  simp (disch := first | with_reducible assumption | omega) only [go_sem, Bool.true_and, Bool.and_true, Bool.and_self, Bool.false_and, Bool.and_false, Bool.true_or, Bool.or_true, Bool.false_or, Bool.or_false, ↓reduceIte, Nat.reduceEqDiff, Nat.reduceAdd, Nat.reduceMul, Nat.reduceSub, Nat.reduceBEq, Nat.reduceLeDiff, Nat.reduceLT, Nat.reduceMod, Nat.reduceDiv, Int.reduceToNat, Int.reducePow, Int.reduceMul, Int.reduceAdd, Int.reduceSub, Int.reduceLE, Int.reduceLT, Int.reduceNeg, Int.reduceDiv, Int.reduceMod, Int.reduceEq, Int.reduceBEq, Int.reduceBNe, f10, f10b, f10r0, f10r1, f10r2, f10r3, f10r4, f10r5, f10r6, f10r7, f10r8, f10r9, f10r10, f10r11, f10r12, f10r13, f10r14, f10r15, f10r16, f10r17, f10r18, f10r20, f10r21, f10r23]
  refine .of ((hW _ hs).mono ?_)
  rintro v H ⟨e, rfl, rfl, he⟩
  by_cases z : e = 0
  · have hf := he.1 z
    subst z
    have hbd := build_spec l k1 o1 g1 c1 H hs hf.len hf.long hok
    repeat' first | simp (disch := first | with_reducible assumption | omega) only [go_sem, Bool.true_and, Bool.and_true, Bool.and_self, Bool.false_and, Bool.and_false, Bool.true_or, Bool.or_true, Bool.false_or, Bool.or_false, ↓reduceIte, Nat.reduceEqDiff, Nat.reduceAdd, Nat.reduceMul, Nat.reduceSub, Nat.reduceBEq, Nat.reduceLeDiff, Nat.reduceLT, Nat.reduceMod, Nat.reduceDiv, Int.reduceToNat, Int.reducePow, Int.reduceMul, Int.reduceAdd, Int.reduceSub, Int.reduceLE, Int.reduceLT, Int.reduceNeg, Int.reduceDiv, Int.reduceMod, Int.reduceEq, Int.reduceBEq, Int.reduceBNe, f10, f10b, f10r0, f10r1, f10r2, f10r3, f10r4, f10r5, f10r6, f10r7, f10r8, f10r9, f10r10, f10r11, f10r12, f10r13, f10r14, f10r15, f10r16, f10r17, f10r18, f10r20, f10r21, f10r23] | (refine BrW.of (fun hb => ?_) (fun hb => ?_) <;> (have hb' := hb; try simp only [decide_eq_true_eq, decide_eq_false_iff_not, beq_iff_eq, bne_iff_ne, beq_eq_false_iff_ne, bne_eq_false_iff_eq, Bool.not_eq_true', Bool.not_eq_false', Bool.not_eq_true, Bool.not_eq_false, Bool.and_eq_true, Bool.or_eq_true, Bool.and_eq_false_iff, Bool.or_eq_false_iff, Int.not_lt, Int.not_le, ne_eq, gt_iff_lt, ge_iff_le] at hb') <;> (try (exfalso; omega))) | (refine altW.of ?_ ?_) | (refine .of (hbd.mono ?_); rintro v J ⟨N, T, r, rfl, hle, hR, hN, hT⟩)
    have hkJ := hle.get hk
    repeat' first | simp (disch := first | with_reducible assumption | omega) only [go_sem, Bool.true_and, Bool.and_true, Bool.and_self, Bool.false_and, Bool.and_false, Bool.true_or, Bool.or_true, Bool.false_or, Bool.or_false, ↓reduceIte, Nat.reduceEqDiff, Nat.reduceAdd, Nat.reduceMul, Nat.reduceSub, Nat.reduceBEq, Nat.reduceLeDiff, Nat.reduceLT, Nat.reduceMod, Nat.reduceDiv, Int.reduceToNat, Int.reducePow, Int.reduceMul, Int.reduceAdd, Int.reduceSub, Int.reduceLE, Int.reduceLT, Int.reduceNeg, Int.reduceDiv, Int.reduceMod, Int.reduceEq, Int.reduceBEq, Int.reduceBNe, f10, f10b, f10r0, f10r1, f10r2, f10r3, f10r4, f10r5, f10r6, f10r7, f10r8, f10r9, f10r10, f10r11, f10r12, f10r13, f10r14, f10r15, f10r16, f10r17, f10r18, f10r20, f10r21, f10r23, hkJ] | (refine BrW.of (fun hb => ?_) (fun hb => ?_) <;> (have hb' := hb; try simp only [decide_eq_true_eq, decide_eq_false_iff_not, beq_iff_eq, bne_iff_ne, beq_eq_false_iff_ne, bne_eq_false_iff_eq, Bool.not_eq_true', Bool.not_eq_false', Bool.not_eq_true, Bool.not_eq_false, Bool.and_eq_true, Bool.or_eq_true, Bool.and_eq_false_iff, Bool.or_eq_false_iff, Int.not_lt, Int.not_le, ne_eq, gt_iff_lt, ge_iff_le] at hb') <;> (try (exfalso; omega))) | (refine altW.of ?_ ?_)
    refine loopW.ghost 9 1 rfl ?_
    simp (disch := first | with_reducible assumption | omega) only [go_sem, Bool.true_and, Bool.and_true, Bool.and_self, Bool.false_and, Bool.and_false, Bool.true_or, Bool.or_true, Bool.false_or, Bool.or_false, ↓reduceIte, Nat.reduceEqDiff, Nat.reduceAdd, Nat.reduceMul, Nat.reduceSub, Nat.reduceBEq, Nat.reduceLeDiff, Nat.reduceLT, Nat.reduceMod, Nat.reduceDiv, Int.reduceToNat, Int.reducePow, Int.reduceMul, Int.reduceAdd, Int.reduceSub, Int.reduceLE, Int.reduceLT, Int.reduceNeg, Int.reduceDiv, Int.reduceMod, Int.reduceEq, Int.reduceBEq, Int.reduceBNe]
    refine loopW.ghost 10 1 rfl ?_
    simp (disch := first | with_reducible assumption | omega) only [go_sem, Bool.true_and, Bool.and_true, Bool.and_self, Bool.false_and, Bool.and_false, Bool.true_or, Bool.or_true, Bool.false_or, Bool.or_false, ↓reduceIte, Nat.reduceEqDiff, Nat.reduceAdd, Nat.reduceMul, Nat.reduceSub, Nat.reduceBEq, Nat.reduceLeDiff, Nat.reduceLT, Nat.reduceMod, Nat.reduceDiv, Int.reduceToNat, Int.reducePow, Int.reduceMul, Int.reduceAdd, Int.reduceSub, Int.reduceLE, Int.reduceLT, Int.reduceNeg, Int.reduceDiv, Int.reduceMod, Int.reduceEq, Int.reduceBEq, Int.reduceBNe]
    have hlk : ∀ p, N p = none → look l p = none := fun p hp => by
      rw [← hT p]
      cases h : T p with
      | none => rfl
      | some z => exact (hR.tn p (by rw [h]; simp) hp).elim
    have hdone : ∀ a k, k ≤ 33 → N (pathOf a k) = none → fn l a k = found l a 32 := fun a k hk33 hn => by
      have hall : ∀ d, N (pathOf a (k + d)) = none := by
        intro d
        induction d with
        | zero => exact hn
        | succ d ih =>
          cases h : N (pathOf a (k + (d + 1))) with
          | none => rfl
          | some j => exact (hR.up (pathOf a (k + d)) (bit a (k + d)) (by rw [show pathOf a (k + d) ++ [bit a (k + d)] = pathOf a (k + (d + 1)) from rfl, h]; simp) ih).elim
      have := fn_stop l a k (fun m h1 h2 => hlk _ (by have := hall (m - k); rwa [show k + (m - k) = m by omega] at this)) (33 - k) (by omega)
      rw [show k + (33 - k) = 33 by omega] at this
      exact this.symm
    refine loopW.of (by decide) (fun m e J2 => ∃ (i p1 p2 : Nat) (x : Heap), e = [(8, .pointer (some ⟨r, 0, some 1⟩)), (9, slv J.length 0 p1 i i), (10, slv (J.length + 1) 0 p2 i i), (24, slv k2 o2 g2 ls.length c2), (25, .int .i64 ls.length), (26, .int .i64 i)] ∧
      J2 = J ++ (.cells p1 1 false (ints (vals' l (ls.take i))) :: .cells p2 1 false (bools (oks' l (ls.take i))) :: x) ∧ i ≤ ls.length ∧ m = ls.length - i) ls.length ⟨0, 0, 0, [], rfl, rfl, by omega, rfl⟩ ?_
    rintro m e J2 ⟨i, p1, p2, x, rfl, rfl, hi, rfl⟩
    by_cases hlt : i < ls.length
    · have hld := Tbl.ld (enc := A.cells) (fun _ => rfl) hcs i hlt
      have hao' := hao _ (getD_mem (d := a0) hlt)
      have v1 : vals' l (ls.take (i + 1)) = vals' l (ls.take i) ++ [(found l (ls.getD i a0) 32).getD 0] := by unfold vals'; rw [take_snoc a0 ls i hlt]; simp
      have v2 : oks' l (ls.take (i + 1)) = oks' l (ls.take i) ++ [(found l (ls.getD i a0) 32).isSome] := by unfold oks'; rw [take_snoc a0 ls i hlt]; simp
      have il1 : (ints (vals' l (ls.take i))).length = i := by rw [ints_length]; simp [vals']; omega
      have il2 : (bools (oks' l (ls.take i))).length = i := by rw [bools_length]; simp [oks']; omega
      generalize ls.getD i a0 = a at *
      generalize vals' l (ls.take i) = V1 at *
      generalize oks' l (ls.take i) = V2 at *
      simp only [A.cells] at hld
      repeat' first | simp (disch := first | with_reducible assumption | omega) only [go_sem, Bool.true_and, Bool.and_true, Bool.and_self, Bool.false_and, Bool.and_false, Bool.true_or, Bool.or_true, Bool.false_or, Bool.or_false, ↓reduceIte, Nat.reduceEqDiff, Nat.reduceAdd, Nat.reduceMul, Nat.reduceSub, Nat.reduceBEq, Nat.reduceLeDiff, Nat.reduceLT, Nat.reduceMod, Nat.reduceDiv, Int.reduceToNat, Int.reducePow, Int.reduceMul, Int.reduceAdd, Int.reduceSub, Int.reduceLE, Int.reduceLT, Int.reduceNeg, Int.reduceDiv, Int.reduceMod, Int.reduceEq, Int.reduceBEq, Int.reduceBNe, f10, f10b, f10r0, f10r1, f10r2, f10r3, f10r4, f10r5, f10r6, f10r7, f10r8, f10r9, f10r10, f10r11, f10r12, f10r13, f10r14, f10r15, f10r16, f10r17, f10r18, f10r20, f10r21, f10r23, f10l1, hkJ, get_old hkJ, ↓hld] | (refine BrW.of (fun hb => ?_) (fun hb => ?_) <;> (have hb' := hb; try simp only [decide_eq_true_eq, decide_eq_false_iff_not, beq_iff_eq, bne_iff_ne, beq_eq_false_iff_ne, bne_eq_false_iff_eq, Bool.not_eq_true', Bool.not_eq_false', Bool.not_eq_true, Bool.not_eq_false, Bool.and_eq_true, Bool.or_eq_true, Bool.and_eq_false_iff, Bool.or_eq_false_iff, Int.not_lt, Int.not_le, ne_eq, gt_iff_lt, ge_iff_le] at hb') <;> (try (exfalso; omega))) | (refine altW.of ?_ ?_)
      have hR2 := hR.le (.app J (.cells p1 1 false (ints V1) :: .cells p2 1 false (bools V2) :: (x ++ [.cells 0 0 false [.int .u8 a.b0, .int .u8 a.b1, .int .u8 a.b2, .int .u8 a.b3]])))
      have hP : (J ++ (AObj.cells p1 1 false (ints V1) :: .cells p2 1 false (bools V2) :: (x ++ [.cells 0 0 false [.int .u8 a.b0, .int .u8 a.b1, .int .u8 a.b2, .int .u8 a.b3]])))[J.length + (x.length + 1 + 1)]? = some (.cells 0 0 false [.int .u8 a.b0, .int .u8 a.b1, .int .u8 a.b2, .int .u8 a.b3]) := by
        rw [get_new]
        simp
      generalize hG : J ++ (AObj.cells p1 1 false (ints V1) :: .cells p2 1 false (bools V2) :: (x ++ [.cells 0 0 false [.int .u8 a.b0, .int .u8 a.b1, .int .u8 a.b2, .int .u8 a.b3]])) = G at *
      generalize J.length + (x.length + 1 + 1) = P at *
      refine loopW.of (by decide) (fun m e J2 => ∃ (k : Nat), e = [(8, .pointer (some ⟨r, 0, some 1⟩)), (9, slv J.length 0 p1 i i), (10, slv (J.length + 1) 0 p2 i i), (12, .pointer (some ⟨P, 0, some 1⟩)), (13, .int .i64 ((fn l a k).getD 0)), (14, .bool (fn l a k).isSome), (15, nodeV N a k), (16, .int .i64 k), (24, slv k2 o2 g2 ls.length c2), (25, .int .i64 ls.length), (26, .int .i64 i)] ∧
        J2 = G ∧ k ≤ 32 ∧ m = 33 - k) 33 ⟨0, by unfold nodeV; rw [show pathOf a 0 = [] from rfl, hN]; rfl, rfl, by omega, rfl⟩ ?_
      rintro m e G ⟨k, rfl, rfl, hk32, rfl⟩
      have hfs := fn_succ l a k
      cases hnk : N (pathOf a k) with
      | none =>
        have hd := hdone a k (by omega) hnk
        have hv : nodeV N a k = .pointer none := by unfold nodeV; rw [hnk]
        rw [hv, hd]
        have hni : ¬ i + 1 ≤ i := by omega
        have htk1 : (ints V1).take i = ints V1 := by rw [List.take_of_length_le (by omega)]
        have htk2 : (bools V2).take i = bools V2 := by rw [List.take_of_length_le (by omega)]
        subst hG
        repeat' first | simp (disch := first | with_reducible assumption | omega) only [go_sem, Bool.true_and, Bool.and_true, Bool.and_self, Bool.false_and, Bool.and_false, Bool.true_or, Bool.or_true, Bool.false_or, Bool.or_false, ↓reduceIte, Nat.reduceEqDiff, Nat.reduceAdd, Nat.reduceMul, Nat.reduceSub, Nat.reduceBEq, Nat.reduceLeDiff, Nat.reduceLT, Nat.reduceMod, Nat.reduceDiv, Int.reduceToNat, Int.reducePow, Int.reduceMul, Int.reduceAdd, Int.reduceSub, Int.reduceLE, Int.reduceLT, Int.reduceNeg, Int.reduceDiv, Int.reduceMod, Int.reduceEq, Int.reduceBEq, Int.reduceBNe, f10, f10b, f10r0, f10r1, f10r2, f10r3, f10r4, f10r5, f10r6, f10r7, f10r8, f10r9, f10r10, f10r11, f10r12, f10r13, f10r14, f10r15, f10r16, f10r17, f10r18, f10r20, f10r21, f10r23, f10l0, f10, f10b, f10r0, f10r1, f10r2, f10r3, f10r4, f10r5, f10r6, f10r7, f10r8, f10r9, f10r10, f10r11, f10r12, f10r13, f10r14, f10r15, f10r16, f10r17, f10r18, f10r20, f10r21, f10r23, hP, il1, il2, hni, htk1, htk2] | (refine BrW.of (fun hb => ?_) (fun hb => ?_) <;> (have hb' := hb; try simp only [decide_eq_true_eq, decide_eq_false_iff_not, beq_iff_eq, bne_iff_ne, beq_eq_false_iff_ne, bne_eq_false_iff_eq, Bool.not_eq_true', Bool.not_eq_false', Bool.not_eq_true, Bool.not_eq_false, Bool.and_eq_true, Bool.or_eq_true, Bool.and_eq_false_iff, Bool.or_eq_false_iff, Int.not_lt, Int.not_le, ne_eq, gt_iff_lt, ge_iff_le] at hb') <;> (try (exfalso; omega))) | (refine altW.of ?_ ?_)
        refine RdW.keep [8, 9, 10, 24, 25, 26] (ls.length - (i + 1)) (by omega) ?_
        simp (disch := first | with_reducible assumption | omega) only [go_sem, Bool.true_and, Bool.and_true, Bool.and_self, Bool.false_and, Bool.and_false, Bool.true_or, Bool.or_true, Bool.false_or, Bool.or_false, ↓reduceIte, Nat.reduceEqDiff, Nat.reduceAdd, Nat.reduceMul, Nat.reduceSub, Nat.reduceBEq, Nat.reduceLeDiff, Nat.reduceLT, Nat.reduceMod, Nat.reduceDiv, Int.reduceToNat, Int.reducePow, Int.reduceMul, Int.reduceAdd, Int.reduceSub, Int.reduceLE, Int.reduceLT, Int.reduceNeg, Int.reduceDiv, Int.reduceMod, Int.reduceEq, Int.reduceBEq, Int.reduceBNe]
        exact ⟨i + 1, p1 + 1, p2 + 1, _, rfl, by rw [v1, v2, ← ints_app, ← bools_app]; rfl, by omega, rfl⟩
      | some cur =>
        have hv : nodeV N a k = .pointer (some ⟨cur, 0, some 1⟩) := by unfold nodeV; rw [hnk]
        have hnode := (hR2.node _ _ hnk).2
        have hkv : kidV N (pathOf a k) (bit a k) = nodeV N a (k + 1) := rfl
        rw [hv]
        cases ht : T (pathOf a k) with
        | none =>
          have htv : toV T (pathOf a k) = .pointer none := by unfold toV; rw [ht]
          have hlo : look l (pathOf a k) = none := by rw [← hT, ht]; rfl
          rw [hlo, Option.none_or] at hfs
          rw [htv] at hnode
          by_cases hk : k = 32
          · subst hk
            rw [← hfs, show fn l a (32 + 1) = found l a 32 from rfl]
            have hni : ¬ i + 1 ≤ i := by omega
            have htk1 : (ints V1).take i = ints V1 := by rw [List.take_of_length_le (by omega)]
            have htk2 : (bools V2).take i = bools V2 := by rw [List.take_of_length_le (by omega)]
            subst hG
            repeat' first | simp (disch := first | with_reducible assumption | omega) only [go_sem, Bool.true_and, Bool.and_true, Bool.and_self, Bool.false_and, Bool.and_false, Bool.true_or, Bool.or_true, Bool.false_or, Bool.or_false, ↓reduceIte, Nat.reduceEqDiff, Nat.reduceAdd, Nat.reduceMul, Nat.reduceSub, Nat.reduceBEq, Nat.reduceLeDiff, Nat.reduceLT, Nat.reduceMod, Nat.reduceDiv, Int.reduceToNat, Int.reducePow, Int.reduceMul, Int.reduceAdd, Int.reduceSub, Int.reduceLE, Int.reduceLT, Int.reduceNeg, Int.reduceDiv, Int.reduceMod, Int.reduceEq, Int.reduceBEq, Int.reduceBNe, f10, f10b, f10r0, f10r1, f10r2, f10r3, f10r4, f10r5, f10r6, f10r7, f10r8, f10r9, f10r10, f10r11, f10r12, f10r13, f10r14, f10r15, f10r16, f10r17, f10r18, f10r20, f10r21, f10r23, f10l0, f10, f10b, f10r0, f10r1, f10r2, f10r3, f10r4, f10r5, f10r6, f10r7, f10r8, f10r9, f10r10, f10r11, f10r12, f10r13, f10r14, f10r15, f10r16, f10r17, f10r18, f10r20, f10r21, f10r23, hP, hnode, il1, il2, hni, htk1, htk2] | (refine BrW.of (fun hb => ?_) (fun hb => ?_) <;> (have hb' := hb; try simp only [decide_eq_true_eq, decide_eq_false_iff_not, beq_iff_eq, bne_iff_ne, beq_eq_false_iff_ne, bne_eq_false_iff_eq, Bool.not_eq_true', Bool.not_eq_false', Bool.not_eq_true, Bool.not_eq_false, Bool.and_eq_true, Bool.or_eq_true, Bool.and_eq_false_iff, Bool.or_eq_false_iff, Int.not_lt, Int.not_le, ne_eq, gt_iff_lt, ge_iff_le] at hb') <;> (try (exfalso; omega))) | (refine altW.of ?_ ?_)
            refine RdW.keep [8, 9, 10, 24, 25, 26] (ls.length - (i + 1)) (by omega) ?_
            simp (disch := first | with_reducible assumption | omega) only [go_sem, Bool.true_and, Bool.and_true, Bool.and_self, Bool.false_and, Bool.and_false, Bool.true_or, Bool.or_true, Bool.false_or, Bool.or_false, ↓reduceIte, Nat.reduceEqDiff, Nat.reduceAdd, Nat.reduceMul, Nat.reduceSub, Nat.reduceBEq, Nat.reduceLeDiff, Nat.reduceLT, Nat.reduceMod, Nat.reduceDiv, Int.reduceToNat, Int.reducePow, Int.reduceMul, Int.reduceAdd, Int.reduceSub, Int.reduceLE, Int.reduceLT, Int.reduceNeg, Int.reduceDiv, Int.reduceMod, Int.reduceEq, Int.reduceBEq, Int.reduceBNe]
            exact ⟨i + 1, p1 + 1, p2 + 1, _, rfl, by rw [v1, v2, ← ints_app, ← bools_app]; rfl, by omega, rfl⟩
          · rcases bit_two a k with hz | hz
            · have hbs := fun H' => bit_spec a k H' hao' (by omega)
              rw [hz] at hbs hkv
              repeat' first | simp (disch := first | with_reducible assumption | omega) only [go_sem, Bool.true_and, Bool.and_true, Bool.and_self, Bool.false_and, Bool.and_false, Bool.true_or, Bool.or_true, Bool.false_or, Bool.or_false, ↓reduceIte, Nat.reduceEqDiff, Nat.reduceAdd, Nat.reduceMul, Nat.reduceSub, Nat.reduceBEq, Nat.reduceLeDiff, Nat.reduceLT, Nat.reduceMod, Nat.reduceDiv, Int.reduceToNat, Int.reducePow, Int.reduceMul, Int.reduceAdd, Int.reduceSub, Int.reduceLE, Int.reduceLT, Int.reduceNeg, Int.reduceDiv, Int.reduceMod, Int.reduceEq, Int.reduceBEq, Int.reduceBNe, f10, f10b, f10r0, f10r1, f10r2, f10r3, f10r4, f10r5, f10r6, f10r7, f10r8, f10r9, f10r10, f10r11, f10r12, f10r13, f10r14, f10r15, f10r16, f10r17, f10r18, f10r20, f10r21, f10r23, f10l0, hP, hnode, hkv, hP] | (refine BrW.of (fun hb => ?_) (fun hb => ?_) <;> (have hb' := hb; try simp only [decide_eq_true_eq, decide_eq_false_iff_not, beq_iff_eq, bne_iff_ne, beq_eq_false_iff_ne, bne_eq_false_iff_eq, Bool.not_eq_true', Bool.not_eq_false', Bool.not_eq_true, Bool.not_eq_false, Bool.and_eq_true, Bool.or_eq_true, Bool.and_eq_false_iff, Bool.or_eq_false_iff, Int.not_lt, Int.not_le, ne_eq, gt_iff_lt, ge_iff_le] at hb') <;> (try (exfalso; omega))) | (refine altW.of ?_ ?_) | (refine dcallW.of _ _ (hbs _) ?_) | (refine callW.ex _ _ (hbs _) ?_)
              refine RdW.keep [8, 9, 10, 12, 13, 14, 15, 16, 24, 25, 26] (33 - (k + 1)) (by omega) ?_
              simp (disch := first | with_reducible assumption | omega) only [go_sem, Bool.true_and, Bool.and_true, Bool.and_self, Bool.false_and, Bool.and_false, Bool.true_or, Bool.or_true, Bool.false_or, Bool.or_false, ↓reduceIte, Nat.reduceEqDiff, Nat.reduceAdd, Nat.reduceMul, Nat.reduceSub, Nat.reduceBEq, Nat.reduceLeDiff, Nat.reduceLT, Nat.reduceMod, Nat.reduceDiv, Int.reduceToNat, Int.reducePow, Int.reduceMul, Int.reduceAdd, Int.reduceSub, Int.reduceLE, Int.reduceLT, Int.reduceNeg, Int.reduceDiv, Int.reduceMod, Int.reduceEq, Int.reduceBEq, Int.reduceBNe]
              exact ⟨k + 1, by rw [hfs]; rfl, by omega, rfl⟩
            · have hbs := fun H' => bit_spec a k H' hao' (by omega)
              rw [hz] at hbs hkv
              repeat' first | simp (disch := first | with_reducible assumption | omega) only [go_sem, Bool.true_and, Bool.and_true, Bool.and_self, Bool.false_and, Bool.and_false, Bool.true_or, Bool.or_true, Bool.false_or, Bool.or_false, ↓reduceIte, Nat.reduceEqDiff, Nat.reduceAdd, Nat.reduceMul, Nat.reduceSub, Nat.reduceBEq, Nat.reduceLeDiff, Nat.reduceLT, Nat.reduceMod, Nat.reduceDiv, Int.reduceToNat, Int.reducePow, Int.reduceMul, Int.reduceAdd, Int.reduceSub, Int.reduceLE, Int.reduceLT, Int.reduceNeg, Int.reduceDiv, Int.reduceMod, Int.reduceEq, Int.reduceBEq, Int.reduceBNe, f10, f10b, f10r0, f10r1, f10r2, f10r3, f10r4, f10r5, f10r6, f10r7, f10r8, f10r9, f10r10, f10r11, f10r12, f10r13, f10r14, f10r15, f10r16, f10r17, f10r18, f10r20, f10r21, f10r23, f10l0, hP, hnode, hkv, hP] | (refine BrW.of (fun hb => ?_) (fun hb => ?_) <;> (have hb' := hb; try simp only [decide_eq_true_eq, decide_eq_false_iff_not, beq_iff_eq, bne_iff_ne, beq_eq_false_iff_ne, bne_eq_false_iff_eq, Bool.not_eq_true', Bool.not_eq_false', Bool.not_eq_true, Bool.not_eq_false, Bool.and_eq_true, Bool.or_eq_true, Bool.and_eq_false_iff, Bool.or_eq_false_iff, Int.not_lt, Int.not_le, ne_eq, gt_iff_lt, ge_iff_le] at hb') <;> (try (exfalso; omega))) | (refine altW.of ?_ ?_) | (refine dcallW.of _ _ (hbs _) ?_) | (refine callW.ex _ _ (hbs _) ?_)
              refine RdW.keep [8, 9, 10, 12, 13, 14, 15, 16, 24, 25, 26] (33 - (k + 1)) (by omega) ?_
              simp (disch := first | with_reducible assumption | omega) only [go_sem, Bool.true_and, Bool.and_true, Bool.and_self, Bool.false_and, Bool.and_false, Bool.true_or, Bool.or_true, Bool.false_or, Bool.or_false, ↓reduceIte, Nat.reduceEqDiff, Nat.reduceAdd, Nat.reduceMul, Nat.reduceSub, Nat.reduceBEq, Nat.reduceLeDiff, Nat.reduceLT, Nat.reduceMod, Nat.reduceDiv, Int.reduceToNat, Int.reducePow, Int.reduceMul, Int.reduceAdd, Int.reduceSub, Int.reduceLE, Int.reduceLT, Int.reduceNeg, Int.reduceDiv, Int.reduceMod, Int.reduceEq, Int.reduceBEq, Int.reduceBNe]
              exact ⟨k + 1, by rw [hfs]; rfl, by omega, rfl⟩
        | some jv =>
          obtain ⟨j, v⟩ := jv
          have htv : toV T (pathOf a k) = .pointer (some ⟨j, 0, some 1⟩) := by unfold toV; rw [ht]
          have hlo : look l (pathOf a k) = some v := by rw [← hT, ht]; rfl
          have hleaf := hR2.leaf _ _ _ ht
          rw [hlo, Option.some_or] at hfs
          rw [htv] at hnode
          by_cases hk : k = 32
          · subst hk
            have hfv : found l a 32 = some v := hfs
            rw [hfv] at v1 v2
            simp only [Option.getD_some, Option.isSome_some] at v1 v2
            have hni : ¬ i + 1 ≤ i := by omega
            have htk1 : (ints V1).take i = ints V1 := by rw [List.take_of_length_le (by omega)]
            have htk2 : (bools V2).take i = bools V2 := by rw [List.take_of_length_le (by omega)]
            subst hG
            repeat' first | simp (disch := first | with_reducible assumption | omega) only [go_sem, Bool.true_and, Bool.and_true, Bool.and_self, Bool.false_and, Bool.and_false, Bool.true_or, Bool.or_true, Bool.false_or, Bool.or_false, ↓reduceIte, Nat.reduceEqDiff, Nat.reduceAdd, Nat.reduceMul, Nat.reduceSub, Nat.reduceBEq, Nat.reduceLeDiff, Nat.reduceLT, Nat.reduceMod, Nat.reduceDiv, Int.reduceToNat, Int.reducePow, Int.reduceMul, Int.reduceAdd, Int.reduceSub, Int.reduceLE, Int.reduceLT, Int.reduceNeg, Int.reduceDiv, Int.reduceMod, Int.reduceEq, Int.reduceBEq, Int.reduceBNe, f10, f10b, f10r0, f10r1, f10r2, f10r3, f10r4, f10r5, f10r6, f10r7, f10r8, f10r9, f10r10, f10r11, f10r12, f10r13, f10r14, f10r15, f10r16, f10r17, f10r18, f10r20, f10r21, f10r23, f10l0, f10, f10b, f10r0, f10r1, f10r2, f10r3, f10r4, f10r5, f10r6, f10r7, f10r8, f10r9, f10r10, f10r11, f10r12, f10r13, f10r14, f10r15, f10r16, f10r17, f10r18, f10r20, f10r21, f10r23, hP, hnode, hleaf, il1, il2, hni, htk1, htk2] | (refine BrW.of (fun hb => ?_) (fun hb => ?_) <;> (have hb' := hb; try simp only [decide_eq_true_eq, decide_eq_false_iff_not, beq_iff_eq, bne_iff_ne, beq_eq_false_iff_ne, bne_eq_false_iff_eq, Bool.not_eq_true', Bool.not_eq_false', Bool.not_eq_true, Bool.not_eq_false, Bool.and_eq_true, Bool.or_eq_true, Bool.and_eq_false_iff, Bool.or_eq_false_iff, Int.not_lt, Int.not_le, ne_eq, gt_iff_lt, ge_iff_le] at hb') <;> (try (exfalso; omega))) | (refine altW.of ?_ ?_)
            refine RdW.keep [8, 9, 10, 24, 25, 26] (ls.length - (i + 1)) (by omega) ?_
            simp (disch := first | with_reducible assumption | omega) only [go_sem, Bool.true_and, Bool.and_true, Bool.and_self, Bool.false_and, Bool.and_false, Bool.true_or, Bool.or_true, Bool.false_or, Bool.or_false, ↓reduceIte, Nat.reduceEqDiff, Nat.reduceAdd, Nat.reduceMul, Nat.reduceSub, Nat.reduceBEq, Nat.reduceLeDiff, Nat.reduceLT, Nat.reduceMod, Nat.reduceDiv, Int.reduceToNat, Int.reducePow, Int.reduceMul, Int.reduceAdd, Int.reduceSub, Int.reduceLE, Int.reduceLT, Int.reduceNeg, Int.reduceDiv, Int.reduceMod, Int.reduceEq, Int.reduceBEq, Int.reduceBNe]
            exact ⟨i + 1, p1 + 1, p2 + 1, _, rfl, by rw [v1, v2, ← ints_app, ← bools_app]; rfl, by omega, rfl⟩
          · rcases bit_two a k with hz | hz
            · have hbs := fun H' => bit_spec a k H' hao' (by omega)
              rw [hz] at hbs hkv
              repeat' first | simp (disch := first | with_reducible assumption | omega) only [go_sem, Bool.true_and, Bool.and_true, Bool.and_self, Bool.false_and, Bool.and_false, Bool.true_or, Bool.or_true, Bool.false_or, Bool.or_false, ↓reduceIte, Nat.reduceEqDiff, Nat.reduceAdd, Nat.reduceMul, Nat.reduceSub, Nat.reduceBEq, Nat.reduceLeDiff, Nat.reduceLT, Nat.reduceMod, Nat.reduceDiv, Int.reduceToNat, Int.reducePow, Int.reduceMul, Int.reduceAdd, Int.reduceSub, Int.reduceLE, Int.reduceLT, Int.reduceNeg, Int.reduceDiv, Int.reduceMod, Int.reduceEq, Int.reduceBEq, Int.reduceBNe, f10, f10b, f10r0, f10r1, f10r2, f10r3, f10r4, f10r5, f10r6, f10r7, f10r8, f10r9, f10r10, f10r11, f10r12, f10r13, f10r14, f10r15, f10r16, f10r17, f10r18, f10r20, f10r21, f10r23, f10l0, hP, hnode, hkv, hleaf] | (refine BrW.of (fun hb => ?_) (fun hb => ?_) <;> (have hb' := hb; try simp only [decide_eq_true_eq, decide_eq_false_iff_not, beq_iff_eq, bne_iff_ne, beq_eq_false_iff_ne, bne_eq_false_iff_eq, Bool.not_eq_true', Bool.not_eq_false', Bool.not_eq_true, Bool.not_eq_false, Bool.and_eq_true, Bool.or_eq_true, Bool.and_eq_false_iff, Bool.or_eq_false_iff, Int.not_lt, Int.not_le, ne_eq, gt_iff_lt, ge_iff_le] at hb') <;> (try (exfalso; omega))) | (refine altW.of ?_ ?_) | (refine dcallW.of _ _ (hbs _) ?_) | (refine callW.ex _ _ (hbs _) ?_)
              refine RdW.keep [8, 9, 10, 12, 13, 14, 15, 16, 24, 25, 26] (33 - (k + 1)) (by omega) ?_
              simp (disch := first | with_reducible assumption | omega) only [go_sem, Bool.true_and, Bool.and_true, Bool.and_self, Bool.false_and, Bool.and_false, Bool.true_or, Bool.or_true, Bool.false_or, Bool.or_false, ↓reduceIte, Nat.reduceEqDiff, Nat.reduceAdd, Nat.reduceMul, Nat.reduceSub, Nat.reduceBEq, Nat.reduceLeDiff, Nat.reduceLT, Nat.reduceMod, Nat.reduceDiv, Int.reduceToNat, Int.reducePow, Int.reduceMul, Int.reduceAdd, Int.reduceSub, Int.reduceLE, Int.reduceLT, Int.reduceNeg, Int.reduceDiv, Int.reduceMod, Int.reduceEq, Int.reduceBEq, Int.reduceBNe]
              exact ⟨k + 1, by rw [hfs]; rfl, by omega, rfl⟩
            · have hbs := fun H' => bit_spec a k H' hao' (by omega)
              rw [hz] at hbs hkv
              repeat' first | simp (disch := first | with_reducible assumption | omega) only [go_sem, Bool.true_and, Bool.and_true, Bool.and_self, Bool.false_and, Bool.and_false, Bool.true_or, Bool.or_true, Bool.false_or, Bool.or_false, ↓reduceIte, Nat.reduceEqDiff, Nat.reduceAdd, Nat.reduceMul, Nat.reduceSub, Nat.reduceBEq, Nat.reduceLeDiff, Nat.reduceLT, Nat.reduceMod, Nat.reduceDiv, Int.reduceToNat, Int.reducePow, Int.reduceMul, Int.reduceAdd, Int.reduceSub, Int.reduceLE, Int.reduceLT, Int.reduceNeg, Int.reduceDiv, Int.reduceMod, Int.reduceEq, Int.reduceBEq, Int.reduceBNe, f10, f10b, f10r0, f10r1, f10r2, f10r3, f10r4, f10r5, f10r6, f10r7, f10r8, f10r9, f10r10, f10r11, f10r12, f10r13, f10r14, f10r15, f10r16, f10r17, f10r18, f10r20, f10r21, f10r23, f10l0, hP, hnode, hkv, hleaf] | (refine BrW.of (fun hb => ?_) (fun hb => ?_) <;> (have hb' := hb; try simp only [decide_eq_true_eq, decide_eq_false_iff_not, beq_iff_eq, bne_iff_ne, beq_eq_false_iff_ne, bne_eq_false_iff_eq, Bool.not_eq_true', Bool.not_eq_false', Bool.not_eq_true, Bool.not_eq_false, Bool.and_eq_true, Bool.or_eq_true, Bool.and_eq_false_iff, Bool.or_eq_false_iff, Int.not_lt, Int.not_le, ne_eq, gt_iff_lt, ge_iff_le] at hb') <;> (try (exfalso; omega))) | (refine altW.of ?_ ?_) | (refine dcallW.of _ _ (hbs _) ?_) | (refine callW.ex _ _ (hbs _) ?_)
              refine RdW.keep [8, 9, 10, 12, 13, 14, 15, 16, 24, 25, 26] (33 - (k + 1)) (by omega) ?_
              simp (disch := first | with_reducible assumption | omega) only [go_sem, Bool.true_and, Bool.and_true, Bool.and_self, Bool.false_and, Bool.and_false, Bool.true_or, Bool.or_true, Bool.false_or, Bool.or_false, ↓reduceIte, Nat.reduceEqDiff, Nat.reduceAdd, Nat.reduceMul, Nat.reduceSub, Nat.reduceBEq, Nat.reduceLeDiff, Nat.reduceLT, Nat.reduceMod, Nat.reduceDiv, Int.reduceToNat, Int.reducePow, Int.reduceMul, Int.reduceAdd, Int.reduceSub, Int.reduceLE, Int.reduceLT, Int.reduceNeg, Int.reduceDiv, Int.reduceMod, Int.reduceEq, Int.reduceBEq, Int.reduceBNe]
              exact ⟨k + 1, by rw [hfs]; rfl, by omega, rfl⟩
    · obtain rfl : i = ls.length := by omega
      rw [List.take_length]
      repeat' first | simp (disch := first | with_reducible assumption | omega) only [go_sem, Bool.true_and, Bool.and_true, Bool.and_self, Bool.false_and, Bool.and_false, Bool.true_or, Bool.or_true, Bool.false_or, Bool.or_false, ↓reduceIte, Nat.reduceEqDiff, Nat.reduceAdd, Nat.reduceMul, Nat.reduceSub, Nat.reduceBEq, Nat.reduceLeDiff, Nat.reduceLT, Nat.reduceMod, Nat.reduceDiv, Int.reduceToNat, Int.reducePow, Int.reduceMul, Int.reduceAdd, Int.reduceSub, Int.reduceLE, Int.reduceLT, Int.reduceNeg, Int.reduceDiv, Int.reduceMod, Int.reduceEq, Int.reduceBEq, Int.reduceBNe, f10, f10b, f10r0, f10r1, f10r2, f10r3, f10r4, f10r5, f10r6, f10r7, f10r8, f10r9, f10r10, f10r11, f10r12, f10r13, f10r14, f10r15, f10r16, f10r17, f10r18, f10r20, f10r21, f10r23, f10l1, f10, f10b, f10r0, f10r1, f10r2, f10r3, f10r4, f10r5, f10r6, f10r7, f10r8, f10r9, f10r10, f10r11, f10r12, f10r13, f10r14, f10r15, f10r16, f10r17, f10r18, f10r20, f10r21, f10r23] | (refine BrW.of (fun hb => ?_) (fun hb => ?_) <;> (have hb' := hb; try simp only [decide_eq_true_eq, decide_eq_false_iff_not, beq_iff_eq, bne_iff_ne, beq_eq_false_iff_ne, bne_eq_false_iff_eq, Bool.not_eq_true', Bool.not_eq_false', Bool.not_eq_true, Bool.not_eq_false, Bool.and_eq_true, Bool.or_eq_true, Bool.and_eq_false_iff, Bool.or_eq_false_iff, Int.not_lt, Int.not_le, ne_eq, gt_iff_lt, ge_iff_le] at hb') <;> (try (exfalso; omega))) | (refine altW.of ?_ ?_)
      exact .here ⟨_, _, 0, rfl, hle.trans (.app _ _), iff_of_true rfl hf, fun h => (h rfl).elim, fun _ => ⟨_, p1, _, p2, rfl, rfl, Ints.new _ _ _ false _ (get_new0 _ _ _), Bools.new _ _ _ false _ (by rw [get_new]; rfl)⟩⟩
  · have z' : (e != 0) = true := by simpa using z
    repeat' first | simp (disch := first | with_reducible assumption | omega) only [go_sem, Bool.true_and, Bool.and_true, Bool.and_self, Bool.false_and, Bool.and_false, Bool.true_or, Bool.or_true, Bool.false_or, Bool.or_false, ↓reduceIte, Nat.reduceEqDiff, Nat.reduceAdd, Nat.reduceMul, Nat.reduceSub, Nat.reduceBEq, Nat.reduceLeDiff, Nat.reduceLT, Nat.reduceMod, Nat.reduceDiv, Int.reduceToNat, Int.reducePow, Int.reduceMul, Int.reduceAdd, Int.reduceSub, Int.reduceLE, Int.reduceLT, Int.reduceNeg, Int.reduceDiv, Int.reduceMod, Int.reduceEq, Int.reduceBEq, Int.reduceBNe, f10, f10b, f10r0, f10r1, f10r2, f10r3, f10r4, f10r5, f10r6, f10r7, f10r8, f10r9, f10r10, f10r11, f10r12, f10r13, f10r14, f10r15, f10r16, f10r17, f10r18, f10r20, f10r21, f10r23, z'] | (refine BrW.of (fun hb => ?_) (fun hb => ?_) <;> (have hb' := hb; try simp only [decide_eq_true_eq, decide_eq_false_iff_not, beq_iff_eq, bne_iff_ne, beq_eq_false_iff_ne, bne_eq_false_iff_eq, Bool.not_eq_true', Bool.not_eq_false', Bool.not_eq_true, Bool.not_eq_false, Bool.and_eq_true, Bool.or_eq_true, Bool.and_eq_false_iff, Bool.or_eq_false_iff, Int.not_lt, Int.not_le, ne_eq, gt_iff_lt, ge_iff_le] at hb') <;> (try (exfalso; omega))) | (refine altW.of ?_ ?_)
    exact .here ⟨_, _, e, rfl, .refl _, iff_of_false z (fun h => z (he.2 h)), fun _ => ⟨rfl, rfl⟩, fun h => (z h).elim⟩
end Go.Proofs.Ytiflaenenlcidaa
