import Derived.Test.YtimmpjfbejojhaaSteps2
set_option linter.unusedSimpArgs false
set_option linter.unusedVariables false
set_option maxHeartbeats 2000000
set_option maxRecDepth 20000
namespace Go.Proofs.Ytimmpjfbejojhaa
open Go Go.Am
attribute [local irreducible] opsW Ww loopW callW drawW outW outDW gW cW BrW bothW vW resW DropW RdW dcallW Later.run

abbrev OTb (H : Heap) (k o g : Nat) (l : List O) : Prop := Tbl O O.cells 2 o0 H k o g l
theorem OTb.cell {H : Heap} {k o g : Nat} {l : List O} (h : OTb H k o g l) : ∃ ro cs, H[k]? = some (.cells g 2 ro cs) ∧ o + l.length * 2 ≤ cs.length ∧ (∀ i, i < l.length → ldV cs (o + i * 2) 2 = some (O.cells (l.getD i o0))) := by
  obtain ⟨ro, cs, h1, h2, h3⟩ := h.at'
  exact ⟨ro, cs, h1, h2, fun i hi => Tbl.ld (enc := O.cells) (s := 2) (fun _ => rfl) h3 i hi⟩

theorem run_len (q : Q) (u : List Int) : ∀ l : List O, (run (q, u) l).2.length ≤ u.length + l.length := by
  intro l
  induction l generalizing q u with
  | nil => simp [run]
  | cons o l ih =>
    have h1 : ∀ s : Q × List Int, (stepF s o).2.length ≤ s.2.length + 1 := fun s => by
      unfold stepF
      split
      · omega
      · dsimp only; split
        · simp
        · omega
    have := h1 (q, u)
    have h2 := ih (stepF (q, u) o).1 (stepF (q, u) o).2
    show (run ((stepF (q, u) o).1, (stepF (q, u) o).2) l).2.length ≤ _
    simp only [List.length_cons] at *
    omega

def fresh (mo mb : Int) : Q := ⟨[], mo, mb, 0⟩
theorem stepF_some {q : Q} {out : List Int} {o : O} {q' : Q} {r : Int} (h : stepO q o = some (q', r)) : stepF (q, out) o = (q', if o.k = 2 then out ++ [r] else out) := by
  unfold stepF; rw [h]
theorem stepF_none {q : Q} {out : List Int} {o : O} (h : stepO q o = none) : stepF (q, out) o = (q, out) := by
  unfold stepF; rw [h]
theorem Play_u (mo mb : Int) (l : List O) (k o g c : Nat) (H : Heap) (hs : OTb H k o g l) (hl : l.length ≤ 1048576) (_hc : l.length ≤ c) :
    ACallK Try.prog 9 [.int .i64 mo, .int .i64 mb, slv k o g l.length c] H (fun v H' => ∃ (a w : Value) (q : Q) (out : List Int) (e : Int), v = .tuple #[a, q.val w, .int .i64 e] ∧ Le H H' ∧ IsI H' a out ∧ IsI H' w q.l ∧
      (e ≠ 0 → out = []) ∧ (e = 0 → (fresh mo mb).right ∧ (q, out) = run (fresh mo mb, []) l)) := by
  obtain ⟨ro, cs, hk, hcl, hld⟩ := hs.cell
  refine .walkW f9_ok (by simp; decide) (by decide) ?_
  have hR := fun H' => Right_spec (fresh mo mb) (.slice none 0 0) H' (.inl ⟨rfl, rfl⟩) (by simp [fresh])
  by_cases hr : (fresh mo mb).right
  · have hz : (!decide (Q.right (fresh mo mb))) = false := by simp [hr]
    repeat' first | simp (disch := first | with_reducible assumption | omega) only [go_sem, Bool.true_and, Bool.and_true, Bool.and_self, Bool.false_and, Bool.and_false, Bool.true_or, Bool.or_true, Bool.false_or, Bool.or_false, ↓reduceIte, Nat.reduceEqDiff, Nat.reduceAdd, Nat.reduceMul, Nat.reduceSub, Nat.reduceBEq, Nat.reduceLeDiff, Nat.reduceLT, Nat.reduceMod, Nat.reduceDiv, Int.reduceToNat, Int.reducePow, Int.reduceMul, Int.reduceAdd, Int.reduceSub, Int.reduceLE, Int.reduceLT, Int.reduceNeg, Int.reduceDiv, Int.reduceMod, Int.reduceEq, Int.reduceBEq, Int.reduceBNe, f9, f9b, f9r0, f9r1, f9r2, f9r3, f9r4, f9r5, f9r6, f9r7, f9r8, f9r9, f9r10, f9r11, f9r12, f9r13, f9r15, Q.val, Q.cells, hz, hk, get_old hk] | (refine BrW.of (fun hb => ?_) (fun hb => ?_) <;> (have hb' := hb; try simp only [decide_eq_true_eq, decide_eq_false_iff_not, beq_iff_eq, bne_iff_ne, beq_eq_false_iff_ne, bne_eq_false_iff_eq, Bool.not_eq_true', Bool.not_eq_false', Bool.not_eq_true, Bool.not_eq_false, Bool.and_eq_true, Bool.or_eq_true, Bool.and_eq_false_iff, Bool.or_eq_false_iff, Int.not_lt, Int.not_le, ne_eq, gt_iff_lt, ge_iff_le] at hb') <;> (try (exfalso; omega))) | (refine .of ((hR _).mono ?_); rintro v _ ⟨rfl, rfl⟩)
    refine loopW.ghost 10 1 rfl ?_
    simp (disch := first | with_reducible assumption | omega) only [go_sem, Bool.true_and, Bool.and_true, Bool.and_self, Bool.false_and, Bool.and_false, Bool.true_or, Bool.or_true, Bool.false_or, Bool.or_false, ↓reduceIte, Nat.reduceEqDiff, Nat.reduceAdd, Nat.reduceMul, Nat.reduceSub, Nat.reduceBEq, Nat.reduceLeDiff, Nat.reduceLT, Nat.reduceMod, Nat.reduceDiv, Int.reduceToNat, Int.reducePow, Int.reduceMul, Int.reduceAdd, Int.reduceSub, Int.reduceLE, Int.reduceLT, Int.reduceNeg, Int.reduceDiv, Int.reduceMod, Int.reduceEq, Int.reduceBEq, Int.reduceBNe]
    have hkl := (List.getElem?_eq_some_iff.1 hk).1
    refine loopW.of (by decide) (fun m e J => ∃ (i g' : Nat) (q : Q) (w : Value) (out : List Int) (x : Heap), e = [(7, .pointer (some ⟨H.length, 0, some 1⟩)), (9, .pointer (some ⟨H.length + 1, 0, some 1⟩)), (10, slv (H.length + 2) 0 g' out.length out.length), (23, slv k o g l.length c), (24, .int .i64 l.length), (25, .int .i64 i)] ∧
      J = H ++ (.cells 0 0 false (q0.cells (.slice none 0 0)) :: .cells 0 0 false (q.cells w) :: .cells g' 1 false (ints out) :: x) ∧ i ≤ l.length ∧ m = l.length - i ∧ IsX (H.length + 3) x w q.l ∧ (q, out) = run (fresh mo mb, []) (l.take i)) l.length ⟨0, 0, fresh mo mb, .slice none 0 0, [], [], rfl, rfl, by omega, rfl, .inl ⟨rfl, rfl⟩, rfl⟩ ?_
    rintro m e J ⟨i, g', q, w, out, x, rfl, rfl, hi, rfl, hX, hrun⟩
    have hqr : q.right := by have := run_right (s := (fresh mo mb, [])) hr (l.take i); rw [← hrun] at this; exact this
    have hol : out.length ≤ 1048576 := by have := run_len (fresh mo mb) [] (l.take i); rw [← hrun] at this; simp at this; omega
    by_cases hlt : i < l.length
    · have h0 := hld i hlt
      have hst : run (fresh mo mb, []) (l.take (i + 1)) = stepF (q, out) (l.getD i o0) := by rw [take_snoc o0 l i hlt, run_snoc, ← hrun]
      generalize l.getD i o0 = op at *
      obtain ⟨kk, n⟩ := op
      simp only [O.cells] at h0
      have hop : .cells 0 0 false (O.cells ⟨kk, n⟩) = AObj.cells 0 0 false [.int .i64 kk, .int .i64 n] := rfl
      have hI : IsI (H ++ (.cells 0 0 false (q0.cells (.slice none 0 0)) :: .cells 0 0 false (q.cells w) :: .cells g' 1 false (ints out) :: (x ++ [AObj.cells 0 0 false [.int .i64 kk, .int .i64 n]]))) w q.l := by
        have := (IsX.up (x := [.cells 0 0 false (q0.cells (.slice none 0 0)), .cells 0 0 false (q.cells w), .cells g' 1 false (ints out)]) (by exact hX.app [AObj.cells 0 0 false [.int .i64 kk, .int .i64 n]])).is (H := H)
        simpa using this
      have hSt := Step_u q ⟨kk, n⟩ w _ hI (by have := hqr.len; omega)
      simp only [Q.cells, Q.val] at hSt
      repeat' first | simp (disch := first | with_reducible assumption | omega) only [go_sem, Bool.true_and, Bool.and_true, Bool.and_self, Bool.false_and, Bool.and_false, Bool.true_or, Bool.or_true, Bool.false_or, Bool.or_false, ↓reduceIte, Nat.reduceEqDiff, Nat.reduceAdd, Nat.reduceMul, Nat.reduceSub, Nat.reduceBEq, Nat.reduceLeDiff, Nat.reduceLT, Nat.reduceMod, Nat.reduceDiv, Int.reduceToNat, Int.reducePow, Int.reduceMul, Int.reduceAdd, Int.reduceSub, Int.reduceLE, Int.reduceLT, Int.reduceNeg, Int.reduceDiv, Int.reduceMod, Int.reduceEq, Int.reduceBEq, Int.reduceBNe, f9, f9b, f9r0, f9r1, f9r2, f9r3, f9r4, f9r5, f9r6, f9r7, f9r8, f9r9, f9r10, f9r11, f9r12, f9r13, f9r15, f9l0, hk, get_old hk, ↓h0, Q.cells] | (refine BrW.of (fun hb => ?_) (fun hb => ?_) <;> (have hb' := hb; try simp only [decide_eq_true_eq, decide_eq_false_iff_not, beq_iff_eq, bne_iff_ne, beq_eq_false_iff_ne, bne_eq_false_iff_eq, Bool.not_eq_true', Bool.not_eq_false', Bool.not_eq_true, Bool.not_eq_false, Bool.and_eq_true, Bool.or_eq_true, Bool.and_eq_false_iff, Bool.or_eq_false_iff, Int.not_lt, Int.not_le, ne_eq, gt_iff_lt, ge_iff_le] at hb') <;> (try (exfalso; omega)))
      refine .of (hSt.mono ?_)
      rintro v _ ⟨X, q', w', r, e, rfl, rfl, hX', he0, he1⟩
      rw [List.append_assoc, List.cons_append, List.cons_append, List.cons_append]
      have hlen : ∀ A B C : AObj, List.length (H ++ (A :: B :: C :: (x ++ [AObj.cells 0 0 false [.int .i64 kk, .int .i64 n]]))) = H.length + 3 + (x ++ [AObj.cells 0 0 false [.int .i64 kk, .int .i64 n]]).length := fun A B C => by simp; omega
      rw [hlen] at hX'
      have hX2 := IsX.up hX'
      have hXo := (hX.app [AObj.cells 0 0 false [.int .i64 kk, .int .i64 n]]).app X
      have hop2 : (x ++ [AObj.cells 0 0 false [.int .i64 kk, .int .i64 n]] ++ X)[x.length]? = some (AObj.cells 0 0 false [.int .i64 kk, .int .i64 n]) := get_old (get_new0 _ _ _) _
      have il := ints_length out
      have hni : ¬ out.length + 1 ≤ out.length := by omega
      have htk := ints_take out out.length (Nat.le_refl _)
      clear hX hX' hlen hI hSt hld hrun hR hs
      generalize x ++ [AObj.cells 0 0 false [.int .i64 kk, .int .i64 n]] ++ X = y at *
      by_cases z : e = 0
      · have hs1 := stepF_some (out := out) (he0 z)
        rw [hs1] at hst
        subst z
        clear he0 he1
        by_cases hk2 : kk = 2
        · simp only [if_pos hk2] at hst
          repeat' first | simp (disch := first | with_reducible assumption | omega) only [go_sem, Bool.true_and, Bool.and_true, Bool.and_self, Bool.false_and, Bool.and_false, Bool.true_or, Bool.or_true, Bool.false_or, Bool.or_false, ↓reduceIte, Nat.reduceEqDiff, Nat.reduceAdd, Nat.reduceMul, Nat.reduceSub, Nat.reduceBEq, Nat.reduceLeDiff, Nat.reduceLT, Nat.reduceMod, Nat.reduceDiv, Int.reduceToNat, Int.reducePow, Int.reduceMul, Int.reduceAdd, Int.reduceSub, Int.reduceLE, Int.reduceLT, Int.reduceNeg, Int.reduceDiv, Int.reduceMod, Int.reduceEq, Int.reduceBEq, Int.reduceBNe, f9, f9b, f9r0, f9r1, f9r2, f9r3, f9r4, f9r5, f9r6, f9r7, f9r8, f9r9, f9r10, f9r11, f9r12, f9r13, f9r15, f9l0, hop2, get_old hop2, il, hni, htk] | (refine BrW.of (fun hb => ?_) (fun hb => ?_) <;> (have hb' := hb; try simp only [decide_eq_true_eq, decide_eq_false_iff_not, beq_iff_eq, bne_iff_ne, beq_eq_false_iff_ne, bne_eq_false_iff_eq, Bool.not_eq_true', Bool.not_eq_false', Bool.not_eq_true, Bool.not_eq_false, Bool.and_eq_true, Bool.or_eq_true, Bool.and_eq_false_iff, Bool.or_eq_false_iff, Int.not_lt, Int.not_le, ne_eq, gt_iff_lt, ge_iff_le] at hb') <;> (try (exfalso; omega)))
          refine RdW.keep [7, 9, 10, 23, 24, 25] (l.length - (i + 1)) (by omega) ?_
          simp (disch := first | with_reducible assumption | omega) only [go_sem, Bool.true_and, Bool.and_true, Bool.and_self, Bool.false_and, Bool.and_false, Bool.true_or, Bool.or_true, Bool.false_or, Bool.or_false, ↓reduceIte, Nat.reduceEqDiff, Nat.reduceAdd, Nat.reduceMul, Nat.reduceSub, Nat.reduceBEq, Nat.reduceLeDiff, Nat.reduceLT, Nat.reduceMod, Nat.reduceDiv, Int.reduceToNat, Int.reducePow, Int.reduceMul, Int.reduceAdd, Int.reduceSub, Int.reduceLE, Int.reduceLT, Int.reduceNeg, Int.reduceDiv, Int.reduceMod, Int.reduceEq, Int.reduceBEq, Int.reduceBNe]
          exact ⟨i + 1, g' + 1, q', w', out ++ [r], _, by rw [List.length_append]; rfl, by rw [← ints_snoc]; rfl, by omega, rfl, (hX2).app _, hst.symm⟩
        · simp only [if_neg hk2] at hst
          repeat' first | simp (disch := first | with_reducible assumption | omega) only [go_sem, Bool.true_and, Bool.and_true, Bool.and_self, Bool.false_and, Bool.and_false, Bool.true_or, Bool.or_true, Bool.false_or, Bool.or_false, ↓reduceIte, Nat.reduceEqDiff, Nat.reduceAdd, Nat.reduceMul, Nat.reduceSub, Nat.reduceBEq, Nat.reduceLeDiff, Nat.reduceLT, Nat.reduceMod, Nat.reduceDiv, Int.reduceToNat, Int.reducePow, Int.reduceMul, Int.reduceAdd, Int.reduceSub, Int.reduceLE, Int.reduceLT, Int.reduceNeg, Int.reduceDiv, Int.reduceMod, Int.reduceEq, Int.reduceBEq, Int.reduceBNe, f9, f9b, f9r0, f9r1, f9r2, f9r3, f9r4, f9r5, f9r6, f9r7, f9r8, f9r9, f9r10, f9r11, f9r12, f9r13, f9r15, f9l0, hop2, get_old hop2, il, hni, htk] | (refine BrW.of (fun hb => ?_) (fun hb => ?_) <;> (have hb' := hb; try simp only [decide_eq_true_eq, decide_eq_false_iff_not, beq_iff_eq, bne_iff_ne, beq_eq_false_iff_ne, bne_eq_false_iff_eq, Bool.not_eq_true', Bool.not_eq_false', Bool.not_eq_true, Bool.not_eq_false, Bool.and_eq_true, Bool.or_eq_true, Bool.and_eq_false_iff, Bool.or_eq_false_iff, Int.not_lt, Int.not_le, ne_eq, gt_iff_lt, ge_iff_le] at hb') <;> (try (exfalso; omega)))
          refine RdW.keep [7, 9, 10, 23, 24, 25] (l.length - (i + 1)) (by omega) ?_
          simp (disch := first | with_reducible assumption | omega) only [go_sem, Bool.true_and, Bool.and_true, Bool.and_self, Bool.false_and, Bool.and_false, Bool.true_or, Bool.or_true, Bool.false_or, Bool.or_false, ↓reduceIte, Nat.reduceEqDiff, Nat.reduceAdd, Nat.reduceMul, Nat.reduceSub, Nat.reduceBEq, Nat.reduceLeDiff, Nat.reduceLT, Nat.reduceMod, Nat.reduceDiv, Int.reduceToNat, Int.reducePow, Int.reduceMul, Int.reduceAdd, Int.reduceSub, Int.reduceLE, Int.reduceLT, Int.reduceNeg, Int.reduceDiv, Int.reduceMod, Int.reduceEq, Int.reduceBEq, Int.reduceBNe]
          exact ⟨i + 1, g', q', w', out, _, rfl, rfl, by omega, rfl, (hX2).app _, hst.symm⟩
      · have z' : (e != 0) = true := by simpa using z
        rw [stepF_none (he1 z)] at hst
        clear he0 he1
        repeat' first | simp (disch := first | with_reducible assumption | omega) only [go_sem, Bool.true_and, Bool.and_true, Bool.and_self, Bool.false_and, Bool.and_false, Bool.true_or, Bool.or_true, Bool.false_or, Bool.or_false, ↓reduceIte, Nat.reduceEqDiff, Nat.reduceAdd, Nat.reduceMul, Nat.reduceSub, Nat.reduceBEq, Nat.reduceLeDiff, Nat.reduceLT, Nat.reduceMod, Nat.reduceDiv, Int.reduceToNat, Int.reducePow, Int.reduceMul, Int.reduceAdd, Int.reduceSub, Int.reduceLE, Int.reduceLT, Int.reduceNeg, Int.reduceDiv, Int.reduceMod, Int.reduceEq, Int.reduceBEq, Int.reduceBNe, f9, f9b, f9r0, f9r1, f9r2, f9r3, f9r4, f9r5, f9r6, f9r7, f9r8, f9r9, f9r10, f9r11, f9r12, f9r13, f9r15, f9l0, hop2, get_old hop2, z'] | (refine BrW.of (fun hb => ?_) (fun hb => ?_) <;> (have hb' := hb; try simp only [decide_eq_true_eq, decide_eq_false_iff_not, beq_iff_eq, bne_iff_ne, beq_eq_false_iff_ne, bne_eq_false_iff_eq, Bool.not_eq_true', Bool.not_eq_false', Bool.not_eq_true, Bool.not_eq_false, Bool.and_eq_true, Bool.or_eq_true, Bool.and_eq_false_iff, Bool.or_eq_false_iff, Int.not_lt, Int.not_le, ne_eq, gt_iff_lt, ge_iff_le] at hb') <;> (try (exfalso; omega)))
        refine RdW.keep [7, 9, 10, 23, 24, 25] (l.length - (i + 1)) (by omega) ?_
        simp (disch := first | with_reducible assumption | omega) only [go_sem, Bool.true_and, Bool.and_true, Bool.and_self, Bool.false_and, Bool.and_false, Bool.true_or, Bool.or_true, Bool.false_or, Bool.or_false, ↓reduceIte, Nat.reduceEqDiff, Nat.reduceAdd, Nat.reduceMul, Nat.reduceSub, Nat.reduceBEq, Nat.reduceLeDiff, Nat.reduceLT, Nat.reduceMod, Nat.reduceDiv, Int.reduceToNat, Int.reducePow, Int.reduceMul, Int.reduceAdd, Int.reduceSub, Int.reduceLE, Int.reduceLT, Int.reduceNeg, Int.reduceDiv, Int.reduceMod, Int.reduceEq, Int.reduceBEq, Int.reduceBNe]
        exact ⟨i + 1, g', q, w, out, _, rfl, rfl, by omega, rfl, (hXo).app _, hst.symm⟩
    · obtain rfl : i = l.length := by omega
      rw [List.take_length] at hrun
      have hI : ∀ A B C : AObj, IsI (H ++ (A :: B :: C :: x)) w q.l := fun A B C => by
        have := (IsX.up (x := [A, B, C]) (by exact hX)).is (H := H)
        simpa using this
      repeat' first | simp (disch := first | with_reducible assumption | omega) only [go_sem, Bool.true_and, Bool.and_true, Bool.and_self, Bool.false_and, Bool.and_false, Bool.true_or, Bool.or_true, Bool.false_or, Bool.or_false, ↓reduceIte, Nat.reduceEqDiff, Nat.reduceAdd, Nat.reduceMul, Nat.reduceSub, Nat.reduceBEq, Nat.reduceLeDiff, Nat.reduceLT, Nat.reduceMod, Nat.reduceDiv, Int.reduceToNat, Int.reducePow, Int.reduceMul, Int.reduceAdd, Int.reduceSub, Int.reduceLE, Int.reduceLT, Int.reduceNeg, Int.reduceDiv, Int.reduceMod, Int.reduceEq, Int.reduceBEq, Int.reduceBNe, f9, f9b, f9r0, f9r1, f9r2, f9r3, f9r4, f9r5, f9r6, f9r7, f9r8, f9r9, f9r10, f9r11, f9r12, f9r13, f9r15, f9l0, f9, f9b, f9r0, f9r1, f9r2, f9r3, f9r4, f9r5, f9r6, f9r7, f9r8, f9r9, f9r10, f9r11, f9r12, f9r13, f9r15, Q.cells, Q.val] | (refine BrW.of (fun hb => ?_) (fun hb => ?_) <;> (have hb' := hb; try simp only [decide_eq_true_eq, decide_eq_false_iff_not, beq_iff_eq, bne_iff_ne, beq_eq_false_iff_ne, bne_eq_false_iff_eq, Bool.not_eq_true', Bool.not_eq_false', Bool.not_eq_true, Bool.not_eq_false, Bool.and_eq_true, Bool.or_eq_true, Bool.and_eq_false_iff, Bool.or_eq_false_iff, Int.not_lt, Int.not_le, ne_eq, gt_iff_lt, ge_iff_le] at hb') <;> (try (exfalso; omega)))
      exact .here ⟨_, w, q, out, 0, rfl, .app _ _, .inr ⟨_, 0, g', _, rfl, Ints.new _ _ _ false _ (by rw [get_new]; rfl), Nat.le_refl _⟩, hI _ _ _, fun h => (h rfl).elim, fun _ => ⟨hr, hrun⟩⟩
  · have hz : (!decide (Q.right (fresh mo mb))) = true := by simp [hr]
    repeat' first | simp (disch := first | with_reducible assumption | omega) only [go_sem, Bool.true_and, Bool.and_true, Bool.and_self, Bool.false_and, Bool.and_false, Bool.true_or, Bool.or_true, Bool.false_or, Bool.or_false, ↓reduceIte, Nat.reduceEqDiff, Nat.reduceAdd, Nat.reduceMul, Nat.reduceSub, Nat.reduceBEq, Nat.reduceLeDiff, Nat.reduceLT, Nat.reduceMod, Nat.reduceDiv, Int.reduceToNat, Int.reducePow, Int.reduceMul, Int.reduceAdd, Int.reduceSub, Int.reduceLE, Int.reduceLT, Int.reduceNeg, Int.reduceDiv, Int.reduceMod, Int.reduceEq, Int.reduceBEq, Int.reduceBNe, f9, f9b, f9r0, f9r1, f9r2, f9r3, f9r4, f9r5, f9r6, f9r7, f9r8, f9r9, f9r10, f9r11, f9r12, f9r13, f9r15, Q.val, Q.cells, hz, hk, get_old hk] | (refine BrW.of (fun hb => ?_) (fun hb => ?_) <;> (have hb' := hb; try simp only [decide_eq_true_eq, decide_eq_false_iff_not, beq_iff_eq, bne_iff_ne, beq_eq_false_iff_ne, bne_eq_false_iff_eq, Bool.not_eq_true', Bool.not_eq_false', Bool.not_eq_true, Bool.not_eq_false, Bool.and_eq_true, Bool.or_eq_true, Bool.and_eq_false_iff, Bool.or_eq_false_iff, Int.not_lt, Int.not_le, ne_eq, gt_iff_lt, ge_iff_le] at hb') <;> (try (exfalso; omega))) | (refine .of ((hR _).mono ?_); rintro v _ ⟨rfl, rfl⟩)
    all_goals exact .here ⟨_, _, q0, [], 2, rfl, .app _ _, .inl ⟨rfl, rfl⟩, .inl ⟨rfl, rfl⟩, fun _ => rfl, fun h => by cases h⟩
end Go.Proofs.Ytimmpjfbejojhaa
