import Derived.Test.YtimmpjfbejojhaaLaws
import Derived.Test.YtimmpjfbejojhaaSteps3
set_option linter.unusedSimpArgs false
set_option linter.unusedVariables false
set_option maxHeartbeats 2000000
set_option maxRecDepth 20000
namespace Go.Proofs.Ytimmpjfbejojhaa
open Go Go.Am
attribute [local irreducible] opsW Ww loopW callW drawW outW outDW gW cW BrW bothW vW resW DropW RdW dcallW Later.run

def pushes (l : List Int) : List O := l.map fun n => ⟨1, n⟩
theorem pushes_length (l : List Int) : (pushes l).length = l.length := by simp [pushes]
theorem O.cells_length (o : O) : (O.cells o).length = 2 := rfl
theorem pair_fresh {mo : Int} (h1 : (fresh mo 1073741824).right) (h2 : (fresh (mo + 1) 1073741824).right) : Pair (fresh mo 1073741824) (fresh (mo + 1) 1073741824) := ⟨h1, h2, rfl, rfl, rfl, Int.le_refl _, .inl rfl⟩

theorem RingMore_args (H : Heap) (vals : List Value) (h : ArgsOk 1048576 H RingMoreSh vals) : ACallK Try.prog 4 vals H fun v _ => v = .bool true := by
  obtain ⟨_, _, rfl, a1, h⟩ := h.cons
  obtain ⟨_, _, rfl, a2, h⟩ := h.cons
  obtain rfl := h.nil
  obtain ⟨k, c, l, rfl, hB, hlc, hs, _⟩ := ints_of a1
  obtain ⟨mo, rfl, hmo⟩ := a2.cell.int_inv
  have hmo' : -9223372036854775808 ≤ mo ∧ mo ≤ 9223372036854775807 := hmo
  clear a1 a2 h hmo
  obtain ⟨ro, cs, hk, hcl, hcs⟩ := hs.cell
  simp only [Nat.zero_add] at hcs
  refine .walkW f4_ok (by simp; decide) (by decide) ?_
  repeat' first | simp (disch := first | with_reducible assumption | omega) only [go_sem, Bool.true_and, Bool.and_true, Bool.and_self, Bool.false_and, Bool.and_false, Bool.true_or, Bool.or_true, Bool.false_or, Bool.or_false, ↓reduceIte, Nat.reduceEqDiff, Nat.reduceAdd, Nat.reduceMul, Nat.reduceSub, Nat.reduceBEq, Nat.reduceLeDiff, Nat.reduceLT, Nat.reduceMod, Nat.reduceDiv, Int.reduceToNat, Int.reducePow, Int.reduceMul, Int.reduceAdd, Int.reduceSub, Int.reduceLE, Int.reduceLT, Int.reduceNeg, Int.reduceDiv, Int.reduceMod, Int.reduceEq, Int.reduceBEq, Int.reduceBNe, f4, f4b, f4r0, f4r1, f4r2, f4r3, f4r4, f4r5, f4r6, f4r7, f4r8, f4r10, f4r11, f4r12, f4r13, f4r14, hk] | (refine BrW.of (fun hb => ?_) (fun hb => ?_) <;> (have hb' := hb; try simp only [decide_eq_true_eq, decide_eq_false_iff_not, beq_iff_eq, bne_iff_ne, beq_eq_false_iff_ne, bne_eq_false_iff_eq, Bool.not_eq_true', Bool.not_eq_false', Bool.not_eq_true, Bool.not_eq_false, Bool.and_eq_true, Bool.or_eq_true, Bool.and_eq_false_iff, Bool.or_eq_false_iff, Int.not_lt, Int.not_le, ne_eq, gt_iff_lt, ge_iff_le] at hb') <;> (try (exfalso; omega))) | (refine .of ((alive _).mono ?_); rintro v H ⟨rfl, rfl⟩)
  refine loopW.ghost 5 2 rfl ?_
  simp (disch := first | with_reducible assumption | omega) only [go_sem, Bool.true_and, Bool.and_true, Bool.and_self, Bool.false_and, Bool.and_false, Bool.true_or, Bool.or_true, Bool.false_or, Bool.or_false, ↓reduceIte, Nat.reduceEqDiff, Nat.reduceAdd, Nat.reduceMul, Nat.reduceSub, Nat.reduceBEq, Nat.reduceLeDiff, Nat.reduceLT, Nat.reduceMod, Nat.reduceDiv, Int.reduceToNat, Int.reducePow, Int.reduceMul, Int.reduceAdd, Int.reduceSub, Int.reduceLE, Int.reduceLT, Int.reduceNeg, Int.reduceDiv, Int.reduceMod, Int.reduceEq, Int.reduceBEq, Int.reduceBNe]
  refine loopW.of (by decide) (fun m e J => ∃ (i g' : Nat) (y : Heap), e = [(1, .int .i64 mo), (5, slv H.length 0 g' i i), (16, slv k 0 0 l.length c), (17, .int .i64 l.length), (18, .int .i64 i)] ∧ J = H ++ (.cells g' 2 false (flat' O.cells (pushes (l.take i))) :: y) ∧ i ≤ l.length ∧ m = l.length - i) l.length ⟨0, 0, [], rfl, rfl, by omega, rfl⟩ ?_
  rintro m e J ⟨i, g', y, rfl, rfl, hi, rfl⟩
  by_cases hlt : i < l.length
  · have e0 := hcs i hlt
    have hst : flat' O.cells (pushes (l.take i)) ++ [.int .i64 1, .int .i64 (l.getD i 0)] = flat' O.cells (pushes (l.take (i + 1))) := by
      rw [take_snoc 0 l i hlt]; simp [pushes, flat', O.cells]
    have il : (flat' O.cells (pushes (l.take i))).length = i * 2 := by rw [flat'_length (s := 2) (fun _ => rfl), pushes_length]; simp; omega
    have hni : ¬ i + 1 ≤ i := by omega
    have htk : (flat' O.cells (pushes (l.take i))).take (i * 2) = flat' O.cells (pushes (l.take i)) := List.take_of_length_le (by omega)
    generalize l.getD i 0 = x at *
    generalize flat' O.cells (pushes (l.take i)) = F at *
    repeat' first | simp (disch := first | with_reducible assumption | omega) only [go_sem, Bool.true_and, Bool.and_true, Bool.and_self, Bool.false_and, Bool.and_false, Bool.true_or, Bool.or_true, Bool.false_or, Bool.or_false, ↓reduceIte, Nat.reduceEqDiff, Nat.reduceAdd, Nat.reduceMul, Nat.reduceSub, Nat.reduceBEq, Nat.reduceLeDiff, Nat.reduceLT, Nat.reduceMod, Nat.reduceDiv, Int.reduceToNat, Int.reducePow, Int.reduceMul, Int.reduceAdd, Int.reduceSub, Int.reduceLE, Int.reduceLT, Int.reduceNeg, Int.reduceDiv, Int.reduceMod, Int.reduceEq, Int.reduceBEq, Int.reduceBNe, f4, f4b, f4r0, f4r1, f4r2, f4r3, f4r4, f4r5, f4r6, f4r7, f4r8, f4r10, f4r11, f4r12, f4r13, f4r14, f4l0, get_old hk, e0, il, hni, htk, hst] | (refine BrW.of (fun hb => ?_) (fun hb => ?_) <;> (have hb' := hb; try simp only [decide_eq_true_eq, decide_eq_false_iff_not, beq_iff_eq, bne_iff_ne, beq_eq_false_iff_ne, bne_eq_false_iff_eq, Bool.not_eq_true', Bool.not_eq_false', Bool.not_eq_true, Bool.not_eq_false, Bool.and_eq_true, Bool.or_eq_true, Bool.and_eq_false_iff, Bool.or_eq_false_iff, Int.not_lt, Int.not_le, ne_eq, gt_iff_lt, ge_iff_le] at hb') <;> (try (exfalso; omega)))
    refine RdW.keep [1, 5, 16, 17, 18] (l.length - (i + 1)) (by omega) ?_
    simp (disch := first | with_reducible assumption | omega) only [go_sem, Bool.true_and, Bool.and_true, Bool.and_self, Bool.false_and, Bool.and_false, Bool.true_or, Bool.or_true, Bool.false_or, Bool.or_false, ↓reduceIte, Nat.reduceEqDiff, Nat.reduceAdd, Nat.reduceMul, Nat.reduceSub, Nat.reduceBEq, Nat.reduceLeDiff, Nat.reduceLT, Nat.reduceMod, Nat.reduceDiv, Int.reduceToNat, Int.reducePow, Int.reduceMul, Int.reduceAdd, Int.reduceSub, Int.reduceLE, Int.reduceLT, Int.reduceNeg, Int.reduceDiv, Int.reduceMod, Int.reduceEq, Int.reduceBEq, Int.reduceBNe]
    exact ⟨i + 1, g' + 1, _, rfl, rfl, by omega, rfl⟩
  · obtain rfl : i = l.length := by omega
    rw [List.take_length]
    have hO : OTb (H ++ (.cells g' 2 false (flat' O.cells (pushes l)) :: y)) H.length 0 g' (pushes l) := Tbl.new (enc := O.cells) (s := 2) (d := o0) (fun _ => rfl) _ _ _ false _ (by rw [get_new0])
    have hP1 := fun J hJ => Play_u mo 1073741824 (pushes l) H.length 0 g' l.length J hJ (by rw [pushes_length]; exact hB) (by rw [pushes_length]; exact Nat.le_refl _)
    have hP2 := fun Z J hJ => Play_u Z 1073741824 (pushes l) H.length 0 g' l.length J hJ (by rw [pushes_length]; exact hB) (by rw [pushes_length]; exact Nat.le_refl _)
    rw [pushes_length] at hP1 hP2
    have hO' : Le H (H ++ (.cells g' 2 false (flat' O.cells (pushes l)) :: y)) := .app _ _
    clear hcs hs hk
    repeat' first | simp (disch := first | with_reducible assumption | omega) only [go_sem, Bool.true_and, Bool.and_true, Bool.and_self, Bool.false_and, Bool.and_false, Bool.true_or, Bool.or_true, Bool.false_or, Bool.or_false, ↓reduceIte, Nat.reduceEqDiff, Nat.reduceAdd, Nat.reduceMul, Nat.reduceSub, Nat.reduceBEq, Nat.reduceLeDiff, Nat.reduceLT, Nat.reduceMod, Nat.reduceDiv, Int.reduceToNat, Int.reducePow, Int.reduceMul, Int.reduceAdd, Int.reduceSub, Int.reduceLE, Int.reduceLT, Int.reduceNeg, Int.reduceDiv, Int.reduceMod, Int.reduceEq, Int.reduceBEq, Int.reduceBNe, f4, f4b, f4r0, f4r1, f4r2, f4r3, f4r4, f4r5, f4r6, f4r7, f4r8, f4r10, f4r11, f4r12, f4r13, f4r14, f4l0] | (refine BrW.of (fun hb => ?_) (fun hb => ?_) <;> (have hb' := hb; try simp only [decide_eq_true_eq, decide_eq_false_iff_not, beq_iff_eq, bne_iff_ne, beq_eq_false_iff_ne, bne_eq_false_iff_eq, Bool.not_eq_true', Bool.not_eq_false', Bool.not_eq_true, Bool.not_eq_false, Bool.and_eq_true, Bool.or_eq_true, Bool.and_eq_false_iff, Bool.or_eq_false_iff, Int.not_lt, Int.not_le, ne_eq, gt_iff_lt, ge_iff_le] at hb') <;> (try (exfalso; omega)))
    generalize H ++ (.cells g' 2 false (flat' O.cells (pushes l)) :: y) = G at *
    refine .of ((hP1 _ hO).mono ?_)
    rintro v G1 ⟨u1, w1, A, out1, e1, rfl, le1, _, hI1, _, hA⟩
    have hZ : 0 ≤ mo ∧ mo ≤ 400 → iadd .i64 mo 1 = mo + 1 := fun h => iadd_i64 _ _ (by omega)
    repeat' first | simp (disch := first | with_reducible assumption | omega) only [go_sem, Bool.true_and, Bool.and_true, Bool.and_self, Bool.false_and, Bool.and_false, Bool.true_or, Bool.or_true, Bool.false_or, Bool.or_false, ↓reduceIte, Nat.reduceEqDiff, Nat.reduceAdd, Nat.reduceMul, Nat.reduceSub, Nat.reduceBEq, Nat.reduceLeDiff, Nat.reduceLT, Nat.reduceMod, Nat.reduceDiv, Int.reduceToNat, Int.reducePow, Int.reduceMul, Int.reduceAdd, Int.reduceSub, Int.reduceLE, Int.reduceLT, Int.reduceNeg, Int.reduceDiv, Int.reduceMod, Int.reduceEq, Int.reduceBEq, Int.reduceBNe, f4, f4b, f4r0, f4r1, f4r2, f4r3, f4r4, f4r5, f4r6, f4r7, f4r8, f4r10, f4r11, f4r12, f4r13, f4r14, Q.val, Q.cells] | (refine BrW.of (fun hb => ?_) (fun hb => ?_) <;> (have hb' := hb; try simp only [decide_eq_true_eq, decide_eq_false_iff_not, beq_iff_eq, bne_iff_ne, beq_eq_false_iff_ne, bne_eq_false_iff_eq, Bool.not_eq_true', Bool.not_eq_false', Bool.not_eq_true, Bool.not_eq_false, Bool.and_eq_true, Bool.or_eq_true, Bool.and_eq_false_iff, Bool.or_eq_false_iff, Int.not_lt, Int.not_le, ne_eq, gt_iff_lt, ge_iff_le] at hb') <;> (try (exfalso; omega)))
    generalize iadd .i64 mo 1 = Z at *
    refine .of ((hP2 Z _ ((hO.le le1).app _)).mono ?_)
    rintro v G2 ⟨u2, w2, B, out2, e2, rfl, le2, _, hI2, _, hB2⟩
    have hbA := le2.get (get_new0 G1 (AObj.cells 0 0 false [w1, Value.int IntKind.i64 A.mo, Value.int IntKind.i64 A.mb, Value.int IntKind.i64 A.dr]) [])
    have hJ1 := (hI1.app [AObj.cells 0 0 false [w1, Value.int IntKind.i64 A.mo, Value.int IntKind.i64 A.mb, Value.int IntKind.i64 A.dr]]).le le2
    clear hP1 hP2 hO hO' le1 le2 hI1
    generalize G1.length = P at *
    by_cases z1 : e1 = 0
    · by_cases z2 : e2 = 0
      · obtain ⟨r1, h1⟩ := hA z1
        have hm := r1
        unfold Q.right fresh at hm
        simp only at hm
        obtain rfl := hZ ⟨hm.1, hm.2.1⟩
        obtain ⟨r2, h2⟩ := hB2 z2
        have hp := pair_run (u := []) (v := []) (pair_fresh r1 r2) l
        change Pair (run (fresh mo 1073741824, []) (pushes l)).1 (run (fresh (mo + 1) 1073741824, []) (pushes l)).1 at hp
        rw [← h1, ← h2] at hp
        simp only at hp
        obtain ⟨ra, rb, _, _, _, hdr, hl⟩ := hp
        have la := ra.len
        have lb := rb.len
        clear h1 h2 hA hB2 hm hZ
        subst z1 z2
        obtain ⟨t, ht, ht2⟩ : ∃ t, B.l = A.l ++ t ∧ t.length ≤ 1 := by
          rcases hl with hl | ⟨_, x, hl⟩
          · exact ⟨[], by rw [hl, List.append_nil], by simp⟩
          · exact ⟨[x], hl, by simp⟩
        clear hl ra rb
        obtain ⟨al, am, ab, ad⟩ := A
        obtain ⟨bl, bm, bb, bd⟩ := B
        simp only at *
        subst ht
        rw [List.length_append] at lb
        rcases hI2 with ⟨rfl, hn2⟩ | ⟨k2, o2, g2, c2, rfl, hi2, hc2⟩
        · obtain ⟨rfl, rfl⟩ := List.append_eq_nil_iff.1 hn2
          have hE := EqualX [] [] (.slice none 0 0) w1 (G2 ++ [.cells 0 0 false [.slice none 0 0, .int .i64 bm, .int .i64 bb, .int .i64 bd]]) (.inl ⟨rfl, rfl⟩) (hJ1.app _) (by simp) (by simp)
          simp only [decide_true] at hE
          rcases hJ1 with ⟨rfl, _⟩ | ⟨k1, o1, g1, c1, rfl, hi1, hc1⟩
          · repeat' first | simp (disch := first | with_reducible assumption | omega) only [go_sem, Bool.true_and, Bool.and_true, Bool.and_self, Bool.false_and, Bool.and_false, Bool.true_or, Bool.or_true, Bool.false_or, Bool.or_false, ↓reduceIte, Nat.reduceEqDiff, Nat.reduceAdd, Nat.reduceMul, Nat.reduceSub, Nat.reduceBEq, Nat.reduceLeDiff, Nat.reduceLT, Nat.reduceMod, Nat.reduceDiv, Int.reduceToNat, Int.reducePow, Int.reduceMul, Int.reduceAdd, Int.reduceSub, Int.reduceLE, Int.reduceLT, Int.reduceNeg, Int.reduceDiv, Int.reduceMod, Int.reduceEq, Int.reduceBEq, Int.reduceBNe, f4, f4b, f4r0, f4r1, f4r2, f4r3, f4r4, f4r5, f4r6, f4r7, f4r8, f4r10, f4r11, f4r12, f4r13, f4r14, Q.val, Q.cells, bq1, bq2, bq3, bq4, hbA, get_old hbA, hE] | (refine BrW.of (fun hb => ?_) (fun hb => ?_) <;> (have hb' := hb; try simp only [decide_eq_true_eq, decide_eq_false_iff_not, beq_iff_eq, bne_iff_ne, beq_eq_false_iff_ne, bne_eq_false_iff_eq, Bool.not_eq_true', Bool.not_eq_false', Bool.not_eq_true, Bool.not_eq_false, Bool.and_eq_true, Bool.or_eq_true, Bool.and_eq_false_iff, Bool.or_eq_false_iff, Int.not_lt, Int.not_le, ne_eq, gt_iff_lt, ge_iff_le] at hb') <;> (try (exfalso; omega))) | (refine dcallW.of _ _ hE ?_) | (refine .of (hE.mono ?_); rintro v _ ⟨rfl, rfl⟩)
            all_goals first | exact .here rfl | (exfalso; simp at hb'; omega) | (exfalso; simp at *; omega)
          · obtain ⟨_, _, hk1, _, _⟩ := hi1.cell
            simp only [List.length_nil] at *
            repeat' first | simp (disch := first | with_reducible assumption | omega) only [go_sem, Bool.true_and, Bool.and_true, Bool.and_self, Bool.false_and, Bool.and_false, Bool.true_or, Bool.or_true, Bool.false_or, Bool.or_false, ↓reduceIte, Nat.reduceEqDiff, Nat.reduceAdd, Nat.reduceMul, Nat.reduceSub, Nat.reduceBEq, Nat.reduceLeDiff, Nat.reduceLT, Nat.reduceMod, Nat.reduceDiv, Int.reduceToNat, Int.reducePow, Int.reduceMul, Int.reduceAdd, Int.reduceSub, Int.reduceLE, Int.reduceLT, Int.reduceNeg, Int.reduceDiv, Int.reduceMod, Int.reduceEq, Int.reduceBEq, Int.reduceBNe, f4, f4b, f4r0, f4r1, f4r2, f4r3, f4r4, f4r5, f4r6, f4r7, f4r8, f4r10, f4r11, f4r12, f4r13, f4r14, Q.val, Q.cells, bq1, bq2, bq3, bq4, hbA, get_old hbA, hk1, get_old hk1] | (refine BrW.of (fun hb => ?_) (fun hb => ?_) <;> (have hb' := hb; try simp only [decide_eq_true_eq, decide_eq_false_iff_not, beq_iff_eq, bne_iff_ne, beq_eq_false_iff_ne, bne_eq_false_iff_eq, Bool.not_eq_true', Bool.not_eq_false', Bool.not_eq_true, Bool.not_eq_false, Bool.and_eq_true, Bool.or_eq_true, Bool.and_eq_false_iff, Bool.or_eq_false_iff, Int.not_lt, Int.not_le, ne_eq, gt_iff_lt, ge_iff_le] at hb') <;> (try (exfalso; omega))) | (refine dcallW.of _ _ hE ?_) | (refine .of (hE.mono ?_); rintro v _ ⟨rfl, rfl⟩)
            all_goals first | exact .here rfl | (exfalso; simp at hb'; omega) | (exfalso; simp at *; omega)
        · obtain ⟨_, _, hk2, hcl2, _⟩ := hi2.cell
          rw [List.length_append] at hc2 hcl2
          rw [List.length_append]
          have hE := EqualX al al (slv k2 o2 g2 al.length c2) w1 (G2 ++ [.cells 0 0 false [slv k2 o2 g2 (al.length + t.length) c2, .int .i64 bm, .int .i64 bb, .int .i64 bd]]) (.inr ⟨_, _, _, _, rfl, by have := (hi2.app [.cells 0 0 false [slv k2 o2 g2 (al.length + t.length) c2, .int .i64 bm, .int .i64 bb, .int .i64 bd]]).take al.length; rwa [List.take_left] at this, by omega⟩) (hJ1.app _) (by omega) (by omega)
          simp only [decide_true] at hE
          rcases hJ1 with ⟨rfl, hn1⟩ | ⟨k1, o1, g1, c1, rfl, hi1, hc1⟩
          · subst hn1
            simp only [List.length_nil, Nat.zero_add] at *
            repeat' first | simp (disch := first | with_reducible assumption | omega) only [go_sem, Bool.true_and, Bool.and_true, Bool.and_self, Bool.false_and, Bool.and_false, Bool.true_or, Bool.or_true, Bool.false_or, Bool.or_false, ↓reduceIte, Nat.reduceEqDiff, Nat.reduceAdd, Nat.reduceMul, Nat.reduceSub, Nat.reduceBEq, Nat.reduceLeDiff, Nat.reduceLT, Nat.reduceMod, Nat.reduceDiv, Int.reduceToNat, Int.reducePow, Int.reduceMul, Int.reduceAdd, Int.reduceSub, Int.reduceLE, Int.reduceLT, Int.reduceNeg, Int.reduceDiv, Int.reduceMod, Int.reduceEq, Int.reduceBEq, Int.reduceBNe, f4, f4b, f4r0, f4r1, f4r2, f4r3, f4r4, f4r5, f4r6, f4r7, f4r8, f4r10, f4r11, f4r12, f4r13, f4r14, Q.val, Q.cells, bq1, bq2, bq3, bq4, hbA, get_old hbA, hk2, get_old hk2] | (refine BrW.of (fun hb => ?_) (fun hb => ?_) <;> (have hb' := hb; try simp only [decide_eq_true_eq, decide_eq_false_iff_not, beq_iff_eq, bne_iff_ne, beq_eq_false_iff_ne, bne_eq_false_iff_eq, Bool.not_eq_true', Bool.not_eq_false', Bool.not_eq_true, Bool.not_eq_false, Bool.and_eq_true, Bool.or_eq_true, Bool.and_eq_false_iff, Bool.or_eq_false_iff, Int.not_lt, Int.not_le, ne_eq, gt_iff_lt, ge_iff_le] at hb') <;> (try (exfalso; omega))) | (refine dcallW.of _ _ hE ?_) | (refine .of (hE.mono ?_); rintro v _ ⟨rfl, rfl⟩)
            all_goals first | exact .here rfl | (exfalso; simp at hb'; omega) | (exfalso; simp at *; omega)
          · obtain ⟨_, _, hk1, _, _⟩ := hi1.cell
            repeat' first | simp (disch := first | with_reducible assumption | omega) only [go_sem, Bool.true_and, Bool.and_true, Bool.and_self, Bool.false_and, Bool.and_false, Bool.true_or, Bool.or_true, Bool.false_or, Bool.or_false, ↓reduceIte, Nat.reduceEqDiff, Nat.reduceAdd, Nat.reduceMul, Nat.reduceSub, Nat.reduceBEq, Nat.reduceLeDiff, Nat.reduceLT, Nat.reduceMod, Nat.reduceDiv, Int.reduceToNat, Int.reducePow, Int.reduceMul, Int.reduceAdd, Int.reduceSub, Int.reduceLE, Int.reduceLT, Int.reduceNeg, Int.reduceDiv, Int.reduceMod, Int.reduceEq, Int.reduceBEq, Int.reduceBNe, f4, f4b, f4r0, f4r1, f4r2, f4r3, f4r4, f4r5, f4r6, f4r7, f4r8, f4r10, f4r11, f4r12, f4r13, f4r14, Q.val, Q.cells, bq1, bq2, bq3, bq4, hbA, get_old hbA, hk1, get_old hk1, hk2, get_old hk2] | (refine BrW.of (fun hb => ?_) (fun hb => ?_) <;> (have hb' := hb; try simp only [decide_eq_true_eq, decide_eq_false_iff_not, beq_iff_eq, bne_iff_ne, beq_eq_false_iff_ne, bne_eq_false_iff_eq, Bool.not_eq_true', Bool.not_eq_false', Bool.not_eq_true, Bool.not_eq_false, Bool.and_eq_true, Bool.or_eq_true, Bool.and_eq_false_iff, Bool.or_eq_false_iff, Int.not_lt, Int.not_le, ne_eq, gt_iff_lt, ge_iff_le] at hb') <;> (try (exfalso; omega))) | (refine dcallW.of _ _ hE ?_) | (refine .of (hE.mono ?_); rintro v _ ⟨rfl, rfl⟩)
            all_goals first | exact .here rfl | (exfalso; simp at hb'; omega) | (exfalso; simp at *; omega)
      · have z2' : (e2 != 0) = true := by simpa using z2
        subst z1
        repeat' first | simp (disch := first | with_reducible assumption | omega) only [go_sem, Bool.true_and, Bool.and_true, Bool.and_self, Bool.false_and, Bool.and_false, Bool.true_or, Bool.or_true, Bool.false_or, Bool.or_false, ↓reduceIte, Nat.reduceEqDiff, Nat.reduceAdd, Nat.reduceMul, Nat.reduceSub, Nat.reduceBEq, Nat.reduceLeDiff, Nat.reduceLT, Nat.reduceMod, Nat.reduceDiv, Int.reduceToNat, Int.reducePow, Int.reduceMul, Int.reduceAdd, Int.reduceSub, Int.reduceLE, Int.reduceLT, Int.reduceNeg, Int.reduceDiv, Int.reduceMod, Int.reduceEq, Int.reduceBEq, Int.reduceBNe, f4, f4b, f4r0, f4r1, f4r2, f4r3, f4r4, f4r5, f4r6, f4r7, f4r8, f4r10, f4r11, f4r12, f4r13, f4r14, Q.val, Q.cells, z2'] | (refine BrW.of (fun hb => ?_) (fun hb => ?_) <;> (have hb' := hb; try simp only [decide_eq_true_eq, decide_eq_false_iff_not, beq_iff_eq, bne_iff_ne, beq_eq_false_iff_ne, bne_eq_false_iff_eq, Bool.not_eq_true', Bool.not_eq_false', Bool.not_eq_true, Bool.not_eq_false, Bool.and_eq_true, Bool.or_eq_true, Bool.and_eq_false_iff, Bool.or_eq_false_iff, Int.not_lt, Int.not_le, ne_eq, gt_iff_lt, ge_iff_le] at hb') <;> (try (exfalso; omega)))
        all_goals exact .here rfl
    · have z1' : (e1 != 0) = true := by simpa using z1
      repeat' first | simp (disch := first | with_reducible assumption | omega) only [go_sem, Bool.true_and, Bool.and_true, Bool.and_self, Bool.false_and, Bool.and_false, Bool.true_or, Bool.or_true, Bool.false_or, Bool.or_false, ↓reduceIte, Nat.reduceEqDiff, Nat.reduceAdd, Nat.reduceMul, Nat.reduceSub, Nat.reduceBEq, Nat.reduceLeDiff, Nat.reduceLT, Nat.reduceMod, Nat.reduceDiv, Int.reduceToNat, Int.reducePow, Int.reduceMul, Int.reduceAdd, Int.reduceSub, Int.reduceLE, Int.reduceLT, Int.reduceNeg, Int.reduceDiv, Int.reduceMod, Int.reduceEq, Int.reduceBEq, Int.reduceBNe, f4, f4b, f4r0, f4r1, f4r2, f4r3, f4r4, f4r5, f4r6, f4r7, f4r8, f4r10, f4r11, f4r12, f4r13, f4r14, Q.val, Q.cells, z1'] | (refine BrW.of (fun hb => ?_) (fun hb => ?_) <;> (have hb' := hb; try simp only [decide_eq_true_eq, decide_eq_false_iff_not, beq_iff_eq, bne_iff_ne, beq_eq_false_iff_ne, bne_eq_false_iff_eq, Bool.not_eq_true', Bool.not_eq_false', Bool.not_eq_true, Bool.not_eq_false, Bool.and_eq_true, Bool.or_eq_true, Bool.and_eq_false_iff, Bool.or_eq_false_iff, Int.not_lt, Int.not_le, ne_eq, gt_iff_lt, ge_iff_le] at hb') <;> (try (exfalso; omega)))
      all_goals exact .here rfl
end Go.Proofs.Ytimmpjfbejojhaa
