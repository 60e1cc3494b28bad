import Derived.Test.YtiflaenenlcidaaLaws3
import Derived.Test.YtiflaenenlcidaaPlain4
set_option linter.unusedSimpArgs false
set_option linter.unusedVariables false
set_option maxHeartbeats 4000000
set_option maxRecDepth 20000
namespace Go.Proofs.Ytiflaenenlcidaa
open Go Go.Am
attribute [local irreducible] opsW Ww loopW callW drawW outW outDW gW cW BrW bothW vW resW DropW RdW dcallW altW Later.run

theorem TrieMore_args (H : Heap) (vals : List Value) (h : ArgsOk 1048576 H TrieMoreSh vals) : ACallK Try.prog 6 vals H fun v _ => v = .bool true := by
  obtain ⟨_, _, rfl, a1, h⟩ := h.cons
  obtain ⟨_, _, rfl, a2, h⟩ := h.cons
  obtain ⟨_, _, rfl, a3, h⟩ := h.cons
  obtain rfl := h.nil
  obtain ⟨k, c, l, rfl, hB, hlc, hs, hok⟩ := rows_of (enc := Px.cells) (ok := fun x => x.ad.ok) 6 (fun _ => rfl) p0 rfl (fun cs h => Px.of h) a1
  obtain ⟨_, rfl, hr⟩ := a2.agg
  obtain ⟨R, rfl, hRo⟩ := Px.of hr
  obtain ⟨_, rfl, hr'⟩ := a3.agg
  obtain ⟨a, rfl, hao⟩ := A.of hr'
  clear a1 a2 a3 h hr hr'
  have hok' : ∀ x ∈ l, x.ad.ok := fun x hx => by obtain ⟨j, hj, rfl⟩ := mem_getD (d := p0) hx; exact hok j hj
  have hmok : ∀ x ∈ l ++ [R], x.ad.ok := fun x hx => by
    rcases List.mem_append.1 hx with hx | hx
    · exact hok' x hx
    · rw [List.mem_singleton.1 hx]; exact hRo
  have haok : ∀ x ∈ [a], x.ok := fun x hx => by rw [List.mem_singleton.1 hx]; exact hao
  refine .walkW f6_ok (by simp; decide) (by decide) ?_
  have hni : ¬ l.length + 1 ≤ l.length := by omega
  have htk : (flat' Px.cells l).take (l.length * 6) = flat' Px.cells l := List.take_of_length_le (by rw [flat'_length (s := 6) (fun _ => rfl)]; omega)
  have hfl := flat'_length (enc := Px.cells) (s := 6) (fun _ => rfl) l
  have hap : flat' Px.cells l ++ [.int .u8 R.ad.b0, .int .u8 R.ad.b1, .int .u8 R.ad.b2, .int .u8 R.ad.b3, .int .i64 R.bits, .int .i64 R.to] = flat' Px.cells (l ++ [R]) := by rw [← flat'_app]; rfl
  have tA : ∀ (J : Heap) k, J[k]? = some (.cells 0 4 false [.int .u8 a.b0, .int .u8 a.b1, .int .u8 a.b2, .int .u8 a.b3]) → As J k 0 0 [a] := fun J k h => Tbl.new (enc := A.cells) (s := 4) (d := a0) (fun _ => rfl) _ _ _ false _ h
  have tP : ∀ (J : Heap) k g, J[k]? = some (.cells g 6 false (flat' Px.cells (l ++ [R]))) → Ps J k 0 g (l ++ [R]) := fun J k g h => Tbl.new (enc := Px.cells) (s := 6) (d := p0) (fun _ => rfl) _ _ _ false _ h
  have sF1 := fun q H' hs' ha' => Find_u l [a] k 0 0 c q 0 0 1 H' hs' hlc (by omega) hok' ha' (by simp) haok
  have sF2 := fun q q2 g H' hs' ha' => Find_u (l ++ [R]) [a] q 0 g (l.length + 1) q2 0 0 1 H' hs' (by simp) (by simp; omega) hmok ha' (by simp) haok
  rw [show (l ++ [R]).length = l.length + 1 by simp] at sF2
  simp only [List.length_cons, List.length_nil, Nat.zero_add] at sF1 sF2
  have hW := fun H' => Within_spec a R.ad R.bits R.to H' hao hRo
  have hRc : R.cells = [.int .u8 R.ad.b0, .int .u8 R.ad.b1, .int .u8 R.ad.b2, .int .u8 R.ad.b3, .int .i64 R.bits, .int .i64 R.to] := rfl
  have hac : a.cells = [.int .u8 a.b0, .int .u8 a.b1, .int .u8 a.b2, .int .u8 a.b3] := rfl
  repeat' first | simp (disch := first | with_reducible assumption | omega) only [go_sem, Bool.true_and, Bool.and_true, Bool.and_self, Bool.false_and, Bool.and_false, Bool.true_or, Bool.or_true, Bool.false_or, Bool.or_false, ↓reduceIte, Nat.reduceEqDiff, Nat.reduceAdd, Nat.reduceMul, Nat.reduceSub, Nat.reduceBEq, Nat.reduceLeDiff, Nat.reduceLT, Nat.reduceMod, Nat.reduceDiv, Int.reduceToNat, Int.reducePow, Int.reduceMul, Int.reduceAdd, Int.reduceSub, Int.reduceLE, Int.reduceLT, Int.reduceNeg, Int.reduceDiv, Int.reduceMod, Int.reduceEq, Int.reduceBEq, Int.reduceBNe, f6, f6b, f6r0, f6r1, f6r2, f6r3, f6r4, f6r5, f6r6, f6r7, f6r8, f6r9, f6r10, f6r11, f6r12, f6r13, f6r14, f6r15, f6r16, hRc, hac] | (refine BrW.of (fun hb => ?_) (fun hb => ?_) <;> (have hb' := hb; try simp only [decide_eq_true_eq, decide_eq_false_iff_not, beq_iff_eq, bne_iff_ne, beq_eq_false_iff_ne, bne_eq_false_iff_eq, Bool.not_eq_true', Bool.not_eq_false', Bool.not_eq_true, Bool.not_eq_false, Bool.and_eq_true, Bool.or_eq_true, Bool.and_eq_false_iff, Bool.or_eq_false_iff, Int.not_lt, Int.not_le, ne_eq, gt_iff_lt, ge_iff_le] at hb') <;> (try (exfalso; omega))) | (refine altW.of ?_ ?_) | (refine .of ((alive _).mono ?_); rintro v H ⟨rfl, rfl⟩)
  refine .of ((sF1 _ _ (hs.app _) (tA _ _ (by rw [get_new]; rfl))).mono ?_)
  rintro v H1 ⟨x1, x2, e, rfl, hle, he1, he2, he3⟩
  have hb4 := hle.get (show _ = some (.cells 0 0 false [.int .u8 R.ad.b0, .int .u8 R.ad.b1, .int .u8 R.ad.b2, .int .u8 R.ad.b3, .int .i64 R.bits, .int .i64 R.to]) from get_new0 _ _ _)
  have hb5 := hle.get (k := H.length + 1) (o := .cells 0 0 false [.int .u8 a.b0, .int .u8 a.b1, .int .u8 a.b2, .int .u8 a.b3]) (by rw [get_new]; rfl)
  have hs1 := Tbl.le (hs.app _) hle
  have hcl := fun J (hJ : Ps J k 0 0 l) => CloneP_spec l k 0 0 c J hJ (by omega) hlc
  repeat' first | simp (disch := first | with_reducible assumption | omega) only [go_sem, Bool.true_and, Bool.and_true, Bool.and_self, Bool.false_and, Bool.and_false, Bool.true_or, Bool.or_true, Bool.false_or, Bool.or_false, ↓reduceIte, Nat.reduceEqDiff, Nat.reduceAdd, Nat.reduceMul, Nat.reduceSub, Nat.reduceBEq, Nat.reduceLeDiff, Nat.reduceLT, Nat.reduceMod, Nat.reduceDiv, Int.reduceToNat, Int.reducePow, Int.reduceMul, Int.reduceAdd, Int.reduceSub, Int.reduceLE, Int.reduceLT, Int.reduceNeg, Int.reduceDiv, Int.reduceMod, Int.reduceEq, Int.reduceBEq, Int.reduceBNe, f6, f6b, f6r0, f6r1, f6r2, f6r3, f6r4, f6r5, f6r6, f6r7, f6r8, f6r9, f6r10, f6r11, f6r12, f6r13, f6r14, f6r15, f6r16, hni, htk, hfl, hap, hb4, hb5, get_old hb4, get_old hb5] | (refine BrW.of (fun hb => ?_) (fun hb => ?_) <;> (have hb' := hb; try simp only [decide_eq_true_eq, decide_eq_false_iff_not, beq_iff_eq, bne_iff_ne, beq_eq_false_iff_ne, bne_eq_false_iff_eq, Bool.not_eq_true', Bool.not_eq_false', Bool.not_eq_true, Bool.not_eq_false, Bool.and_eq_true, Bool.or_eq_true, Bool.and_eq_false_iff, Bool.or_eq_false_iff, Int.not_lt, Int.not_le, ne_eq, gt_iff_lt, ge_iff_le] at hb') <;> (try (exfalso; omega))) | (refine altW.of ?_ ?_) | (refine .of ((hcl _ (by first | exact hs1 | exact hs1.app _)).mono ?_); rintro v _ ⟨g1, rfl, rfl⟩)
  all_goals
    refine .of ((sF2 _ _ _ _ (tP _ _ _ (by first | exact get_new0 _ _ _ | (rw [get_new]; rfl))) (tA _ _ (by first | exact get_new0 _ _ _ | (rw [get_new]; rfl)))).mono ?_)
    rintro v H2 ⟨y1, y2, f, rfl, hle2, hf1, hf2, hf3⟩
    have hle3 : Le H1 H2 := (Le.app _ _).trans hle2
    replace hb4 := hle3.get hb4
    replace hb5 := hle3.get hb5
    clear sF1 sF2 hcl tA tP hs1 hle hle2
    by_cases z1 : e = 0
    · by_cases z2 : f = 0
      · obtain ⟨q1, p1, q2, p2, rfl, rfl, hI, hO⟩ := he3 z1
        obtain ⟨q3, p3, q4, p4, rfl, rfl, hI2, hO2⟩ := hf3 z2
        obtain ⟨law1, law2⟩ := found_more (he1.1 z1) (hf1.1 z2) hok' hRo a
        obtain ⟨r1, s1, k1, _, u1⟩ := Ints.cell (hI.le hle3)
        obtain ⟨r3, s3, k3, _, u3⟩ := Ints.cell hI2
        obtain ⟨r4, s4, k4, _, u4⟩ := Bools.cell hO2
        have c1 := u1 0 (by simp [vals'])
        have c3 := u3 0 (by simp [vals'])
        have c4 := u4 0 (by simp [oks'])
        rw [vals_get _ _ _ (by simp)] at c1 c3
        rw [oks_get _ _ _ (by simp)] at c4
        simp only [Nat.zero_add, List.getD_cons_zero] at c1 c3 c4
        subst z1 z2
        clear u1 u3 u4 he1 he2 he3 hf1 hf2 hf3
        by_cases hw : within a R.ad R.bits
        · obtain ⟨w1, w2⟩ := law1 hw
          rw [w1] at c4
          rw [decide_eq_true hw] at hW
          clear law1 law2 hw w1
          generalize (found l a 32).getD 0 = V1 at *
          generalize (found (l ++ [R]) a 32).getD 0 = V2 at *
          by_cases e1 : V2 = V1
          · have e2 : (V2 == V1) = true := by simpa using e1
            clear w2 e1
            repeat' first | simp (disch := first | with_reducible assumption | omega) only [go_sem, Bool.true_and, Bool.and_true, Bool.and_self, Bool.false_and, Bool.and_false, Bool.true_or, Bool.or_true, Bool.false_or, Bool.or_false, ↓reduceIte, Nat.reduceEqDiff, Nat.reduceAdd, Nat.reduceMul, Nat.reduceSub, Nat.reduceBEq, Nat.reduceLeDiff, Nat.reduceLT, Nat.reduceMod, Nat.reduceDiv, Int.reduceToNat, Int.reducePow, Int.reduceMul, Int.reduceAdd, Int.reduceSub, Int.reduceLE, Int.reduceLT, Int.reduceNeg, Int.reduceDiv, Int.reduceMod, Int.reduceEq, Int.reduceBEq, Int.reduceBNe, f6, f6b, f6r0, f6r1, f6r2, f6r3, f6r4, f6r5, f6r6, f6r7, f6r8, f6r9, f6r10, f6r11, f6r12, f6r13, f6r14, f6r15, f6r16, hb4, hb5, k1, k3, k4, c1, c3, c4, e2] | (refine BrW.of (fun hb => ?_) (fun hb => ?_) <;> (have hb' := hb; try simp only [decide_eq_true_eq, decide_eq_false_iff_not, beq_iff_eq, bne_iff_ne, beq_eq_false_iff_ne, bne_eq_false_iff_eq, Bool.not_eq_true', Bool.not_eq_false', Bool.not_eq_true, Bool.not_eq_false, Bool.and_eq_true, Bool.or_eq_true, Bool.and_eq_false_iff, Bool.or_eq_false_iff, Int.not_lt, Int.not_le, ne_eq, gt_iff_lt, ge_iff_le] at hb') <;> (try (exfalso; omega))) | (refine altW.of ?_ ?_) | (refine .of ((hW _).mono ?_); rintro v _ ⟨rfl, rfl⟩)
            exact .here rfl
          · have e2 : (V2 == V1) = false := by simpa using e1
            have e3 : (V2 == R.to) = true := by simpa using w2.resolve_left e1
            clear w2 e1
            repeat' first | simp (disch := first | with_reducible assumption | omega) only [go_sem, Bool.true_and, Bool.and_true, Bool.and_self, Bool.false_and, Bool.and_false, Bool.true_or, Bool.or_true, Bool.false_or, Bool.or_false, ↓reduceIte, Nat.reduceEqDiff, Nat.reduceAdd, Nat.reduceMul, Nat.reduceSub, Nat.reduceBEq, Nat.reduceLeDiff, Nat.reduceLT, Nat.reduceMod, Nat.reduceDiv, Int.reduceToNat, Int.reducePow, Int.reduceMul, Int.reduceAdd, Int.reduceSub, Int.reduceLE, Int.reduceLT, Int.reduceNeg, Int.reduceDiv, Int.reduceMod, Int.reduceEq, Int.reduceBEq, Int.reduceBNe, f6, f6b, f6r0, f6r1, f6r2, f6r3, f6r4, f6r5, f6r6, f6r7, f6r8, f6r9, f6r10, f6r11, f6r12, f6r13, f6r14, f6r15, f6r16, hb4, hb5, k1, k3, k4, c1, c3, c4, e2, e3] | (refine BrW.of (fun hb => ?_) (fun hb => ?_) <;> (have hb' := hb; try simp only [decide_eq_true_eq, decide_eq_false_iff_not, beq_iff_eq, bne_iff_ne, beq_eq_false_iff_ne, bne_eq_false_iff_eq, Bool.not_eq_true', Bool.not_eq_false', Bool.not_eq_true, Bool.not_eq_false, Bool.and_eq_true, Bool.or_eq_true, Bool.and_eq_false_iff, Bool.or_eq_false_iff, Int.not_lt, Int.not_le, ne_eq, gt_iff_lt, ge_iff_le] at hb') <;> (try (exfalso; omega))) | (refine altW.of ?_ ?_) | (refine .of ((hW _).mono ?_); rintro v _ ⟨rfl, rfl⟩)
            exact .here rfl
        · rw [law2 hw] at c3
          rw [decide_eq_false hw] at hW
          clear law1 law2 hw
          generalize (found l a 32).getD 0 = V1 at *
          have e2 : (V1 == V1) = true := by simp
          repeat' first | simp (disch := first | with_reducible assumption | omega) only [go_sem, Bool.true_and, Bool.and_true, Bool.and_self, Bool.false_and, Bool.and_false, Bool.true_or, Bool.or_true, Bool.false_or, Bool.or_false, ↓reduceIte, Nat.reduceEqDiff, Nat.reduceAdd, Nat.reduceMul, Nat.reduceSub, Nat.reduceBEq, Nat.reduceLeDiff, Nat.reduceLT, Nat.reduceMod, Nat.reduceDiv, Int.reduceToNat, Int.reducePow, Int.reduceMul, Int.reduceAdd, Int.reduceSub, Int.reduceLE, Int.reduceLT, Int.reduceNeg, Int.reduceDiv, Int.reduceMod, Int.reduceEq, Int.reduceBEq, Int.reduceBNe, f6, f6b, f6r0, f6r1, f6r2, f6r3, f6r4, f6r5, f6r6, f6r7, f6r8, f6r9, f6r10, f6r11, f6r12, f6r13, f6r14, f6r15, f6r16, hb4, hb5, k1, k3, k4, c1, c3, c4, e2] | (refine BrW.of (fun hb => ?_) (fun hb => ?_) <;> (have hb' := hb; try simp only [decide_eq_true_eq, decide_eq_false_iff_not, beq_iff_eq, bne_iff_ne, beq_eq_false_iff_ne, bne_eq_false_iff_eq, Bool.not_eq_true', Bool.not_eq_false', Bool.not_eq_true, Bool.not_eq_false, Bool.and_eq_true, Bool.or_eq_true, Bool.and_eq_false_iff, Bool.or_eq_false_iff, Int.not_lt, Int.not_le, ne_eq, gt_iff_lt, ge_iff_le] at hb') <;> (try (exfalso; omega))) | (refine altW.of ?_ ?_) | (refine .of ((hW _).mono ?_); rintro v _ ⟨rfl, rfl⟩)
          exact .here rfl
      · have z2' : (f != 0) = true := by simpa using z2
        subst z1
        repeat' first | simp (disch := first | with_reducible assumption | omega) only [go_sem, Bool.true_and, Bool.and_true, Bool.and_self, Bool.false_and, Bool.and_false, Bool.true_or, Bool.or_true, Bool.false_or, Bool.or_false, ↓reduceIte, Nat.reduceEqDiff, Nat.reduceAdd, Nat.reduceMul, Nat.reduceSub, Nat.reduceBEq, Nat.reduceLeDiff, Nat.reduceLT, Nat.reduceMod, Nat.reduceDiv, Int.reduceToNat, Int.reducePow, Int.reduceMul, Int.reduceAdd, Int.reduceSub, Int.reduceLE, Int.reduceLT, Int.reduceNeg, Int.reduceDiv, Int.reduceMod, Int.reduceEq, Int.reduceBEq, Int.reduceBNe, f6, f6b, f6r0, f6r1, f6r2, f6r3, f6r4, f6r5, f6r6, f6r7, f6r8, f6r9, f6r10, f6r11, f6r12, f6r13, f6r14, f6r15, f6r16, z2'] | (refine BrW.of (fun hb => ?_) (fun hb => ?_) <;> (have hb' := hb; try simp only [decide_eq_true_eq, decide_eq_false_iff_not, beq_iff_eq, bne_iff_ne, beq_eq_false_iff_ne, bne_eq_false_iff_eq, Bool.not_eq_true', Bool.not_eq_false', Bool.not_eq_true, Bool.not_eq_false, Bool.and_eq_true, Bool.or_eq_true, Bool.and_eq_false_iff, Bool.or_eq_false_iff, Int.not_lt, Int.not_le, ne_eq, gt_iff_lt, ge_iff_le] at hb') <;> (try (exfalso; omega))) | (refine altW.of ?_ ?_)
        all_goals exact .here rfl
    · have z1' : (e != 0) = true := by simpa using z1
      repeat' first | simp (disch := first | with_reducible assumption | omega) only [go_sem, Bool.true_and, Bool.and_true, Bool.and_self, Bool.false_and, Bool.and_false, Bool.true_or, Bool.or_true, Bool.false_or, Bool.or_false, ↓reduceIte, Nat.reduceEqDiff, Nat.reduceAdd, Nat.reduceMul, Nat.reduceSub, Nat.reduceBEq, Nat.reduceLeDiff, Nat.reduceLT, Nat.reduceMod, Nat.reduceDiv, Int.reduceToNat, Int.reducePow, Int.reduceMul, Int.reduceAdd, Int.reduceSub, Int.reduceLE, Int.reduceLT, Int.reduceNeg, Int.reduceDiv, Int.reduceMod, Int.reduceEq, Int.reduceBEq, Int.reduceBNe, f6, f6b, f6r0, f6r1, f6r2, f6r3, f6r4, f6r5, f6r6, f6r7, f6r8, f6r9, f6r10, f6r11, f6r12, f6r13, f6r14, f6r15, f6r16, z1'] | (refine BrW.of (fun hb => ?_) (fun hb => ?_) <;> (have hb' := hb; try simp only [decide_eq_true_eq, decide_eq_false_iff_not, beq_iff_eq, bne_iff_ne, beq_eq_false_iff_ne, bne_eq_false_iff_eq, Bool.not_eq_true', Bool.not_eq_false', Bool.not_eq_true, Bool.not_eq_false, Bool.and_eq_true, Bool.or_eq_true, Bool.and_eq_false_iff, Bool.or_eq_false_iff, Int.not_lt, Int.not_le, ne_eq, gt_iff_lt, ge_iff_le] at hb') <;> (try (exfalso; omega))) | (refine altW.of ?_ ?_)
      all_goals exact .here rfl
end Go.Proofs.Ytiflaenenlcidaa
