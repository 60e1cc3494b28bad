import Derived.Test.YtfoooabhfecjhaaSteps8
import Derived.Test.YtfoooabhfecjhaaBase
set_option linter.unusedSimpArgs false
set_option linter.unusedVariables false
set_option maxHeartbeats 2000000
set_option maxRecDepth 20000
namespace Go.Proofs.Ytfoooabhfecjhaa
open Go Go.Am
attribute [local irreducible] opsW Ww loopW callW drawW outW outDW gW cW BrW bothW vW resW DropW RdW dcallW altW Later.run

theorem flat_rnd (l : List O) (d : Int) (i : Nat) : flat' O.cells (l ++ rnds d i) ++ [.int .i64 2, .int .i64 (1500 * d), .int .i64 3, .int .i64 1073741824] = flat' O.cells (l ++ rnds d (i + 1)) := by
  have h := flat'_app (enc := O.cells) (l ++ rnds d i) (rnd d)
  rw [List.append_assoc] at h
  exact h
theorem PaceAll_args (H : Heap) (vals : List Value) (h : ArgsOk maxLen H PaceAllSh vals) : ACallK Try.prog 5 vals H fun v _ => v = .bool true := by
  obtain ⟨_, _, rfl, a1, h1⟩ := h.cons
  obtain ⟨_, _, rfl, a2, h2⟩ := h1.cons
  obtain ⟨_, _, rfl, a3, h3⟩ := h2.cons
  obtain ⟨_, _, rfl, a4, h4⟩ := h3.cons
  obtain rfl := h4.nil
  obtain ⟨n, rfl, hn⟩ := int_of a1
  obtain ⟨d, rfl, hd⟩ := int_of a2
  obtain ⟨b, rfl, hb⟩ := int_of a3
  obtain ⟨k, c, l, rfl, hl, hlc, hO⟩ := ops_of a4
  have hl' : l.length ≤ 9223372036854775807 := Nat.le_trans hl (by decide)
  clear a1 a2 a3 a4 h h1 h2 h3 h4 hl
  obtain ⟨ro, cs, hk, hcl, hcs⟩ := hO.at'
  refine .walkW f5_ok (by simp; decide) (by decide) ?_
  by_cases hg : (¬ n < 1 ∧ ¬ d < 1 ∧ ¬ 1048576 < d) ∧ l.length ≤ 300
  · obtain ⟨⟨g1, g2, g3⟩, g4⟩ := hg
    have hC := CloneO_spec l k 0 0 c H hO (by omega) hlc
    repeat' first | simp (disch := first | with_reducible assumption | omega) only [go_sem, Bool.true_and, Bool.and_true, Bool.and_self, Bool.false_and, Bool.and_false, Bool.true_or, Bool.or_true, Bool.false_or, Bool.or_false, ↓reduceIte, Nat.reduceEqDiff, Nat.reduceAdd, Nat.reduceMul, Nat.reduceSub, Nat.reduceBEq, Nat.reduceLeDiff, Nat.reduceLT, Nat.reduceMod, Nat.reduceDiv, Int.reduceToNat, Int.reducePow, Int.reduceMul, Int.reduceAdd, Int.reduceSub, Int.reduceLE, Int.reduceLT, Int.reduceNeg, Int.reduceDiv, Int.reduceMod, Int.reduceEq, Int.reduceBEq, Int.reduceBNe, f5, f5b, f5r0, f5r1, f5r2, f5r3, f5r4, f5r5, f5r6, f5r7, f5r8, f5r9, f5r11, f5r12, f5r13, f5r14, f5r15, hk, get_old hk] | (refine BrW.of (fun hb => ?_) (fun hb => ?_) <;> (have hb' := hb; try simp only [decide_eq_true_eq, decide_eq_false_iff_not, beq_iff_eq, bne_iff_ne, beq_eq_false_iff_ne, bne_eq_false_iff_eq, Bool.not_eq_true', Bool.not_eq_false', Bool.not_eq_true, Bool.not_eq_false, Bool.and_eq_true, Bool.or_eq_true, Bool.and_eq_false_iff, Bool.or_eq_false_iff, Int.not_lt, Int.not_le, ne_eq, gt_iff_lt, ge_iff_le] at hb') <;> (try (exfalso; omega))) | (refine altW.of ?_ ?_) | (refine .of ((alive _).mono ?_); rintro v H ⟨rfl, rfl⟩) | (refine .of (hC.mono ?_); rintro v J ⟨g', rfl, rfl⟩)
    refine loopW.of (by decide) (fun m e J => ∃ (i gi : Nat) (x : Heap), e = [(0, .int .i64 n), (1, .int .i64 d), (2, .int .i64 b), (3, slv k 0 0 l.length c), (9, slv H.length 0 gi (l ++ rnds d i).length (l ++ rnds d i).length), (35, .int .i64 i)] ∧ J = H ++ (.cells gi 2 false (flat' O.cells (l ++ rnds d i)) :: x) ∧ i ≤ 101 ∧ m = 101 - i) 101 ⟨0, g', [], by simp [rnds], by simp [rnds], by omega, rfl⟩ ?_
    rintro m e J ⟨i, gi, x, rfl, rfl, hi, rfl⟩
    have hfl := flat'_length (enc := O.cells) (s := 2) (fun _ => rfl) (l ++ rnds d i)
    have hnx := flat_rnd l d i
    have hll : (l ++ rnds d (i + 1)).length = (l ++ rnds d i).length + 2 := by simp [rnds_length]; omega
    have hlm : (l ++ rnds d i).length ≤ 502 := by simp [rnds_length]; omega
    have htk : (flat' O.cells (l ++ rnds d i)).take ((l ++ rnds d i).length * 2) = flat' O.cells (l ++ rnds d i) := List.take_of_length_le (by omega)
    have hni : ¬ (l ++ rnds d i).length + 2 ≤ (l ++ rnds d i).length := by omega
    clear hC
    by_cases hlt : i < 101
    · generalize (l ++ rnds d i).length = N at *
      repeat' first | simp (disch := first | with_reducible assumption | omega) only [go_sem, Bool.true_and, Bool.and_true, Bool.and_self, Bool.false_and, Bool.and_false, Bool.true_or, Bool.or_true, Bool.false_or, Bool.or_false, ↓reduceIte, Nat.reduceEqDiff, Nat.reduceAdd, Nat.reduceMul, Nat.reduceSub, Nat.reduceBEq, Nat.reduceLeDiff, Nat.reduceLT, Nat.reduceMod, Nat.reduceDiv, Int.reduceToNat, Int.reducePow, Int.reduceMul, Int.reduceAdd, Int.reduceSub, Int.reduceLE, Int.reduceLT, Int.reduceNeg, Int.reduceDiv, Int.reduceMod, Int.reduceEq, Int.reduceBEq, Int.reduceBNe, f5, f5b, f5r0, f5r1, f5r2, f5r3, f5r4, f5r5, f5r6, f5r7, f5r8, f5r9, f5r11, f5r12, f5r13, f5r14, f5r15, f5l0, hfl, htk, hni] | (refine BrW.of (fun hb => ?_) (fun hb => ?_) <;> (have hb' := hb; try simp only [decide_eq_true_eq, decide_eq_false_iff_not, beq_iff_eq, bne_iff_ne, beq_eq_false_iff_ne, bne_eq_false_iff_eq, Bool.not_eq_true', Bool.not_eq_false', Bool.not_eq_true, Bool.not_eq_false, Bool.and_eq_true, Bool.or_eq_true, Bool.and_eq_false_iff, Bool.or_eq_false_iff, Int.not_lt, Int.not_le, ne_eq, gt_iff_lt, ge_iff_le] at hb') <;> (try (exfalso; omega))) | (refine altW.of ?_ ?_)
      refine RdW.keep [0, 1, 2, 3, 9, 35] (101 - (i + 1)) (by omega) ?_
      simp (disch := first | with_reducible assumption | omega) only [go_sem, Bool.true_and, Bool.and_true, Bool.and_self, Bool.false_and, Bool.and_false, Bool.true_or, Bool.or_true, Bool.false_or, Bool.or_false, ↓reduceIte, Nat.reduceEqDiff, Nat.reduceAdd, Nat.reduceMul, Nat.reduceSub, Nat.reduceBEq, Nat.reduceLeDiff, Nat.reduceLT, Nat.reduceMod, Nat.reduceDiv, Int.reduceToNat, Int.reducePow, Int.reduceMul, Int.reduceAdd, Int.reduceSub, Int.reduceLE, Int.reduceLT, Int.reduceNeg, Int.reduceDiv, Int.reduceMod, Int.reduceEq, Int.reduceBEq, Int.reduceBNe]
      exact ⟨i + 1, gi + 1, _, by rw [hll]; rfl, by rw [← hnx], by omega, rfl⟩
    · obtain rfl : i = 101 := by omega
      have hP1 := fun (x : Heap) => Play_w n d b l k 0 0 c (H ++ x) (hO.app x) (by omega)
      have hP2 := fun (G : Heap) (hG : G[H.length]? = some (AObj.cells gi 2 false (flat' O.cells (l ++ rnds d 101)))) => Play_w n d b (l ++ rnds d 101) H.length 0 gi (l ++ rnds d 101).length G (ops_new hG) (by omega)
      clear hnx hll htk hni hfl hcs hO
      repeat' first | simp (disch := first | with_reducible assumption | omega) only [go_sem, Bool.true_and, Bool.and_true, Bool.and_self, Bool.false_and, Bool.and_false, Bool.true_or, Bool.or_true, Bool.false_or, Bool.or_false, ↓reduceIte, Nat.reduceEqDiff, Nat.reduceAdd, Nat.reduceMul, Nat.reduceSub, Nat.reduceBEq, Nat.reduceLeDiff, Nat.reduceLT, Nat.reduceMod, Nat.reduceDiv, Int.reduceToNat, Int.reducePow, Int.reduceMul, Int.reduceAdd, Int.reduceSub, Int.reduceLE, Int.reduceLT, Int.reduceNeg, Int.reduceDiv, Int.reduceMod, Int.reduceEq, Int.reduceBEq, Int.reduceBNe, f5, f5b, f5r0, f5r1, f5r2, f5r3, f5r4, f5r5, f5r6, f5r7, f5r8, f5r9, f5r11, f5r12, f5r13, f5r14, f5r15, f5l0, f5, f5b, f5r0, f5r1, f5r2, f5r3, f5r4, f5r5, f5r6, f5r7, f5r8, f5r9, f5r11, f5r12, f5r13, f5r14, f5r15] | (refine BrW.of (fun hb => ?_) (fun hb => ?_) <;> (have hb' := hb; try simp only [decide_eq_true_eq, decide_eq_false_iff_not, beq_iff_eq, bne_iff_ne, beq_eq_false_iff_ne, bne_eq_false_iff_eq, Bool.not_eq_true', Bool.not_eq_false', Bool.not_eq_true, Bool.not_eq_false, Bool.and_eq_true, Bool.or_eq_true, Bool.and_eq_false_iff, Bool.or_eq_false_iff, Int.not_lt, Int.not_le, ne_eq, gt_iff_lt, ge_iff_le] at hb') <;> (try (exfalso; omega))) | (refine altW.of ?_ ?_)
      refine .of ((hP1 _).mono ?_)
      rintro v J ⟨X, rfl, hbad, hgood⟩
      have hA := get_old (get_new0 H (AObj.cells gi 2 false (flat' O.cells (l ++ rnds d 101))) x) X
      clear hP1
      generalize H ++ AObj.cells gi 2 false (flat' O.cells (l ++ rnds d 101)) :: x ++ X = G at *
      by_cases hw : wrongP n d b = 0
      · obtain ⟨w', kq, gq, cq, rfl, hI, hq, hR⟩ := hgood hw
        clear hbad hgood hR
        have hnum := wrong_num hw
        have hok := runP_ok (start_ok hw) l
        have hsm := run_same (p0 n d b) l
        have hsm1 : (runP (p0 n d b) l).b.num = n := hsm.1
        have hsm2 : (runP (p0 n d b) l).b.den = d := hsm.2.1
        have hsm3 : (runP (p0 n d b) l).b.bu = b := hsm.2.2
        have hfin := all_go hok (by omega) (by omega)
        rw [hsm2, ← runP_app] at hfin
        have hat := hok.b.2.2.2.2.2.2.2.2
        repeat' first | simp (disch := first | with_reducible assumption | omega) only [go_sem, Bool.true_and, Bool.and_true, Bool.and_self, Bool.false_and, Bool.and_false, Bool.true_or, Bool.or_true, Bool.false_or, Bool.or_false, ↓reduceIte, Nat.reduceEqDiff, Nat.reduceAdd, Nat.reduceMul, Nat.reduceSub, Nat.reduceBEq, Nat.reduceLeDiff, Nat.reduceLT, Nat.reduceMod, Nat.reduceDiv, Int.reduceToNat, Int.reducePow, Int.reduceMul, Int.reduceAdd, Int.reduceSub, Int.reduceLE, Int.reduceLT, Int.reduceNeg, Int.reduceDiv, Int.reduceMod, Int.reduceEq, Int.reduceBEq, Int.reduceBNe, f5, f5b, f5r0, f5r1, f5r2, f5r3, f5r4, f5r5, f5r6, f5r7, f5r8, f5r9, f5r11, f5r12, f5r13, f5r14, f5r15, P.val] | (refine BrW.of (fun hb => ?_) (fun hb => ?_) <;> (have hb' := hb; try simp only [decide_eq_true_eq, decide_eq_false_iff_not, beq_iff_eq, bne_iff_ne, beq_eq_false_iff_ne, bne_eq_false_iff_eq, Bool.not_eq_true', Bool.not_eq_false', Bool.not_eq_true, Bool.not_eq_false, Bool.and_eq_true, Bool.or_eq_true, Bool.and_eq_false_iff, Bool.or_eq_false_iff, Int.not_lt, Int.not_le, ne_eq, gt_iff_lt, ge_iff_le] at hb') <;> (try (exfalso; omega))) | (refine altW.of ?_ ?_)
        refine .of ((hP2 _ (get_old hA _)).mono ?_)
        rintro v J ⟨X2, rfl, hbad2, hgood2⟩
        obtain ⟨w2, kq2, gq2, cq2, rfl, hI2, hq2, hR2⟩ := hgood2 hw
        clear hbad2 hgood2 hR2 hP2
        generalize runP (p0 n d b) l = p at *
        generalize runP (p0 n d b) (l ++ rnds d 101) = p2 at *
        obtain ⟨pl, pdr, pb, pse⟩ := p
        obtain ⟨pl2, pdr2, pb2, pse2⟩ := p2
        simp only at hfin hat hI2
        have hm : 151500 * d ≤ 151500 * 1048576 := by omega
        have hpt := get_new0 G (AObj.cells 0 0 false [w', .int .i64 100, .int .i64 60000, .int .i64 pdr, .int .i64 pb.num, .int .i64 pb.den, .int .i64 pb.bu, .int .i64 pb.lv, .int .i64 pb.at', .int .i64 pse]) X2
        simp only [List.append_assoc, List.singleton_append] at hI2 hq2 ⊢
        generalize G ++ AObj.cells 0 0 false [w', .int .i64 100, .int .i64 60000, .int .i64 pdr, .int .i64 pb.num, .int .i64 pb.den, .int .i64 pb.bu, .int .i64 pb.lv, .int .i64 pb.at', .int .i64 pse] :: X2 = G2 at *
        by_cases hle : pb.at' ≤ 1099511627776 - 101 * 1500 * d
        · obtain rfl : pl2 = [] := hfin hle
          rcases hI2 with ⟨rfl, _⟩ | ⟨ki, oi, gk, ci, rfl, hIi, hci⟩
          · repeat' first | simp (disch := first | with_reducible assumption | omega) only [go_sem, Bool.true_and, Bool.and_true, Bool.and_self, Bool.false_and, Bool.and_false, Bool.true_or, Bool.or_true, Bool.false_or, Bool.or_false, ↓reduceIte, Nat.reduceEqDiff, Nat.reduceAdd, Nat.reduceMul, Nat.reduceSub, Nat.reduceBEq, Nat.reduceLeDiff, Nat.reduceLT, Nat.reduceMod, Nat.reduceDiv, Int.reduceToNat, Int.reducePow, Int.reduceMul, Int.reduceAdd, Int.reduceSub, Int.reduceLE, Int.reduceLT, Int.reduceNeg, Int.reduceDiv, Int.reduceMod, Int.reduceEq, Int.reduceBEq, Int.reduceBNe, f5, f5b, f5r0, f5r1, f5r2, f5r3, f5r4, f5r5, f5r6, f5r7, f5r8, f5r9, f5r11, f5r12, f5r13, f5r14, f5r15, P.val, hpt, get_old hpt] | (refine BrW.of (fun hb => ?_) (fun hb => ?_) <;> (have hb' := hb; try simp only [decide_eq_true_eq, decide_eq_false_iff_not, beq_iff_eq, bne_iff_ne, beq_eq_false_iff_ne, bne_eq_false_iff_eq, Bool.not_eq_true', Bool.not_eq_false', Bool.not_eq_true, Bool.not_eq_false, Bool.and_eq_true, Bool.or_eq_true, Bool.and_eq_false_iff, Bool.or_eq_false_iff, Int.not_lt, Int.not_le, ne_eq, gt_iff_lt, ge_iff_le] at hb') <;> (try (exfalso; omega))) | (refine altW.of ?_ ?_)
            all_goals first | exact .here rfl | (refine .here ?_; rw [decide_eq_true (by omega)]) | (exfalso; omega) | (rw [hb]; exact .here rfl) | (refine .here ?_; simp; done)
          · obtain ⟨ri, cc2, hki, _, i0⟩ := Ints.cell hIi
            repeat' first | simp (disch := first | with_reducible assumption | omega) only [go_sem, Bool.true_and, Bool.and_true, Bool.and_self, Bool.false_and, Bool.and_false, Bool.true_or, Bool.or_true, Bool.false_or, Bool.or_false, ↓reduceIte, Nat.reduceEqDiff, Nat.reduceAdd, Nat.reduceMul, Nat.reduceSub, Nat.reduceBEq, Nat.reduceLeDiff, Nat.reduceLT, Nat.reduceMod, Nat.reduceDiv, Int.reduceToNat, Int.reducePow, Int.reduceMul, Int.reduceAdd, Int.reduceSub, Int.reduceLE, Int.reduceLT, Int.reduceNeg, Int.reduceDiv, Int.reduceMod, Int.reduceEq, Int.reduceBEq, Int.reduceBNe, f5, f5b, f5r0, f5r1, f5r2, f5r3, f5r4, f5r5, f5r6, f5r7, f5r8, f5r9, f5r11, f5r12, f5r13, f5r14, f5r15, P.val, hpt, get_old hpt, hki, get_old hki] | (refine BrW.of (fun hb => ?_) (fun hb => ?_) <;> (have hb' := hb; try simp only [decide_eq_true_eq, decide_eq_false_iff_not, beq_iff_eq, bne_iff_ne, beq_eq_false_iff_ne, bne_eq_false_iff_eq, Bool.not_eq_true', Bool.not_eq_false', Bool.not_eq_true, Bool.not_eq_false, Bool.and_eq_true, Bool.or_eq_true, Bool.and_eq_false_iff, Bool.or_eq_false_iff, Int.not_lt, Int.not_le, ne_eq, gt_iff_lt, ge_iff_le] at hb') <;> (try (exfalso; omega))) | (refine altW.of ?_ ?_)
            all_goals first | exact .here rfl | (refine .here ?_; rw [decide_eq_true (by omega)]) | (exfalso; omega) | (rw [hb]; exact .here rfl) | (refine .here ?_; simp; done)
        · repeat' first | simp (disch := first | with_reducible assumption | omega) only [go_sem, Bool.true_and, Bool.and_true, Bool.and_self, Bool.false_and, Bool.and_false, Bool.true_or, Bool.or_true, Bool.false_or, Bool.or_false, ↓reduceIte, Nat.reduceEqDiff, Nat.reduceAdd, Nat.reduceMul, Nat.reduceSub, Nat.reduceBEq, Nat.reduceLeDiff, Nat.reduceLT, Nat.reduceMod, Nat.reduceDiv, Int.reduceToNat, Int.reducePow, Int.reduceMul, Int.reduceAdd, Int.reduceSub, Int.reduceLE, Int.reduceLT, Int.reduceNeg, Int.reduceDiv, Int.reduceMod, Int.reduceEq, Int.reduceBEq, Int.reduceBNe, f5, f5b, f5r0, f5r1, f5r2, f5r3, f5r4, f5r5, f5r6, f5r7, f5r8, f5r9, f5r11, f5r12, f5r13, f5r14, f5r15, P.val, hpt, get_old hpt] | (refine BrW.of (fun hb => ?_) (fun hb => ?_) <;> (have hb' := hb; try simp only [decide_eq_true_eq, decide_eq_false_iff_not, beq_iff_eq, bne_iff_ne, beq_eq_false_iff_ne, bne_eq_false_iff_eq, Bool.not_eq_true', Bool.not_eq_false', Bool.not_eq_true, Bool.not_eq_false, Bool.and_eq_true, Bool.or_eq_true, Bool.and_eq_false_iff, Bool.or_eq_false_iff, Int.not_lt, Int.not_le, ne_eq, gt_iff_lt, ge_iff_le] at hb') <;> (try (exfalso; omega))) | (refine altW.of ?_ ?_)
          all_goals first | exact .here rfl | (refine .here ?_; rw [decide_eq_true (by omega)]) | (exfalso; omega) | (rw [hb]; exact .here rfl) | (refine .here ?_; simp; done)
      · obtain rfl := hbad hw
        repeat' first | simp (disch := first | with_reducible assumption | omega) only [go_sem, Bool.true_and, Bool.and_true, Bool.and_self, Bool.false_and, Bool.and_false, Bool.true_or, Bool.or_true, Bool.false_or, Bool.or_false, ↓reduceIte, Nat.reduceEqDiff, Nat.reduceAdd, Nat.reduceMul, Nat.reduceSub, Nat.reduceBEq, Nat.reduceLeDiff, Nat.reduceLT, Nat.reduceMod, Nat.reduceDiv, Int.reduceToNat, Int.reducePow, Int.reduceMul, Int.reduceAdd, Int.reduceSub, Int.reduceLE, Int.reduceLT, Int.reduceNeg, Int.reduceDiv, Int.reduceMod, Int.reduceEq, Int.reduceBEq, Int.reduceBNe, f5, f5b, f5r0, f5r1, f5r2, f5r3, f5r4, f5r5, f5r6, f5r7, f5r8, f5r9, f5r11, f5r12, f5r13, f5r14, f5r15, badT] | (refine BrW.of (fun hb => ?_) (fun hb => ?_) <;> (have hb' := hb; try simp only [decide_eq_true_eq, decide_eq_false_iff_not, beq_iff_eq, bne_iff_ne, beq_eq_false_iff_ne, bne_eq_false_iff_eq, Bool.not_eq_true', Bool.not_eq_false', Bool.not_eq_true, Bool.not_eq_false, Bool.and_eq_true, Bool.or_eq_true, Bool.and_eq_false_iff, Bool.or_eq_false_iff, Int.not_lt, Int.not_le, ne_eq, gt_iff_lt, ge_iff_le] at hb') <;> (try (exfalso; omega))) | (refine altW.of ?_ ?_)
        refine .of ((hP2 _ (get_old hA _)).mono ?_)
        rintro v J ⟨X2, rfl, hbad2, hgood2⟩
        obtain rfl := hbad2 hw
        clear hbad2 hgood2 hbad hgood hP2
        generalize wrongP n d b = e at *
        repeat' first | simp (disch := first | with_reducible assumption | omega) only [go_sem, Bool.true_and, Bool.and_true, Bool.and_self, Bool.false_and, Bool.and_false, Bool.true_or, Bool.or_true, Bool.false_or, Bool.or_false, ↓reduceIte, Nat.reduceEqDiff, Nat.reduceAdd, Nat.reduceMul, Nat.reduceSub, Nat.reduceBEq, Nat.reduceLeDiff, Nat.reduceLT, Nat.reduceMod, Nat.reduceDiv, Int.reduceToNat, Int.reducePow, Int.reduceMul, Int.reduceAdd, Int.reduceSub, Int.reduceLE, Int.reduceLT, Int.reduceNeg, Int.reduceDiv, Int.reduceMod, Int.reduceEq, Int.reduceBEq, Int.reduceBNe, f5, f5b, f5r0, f5r1, f5r2, f5r3, f5r4, f5r5, f5r6, f5r7, f5r8, f5r9, f5r11, f5r12, f5r13, f5r14, f5r15, badT] | (refine BrW.of (fun hb => ?_) (fun hb => ?_) <;> (have hb' := hb; try simp only [decide_eq_true_eq, decide_eq_false_iff_not, beq_iff_eq, bne_iff_ne, beq_eq_false_iff_ne, bne_eq_false_iff_eq, Bool.not_eq_true', Bool.not_eq_false', Bool.not_eq_true, Bool.not_eq_false, Bool.and_eq_true, Bool.or_eq_true, Bool.and_eq_false_iff, Bool.or_eq_false_iff, Int.not_lt, Int.not_le, ne_eq, gt_iff_lt, ge_iff_le] at hb') <;> (try (exfalso; omega))) | (refine altW.of ?_ ?_)
        all_goals first | exact .here rfl | (refine .here ?_; rw [decide_eq_true (by omega)]) | (exfalso; omega) | (rw [hb]; exact .here rfl) | (refine .here ?_; simp; done)
  · repeat' first | simp (disch := first | with_reducible assumption | omega) only [go_sem, Bool.true_and, Bool.and_true, Bool.and_self, Bool.false_and, Bool.and_false, Bool.true_or, Bool.or_true, Bool.false_or, Bool.or_false, ↓reduceIte, Nat.reduceEqDiff, Nat.reduceAdd, Nat.reduceMul, Nat.reduceSub, Nat.reduceBEq, Nat.reduceLeDiff, Nat.reduceLT, Nat.reduceMod, Nat.reduceDiv, Int.reduceToNat, Int.reducePow, Int.reduceMul, Int.reduceAdd, Int.reduceSub, Int.reduceLE, Int.reduceLT, Int.reduceNeg, Int.reduceDiv, Int.reduceMod, Int.reduceEq, Int.reduceBEq, Int.reduceBNe, f5, f5b, f5r0, f5r1, f5r2, f5r3, f5r4, f5r5, f5r6, f5r7, f5r8, f5r9, f5r11, f5r12, f5r13, f5r14, f5r15, hk, get_old hk] | (refine BrW.of (fun hb => ?_) (fun hb => ?_) <;> (have hb' := hb; try simp only [decide_eq_true_eq, decide_eq_false_iff_not, beq_iff_eq, bne_iff_ne, beq_eq_false_iff_ne, bne_eq_false_iff_eq, Bool.not_eq_true', Bool.not_eq_false', Bool.not_eq_true, Bool.not_eq_false, Bool.and_eq_true, Bool.or_eq_true, Bool.and_eq_false_iff, Bool.or_eq_false_iff, Int.not_lt, Int.not_le, ne_eq, gt_iff_lt, ge_iff_le] at hb') <;> (try (exfalso; omega))) | (refine altW.of ?_ ?_) | (refine .of ((alive _).mono ?_); rintro v H ⟨rfl, rfl⟩)
    all_goals first | exact .here rfl | (exfalso; omega)
end Go.Proofs.Ytfoooabhfecjhaa
