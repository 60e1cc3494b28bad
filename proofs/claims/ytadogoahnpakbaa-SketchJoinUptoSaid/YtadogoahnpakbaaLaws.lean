import Derived.Test.YtadogoahnpakbaaSteps5
import Derived.Test.YtadogoahnpakbaaBase
set_option linter.unusedSimpArgs false
set_option linter.unusedVariables false
set_option maxHeartbeats 2000000
set_option maxRecDepth 20000
namespace Go.Proofs.Ytadogoahnpakbaa
open Go Go.Am
attribute [local irreducible] opsW Ww loopW callW drawW outW outDW gW cW BrW bothW vW resW DropW RdW dcallW Later.run

theorem C.of {B : Nat} {H : Heap} {cs : List Value} (h : RowOk B H [.int .i64, .int .i64] cs) : ∃ r : C, cs = r.cells ∧ True := by
  obtain ⟨_, _, rfl, c0, h⟩ := h.cons_inv
  obtain ⟨_, _, rfl, c1, h⟩ := h.cons_inv
  obtain rfl := h.nil_inv
  obtain ⟨n0, rfl, _⟩ := c0.int_inv
  obtain ⟨n1, rfl, _⟩ := c1.int_inv
  exact ⟨⟨n0, n1⟩, rfl, trivial⟩
theorem fits_of {l : List Int} (h : ∀ x ∈ l, 0 ≤ x ∧ x ≤ 1099511627776) : fits l := fun j => getD_nonneg h j

theorem SketchNever_args (H : Heap) (vals : List Value) (h : ArgsOk maxLen H SketchNeverSh vals) : ACallK Try.prog 3 vals H fun v _ => v = .bool true := by
  obtain ⟨_, _, rfl, a1, h⟩ := h.cons
  obtain ⟨_, _, rfl, a2, h⟩ := h.cons
  obtain ⟨_, _, rfl, a3, h⟩ := h.cons
  obtain ⟨_, _, rfl, a4, h⟩ := h.cons
  obtain rfl := h.nil
  obtain ⟨rows, rfl, _⟩ := a1.cell.int_inv
  obtain ⟨w, rfl, _⟩ := a2.cell.int_inv
  obtain ⟨k, c, l, rfl, hB, hlc, hs, _⟩ := rows_of (enc := C.cells) (ok := fun _ => True) 2 (fun _ => rfl) c0 rfl (fun cs h => C.of h) a3
  obtain ⟨x, rfl, hx⟩ := a4.cell.int_inv
  have hx' : 0 ≤ x ∧ x ≤ 18446744073709551615 := hx
  have hB' : l.length ≤ 9223372036854775807 := Nat.le_trans hB (by decide)
  clear a1 a2 a3 a4 h hB hx
  refine .walkW f3_ok (by simp; decide) (by decide) ?_
  repeat' first | simp (disch := first | with_reducible assumption | omega) only [go_sem, Bool.true_and, Bool.and_true, Bool.and_self, Bool.false_and, Bool.and_false, Bool.true_or, Bool.or_true, Bool.false_or, Bool.or_false, ↓reduceIte, Nat.reduceEqDiff, Nat.reduceAdd, Nat.reduceMul, Nat.reduceSub, Nat.reduceBEq, Nat.reduceLeDiff, Nat.reduceLT, Nat.reduceMod, Nat.reduceDiv, Int.reduceToNat, Int.reducePow, Int.reduceMul, Int.reduceAdd, Int.reduceSub, Int.reduceLE, Int.reduceLT, Int.reduceNeg, Int.reduceDiv, Int.reduceMod, Int.reduceEq, Int.reduceBEq, Int.reduceBNe, f3, f3b, f3r0, f3r1, f3r2, f3r3, f3r4, f3r5, f3r6, f3r7, f3r8, f3r9, f3r10, f3r11, f3r12, f3r13, f3r14, f3r16, f3r17, f3r18] | (refine BrW.of (fun hb => ?_) (fun hb => ?_) <;> (have hb' := hb; try simp only [decide_eq_true_eq, decide_eq_false_iff_not, beq_iff_eq, bne_iff_ne, beq_eq_false_iff_ne, bne_eq_false_iff_eq, Bool.not_eq_true', Bool.not_eq_false', Bool.not_eq_true, Bool.not_eq_false, Bool.and_eq_true, Bool.or_eq_true, Bool.and_eq_false_iff, Bool.or_eq_false_iff, Int.not_lt, Int.not_le, ne_eq, gt_iff_lt, ge_iff_le] at hb') <;> (try (exfalso; omega))) | (refine .of ((alive _).mono ?_); rintro v H ⟨rfl, rfl⟩)
  refine .of ((counted_u rows w l k 0 0 c false _ hs hB').mono ?_)
  rintro v H1 ⟨s1, u1, ok1, rfl, le1, hI1, hl1, hg1⟩
  have hs1 := hs.le le1
  repeat' first | simp (disch := first | with_reducible assumption | omega) only [go_sem, Bool.true_and, Bool.and_true, Bool.and_self, Bool.false_and, Bool.and_false, Bool.true_or, Bool.or_true, Bool.false_or, Bool.or_false, ↓reduceIte, Nat.reduceEqDiff, Nat.reduceAdd, Nat.reduceMul, Nat.reduceSub, Nat.reduceBEq, Nat.reduceLeDiff, Nat.reduceLT, Nat.reduceMod, Nat.reduceDiv, Int.reduceToNat, Int.reducePow, Int.reduceMul, Int.reduceAdd, Int.reduceSub, Int.reduceLE, Int.reduceLT, Int.reduceNeg, Int.reduceDiv, Int.reduceMod, Int.reduceEq, Int.reduceBEq, Int.reduceBNe, f3, f3b, f3r0, f3r1, f3r2, f3r3, f3r4, f3r5, f3r6, f3r7, f3r8, f3r9, f3r10, f3r11, f3r12, f3r13, f3r14, f3r16, f3r17, f3r18, S.val] | (refine BrW.of (fun hb => ?_) (fun hb => ?_) <;> (have hb' := hb; try simp only [decide_eq_true_eq, decide_eq_false_iff_not, beq_iff_eq, bne_iff_ne, beq_eq_false_iff_ne, bne_eq_false_iff_eq, Bool.not_eq_true', Bool.not_eq_false', Bool.not_eq_true, Bool.not_eq_false, Bool.and_eq_true, Bool.or_eq_true, Bool.and_eq_false_iff, Bool.or_eq_false_iff, Int.not_lt, Int.not_le, ne_eq, gt_iff_lt, ge_iff_le] at hb') <;> (try (exfalso; omega)))
  refine .of ((counted_u rows w l k 0 0 c true _ (hs1.app _) hB').mono ?_)
  rintro v H2 ⟨s2, u2, ok2, rfl, le2, hI2, hl2, hg2⟩
  have hs2 := (hs1.app _).le le2
  have hJ1 := (hI1.app _).le le2
  have hbA := le2.get (get_new0 H1 (AObj.cells 0 0 false [.int .i64 s1.rows, .int .i64 s1.w, u1]) [])
  clear hs hs1 hI1 le1 le2
  generalize H1.length = P1 at *
  cases ok1 with
  | false =>
    repeat' first | simp (disch := first | with_reducible assumption | omega) only [go_sem, Bool.true_and, Bool.and_true, Bool.and_self, Bool.false_and, Bool.and_false, Bool.true_or, Bool.or_true, Bool.false_or, Bool.or_false, ↓reduceIte, Nat.reduceEqDiff, Nat.reduceAdd, Nat.reduceMul, Nat.reduceSub, Nat.reduceBEq, Nat.reduceLeDiff, Nat.reduceLT, Nat.reduceMod, Nat.reduceDiv, Int.reduceToNat, Int.reducePow, Int.reduceMul, Int.reduceAdd, Int.reduceSub, Int.reduceLE, Int.reduceLT, Int.reduceNeg, Int.reduceDiv, Int.reduceMod, Int.reduceEq, Int.reduceBEq, Int.reduceBNe, f3, f3b, f3r0, f3r1, f3r2, f3r3, f3r4, f3r5, f3r6, f3r7, f3r8, f3r9, f3r10, f3r11, f3r12, f3r13, f3r14, f3r16, f3r17, f3r18, S.val] | (refine BrW.of (fun hb => ?_) (fun hb => ?_) <;> (have hb' := hb; try simp only [decide_eq_true_eq, decide_eq_false_iff_not, beq_iff_eq, bne_iff_ne, beq_eq_false_iff_ne, bne_eq_false_iff_eq, Bool.not_eq_true', Bool.not_eq_false', Bool.not_eq_true, Bool.not_eq_false, Bool.and_eq_true, Bool.or_eq_true, Bool.and_eq_false_iff, Bool.or_eq_false_iff, Int.not_lt, Int.not_le, ne_eq, gt_iff_lt, ge_iff_le] at hb') <;> (try (exfalso; omega)))
    all_goals exact .here rfl
  | true =>
    cases ok2 with
    | false =>
      repeat' first | simp (disch := first | with_reducible assumption | omega) only [go_sem, Bool.true_and, Bool.and_true, Bool.and_self, Bool.false_and, Bool.and_false, Bool.true_or, Bool.or_true, Bool.false_or, Bool.or_false, ↓reduceIte, Nat.reduceEqDiff, Nat.reduceAdd, Nat.reduceMul, Nat.reduceSub, Nat.reduceBEq, Nat.reduceLeDiff, Nat.reduceLT, Nat.reduceMod, Nat.reduceDiv, Int.reduceToNat, Int.reducePow, Int.reduceMul, Int.reduceAdd, Int.reduceSub, Int.reduceLE, Int.reduceLT, Int.reduceNeg, Int.reduceDiv, Int.reduceMod, Int.reduceEq, Int.reduceBEq, Int.reduceBNe, f3, f3b, f3r0, f3r1, f3r2, f3r3, f3r4, f3r5, f3r6, f3r7, f3r8, f3r9, f3r10, f3r11, f3r12, f3r13, f3r14, f3r16, f3r17, f3r18, S.val] | (refine BrW.of (fun hb => ?_) (fun hb => ?_) <;> (have hb' := hb; try simp only [decide_eq_true_eq, decide_eq_false_iff_not, beq_iff_eq, bne_iff_ne, beq_eq_false_iff_ne, bne_eq_false_iff_eq, Bool.not_eq_true', Bool.not_eq_false', Bool.not_eq_true, Bool.not_eq_false, Bool.and_eq_true, Bool.or_eq_true, Bool.and_eq_false_iff, Bool.or_eq_false_iff, Int.not_lt, Int.not_le, ne_eq, gt_iff_lt, ge_iff_le] at hb') <;> (try (exfalso; omega)))
      all_goals exact .here rfl
    | true =>
      obtain ⟨R, W, rfl, rfl, hR, hW, rfl, hr1, hn⟩ := hg1 rfl
      obtain ⟨R', W', e1, e2, _, _, rfl, hr2, _⟩ := hg2 rfl
      obtain rfl : R = R' := by omega
      obtain rfl : W = W' := by omega
      obtain ⟨ro, cs, hk, hcl, hcs⟩ := hs2.at'
      have hld := fun i hi => Tbl.ld (enc := C.cells) (s := 2) (fun _ => rfl) hcs i hi
      simp only [Nat.zero_add] at hld
      have hn0 : ∀ c ∈ l, 0 ≤ c.n := fun c hc => (hn c hc).1
      have hf1 := fits_of (l := cnt false R W l) hr1.2.2.2.2.2
      have hf2 := fits_of (l := cnt true R W l) hr2.2.2.2.2.2
      have hall := all_le hR.1 hW hf1
      obtain ⟨hc1, hc2⟩ := careful hR.1 hW.1 l hn0
      obtain ⟨c1, m1, v1, w1⟩ := least_of (fun j => (hf1 j).1) hR.1 (W := W) x
      obtain ⟨c2, m2, v2, w2⟩ := least_of (fun j => (hf2 j).1) hR.1 (W := W) x
      have q1 : tot (fun id => uid id = x) l ≤ least (cnt true R W l) (pls W R x) := by rw [v2]; exact hc2 x c2 m2
      have q2 : least (cnt true R W l) (pls W R x) ≤ least (cnt false R W l) (pls W R x) := by
        have := w2 c1 m1
        have := (hc1 c1).2
        rw [v1]; omega
      have q3 : least (cnt false R W l) (pls W R x) ≤ tot (fun _ => True) l := by
        rw [v1, cnt_get hW.1]
        exact tot_le _ _ hn0 fun _ _ _ _ => trivial
      have hC1 := fun G (hI : IsI G u1 (cnt false R W l)) => Count_spec R W (cnt false R W l) u1 x G hI hr1 hx'
      have hC2 := fun G (hI : IsI G u2 (cnt true R W l)) => Count_spec R W (cnt true R W l) u2 x G hI hr2 hx'
      simp only [S.val] at hC1 hC2
      generalize least (cnt true R W l) (pls W R x) = L2 at *
      generalize least (cnt false R W l) (pls W R x) = L1 at *
      have htA := fun i => tot_take (P := fun _ => True) hn0 i
      have htO := fun i => tot_take (P := fun id => uid id = x) hn0 i
      have hoa : tot (fun id => uid id = x) l ≤ tot (fun _ => True) l := tot_le _ _ hn0 fun _ _ _ _ => trivial
      clear hf1 hf2 hg1 hg2 hr1 hr2 hc1 hc2 w1 w2 v1 v2 hcs hs2
      have hbB := get_new0 H2 (AObj.cells 0 0 false [.int .i64 R, .int .i64 W, u2]) []
      have hbA := get_old hbA [AObj.cells 0 0 false [.int .i64 R, .int .i64 W, u2]]
      have hk := get_old hk [AObj.cells 0 0 false [.int .i64 R, .int .i64 W, u2]]
      have hI2 := hI2.app [AObj.cells 0 0 false [.int .i64 R, .int .i64 W, u2]]
      have hJ1 := hJ1.app [AObj.cells 0 0 false [.int .i64 R, .int .i64 W, u2]]
      repeat' first | simp (disch := first | with_reducible assumption | omega) only [go_sem, Bool.true_and, Bool.and_true, Bool.and_self, Bool.false_and, Bool.and_false, Bool.true_or, Bool.or_true, Bool.false_or, Bool.or_false, ↓reduceIte, Nat.reduceEqDiff, Nat.reduceAdd, Nat.reduceMul, Nat.reduceSub, Nat.reduceBEq, Nat.reduceLeDiff, Nat.reduceLT, Nat.reduceMod, Nat.reduceDiv, Int.reduceToNat, Int.reducePow, Int.reduceMul, Int.reduceAdd, Int.reduceSub, Int.reduceLE, Int.reduceLT, Int.reduceNeg, Int.reduceDiv, Int.reduceMod, Int.reduceEq, Int.reduceBEq, Int.reduceBNe, f3, f3b, f3r0, f3r1, f3r2, f3r3, f3r4, f3r5, f3r6, f3r7, f3r8, f3r9, f3r10, f3r11, f3r12, f3r13, f3r14, f3r16, f3r17, f3r18, S.val, hk] | (refine BrW.of (fun hb => ?_) (fun hb => ?_) <;> (have hb' := hb; try simp only [decide_eq_true_eq, decide_eq_false_iff_not, beq_iff_eq, bne_iff_ne, beq_eq_false_iff_ne, bne_eq_false_iff_eq, Bool.not_eq_true', Bool.not_eq_false', Bool.not_eq_true, Bool.not_eq_false, Bool.and_eq_true, Bool.or_eq_true, Bool.and_eq_false_iff, Bool.or_eq_false_iff, Int.not_lt, Int.not_le, ne_eq, gt_iff_lt, ge_iff_le] at hb') <;> (try (exfalso; omega)))
      generalize H2 ++ [AObj.cells 0 0 false [.int .i64 R, .int .i64 W, u2]] = G at *
      generalize H2.length = P2 at *
      refine loopW.of (by decide) (fun m e J => ∃ (i : Nat) (y : Heap), e = [(3, .int .u64 x), (9, .pointer (some ⟨P1, 0, some 1⟩)), (11, .pointer (some ⟨P2, 0, some 1⟩)), (13, .int .i64 (tot (fun id => uid id = x) (l.take i))), (14, .int .i64 (tot (fun _ => True) (l.take i))), (43, slv k 0 0 l.length c), (44, .int .i64 l.length), (45, .int .i64 i)] ∧
        J = G ++ y ∧ i ≤ l.length ∧ m = l.length - i) l.length ⟨0, [], rfl, by simp, by omega, rfl⟩ ?_
      rintro m e J ⟨i, y, rfl, rfl, hi, rfl⟩
      by_cases hlt : i < l.length
      · have h0 := hld i hlt
        have hnc := hn _ (getD_mem (d := c0) hlt)
        have htk := take_snoc c0 l i hlt
        have t1 := htA i
        have t2 := htO i
        have s1 := tot_snoc (fun _ => True) (l.take i) (l.getD i c0)
        have s2 := tot_snoc (fun id => uid id = x) (l.take i) (l.getD i c0)
        rw [← htk] at s1 s2
        generalize l.getD i c0 = cc at *
        obtain ⟨id, n⟩ := cc
        simp only [C.cells, if_true] at h0 s1 s2 hnc
        generalize tot (fun id => uid id = x) (l.take i) = T2 at *
        generalize tot (fun _ => True) (l.take i) = T1 at *
        clear hld hn hn0 htA htO hC1 hC2 htk
        by_cases hid : uid id = x
        · rw [if_pos hid] at s2
          have hid' : iconv .u64 id = x := hid
          repeat' first | simp (disch := first | with_reducible assumption | omega) only [go_sem, Bool.true_and, Bool.and_true, Bool.and_self, Bool.false_and, Bool.and_false, Bool.true_or, Bool.or_true, Bool.false_or, Bool.or_false, ↓reduceIte, Nat.reduceEqDiff, Nat.reduceAdd, Nat.reduceMul, Nat.reduceSub, Nat.reduceBEq, Nat.reduceLeDiff, Nat.reduceLT, Nat.reduceMod, Nat.reduceDiv, Int.reduceToNat, Int.reducePow, Int.reduceMul, Int.reduceAdd, Int.reduceSub, Int.reduceLE, Int.reduceLT, Int.reduceNeg, Int.reduceDiv, Int.reduceMod, Int.reduceEq, Int.reduceBEq, Int.reduceBNe, f3, f3b, f3r0, f3r1, f3r2, f3r3, f3r4, f3r5, f3r6, f3r7, f3r8, f3r9, f3r10, f3r11, f3r12, f3r13, f3r14, f3r16, f3r17, f3r18, f3l0, hk, get_old hk, ↓h0, hid', C.cells] | (refine BrW.of (fun hb => ?_) (fun hb => ?_) <;> (have hb' := hb; try simp only [decide_eq_true_eq, decide_eq_false_iff_not, beq_iff_eq, bne_iff_ne, beq_eq_false_iff_ne, bne_eq_false_iff_eq, Bool.not_eq_true', Bool.not_eq_false', Bool.not_eq_true, Bool.not_eq_false, Bool.and_eq_true, Bool.or_eq_true, Bool.and_eq_false_iff, Bool.or_eq_false_iff, Int.not_lt, Int.not_le, ne_eq, gt_iff_lt, ge_iff_le] at hb') <;> (try (exfalso; omega)))
          refine RdW.keep [3, 9, 11, 13, 14, 43, 44, 45] (l.length - (i + 1)) (by omega) ?_
          simp (disch := first | with_reducible assumption | omega) only [go_sem, Bool.true_and, Bool.and_true, Bool.and_self, Bool.false_and, Bool.and_false, Bool.true_or, Bool.or_true, Bool.false_or, Bool.or_false, ↓reduceIte, Nat.reduceEqDiff, Nat.reduceAdd, Nat.reduceMul, Nat.reduceSub, Nat.reduceBEq, Nat.reduceLeDiff, Nat.reduceLT, Nat.reduceMod, Nat.reduceDiv, Int.reduceToNat, Int.reducePow, Int.reduceMul, Int.reduceAdd, Int.reduceSub, Int.reduceLE, Int.reduceLT, Int.reduceNeg, Int.reduceDiv, Int.reduceMod, Int.reduceEq, Int.reduceBEq, Int.reduceBNe]
          exact ⟨i + 1, _, by rw [s1, s2]; rfl, rfl, by omega, rfl⟩
        · rw [if_neg hid] at s2
          have hid' : (iconv .u64 id == x) = false := by simpa [uid] using hid
          repeat' first | simp (disch := first | with_reducible assumption | omega) only [go_sem, Bool.true_and, Bool.and_true, Bool.and_self, Bool.false_and, Bool.and_false, Bool.true_or, Bool.or_true, Bool.false_or, Bool.or_false, ↓reduceIte, Nat.reduceEqDiff, Nat.reduceAdd, Nat.reduceMul, Nat.reduceSub, Nat.reduceBEq, Nat.reduceLeDiff, Nat.reduceLT, Nat.reduceMod, Nat.reduceDiv, Int.reduceToNat, Int.reducePow, Int.reduceMul, Int.reduceAdd, Int.reduceSub, Int.reduceLE, Int.reduceLT, Int.reduceNeg, Int.reduceDiv, Int.reduceMod, Int.reduceEq, Int.reduceBEq, Int.reduceBNe, f3, f3b, f3r0, f3r1, f3r2, f3r3, f3r4, f3r5, f3r6, f3r7, f3r8, f3r9, f3r10, f3r11, f3r12, f3r13, f3r14, f3r16, f3r17, f3r18, f3l0, hk, get_old hk, ↓h0, hid', C.cells] | (refine BrW.of (fun hb => ?_) (fun hb => ?_) <;> (have hb' := hb; try simp only [decide_eq_true_eq, decide_eq_false_iff_not, beq_iff_eq, bne_iff_ne, beq_eq_false_iff_ne, bne_eq_false_iff_eq, Bool.not_eq_true', Bool.not_eq_false', Bool.not_eq_true, Bool.not_eq_false, Bool.and_eq_true, Bool.or_eq_true, Bool.and_eq_false_iff, Bool.or_eq_false_iff, Int.not_lt, Int.not_le, ne_eq, gt_iff_lt, ge_iff_le] at hb') <;> (try (exfalso; omega)))
          refine RdW.keep [3, 9, 11, 13, 14, 43, 44, 45] (l.length - (i + 1)) (by omega) ?_
          simp (disch := first | with_reducible assumption | omega) only [go_sem, Bool.true_and, Bool.and_true, Bool.and_self, Bool.false_and, Bool.and_false, Bool.true_or, Bool.or_true, Bool.false_or, Bool.or_false, ↓reduceIte, Nat.reduceEqDiff, Nat.reduceAdd, Nat.reduceMul, Nat.reduceSub, Nat.reduceBEq, Nat.reduceLeDiff, Nat.reduceLT, Nat.reduceMod, Nat.reduceDiv, Int.reduceToNat, Int.reducePow, Int.reduceMul, Int.reduceAdd, Int.reduceSub, Int.reduceLE, Int.reduceLT, Int.reduceNeg, Int.reduceDiv, Int.reduceMod, Int.reduceEq, Int.reduceBEq, Int.reduceBNe]
          exact ⟨i + 1, _, by rw [s1, s2, Int.add_zero]; rfl, rfl, by omega, rfl⟩
      · obtain rfl : i = l.length := by omega
        rw [List.take_length]
        have hC1 := hC1 _ (hJ1.app y)
        have hC2 := hC2 _ (hI2.app y)
        clear hld hn hn0 htA htO
        repeat' first | simp (disch := first | with_reducible assumption | omega) only [go_sem, Bool.true_and, Bool.and_true, Bool.and_self, Bool.false_and, Bool.and_false, Bool.true_or, Bool.or_true, Bool.false_or, Bool.or_false, ↓reduceIte, Nat.reduceEqDiff, Nat.reduceAdd, Nat.reduceMul, Nat.reduceSub, Nat.reduceBEq, Nat.reduceLeDiff, Nat.reduceLT, Nat.reduceMod, Nat.reduceDiv, Int.reduceToNat, Int.reducePow, Int.reduceMul, Int.reduceAdd, Int.reduceSub, Int.reduceLE, Int.reduceLT, Int.reduceNeg, Int.reduceDiv, Int.reduceMod, Int.reduceEq, Int.reduceBEq, Int.reduceBNe, f3, f3b, f3r0, f3r1, f3r2, f3r3, f3r4, f3r5, f3r6, f3r7, f3r8, f3r9, f3r10, f3r11, f3r12, f3r13, f3r14, f3r16, f3r17, f3r18, f3l0, f3, f3b, f3r0, f3r1, f3r2, f3r3, f3r4, f3r5, f3r6, f3r7, f3r8, f3r9, f3r10, f3r11, f3r12, f3r13, f3r14, f3r16, f3r17, f3r18, hbA, get_old hbA, hbB, get_old hbB] | (refine BrW.of (fun hb => ?_) (fun hb => ?_) <;> (have hb' := hb; try simp only [decide_eq_true_eq, decide_eq_false_iff_not, beq_iff_eq, bne_iff_ne, beq_eq_false_iff_ne, bne_eq_false_iff_eq, Bool.not_eq_true', Bool.not_eq_false', Bool.not_eq_true, Bool.not_eq_false, Bool.and_eq_true, Bool.or_eq_true, Bool.and_eq_false_iff, Bool.or_eq_false_iff, Int.not_lt, Int.not_le, ne_eq, gt_iff_lt, ge_iff_le] at hb') <;> (try (exfalso; omega))) | (refine .of (hC1.mono ?_); rintro v _ ⟨rfl, rfl⟩) | (refine .of (hC2.mono ?_); rintro v _ ⟨rfl, rfl⟩)
        all_goals first | exact .here rfl | exact .here (by simp; omega) | (exfalso; simp at hb'; omega) | (exfalso; simp at *; omega)
end Go.Proofs.Ytadogoahnpakbaa
