import Derived.Test.YtadogoahnpakbaaLaws
set_option linter.unusedSimpArgs false
set_option linter.unusedVariables false
set_option maxHeartbeats 2000000
set_option maxRecDepth 20000
namespace Go.Proofs.Ytadogoahnpakbaa
open Go Go.Am
attribute [local irreducible] opsW Ww loopW callW drawW outW outDW gW cW BrW bothW vW resW DropW RdW dcallW Later.run

def Alone (W r : Nat) (x : Int) (l : List C) : Prop := ∀ c ∈ l, uid c.id = x ∨ pl W r x ≠ pl W r (uid c.id) ∨ c.n = 0
theorem own_le {R W : Nat} {x : Int} {l : List C} (hR : 1 ≤ R) (hW : 1 ≤ W) (hn : ∀ c ∈ l, 0 ≤ c.n) (hf : fits (cnt false R W l)) : tot (fun id => uid id = x) l ≤ least (cnt false R W l) (pls W R x) := by
  obtain ⟨c1, m1, v1, _⟩ := least_of (fun j => (hf j).1) hR (W := W) x
  rw [v1, cnt_get hW]
  exact tot_le _ _ hn fun c _ _ h => by rw [h]; exact m1
theorem alone_eq {R W r : Nat} {x : Int} {l : List C} (hR : 1 ≤ R) (hW : 1 ≤ W) (hr : r < R) (hn : ∀ c ∈ l, 0 ≤ c.n) (hf : fits (cnt false R W l)) (ha : Alone W r x l) : least (cnt false R W l) (pls W R x) = tot (fun id => uid id = x) l := by
  have h1 := own_le (x := x) hR hW hn hf
  obtain ⟨_, _, _, w1⟩ := least_of (fun j => (hf j).1) hR (W := W) x
  have h2 := w1 (r * W + pl W r x) (mem_places.2 ⟨r, hr, rfl⟩)
  rw [cnt_get hW] at h2
  have h3 : tot (fun id => r * W + pl W r x ∈ pls W R (uid id)) l ≤ tot (fun id => uid id = x) l := tot_le _ _ hn fun c hc h0 hm => by
    have hp := (pls_mem hW hr (pl_lt hW r x)).1 hm
    rcases ha c hc with h | h | h
    · exact h
    · exact (h hp).elim
    · exact (h0 h).elim
  omega

theorem SketchAlone_args (H : Heap) (vals : List Value) (h : ArgsOk maxLen H SketchAloneSh vals) : ACallK Try.prog 5 vals H fun v _ => v = .bool true := by
  obtain ⟨_, _, rfl, a1, h⟩ := h.cons
  obtain ⟨_, _, rfl, a2, h⟩ := h.cons
  obtain ⟨_, _, rfl, a3, h⟩ := h.cons
  obtain ⟨_, _, rfl, a4, h⟩ := h.cons
  obtain rfl := h.nil
  obtain ⟨rows, rfl, _⟩ := a1.cell.int_inv
  obtain ⟨w, rfl, _⟩ := a2.cell.int_inv
  obtain ⟨k, c, l, rfl, hB, hlc, hs, _⟩ := rows_of (enc := C.cells) (ok := fun _ => True) 2 (fun _ => rfl) c0 rfl (fun cs h => C.of h) a3
  obtain ⟨x, rfl, hx⟩ := a4.cell.int_inv
  have hx' : 0 ≤ x ∧ x ≤ 18446744073709551615 := hx
  have hB' : l.length ≤ 9223372036854775807 := Nat.le_trans hB (by decide)
  clear a1 a2 a3 a4 h hB hx
  refine .walkW f5_ok (by simp; decide) (by decide) ?_
  repeat' first | simp (disch := first | with_reducible assumption | omega) only [go_sem, Bool.true_and, Bool.and_true, Bool.and_self, Bool.false_and, Bool.and_false, Bool.true_or, Bool.or_true, Bool.false_or, Bool.or_false, ↓reduceIte, Nat.reduceEqDiff, Nat.reduceAdd, Nat.reduceMul, Nat.reduceSub, Nat.reduceBEq, Nat.reduceLeDiff, Nat.reduceLT, Nat.reduceMod, Nat.reduceDiv, Int.reduceToNat, Int.reducePow, Int.reduceMul, Int.reduceAdd, Int.reduceSub, Int.reduceLE, Int.reduceLT, Int.reduceNeg, Int.reduceDiv, Int.reduceMod, Int.reduceEq, Int.reduceBEq, Int.reduceBNe, f5, f5b, f5r0, f5r1, f5r2, f5r3, f5r4, f5r5, f5r6, f5r7, f5r8, f5r9, f5r10, f5r11, f5r12, f5r14, f5r15, f5r16, f5r17, f5r18, f5r19, f5r20, f5r21, f5r22, f5r23, f5r24, f5r25, f5r27, f5r28, f5r29, f5r31] | (refine BrW.of (fun hb => ?_) (fun hb => ?_) <;> (have hb' := hb; try simp only [decide_eq_true_eq, decide_eq_false_iff_not, beq_iff_eq, bne_iff_ne, beq_eq_false_iff_ne, bne_eq_false_iff_eq, Bool.not_eq_true', Bool.not_eq_false', Bool.not_eq_true, Bool.not_eq_false, Bool.and_eq_true, Bool.or_eq_true, Bool.and_eq_false_iff, Bool.or_eq_false_iff, Int.not_lt, Int.not_le, ne_eq, gt_iff_lt, ge_iff_le] at hb') <;> (try (exfalso; omega))) | (refine .of ((alive _).mono ?_); rintro v H ⟨rfl, rfl⟩)
  refine .of ((counted_u rows w l k 0 0 c false _ hs hB').mono ?_)
  rintro v H1 ⟨s1, u1, ok1, rfl, le1, hI1, hl1, hg1⟩
  have hs1 := hs.le le1
  clear hs le1
  cases ok1 with
  | false =>
    repeat' first | simp (disch := first | with_reducible assumption | omega) only [go_sem, Bool.true_and, Bool.and_true, Bool.and_self, Bool.false_and, Bool.and_false, Bool.true_or, Bool.or_true, Bool.false_or, Bool.or_false, ↓reduceIte, Nat.reduceEqDiff, Nat.reduceAdd, Nat.reduceMul, Nat.reduceSub, Nat.reduceBEq, Nat.reduceLeDiff, Nat.reduceLT, Nat.reduceMod, Nat.reduceDiv, Int.reduceToNat, Int.reducePow, Int.reduceMul, Int.reduceAdd, Int.reduceSub, Int.reduceLE, Int.reduceLT, Int.reduceNeg, Int.reduceDiv, Int.reduceMod, Int.reduceEq, Int.reduceBEq, Int.reduceBNe, f5, f5b, f5r0, f5r1, f5r2, f5r3, f5r4, f5r5, f5r6, f5r7, f5r8, f5r9, f5r10, f5r11, f5r12, f5r14, f5r15, f5r16, f5r17, f5r18, f5r19, f5r20, f5r21, f5r22, f5r23, f5r24, f5r25, f5r27, f5r28, f5r29, f5r31, S.val] | (refine BrW.of (fun hb => ?_) (fun hb => ?_) <;> (have hb' := hb; try simp only [decide_eq_true_eq, decide_eq_false_iff_not, beq_iff_eq, bne_iff_ne, beq_eq_false_iff_ne, bne_eq_false_iff_eq, Bool.not_eq_true', Bool.not_eq_false', Bool.not_eq_true, Bool.not_eq_false, Bool.and_eq_true, Bool.or_eq_true, Bool.and_eq_false_iff, Bool.or_eq_false_iff, Int.not_lt, Int.not_le, ne_eq, gt_iff_lt, ge_iff_le] at hb') <;> (try (exfalso; omega)))
    all_goals exact .here rfl
  | true =>
    obtain ⟨R, W, rfl, rfl, hR, hW, rfl, hr1, hn⟩ := hg1 rfl
    obtain ⟨ro, cs, hk, hcl, hcs⟩ := hs1.at'
    have hld := fun i hi => Tbl.ld (enc := C.cells) (s := 2) (fun _ => rfl) hcs i hi
    simp only [Nat.zero_add] at hld
    have hn0 : ∀ c ∈ l, 0 ≤ c.n := fun c hc => (hn c hc).1
    have hf1 := fits_of (l := cnt false R W l) hr1.2.2.2.2.2
    have hall := all_le hR.1 hW hf1
    have hal := fun r (hr : r < R) ha => alone_eq (x := x) hR.1 hW.1 hr hn0 hf1 ha
    have hC1 := fun G (hI : IsI G u1 (cnt false R W l)) => Count_spec R W (cnt false R W l) u1 x G hI hr1 hx'
    simp only [S.val] at hC1 hI1
    generalize least (cnt false R W l) (pls W R x) = L1 at *
    generalize cnt false R W l = L at *
    have htO := fun i => tot_take (P := fun id => uid id = x) hn0 i
    have hoa : tot (fun id => uid id = x) l ≤ tot (fun _ => True) l := tot_le _ _ hn0 fun _ _ _ _ => trivial
    generalize tot (fun _ => True) l = A at *
    clear hf1 hg1 hr1 hcs hs1
    have hbA := get_new0 H1 (AObj.cells 0 0 false [.int .i64 R, .int .i64 W, u1]) []
    have hk := get_old hk [AObj.cells 0 0 false [.int .i64 R, .int .i64 W, u1]]
    have hI1 := hI1.app [AObj.cells 0 0 false [.int .i64 R, .int .i64 W, u1]]
    repeat' first | simp (disch := first | with_reducible assumption | omega) only [go_sem, Bool.true_and, Bool.and_true, Bool.and_self, Bool.false_and, Bool.and_false, Bool.true_or, Bool.or_true, Bool.false_or, Bool.or_false, ↓reduceIte, Nat.reduceEqDiff, Nat.reduceAdd, Nat.reduceMul, Nat.reduceSub, Nat.reduceBEq, Nat.reduceLeDiff, Nat.reduceLT, Nat.reduceMod, Nat.reduceDiv, Int.reduceToNat, Int.reducePow, Int.reduceMul, Int.reduceAdd, Int.reduceSub, Int.reduceLE, Int.reduceLT, Int.reduceNeg, Int.reduceDiv, Int.reduceMod, Int.reduceEq, Int.reduceBEq, Int.reduceBNe, f5, f5b, f5r0, f5r1, f5r2, f5r3, f5r4, f5r5, f5r6, f5r7, f5r8, f5r9, f5r10, f5r11, f5r12, f5r14, f5r15, f5r16, f5r17, f5r18, f5r19, f5r20, f5r21, f5r22, f5r23, f5r24, f5r25, f5r27, f5r28, f5r29, f5r31, S.val, hk] | (refine BrW.of (fun hb => ?_) (fun hb => ?_) <;> (have hb' := hb; try simp only [decide_eq_true_eq, decide_eq_false_iff_not, beq_iff_eq, bne_iff_ne, beq_eq_false_iff_ne, bne_eq_false_iff_eq, Bool.not_eq_true', Bool.not_eq_false', Bool.not_eq_true, Bool.not_eq_false, Bool.and_eq_true, Bool.or_eq_true, Bool.and_eq_false_iff, Bool.or_eq_false_iff, Int.not_lt, Int.not_le, ne_eq, gt_iff_lt, ge_iff_le] at hb') <;> (try (exfalso; omega)))
    generalize H1 ++ [AObj.cells 0 0 false [.int .i64 R, .int .i64 W, u1]] = G at *
    generalize H1.length = P at *
    refine loopW.of (by decide) (fun m e J => ∃ (i : Nat) (y : Heap), e = [(0, .int .i64 R), (1, .int .i64 W), (2, slv k 0 0 l.length c), (3, .int .u64 x), (9, .pointer (some ⟨P, 0, some 1⟩)), (11, .int .i64 (tot (fun id => uid id = x) (l.take i))), (35, slv k 0 0 l.length c), (36, .int .i64 l.length), (37, .int .i64 i)] ∧
      J = G ++ y ∧ i ≤ l.length ∧ m = l.length - i) l.length ⟨0, [], rfl, by simp, by omega, rfl⟩ ?_
    rintro m e J ⟨i, y, rfl, rfl, hi, rfl⟩
    by_cases hlt : i < l.length
    · have h0 := hld i hlt
      have hnc := hn _ (getD_mem (d := c0) hlt)
      have htk := take_snoc c0 l i hlt
      have t2 := htO i
      have s2 := tot_snoc (fun id => uid id = x) (l.take i) (l.getD i c0)
      rw [← htk] at s2
      generalize l.getD i c0 = cc at *
      obtain ⟨id, n⟩ := cc
      simp only [C.cells] at h0 s2 hnc
      generalize tot (fun id => uid id = x) (l.take i) = T2 at *
      clear hld hn hn0 htO hC1 htk hal
      by_cases hid : uid id = x
      · rw [if_pos hid] at s2
        have hid' : iconv .u64 id = x := hid
        repeat' first | simp (disch := first | with_reducible assumption | omega) only [go_sem, Bool.true_and, Bool.and_true, Bool.and_self, Bool.false_and, Bool.and_false, Bool.true_or, Bool.or_true, Bool.false_or, Bool.or_false, ↓reduceIte, Nat.reduceEqDiff, Nat.reduceAdd, Nat.reduceMul, Nat.reduceSub, Nat.reduceBEq, Nat.reduceLeDiff, Nat.reduceLT, Nat.reduceMod, Nat.reduceDiv, Int.reduceToNat, Int.reducePow, Int.reduceMul, Int.reduceAdd, Int.reduceSub, Int.reduceLE, Int.reduceLT, Int.reduceNeg, Int.reduceDiv, Int.reduceMod, Int.reduceEq, Int.reduceBEq, Int.reduceBNe, f5, f5b, f5r0, f5r1, f5r2, f5r3, f5r4, f5r5, f5r6, f5r7, f5r8, f5r9, f5r10, f5r11, f5r12, f5r14, f5r15, f5r16, f5r17, f5r18, f5r19, f5r20, f5r21, f5r22, f5r23, f5r24, f5r25, f5r27, f5r28, f5r29, f5r31, f5l0, hk, get_old hk, ↓h0, hid', C.cells] | (refine BrW.of (fun hb => ?_) (fun hb => ?_) <;> (have hb' := hb; try simp only [decide_eq_true_eq, decide_eq_false_iff_not, beq_iff_eq, bne_iff_ne, beq_eq_false_iff_ne, bne_eq_false_iff_eq, Bool.not_eq_true', Bool.not_eq_false', Bool.not_eq_true, Bool.not_eq_false, Bool.and_eq_true, Bool.or_eq_true, Bool.and_eq_false_iff, Bool.or_eq_false_iff, Int.not_lt, Int.not_le, ne_eq, gt_iff_lt, ge_iff_le] at hb') <;> (try (exfalso; omega)))
        refine RdW.keep [0, 1, 2, 3, 9, 11, 35, 36, 37] (l.length - (i + 1)) (by omega) ?_
        simp (disch := first | with_reducible assumption | omega) only [go_sem, Bool.true_and, Bool.and_true, Bool.and_self, Bool.false_and, Bool.and_false, Bool.true_or, Bool.or_true, Bool.false_or, Bool.or_false, ↓reduceIte, Nat.reduceEqDiff, Nat.reduceAdd, Nat.reduceMul, Nat.reduceSub, Nat.reduceBEq, Nat.reduceLeDiff, Nat.reduceLT, Nat.reduceMod, Nat.reduceDiv, Int.reduceToNat, Int.reducePow, Int.reduceMul, Int.reduceAdd, Int.reduceSub, Int.reduceLE, Int.reduceLT, Int.reduceNeg, Int.reduceDiv, Int.reduceMod, Int.reduceEq, Int.reduceBEq, Int.reduceBNe]
        exact ⟨i + 1, _, by rw [s2]; rfl, rfl, by omega, rfl⟩
      · rw [if_neg hid] at s2
        have hid' : (iconv .u64 id == x) = false := by simpa [uid] using hid
        repeat' first | simp (disch := first | with_reducible assumption | omega) only [go_sem, Bool.true_and, Bool.and_true, Bool.and_self, Bool.false_and, Bool.and_false, Bool.true_or, Bool.or_true, Bool.false_or, Bool.or_false, ↓reduceIte, Nat.reduceEqDiff, Nat.reduceAdd, Nat.reduceMul, Nat.reduceSub, Nat.reduceBEq, Nat.reduceLeDiff, Nat.reduceLT, Nat.reduceMod, Nat.reduceDiv, Int.reduceToNat, Int.reducePow, Int.reduceMul, Int.reduceAdd, Int.reduceSub, Int.reduceLE, Int.reduceLT, Int.reduceNeg, Int.reduceDiv, Int.reduceMod, Int.reduceEq, Int.reduceBEq, Int.reduceBNe, f5, f5b, f5r0, f5r1, f5r2, f5r3, f5r4, f5r5, f5r6, f5r7, f5r8, f5r9, f5r10, f5r11, f5r12, f5r14, f5r15, f5r16, f5r17, f5r18, f5r19, f5r20, f5r21, f5r22, f5r23, f5r24, f5r25, f5r27, f5r28, f5r29, f5r31, f5l0, hk, get_old hk, ↓h0, hid', C.cells] | (refine BrW.of (fun hb => ?_) (fun hb => ?_) <;> (have hb' := hb; try simp only [decide_eq_true_eq, decide_eq_false_iff_not, beq_iff_eq, bne_iff_ne, beq_eq_false_iff_ne, bne_eq_false_iff_eq, Bool.not_eq_true', Bool.not_eq_false', Bool.not_eq_true, Bool.not_eq_false, Bool.and_eq_true, Bool.or_eq_true, Bool.and_eq_false_iff, Bool.or_eq_false_iff, Int.not_lt, Int.not_le, ne_eq, gt_iff_lt, ge_iff_le] at hb') <;> (try (exfalso; omega)))
        refine RdW.keep [0, 1, 2, 3, 9, 11, 35, 36, 37] (l.length - (i + 1)) (by omega) ?_
        simp (disch := first | with_reducible assumption | omega) only [go_sem, Bool.true_and, Bool.and_true, Bool.and_self, Bool.false_and, Bool.and_false, Bool.true_or, Bool.or_true, Bool.false_or, Bool.or_false, ↓reduceIte, Nat.reduceEqDiff, Nat.reduceAdd, Nat.reduceMul, Nat.reduceSub, Nat.reduceBEq, Nat.reduceLeDiff, Nat.reduceLT, Nat.reduceMod, Nat.reduceDiv, Int.reduceToNat, Int.reducePow, Int.reduceMul, Int.reduceAdd, Int.reduceSub, Int.reduceLE, Int.reduceLT, Int.reduceNeg, Int.reduceDiv, Int.reduceMod, Int.reduceEq, Int.reduceBEq, Int.reduceBNe]
        exact ⟨i + 1, _, by rw [s2, Int.add_zero]; rfl, rfl, by omega, rfl⟩
    · obtain rfl : i = l.length := by omega
      rw [List.take_length]
      have hC1 := hC1 _ (hI1.app y)
      clear htO
      generalize tot (fun id => uid id = x) l = OWN at *
      clear hn hn0
      repeat' first | simp (disch := first | with_reducible assumption | omega) only [go_sem, Bool.true_and, Bool.and_true, Bool.and_self, Bool.false_and, Bool.and_false, Bool.true_or, Bool.or_true, Bool.false_or, Bool.or_false, ↓reduceIte, Nat.reduceEqDiff, Nat.reduceAdd, Nat.reduceMul, Nat.reduceSub, Nat.reduceBEq, Nat.reduceLeDiff, Nat.reduceLT, Nat.reduceMod, Nat.reduceDiv, Int.reduceToNat, Int.reducePow, Int.reduceMul, Int.reduceAdd, Int.reduceSub, Int.reduceLE, Int.reduceLT, Int.reduceNeg, Int.reduceDiv, Int.reduceMod, Int.reduceEq, Int.reduceBEq, Int.reduceBNe, f5, f5b, f5r0, f5r1, f5r2, f5r3, f5r4, f5r5, f5r6, f5r7, f5r8, f5r9, f5r10, f5r11, f5r12, f5r14, f5r15, f5r16, f5r17, f5r18, f5r19, f5r20, f5r21, f5r22, f5r23, f5r24, f5r25, f5r27, f5r28, f5r29, f5r31, f5l0, f5, f5b, f5r0, f5r1, f5r2, f5r3, f5r4, f5r5, f5r6, f5r7, f5r8, f5r9, f5r10, f5r11, f5r12, f5r14, f5r15, f5r16, f5r17, f5r18, f5r19, f5r20, f5r21, f5r22, f5r23, f5r24, f5r25, f5r27, f5r28, f5r29, f5r31, hbA, get_old hbA] | (refine BrW.of (fun hb => ?_) (fun hb => ?_) <;> (have hb' := hb; try simp only [decide_eq_true_eq, decide_eq_false_iff_not, beq_iff_eq, bne_iff_ne, beq_eq_false_iff_ne, bne_eq_false_iff_eq, Bool.not_eq_true', Bool.not_eq_false', Bool.not_eq_true, Bool.not_eq_false, Bool.and_eq_true, Bool.or_eq_true, Bool.and_eq_false_iff, Bool.or_eq_false_iff, Int.not_lt, Int.not_le, ne_eq, gt_iff_lt, ge_iff_le] at hb') <;> (try (exfalso; omega))) | (refine .of (hC1.mono ?_); rintro v _ ⟨rfl, rfl⟩)
      refine loopW.of (by decide) (fun m e J => ∃ (r : Nat) (y : Heap), e = [(1, .int .i64 W), (2, slv k 0 0 l.length c), (3, .int .u64 x), (11, .int .i64 OWN), (14, .int .i64 L1), (15, .int .i64 0), (57, .int .i64 R), (58, .int .i64 r)] ∧ J = G ++ y ∧ r ≤ R ∧ m = R - r) R ⟨0, y, rfl, rfl, by omega, rfl⟩ ?_
      rintro m e J ⟨r, y, rfl, rfl, hrR, rfl⟩
      by_cases hltr : r < R
      · have hP := fun H' => Place_spec r W x H' (by omega) hW hx'
        have ha := hal r hltr
        clear hal hC1
        repeat' first | simp (disch := first | with_reducible assumption | omega) only [go_sem, Bool.true_and, Bool.and_true, Bool.and_self, Bool.false_and, Bool.and_false, Bool.true_or, Bool.or_true, Bool.false_or, Bool.or_false, ↓reduceIte, Nat.reduceEqDiff, Nat.reduceAdd, Nat.reduceMul, Nat.reduceSub, Nat.reduceBEq, Nat.reduceLeDiff, Nat.reduceLT, Nat.reduceMod, Nat.reduceDiv, Int.reduceToNat, Int.reducePow, Int.reduceMul, Int.reduceAdd, Int.reduceSub, Int.reduceLE, Int.reduceLT, Int.reduceNeg, Int.reduceDiv, Int.reduceMod, Int.reduceEq, Int.reduceBEq, Int.reduceBNe, f5, f5b, f5r0, f5r1, f5r2, f5r3, f5r4, f5r5, f5r6, f5r7, f5r8, f5r9, f5r10, f5r11, f5r12, f5r14, f5r15, f5r16, f5r17, f5r18, f5r19, f5r20, f5r21, f5r22, f5r23, f5r24, f5r25, f5r27, f5r28, f5r29, f5r31, f5l2, hk, get_old hk] | (refine BrW.of (fun hb => ?_) (fun hb => ?_) <;> (have hb' := hb; try simp only [decide_eq_true_eq, decide_eq_false_iff_not, beq_iff_eq, bne_iff_ne, beq_eq_false_iff_ne, bne_eq_false_iff_eq, Bool.not_eq_true', Bool.not_eq_false', Bool.not_eq_true, Bool.not_eq_false, Bool.and_eq_true, Bool.or_eq_true, Bool.and_eq_false_iff, Bool.or_eq_false_iff, Int.not_lt, Int.not_le, ne_eq, gt_iff_lt, ge_iff_le] at hb') <;> (try (exfalso; omega))) | (refine .of ((hP _).mono ?_); rintro v _ ⟨rfl, rfl⟩)
        refine loopW.of (by decide) (fun m e J => ∃ (i : Nat) (al : Bool) (y : Heap), e = [(1, .int .i64 W), (2, slv k 0 0 l.length c), (3, .int .u64 x), (11, .int .i64 OWN), (14, .int .i64 L1), (15, .int .i64 0), (16, .int .i64 r), (17, .int .i64 (pl W r x : Nat)), (19, .bool al), (57, .int .i64 R), (58, .int .i64 r), (70, slv k 0 0 l.length c), (71, .int .i64 l.length), (72, .int .i64 i)] ∧
          J = G ++ y ∧ i ≤ l.length ∧ m = l.length - i ∧ (al = true → Alone W r x (l.take i))) l.length ⟨0, true, y, rfl, rfl, by omega, rfl, fun _ c hc => by simp at hc⟩ ?_
        rintro m e J ⟨i, al, y, rfl, rfl, hi2, rfl, hA⟩
        by_cases hlt2 : i < l.length
        · have h0 := hld i hlt2
          have htk := take_snoc c0 l i hlt2
          generalize l.getD i c0 = cc at *
          obtain ⟨id, n⟩ := cc
          simp only [C.cells] at h0
          have hP2 := fun H' => Place_spec r W (iconv .u64 id) H' (by omega) hW (iconv_range id)
          have hsn : Alone W r x (l.take i) → (uid id = x ∨ pl W r x ≠ pl W r (uid id) ∨ n = 0) → Alone W r x (l.take (i + 1)) := fun h1 h2 c hc => by
            rw [htk] at hc
            rcases List.mem_append.1 hc with hc | hc
            · exact h1 c hc
            · rw [List.mem_singleton.1 hc]; exact h2
          unfold uid at hsn
          generalize pl W r x = p1 at *
          generalize pl W r (iconv .u64 id) = p2 at *
          clear hld ha htk hP
          cases al with
          | false =>
            clear hA hsn
            repeat' first | simp (disch := first | with_reducible assumption | omega) only [go_sem, Bool.true_and, Bool.and_true, Bool.and_self, Bool.false_and, Bool.and_false, Bool.true_or, Bool.or_true, Bool.false_or, Bool.or_false, ↓reduceIte, Nat.reduceEqDiff, Nat.reduceAdd, Nat.reduceMul, Nat.reduceSub, Nat.reduceBEq, Nat.reduceLeDiff, Nat.reduceLT, Nat.reduceMod, Nat.reduceDiv, Int.reduceToNat, Int.reducePow, Int.reduceMul, Int.reduceAdd, Int.reduceSub, Int.reduceLE, Int.reduceLT, Int.reduceNeg, Int.reduceDiv, Int.reduceMod, Int.reduceEq, Int.reduceBEq, Int.reduceBNe, f5, f5b, f5r0, f5r1, f5r2, f5r3, f5r4, f5r5, f5r6, f5r7, f5r8, f5r9, f5r10, f5r11, f5r12, f5r14, f5r15, f5r16, f5r17, f5r18, f5r19, f5r20, f5r21, f5r22, f5r23, f5r24, f5r25, f5r27, f5r28, f5r29, f5r31, f5l1, hk, get_old hk, ↓h0, C.cells] | (refine BrW.of (fun hb => ?_) (fun hb => ?_) <;> (have hb' := hb; try simp only [decide_eq_true_eq, decide_eq_false_iff_not, beq_iff_eq, bne_iff_ne, beq_eq_false_iff_ne, bne_eq_false_iff_eq, Bool.not_eq_true', Bool.not_eq_false', Bool.not_eq_true, Bool.not_eq_false, Bool.and_eq_true, Bool.or_eq_true, Bool.and_eq_false_iff, Bool.or_eq_false_iff, Int.not_lt, Int.not_le, ne_eq, gt_iff_lt, ge_iff_le] at hb') <;> (try (exfalso; omega))) | (refine .of ((hP2 _).mono ?_); rintro v _ ⟨rfl, rfl⟩)
            refine RdW.keep [1, 2, 3, 11, 14, 15, 16, 17, 19, 57, 58, 70, 71, 72] (l.length - (i + 1)) (by omega) ?_
            simp (disch := first | with_reducible assumption | omega) only [go_sem, Bool.true_and, Bool.and_true, Bool.and_self, Bool.false_and, Bool.and_false, Bool.true_or, Bool.or_true, Bool.false_or, Bool.or_false, ↓reduceIte, Nat.reduceEqDiff, Nat.reduceAdd, Nat.reduceMul, Nat.reduceSub, Nat.reduceBEq, Nat.reduceLeDiff, Nat.reduceLT, Nat.reduceMod, Nat.reduceDiv, Int.reduceToNat, Int.reducePow, Int.reduceMul, Int.reduceAdd, Int.reduceSub, Int.reduceLE, Int.reduceLT, Int.reduceNeg, Int.reduceDiv, Int.reduceMod, Int.reduceEq, Int.reduceBEq, Int.reduceBNe]
            exact ⟨i + 1, false, _, rfl, rfl, by omega, rfl, fun h => by cases h⟩
          | true =>
            have hA := hA rfl
            by_cases hid : iconv .u64 id = x
            · have hid' : (iconv .u64 id == x) = true := by simpa using hid
              have hr2 := hsn hA (.inl hid)
              clear hsn hA hid
              repeat' first | simp (disch := first | with_reducible assumption | omega) only [go_sem, Bool.true_and, Bool.and_true, Bool.and_self, Bool.false_and, Bool.and_false, Bool.true_or, Bool.or_true, Bool.false_or, Bool.or_false, ↓reduceIte, Nat.reduceEqDiff, Nat.reduceAdd, Nat.reduceMul, Nat.reduceSub, Nat.reduceBEq, Nat.reduceLeDiff, Nat.reduceLT, Nat.reduceMod, Nat.reduceDiv, Int.reduceToNat, Int.reducePow, Int.reduceMul, Int.reduceAdd, Int.reduceSub, Int.reduceLE, Int.reduceLT, Int.reduceNeg, Int.reduceDiv, Int.reduceMod, Int.reduceEq, Int.reduceBEq, Int.reduceBNe, f5, f5b, f5r0, f5r1, f5r2, f5r3, f5r4, f5r5, f5r6, f5r7, f5r8, f5r9, f5r10, f5r11, f5r12, f5r14, f5r15, f5r16, f5r17, f5r18, f5r19, f5r20, f5r21, f5r22, f5r23, f5r24, f5r25, f5r27, f5r28, f5r29, f5r31, f5l1, hk, get_old hk, ↓h0, C.cells, hid'] | (refine BrW.of (fun hb => ?_) (fun hb => ?_) <;> (have hb' := hb; try simp only [decide_eq_true_eq, decide_eq_false_iff_not, beq_iff_eq, bne_iff_ne, beq_eq_false_iff_ne, bne_eq_false_iff_eq, Bool.not_eq_true', Bool.not_eq_false', Bool.not_eq_true, Bool.not_eq_false, Bool.and_eq_true, Bool.or_eq_true, Bool.and_eq_false_iff, Bool.or_eq_false_iff, Int.not_lt, Int.not_le, ne_eq, gt_iff_lt, ge_iff_le] at hb') <;> (try (exfalso; omega))) | (refine .of ((hP2 _).mono ?_); rintro v _ ⟨rfl, rfl⟩)
              refine RdW.keep [1, 2, 3, 11, 14, 15, 16, 17, 19, 57, 58, 70, 71, 72] (l.length - (i + 1)) (by omega) ?_
              simp (disch := first | with_reducible assumption | omega) only [go_sem, Bool.true_and, Bool.and_true, Bool.and_self, Bool.false_and, Bool.and_false, Bool.true_or, Bool.or_true, Bool.false_or, Bool.or_false, ↓reduceIte, Nat.reduceEqDiff, Nat.reduceAdd, Nat.reduceMul, Nat.reduceSub, Nat.reduceBEq, Nat.reduceLeDiff, Nat.reduceLT, Nat.reduceMod, Nat.reduceDiv, Int.reduceToNat, Int.reducePow, Int.reduceMul, Int.reduceAdd, Int.reduceSub, Int.reduceLE, Int.reduceLT, Int.reduceNeg, Int.reduceDiv, Int.reduceMod, Int.reduceEq, Int.reduceBEq, Int.reduceBNe]
              exact ⟨i + 1, true, _, rfl, rfl, by omega, rfl, fun _ => hr2⟩
            · have hid' : (iconv .u64 id == x) = false := by simpa using hid
              by_cases hpp : p1 = p2
              · have hpp' : ((p1 : Int) != (p2 : Int)) = false := by rw [hpp]; simp
                by_cases hn2 : n = 0
                · have hn' : (n == 0) = true := by simpa using hn2
                  have hr2 := hsn hA (.inr (.inr hn2))
                  clear hsn hA hid hpp hn2
                  repeat' first | simp (disch := first | with_reducible assumption | omega) only [go_sem, Bool.true_and, Bool.and_true, Bool.and_self, Bool.false_and, Bool.and_false, Bool.true_or, Bool.or_true, Bool.false_or, Bool.or_false, ↓reduceIte, Nat.reduceEqDiff, Nat.reduceAdd, Nat.reduceMul, Nat.reduceSub, Nat.reduceBEq, Nat.reduceLeDiff, Nat.reduceLT, Nat.reduceMod, Nat.reduceDiv, Int.reduceToNat, Int.reducePow, Int.reduceMul, Int.reduceAdd, Int.reduceSub, Int.reduceLE, Int.reduceLT, Int.reduceNeg, Int.reduceDiv, Int.reduceMod, Int.reduceEq, Int.reduceBEq, Int.reduceBNe, f5, f5b, f5r0, f5r1, f5r2, f5r3, f5r4, f5r5, f5r6, f5r7, f5r8, f5r9, f5r10, f5r11, f5r12, f5r14, f5r15, f5r16, f5r17, f5r18, f5r19, f5r20, f5r21, f5r22, f5r23, f5r24, f5r25, f5r27, f5r28, f5r29, f5r31, f5l1, hk, get_old hk, ↓h0, C.cells, hid', hpp', hn'] | (refine BrW.of (fun hb => ?_) (fun hb => ?_) <;> (have hb' := hb; try simp only [decide_eq_true_eq, decide_eq_false_iff_not, beq_iff_eq, bne_iff_ne, beq_eq_false_iff_ne, bne_eq_false_iff_eq, Bool.not_eq_true', Bool.not_eq_false', Bool.not_eq_true, Bool.not_eq_false, Bool.and_eq_true, Bool.or_eq_true, Bool.and_eq_false_iff, Bool.or_eq_false_iff, Int.not_lt, Int.not_le, ne_eq, gt_iff_lt, ge_iff_le] at hb') <;> (try (exfalso; omega))) | (refine .of ((hP2 _).mono ?_); rintro v _ ⟨rfl, rfl⟩)
                  refine RdW.keep [1, 2, 3, 11, 14, 15, 16, 17, 19, 57, 58, 70, 71, 72] (l.length - (i + 1)) (by omega) ?_
                  simp (disch := first | with_reducible assumption | omega) only [go_sem, Bool.true_and, Bool.and_true, Bool.and_self, Bool.false_and, Bool.and_false, Bool.true_or, Bool.or_true, Bool.false_or, Bool.or_false, ↓reduceIte, Nat.reduceEqDiff, Nat.reduceAdd, Nat.reduceMul, Nat.reduceSub, Nat.reduceBEq, Nat.reduceLeDiff, Nat.reduceLT, Nat.reduceMod, Nat.reduceDiv, Int.reduceToNat, Int.reducePow, Int.reduceMul, Int.reduceAdd, Int.reduceSub, Int.reduceLE, Int.reduceLT, Int.reduceNeg, Int.reduceDiv, Int.reduceMod, Int.reduceEq, Int.reduceBEq, Int.reduceBNe]
                  exact ⟨i + 1, true, _, rfl, rfl, by omega, rfl, fun _ => hr2⟩
                · have hn' : (n == 0) = false := by simpa using hn2
                  clear hsn hA hid hpp hn2
                  repeat' first | simp (disch := first | with_reducible assumption | omega) only [go_sem, Bool.true_and, Bool.and_true, Bool.and_self, Bool.false_and, Bool.and_false, Bool.true_or, Bool.or_true, Bool.false_or, Bool.or_false, ↓reduceIte, Nat.reduceEqDiff, Nat.reduceAdd, Nat.reduceMul, Nat.reduceSub, Nat.reduceBEq, Nat.reduceLeDiff, Nat.reduceLT, Nat.reduceMod, Nat.reduceDiv, Int.reduceToNat, Int.reducePow, Int.reduceMul, Int.reduceAdd, Int.reduceSub, Int.reduceLE, Int.reduceLT, Int.reduceNeg, Int.reduceDiv, Int.reduceMod, Int.reduceEq, Int.reduceBEq, Int.reduceBNe, f5, f5b, f5r0, f5r1, f5r2, f5r3, f5r4, f5r5, f5r6, f5r7, f5r8, f5r9, f5r10, f5r11, f5r12, f5r14, f5r15, f5r16, f5r17, f5r18, f5r19, f5r20, f5r21, f5r22, f5r23, f5r24, f5r25, f5r27, f5r28, f5r29, f5r31, f5l1, hk, get_old hk, ↓h0, C.cells, hid', hpp', hn'] | (refine BrW.of (fun hb => ?_) (fun hb => ?_) <;> (have hb' := hb; try simp only [decide_eq_true_eq, decide_eq_false_iff_not, beq_iff_eq, bne_iff_ne, beq_eq_false_iff_ne, bne_eq_false_iff_eq, Bool.not_eq_true', Bool.not_eq_false', Bool.not_eq_true, Bool.not_eq_false, Bool.and_eq_true, Bool.or_eq_true, Bool.and_eq_false_iff, Bool.or_eq_false_iff, Int.not_lt, Int.not_le, ne_eq, gt_iff_lt, ge_iff_le] at hb') <;> (try (exfalso; omega))) | (refine .of ((hP2 _).mono ?_); rintro v _ ⟨rfl, rfl⟩)
                  refine RdW.keep [1, 2, 3, 11, 14, 15, 16, 17, 19, 57, 58, 70, 71, 72] (l.length - (i + 1)) (by omega) ?_
                  simp (disch := first | with_reducible assumption | omega) only [go_sem, Bool.true_and, Bool.and_true, Bool.and_self, Bool.false_and, Bool.and_false, Bool.true_or, Bool.or_true, Bool.false_or, Bool.or_false, ↓reduceIte, Nat.reduceEqDiff, Nat.reduceAdd, Nat.reduceMul, Nat.reduceSub, Nat.reduceBEq, Nat.reduceLeDiff, Nat.reduceLT, Nat.reduceMod, Nat.reduceDiv, Int.reduceToNat, Int.reducePow, Int.reduceMul, Int.reduceAdd, Int.reduceSub, Int.reduceLE, Int.reduceLT, Int.reduceNeg, Int.reduceDiv, Int.reduceMod, Int.reduceEq, Int.reduceBEq, Int.reduceBNe]
                  exact ⟨i + 1, false, _, rfl, rfl, by omega, rfl, fun h => by cases h⟩
              · have hpp' : ((p1 : Int) != (p2 : Int)) = true := by simp; omega
                have hr2 := hsn hA (.inr (.inl hpp))
                clear hsn hA hid hpp
                repeat' first | simp (disch := first | with_reducible assumption | omega) only [go_sem, Bool.true_and, Bool.and_true, Bool.and_self, Bool.false_and, Bool.and_false, Bool.true_or, Bool.or_true, Bool.false_or, Bool.or_false, ↓reduceIte, Nat.reduceEqDiff, Nat.reduceAdd, Nat.reduceMul, Nat.reduceSub, Nat.reduceBEq, Nat.reduceLeDiff, Nat.reduceLT, Nat.reduceMod, Nat.reduceDiv, Int.reduceToNat, Int.reducePow, Int.reduceMul, Int.reduceAdd, Int.reduceSub, Int.reduceLE, Int.reduceLT, Int.reduceNeg, Int.reduceDiv, Int.reduceMod, Int.reduceEq, Int.reduceBEq, Int.reduceBNe, f5, f5b, f5r0, f5r1, f5r2, f5r3, f5r4, f5r5, f5r6, f5r7, f5r8, f5r9, f5r10, f5r11, f5r12, f5r14, f5r15, f5r16, f5r17, f5r18, f5r19, f5r20, f5r21, f5r22, f5r23, f5r24, f5r25, f5r27, f5r28, f5r29, f5r31, f5l1, hk, get_old hk, ↓h0, C.cells, hid', hpp'] | (refine BrW.of (fun hb => ?_) (fun hb => ?_) <;> (have hb' := hb; try simp only [decide_eq_true_eq, decide_eq_false_iff_not, beq_iff_eq, bne_iff_ne, beq_eq_false_iff_ne, bne_eq_false_iff_eq, Bool.not_eq_true', Bool.not_eq_false', Bool.not_eq_true, Bool.not_eq_false, Bool.and_eq_true, Bool.or_eq_true, Bool.and_eq_false_iff, Bool.or_eq_false_iff, Int.not_lt, Int.not_le, ne_eq, gt_iff_lt, ge_iff_le] at hb') <;> (try (exfalso; omega))) | (refine .of ((hP2 _).mono ?_); rintro v _ ⟨rfl, rfl⟩)
                refine RdW.keep [1, 2, 3, 11, 14, 15, 16, 17, 19, 57, 58, 70, 71, 72] (l.length - (i + 1)) (by omega) ?_
                simp (disch := first | with_reducible assumption | omega) only [go_sem, Bool.true_and, Bool.and_true, Bool.and_self, Bool.false_and, Bool.and_false, Bool.true_or, Bool.or_true, Bool.false_or, Bool.or_false, ↓reduceIte, Nat.reduceEqDiff, Nat.reduceAdd, Nat.reduceMul, Nat.reduceSub, Nat.reduceBEq, Nat.reduceLeDiff, Nat.reduceLT, Nat.reduceMod, Nat.reduceDiv, Int.reduceToNat, Int.reducePow, Int.reduceMul, Int.reduceAdd, Int.reduceSub, Int.reduceLE, Int.reduceLT, Int.reduceNeg, Int.reduceDiv, Int.reduceMod, Int.reduceEq, Int.reduceBEq, Int.reduceBNe]
                exact ⟨i + 1, true, _, rfl, rfl, by omega, rfl, fun _ => hr2⟩
        · obtain rfl : i = l.length := by omega
          rw [List.take_length] at hA
          cases al with
          | true =>
            obtain rfl := ha (hA rfl)
            have hne : (L1 != L1) = false := by simp
            clear ha hld
            repeat' first | simp (disch := first | with_reducible assumption | omega) only [go_sem, Bool.true_and, Bool.and_true, Bool.and_self, Bool.false_and, Bool.and_false, Bool.true_or, Bool.or_true, Bool.false_or, Bool.or_false, ↓reduceIte, Nat.reduceEqDiff, Nat.reduceAdd, Nat.reduceMul, Nat.reduceSub, Nat.reduceBEq, Nat.reduceLeDiff, Nat.reduceLT, Nat.reduceMod, Nat.reduceDiv, Int.reduceToNat, Int.reducePow, Int.reduceMul, Int.reduceAdd, Int.reduceSub, Int.reduceLE, Int.reduceLT, Int.reduceNeg, Int.reduceDiv, Int.reduceMod, Int.reduceEq, Int.reduceBEq, Int.reduceBNe, f5, f5b, f5r0, f5r1, f5r2, f5r3, f5r4, f5r5, f5r6, f5r7, f5r8, f5r9, f5r10, f5r11, f5r12, f5r14, f5r15, f5r16, f5r17, f5r18, f5r19, f5r20, f5r21, f5r22, f5r23, f5r24, f5r25, f5r27, f5r28, f5r29, f5r31, f5l1, f5, f5b, f5r0, f5r1, f5r2, f5r3, f5r4, f5r5, f5r6, f5r7, f5r8, f5r9, f5r10, f5r11, f5r12, f5r14, f5r15, f5r16, f5r17, f5r18, f5r19, f5r20, f5r21, f5r22, f5r23, f5r24, f5r25, f5r27, f5r28, f5r29, f5r31, f5l2, hne] | (refine BrW.of (fun hb => ?_) (fun hb => ?_) <;> (have hb' := hb; try simp only [decide_eq_true_eq, decide_eq_false_iff_not, beq_iff_eq, bne_iff_ne, beq_eq_false_iff_ne, bne_eq_false_iff_eq, Bool.not_eq_true', Bool.not_eq_false', Bool.not_eq_true, Bool.not_eq_false, Bool.and_eq_true, Bool.or_eq_true, Bool.and_eq_false_iff, Bool.or_eq_false_iff, Int.not_lt, Int.not_le, ne_eq, gt_iff_lt, ge_iff_le] at hb') <;> (try (exfalso; omega)))
            refine RdW.keep [1, 2, 3, 11, 14, 15, 57, 58] (R - (r + 1)) (by omega) ?_
            simp (disch := first | with_reducible assumption | omega) only [go_sem, Bool.true_and, Bool.and_true, Bool.and_self, Bool.false_and, Bool.and_false, Bool.true_or, Bool.or_true, Bool.false_or, Bool.or_false, ↓reduceIte, Nat.reduceEqDiff, Nat.reduceAdd, Nat.reduceMul, Nat.reduceSub, Nat.reduceBEq, Nat.reduceLeDiff, Nat.reduceLT, Nat.reduceMod, Nat.reduceDiv, Int.reduceToNat, Int.reducePow, Int.reduceMul, Int.reduceAdd, Int.reduceSub, Int.reduceLE, Int.reduceLT, Int.reduceNeg, Int.reduceDiv, Int.reduceMod, Int.reduceEq, Int.reduceBEq, Int.reduceBNe]
            exact ⟨r + 1, y, rfl, rfl, by omega, rfl⟩
          | false =>
            clear ha hA hld
            repeat' first | simp (disch := first | with_reducible assumption | omega) only [go_sem, Bool.true_and, Bool.and_true, Bool.and_self, Bool.false_and, Bool.and_false, Bool.true_or, Bool.or_true, Bool.false_or, Bool.or_false, ↓reduceIte, Nat.reduceEqDiff, Nat.reduceAdd, Nat.reduceMul, Nat.reduceSub, Nat.reduceBEq, Nat.reduceLeDiff, Nat.reduceLT, Nat.reduceMod, Nat.reduceDiv, Int.reduceToNat, Int.reducePow, Int.reduceMul, Int.reduceAdd, Int.reduceSub, Int.reduceLE, Int.reduceLT, Int.reduceNeg, Int.reduceDiv, Int.reduceMod, Int.reduceEq, Int.reduceBEq, Int.reduceBNe, f5, f5b, f5r0, f5r1, f5r2, f5r3, f5r4, f5r5, f5r6, f5r7, f5r8, f5r9, f5r10, f5r11, f5r12, f5r14, f5r15, f5r16, f5r17, f5r18, f5r19, f5r20, f5r21, f5r22, f5r23, f5r24, f5r25, f5r27, f5r28, f5r29, f5r31, f5l1, f5, f5b, f5r0, f5r1, f5r2, f5r3, f5r4, f5r5, f5r6, f5r7, f5r8, f5r9, f5r10, f5r11, f5r12, f5r14, f5r15, f5r16, f5r17, f5r18, f5r19, f5r20, f5r21, f5r22, f5r23, f5r24, f5r25, f5r27, f5r28, f5r29, f5r31, f5l2] | (refine BrW.of (fun hb => ?_) (fun hb => ?_) <;> (have hb' := hb; try simp only [decide_eq_true_eq, decide_eq_false_iff_not, beq_iff_eq, bne_iff_ne, beq_eq_false_iff_ne, bne_eq_false_iff_eq, Bool.not_eq_true', Bool.not_eq_false', Bool.not_eq_true, Bool.not_eq_false, Bool.and_eq_true, Bool.or_eq_true, Bool.and_eq_false_iff, Bool.or_eq_false_iff, Int.not_lt, Int.not_le, ne_eq, gt_iff_lt, ge_iff_le] at hb') <;> (try (exfalso; omega)))
            refine RdW.keep [1, 2, 3, 11, 14, 15, 57, 58] (R - (r + 1)) (by omega) ?_
            simp (disch := first | with_reducible assumption | omega) only [go_sem, Bool.true_and, Bool.and_true, Bool.and_self, Bool.false_and, Bool.and_false, Bool.true_or, Bool.or_true, Bool.false_or, Bool.or_false, ↓reduceIte, Nat.reduceEqDiff, Nat.reduceAdd, Nat.reduceMul, Nat.reduceSub, Nat.reduceBEq, Nat.reduceLeDiff, Nat.reduceLT, Nat.reduceMod, Nat.reduceDiv, Int.reduceToNat, Int.reducePow, Int.reduceMul, Int.reduceAdd, Int.reduceSub, Int.reduceLE, Int.reduceLT, Int.reduceNeg, Int.reduceDiv, Int.reduceMod, Int.reduceEq, Int.reduceBEq, Int.reduceBNe]
            exact ⟨r + 1, y, rfl, rfl, by omega, rfl⟩
      · obtain rfl : r = R := by omega
        repeat' first | simp (disch := first | with_reducible assumption | omega) only [go_sem, Bool.true_and, Bool.and_true, Bool.and_self, Bool.false_and, Bool.and_false, Bool.true_or, Bool.or_true, Bool.false_or, Bool.or_false, ↓reduceIte, Nat.reduceEqDiff, Nat.reduceAdd, Nat.reduceMul, Nat.reduceSub, Nat.reduceBEq, Nat.reduceLeDiff, Nat.reduceLT, Nat.reduceMod, Nat.reduceDiv, Int.reduceToNat, Int.reducePow, Int.reduceMul, Int.reduceAdd, Int.reduceSub, Int.reduceLE, Int.reduceLT, Int.reduceNeg, Int.reduceDiv, Int.reduceMod, Int.reduceEq, Int.reduceBEq, Int.reduceBNe, f5, f5b, f5r0, f5r1, f5r2, f5r3, f5r4, f5r5, f5r6, f5r7, f5r8, f5r9, f5r10, f5r11, f5r12, f5r14, f5r15, f5r16, f5r17, f5r18, f5r19, f5r20, f5r21, f5r22, f5r23, f5r24, f5r25, f5r27, f5r28, f5r29, f5r31, f5l2, f5, f5b, f5r0, f5r1, f5r2, f5r3, f5r4, f5r5, f5r6, f5r7, f5r8, f5r9, f5r10, f5r11, f5r12, f5r14, f5r15, f5r16, f5r17, f5r18, f5r19, f5r20, f5r21, f5r22, f5r23, f5r24, f5r25, f5r27, f5r28, f5r29, f5r31] | (refine BrW.of (fun hb => ?_) (fun hb => ?_) <;> (have hb' := hb; try simp only [decide_eq_true_eq, decide_eq_false_iff_not, beq_iff_eq, bne_iff_ne, beq_eq_false_iff_ne, bne_eq_false_iff_eq, Bool.not_eq_true', Bool.not_eq_false', Bool.not_eq_true, Bool.not_eq_false, Bool.and_eq_true, Bool.or_eq_true, Bool.and_eq_false_iff, Bool.or_eq_false_iff, Int.not_lt, Int.not_le, ne_eq, gt_iff_lt, ge_iff_le] at hb') <;> (try (exfalso; omega)))
        exact .here rfl
end Go.Proofs.Ytadogoahnpakbaa
