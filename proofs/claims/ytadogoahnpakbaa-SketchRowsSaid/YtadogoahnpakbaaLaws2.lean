import Derived.Test.YtadogoahnpakbaaLaws
set_option linter.unusedSimpArgs false
set_option linter.unusedVariables false
set_option maxHeartbeats 2000000
set_option maxRecDepth 20000
namespace Go.Proofs.Ytadogoahnpakbaa
open Go Go.Am
attribute [local irreducible] opsW Ww loopW callW drawW outW outDW gW cW BrW bothW vW resW DropW RdW dcallW Later.run

theorem rowSum_eq {R W r : Nat} {L : List Int} (hL : L.length = R * W) (hr : r < R) : ((L.drop (r * W)).take W).sum = rowSum W L r := by
  have hle : (r + 1) * W ≤ R * W := Nat.mul_le_mul_right _ hr
  rw [Nat.succ_mul] at hle
  unfold rowSum
  congr 1
  refine List.ext_getElem (by simp; omega) fun p h1 h2 => ?_
  simp only [List.length_map, List.length_range] at h2
  rw [List.getElem_take, List.getElem_drop, List.getElem_map, List.getElem_range, List.getD_eq_getElem?_getD, List.getElem?_eq_getElem (by omega)]
  rfl
theorem sum_take' {L : List Int} (i : Nat) (h : i < L.length) : (L.take (i + 1)).sum = (L.take i).sum + L.getD i 0 := by
  rw [take_snoc 0 L i h]; simp

theorem SketchRows_args (H : Heap) (vals : List Value) (h : ArgsOk maxLen H SketchRowsSh vals) : ACallK Try.prog 4 vals H fun v _ => v = .bool true := by
  obtain ⟨_, _, rfl, a1, h⟩ := h.cons
  obtain ⟨_, _, rfl, a2, h⟩ := h.cons
  obtain ⟨_, _, rfl, a3, h⟩ := h.cons
  obtain rfl := h.nil
  obtain ⟨rows, rfl, _⟩ := a1.cell.int_inv
  obtain ⟨w, rfl, _⟩ := a2.cell.int_inv
  obtain ⟨k, c, l, rfl, hB, hlc, hs, _⟩ := rows_of (enc := C.cells) (ok := fun _ => True) 2 (fun _ => rfl) c0 rfl (fun cs h => C.of h) a3
  have hB' : l.length ≤ 9223372036854775807 := Nat.le_trans hB (by decide)
  clear a1 a2 a3 h hB
  refine .walkW f4_ok (by simp; decide) (by decide) ?_
  repeat' first | simp (disch := first | with_reducible assumption | omega) only [go_sem, Bool.true_and, Bool.and_true, Bool.and_self, Bool.false_and, Bool.and_false, Bool.true_or, Bool.or_true, Bool.false_or, Bool.or_false, ↓reduceIte, Nat.reduceEqDiff, Nat.reduceAdd, Nat.reduceMul, Nat.reduceSub, Nat.reduceBEq, Nat.reduceLeDiff, Nat.reduceLT, Nat.reduceMod, Nat.reduceDiv, Int.reduceToNat, Int.reducePow, Int.reduceMul, Int.reduceAdd, Int.reduceSub, Int.reduceLE, Int.reduceLT, Int.reduceNeg, Int.reduceDiv, Int.reduceMod, Int.reduceEq, Int.reduceBEq, Int.reduceBNe, f4, f4b, f4r0, f4r1, f4r2, f4r3, f4r4, f4r5, f4r6, f4r7, f4r8, f4r9, f4r10, f4r11, f4r13, f4r14, f4r15, f4r16, f4r17, f4r18, f4r19, f4r20, f4r21, f4r23, f4r24, f4r25, f4r27] | (refine BrW.of (fun hb => ?_) (fun hb => ?_) <;> (have hb' := hb; try simp only [decide_eq_true_eq, decide_eq_false_iff_not, beq_iff_eq, bne_iff_ne, beq_eq_false_iff_ne, bne_eq_false_iff_eq, Bool.not_eq_true', Bool.not_eq_false', Bool.not_eq_true, Bool.not_eq_false, Bool.and_eq_true, Bool.or_eq_true, Bool.and_eq_false_iff, Bool.or_eq_false_iff, Int.not_lt, Int.not_le, ne_eq, gt_iff_lt, ge_iff_le] at hb') <;> (try (exfalso; omega))) | (refine .of ((alive _).mono ?_); rintro v H ⟨rfl, rfl⟩)
  refine .of ((counted_u rows w l k 0 0 c false _ hs hB').mono ?_)
  rintro v H1 ⟨s1, u1, ok1, rfl, le1, hI1, hl1, hg1⟩
  have hs1 := hs.le le1
  clear hs le1
  cases ok1 with
  | false =>
    repeat' first | simp (disch := first | with_reducible assumption | omega) only [go_sem, Bool.true_and, Bool.and_true, Bool.and_self, Bool.false_and, Bool.and_false, Bool.true_or, Bool.or_true, Bool.false_or, Bool.or_false, ↓reduceIte, Nat.reduceEqDiff, Nat.reduceAdd, Nat.reduceMul, Nat.reduceSub, Nat.reduceBEq, Nat.reduceLeDiff, Nat.reduceLT, Nat.reduceMod, Nat.reduceDiv, Int.reduceToNat, Int.reducePow, Int.reduceMul, Int.reduceAdd, Int.reduceSub, Int.reduceLE, Int.reduceLT, Int.reduceNeg, Int.reduceDiv, Int.reduceMod, Int.reduceEq, Int.reduceBEq, Int.reduceBNe, f4, f4b, f4r0, f4r1, f4r2, f4r3, f4r4, f4r5, f4r6, f4r7, f4r8, f4r9, f4r10, f4r11, f4r13, f4r14, f4r15, f4r16, f4r17, f4r18, f4r19, f4r20, f4r21, f4r23, f4r24, f4r25, f4r27, S.val] | (refine BrW.of (fun hb => ?_) (fun hb => ?_) <;> (have hb' := hb; try simp only [decide_eq_true_eq, decide_eq_false_iff_not, beq_iff_eq, bne_iff_ne, beq_eq_false_iff_ne, bne_eq_false_iff_eq, Bool.not_eq_true', Bool.not_eq_false', Bool.not_eq_true, Bool.not_eq_false, Bool.and_eq_true, Bool.or_eq_true, Bool.and_eq_false_iff, Bool.or_eq_false_iff, Int.not_lt, Int.not_le, ne_eq, gt_iff_lt, ge_iff_le] at hb') <;> (try (exfalso; omega)))
    all_goals exact .here rfl
  | true =>
    obtain ⟨R, W, rfl, rfl, hR, hW, rfl, hr1, hn⟩ := hg1 rfl
    obtain ⟨ro, cs, hk, hcl, hcs⟩ := hs1.at'
    have hld := fun i hi => Tbl.ld (enc := C.cells) (s := 2) (fun _ => rfl) hcs i hi
    simp only [Nat.zero_add] at hld
    have hn0 : ∀ c ∈ l, 0 ≤ c.n := fun c hc => (hn c hc).1
    have hf1 := fits_of (l := cnt false R W l) hr1.2.2.2.2.2
    have hall := all_le hR.1 hW hf1
    have hrow := fun r (hr : r < R) => (rowSum_eq (cnt_len false R W l) hr).trans (row_all hW.1 hr l)
    have htA := fun i => tot_take (P := fun _ => True) hn0 i
    have hcl1 := cnt_len false R W l
    have hT : 1 ≤ R * W ∧ R * W ≤ 512 := ⟨Nat.mul_le_mul (show 1 ≤ R by omega) (show 1 ≤ W by omega), Nat.mul_le_mul (show R ≤ 8 by omega) (show W ≤ 64 by omega)⟩
    have eRW : (R : Int) * (W : Int) = ((R * W : Nat) : Int) := by simp
    simp only at hI1
    have hcell : ∀ j, 0 ≤ (cnt false R W l).getD j 0 ∧ (cnt false R W l).getD j 0 ≤ 1099511627776 := hf1
    generalize cnt false R W l = L at *
    rcases hI1 with ⟨rfl, rfl⟩ | ⟨kk, o, g, cc, rfl, hi, hcc⟩
    · simp only [List.length_nil] at hcl1; omega
    · obtain ⟨ro2, cs2, hk2, hcl2, hcs2⟩ := hi.cell
      clear hg1 hr1 hf1 hs1 hcs hi
      have hbA := get_new0 H1 (AObj.cells 0 0 false [.int .i64 R, .int .i64 W, slv kk o g L.length cc]) []
      have hk := get_old hk [AObj.cells 0 0 false [.int .i64 R, .int .i64 W, slv kk o g L.length cc]]
      have hk2 := get_old hk2 [AObj.cells 0 0 false [.int .i64 R, .int .i64 W, slv kk o g L.length cc]]
      generalize hT2 : R * W = T at *
      repeat' first | simp (disch := first | with_reducible assumption | omega) only [go_sem, Bool.true_and, Bool.and_true, Bool.and_self, Bool.false_and, Bool.and_false, Bool.true_or, Bool.or_true, Bool.false_or, Bool.or_false, ↓reduceIte, Nat.reduceEqDiff, Nat.reduceAdd, Nat.reduceMul, Nat.reduceSub, Nat.reduceBEq, Nat.reduceLeDiff, Nat.reduceLT, Nat.reduceMod, Nat.reduceDiv, Int.reduceToNat, Int.reducePow, Int.reduceMul, Int.reduceAdd, Int.reduceSub, Int.reduceLE, Int.reduceLT, Int.reduceNeg, Int.reduceDiv, Int.reduceMod, Int.reduceEq, Int.reduceBEq, Int.reduceBNe, f4, f4b, f4r0, f4r1, f4r2, f4r3, f4r4, f4r5, f4r6, f4r7, f4r8, f4r9, f4r10, f4r11, f4r13, f4r14, f4r15, f4r16, f4r17, f4r18, f4r19, f4r20, f4r21, f4r23, f4r24, f4r25, f4r27, S.val, hk, hk2, hbA, eRW] | (refine BrW.of (fun hb => ?_) (fun hb => ?_) <;> (have hb' := hb; try simp only [decide_eq_true_eq, decide_eq_false_iff_not, beq_iff_eq, bne_iff_ne, beq_eq_false_iff_ne, bne_eq_false_iff_eq, Bool.not_eq_true', Bool.not_eq_false', Bool.not_eq_true, Bool.not_eq_false, Bool.and_eq_true, Bool.or_eq_true, Bool.and_eq_false_iff, Bool.or_eq_false_iff, Int.not_lt, Int.not_le, ne_eq, gt_iff_lt, ge_iff_le] at hb') <;> (try (exfalso; omega)))
      generalize H1 ++ [AObj.cells 0 0 false [.int .i64 R, .int .i64 W, slv kk o g L.length cc]] = G at *
      generalize H1.length = P at *
      refine loopW.of (by decide) (fun m e J => ∃ (i : Nat) (y : Heap), e = [(0, .int .i64 R), (1, .int .i64 W), (7, .pointer (some ⟨P, 0, some 1⟩)), (9, .int .i64 (tot (fun _ => True) (l.take i))), (38, slv k 0 0 l.length c), (39, .int .i64 l.length), (40, .int .i64 i)] ∧ J = G ++ y ∧ i ≤ l.length ∧ m = l.length - i) l.length ⟨0, [], rfl, by simp, by omega, rfl⟩ ?_
      rintro m e J ⟨i, y, rfl, rfl, hi, rfl⟩
      by_cases hlt : i < l.length
      · have h0 := hld i hlt
        have hnc := hn _ (getD_mem (d := c0) hlt)
        have htk := take_snoc c0 l i hlt
        have t1 := htA i
        have s1 := tot_snoc (fun _ => True) (l.take i) (l.getD i c0)
        rw [← htk] at s1
        generalize l.getD i c0 = c5 at *
        obtain ⟨id, n⟩ := c5
        simp only [C.cells, if_true] at h0 s1 hnc
        generalize tot (fun _ => True) (l.take i) = T1 at *
        clear hld hn hn0 htA htk hrow hcell hcs2
        repeat' first | simp (disch := first | with_reducible assumption | omega) only [go_sem, Bool.true_and, Bool.and_true, Bool.and_self, Bool.false_and, Bool.and_false, Bool.true_or, Bool.or_true, Bool.false_or, Bool.or_false, ↓reduceIte, Nat.reduceEqDiff, Nat.reduceAdd, Nat.reduceMul, Nat.reduceSub, Nat.reduceBEq, Nat.reduceLeDiff, Nat.reduceLT, Nat.reduceMod, Nat.reduceDiv, Int.reduceToNat, Int.reducePow, Int.reduceMul, Int.reduceAdd, Int.reduceSub, Int.reduceLE, Int.reduceLT, Int.reduceNeg, Int.reduceDiv, Int.reduceMod, Int.reduceEq, Int.reduceBEq, Int.reduceBNe, f4, f4b, f4r0, f4r1, f4r2, f4r3, f4r4, f4r5, f4r6, f4r7, f4r8, f4r9, f4r10, f4r11, f4r13, f4r14, f4r15, f4r16, f4r17, f4r18, f4r19, f4r20, f4r21, f4r23, f4r24, f4r25, f4r27, f4l0, hk, get_old hk, ↓h0] | (refine BrW.of (fun hb => ?_) (fun hb => ?_) <;> (have hb' := hb; try simp only [decide_eq_true_eq, decide_eq_false_iff_not, beq_iff_eq, bne_iff_ne, beq_eq_false_iff_ne, bne_eq_false_iff_eq, Bool.not_eq_true', Bool.not_eq_false', Bool.not_eq_true, Bool.not_eq_false, Bool.and_eq_true, Bool.or_eq_true, Bool.and_eq_false_iff, Bool.or_eq_false_iff, Int.not_lt, Int.not_le, ne_eq, gt_iff_lt, ge_iff_le] at hb') <;> (try (exfalso; omega)))
        refine RdW.keep [0, 1, 7, 9, 38, 39, 40] (l.length - (i + 1)) (by omega) ?_
        simp (disch := first | with_reducible assumption | omega) only [go_sem, Bool.true_and, Bool.and_true, Bool.and_self, Bool.false_and, Bool.and_false, Bool.true_or, Bool.or_true, Bool.false_or, Bool.or_false, ↓reduceIte, Nat.reduceEqDiff, Nat.reduceAdd, Nat.reduceMul, Nat.reduceSub, Nat.reduceBEq, Nat.reduceLeDiff, Nat.reduceLT, Nat.reduceMod, Nat.reduceDiv, Int.reduceToNat, Int.reducePow, Int.reduceMul, Int.reduceAdd, Int.reduceSub, Int.reduceLE, Int.reduceLT, Int.reduceNeg, Int.reduceDiv, Int.reduceMod, Int.reduceEq, Int.reduceBEq, Int.reduceBNe]
        exact ⟨i + 1, _, by rw [s1]; rfl, rfl, by omega, rfl⟩
      · obtain rfl : i = l.length := by omega
        rw [List.take_length]
        clear hld hn hn0 htA
        generalize tot (fun _ => True) l = A at *
        repeat' first | simp (disch := first | with_reducible assumption | omega) only [go_sem, Bool.true_and, Bool.and_true, Bool.and_self, Bool.false_and, Bool.and_false, Bool.true_or, Bool.or_true, Bool.false_or, Bool.or_false, ↓reduceIte, Nat.reduceEqDiff, Nat.reduceAdd, Nat.reduceMul, Nat.reduceSub, Nat.reduceBEq, Nat.reduceLeDiff, Nat.reduceLT, Nat.reduceMod, Nat.reduceDiv, Int.reduceToNat, Int.reducePow, Int.reduceMul, Int.reduceAdd, Int.reduceSub, Int.reduceLE, Int.reduceLT, Int.reduceNeg, Int.reduceDiv, Int.reduceMod, Int.reduceEq, Int.reduceBEq, Int.reduceBNe, f4, f4b, f4r0, f4r1, f4r2, f4r3, f4r4, f4r5, f4r6, f4r7, f4r8, f4r9, f4r10, f4r11, f4r13, f4r14, f4r15, f4r16, f4r17, f4r18, f4r19, f4r20, f4r21, f4r23, f4r24, f4r25, f4r27, f4l0, f4, f4b, f4r0, f4r1, f4r2, f4r3, f4r4, f4r5, f4r6, f4r7, f4r8, f4r9, f4r10, f4r11, f4r13, f4r14, f4r15, f4r16, f4r17, f4r18, f4r19, f4r20, f4r21, f4r23, f4r24, f4r25, f4r27] | (refine BrW.of (fun hb => ?_) (fun hb => ?_) <;> (have hb' := hb; try simp only [decide_eq_true_eq, decide_eq_false_iff_not, beq_iff_eq, bne_iff_ne, beq_eq_false_iff_ne, bne_eq_false_iff_eq, Bool.not_eq_true', Bool.not_eq_false', Bool.not_eq_true, Bool.not_eq_false, Bool.and_eq_true, Bool.or_eq_true, Bool.and_eq_false_iff, Bool.or_eq_false_iff, Int.not_lt, Int.not_le, ne_eq, gt_iff_lt, ge_iff_le] at hb') <;> (try (exfalso; omega)))
        refine loopW.of (by decide) (fun m e J => ∃ (r : Nat) (y : Heap), e = [(1, .int .i64 W), (7, .pointer (some ⟨P, 0, some 1⟩)), (9, .int .i64 A), (49, .int .i64 R), (50, .int .i64 r)] ∧ J = G ++ y ∧ r ≤ R ∧ m = R - r) R ⟨0, y, rfl, rfl, by omega, rfl⟩ ?_
        rintro m e J ⟨r, y, rfl, rfl, hrR, rfl⟩
        by_cases hltr : r < R
        · have hr0 := hrow r hltr
          have q1 : (r : Int) * (W : Int) = ((r * W : Nat) : Int) := by simp
          have q2 : ((r : Int) + 1) * (W : Int) = (((r + 1) * W : Nat) : Int) := by simp
          have q3 : (r + 1) * W ≤ T := by rw [← hT2]; exact Nat.mul_le_mul_right _ hltr
          have q4 : (r + 1) * W = r * W + W := by rw [Nat.succ_mul]
          have hget : ∀ p, p < W → ((L.drop (r * W)).take W).getD p 0 = L.getD (r * W + p) 0 := fun p hp => by
            rw [getD_take _ _ _ _ hp, getD_drop]
          have hlen : ((L.drop (r * W)).take W).length = W := by simp; omega
          have hcs3 : ∀ p, p < W → cs2[o + r * W + p]? = some (.int .i64 (((L.drop (r * W)).take W).getD p 0)) := fun p hp => by
            rw [hget p hp, ← hcs2 _ (by omega), Nat.add_assoc]
          have hin : ∀ x ∈ (L.drop (r * W)).take W, 0 ≤ x ∧ x ≤ 1099511627776 := fun x hx => by
            obtain ⟨p, hp, rfl⟩ := mem_getD (d := 0) hx
            rw [hlen] at hp
            rw [hget p hp]; exact hcell _
          generalize (L.drop (r * W)).take W = V at *
          generalize r * W = rw1 at *
          generalize (r + 1) * W = rw2 at *
          obtain rfl : rw2 = rw1 + W := q4
          have q5 : rw1 + W - rw1 = W := by omega
          clear hget hcs2 hcell hrow
          repeat' first | simp (disch := first | with_reducible assumption | omega) only [go_sem, Bool.true_and, Bool.and_true, Bool.and_self, Bool.false_and, Bool.and_false, Bool.true_or, Bool.or_true, Bool.false_or, Bool.or_false, ↓reduceIte, Nat.reduceEqDiff, Nat.reduceAdd, Nat.reduceMul, Nat.reduceSub, Nat.reduceBEq, Nat.reduceLeDiff, Nat.reduceLT, Nat.reduceMod, Nat.reduceDiv, Int.reduceToNat, Int.reducePow, Int.reduceMul, Int.reduceAdd, Int.reduceSub, Int.reduceLE, Int.reduceLT, Int.reduceNeg, Int.reduceDiv, Int.reduceMod, Int.reduceEq, Int.reduceBEq, Int.reduceBNe, f4, f4b, f4r0, f4r1, f4r2, f4r3, f4r4, f4r5, f4r6, f4r7, f4r8, f4r9, f4r10, f4r11, f4r13, f4r14, f4r15, f4r16, f4r17, f4r18, f4r19, f4r20, f4r21, f4r23, f4r24, f4r25, f4r27, f4l2, hbA, get_old hbA, hk2, get_old hk2, q1, q2, q5] | (refine BrW.of (fun hb => ?_) (fun hb => ?_) <;> (have hb' := hb; try simp only [decide_eq_true_eq, decide_eq_false_iff_not, beq_iff_eq, bne_iff_ne, beq_eq_false_iff_ne, bne_eq_false_iff_eq, Bool.not_eq_true', Bool.not_eq_false', Bool.not_eq_true, Bool.not_eq_false, Bool.and_eq_true, Bool.or_eq_true, Bool.and_eq_false_iff, Bool.or_eq_false_iff, Int.not_lt, Int.not_le, ne_eq, gt_iff_lt, ge_iff_le] at hb') <;> (try (exfalso; omega)))
          refine loopW.of (by decide) (fun m e J => ∃ p : Nat, e = [(1, .int .i64 W), (7, .pointer (some ⟨P, 0, some 1⟩)), (9, .int .i64 A), (13, .int .i64 (V.take p).sum), (49, .int .i64 R), (50, .int .i64 r), (62, slv kk (o + rw1) g W (cc - rw1)), (63, .int .i64 W), (64, .int .i64 p)] ∧ J = G ++ y ∧ p ≤ W ∧ m = W - p) W ⟨0, rfl, rfl, by omega, rfl⟩ ?_
          rintro m e J ⟨p, rfl, rfl, hp, rfl⟩
          by_cases hltp : p < W
          · have e5 := hcs3 p hltp
            have hst := sum_take' (L := V) p (by omega)
            have b1 := sum_le (B := 1099511627776) (L := V.take p) fun x hx => hin x (List.mem_of_mem_take hx)
            have b2 : (V.take p).length ≤ 64 := by simp; omega
            have b3 := hin _ (getD_mem (d := 0) (show p < V.length by omega))
            have b4 : 0 ≤ (V.take p).sum ∧ (V.take p).sum ≤ 70368744177664 := by omega
            clear hcs3 hin b1
            generalize (V.take p).sum = SS1 at *
            generalize V.getD p 0 = vv at *
            repeat' first | simp (disch := first | with_reducible assumption | omega) only [go_sem, Bool.true_and, Bool.and_true, Bool.and_self, Bool.false_and, Bool.and_false, Bool.true_or, Bool.or_true, Bool.false_or, Bool.or_false, ↓reduceIte, Nat.reduceEqDiff, Nat.reduceAdd, Nat.reduceMul, Nat.reduceSub, Nat.reduceBEq, Nat.reduceLeDiff, Nat.reduceLT, Nat.reduceMod, Nat.reduceDiv, Int.reduceToNat, Int.reducePow, Int.reduceMul, Int.reduceAdd, Int.reduceSub, Int.reduceLE, Int.reduceLT, Int.reduceNeg, Int.reduceDiv, Int.reduceMod, Int.reduceEq, Int.reduceBEq, Int.reduceBNe, f4, f4b, f4r0, f4r1, f4r2, f4r3, f4r4, f4r5, f4r6, f4r7, f4r8, f4r9, f4r10, f4r11, f4r13, f4r14, f4r15, f4r16, f4r17, f4r18, f4r19, f4r20, f4r21, f4r23, f4r24, f4r25, f4r27, f4l1, hk2, get_old hk2, e5] | (refine BrW.of (fun hb => ?_) (fun hb => ?_) <;> (have hb' := hb; try simp only [decide_eq_true_eq, decide_eq_false_iff_not, beq_iff_eq, bne_iff_ne, beq_eq_false_iff_ne, bne_eq_false_iff_eq, Bool.not_eq_true', Bool.not_eq_false', Bool.not_eq_true, Bool.not_eq_false, Bool.and_eq_true, Bool.or_eq_true, Bool.and_eq_false_iff, Bool.or_eq_false_iff, Int.not_lt, Int.not_le, ne_eq, gt_iff_lt, ge_iff_le] at hb') <;> (try (exfalso; omega)))
            refine RdW.keep [1, 7, 9, 13, 49, 50, 62, 63, 64] (W - (p + 1)) (by omega) ?_
            simp (disch := first | with_reducible assumption | omega) only [go_sem, Bool.true_and, Bool.and_true, Bool.and_self, Bool.false_and, Bool.and_false, Bool.true_or, Bool.or_true, Bool.false_or, Bool.or_false, ↓reduceIte, Nat.reduceEqDiff, Nat.reduceAdd, Nat.reduceMul, Nat.reduceSub, Nat.reduceBEq, Nat.reduceLeDiff, Nat.reduceLT, Nat.reduceMod, Nat.reduceDiv, Int.reduceToNat, Int.reducePow, Int.reduceMul, Int.reduceAdd, Int.reduceSub, Int.reduceLE, Int.reduceLT, Int.reduceNeg, Int.reduceDiv, Int.reduceMod, Int.reduceEq, Int.reduceBEq, Int.reduceBNe]
            exact ⟨p + 1, by rw [hst]; rfl, by omega, rfl⟩
          · obtain rfl : p = W := by omega
            have hVA : (V.take p).sum = A := by rw [List.take_of_length_le (by omega)]; exact hr0
            rw [hVA]
            have hne : (A != A) = false := by simp
            clear hcs3 hin hVA
            repeat' first | simp (disch := first | with_reducible assumption | omega) only [go_sem, Bool.true_and, Bool.and_true, Bool.and_self, Bool.false_and, Bool.and_false, Bool.true_or, Bool.or_true, Bool.false_or, Bool.or_false, ↓reduceIte, Nat.reduceEqDiff, Nat.reduceAdd, Nat.reduceMul, Nat.reduceSub, Nat.reduceBEq, Nat.reduceLeDiff, Nat.reduceLT, Nat.reduceMod, Nat.reduceDiv, Int.reduceToNat, Int.reducePow, Int.reduceMul, Int.reduceAdd, Int.reduceSub, Int.reduceLE, Int.reduceLT, Int.reduceNeg, Int.reduceDiv, Int.reduceMod, Int.reduceEq, Int.reduceBEq, Int.reduceBNe, f4, f4b, f4r0, f4r1, f4r2, f4r3, f4r4, f4r5, f4r6, f4r7, f4r8, f4r9, f4r10, f4r11, f4r13, f4r14, f4r15, f4r16, f4r17, f4r18, f4r19, f4r20, f4r21, f4r23, f4r24, f4r25, f4r27, f4l1, f4, f4b, f4r0, f4r1, f4r2, f4r3, f4r4, f4r5, f4r6, f4r7, f4r8, f4r9, f4r10, f4r11, f4r13, f4r14, f4r15, f4r16, f4r17, f4r18, f4r19, f4r20, f4r21, f4r23, f4r24, f4r25, f4r27, f4l2, hne] | (refine BrW.of (fun hb => ?_) (fun hb => ?_) <;> (have hb' := hb; try simp only [decide_eq_true_eq, decide_eq_false_iff_not, beq_iff_eq, bne_iff_ne, beq_eq_false_iff_ne, bne_eq_false_iff_eq, Bool.not_eq_true', Bool.not_eq_false', Bool.not_eq_true, Bool.not_eq_false, Bool.and_eq_true, Bool.or_eq_true, Bool.and_eq_false_iff, Bool.or_eq_false_iff, Int.not_lt, Int.not_le, ne_eq, gt_iff_lt, ge_iff_le] at hb') <;> (try (exfalso; omega)))
            refine RdW.keep [1, 7, 9, 49, 50] (R - (r + 1)) (by omega) ?_
            simp (disch := first | with_reducible assumption | omega) only [go_sem, Bool.true_and, Bool.and_true, Bool.and_self, Bool.false_and, Bool.and_false, Bool.true_or, Bool.or_true, Bool.false_or, Bool.or_false, ↓reduceIte, Nat.reduceEqDiff, Nat.reduceAdd, Nat.reduceMul, Nat.reduceSub, Nat.reduceBEq, Nat.reduceLeDiff, Nat.reduceLT, Nat.reduceMod, Nat.reduceDiv, Int.reduceToNat, Int.reducePow, Int.reduceMul, Int.reduceAdd, Int.reduceSub, Int.reduceLE, Int.reduceLT, Int.reduceNeg, Int.reduceDiv, Int.reduceMod, Int.reduceEq, Int.reduceBEq, Int.reduceBNe]
            exact ⟨r + 1, y, rfl, rfl, by omega, rfl⟩
        · obtain rfl : r = R := by omega
          repeat' first | simp (disch := first | with_reducible assumption | omega) only [go_sem, Bool.true_and, Bool.and_true, Bool.and_self, Bool.false_and, Bool.and_false, Bool.true_or, Bool.or_true, Bool.false_or, Bool.or_false, ↓reduceIte, Nat.reduceEqDiff, Nat.reduceAdd, Nat.reduceMul, Nat.reduceSub, Nat.reduceBEq, Nat.reduceLeDiff, Nat.reduceLT, Nat.reduceMod, Nat.reduceDiv, Int.reduceToNat, Int.reducePow, Int.reduceMul, Int.reduceAdd, Int.reduceSub, Int.reduceLE, Int.reduceLT, Int.reduceNeg, Int.reduceDiv, Int.reduceMod, Int.reduceEq, Int.reduceBEq, Int.reduceBNe, f4, f4b, f4r0, f4r1, f4r2, f4r3, f4r4, f4r5, f4r6, f4r7, f4r8, f4r9, f4r10, f4r11, f4r13, f4r14, f4r15, f4r16, f4r17, f4r18, f4r19, f4r20, f4r21, f4r23, f4r24, f4r25, f4r27, f4l2, f4, f4b, f4r0, f4r1, f4r2, f4r3, f4r4, f4r5, f4r6, f4r7, f4r8, f4r9, f4r10, f4r11, f4r13, f4r14, f4r15, f4r16, f4r17, f4r18, f4r19, f4r20, f4r21, f4r23, f4r24, f4r25, f4r27] | (refine BrW.of (fun hb => ?_) (fun hb => ?_) <;> (have hb' := hb; try simp only [decide_eq_true_eq, decide_eq_false_iff_not, beq_iff_eq, bne_iff_ne, beq_eq_false_iff_ne, bne_eq_false_iff_eq, Bool.not_eq_true', Bool.not_eq_false', Bool.not_eq_true, Bool.not_eq_false, Bool.and_eq_true, Bool.or_eq_true, Bool.and_eq_false_iff, Bool.or_eq_false_iff, Int.not_lt, Int.not_le, ne_eq, gt_iff_lt, ge_iff_le] at hb') <;> (try (exfalso; omega)))
          exact .here rfl
end Go.Proofs.Ytadogoahnpakbaa
