import Derived.Test.YtdkccpppflnmpaaSteps3
import Derived.Test.YtdkccpppflnmpaaBase
set_option linter.unusedSimpArgs false
set_option linter.unusedVariables false
set_option maxHeartbeats 4000000
set_option maxRecDepth 20000
namespace Go.Proofs.Ytdkccpppflnmpaa
open Go Go.Am
attribute [local irreducible] opsW Ww loopW callW drawW outW outDW gW cW BrW bothW vW resW DropW RdW dcallW altW forkW splitW Later.run

theorem u8_range {n : Int} (h : IntKind.u8.min ≤ n ∧ n ≤ IntKind.u8.max) : 0 ≤ n ∧ n ≤ 255 := h
theorem Hd.of {B : Nat} {H : Heap} {v : Value} (h : ArgOk B H (true, [.int .u8, .int .u8, .int .u8, .int .u8, .int .u8, .int .u8, .int .u8, .int .u8, .int .i64, .int .i64, .int .i64, .int .i64, .int .i64]) v) : ∃ r : Hd, v = r.val ∧ r.ok := by
  obtain ⟨_, rfl, hr⟩ := h.agg
  obtain ⟨_, _, rfl, c0, hr⟩ := hr.cons_inv
  obtain ⟨_, _, rfl, c1, hr⟩ := hr.cons_inv
  obtain ⟨_, _, rfl, c2, hr⟩ := hr.cons_inv
  obtain ⟨_, _, rfl, c3, hr⟩ := hr.cons_inv
  obtain ⟨_, _, rfl, c4, hr⟩ := hr.cons_inv
  obtain ⟨_, _, rfl, c5, hr⟩ := hr.cons_inv
  obtain ⟨_, _, rfl, c6, hr⟩ := hr.cons_inv
  obtain ⟨_, _, rfl, c7, hr⟩ := hr.cons_inv
  obtain ⟨_, _, rfl, c8, hr⟩ := hr.cons_inv
  obtain ⟨_, _, rfl, c9, hr⟩ := hr.cons_inv
  obtain ⟨_, _, rfl, c10, hr⟩ := hr.cons_inv
  obtain ⟨_, _, rfl, c11, hr⟩ := hr.cons_inv
  obtain ⟨_, _, rfl, c12, hr⟩ := hr.cons_inv
  obtain rfl := hr.nil_inv
  obtain ⟨n0, rfl, h0⟩ := c0.int_inv
  obtain ⟨n1, rfl, h1⟩ := c1.int_inv
  obtain ⟨n2, rfl, h2⟩ := c2.int_inv
  obtain ⟨n3, rfl, h3⟩ := c3.int_inv
  obtain ⟨n4, rfl, h4⟩ := c4.int_inv
  obtain ⟨n5, rfl, h5⟩ := c5.int_inv
  obtain ⟨n6, rfl, h6⟩ := c6.int_inv
  obtain ⟨n7, rfl, h7⟩ := c7.int_inv
  obtain ⟨n8, rfl, _⟩ := c8.int_inv
  obtain ⟨n9, rfl, _⟩ := c9.int_inv
  obtain ⟨n10, rfl, _⟩ := c10.int_inv
  obtain ⟨n11, rfl, _⟩ := c11.int_inv
  obtain ⟨n12, rfl, _⟩ := c12.int_inv
  exact ⟨⟨n0, n1, n2, n3, n4, n5, n6, n7, n8, n9, n10, n11, n12⟩, rfl, u8_range h0, u8_range h1, u8_range h2, u8_range h3, u8_range h4, u8_range h5, u8_range h6, u8_range h7⟩
theorem same13 (h : Hd) : sameS [false, false, false, false, false, false, false, false, false, false, false, false, false] h.cells h.cells = some true := by simp [sameS]
theorem same13n (h : Hd) : sameS [false, false, false, false, false, false, false, false, false, false, false, false, false] [.int .u8 h.s0, .int .u8 h.s1, .int .u8 h.s2, .int .u8 h.s3, .int .u8 h.d0, .int .u8 h.d1, .int .u8 h.d2, .int .u8 h.d3, .int .i64 h.proto, .int .i64 h.sp, .int .i64 h.dp, .int .i64 h.len, .int .i64 h.mark] [.int .u8 h.s0, .int .u8 h.s1, .int .u8 h.s2, .int .u8 h.s3, .int .u8 h.d0, .int .u8 h.d1, .int .u8 h.d2, .int .u8 h.d3, .int .i64 h.proto, .int .i64 h.sp, .int .i64 h.dp, .int .i64 h.len, .int .i64 h.mark] = some true := same13 h

theorem HeadBack_args (H : Heap) (vals : List Value) (h : ArgsOk maxLen H HeadBackSh vals) : ACallK Try.prog 3 vals H fun v _ => v = .bool true := by
  obtain ⟨_, _, rfl, a1, h⟩ := h.cons
  obtain rfl := h.nil
  obtain ⟨q, rfl, ho⟩ := Hd.of a1
  clear a1
  have hWr := fun H => Write_spec q H ho
  have hW := fun H => Wrong_spec q H
  have e1 := same13n q
  refine .walkW f3_ok (by simp; decide) (by decide) ?_
  repeat' first | simp (disch := first | with_reducible assumption | omega) only [go_sem, Bool.true_and, Bool.and_true, Bool.and_self, Bool.false_and, Bool.and_false, Bool.true_or, Bool.or_true, Bool.false_or, Bool.or_false, ↓reduceIte, Nat.reduceEqDiff, Nat.reduceAdd, Nat.reduceMul, Nat.reduceSub, Nat.reduceBEq, Nat.reduceLeDiff, Nat.reduceLT, Nat.reduceMod, Nat.reduceDiv, Int.reduceToNat, Int.reducePow, Int.reduceMul, Int.reduceAdd, Int.reduceSub, Int.reduceLE, Int.reduceLT, Int.reduceNeg, Int.reduceDiv, Int.reduceMod, Int.reduceEq, Int.reduceBEq, Int.reduceBNe, f3, f3b, f3r0, f3r1, f3r2, f3r3, f3r4, f3r5, f3r6, f3r7] | (refine BrW.of (fun hb => ?_) (fun hb => ?_) <;> (have hb' := hb; try simp only [decide_eq_true_eq, decide_eq_false_iff_not, beq_iff_eq, bne_iff_ne, beq_eq_false_iff_ne, bne_eq_false_iff_eq, Bool.not_eq_true', Bool.not_eq_false', Bool.not_eq_true, Bool.not_eq_false, Bool.and_eq_true, Bool.or_eq_true, Bool.and_eq_false_iff, Bool.or_eq_false_iff, Int.not_lt, Int.not_le, ne_eq, gt_iff_lt, ge_iff_le] at hb') <;> (try (exfalso; omega))) | (refine altW.of ?_ ?_) | (refine .of ((alive _).mono ?_); rintro v H ⟨rfl, rfl⟩)
  refine .of ((hWr _).mono ?_)
  rintro v G ⟨hLe, hbad, hgood⟩
  have hb1 := hLe.get (get_new0 H (.cells 0 0 false q.cells) [])
  by_cases hw : wrongN q = 0
  · obtain ⟨x, y, rfl, rfl⟩ := hgood hw
    have hf := Hd.fine ho hw
    have hlen := bytesH_len hf
    have f5 := hf.len
    obtain ⟨r1, r2⟩ := read_more hf []
    rw [List.append_nil] at r1 r2
    have hR := fun J hs => Read_spec (bytesH q) (H.length + 1 + 1) 0 0 q.len.toNat J (bytesH_byte hf) hs (by omega) (by omega)
    rw [r1, r2, hlen] at hR
    have hk : (H ++ [AObj.cells 0 0 false q.cells] ++ x :: .cells 0 1 false (bytes (bytesH q)) :: y)[H.length + 1 + 1]? = some (.cells 0 1 false (bytes (bytesH q))) := by
      rw [List.append_assoc, show H.length + 1 + 1 = H.length + 2 by omega, get_new]; rfl
    have hB := Bys.new _ _ 0 false _ hk
    have hl : (H ++ [AObj.cells 0 0 false q.cells]).length = H.length + 1 := by simp
    rw [hl] at *
    have hn : ((q.len.toNat : Nat) : Int) = q.len := by omega
    have hnn : (q.len == q.len) = true := by simp
    generalize H ++ [AObj.cells 0 0 false q.cells] ++ x :: .cells 0 1 false (bytes (bytesH q)) :: y = G at *
    clear hWr hW hbad hgood hLe ho hf
    repeat' first | simp (disch := first | with_reducible assumption | omega) only [go_sem, Bool.true_and, Bool.and_true, Bool.and_self, Bool.false_and, Bool.and_false, Bool.true_or, Bool.or_true, Bool.false_or, Bool.or_false, ↓reduceIte, Nat.reduceEqDiff, Nat.reduceAdd, Nat.reduceMul, Nat.reduceSub, Nat.reduceBEq, Nat.reduceLeDiff, Nat.reduceLT, Nat.reduceMod, Nat.reduceDiv, Int.reduceToNat, Int.reducePow, Int.reduceMul, Int.reduceAdd, Int.reduceSub, Int.reduceLE, Int.reduceLT, Int.reduceNeg, Int.reduceDiv, Int.reduceMod, Int.reduceEq, Int.reduceBEq, Int.reduceBNe, f3, f3b, f3r0, f3r1, f3r2, f3r3, f3r4, f3r5, f3r6, f3r7, hb1, get_old hb1, hk, get_old hk, hn, hnn, e1] | (refine BrW.of (fun hb => ?_) (fun hb => ?_) <;> (have hb' := hb; try simp only [decide_eq_true_eq, decide_eq_false_iff_not, beq_iff_eq, bne_iff_ne, beq_eq_false_iff_ne, bne_eq_false_iff_eq, Bool.not_eq_true', Bool.not_eq_false', Bool.not_eq_true, Bool.not_eq_false, Bool.and_eq_true, Bool.or_eq_true, Bool.and_eq_false_iff, Bool.or_eq_false_iff, Int.not_lt, Int.not_le, ne_eq, gt_iff_lt, ge_iff_le] at hb') <;> (try (exfalso; omega))) | (refine altW.of ?_ ?_) | (refine .of ((hR _ hB).mono ?_); rintro v _ ⟨rfl, rfl⟩)
    exact .here rfl
  · obtain rfl := hbad hw
    have hnn : (wrongN q == wrongN q) = true := by simp
    clear hbad hgood
    generalize wrongN q = e at *
    repeat' first | simp (disch := first | with_reducible assumption | omega) only [go_sem, Bool.true_and, Bool.and_true, Bool.and_self, Bool.false_and, Bool.and_false, Bool.true_or, Bool.or_true, Bool.false_or, Bool.or_false, ↓reduceIte, Nat.reduceEqDiff, Nat.reduceAdd, Nat.reduceMul, Nat.reduceSub, Nat.reduceBEq, Nat.reduceLeDiff, Nat.reduceLT, Nat.reduceMod, Nat.reduceDiv, Int.reduceToNat, Int.reducePow, Int.reduceMul, Int.reduceAdd, Int.reduceSub, Int.reduceLE, Int.reduceLT, Int.reduceNeg, Int.reduceDiv, Int.reduceMod, Int.reduceEq, Int.reduceBEq, Int.reduceBNe, f3, f3b, f3r0, f3r1, f3r2, f3r3, f3r4, f3r5, f3r6, f3r7, hb1, hnn] | (refine BrW.of (fun hb => ?_) (fun hb => ?_) <;> (have hb' := hb; try simp only [decide_eq_true_eq, decide_eq_false_iff_not, beq_iff_eq, bne_iff_ne, beq_eq_false_iff_ne, bne_eq_false_iff_eq, Bool.not_eq_true', Bool.not_eq_false', Bool.not_eq_true, Bool.not_eq_false, Bool.and_eq_true, Bool.or_eq_true, Bool.and_eq_false_iff, Bool.or_eq_false_iff, Int.not_lt, Int.not_le, ne_eq, gt_iff_lt, ge_iff_le] at hb') <;> (try (exfalso; omega))) | (refine altW.of ?_ ?_) | (refine .of ((hW _).mono ?_); rintro v _ ⟨rfl, rfl⟩)
    exact .here rfl
end Go.Proofs.Ytdkccpppflnmpaa
