import Derived.Test.YtlnocgfblheehaaAlive
import Derived.Test.YtlnocgfblheehaaBase
set_option linter.unusedSimpArgs false
set_option linter.unusedVariables false
set_option maxHeartbeats 2000000
set_option maxRecDepth 20000
namespace Go.Proofs.Ytlnocgfblheehaa
open Go Go.Am
attribute [local irreducible] opsW Ww loopW callW drawW outW outDW gW cW BrW bothW vW resW DropW RdW dcallW altW Later.run

theorem Nd.of {B : Nat} {H : Heap} (cs : List Value) (h : RowOk B H [.int .i64, .int .i64] cs) : ∃ s : Nd, cs = s.cells ∧ (-9223372036854775808 ≤ s.u ∧ s.u ≤ 9223372036854775807 ∧ -9223372036854775808 ≤ s.w ∧ s.w ≤ 9223372036854775807) := by
  obtain ⟨_, _, rfl, c0, h⟩ := h.cons_inv
  obtain ⟨_, _, rfl, c1, h⟩ := h.cons_inv
  obtain rfl := h.nil_inv
  obtain ⟨x0, rfl, h0⟩ := c0.int_inv
  obtain ⟨x1, rfl, h1⟩ := c1.int_inv
  exact ⟨⟨x0, x1⟩, rfl, h0.1, h0.2, h1.1, h1.2⟩
theorem nodes_of {H : Heap} {v : Value} (h : ArgOk maxLen H (false, [.slice [.int .i64, .int .i64]]) v) : ∃ k c, ∃ l : List Nd, v = slv k 0 0 l.length c ∧ l.length ≤ 9223372036854775807 ∧ l.length ≤ c ∧ Nodes H k 0 0 l := by
  obtain ⟨k, c, l, h1, h2, h3, h4, _⟩ := rows_of (α := Nd) (enc := Nd.cells) (ok := fun s => (-9223372036854775808 ≤ s.u ∧ s.u ≤ 9223372036854775807 ∧ -9223372036854775808 ≤ s.w ∧ s.w ≤ 9223372036854775807)) 2 (fun _ => rfl) n0 rfl (fun cs h => Nd.of cs h) h
  exact ⟨k, c, l, h1, Nat.le_trans h2 (by decide), h3, h4⟩
theorem int_of {B : Nat} {H : Heap} {v : Value} (h : ArgOk B H (false, [.int .i64]) v) : ∃ n : Int, v = .int .i64 n ∧ -9223372036854775808 ≤ n ∧ n ≤ 9223372036854775807 := by
  obtain ⟨n, rfl, h1⟩ := h.cell.int_inv
  exact ⟨n, rfl, h1.1, h1.2⟩
theorem TreePath_args (H : Heap) (vals : List Value) (h : ArgsOk maxLen H TreePathSh vals) : ACallK Try.prog 3 vals H fun v _ => v = .bool true := by
  obtain ⟨_, _, rfl, a1, h1⟩ := h.cons
  obtain ⟨_, _, rfl, a2, h2⟩ := h1.cons
  obtain rfl := h2.nil
  obtain ⟨k, c, l, rfl, hl, hlc, hO⟩ := nodes_of a1
  obtain ⟨q, rfl, hq⟩ := int_of a2
  clear a1 a2 h h1 h2
  obtain ⟨ro, cs, hk, hcl, hcs⟩ := hO.at'
  refine .walkW f3_ok (by simp; decide) (by decide) ?_
  repeat' first | simp (disch := first | with_reducible assumption | omega) only [go_sem, Bool.true_and, Bool.and_true, Bool.and_self, Bool.false_and, Bool.and_false, Bool.true_or, Bool.or_true, Bool.false_or, Bool.or_false, ↓reduceIte, Nat.reduceEqDiff, Nat.reduceAdd, Nat.reduceMul, Nat.reduceSub, Nat.reduceBEq, Nat.reduceLeDiff, Nat.reduceLT, Nat.reduceMod, Nat.reduceDiv, Int.reduceToNat, Int.reducePow, Int.reduceMul, Int.reduceAdd, Int.reduceSub, Int.reduceLE, Int.reduceLT, Int.reduceNeg, Int.reduceDiv, Int.reduceMod, Int.reduceEq, Int.reduceBEq, Int.reduceBNe, f3, f3b, f3r0, f3r1, f3r2, f3r3, f3r4, f3r5, f3r6, f3r7, f3r8, f3r9, f3r10, f3r12] | (refine BrW.of (fun hb => ?_) (fun hb => ?_) <;> (have hb' := hb; try simp only [decide_eq_true_eq, decide_eq_false_iff_not, beq_iff_eq, bne_iff_ne, beq_eq_false_iff_ne, bne_eq_false_iff_eq, Bool.not_eq_true', Bool.not_eq_false', Bool.not_eq_true, Bool.not_eq_false, Bool.and_eq_true, Bool.or_eq_true, Bool.and_eq_false_iff, Bool.or_eq_false_iff, Int.not_lt, Int.not_le, ne_eq, gt_iff_lt, ge_iff_le] at hb') <;> (try (exfalso; omega))) | (refine altW.of ?_ ?_) | (refine .of ((alive _).mono ?_); rintro v H ⟨rfl, rfl⟩)
  refine .of ((Path_at l k 0 0 c _ hO hl q hq).mono ?_)
  rintro v J ⟨X, u, e, rfl, rfl, he, hbad, hgood⟩
  have hkG := get_old hk X
  generalize H ++ X = G at *
  by_cases z : e = 0
  · subst z
    obtain ⟨hok, hin⟩ := he.1 rfl
    obtain ⟨kp, gp, rfl, hp⟩ := hgood rfl
    have hqn : q.toNat < l.length := by have := hin.1; have := hin.2; omega
    have hw := way_way hok hqn
    have hq0 : ((q.toNat : Nat) : Int) = q := by have := hin.1; omega
    have h16 := hok.2.1
    clear hbad hgood he
    generalize way l q.toNat = p at *
    have hpos := hw.pos
    have hle := hw.le
    have hfirst := hw.first
    have hlast := hw.last
    rw [hq0] at hlast
    repeat' first | simp (disch := first | with_reducible assumption | omega) only [go_sem, Bool.true_and, Bool.and_true, Bool.and_self, Bool.false_and, Bool.and_false, Bool.true_or, Bool.or_true, Bool.false_or, Bool.or_false, ↓reduceIte, Nat.reduceEqDiff, Nat.reduceAdd, Nat.reduceMul, Nat.reduceSub, Nat.reduceBEq, Nat.reduceLeDiff, Nat.reduceLT, Nat.reduceMod, Nat.reduceDiv, Int.reduceToNat, Int.reducePow, Int.reduceMul, Int.reduceAdd, Int.reduceSub, Int.reduceLE, Int.reduceLT, Int.reduceNeg, Int.reduceDiv, Int.reduceMod, Int.reduceEq, Int.reduceBEq, Int.reduceBNe, f3, f3b, f3r0, f3r1, f3r2, f3r3, f3r4, f3r5, f3r6, f3r7, f3r8, f3r9, f3r10, f3r12, hkG, hp] | (refine BrW.of (fun hb => ?_) (fun hb => ?_) <;> (have hb' := hb; try simp only [decide_eq_true_eq, decide_eq_false_iff_not, beq_iff_eq, bne_iff_ne, beq_eq_false_iff_ne, bne_eq_false_iff_eq, Bool.not_eq_true', Bool.not_eq_false', Bool.not_eq_true, Bool.not_eq_false, Bool.and_eq_true, Bool.or_eq_true, Bool.and_eq_false_iff, Bool.or_eq_false_iff, Int.not_lt, Int.not_le, ne_eq, gt_iff_lt, ge_iff_le] at hb') <;> (try (exfalso; omega))) | (refine altW.of ?_ ?_)
    refine loopW.of (by decide) (fun m e J => ∃ i : Nat, e = [(0, slv k 0 0 l.length c), (1, .int .i64 q), (5, slv kp 0 gp p.length p.length), (7, .int .i64 i)] ∧ J = G ∧ 1 ≤ i ∧ i ≤ p.length ∧ m = p.length - i) (p.length - 1) ⟨1, rfl, rfl, by omega, by omega, rfl⟩ ?_
    rintro m e J ⟨i, rfl, rfl, hi1, hi, rfl⟩
    by_cases hlt : i < p.length
    · obtain ⟨s1, s2, s3, s4⟩ := hw.step i hi1 hlt
      have y1 : (ints p)[i]? = some (.int .i64 (p.getD i 0)) := ints_get p i hlt
      have y2 : (ints p)[i - 1]? = some (.int .i64 (p.getD (i - 1) 0)) := ints_get p _ (by omega)
      have hi2 : ((i : Int) - 1).toNat = i - 1 := by omega
      have y3 : cs[0 + (p.getD i 0).toNat * 2]? = some (.int .i64 (up l (p.getD i 0).toNat)) := hcs _ (by omega) 0 (by omega)
      rw [Nat.zero_add, s3] at y3
      generalize p.getD i 0 = y at *
      generalize p.getD (i - 1) 0 = y' at *
      repeat' first | simp (disch := first | with_reducible assumption | omega) only [go_sem, Bool.true_and, Bool.and_true, Bool.and_self, Bool.false_and, Bool.and_false, Bool.true_or, Bool.or_true, Bool.false_or, Bool.or_false, ↓reduceIte, Nat.reduceEqDiff, Nat.reduceAdd, Nat.reduceMul, Nat.reduceSub, Nat.reduceBEq, Nat.reduceLeDiff, Nat.reduceLT, Nat.reduceMod, Nat.reduceDiv, Int.reduceToNat, Int.reducePow, Int.reduceMul, Int.reduceAdd, Int.reduceSub, Int.reduceLE, Int.reduceLT, Int.reduceNeg, Int.reduceDiv, Int.reduceMod, Int.reduceEq, Int.reduceBEq, Int.reduceBNe, f3, f3b, f3r0, f3r1, f3r2, f3r3, f3r4, f3r5, f3r6, f3r7, f3r8, f3r9, f3r10, f3r12, f3l0, hkG, hp, y1, y2, y3, hi2] | (refine BrW.of (fun hb => ?_) (fun hb => ?_) <;> (have hb' := hb; try simp only [decide_eq_true_eq, decide_eq_false_iff_not, beq_iff_eq, bne_iff_ne, beq_eq_false_iff_ne, bne_eq_false_iff_eq, Bool.not_eq_true', Bool.not_eq_false', Bool.not_eq_true, Bool.not_eq_false, Bool.and_eq_true, Bool.or_eq_true, Bool.and_eq_false_iff, Bool.or_eq_false_iff, Int.not_lt, Int.not_le, ne_eq, gt_iff_lt, ge_iff_le] at hb') <;> (try (exfalso; omega))) | (refine altW.of ?_ ?_)
      all_goals first | (exfalso; omega) | skip
      refine RdW.keep [0, 1, 5, 7] (p.length - (i + 1)) (by omega) ?_
      simp (disch := first | with_reducible assumption | omega) only [go_sem, Bool.true_and, Bool.and_true, Bool.and_self, Bool.false_and, Bool.and_false, Bool.true_or, Bool.or_true, Bool.false_or, Bool.or_false, ↓reduceIte, Nat.reduceEqDiff, Nat.reduceAdd, Nat.reduceMul, Nat.reduceSub, Nat.reduceBEq, Nat.reduceLeDiff, Nat.reduceLT, Nat.reduceMod, Nat.reduceDiv, Int.reduceToNat, Int.reducePow, Int.reduceMul, Int.reduceAdd, Int.reduceSub, Int.reduceLE, Int.reduceLT, Int.reduceNeg, Int.reduceDiv, Int.reduceMod, Int.reduceEq, Int.reduceBEq, Int.reduceBNe]
      exact ⟨i + 1, rfl, by omega, by omega, rfl⟩
    · obtain rfl : i = p.length := by omega
      have y1 : (ints p)[0]? = some (.int .i64 (p.getD 0 0)) := ints_get p 0 (by omega)
      have y2 : (ints p)[p.length - 1]? = some (.int .i64 (p.getD (p.length - 1) 0)) := ints_get p _ (by omega)
      rw [hfirst] at y1
      rw [hlast] at y2
      have hi2 : ((p.length : Int) - 1).toNat = p.length - 1 := by omega
      repeat' first | simp (disch := first | with_reducible assumption | omega) only [go_sem, Bool.true_and, Bool.and_true, Bool.and_self, Bool.false_and, Bool.and_false, Bool.true_or, Bool.or_true, Bool.false_or, Bool.or_false, ↓reduceIte, Nat.reduceEqDiff, Nat.reduceAdd, Nat.reduceMul, Nat.reduceSub, Nat.reduceBEq, Nat.reduceLeDiff, Nat.reduceLT, Nat.reduceMod, Nat.reduceDiv, Int.reduceToNat, Int.reducePow, Int.reduceMul, Int.reduceAdd, Int.reduceSub, Int.reduceLE, Int.reduceLT, Int.reduceNeg, Int.reduceDiv, Int.reduceMod, Int.reduceEq, Int.reduceBEq, Int.reduceBNe, f3, f3b, f3r0, f3r1, f3r2, f3r3, f3r4, f3r5, f3r6, f3r7, f3r8, f3r9, f3r10, f3r12, f3l0, f3, f3b, f3r0, f3r1, f3r2, f3r3, f3r4, f3r5, f3r6, f3r7, f3r8, f3r9, f3r10, f3r12, hkG, hp, y1, y2, hi2] | (refine BrW.of (fun hb => ?_) (fun hb => ?_) <;> (have hb' := hb; try simp only [decide_eq_true_eq, decide_eq_false_iff_not, beq_iff_eq, bne_iff_ne, beq_eq_false_iff_ne, bne_eq_false_iff_eq, Bool.not_eq_true', Bool.not_eq_false', Bool.not_eq_true, Bool.not_eq_false, Bool.and_eq_true, Bool.or_eq_true, Bool.and_eq_false_iff, Bool.or_eq_false_iff, Int.not_lt, Int.not_le, ne_eq, gt_iff_lt, ge_iff_le] at hb') <;> (try (exfalso; omega))) | (refine altW.of ?_ ?_)
      all_goals first | exact .here rfl | (refine .here ?_; simp; done) | (exfalso; omega)
  · obtain rfl := hbad z
    repeat' first | simp (disch := first | with_reducible assumption | omega) only [go_sem, Bool.true_and, Bool.and_true, Bool.and_self, Bool.false_and, Bool.and_false, Bool.true_or, Bool.or_true, Bool.false_or, Bool.or_false, ↓reduceIte, Nat.reduceEqDiff, Nat.reduceAdd, Nat.reduceMul, Nat.reduceSub, Nat.reduceBEq, Nat.reduceLeDiff, Nat.reduceLT, Nat.reduceMod, Nat.reduceDiv, Int.reduceToNat, Int.reducePow, Int.reduceMul, Int.reduceAdd, Int.reduceSub, Int.reduceLE, Int.reduceLT, Int.reduceNeg, Int.reduceDiv, Int.reduceMod, Int.reduceEq, Int.reduceBEq, Int.reduceBNe, f3, f3b, f3r0, f3r1, f3r2, f3r3, f3r4, f3r5, f3r6, f3r7, f3r8, f3r9, f3r10, f3r12] | (refine BrW.of (fun hb => ?_) (fun hb => ?_) <;> (have hb' := hb; try simp only [decide_eq_true_eq, decide_eq_false_iff_not, beq_iff_eq, bne_iff_ne, beq_eq_false_iff_ne, bne_eq_false_iff_eq, Bool.not_eq_true', Bool.not_eq_false', Bool.not_eq_true, Bool.not_eq_false, Bool.and_eq_true, Bool.or_eq_true, Bool.and_eq_false_iff, Bool.or_eq_false_iff, Int.not_lt, Int.not_le, ne_eq, gt_iff_lt, ge_iff_le] at hb') <;> (try (exfalso; omega))) | (refine altW.of ?_ ?_)
    all_goals first | exact .here rfl | (exfalso; omega)
theorem any_mem (l : List Int) (y : Int) : (l.any fun x => y == x) = decide (y ∈ l) := by
  rw [Bool.eq_iff_iff]
  simp only [List.any_eq_true, beq_iff_eq, decide_eq_true_eq]
  exact ⟨fun ⟨x, h1, h2⟩ => h2 ▸ h1, fun h => ⟨y, h, rfl⟩⟩
end Go.Proofs.Ytlnocgfblheehaa
