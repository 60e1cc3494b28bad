import Derived.Test.YtimmpjfbejojhaaTab
import Derived.Test.YtimmpjfbejojhaaPlain
import Derived.Test.YtimmpjfbejojhaaLib
set_option linter.unusedSimpArgs false
set_option linter.unusedVariables false
set_option maxHeartbeats 1000000
set_option maxRecDepth 20000
namespace Go.Proofs.Ytimmpjfbejojhaa
open Go Go.Am
attribute [local irreducible] opsW Ww loopW callW drawW outW outDW gW cW BrW bothW vW resW DropW RdW dcallW Later.run

/-- A slice of whole numbers, or none at all. -/
def IsI (H : Heap) (w : Value) (l : List Int) : Prop := (w = .slice none 0 0 ∧ l = []) ∨ ∃ k o g c, w = slv k o g l.length c ∧ Ints H k o g l ∧ l.length ≤ c
theorem IsI.app {H : Heap} {w : Value} {l : List Int} (h : IsI H w l) (X : Heap) : IsI (H ++ X) w l := by
  rcases h with h | ⟨k, o, g, c, h1, h2, h3⟩
  · exact .inl h
  · exact .inr ⟨k, o, g, c, h1, h2.app X, h3⟩
theorem IsI.le {H H' : Heap} {w : Value} {l : List Int} (h : IsI H w l) (hl : Le H H') : IsI H' w l := by
  obtain ⟨X, rfl⟩ := hl
  exact h.app X
def Q.val (q : Q) (w : Value) : Value := .agg #[w, .int .i64 q.mo, .int .i64 q.mb, .int .i64 q.dr]
def Q.cells (q : Q) (w : Value) : List Value := [w, .int .i64 q.mo, .int .i64 q.mb, .int .i64 q.dr]
def O.cells (o : O) : List Value := [.int .i64 o.k, .int .i64 o.n]
def O.val (o : O) : Value := .agg #[.int .i64 o.k, .int .i64 o.n]

theorem sum_take (l : List Int) (i : Nat) (h : i < l.length) : (l.take (i + 1)).sum = (l.take i).sum + l.getD i 0 := by
  rw [take_snoc 0 l i h]; simp
theorem take_bound {l : List Int} (h : ∀ x ∈ l, 1 ≤ x ∧ x ≤ 1500) (i : Nat) : 0 ≤ (l.take i).sum ∧ (l.take i).sum ≤ 1500 * l.length := by
  have := sum_bound (l.take i) fun x hx => h x (List.mem_of_mem_take hx)
  have h2 : (l.take i).length ≤ l.length := by simp; omega
  omega

theorem Sum_spec (l : List Int) (w : Value) (H : Heap) (hI : IsI H w l) (hl : l.length ≤ 400) (hb : ∀ x ∈ l, 1 ≤ x ∧ x ≤ 1500) : ACallK Try.prog 14 [w] H (fun v H' => v = .int .i64 l.sum ∧ H' = H) := by
  refine .walkW f14_ok (by simp; decide) (by decide) ?_
  rcases hI with ⟨rfl, rfl⟩ | ⟨k, o, g, c, rfl, hs, hc⟩
  · repeat' first | simp (disch := first | with_reducible assumption | omega) only [go_sem, Bool.true_and, Bool.and_true, Bool.and_self, Bool.false_and, Bool.and_false, Bool.true_or, Bool.or_true, Bool.false_or, Bool.or_false, ↓reduceIte, Nat.reduceEqDiff, Nat.reduceAdd, Nat.reduceMul, Nat.reduceSub, Nat.reduceBEq, Nat.reduceLeDiff, Nat.reduceLT, Nat.reduceMod, Nat.reduceDiv, Int.reduceToNat, Int.reducePow, Int.reduceMul, Int.reduceAdd, Int.reduceSub, Int.reduceLE, Int.reduceLT, Int.reduceNeg, Int.reduceDiv, Int.reduceMod, Int.reduceEq, Int.reduceBEq, Int.reduceBNe, f14, f14b, f14r0, f14r1, f14r2, f14r3, f14r4, f14r5, f14r6, f14r8] | (refine BrW.of (fun hb => ?_) (fun hb => ?_) <;> (have hb' := hb; try simp only [decide_eq_true_eq, decide_eq_false_iff_not, beq_iff_eq, bne_iff_ne, beq_eq_false_iff_ne, bne_eq_false_iff_eq, Bool.not_eq_true', Bool.not_eq_false', Bool.not_eq_true, Bool.not_eq_false, Bool.and_eq_true, Bool.or_eq_true, Bool.and_eq_false_iff, Bool.or_eq_false_iff, Int.not_lt, Int.not_le, ne_eq, gt_iff_lt, ge_iff_le] at hb') <;> (try (exfalso; omega)))
    refine loopW.of (by decide) (fun m e J => e = [(3, .int .i64 0), (6, .slice none 0 0), (7, .int .i64 0), (8, .int .i64 0)] ∧ J = H) 0 ⟨rfl, rfl⟩ ?_
    rintro m e J ⟨rfl, rfl⟩
    repeat' first | simp (disch := first | with_reducible assumption | omega) only [go_sem, Bool.true_and, Bool.and_true, Bool.and_self, Bool.false_and, Bool.and_false, Bool.true_or, Bool.or_true, Bool.false_or, Bool.or_false, ↓reduceIte, Nat.reduceEqDiff, Nat.reduceAdd, Nat.reduceMul, Nat.reduceSub, Nat.reduceBEq, Nat.reduceLeDiff, Nat.reduceLT, Nat.reduceMod, Nat.reduceDiv, Int.reduceToNat, Int.reducePow, Int.reduceMul, Int.reduceAdd, Int.reduceSub, Int.reduceLE, Int.reduceLT, Int.reduceNeg, Int.reduceDiv, Int.reduceMod, Int.reduceEq, Int.reduceBEq, Int.reduceBNe, f14, f14b, f14r0, f14r1, f14r2, f14r3, f14r4, f14r5, f14r6, f14r8, f14l0, f14, f14b, f14r0, f14r1, f14r2, f14r3, f14r4, f14r5, f14r6, f14r8] | (refine BrW.of (fun hb => ?_) (fun hb => ?_) <;> (have hb' := hb; try simp only [decide_eq_true_eq, decide_eq_false_iff_not, beq_iff_eq, bne_iff_ne, beq_eq_false_iff_ne, bne_eq_false_iff_eq, Bool.not_eq_true', Bool.not_eq_false', Bool.not_eq_true, Bool.not_eq_false, Bool.and_eq_true, Bool.or_eq_true, Bool.and_eq_false_iff, Bool.or_eq_false_iff, Int.not_lt, Int.not_le, ne_eq, gt_iff_lt, ge_iff_le] at hb') <;> (try (exfalso; omega)))
    exact .here ⟨rfl, rfl⟩
  · obtain ⟨ro, cs, hk, hcl, hcs⟩ := hs.cell
    repeat' first | simp (disch := first | with_reducible assumption | omega) only [go_sem, Bool.true_and, Bool.and_true, Bool.and_self, Bool.false_and, Bool.and_false, Bool.true_or, Bool.or_true, Bool.false_or, Bool.or_false, ↓reduceIte, Nat.reduceEqDiff, Nat.reduceAdd, Nat.reduceMul, Nat.reduceSub, Nat.reduceBEq, Nat.reduceLeDiff, Nat.reduceLT, Nat.reduceMod, Nat.reduceDiv, Int.reduceToNat, Int.reducePow, Int.reduceMul, Int.reduceAdd, Int.reduceSub, Int.reduceLE, Int.reduceLT, Int.reduceNeg, Int.reduceDiv, Int.reduceMod, Int.reduceEq, Int.reduceBEq, Int.reduceBNe, f14, f14b, f14r0, f14r1, f14r2, f14r3, f14r4, f14r5, f14r6, f14r8, hk] | (refine BrW.of (fun hb => ?_) (fun hb => ?_) <;> (have hb' := hb; try simp only [decide_eq_true_eq, decide_eq_false_iff_not, beq_iff_eq, bne_iff_ne, beq_eq_false_iff_ne, bne_eq_false_iff_eq, Bool.not_eq_true', Bool.not_eq_false', Bool.not_eq_true, Bool.not_eq_false, Bool.and_eq_true, Bool.or_eq_true, Bool.and_eq_false_iff, Bool.or_eq_false_iff, Int.not_lt, Int.not_le, ne_eq, gt_iff_lt, ge_iff_le] at hb') <;> (try (exfalso; omega)))
    refine loopW.of (by decide) (fun m e J => ∃ i : Nat, e = [(3, .int .i64 (l.take i).sum), (6, slv k o g l.length c), (7, .int .i64 l.length), (8, .int .i64 i)] ∧ J = H ∧ i ≤ l.length ∧ m = l.length - i) l.length ⟨0, rfl, rfl, by omega, rfl⟩ ?_
    rintro m e J ⟨i, rfl, rfl, hi, rfl⟩
    by_cases hlt : i < l.length
    · have e0 := hcs i hlt
      have hx := hb _ (getD_mem (d := 0) hlt)
      have hst := sum_take l i hlt
      have b1 := take_bound hb i
      generalize (l.take i).sum = S at *
      generalize l.getD i 0 = x at *
      clear hb hcs
      repeat' first | simp (disch := first | with_reducible assumption | omega) only [go_sem, Bool.true_and, Bool.and_true, Bool.and_self, Bool.false_and, Bool.and_false, Bool.true_or, Bool.or_true, Bool.false_or, Bool.or_false, ↓reduceIte, Nat.reduceEqDiff, Nat.reduceAdd, Nat.reduceMul, Nat.reduceSub, Nat.reduceBEq, Nat.reduceLeDiff, Nat.reduceLT, Nat.reduceMod, Nat.reduceDiv, Int.reduceToNat, Int.reducePow, Int.reduceMul, Int.reduceAdd, Int.reduceSub, Int.reduceLE, Int.reduceLT, Int.reduceNeg, Int.reduceDiv, Int.reduceMod, Int.reduceEq, Int.reduceBEq, Int.reduceBNe, f14, f14b, f14r0, f14r1, f14r2, f14r3, f14r4, f14r5, f14r6, f14r8, f14l0, hk, e0] | (refine BrW.of (fun hb => ?_) (fun hb => ?_) <;> (have hb' := hb; try simp only [decide_eq_true_eq, decide_eq_false_iff_not, beq_iff_eq, bne_iff_ne, beq_eq_false_iff_ne, bne_eq_false_iff_eq, Bool.not_eq_true', Bool.not_eq_false', Bool.not_eq_true, Bool.not_eq_false, Bool.and_eq_true, Bool.or_eq_true, Bool.and_eq_false_iff, Bool.or_eq_false_iff, Int.not_lt, Int.not_le, ne_eq, gt_iff_lt, ge_iff_le] at hb') <;> (try (exfalso; omega)))
      refine RdW.keep [3, 6, 7, 8] (l.length - (i + 1)) (by omega) ?_
      simp (disch := first | with_reducible assumption | omega) only [go_sem, Bool.true_and, Bool.and_true, Bool.and_self, Bool.false_and, Bool.and_false, Bool.true_or, Bool.or_true, Bool.false_or, Bool.or_false, ↓reduceIte, Nat.reduceEqDiff, Nat.reduceAdd, Nat.reduceMul, Nat.reduceSub, Nat.reduceBEq, Nat.reduceLeDiff, Nat.reduceLT, Nat.reduceMod, Nat.reduceDiv, Int.reduceToNat, Int.reducePow, Int.reduceMul, Int.reduceAdd, Int.reduceSub, Int.reduceLE, Int.reduceLT, Int.reduceNeg, Int.reduceDiv, Int.reduceMod, Int.reduceEq, Int.reduceBEq, Int.reduceBNe]
      exact ⟨i + 1, by rw [hst]; rfl, by omega, rfl⟩
    · obtain rfl : i = l.length := by omega
      rw [List.take_length]
      repeat' first | simp (disch := first | with_reducible assumption | omega) only [go_sem, Bool.true_and, Bool.and_true, Bool.and_self, Bool.false_and, Bool.and_false, Bool.true_or, Bool.or_true, Bool.false_or, Bool.or_false, ↓reduceIte, Nat.reduceEqDiff, Nat.reduceAdd, Nat.reduceMul, Nat.reduceSub, Nat.reduceBEq, Nat.reduceLeDiff, Nat.reduceLT, Nat.reduceMod, Nat.reduceDiv, Int.reduceToNat, Int.reducePow, Int.reduceMul, Int.reduceAdd, Int.reduceSub, Int.reduceLE, Int.reduceLT, Int.reduceNeg, Int.reduceDiv, Int.reduceMod, Int.reduceEq, Int.reduceBEq, Int.reduceBNe, f14, f14b, f14r0, f14r1, f14r2, f14r3, f14r4, f14r5, f14r6, f14r8, f14l0, f14, f14b, f14r0, f14r1, f14r2, f14r3, f14r4, f14r5, f14r6, f14r8] | (refine BrW.of (fun hb => ?_) (fun hb => ?_) <;> (have hb' := hb; try simp only [decide_eq_true_eq, decide_eq_false_iff_not, beq_iff_eq, bne_iff_ne, beq_eq_false_iff_ne, bne_eq_false_iff_eq, Bool.not_eq_true', Bool.not_eq_false', Bool.not_eq_true, Bool.not_eq_false, Bool.and_eq_true, Bool.or_eq_true, Bool.and_eq_false_iff, Bool.or_eq_false_iff, Int.not_lt, Int.not_le, ne_eq, gt_iff_lt, ge_iff_le] at hb') <;> (try (exfalso; omega)))
      exact .here ⟨rfl, rfl⟩

theorem not_right {l : List Int} {mo mb dr : Int} (h : ¬ (0 ≤ mo ∧ mo ≤ 400 ∧ 0 ≤ mb ∧ mb ≤ 1073741824 ∧ 0 ≤ dr ∧ dr ≤ 1099511627776 ∧ (l.length : Int) ≤ mo)) : decide (Q.right ⟨l, mo, mb, dr⟩) = false :=
  decide_eq_false fun hr => h ⟨hr.1, hr.2.1, hr.2.2.1, hr.2.2.2.1, hr.2.2.2.2.1, hr.2.2.2.2.2.1, hr.2.2.2.2.2.2.1⟩
theorem right_iff {l : List Int} {mo mb dr : Int} (h : 0 ≤ mo ∧ mo ≤ 400 ∧ 0 ≤ mb ∧ mb ≤ 1073741824 ∧ 0 ≤ dr ∧ dr ≤ 1099511627776 ∧ (l.length : Int) ≤ mo) (hx : ∀ x ∈ l, 1 ≤ x ∧ x ≤ 1500) : decide (Q.right ⟨l, mo, mb, dr⟩) = decide (l.sum ≤ mb) := by
  rw [Bool.eq_iff_iff]
  simp only [decide_eq_true_eq]
  exact ⟨fun hr => hr.2.2.2.2.2.2.2.2, fun hs => ⟨h.1, h.2.1, h.2.2.1, h.2.2.2.1, h.2.2.2.2.1, h.2.2.2.2.2.1, h.2.2.2.2.2.2, hx, hs⟩⟩
theorem Right_spec (q : Q) (w : Value) (H : Heap) (hI : IsI H w q.l) (hB : q.l.length ≤ 9223372036854775807) : ACallK Try.prog 11 [q.val w] H (fun v H' => v = .bool (decide q.right) ∧ H' = H) := by
  refine .walkW f11_ok (by simp; decide) (by decide) ?_
  obtain ⟨l, mo, mb, dr⟩ := q
  simp only at hI hB
  have hI0 := hI
  by_cases hr : 0 ≤ mo ∧ mo ≤ 400 ∧ 0 ≤ mb ∧ mb ≤ 1073741824 ∧ 0 ≤ dr ∧ dr ≤ 1099511627776 ∧ (l.length : Int) ≤ mo
  · have hs := fun H' hI' hb => Sum_spec l w H' hI' (by omega) hb
    rcases hI with ⟨rfl, rfl⟩ | ⟨k, o, g, c, rfl, hi, hc⟩
    · have hs0 := hs (H ++ [.cells 0 0 false [.slice none 0 0, .int .i64 mo, .int .i64 mb, .int .i64 dr]]) (hI0.app _) (by simp)
      have hR := right_iff hr (by simp)
      rw [hR]
      clear hs
      repeat' first | simp (disch := first | with_reducible assumption | omega) only [go_sem, Bool.true_and, Bool.and_true, Bool.and_self, Bool.false_and, Bool.and_false, Bool.true_or, Bool.or_true, Bool.false_or, Bool.or_false, ↓reduceIte, Nat.reduceEqDiff, Nat.reduceAdd, Nat.reduceMul, Nat.reduceSub, Nat.reduceBEq, Nat.reduceLeDiff, Nat.reduceLT, Nat.reduceMod, Nat.reduceDiv, Int.reduceToNat, Int.reducePow, Int.reduceMul, Int.reduceAdd, Int.reduceSub, Int.reduceLE, Int.reduceLT, Int.reduceNeg, Int.reduceDiv, Int.reduceMod, Int.reduceEq, Int.reduceBEq, Int.reduceBNe, f11, f11b, f11r0, f11r1, f11r2, f11r3, f11r4, f11r5, f11r6, f11r7, f11r8, f11r10, Q.val] | (refine BrW.of (fun hb => ?_) (fun hb => ?_) <;> (have hb' := hb; try simp only [decide_eq_true_eq, decide_eq_false_iff_not, beq_iff_eq, bne_iff_ne, beq_eq_false_iff_ne, bne_eq_false_iff_eq, Bool.not_eq_true', Bool.not_eq_false', Bool.not_eq_true, Bool.not_eq_false, Bool.and_eq_true, Bool.or_eq_true, Bool.and_eq_false_iff, Bool.or_eq_false_iff, Int.not_lt, Int.not_le, ne_eq, gt_iff_lt, ge_iff_le] at hb') <;> (try (exfalso; omega)))
      refine loopW.of (by decide) (fun m e J => e = [(1, .pointer (some ⟨H.length, 0, some 1⟩)), (42, .slice none 0 0), (43, .int .i64 0), (44, .int .i64 0)] ∧ J = H ++ [.cells 0 0 false [.slice none 0 0, .int .i64 mo, .int .i64 mb, .int .i64 dr]]) 0 ⟨rfl, rfl⟩ ?_
      rintro m e J ⟨rfl, rfl⟩
      repeat' first | simp (disch := first | with_reducible assumption | omega) only [go_sem, Bool.true_and, Bool.and_true, Bool.and_self, Bool.false_and, Bool.and_false, Bool.true_or, Bool.or_true, Bool.false_or, Bool.or_false, ↓reduceIte, Nat.reduceEqDiff, Nat.reduceAdd, Nat.reduceMul, Nat.reduceSub, Nat.reduceBEq, Nat.reduceLeDiff, Nat.reduceLT, Nat.reduceMod, Nat.reduceDiv, Int.reduceToNat, Int.reducePow, Int.reduceMul, Int.reduceAdd, Int.reduceSub, Int.reduceLE, Int.reduceLT, Int.reduceNeg, Int.reduceDiv, Int.reduceMod, Int.reduceEq, Int.reduceBEq, Int.reduceBNe, f11, f11b, f11r0, f11r1, f11r2, f11r3, f11r4, f11r5, f11r6, f11r7, f11r8, f11r10, f11l0, f11, f11b, f11r0, f11r1, f11r2, f11r3, f11r4, f11r5, f11r6, f11r7, f11r8, f11r10] | (refine BrW.of (fun hb => ?_) (fun hb => ?_) <;> (have hb' := hb; try simp only [decide_eq_true_eq, decide_eq_false_iff_not, beq_iff_eq, bne_iff_ne, beq_eq_false_iff_ne, bne_eq_false_iff_eq, Bool.not_eq_true', Bool.not_eq_false', Bool.not_eq_true, Bool.not_eq_false, Bool.and_eq_true, Bool.or_eq_true, Bool.and_eq_false_iff, Bool.or_eq_false_iff, Int.not_lt, Int.not_le, ne_eq, gt_iff_lt, ge_iff_le] at hb') <;> (try (exfalso; omega))) | (refine dcallW.of _ _ hs0 ?_)
      all_goals exact .back rfl ⟨rfl, rfl⟩
    · obtain ⟨ro, cs, hk, hcl, hcs⟩ := hi.cell
      repeat' first | simp (disch := first | with_reducible assumption | omega) only [go_sem, Bool.true_and, Bool.and_true, Bool.and_self, Bool.false_and, Bool.and_false, Bool.true_or, Bool.or_true, Bool.false_or, Bool.or_false, ↓reduceIte, Nat.reduceEqDiff, Nat.reduceAdd, Nat.reduceMul, Nat.reduceSub, Nat.reduceBEq, Nat.reduceLeDiff, Nat.reduceLT, Nat.reduceMod, Nat.reduceDiv, Int.reduceToNat, Int.reducePow, Int.reduceMul, Int.reduceAdd, Int.reduceSub, Int.reduceLE, Int.reduceLT, Int.reduceNeg, Int.reduceDiv, Int.reduceMod, Int.reduceEq, Int.reduceBEq, Int.reduceBNe, f11, f11b, f11r0, f11r1, f11r2, f11r3, f11r4, f11r5, f11r6, f11r7, f11r8, f11r10, Q.val, hk, get_old hk] | (refine BrW.of (fun hb => ?_) (fun hb => ?_) <;> (have hb' := hb; try simp only [decide_eq_true_eq, decide_eq_false_iff_not, beq_iff_eq, bne_iff_ne, beq_eq_false_iff_ne, bne_eq_false_iff_eq, Bool.not_eq_true', Bool.not_eq_false', Bool.not_eq_true, Bool.not_eq_false, Bool.and_eq_true, Bool.or_eq_true, Bool.and_eq_false_iff, Bool.or_eq_false_iff, Int.not_lt, Int.not_le, ne_eq, gt_iff_lt, ge_iff_le] at hb') <;> (try (exfalso; omega)))
      generalize hG : H ++ [AObj.cells 0 0 false [slv k o g l.length c, .int .i64 mo, .int .i64 mb, .int .i64 dr]] = G at *
      refine loopW.of (by decide) (fun m e J => ∃ i : Nat, e = [(1, .pointer (some ⟨H.length, 0, some 1⟩)), (42, slv k o g l.length c), (43, .int .i64 l.length), (44, .int .i64 i)] ∧ J = G ∧ i ≤ l.length ∧ m = l.length - i ∧ ∀ x ∈ l.take i, 1 ≤ x ∧ x ≤ 1500) l.length ⟨0, rfl, rfl, by omega, rfl, by simp⟩ ?_
      rintro m e J ⟨i, rfl, rfl, hi', rfl, hinv⟩
      subst hG
      by_cases hlt : i < l.length
      · have e0 := hcs i hlt
        have hm := getD_mem (d := 0) hlt
        have hst := take_snoc 0 l i hlt
        by_cases hx : 1 ≤ l.getD i 0 ∧ l.getD i 0 ≤ 1500
        · have hinv2 : ∀ x ∈ l.take (i + 1), 1 ≤ x ∧ x ≤ 1500 := fun x hx' => by
            rw [hst] at hx'
            rcases List.mem_append.1 hx' with h | h
            · exact hinv x h
            · rw [List.mem_singleton.1 h]; exact hx
          clear hm hst hinv hs hcs
          generalize l.getD i 0 = x at *
          repeat' first | simp (disch := first | with_reducible assumption | omega) only [go_sem, Bool.true_and, Bool.and_true, Bool.and_self, Bool.false_and, Bool.and_false, Bool.true_or, Bool.or_true, Bool.false_or, Bool.or_false, ↓reduceIte, Nat.reduceEqDiff, Nat.reduceAdd, Nat.reduceMul, Nat.reduceSub, Nat.reduceBEq, Nat.reduceLeDiff, Nat.reduceLT, Nat.reduceMod, Nat.reduceDiv, Int.reduceToNat, Int.reducePow, Int.reduceMul, Int.reduceAdd, Int.reduceSub, Int.reduceLE, Int.reduceLT, Int.reduceNeg, Int.reduceDiv, Int.reduceMod, Int.reduceEq, Int.reduceBEq, Int.reduceBNe, f11, f11b, f11r0, f11r1, f11r2, f11r3, f11r4, f11r5, f11r6, f11r7, f11r8, f11r10, f11l0, get_old hk, e0] | (refine BrW.of (fun hb => ?_) (fun hb => ?_) <;> (have hb' := hb; try simp only [decide_eq_true_eq, decide_eq_false_iff_not, beq_iff_eq, bne_iff_ne, beq_eq_false_iff_ne, bne_eq_false_iff_eq, Bool.not_eq_true', Bool.not_eq_false', Bool.not_eq_true, Bool.not_eq_false, Bool.and_eq_true, Bool.or_eq_true, Bool.and_eq_false_iff, Bool.or_eq_false_iff, Int.not_lt, Int.not_le, ne_eq, gt_iff_lt, ge_iff_le] at hb') <;> (try (exfalso; omega)))
          refine RdW.keep [1, 42, 43, 44] (l.length - (i + 1)) (by omega) ?_
          simp (disch := first | with_reducible assumption | omega) only [go_sem, Bool.true_and, Bool.and_true, Bool.and_self, Bool.false_and, Bool.and_false, Bool.true_or, Bool.or_true, Bool.false_or, Bool.or_false, ↓reduceIte, Nat.reduceEqDiff, Nat.reduceAdd, Nat.reduceMul, Nat.reduceSub, Nat.reduceBEq, Nat.reduceLeDiff, Nat.reduceLT, Nat.reduceMod, Nat.reduceDiv, Int.reduceToNat, Int.reducePow, Int.reduceMul, Int.reduceAdd, Int.reduceSub, Int.reduceLE, Int.reduceLT, Int.reduceNeg, Int.reduceDiv, Int.reduceMod, Int.reduceEq, Int.reduceBEq, Int.reduceBNe]
          exact ⟨i + 1, rfl, by omega, rfl, hinv2⟩
        · have hf : decide (Q.right ⟨l, mo, mb, dr⟩) = false := decide_eq_false fun hr => hx (hr.2.2.2.2.2.2.2.1 _ hm)
          rw [hf]
          clear hm hst hinv hs hcs hf
          generalize l.getD i 0 = x at *
          repeat' first | simp (disch := first | with_reducible assumption | omega) only [go_sem, Bool.true_and, Bool.and_true, Bool.and_self, Bool.false_and, Bool.and_false, Bool.true_or, Bool.or_true, Bool.false_or, Bool.or_false, ↓reduceIte, Nat.reduceEqDiff, Nat.reduceAdd, Nat.reduceMul, Nat.reduceSub, Nat.reduceBEq, Nat.reduceLeDiff, Nat.reduceLT, Nat.reduceMod, Nat.reduceDiv, Int.reduceToNat, Int.reducePow, Int.reduceMul, Int.reduceAdd, Int.reduceSub, Int.reduceLE, Int.reduceLT, Int.reduceNeg, Int.reduceDiv, Int.reduceMod, Int.reduceEq, Int.reduceBEq, Int.reduceBNe, f11, f11b, f11r0, f11r1, f11r2, f11r3, f11r4, f11r5, f11r6, f11r7, f11r8, f11r10, f11l0, f11, f11b, f11r0, f11r1, f11r2, f11r3, f11r4, f11r5, f11r6, f11r7, f11r8, f11r10, get_old hk, e0] | (refine BrW.of (fun hb => ?_) (fun hb => ?_) <;> (have hb' := hb; try simp only [decide_eq_true_eq, decide_eq_false_iff_not, beq_iff_eq, bne_iff_ne, beq_eq_false_iff_ne, bne_eq_false_iff_eq, Bool.not_eq_true', Bool.not_eq_false', Bool.not_eq_true, Bool.not_eq_false, Bool.and_eq_true, Bool.or_eq_true, Bool.and_eq_false_iff, Bool.or_eq_false_iff, Int.not_lt, Int.not_le, ne_eq, gt_iff_lt, ge_iff_le] at hb') <;> (try (exfalso; omega)))
          all_goals exact .back rfl ⟨rfl, rfl⟩
      · obtain rfl : i = l.length := by omega
        rw [List.take_length] at hinv
        have hs0 := hs (H ++ [AObj.cells 0 0 false [slv k o g l.length c, .int .i64 mo, .int .i64 mb, .int .i64 dr]]) (hI0.app _) hinv
        rw [right_iff hr hinv]
        clear hs hcs hinv
        generalize l.sum = S at *
        repeat' first | simp (disch := first | with_reducible assumption | omega) only [go_sem, Bool.true_and, Bool.and_true, Bool.and_self, Bool.false_and, Bool.and_false, Bool.true_or, Bool.or_true, Bool.false_or, Bool.or_false, ↓reduceIte, Nat.reduceEqDiff, Nat.reduceAdd, Nat.reduceMul, Nat.reduceSub, Nat.reduceBEq, Nat.reduceLeDiff, Nat.reduceLT, Nat.reduceMod, Nat.reduceDiv, Int.reduceToNat, Int.reducePow, Int.reduceMul, Int.reduceAdd, Int.reduceSub, Int.reduceLE, Int.reduceLT, Int.reduceNeg, Int.reduceDiv, Int.reduceMod, Int.reduceEq, Int.reduceBEq, Int.reduceBNe, f11, f11b, f11r0, f11r1, f11r2, f11r3, f11r4, f11r5, f11r6, f11r7, f11r8, f11r10, f11l0, f11, f11b, f11r0, f11r1, f11r2, f11r3, f11r4, f11r5, f11r6, f11r7, f11r8, f11r10] | (refine BrW.of (fun hb => ?_) (fun hb => ?_) <;> (have hb' := hb; try simp only [decide_eq_true_eq, decide_eq_false_iff_not, beq_iff_eq, bne_iff_ne, beq_eq_false_iff_ne, bne_eq_false_iff_eq, Bool.not_eq_true', Bool.not_eq_false', Bool.not_eq_true, Bool.not_eq_false, Bool.and_eq_true, Bool.or_eq_true, Bool.and_eq_false_iff, Bool.or_eq_false_iff, Int.not_lt, Int.not_le, ne_eq, gt_iff_lt, ge_iff_le] at hb') <;> (try (exfalso; omega))) | (refine dcallW.of _ _ hs0 ?_)
        all_goals exact .back rfl ⟨rfl, rfl⟩
  · rw [not_right hr]
    rcases hI with ⟨rfl, rfl⟩ | ⟨k, o, g, c, rfl, hi, hc⟩
    · rw [show ((List.length ([] : List Int) : Nat) : Int) = 0 from rfl] at hr
      repeat' first | simp (disch := first | with_reducible assumption | omega) only [go_sem, Bool.true_and, Bool.and_true, Bool.and_self, Bool.false_and, Bool.and_false, Bool.true_or, Bool.or_true, Bool.false_or, Bool.or_false, ↓reduceIte, Nat.reduceEqDiff, Nat.reduceAdd, Nat.reduceMul, Nat.reduceSub, Nat.reduceBEq, Nat.reduceLeDiff, Nat.reduceLT, Nat.reduceMod, Nat.reduceDiv, Int.reduceToNat, Int.reducePow, Int.reduceMul, Int.reduceAdd, Int.reduceSub, Int.reduceLE, Int.reduceLT, Int.reduceNeg, Int.reduceDiv, Int.reduceMod, Int.reduceEq, Int.reduceBEq, Int.reduceBNe, f11, f11b, f11r0, f11r1, f11r2, f11r3, f11r4, f11r5, f11r6, f11r7, f11r8, f11r10, Q.val] | (refine BrW.of (fun hb => ?_) (fun hb => ?_) <;> (have hb' := hb; try simp only [decide_eq_true_eq, decide_eq_false_iff_not, beq_iff_eq, bne_iff_ne, beq_eq_false_iff_ne, bne_eq_false_iff_eq, Bool.not_eq_true', Bool.not_eq_false', Bool.not_eq_true, Bool.not_eq_false, Bool.and_eq_true, Bool.or_eq_true, Bool.and_eq_false_iff, Bool.or_eq_false_iff, Int.not_lt, Int.not_le, ne_eq, gt_iff_lt, ge_iff_le] at hb') <;> (try (exfalso; omega)))
      all_goals exact .back rfl ⟨rfl, rfl⟩
    · obtain ⟨ro, cs, hk, hcl, hcs⟩ := hi.cell
      repeat' first | simp (disch := first | with_reducible assumption | omega) only [go_sem, Bool.true_and, Bool.and_true, Bool.and_self, Bool.false_and, Bool.and_false, Bool.true_or, Bool.or_true, Bool.false_or, Bool.or_false, ↓reduceIte, Nat.reduceEqDiff, Nat.reduceAdd, Nat.reduceMul, Nat.reduceSub, Nat.reduceBEq, Nat.reduceLeDiff, Nat.reduceLT, Nat.reduceMod, Nat.reduceDiv, Int.reduceToNat, Int.reducePow, Int.reduceMul, Int.reduceAdd, Int.reduceSub, Int.reduceLE, Int.reduceLT, Int.reduceNeg, Int.reduceDiv, Int.reduceMod, Int.reduceEq, Int.reduceBEq, Int.reduceBNe, f11, f11b, f11r0, f11r1, f11r2, f11r3, f11r4, f11r5, f11r6, f11r7, f11r8, f11r10, Q.val, hk, get_old hk] | (refine BrW.of (fun hb => ?_) (fun hb => ?_) <;> (have hb' := hb; try simp only [decide_eq_true_eq, decide_eq_false_iff_not, beq_iff_eq, bne_iff_ne, beq_eq_false_iff_ne, bne_eq_false_iff_eq, Bool.not_eq_true', Bool.not_eq_false', Bool.not_eq_true, Bool.not_eq_false, Bool.and_eq_true, Bool.or_eq_true, Bool.and_eq_false_iff, Bool.or_eq_false_iff, Int.not_lt, Int.not_le, ne_eq, gt_iff_lt, ge_iff_le] at hb') <;> (try (exfalso; omega)))
      all_goals exact .back rfl ⟨rfl, rfl⟩
end Go.Proofs.Ytimmpjfbejojhaa
