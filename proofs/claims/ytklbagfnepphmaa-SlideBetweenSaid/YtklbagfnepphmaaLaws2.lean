import Derived.Test.YtklbagfnepphmaaLaws
import Derived.Test.YtklbagfnepphmaaSteps4
set_option linter.unusedSimpArgs false
set_option linter.unusedVariables false
set_option maxHeartbeats 1000000
set_option maxRecDepth 20000
namespace Go.Proofs.Ytklbagfnepphmaa
open Go Go.Am
attribute [local irreducible] opsW Ww loopW callW drawW outW outDW gW cW BrW bothW vW resW DropW RdW dcallW Later.run

theorem Great_spec (x n : Int) (K : Nat) (H : Heap) (hk : H[K]? = some (.cells 0 0 false [.int .i64 n])) :
    ACallK Try.prog 13 (.int .i64 x :: [.pointer (some ⟨K, 0, some 1⟩)]) H (fun v H' => v = .bool (decide (n < x)) ∧ H' = H) := by
  refine .walkW f13_ok (by simp; decide) (by decide) ?_
  repeat' first | simp (disch := first | with_reducible assumption | omega) only [go_sem, Bool.true_and, Bool.and_true, Bool.and_self, Bool.false_and, Bool.and_false, Bool.true_or, Bool.or_true, Bool.false_or, Bool.or_false, ↓reduceIte, Nat.reduceEqDiff, Nat.reduceAdd, Nat.reduceMul, Nat.reduceSub, Nat.reduceBEq, Nat.reduceLeDiff, Nat.reduceLT, Nat.reduceMod, Nat.reduceDiv, Int.reduceToNat, Int.reducePow, Int.reduceMul, Int.reduceAdd, Int.reduceSub, Int.reduceLE, Int.reduceLT, Int.reduceNeg, Int.reduceDiv, Int.reduceMod, Int.reduceEq, Int.reduceBEq, Int.reduceBNe, f13, f13b, f13r0, f13r1, hk] | (refine BrW.of (fun hb => ?_) (fun hb => ?_) <;> (have hb' := hb; try simp only [decide_eq_true_eq, decide_eq_false_iff_not, beq_iff_eq, bne_iff_ne, beq_eq_false_iff_ne, bne_eq_false_iff_eq, Bool.not_eq_true', Bool.not_eq_false', Bool.not_eq_true, Bool.not_eq_false, Bool.and_eq_true, Bool.or_eq_true, Bool.and_eq_false_iff, Bool.or_eq_false_iff, Int.not_lt, Int.not_le, ne_eq, gt_iff_lt, ge_iff_le] at hb') <;> (try (exfalso; omega)))
  exact .here ⟨rfl, rfl⟩

/-- The window that ends at i. -/
def win (w : Nat) (l : List Int) (i : Nat) : List Int := (l.drop (i + 1 - w)).take (i + 1 - (i + 1 - w))
theorem win_len {w : Nat} {l : List Int} {i : Nat} (h : i < l.length) : (win w l i).length = i + 1 - (i + 1 - w) := by unfold win; simp; omega
theorem win_get {w : Nat} {l : List Int} {i j : Nat} (h : j < (win w l i).length) : (win w l i).getD j 0 = l.getD (i + 1 - w + j) 0 := by
  unfold win at h ⊢
  simp at h
  rw [getD_take 0 _ _ _ (by omega), getD_drop]
theorem win_le {w : Nat} {l : List Int} {i : Nat} {n : Int} (hi : i < l.length) (h : Most w l i n) : (win w l i).any (fun x => decide (n < x)) = false := by
  rw [List.any_eq_false]
  intro x hx
  obtain ⟨j, hj, rfl⟩ := mem_getD (d := 0) hx
  rw [win_get hj]
  rw [win_len hi] at hj
  have := h.all' (i + 1 - w + j) (by omega) (by omega)
  simp only [decide_eq_true_eq]; omega
theorem win_has {w : Nat} {l : List Int} {i : Nat} {n : Int} (hi : i < l.length) (h : Most w l i n) : (win w l i).any (fun x => n == x) = true := by
  rw [List.any_eq_true]
  obtain ⟨j, h1, h2, h3⟩ := h.some'
  have hj : j - (i + 1 - w) < (win w l i).length := by rw [win_len hi]; omega
  have := win_get hj
  rw [show i + 1 - w + (j - (i + 1 - w)) = j by omega, h3] at this
  refine ⟨n, ?_, by simp⟩
  rw [← this, List.getD_eq_getElem?_getD, List.getElem?_eq_getElem hj]
  exact List.getElem_mem hj

theorem Most_cases (w : Int) (l : List Int) (k o g c : Nat) (H : Heap) (hs : Ints H k o g l) (hl : l.length ≤ 9223372036854775807) :
    ACallK Try.prog 9 [.int .i64 w, slv k o g l.length c] H (fun v H' => (v = badV ∧ H' = H) ∨ ∃ g' o1 out, v = .tuple #[slv (H.length + 1) 0 g' l.length l.length, .int .i64 0] ∧ H' = H ++ [o1, .cells g' 1 false (ints out)] ∧ out.length = l.length ∧ ∀ i, i < l.length → Most w.toNat l i (out.getD i 0)) := by
  by_cases h : wrongL w l
  · exact (Most_bad w l k o g c H hs hl h).mono fun v H' h => .inl h
  · obtain ⟨h1, h2, h3⟩ := not_wrong h
    obtain ⟨w, rfl⟩ := Int.eq_ofNat_of_zero_le (show 0 ≤ w by omega)
    exact (Most_spec w l k o g c H hs (by omega) (by omega) h3).mono fun v H' h => .inr h

theorem SlideMost_args (H : Heap) (vals : List Value) (h : ArgsOk maxLen H SlideMostSh vals) : ACallK Try.prog 5 vals H fun v _ => v = .bool true := by
  obtain ⟨_, _, rfl, a1, h⟩ := h.cons
  obtain ⟨_, _, rfl, a2, h⟩ := h.cons
  obtain rfl := h.nil
  obtain ⟨W, rfl, hW⟩ := a1.cell.int_inv
  obtain ⟨k, c, l, rfl, hB, hlc, hs, hok⟩ := ints_of a2
  clear a1 a2 h
  have hB' : l.length ≤ 9223372036854775807 := hB
  refine .walkW f5_ok (by simp; decide) (by decide) ?_
  by_cases hw : wrongL W l
  · obtain ⟨ro, cs, hk, hcl, hcs⟩ := hs.cell
    repeat' first | simp (disch := first | with_reducible assumption | omega) only [go_sem, Bool.true_and, Bool.and_true, Bool.and_self, Bool.false_and, Bool.and_false, Bool.true_or, Bool.or_true, Bool.false_or, Bool.or_false, ↓reduceIte, Nat.reduceEqDiff, Nat.reduceAdd, Nat.reduceMul, Nat.reduceSub, Nat.reduceBEq, Nat.reduceLeDiff, Nat.reduceLT, Nat.reduceMod, Nat.reduceDiv, Int.reduceToNat, Int.reducePow, Int.reduceMul, Int.reduceAdd, Int.reduceSub, Int.reduceLE, Int.reduceLT, Int.reduceNeg, Int.reduceDiv, Int.reduceMod, Int.reduceEq, Int.reduceBEq, Int.reduceBNe, f5, f5b, f5r0, f5r1, f5r2, f5r3, f5r4, f5r5, f5r6, f5r7, f5r8, f5r9, f5r10, f5r11, f5r12, f5r13, f5r15, hk, get_old hk] | (refine BrW.of (fun hb => ?_) (fun hb => ?_) <;> (have hb' := hb; try simp only [decide_eq_true_eq, decide_eq_false_iff_not, beq_iff_eq, bne_iff_ne, beq_eq_false_iff_ne, bne_eq_false_iff_eq, Bool.not_eq_true', Bool.not_eq_false', Bool.not_eq_true, Bool.not_eq_false, Bool.and_eq_true, Bool.or_eq_true, Bool.and_eq_false_iff, Bool.or_eq_false_iff, Int.not_lt, Int.not_le, ne_eq, gt_iff_lt, ge_iff_le] at hb') <;> (try (exfalso; omega))) | (refine .of ((alive _).mono ?_); rintro v H ⟨rfl, rfl⟩) | (refine .of ((Most_bad W l k 0 0 c _ hs hB' hw).mono ?_); rintro v H ⟨rfl, rfl⟩) | (refine .of ((Most_any _ l k 0 0 c _ hs hB').mono ?_); rintro v _ ⟨x1, x2, rfl, X, rfl⟩)
    all_goals exact .here (by (first | with_reducible rfl | (congr 1; first | with_reducible rfl | omega | (rw [Bool.eq_iff_iff]; simp only [decide_eq_true_eq, decide_eq_false_iff_not, beq_iff_eq, bne_iff_ne, beq_eq_false_iff_ne, bne_eq_false_iff_eq, Bool.not_eq_true', Bool.not_eq_false', Bool.not_eq_true, Bool.not_eq_false, Bool.and_eq_true, Bool.or_eq_true, Bool.and_eq_false_iff, Bool.or_eq_false_iff, Int.not_lt, Int.not_le, ne_eq, gt_iff_lt, ge_iff_le, Bool.and_false, Bool.false_and, Bool.or_true, Bool.true_or, Bool.false_eq_true, true_iff, iff_true, false_iff, iff_false, eq_self, not_true_eq_false, not_false_eq_true]; try omega))))
  · obtain ⟨w1, w2, hl⟩ := not_wrong hw
    obtain ⟨w, rfl⟩ := Int.eq_ofNat_of_zero_le (show 0 ≤ W by omega)
    have h400 := hl.1
    simp (disch := first | with_reducible assumption | omega) only [go_sem, Bool.true_and, Bool.and_true, Bool.and_self, Bool.false_and, Bool.and_false, Bool.true_or, Bool.or_true, Bool.false_or, Bool.or_false, ↓reduceIte, Nat.reduceEqDiff, Nat.reduceAdd, Nat.reduceMul, Nat.reduceSub, Nat.reduceBEq, Nat.reduceLeDiff, Nat.reduceLT, Nat.reduceMod, Nat.reduceDiv, Int.reduceToNat, Int.reducePow, Int.reduceMul, Int.reduceAdd, Int.reduceSub, Int.reduceLE, Int.reduceLT, Int.reduceNeg, Int.reduceDiv, Int.reduceMod, Int.reduceEq, Int.reduceBEq, Int.reduceBNe, f5, f5b, f5r0, f5r1, f5r2, f5r3, f5r4, f5r5, f5r6, f5r7, f5r8, f5r9, f5r10, f5r11, f5r12, f5r13, f5r15]
    refine .of ((alive _).mono ?_)
    rintro v H ⟨rfl, rfl⟩
    simp (disch := first | with_reducible assumption | omega) only [go_sem, Bool.true_and, Bool.and_true, Bool.and_self, Bool.false_and, Bool.and_false, Bool.true_or, Bool.or_true, Bool.false_or, Bool.or_false, ↓reduceIte, Nat.reduceEqDiff, Nat.reduceAdd, Nat.reduceMul, Nat.reduceSub, Nat.reduceBEq, Nat.reduceLeDiff, Nat.reduceLT, Nat.reduceMod, Nat.reduceDiv, Int.reduceToNat, Int.reducePow, Int.reduceMul, Int.reduceAdd, Int.reduceSub, Int.reduceLE, Int.reduceLT, Int.reduceNeg, Int.reduceDiv, Int.reduceMod, Int.reduceEq, Int.reduceBEq, Int.reduceBNe, f5, f5b, f5r0, f5r1, f5r2, f5r3, f5r4, f5r5, f5r6, f5r7, f5r8, f5r9, f5r10, f5r11, f5r12, f5r13, f5r15]
    obtain ⟨ro, cs, hk, hcl, hcs⟩ := hs.cell
    simp only [Nat.zero_add] at hcs hcl
    repeat' first | simp (disch := first | with_reducible assumption | omega) only [go_sem, Bool.true_and, Bool.and_true, Bool.and_self, Bool.false_and, Bool.and_false, Bool.true_or, Bool.or_true, Bool.false_or, Bool.or_false, ↓reduceIte, Nat.reduceEqDiff, Nat.reduceAdd, Nat.reduceMul, Nat.reduceSub, Nat.reduceBEq, Nat.reduceLeDiff, Nat.reduceLT, Nat.reduceMod, Nat.reduceDiv, Int.reduceToNat, Int.reducePow, Int.reduceMul, Int.reduceAdd, Int.reduceSub, Int.reduceLE, Int.reduceLT, Int.reduceNeg, Int.reduceDiv, Int.reduceMod, Int.reduceEq, Int.reduceBEq, Int.reduceBNe, f5, f5b, f5r0, f5r1, f5r2, f5r3, f5r4, f5r5, f5r6, f5r7, f5r8, f5r9, f5r10, f5r11, f5r12, f5r13, f5r15] | (refine BrW.of (fun hb => ?_) (fun hb => ?_) <;> (have hb' := hb; try simp only [decide_eq_true_eq, decide_eq_false_iff_not, beq_iff_eq, bne_iff_ne, beq_eq_false_iff_ne, bne_eq_false_iff_eq, Bool.not_eq_true', Bool.not_eq_false', Bool.not_eq_true, Bool.not_eq_false, Bool.and_eq_true, Bool.or_eq_true, Bool.and_eq_false_iff, Bool.or_eq_false_iff, Int.not_lt, Int.not_le, ne_eq, gt_iff_lt, ge_iff_le] at hb') <;> (try (exfalso; omega))) | (refine .of ((Most_spec w l k 0 0 c H hs (by omega) (by omega) hl).mono ?_); rintro v _ ⟨g1, o1, m1, rfl, rfl, ml1, mm1⟩) | (refine .of ((Most_cases _ l k 0 0 c _ (hs.app _) hB').mono ?_); rintro v _ (⟨rfl, rfl⟩ | ⟨g2, o2, m2, rfl, rfl, ml2, mm2⟩))
    · have q0 := get_old hk ([o1, .cells g1 1 false (ints m1)])
      have hsJ := hs.app ([o1, .cells g1 1 false (ints m1)])
      have hA : (H ++ [o1, .cells g1 1 false (ints m1)])[H.length + 1]? = some (.cells g1 1 false (ints m1)) := by rw [get_new]; rfl
      have q3 : True := by first | trivial | (rw [show H.length + 2 + 1 = H.length + 3 from rfl, get_new]; rfl)
      generalize H ++ [o1, .cells g1 1 false (ints m1)] = J at *
      repeat' first | simp (disch := first | with_reducible assumption | omega) only [go_sem, Bool.true_and, Bool.and_true, Bool.and_self, Bool.false_and, Bool.and_false, Bool.true_or, Bool.or_true, Bool.false_or, Bool.or_false, ↓reduceIte, Nat.reduceEqDiff, Nat.reduceAdd, Nat.reduceMul, Nat.reduceSub, Nat.reduceBEq, Nat.reduceLeDiff, Nat.reduceLT, Nat.reduceMod, Nat.reduceDiv, Int.reduceToNat, Int.reducePow, Int.reduceMul, Int.reduceAdd, Int.reduceSub, Int.reduceLE, Int.reduceLT, Int.reduceNeg, Int.reduceDiv, Int.reduceMod, Int.reduceEq, Int.reduceBEq, Int.reduceBNe, f5, f5b, f5r0, f5r1, f5r2, f5r3, f5r4, f5r5, f5r6, f5r7, f5r8, f5r9, f5r10, f5r11, f5r12, f5r13, f5r15, q0, hA] | (refine BrW.of (fun hb => ?_) (fun hb => ?_) <;> (have hb' := hb; try simp only [decide_eq_true_eq, decide_eq_false_iff_not, beq_iff_eq, bne_iff_ne, beq_eq_false_iff_ne, bne_eq_false_iff_eq, Bool.not_eq_true', Bool.not_eq_false', Bool.not_eq_true, Bool.not_eq_false, Bool.and_eq_true, Bool.or_eq_true, Bool.and_eq_false_iff, Bool.or_eq_false_iff, Int.not_lt, Int.not_le, ne_eq, gt_iff_lt, ge_iff_le] at hb') <;> (try (exfalso; omega)))
      refine loopW.of (by decide) (fun m e J' => ∃ (i : Nat), e = [(0, .int .i64 w), (1, slv k 0 0 l.length c), (7, .slice none 0 0), (8, .int .i64 2), (43, slv (H.length + 1) 0 g1 l.length l.length), (44, .int .i64 l.length), (45, .int .i64 i)] ∧ (∃ x, J' = J ++ x) ∧ i ≤ l.length ∧ m = l.length - i) l.length ⟨0, rfl, ⟨[], by simp⟩, by omega, rfl⟩ ?_
      rintro m e J' ⟨i, rfl, ⟨x, rfl⟩, hi, rfl⟩
      by_cases hlt : i < l.length
      · have s1 := ints_get m1 i (by omega)
        have M1 := mm1 i hlt
        have c1 := win_le hlt M1
        have c2 := win_has hlt M1
        have hwl := win_len (w := w) hlt
        have hti : win w l i = (l.drop (i + 1 - w)).take (i + 1 - (i + 1 - w)) := rfl
        have hkx : (J ++ (x ++ [.cells 0 0 false [.int .i64 (m1.getD i 0)]]))[J.length + x.length]? = some (.cells 0 0 false [.int .i64 (m1.getD i 0)]) := by rw [get_new]; exact get_new0 _ _ _
        have hsw : Ints (J ++ (x ++ [.cells 0 0 false [.int .i64 (m1.getD i 0)]])) k (0 + (i + 1 - w) * 1) 0 (win w l i) := Tbl.take (Tbl.drop (hsJ.app _) (i + 1 - w) (by omega)) _
        have hC := ContainsF_spec (fun x => decide (m1.getD i 0 < x)) 13 [.pointer (some ⟨J.length + x.length, 0, some 1⟩)] (win w l i) k (0 + (i + 1 - w) * 1) 0 (c - (i + 1 - w)) _ hsw (by omega) (fun j hj => Great_spec _ _ _ _ hkx)
        have hD := Contains_spec (m1.getD i 0) (win w l i) k (0 + (i + 1 - w) * 1) 0 (c - (i + 1 - w)) _ hsw (by omega)
        have hmx : max ((i : Int) - w + 1) 0 = ((i + 1 - w : Nat) : Int) := by omega
        have hts : ((i : Int) + 1).toNat = i + 1 := by omega
        have hx1 : (max ((i : Int) - w + 1) 0).toNat = i + 1 - w := by omega
        rw [c1, hwl] at hC
        rw [c2, hwl] at hD
        simp only [Nat.zero_add, Nat.mul_one] at hC hD
        have hnil : True := trivial
        repeat' first | simp (disch := first | with_reducible assumption | omega) only [go_sem, Bool.true_and, Bool.and_true, Bool.and_self, Bool.false_and, Bool.and_false, Bool.true_or, Bool.or_true, Bool.false_or, Bool.or_false, ↓reduceIte, Nat.reduceEqDiff, Nat.reduceAdd, Nat.reduceMul, Nat.reduceSub, Nat.reduceBEq, Nat.reduceLeDiff, Nat.reduceLT, Nat.reduceMod, Nat.reduceDiv, Int.reduceToNat, Int.reducePow, Int.reduceMul, Int.reduceAdd, Int.reduceSub, Int.reduceLE, Int.reduceLT, Int.reduceNeg, Int.reduceDiv, Int.reduceMod, Int.reduceEq, Int.reduceBEq, Int.reduceBNe, f5, f5b, f5r0, f5r1, f5r2, f5r3, f5r4, f5r5, f5r6, f5r7, f5r8, f5r9, f5r10, f5r11, f5r12, f5r13, f5r15, f5l0, q0, hA, get_old hA, get_old q0, s1, hmx, hts, hkx, hmx] | (refine BrW.of (fun hb => ?_) (fun hb => ?_) <;> (have hb' := hb; try simp only [decide_eq_true_eq, decide_eq_false_iff_not, beq_iff_eq, bne_iff_ne, beq_eq_false_iff_ne, bne_eq_false_iff_eq, Bool.not_eq_true', Bool.not_eq_false', Bool.not_eq_true, Bool.not_eq_false, Bool.and_eq_true, Bool.or_eq_true, Bool.and_eq_false_iff, Bool.or_eq_false_iff, Int.not_lt, Int.not_le, ne_eq, gt_iff_lt, ge_iff_le] at hb') <;> (try (exfalso; omega))) | (refine dcallW.of _ _ hC ?_) | (refine dcallW.of _ _ hD ?_)
        refine RdW.keep [0, 1, 7, 8, 43, 44, 45] (l.length - (i + 1)) (by omega) ?_
        simp (disch := first | with_reducible assumption | omega) only [go_sem, Bool.true_and, Bool.and_true, Bool.and_self, Bool.false_and, Bool.and_false, Bool.true_or, Bool.or_true, Bool.false_or, Bool.or_false, ↓reduceIte, Nat.reduceEqDiff, Nat.reduceAdd, Nat.reduceMul, Nat.reduceSub, Nat.reduceBEq, Nat.reduceLeDiff, Nat.reduceLT, Nat.reduceMod, Nat.reduceDiv, Int.reduceToNat, Int.reducePow, Int.reduceMul, Int.reduceAdd, Int.reduceSub, Int.reduceLE, Int.reduceLT, Int.reduceNeg, Int.reduceDiv, Int.reduceMod, Int.reduceEq, Int.reduceBEq, Int.reduceBNe]
        exact ⟨i + 1, rfl, ⟨_, rfl⟩, by omega, rfl⟩
      · repeat' first | simp (disch := first | with_reducible assumption | omega) only [go_sem, Bool.true_and, Bool.and_true, Bool.and_self, Bool.false_and, Bool.and_false, Bool.true_or, Bool.or_true, Bool.false_or, Bool.or_false, ↓reduceIte, Nat.reduceEqDiff, Nat.reduceAdd, Nat.reduceMul, Nat.reduceSub, Nat.reduceBEq, Nat.reduceLeDiff, Nat.reduceLT, Nat.reduceMod, Nat.reduceDiv, Int.reduceToNat, Int.reducePow, Int.reduceMul, Int.reduceAdd, Int.reduceSub, Int.reduceLE, Int.reduceLT, Int.reduceNeg, Int.reduceDiv, Int.reduceMod, Int.reduceEq, Int.reduceBEq, Int.reduceBNe, f5, f5b, f5r0, f5r1, f5r2, f5r3, f5r4, f5r5, f5r6, f5r7, f5r8, f5r9, f5r10, f5r11, f5r12, f5r13, f5r15, f5l0, f5, f5b, f5r0, f5r1, f5r2, f5r3, f5r4, f5r5, f5r6, f5r7, f5r8, f5r9, f5r10, f5r11, f5r12, f5r13, f5r15] | (refine BrW.of (fun hb => ?_) (fun hb => ?_) <;> (have hb' := hb; try simp only [decide_eq_true_eq, decide_eq_false_iff_not, beq_iff_eq, bne_iff_ne, beq_eq_false_iff_ne, bne_eq_false_iff_eq, Bool.not_eq_true', Bool.not_eq_false', Bool.not_eq_true, Bool.not_eq_false, Bool.and_eq_true, Bool.or_eq_true, Bool.and_eq_false_iff, Bool.or_eq_false_iff, Int.not_lt, Int.not_le, ne_eq, gt_iff_lt, ge_iff_le] at hb') <;> (try (exfalso; omega)))
        exact .here rfl
    · have q0 := get_old hk ([o1, .cells g1 1 false (ints m1), o2, .cells g2 1 false (ints m2)])
      have hsJ := hs.app ([o1, .cells g1 1 false (ints m1), o2, .cells g2 1 false (ints m2)])
      have hA : (H ++ [o1, .cells g1 1 false (ints m1), o2, .cells g2 1 false (ints m2)])[H.length + 1]? = some (.cells g1 1 false (ints m1)) := by rw [get_new]; rfl
      have q3 : (H ++ [o1, .cells g1 1 false (ints m1), o2, .cells g2 1 false (ints m2)])[H.length + 2 + 1]? = some (.cells g2 1 false (ints m2)) := by first | trivial | (rw [show H.length + 2 + 1 = H.length + 3 from rfl, get_new]; rfl)
      generalize H ++ [o1, .cells g1 1 false (ints m1), o2, .cells g2 1 false (ints m2)] = J at *
      repeat' first | simp (disch := first | with_reducible assumption | omega) only [go_sem, Bool.true_and, Bool.and_true, Bool.and_self, Bool.false_and, Bool.and_false, Bool.true_or, Bool.or_true, Bool.false_or, Bool.or_false, ↓reduceIte, Nat.reduceEqDiff, Nat.reduceAdd, Nat.reduceMul, Nat.reduceSub, Nat.reduceBEq, Nat.reduceLeDiff, Nat.reduceLT, Nat.reduceMod, Nat.reduceDiv, Int.reduceToNat, Int.reducePow, Int.reduceMul, Int.reduceAdd, Int.reduceSub, Int.reduceLE, Int.reduceLT, Int.reduceNeg, Int.reduceDiv, Int.reduceMod, Int.reduceEq, Int.reduceBEq, Int.reduceBNe, f5, f5b, f5r0, f5r1, f5r2, f5r3, f5r4, f5r5, f5r6, f5r7, f5r8, f5r9, f5r10, f5r11, f5r12, f5r13, f5r15, q0, hA] | (refine BrW.of (fun hb => ?_) (fun hb => ?_) <;> (have hb' := hb; try simp only [decide_eq_true_eq, decide_eq_false_iff_not, beq_iff_eq, bne_iff_ne, beq_eq_false_iff_ne, bne_eq_false_iff_eq, Bool.not_eq_true', Bool.not_eq_false', Bool.not_eq_true, Bool.not_eq_false, Bool.and_eq_true, Bool.or_eq_true, Bool.and_eq_false_iff, Bool.or_eq_false_iff, Int.not_lt, Int.not_le, ne_eq, gt_iff_lt, ge_iff_le] at hb') <;> (try (exfalso; omega)))
      refine loopW.of (by decide) (fun m e J' => ∃ (i : Nat), e = [(0, .int .i64 w), (1, slv k 0 0 l.length c), (7, slv (H.length + 2 + 1) 0 g2 l.length l.length), (8, .int .i64 0), (43, slv (H.length + 1) 0 g1 l.length l.length), (44, .int .i64 l.length), (45, .int .i64 i)] ∧ (∃ x, J' = J ++ x) ∧ i ≤ l.length ∧ m = l.length - i) l.length ⟨0, rfl, ⟨[], by simp⟩, by omega, rfl⟩ ?_
      rintro m e J' ⟨i, rfl, ⟨x, rfl⟩, hi, rfl⟩
      by_cases hlt : i < l.length
      · have s1 := ints_get m1 i (by omega)
        have M1 := mm1 i hlt
        have c1 := win_le hlt M1
        have c2 := win_has hlt M1
        have hwl := win_len (w := w) hlt
        have hti : win w l i = (l.drop (i + 1 - w)).take (i + 1 - (i + 1 - w)) := rfl
        have hkx : (J ++ (x ++ [.cells 0 0 false [.int .i64 (m1.getD i 0)]]))[J.length + x.length]? = some (.cells 0 0 false [.int .i64 (m1.getD i 0)]) := by rw [get_new]; exact get_new0 _ _ _
        have hsw : Ints (J ++ (x ++ [.cells 0 0 false [.int .i64 (m1.getD i 0)]])) k (0 + (i + 1 - w) * 1) 0 (win w l i) := Tbl.take (Tbl.drop (hsJ.app _) (i + 1 - w) (by omega)) _
        have hC := ContainsF_spec (fun x => decide (m1.getD i 0 < x)) 13 [.pointer (some ⟨J.length + x.length, 0, some 1⟩)] (win w l i) k (0 + (i + 1 - w) * 1) 0 (c - (i + 1 - w)) _ hsw (by omega) (fun j hj => Great_spec _ _ _ _ hkx)
        have hD := Contains_spec (m1.getD i 0) (win w l i) k (0 + (i + 1 - w) * 1) 0 (c - (i + 1 - w)) _ hsw (by omega)
        have hmx : max ((i : Int) - w + 1) 0 = ((i + 1 - w : Nat) : Int) := by omega
        have hts : ((i : Int) + 1).toNat = i + 1 := by omega
        have hx1 : (max ((i : Int) - w + 1) 0).toNat = i + 1 - w := by omega
        rw [c1, hwl] at hC
        rw [c2, hwl] at hD
        simp only [Nat.zero_add, Nat.mul_one] at hC hD
        have s2 := ints_get m2 i (by omega)
        have M2 := mm2 i hlt
        rw [show ((w : Int) + 1).toNat = w + 1 by omega] at M2
        have hle := M1.mono (by omega) M2
        repeat' first | simp (disch := first | with_reducible assumption | omega) only [go_sem, Bool.true_and, Bool.and_true, Bool.and_self, Bool.false_and, Bool.and_false, Bool.true_or, Bool.or_true, Bool.false_or, Bool.or_false, ↓reduceIte, Nat.reduceEqDiff, Nat.reduceAdd, Nat.reduceMul, Nat.reduceSub, Nat.reduceBEq, Nat.reduceLeDiff, Nat.reduceLT, Nat.reduceMod, Nat.reduceDiv, Int.reduceToNat, Int.reducePow, Int.reduceMul, Int.reduceAdd, Int.reduceSub, Int.reduceLE, Int.reduceLT, Int.reduceNeg, Int.reduceDiv, Int.reduceMod, Int.reduceEq, Int.reduceBEq, Int.reduceBNe, f5, f5b, f5r0, f5r1, f5r2, f5r3, f5r4, f5r5, f5r6, f5r7, f5r8, f5r9, f5r10, f5r11, f5r12, f5r13, f5r15, f5l0, q0, hA, get_old hA, get_old q0, s1, hmx, hts, hkx, q3, get_old q3, s2] | (refine BrW.of (fun hb => ?_) (fun hb => ?_) <;> (have hb' := hb; try simp only [decide_eq_true_eq, decide_eq_false_iff_not, beq_iff_eq, bne_iff_ne, beq_eq_false_iff_ne, bne_eq_false_iff_eq, Bool.not_eq_true', Bool.not_eq_false', Bool.not_eq_true, Bool.not_eq_false, Bool.and_eq_true, Bool.or_eq_true, Bool.and_eq_false_iff, Bool.or_eq_false_iff, Int.not_lt, Int.not_le, ne_eq, gt_iff_lt, ge_iff_le] at hb') <;> (try (exfalso; omega))) | (refine dcallW.of _ _ hC ?_) | (refine dcallW.of _ _ hD ?_)
        refine RdW.keep [0, 1, 7, 8, 43, 44, 45] (l.length - (i + 1)) (by omega) ?_
        simp (disch := first | with_reducible assumption | omega) only [go_sem, Bool.true_and, Bool.and_true, Bool.and_self, Bool.false_and, Bool.and_false, Bool.true_or, Bool.or_true, Bool.false_or, Bool.or_false, ↓reduceIte, Nat.reduceEqDiff, Nat.reduceAdd, Nat.reduceMul, Nat.reduceSub, Nat.reduceBEq, Nat.reduceLeDiff, Nat.reduceLT, Nat.reduceMod, Nat.reduceDiv, Int.reduceToNat, Int.reducePow, Int.reduceMul, Int.reduceAdd, Int.reduceSub, Int.reduceLE, Int.reduceLT, Int.reduceNeg, Int.reduceDiv, Int.reduceMod, Int.reduceEq, Int.reduceBEq, Int.reduceBNe]
        exact ⟨i + 1, rfl, ⟨_, rfl⟩, by omega, rfl⟩
      · repeat' first | simp (disch := first | with_reducible assumption | omega) only [go_sem, Bool.true_and, Bool.and_true, Bool.and_self, Bool.false_and, Bool.and_false, Bool.true_or, Bool.or_true, Bool.false_or, Bool.or_false, ↓reduceIte, Nat.reduceEqDiff, Nat.reduceAdd, Nat.reduceMul, Nat.reduceSub, Nat.reduceBEq, Nat.reduceLeDiff, Nat.reduceLT, Nat.reduceMod, Nat.reduceDiv, Int.reduceToNat, Int.reducePow, Int.reduceMul, Int.reduceAdd, Int.reduceSub, Int.reduceLE, Int.reduceLT, Int.reduceNeg, Int.reduceDiv, Int.reduceMod, Int.reduceEq, Int.reduceBEq, Int.reduceBNe, f5, f5b, f5r0, f5r1, f5r2, f5r3, f5r4, f5r5, f5r6, f5r7, f5r8, f5r9, f5r10, f5r11, f5r12, f5r13, f5r15, f5l0, f5, f5b, f5r0, f5r1, f5r2, f5r3, f5r4, f5r5, f5r6, f5r7, f5r8, f5r9, f5r10, f5r11, f5r12, f5r13, f5r15] | (refine BrW.of (fun hb => ?_) (fun hb => ?_) <;> (have hb' := hb; try simp only [decide_eq_true_eq, decide_eq_false_iff_not, beq_iff_eq, bne_iff_ne, beq_eq_false_iff_ne, bne_eq_false_iff_eq, Bool.not_eq_true', Bool.not_eq_false', Bool.not_eq_true, Bool.not_eq_false, Bool.and_eq_true, Bool.or_eq_true, Bool.and_eq_false_iff, Bool.or_eq_false_iff, Int.not_lt, Int.not_le, ne_eq, gt_iff_lt, ge_iff_le] at hb') <;> (try (exfalso; omega)))
        exact .here rfl
end Go.Proofs.Ytklbagfnepphmaa
