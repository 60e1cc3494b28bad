import Derived.Test.YtklbagfnepphmaaLaws3
import Derived.Test.YtklbagfnepphmaaSteps5
set_option linter.unusedSimpArgs false
set_option linter.unusedVariables false
set_option maxHeartbeats 1000000
set_option maxRecDepth 20000
namespace Go.Proofs.Ytklbagfnepphmaa
open Go Go.Am
attribute [local irreducible] opsW Ww loopW callW drawW outW outDW gW cW BrW bothW vW resW DropW RdW dcallW Later.run

theorem SlideBetween_args (H : Heap) (vals : List Value) (h : ArgsOk maxLen H SlideBetweenSh vals) : ACallK Try.prog 6 vals H fun v _ => v = .bool true := by
  obtain ⟨_, _, rfl, a1, h⟩ := h.cons
  obtain ⟨_, _, rfl, a2, h⟩ := h.cons
  obtain ⟨_, _, rfl, a3, h⟩ := h.cons
  obtain rfl := h.nil
  obtain ⟨s, rfl, _⟩ := a1.cell.int_inv
  obtain ⟨f, rfl, _⟩ := a2.cell.int_inv
  obtain ⟨k, c, l, rfl, hB, hlc, hs, _⟩ := ints_of a3
  have hB' : l.length ≤ 9223372036854775807 := Nat.le_trans hB (by decide)
  clear a1 a2 a3 h hB
  obtain ⟨ro, cs, hk, hcl, hcs⟩ := hs.cell
  simp only [Nat.zero_add] at hcs
  refine .walkW f6_ok (by simp; decide) (by decide) ?_
  by_cases hb : badS s f l
  · have hS := fun X => Smooth_bad s f l k 0 0 c (H ++ X) (hs.app X) hB' hb
    clear hcs
    repeat' first | simp (disch := first | with_reducible assumption | omega) only [go_sem, Bool.true_and, Bool.and_true, Bool.and_self, Bool.false_and, Bool.and_false, Bool.true_or, Bool.or_true, Bool.false_or, Bool.or_false, ↓reduceIte, Nat.reduceEqDiff, Nat.reduceAdd, Nat.reduceMul, Nat.reduceSub, Nat.reduceBEq, Nat.reduceLeDiff, Nat.reduceLT, Nat.reduceMod, Nat.reduceDiv, Int.reduceToNat, Int.reducePow, Int.reduceMul, Int.reduceAdd, Int.reduceSub, Int.reduceLE, Int.reduceLT, Int.reduceNeg, Int.reduceDiv, Int.reduceMod, Int.reduceEq, Int.reduceBEq, Int.reduceBNe, f6, f6b, f6r0, f6r1, f6r2, f6r3, f6r4, f6r5, f6r6, f6r7, f6r8, f6r9, f6r10, f6r11, f6r12, f6r13, f6r15, f6r16] | (refine BrW.of (fun hb => ?_) (fun hb => ?_) <;> (have hb' := hb; try simp only [decide_eq_true_eq, decide_eq_false_iff_not, beq_iff_eq, bne_iff_ne, beq_eq_false_iff_ne, bne_eq_false_iff_eq, Bool.not_eq_true', Bool.not_eq_false', Bool.not_eq_true, Bool.not_eq_false, Bool.and_eq_true, Bool.or_eq_true, Bool.and_eq_false_iff, Bool.or_eq_false_iff, Int.not_lt, Int.not_le, ne_eq, gt_iff_lt, ge_iff_le] at hb') <;> (try (exfalso; omega))) | (refine .of ((alive _).mono ?_); rintro v _ ⟨rfl, rfl⟩) | (refine .of ((hS _).mono ?_); rintro v _ ⟨rfl, rfl⟩)
    all_goals exact .here rfl
  · obtain ⟨s1, s2, s3, s4, s5⟩ := not_badS hb
    obtain ⟨s, rfl⟩ := Int.eq_ofNat_of_zero_le s1
    have hS := fun X => Smooth_ex s f l k 0 0 c (H ++ [X]) (hs.app [X]) (by omega) s4 s5 s3
    have hd : (1 : Int) ≤ 2 ^ s := by
      have h1 := Nat.one_le_two_pow (n := s)
      have h3 : ((2 ^ s : Nat) : Int) = 2 ^ s := by simp
      omega
    have hsl := smooth_length (2 ^ s) l (f * 2 ^ s)
    have hbt := fun lo hi i hi' h1 h2 h3 => smooth_between (d := 2 ^ s) (lo := lo) (hi := hi) hd l (f * 2 ^ s) i hi' h1 h2 h3
    have hss := smooth_same (d := 2 ^ s) (b := f) hd l.length
    have hR := Repeat_spec f l.length (H.length + 2) (H ++ [.cells 0 0 false [.int .i64 f], .cells l.length 1 false (ints (smooth (2 ^ s) (f * 2 ^ s) l)), .cells 0 1 false [.int .i64 f]]) (by have := s3.1; omega) (by rw [get_new]; rfl)
    have hrl : (List.replicate l.length f).length = l.length := by simp
    have hS2 := Smooth_ex s f (List.replicate l.length f) (H.length + 3) 0 0 l.length (H ++ [.cells 0 0 false [.int .i64 f], .cells l.length 1 false (ints (smooth (2 ^ s) (f * 2 ^ s) l)), .cells 0 1 false [.int .i64 f], .cells 0 1 false (ints (List.replicate l.length f))]) (Ints.new _ _ _ false _ (by rw [get_new]; rfl)) (by omega) s4 s5 ⟨by rw [hrl]; exact s3.1, fun i hi => by rw [hrl] at hi; simp only [List.getD_eq_getElem?_getD, List.getElem?_replicate]; rw [if_pos hi]; exact ⟨s4, s5⟩⟩
    have hC := ContainsF_spec (fun n => n != f) 16 [.pointer (some ⟨H.length, 0, some 1⟩)] (List.replicate l.length f) (H.length + 4) 0 l.length l.length (H ++ [.cells 0 0 false [.int .i64 f], .cells l.length 1 false (ints (smooth (2 ^ s) (f * 2 ^ s) l)), .cells 0 1 false [.int .i64 f], .cells 0 1 false (ints (List.replicate l.length f)), .cells l.length 1 false (ints (List.replicate l.length f))]) (Ints.new _ _ _ false _ (by rw [get_new]; rfl)) (by rw [hrl]; exact hB') (fun i hi => notClo_spec f _ _ _ (get_new0 _ _ _))
    rw [hss] at hS2
    rw [hrl] at hS2 hC
    rw [show (List.replicate l.length f).any (fun n => n != f) = false by simp] at hC
    simp only [List.append_assoc, List.cons_append, List.nil_append, List.length_append, List.length_cons, List.length_nil, Nat.zero_add, Nat.reduceAdd] at hR hS2 hC hS
    have hSi : ∀ i, i < l.length → (ints (smooth (2 ^ s) (f * 2 ^ s) l))[i]? = some (.int .i64 ((smooth (2 ^ s) (f * 2 ^ s) l).getD i 0)) := fun i hi => ints_get _ i (by omega)
    generalize smooth (2 ^ s) (f * 2 ^ s) l = S at *
    generalize List.replicate l.length f = Rr at *
    repeat' first | simp (disch := first | with_reducible assumption | omega) only [go_sem, Bool.true_and, Bool.and_true, Bool.and_self, Bool.false_and, Bool.and_false, Bool.true_or, Bool.or_true, Bool.false_or, Bool.or_false, ↓reduceIte, Nat.reduceEqDiff, Nat.reduceAdd, Nat.reduceMul, Nat.reduceSub, Nat.reduceBEq, Nat.reduceLeDiff, Nat.reduceLT, Nat.reduceMod, Nat.reduceDiv, Int.reduceToNat, Int.reducePow, Int.reduceMul, Int.reduceAdd, Int.reduceSub, Int.reduceLE, Int.reduceLT, Int.reduceNeg, Int.reduceDiv, Int.reduceMod, Int.reduceEq, Int.reduceBEq, Int.reduceBNe, f6, f6b, f6r0, f6r1, f6r2, f6r3, f6r4, f6r5, f6r6, f6r7, f6r8, f6r9, f6r10, f6r11, f6r12, f6r13, f6r15, f6r16, hk, get_old hk] | (refine BrW.of (fun hb => ?_) (fun hb => ?_) <;> (have hb' := hb; try simp only [decide_eq_true_eq, decide_eq_false_iff_not, beq_iff_eq, bne_iff_ne, beq_eq_false_iff_ne, bne_eq_false_iff_eq, Bool.not_eq_true', Bool.not_eq_false', Bool.not_eq_true, Bool.not_eq_false, Bool.and_eq_true, Bool.or_eq_true, Bool.and_eq_false_iff, Bool.or_eq_false_iff, Int.not_lt, Int.not_le, ne_eq, gt_iff_lt, ge_iff_le] at hb') <;> (try (exfalso; omega))) | (refine .of ((alive _).mono ?_); rintro v _ ⟨rfl, rfl⟩) | (refine .of ((hS _).mono ?_); rintro v _ ⟨rfl, rfl⟩)
    refine loopW.of (by decide) (fun m e J => ∃ (i : Nat) (lo hi : Int), e = [(0, .int .i64 s), (2, slv k 0 0 l.length c), (4, .pointer (some ⟨H.length, 0, some 1⟩)), (7, slv (H.length + 1) 0 l.length l.length l.length), (9, .int .i64 lo), (10, .int .i64 hi), (42, slv k 0 0 l.length c), (43, .int .i64 l.length), (44, .int .i64 i)] ∧
      J = H ++ [.cells 0 0 false [.int .i64 f], .cells l.length 1 false (ints S)] ∧ i ≤ l.length ∧ m = l.length - i ∧ lo ≤ f ∧ f ≤ hi ∧ ∀ j, j < i → lo ≤ l.getD j 0 ∧ l.getD j 0 ≤ hi) l.length ⟨0, f, f, rfl, rfl, by omega, rfl, by omega, by omega, fun j hj => by omega⟩ ?_
    rintro m e J ⟨i, lo, hi, rfl, rfl, hil, rfl, g1, g2, g3⟩
    by_cases hlt : i < l.length
    · have e0 := hcs i hlt
      have e1 := hSi i hlt
      have hb2 := hbt (min lo (l.getD i 0)) (max hi (l.getD i 0)) i hlt (Int.mul_le_mul_of_nonneg_right (by omega) (by omega)) (Int.mul_lt_mul_of_pos_right (by omega) (by omega)) (fun j hj => by
        by_cases hji : j = i
        · subst hji; omega
        · have := g3 j (by omega); omega)
      have g4 : ∀ j, j < i + 1 → min lo (l.getD i 0) ≤ l.getD j 0 ∧ l.getD j 0 ≤ max hi (l.getD i 0) := fun j hj => by
        by_cases hji : j = i
        · subst hji; omega
        · have := g3 j (by omega); omega
      have g5 : min lo (l.getD i 0) ≤ f ∧ f ≤ max hi (l.getD i 0) := by omega
      clear hS hbt hcs hSi hR hS2 hC hss g3
      generalize l.getD i 0 = x at *
      generalize S.getD i 0 = y at *
      repeat' first | simp (disch := first | with_reducible assumption | omega) only [go_sem, Bool.true_and, Bool.and_true, Bool.and_self, Bool.false_and, Bool.and_false, Bool.true_or, Bool.or_true, Bool.false_or, Bool.or_false, ↓reduceIte, Nat.reduceEqDiff, Nat.reduceAdd, Nat.reduceMul, Nat.reduceSub, Nat.reduceBEq, Nat.reduceLeDiff, Nat.reduceLT, Nat.reduceMod, Nat.reduceDiv, Int.reduceToNat, Int.reducePow, Int.reduceMul, Int.reduceAdd, Int.reduceSub, Int.reduceLE, Int.reduceLT, Int.reduceNeg, Int.reduceDiv, Int.reduceMod, Int.reduceEq, Int.reduceBEq, Int.reduceBNe, f6, f6b, f6r0, f6r1, f6r2, f6r3, f6r4, f6r5, f6r6, f6r7, f6r8, f6r9, f6r10, f6r11, f6r12, f6r13, f6r15, f6r16, f6l0, hk, get_old hk, e0, e1] | (refine BrW.of (fun hb => ?_) (fun hb => ?_) <;> (have hb' := hb; try simp only [decide_eq_true_eq, decide_eq_false_iff_not, beq_iff_eq, bne_iff_ne, beq_eq_false_iff_ne, bne_eq_false_iff_eq, Bool.not_eq_true', Bool.not_eq_false', Bool.not_eq_true, Bool.not_eq_false, Bool.and_eq_true, Bool.or_eq_true, Bool.and_eq_false_iff, Bool.or_eq_false_iff, Int.not_lt, Int.not_le, ne_eq, gt_iff_lt, ge_iff_le] at hb') <;> (try (exfalso; omega)))
      refine RdW.keep [0, 2, 4, 7, 9, 10, 42, 43, 44] (l.length - (i + 1)) (by omega) ?_
      simp (disch := first | with_reducible assumption | omega) only [go_sem, Bool.true_and, Bool.and_true, Bool.and_self, Bool.false_and, Bool.and_false, Bool.true_or, Bool.or_true, Bool.false_or, Bool.or_false, ↓reduceIte, Nat.reduceEqDiff, Nat.reduceAdd, Nat.reduceMul, Nat.reduceSub, Nat.reduceBEq, Nat.reduceLeDiff, Nat.reduceLT, Nat.reduceMod, Nat.reduceDiv, Int.reduceToNat, Int.reducePow, Int.reduceMul, Int.reduceAdd, Int.reduceSub, Int.reduceLE, Int.reduceLT, Int.reduceNeg, Int.reduceDiv, Int.reduceMod, Int.reduceEq, Int.reduceBEq, Int.reduceBNe]
      exact ⟨i + 1, _, _, rfl, by omega, rfl, g5.1, g5.2, g4⟩
    · obtain rfl : i = l.length := by omega
      clear hcs hSi hbt g3
      repeat' first | simp (disch := first | with_reducible assumption | omega) only [go_sem, Bool.true_and, Bool.and_true, Bool.and_self, Bool.false_and, Bool.and_false, Bool.true_or, Bool.or_true, Bool.false_or, Bool.or_false, ↓reduceIte, Nat.reduceEqDiff, Nat.reduceAdd, Nat.reduceMul, Nat.reduceSub, Nat.reduceBEq, Nat.reduceLeDiff, Nat.reduceLT, Nat.reduceMod, Nat.reduceDiv, Int.reduceToNat, Int.reducePow, Int.reduceMul, Int.reduceAdd, Int.reduceSub, Int.reduceLE, Int.reduceLT, Int.reduceNeg, Int.reduceDiv, Int.reduceMod, Int.reduceEq, Int.reduceBEq, Int.reduceBNe, f6, f6b, f6r0, f6r1, f6r2, f6r3, f6r4, f6r5, f6r6, f6r7, f6r8, f6r9, f6r10, f6r11, f6r12, f6r13, f6r15, f6r16, f6l0, f6, f6b, f6r0, f6r1, f6r2, f6r3, f6r4, f6r5, f6r6, f6r7, f6r8, f6r9, f6r10, f6r11, f6r12, f6r13, f6r15, f6r16, hk, get_old hk] | (refine BrW.of (fun hb => ?_) (fun hb => ?_) <;> (have hb' := hb; try simp only [decide_eq_true_eq, decide_eq_false_iff_not, beq_iff_eq, bne_iff_ne, beq_eq_false_iff_ne, bne_eq_false_iff_eq, Bool.not_eq_true', Bool.not_eq_false', Bool.not_eq_true, Bool.not_eq_false, Bool.and_eq_true, Bool.or_eq_true, Bool.and_eq_false_iff, Bool.or_eq_false_iff, Int.not_lt, Int.not_le, ne_eq, gt_iff_lt, ge_iff_le] at hb') <;> (try (exfalso; omega))) | (refine dcallW.of _ _ hR ?_) | (refine dcallW.of _ _ hS2 ?_) | (refine .of (hC.mono ?_); rintro v _ ⟨rfl, rfl⟩)
      all_goals exact .here rfl
end Go.Proofs.Ytklbagfnepphmaa
