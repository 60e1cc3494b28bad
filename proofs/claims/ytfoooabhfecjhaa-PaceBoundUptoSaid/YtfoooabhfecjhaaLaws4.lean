import Derived.Test.YtfoooabhfecjhaaSteps8
import Derived.Test.YtfoooabhfecjhaaBase
set_option linter.unusedSimpArgs false
set_option linter.unusedVariables false
set_option maxHeartbeats 2000000
set_option maxRecDepth 20000
namespace Go.Proofs.Ytfoooabhfecjhaa
open Go Go.Am
attribute [local irreducible] opsW Ww loopW callW drawW outW outDW gW cW BrW bothW vW resW DropW RdW dcallW altW Later.run

theorem bound_ij {p : P} (h : Ok p 0) (l : List O) (i j : Nat) (hij : i ≤ j) : ((runP p (l.take j)).se - (runP p (l.take i)).se) * p.b.den ≤ p.b.bu * p.b.den + p.b.num * (gone (l.take j) - gone (l.take i)) := by
  have e : l.take j = l.take i ++ (l.take j).drop i := by
    have := (List.take_append_drop i (l.take j)).symm
    rwa [List.take_take, Nat.min_eq_left hij] at this
  have h1 := bound (runP_ok h (l.take i)) ((l.take j).drop i)
  have hs := run_same p (l.take i)
  rw [hs.1, hs.2.1, hs.2.2, ← runP_app, ← e] at h1
  have h2 : gone (l.take j) - gone (l.take i) = gone ((l.take j).drop i) := by
    have : gone (l.take j) = gone (l.take i) + gone ((l.take j).drop i) := by
      rw [e]; simp only [gone, List.map_append, List.sum_append]
      rw [← e]
    omega
  rw [h2]
  exact h1
theorem ansP_getD (p : P) (l : List O) (j : Nat) (hj : j < l.length) : (ansP p l).getD j (0, []) = (doP (runP p (l.take j)) (l.getD j o0)).2 := by
  induction l generalizing p j with
  | nil => simp at hj
  | cons o r ih =>
    cases j with
    | zero => rfl
    | succ j =>
      have := ih (doP p o).1 j (by simp at hj; omega)
      simpa [ansP, runP] using this
theorem at_step {n d b : Int} (hw : wrongP n d b = 0) {l : List O} {J : Heap} {cq : List Value} (hR : Rows' J cq (ansP (p0 n d b) l)) (j : Nat) (hj : j < l.length) :
    ∃ (v : Value) (e : Int) (s : List Int), cq[j * 2]? = some (.int .i64 e) ∧ cq[j * 2 + 1]? = some v ∧ IsI J v s ∧ (runP (p0 n d b) (l.take (j + 1))).se = (runP (p0 n d b) (l.take j)).se + s.sum ∧ (∀ x ∈ s, 1 ≤ x ∧ x ≤ 1500) ∧ s.length ≤ 400 ∧
      ((l.getD j o0).k = 2 ∧ e = 0 → gone (l.take (j + 1)) = gone (l.take j) + (l.getD j o0).n ∧ 0 ≤ (l.getD j o0).n ∧ (l.getD j o0).n ≤ 1099511627776) ∧
      (¬ ((l.getD j o0).k = 2 ∧ e = 0) → gone (l.take (j + 1)) = gone (l.take j)) := by
  obtain ⟨v, h1, h2, h3⟩ := hR.2 j (by rw [ansP_length]; exact hj)
  have ha := ansP_getD (p0 n d b) l j hj
  have hok := runP_ok (start_ok hw) (l.take j)
  have hse := do_sent hok (l.getD j o0)
  have hds := do_se (runP (p0 n d b) (l.take j)) (l.getD j o0)
  have hg : gone (l.take (j + 1)) = gone (l.take j) + tk (l.getD j o0) := by rw [take_snoc o0 l j hj, gone_snoc]
  have hr : runP (p0 n d b) (l.take (j + 1)) = (doP (runP (p0 n d b) (l.take j)) (l.getD j o0)).1 := by rw [take_snoc o0 l j hj, runP_snoc]
  have ht := tk_err (runP (p0 n d b) (l.take j)) (l.getD j o0)
  have ht2 := tk_other (l.getD j o0)
  have ht3 := tk_pos (l.getD j o0)
  rw [ha] at h1 h3
  refine ⟨v, _, _, h1, h2, h3, by rw [hr, hds], hse.1, hse.2, fun h => ?_, fun h => ?_⟩
  · have := (ht h.1).1 h.2
    rw [hg, this]
    rw [this] at ht3
    exact ⟨rfl, ht3⟩
  · have : tk (l.getD j o0) = 0 := by
      by_cases hk : (l.getD j o0).k = 2
      · exact (ht hk).2 (fun he => h ⟨hk, he⟩)
      · exact ht2 hk
    rw [hg, this, Int.add_zero]
theorem se_bound {n d b : Int} (hw : wrongP n d b = 0) (l : List O) (hl : l.length ≤ 1048576) (j : Nat) : 0 ≤ (runP (p0 n d b) (l.take j)).se ∧ (runP (p0 n d b) (l.take j)).se ≤ 1572864000 := by
  have hok := runP_ok (start_ok hw) (l.take j)
  have h1 := (sum_bound _ hok.q.2.2.2.2.2.2.2.1).1
  have h1' : 0 ≤ (runP (p0 n d b) (l.take j)).l.sum := h1
  have h2 := hok.pos
  have h3 := hok.all
  have h4 : (l.take j).length ≤ l.length := by simp; omega
  omega
theorem PaceBound_args (H : Heap) (vals : List Value) (h : ArgsOk 1048576 H PaceBoundSh vals) : ACallK Try.prog 3 vals H fun v _ => v = .bool true := by
  obtain ⟨_, _, rfl, a1, h1⟩ := h.cons
  obtain ⟨_, _, rfl, a2, h2⟩ := h1.cons
  obtain ⟨_, _, rfl, a3, h3⟩ := h2.cons
  obtain ⟨_, _, rfl, a4, h4⟩ := h3.cons
  obtain rfl := h4.nil
  obtain ⟨n, rfl, hn⟩ := int_of a1
  obtain ⟨d, rfl, hd⟩ := int_of a2
  obtain ⟨b, rfl, hb⟩ := int_of a3
  obtain ⟨k, c, l, rfl, hl, hlc, hO⟩ := ops_of a4
  clear a1 a2 a3 a4 h h1 h2 h3 h4
  obtain ⟨ro, cs, hk, hcl, hcs⟩ := hO.at'
  refine .walkW f3_ok (by simp; decide) (by decide) ?_
  repeat' first | simp (disch := first | with_reducible assumption | omega) only [go_sem, Bool.true_and, Bool.and_true, Bool.and_self, Bool.false_and, Bool.and_false, Bool.true_or, Bool.or_true, Bool.false_or, Bool.or_false, ↓reduceIte, Nat.reduceEqDiff, Nat.reduceAdd, Nat.reduceMul, Nat.reduceSub, Nat.reduceBEq, Nat.reduceLeDiff, Nat.reduceLT, Nat.reduceMod, Nat.reduceDiv, Int.reduceToNat, Int.reducePow, Int.reduceMul, Int.reduceAdd, Int.reduceSub, Int.reduceLE, Int.reduceLT, Int.reduceNeg, Int.reduceDiv, Int.reduceMod, Int.reduceEq, Int.reduceBEq, Int.reduceBNe, f3, f3b, f3r0, f3r1, f3r2, f3r3, f3r4, f3r5, f3r6, f3r7, f3r8, f3r9, f3r10, f3r11, f3r12, f3r13, f3r14, f3r15, f3r16, f3r17, f3r18, f3r20, f3r21, f3r22, f3r23, f3r25, f3r27] | (refine BrW.of (fun hb => ?_) (fun hb => ?_) <;> (have hb' := hb; try simp only [decide_eq_true_eq, decide_eq_false_iff_not, beq_iff_eq, bne_iff_ne, beq_eq_false_iff_ne, bne_eq_false_iff_eq, Bool.not_eq_true', Bool.not_eq_false', Bool.not_eq_true, Bool.not_eq_false, Bool.and_eq_true, Bool.or_eq_true, Bool.and_eq_false_iff, Bool.or_eq_false_iff, Int.not_lt, Int.not_le, ne_eq, gt_iff_lt, ge_iff_le] at hb') <;> (try (exfalso; omega))) | (refine altW.of ?_ ?_) | (refine .of ((alive _).mono ?_); rintro v H ⟨rfl, rfl⟩)
  refine .of ((Play_w n d b l k 0 0 c _ hO (by omega)).mono ?_)
  rintro v J ⟨X, rfl, hbad, hgood⟩
  by_cases hw : wrongP n d b = 0
  · obtain ⟨w', kq, gq, cq, rfl, hI, hq, hR⟩ := hgood hw
    clear hbad hgood
    have hnum := wrong_num hw
    have hst := start_ok hw
    have hbij := fun i j hij => bound_ij hst l i j hij
    simp only [show (p0 n d b).b.den = d from rfl, show (p0 n d b).b.bu = b from rfl, show (p0 n d b).b.num = n from rfl] at hbij
    have hkG := get_old hk X
    generalize H ++ X = G at *
    have hcl2 := hR.1
    rw [ansP_length] at hcl2
    generalize hpw : runP (p0 n d b) l = p at *
    repeat' first | simp (disch := first | with_reducible assumption | omega) only [go_sem, Bool.true_and, Bool.and_true, Bool.and_self, Bool.false_and, Bool.and_false, Bool.true_or, Bool.or_true, Bool.false_or, Bool.or_false, ↓reduceIte, Nat.reduceEqDiff, Nat.reduceAdd, Nat.reduceMul, Nat.reduceSub, Nat.reduceBEq, Nat.reduceLeDiff, Nat.reduceLT, Nat.reduceMod, Nat.reduceDiv, Int.reduceToNat, Int.reducePow, Int.reduceMul, Int.reduceAdd, Int.reduceSub, Int.reduceLE, Int.reduceLT, Int.reduceNeg, Int.reduceDiv, Int.reduceMod, Int.reduceEq, Int.reduceBEq, Int.reduceBNe, f3, f3b, f3r0, f3r1, f3r2, f3r3, f3r4, f3r5, f3r6, f3r7, f3r8, f3r9, f3r10, f3r11, f3r12, f3r13, f3r14, f3r15, f3r16, f3r17, f3r18, f3r20, f3r21, f3r22, f3r23, f3r25, f3r27, P.val, hkG, get_old hkG, hq, get_old hq] | (refine BrW.of (fun hb => ?_) (fun hb => ?_) <;> (have hb' := hb; try simp only [decide_eq_true_eq, decide_eq_false_iff_not, beq_iff_eq, bne_iff_ne, beq_eq_false_iff_ne, bne_eq_false_iff_eq, Bool.not_eq_true', Bool.not_eq_false', Bool.not_eq_true, Bool.not_eq_false, Bool.and_eq_true, Bool.or_eq_true, Bool.and_eq_false_iff, Bool.or_eq_false_iff, Int.not_lt, Int.not_le, ne_eq, gt_iff_lt, ge_iff_le] at hb') <;> (try (exfalso; omega))) | (refine altW.of ?_ ?_)
    replace hR := hR.app [.cells 0 0 false (P.cells p w')]
    replace hkG := get_old hkG [.cells 0 0 false (P.cells p w')]
    replace hq := get_old hq [.cells 0 0 false (P.cells p w')]
    simp only [P.cells] at hR hkG hq
    clear hO hI
    generalize G ++ [.cells 0 0 false [w', .int .i64 100, .int .i64 60000, .int .i64 p.dr, .int .i64 p.b.num, .int .i64 p.b.den, .int .i64 p.b.bu, .int .i64 p.b.lv, .int .i64 p.b.at', .int .i64 p.se]] = Z at *
    obtain ⟨M, hM, hMl⟩ : ∃ M : Nat, min (l.length : Int) 60 = M ∧ M ≤ l.length := ⟨min l.length 60, by omega, by omega⟩
    rw [hM]
    have hst2 := fun j (hj : j < l.length) => at_step hw hR j hj
    have hsb := se_bound hw l (by omega)
    clear hR hst hpw
    generalize hS : (fun j => (runP (p0 n d b) (l.take j)).se) = S
    have hS' : ∀ j, (runP (p0 n d b) (l.take j)).se = S j := fun j => by rw [← hS]
    generalize hg : (fun j => gone (l.take j)) = g
    have hg' : ∀ j, gone (l.take j) = g j := fun j => by rw [← hg]
    simp only [hS', hg'] at hst2 hsb hbij
    clear hS hg hS' hg'
    have hbd : 0 ≤ b * d ∧ b * d ≤ 1048576 * 1048576 := ⟨Int.mul_nonneg (by omega) (by omega), Int.mul_le_mul (by omega) (by omega) (by omega) (by omega)⟩
    refine loopW.of (by decide) (fun m e J => ∃ (i : Nat), e = [(0, .int .i64 n), (1, .int .i64 d), (2, .int .i64 b), (3, slv k 0 0 l.length c), (9, slv kq 0 gq l.length l.length), (47, .int .i64 M), (48, .int .i64 i)] ∧ J = Z ∧ i ≤ M ∧ m = M - i) M ⟨0, rfl, rfl, by omega, rfl⟩ ?_
    rintro m e J ⟨i, rfl, rfl, hi, rfl⟩
    by_cases hlt : i < M
    · repeat' first | simp (disch := first | with_reducible assumption | omega) only [go_sem, Bool.true_and, Bool.and_true, Bool.and_self, Bool.false_and, Bool.and_false, Bool.true_or, Bool.or_true, Bool.false_or, Bool.or_false, ↓reduceIte, Nat.reduceEqDiff, Nat.reduceAdd, Nat.reduceMul, Nat.reduceSub, Nat.reduceBEq, Nat.reduceLeDiff, Nat.reduceLT, Nat.reduceMod, Nat.reduceDiv, Int.reduceToNat, Int.reducePow, Int.reduceMul, Int.reduceAdd, Int.reduceSub, Int.reduceLE, Int.reduceLT, Int.reduceNeg, Int.reduceDiv, Int.reduceMod, Int.reduceEq, Int.reduceBEq, Int.reduceBNe, f3, f3b, f3r0, f3r1, f3r2, f3r3, f3r4, f3r5, f3r6, f3r7, f3r8, f3r9, f3r10, f3r11, f3r12, f3r13, f3r14, f3r15, f3r16, f3r17, f3r18, f3r20, f3r21, f3r22, f3r23, f3r25, f3r27, f3l2] | (refine BrW.of (fun hb => ?_) (fun hb => ?_) <;> (have hb' := hb; try simp only [decide_eq_true_eq, decide_eq_false_iff_not, beq_iff_eq, bne_iff_ne, beq_eq_false_iff_ne, bne_eq_false_iff_eq, Bool.not_eq_true', Bool.not_eq_false', Bool.not_eq_true, Bool.not_eq_false, Bool.and_eq_true, Bool.or_eq_true, Bool.and_eq_false_iff, Bool.or_eq_false_iff, Int.not_lt, Int.not_le, ne_eq, gt_iff_lt, ge_iff_le] at hb') <;> (try (exfalso; omega))) | (refine altW.of ?_ ?_)
      refine loopW.of (by decide) (fun m e Y => ∃ (j : Nat), e = [(0, .int .i64 n), (1, .int .i64 d), (2, .int .i64 b), (3, slv k 0 0 l.length c), (9, slv kq 0 gq l.length l.length), (13, .int .i64 (S j - S i)), (14, .int .i64 (g j - g i)), (15, .int .i64 j), (47, .int .i64 M), (48, .int .i64 i)] ∧ Y = J ∧ i ≤ j ∧ j ≤ l.length ∧ m = l.length - j ∧ 0 ≤ g j - g i ∧ g j - g i ≤ 1048576) (l.length - i) ⟨i, by rw [Int.sub_self, Int.sub_self], rfl, by omega, by omega, by omega, by omega, by omega⟩ ?_
      rintro m e J ⟨j, rfl, rfl, hij, hj, rfl, gj0, gj1⟩
      by_cases hlj : j < l.length
      · obtain ⟨v, e, s, x0, x1, hv, hS1, hs1, hs2, hg1, hg2⟩ := hst2 j hlj
        have hb1 := hsb i
        have hb2 := hsb j
        have hb3 := hsb (j + 1)
        have hle := hbij i (j + 1) (by omega)
        have y0 : cs[0 + j * 2]? = some (.int .i64 (l.getD j o0).k) := hcs j hlj 0 (by omega)
        have y1 : cs[0 + j * 2 + 1]? = some (.int .i64 (l.getD j o0).n) := hcs j hlj 1 (by omega)
        rw [Nat.zero_add] at y0 y1
        have hsum := take_sum hs1
        have hd1 := Int.mul_le_mul (show S (j + 1) - S i ≤ 1572864000 by omega) hnum.2.2.2.1 (by omega) (by omega)
        have hd2 := Int.mul_le_mul_of_nonneg_right (show -1572864000 ≤ S (j + 1) - S i by omega) (show 0 ≤ d by omega)
        have hng : 0 ≤ g (j + 1) - g i → g (j + 1) - g i ≤ 1048576 → 0 ≤ n * (g (j + 1) - g i) ∧ n * (g (j + 1) - g i) ≤ 1099511627776 := fun h1 h2 => ⟨Int.mul_nonneg hnum.1 h1, Int.mul_le_mul hnum.2.1 h2 h1 (by omega)⟩
        clear hst2 hbij hsb
        generalize l.getD j o0 = o at *
        obtain ⟨ok, on⟩ := o
        simp only at y0 y1 hg1 hg2
        by_cases hke : ok = 2 ∧ e = 0
        · obtain ⟨hg3, hg4, hg5⟩ := hg1 hke
          obtain ⟨rfl, rfl⟩ := hke
          clear hg1 hg2
          rcases hv with ⟨rfl, rfl⟩ | ⟨kv, ov, gv, cv, rfl, hV, hcv⟩
          · repeat' first | simp (disch := first | with_reducible assumption | omega) only [go_sem, Bool.true_and, Bool.and_true, Bool.and_self, Bool.false_and, Bool.and_false, Bool.true_or, Bool.or_true, Bool.false_or, Bool.or_false, ↓reduceIte, Nat.reduceEqDiff, Nat.reduceAdd, Nat.reduceMul, Nat.reduceSub, Nat.reduceBEq, Nat.reduceLeDiff, Nat.reduceLT, Nat.reduceMod, Nat.reduceDiv, Int.reduceToNat, Int.reducePow, Int.reduceMul, Int.reduceAdd, Int.reduceSub, Int.reduceLE, Int.reduceLT, Int.reduceNeg, Int.reduceDiv, Int.reduceMod, Int.reduceEq, Int.reduceBEq, Int.reduceBNe, f3, f3b, f3r0, f3r1, f3r2, f3r3, f3r4, f3r5, f3r6, f3r7, f3r8, f3r9, f3r10, f3r11, f3r12, f3r13, f3r14, f3r15, f3r16, f3r17, f3r18, f3r20, f3r21, f3r22, f3r23, f3r25, f3r27, f3l1, hkG, hq, x0, x1, y0, y1] | (refine BrW.of (fun hb => ?_) (fun hb => ?_) <;> (have hb' := hb; try simp only [decide_eq_true_eq, decide_eq_false_iff_not, beq_iff_eq, bne_iff_ne, beq_eq_false_iff_ne, bne_eq_false_iff_eq, Bool.not_eq_true', Bool.not_eq_false', Bool.not_eq_true, Bool.not_eq_false, Bool.and_eq_true, Bool.or_eq_true, Bool.and_eq_false_iff, Bool.or_eq_false_iff, Int.not_lt, Int.not_le, ne_eq, gt_iff_lt, ge_iff_le] at hb') <;> (try (exfalso; omega))) | (refine altW.of ?_ ?_)
            all_goals first | (exfalso; omega) | skip
            rw [show g j - g i + on = g (j + 1) - g i by omega]
            refine loopW.of (by decide) (fun m e Y => e = [(0, .int .i64 n), (1, .int .i64 d), (2, .int .i64 b), (3, slv k 0 0 l.length c), (9, slv kq 0 gq l.length l.length), (13, .int .i64 (S (j + 1) - S i)), (14, .int .i64 (g (j + 1) - g i)), (15, .int .i64 j), (47, .int .i64 M), (48, .int .i64 i), (83, .slice none 0 0), (84, .int .i64 0), (85, .int .i64 0)] ∧ Y = J) 0 ⟨by rw [hS1]; simp, rfl⟩ ?_
            rintro m e Y ⟨rfl, rfl⟩
            repeat' first | simp (disch := first | with_reducible assumption | omega) only [go_sem, Bool.true_and, Bool.and_true, Bool.and_self, Bool.false_and, Bool.and_false, Bool.true_or, Bool.or_true, Bool.false_or, Bool.or_false, ↓reduceIte, Nat.reduceEqDiff, Nat.reduceAdd, Nat.reduceMul, Nat.reduceSub, Nat.reduceBEq, Nat.reduceLeDiff, Nat.reduceLT, Nat.reduceMod, Nat.reduceDiv, Int.reduceToNat, Int.reducePow, Int.reduceMul, Int.reduceAdd, Int.reduceSub, Int.reduceLE, Int.reduceLT, Int.reduceNeg, Int.reduceDiv, Int.reduceMod, Int.reduceEq, Int.reduceBEq, Int.reduceBNe, f3, f3b, f3r0, f3r1, f3r2, f3r3, f3r4, f3r5, f3r6, f3r7, f3r8, f3r9, f3r10, f3r11, f3r12, f3r13, f3r14, f3r15, f3r16, f3r17, f3r18, f3r20, f3r21, f3r22, f3r23, f3r25, f3r27, f3l0, f3, f3b, f3r0, f3r1, f3r2, f3r3, f3r4, f3r5, f3r6, f3r7, f3r8, f3r9, f3r10, f3r11, f3r12, f3r13, f3r14, f3r15, f3r16, f3r17, f3r18, f3r20, f3r21, f3r22, f3r23, f3r25, f3r27, f3l1, f3, f3b, f3r0, f3r1, f3r2, f3r3, f3r4, f3r5, f3r6, f3r7, f3r8, f3r9, f3r10, f3r11, f3r12, f3r13, f3r14, f3r15, f3r16, f3r17, f3r18, f3r20, f3r21, f3r22, f3r23, f3r25, f3r27, f3l2] | (refine BrW.of (fun hb => ?_) (fun hb => ?_) <;> (have hb' := hb; try simp only [decide_eq_true_eq, decide_eq_false_iff_not, beq_iff_eq, bne_iff_ne, beq_eq_false_iff_ne, bne_eq_false_iff_eq, Bool.not_eq_true', Bool.not_eq_false', Bool.not_eq_true, Bool.not_eq_false, Bool.and_eq_true, Bool.or_eq_true, Bool.and_eq_false_iff, Bool.or_eq_false_iff, Int.not_lt, Int.not_le, ne_eq, gt_iff_lt, ge_iff_le] at hb') <;> (try (exfalso; omega))) | (refine altW.of ?_ ?_)
            all_goals first | (exfalso; omega) | (refine RdW.keep [0, 1, 2, 3, 9, 13, 14, 15, 47, 48] (l.length - (j + 1)) (by omega) ?_; simp (disch := first | with_reducible assumption | omega) only [go_sem, Bool.true_and, Bool.and_true, Bool.and_self, Bool.false_and, Bool.and_false, Bool.true_or, Bool.or_true, Bool.false_or, Bool.or_false, ↓reduceIte, Nat.reduceEqDiff, Nat.reduceAdd, Nat.reduceMul, Nat.reduceSub, Nat.reduceBEq, Nat.reduceLeDiff, Nat.reduceLT, Nat.reduceMod, Nat.reduceDiv, Int.reduceToNat, Int.reducePow, Int.reduceMul, Int.reduceAdd, Int.reduceSub, Int.reduceLE, Int.reduceLT, Int.reduceNeg, Int.reduceDiv, Int.reduceMod, Int.reduceEq, Int.reduceBEq, Int.reduceBNe]; exact ⟨j + 1, rfl, by omega, by omega, rfl, by omega, by omega⟩) | (refine RdW.keep [0, 1, 2, 3, 9, 47, 48] (M - (i + 1)) (by omega) ?_; simp (disch := first | with_reducible assumption | omega) only [go_sem, Bool.true_and, Bool.and_true, Bool.and_self, Bool.false_and, Bool.and_false, Bool.true_or, Bool.or_true, Bool.false_or, Bool.or_false, ↓reduceIte, Nat.reduceEqDiff, Nat.reduceAdd, Nat.reduceMul, Nat.reduceSub, Nat.reduceBEq, Nat.reduceLeDiff, Nat.reduceLT, Nat.reduceMod, Nat.reduceDiv, Int.reduceToNat, Int.reducePow, Int.reduceMul, Int.reduceAdd, Int.reduceSub, Int.reduceLE, Int.reduceLT, Int.reduceNeg, Int.reduceDiv, Int.reduceMod, Int.reduceEq, Int.reduceBEq, Int.reduceBNe]; exact ⟨i + 1, rfl, by omega, rfl⟩)
          · obtain ⟨rv, cc, hkv, hcv2, v0⟩ := Ints.cell hV
            repeat' first | simp (disch := first | with_reducible assumption | omega) only [go_sem, Bool.true_and, Bool.and_true, Bool.and_self, Bool.false_and, Bool.and_false, Bool.true_or, Bool.or_true, Bool.false_or, Bool.or_false, ↓reduceIte, Nat.reduceEqDiff, Nat.reduceAdd, Nat.reduceMul, Nat.reduceSub, Nat.reduceBEq, Nat.reduceLeDiff, Nat.reduceLT, Nat.reduceMod, Nat.reduceDiv, Int.reduceToNat, Int.reducePow, Int.reduceMul, Int.reduceAdd, Int.reduceSub, Int.reduceLE, Int.reduceLT, Int.reduceNeg, Int.reduceDiv, Int.reduceMod, Int.reduceEq, Int.reduceBEq, Int.reduceBNe, f3, f3b, f3r0, f3r1, f3r2, f3r3, f3r4, f3r5, f3r6, f3r7, f3r8, f3r9, f3r10, f3r11, f3r12, f3r13, f3r14, f3r15, f3r16, f3r17, f3r18, f3r20, f3r21, f3r22, f3r23, f3r25, f3r27, f3l1, hkG, hq, x0, x1, y0, y1, hkv] | (refine BrW.of (fun hb => ?_) (fun hb => ?_) <;> (have hb' := hb; try simp only [decide_eq_true_eq, decide_eq_false_iff_not, beq_iff_eq, bne_iff_ne, beq_eq_false_iff_ne, bne_eq_false_iff_eq, Bool.not_eq_true', Bool.not_eq_false', Bool.not_eq_true, Bool.not_eq_false, Bool.and_eq_true, Bool.or_eq_true, Bool.and_eq_false_iff, Bool.or_eq_false_iff, Int.not_lt, Int.not_le, ne_eq, gt_iff_lt, ge_iff_le] at hb') <;> (try (exfalso; omega))) | (refine altW.of ?_ ?_)
            all_goals first | (exfalso; omega) | skip
            rw [show g j - g i + on = g (j + 1) - g i by omega]
            refine loopW.of (by decide) (fun m e Y => ∃ q : Nat, e = [(0, .int .i64 n), (1, .int .i64 d), (2, .int .i64 b), (3, slv k 0 0 l.length c), (9, slv kq 0 gq l.length l.length), (13, .int .i64 (S j - S i + (s.take q).sum)), (14, .int .i64 (g (j + 1) - g i)), (15, .int .i64 j), (47, .int .i64 M), (48, .int .i64 i), (83, slv kv ov gv s.length cv), (84, .int .i64 s.length), (85, .int .i64 q)] ∧ Y = J ∧ q ≤ s.length ∧ m = s.length - q) s.length ⟨0, by simp, rfl, by omega, rfl⟩ ?_
            rintro m e Y ⟨q, rfl, rfl, hqs, rfl⟩
            by_cases hql : q < s.length
            · obtain ⟨s1, s2, s3, s4, s5⟩ := hsum q hql
              have z0 := v0 q hql
              generalize s.getD q 0 = z at *
              repeat' first | simp (disch := first | with_reducible assumption | omega) only [go_sem, Bool.true_and, Bool.and_true, Bool.and_self, Bool.false_and, Bool.and_false, Bool.true_or, Bool.or_true, Bool.false_or, Bool.or_false, ↓reduceIte, Nat.reduceEqDiff, Nat.reduceAdd, Nat.reduceMul, Nat.reduceSub, Nat.reduceBEq, Nat.reduceLeDiff, Nat.reduceLT, Nat.reduceMod, Nat.reduceDiv, Int.reduceToNat, Int.reducePow, Int.reduceMul, Int.reduceAdd, Int.reduceSub, Int.reduceLE, Int.reduceLT, Int.reduceNeg, Int.reduceDiv, Int.reduceMod, Int.reduceEq, Int.reduceBEq, Int.reduceBNe, f3, f3b, f3r0, f3r1, f3r2, f3r3, f3r4, f3r5, f3r6, f3r7, f3r8, f3r9, f3r10, f3r11, f3r12, f3r13, f3r14, f3r15, f3r16, f3r17, f3r18, f3r20, f3r21, f3r22, f3r23, f3r25, f3r27, f3l0, hkv, z0] | (refine BrW.of (fun hb => ?_) (fun hb => ?_) <;> (have hb' := hb; try simp only [decide_eq_true_eq, decide_eq_false_iff_not, beq_iff_eq, bne_iff_ne, beq_eq_false_iff_ne, bne_eq_false_iff_eq, Bool.not_eq_true', Bool.not_eq_false', Bool.not_eq_true, Bool.not_eq_false, Bool.and_eq_true, Bool.or_eq_true, Bool.and_eq_false_iff, Bool.or_eq_false_iff, Int.not_lt, Int.not_le, ne_eq, gt_iff_lt, ge_iff_le] at hb') <;> (try (exfalso; omega))) | (refine altW.of ?_ ?_)
              refine RdW.keep [0, 1, 2, 3, 9, 13, 14, 15, 47, 48, 83, 84, 85] (s.length - (q + 1)) (by omega) ?_
              simp (disch := first | with_reducible assumption | omega) only [go_sem, Bool.true_and, Bool.and_true, Bool.and_self, Bool.false_and, Bool.and_false, Bool.true_or, Bool.or_true, Bool.false_or, Bool.or_false, ↓reduceIte, Nat.reduceEqDiff, Nat.reduceAdd, Nat.reduceMul, Nat.reduceSub, Nat.reduceBEq, Nat.reduceLeDiff, Nat.reduceLT, Nat.reduceMod, Nat.reduceDiv, Int.reduceToNat, Int.reducePow, Int.reduceMul, Int.reduceAdd, Int.reduceSub, Int.reduceLE, Int.reduceLT, Int.reduceNeg, Int.reduceDiv, Int.reduceMod, Int.reduceEq, Int.reduceBEq, Int.reduceBNe]
              exact ⟨q + 1, by rw [s1, ← Int.add_assoc]; rfl, by omega, rfl⟩
            · obtain rfl : q = s.length := by omega
              rw [List.take_length, show S j - S i + s.sum = S (j + 1) - S i by omega]
              repeat' first | simp (disch := first | with_reducible assumption | omega) only [go_sem, Bool.true_and, Bool.and_true, Bool.and_self, Bool.false_and, Bool.and_false, Bool.true_or, Bool.or_true, Bool.false_or, Bool.or_false, ↓reduceIte, Nat.reduceEqDiff, Nat.reduceAdd, Nat.reduceMul, Nat.reduceSub, Nat.reduceBEq, Nat.reduceLeDiff, Nat.reduceLT, Nat.reduceMod, Nat.reduceDiv, Int.reduceToNat, Int.reducePow, Int.reduceMul, Int.reduceAdd, Int.reduceSub, Int.reduceLE, Int.reduceLT, Int.reduceNeg, Int.reduceDiv, Int.reduceMod, Int.reduceEq, Int.reduceBEq, Int.reduceBNe, f3, f3b, f3r0, f3r1, f3r2, f3r3, f3r4, f3r5, f3r6, f3r7, f3r8, f3r9, f3r10, f3r11, f3r12, f3r13, f3r14, f3r15, f3r16, f3r17, f3r18, f3r20, f3r21, f3r22, f3r23, f3r25, f3r27, f3l0, f3, f3b, f3r0, f3r1, f3r2, f3r3, f3r4, f3r5, f3r6, f3r7, f3r8, f3r9, f3r10, f3r11, f3r12, f3r13, f3r14, f3r15, f3r16, f3r17, f3r18, f3r20, f3r21, f3r22, f3r23, f3r25, f3r27, f3l1, f3, f3b, f3r0, f3r1, f3r2, f3r3, f3r4, f3r5, f3r6, f3r7, f3r8, f3r9, f3r10, f3r11, f3r12, f3r13, f3r14, f3r15, f3r16, f3r17, f3r18, f3r20, f3r21, f3r22, f3r23, f3r25, f3r27, f3l2] | (refine BrW.of (fun hb => ?_) (fun hb => ?_) <;> (have hb' := hb; try simp only [decide_eq_true_eq, decide_eq_false_iff_not, beq_iff_eq, bne_iff_ne, beq_eq_false_iff_ne, bne_eq_false_iff_eq, Bool.not_eq_true', Bool.not_eq_false', Bool.not_eq_true, Bool.not_eq_false, Bool.and_eq_true, Bool.or_eq_true, Bool.and_eq_false_iff, Bool.or_eq_false_iff, Int.not_lt, Int.not_le, ne_eq, gt_iff_lt, ge_iff_le] at hb') <;> (try (exfalso; omega))) | (refine altW.of ?_ ?_)
              all_goals first | (exfalso; omega) | (refine RdW.keep [0, 1, 2, 3, 9, 13, 14, 15, 47, 48] (l.length - (j + 1)) (by omega) ?_; simp (disch := first | with_reducible assumption | omega) only [go_sem, Bool.true_and, Bool.and_true, Bool.and_self, Bool.false_and, Bool.and_false, Bool.true_or, Bool.or_true, Bool.false_or, Bool.or_false, ↓reduceIte, Nat.reduceEqDiff, Nat.reduceAdd, Nat.reduceMul, Nat.reduceSub, Nat.reduceBEq, Nat.reduceLeDiff, Nat.reduceLT, Nat.reduceMod, Nat.reduceDiv, Int.reduceToNat, Int.reducePow, Int.reduceMul, Int.reduceAdd, Int.reduceSub, Int.reduceLE, Int.reduceLT, Int.reduceNeg, Int.reduceDiv, Int.reduceMod, Int.reduceEq, Int.reduceBEq, Int.reduceBNe]; exact ⟨j + 1, rfl, by omega, by omega, rfl, by omega, by omega⟩) | (refine RdW.keep [0, 1, 2, 3, 9, 47, 48] (M - (i + 1)) (by omega) ?_; simp (disch := first | with_reducible assumption | omega) only [go_sem, Bool.true_and, Bool.and_true, Bool.and_self, Bool.false_and, Bool.and_false, Bool.true_or, Bool.or_true, Bool.false_or, Bool.or_false, ↓reduceIte, Nat.reduceEqDiff, Nat.reduceAdd, Nat.reduceMul, Nat.reduceSub, Nat.reduceBEq, Nat.reduceLeDiff, Nat.reduceLT, Nat.reduceMod, Nat.reduceDiv, Int.reduceToNat, Int.reducePow, Int.reduceMul, Int.reduceAdd, Int.reduceSub, Int.reduceLE, Int.reduceLT, Int.reduceNeg, Int.reduceDiv, Int.reduceMod, Int.reduceEq, Int.reduceBEq, Int.reduceBNe]; exact ⟨i + 1, rfl, by omega, rfl⟩)
        · have hg3 := hg2 hke
          clear hg1 hg2
          rcases hv with ⟨rfl, rfl⟩ | ⟨kv, ov, gv, cv, rfl, hV, hcv⟩
          · repeat' first | simp (disch := first | with_reducible assumption | omega) only [go_sem, Bool.true_and, Bool.and_true, Bool.and_self, Bool.false_and, Bool.and_false, Bool.true_or, Bool.or_true, Bool.false_or, Bool.or_false, ↓reduceIte, Nat.reduceEqDiff, Nat.reduceAdd, Nat.reduceMul, Nat.reduceSub, Nat.reduceBEq, Nat.reduceLeDiff, Nat.reduceLT, Nat.reduceMod, Nat.reduceDiv, Int.reduceToNat, Int.reducePow, Int.reduceMul, Int.reduceAdd, Int.reduceSub, Int.reduceLE, Int.reduceLT, Int.reduceNeg, Int.reduceDiv, Int.reduceMod, Int.reduceEq, Int.reduceBEq, Int.reduceBNe, f3, f3b, f3r0, f3r1, f3r2, f3r3, f3r4, f3r5, f3r6, f3r7, f3r8, f3r9, f3r10, f3r11, f3r12, f3r13, f3r14, f3r15, f3r16, f3r17, f3r18, f3r20, f3r21, f3r22, f3r23, f3r25, f3r27, f3l1, hkG, hq, x0, x1, y0, y1] | (refine BrW.of (fun hb => ?_) (fun hb => ?_) <;> (have hb' := hb; try simp only [decide_eq_true_eq, decide_eq_false_iff_not, beq_iff_eq, bne_iff_ne, beq_eq_false_iff_ne, bne_eq_false_iff_eq, Bool.not_eq_true', Bool.not_eq_false', Bool.not_eq_true, Bool.not_eq_false, Bool.and_eq_true, Bool.or_eq_true, Bool.and_eq_false_iff, Bool.or_eq_false_iff, Int.not_lt, Int.not_le, ne_eq, gt_iff_lt, ge_iff_le] at hb') <;> (try (exfalso; omega))) | (refine altW.of ?_ ?_)
            all_goals first | (exfalso; omega) | skip
            all_goals
              rw [← hg3]
              refine loopW.of (by decide) (fun m e Y => e = [(0, .int .i64 n), (1, .int .i64 d), (2, .int .i64 b), (3, slv k 0 0 l.length c), (9, slv kq 0 gq l.length l.length), (13, .int .i64 (S (j + 1) - S i)), (14, .int .i64 (g (j + 1) - g i)), (15, .int .i64 j), (47, .int .i64 M), (48, .int .i64 i), (83, .slice none 0 0), (84, .int .i64 0), (85, .int .i64 0)] ∧ Y = J) 0 ⟨by rw [hS1]; simp, rfl⟩ ?_
              rintro m e Y ⟨rfl, rfl⟩
              repeat' first | simp (disch := first | with_reducible assumption | omega) only [go_sem, Bool.true_and, Bool.and_true, Bool.and_self, Bool.false_and, Bool.and_false, Bool.true_or, Bool.or_true, Bool.false_or, Bool.or_false, ↓reduceIte, Nat.reduceEqDiff, Nat.reduceAdd, Nat.reduceMul, Nat.reduceSub, Nat.reduceBEq, Nat.reduceLeDiff, Nat.reduceLT, Nat.reduceMod, Nat.reduceDiv, Int.reduceToNat, Int.reducePow, Int.reduceMul, Int.reduceAdd, Int.reduceSub, Int.reduceLE, Int.reduceLT, Int.reduceNeg, Int.reduceDiv, Int.reduceMod, Int.reduceEq, Int.reduceBEq, Int.reduceBNe, f3, f3b, f3r0, f3r1, f3r2, f3r3, f3r4, f3r5, f3r6, f3r7, f3r8, f3r9, f3r10, f3r11, f3r12, f3r13, f3r14, f3r15, f3r16, f3r17, f3r18, f3r20, f3r21, f3r22, f3r23, f3r25, f3r27, f3l0, f3, f3b, f3r0, f3r1, f3r2, f3r3, f3r4, f3r5, f3r6, f3r7, f3r8, f3r9, f3r10, f3r11, f3r12, f3r13, f3r14, f3r15, f3r16, f3r17, f3r18, f3r20, f3r21, f3r22, f3r23, f3r25, f3r27, f3l1, f3, f3b, f3r0, f3r1, f3r2, f3r3, f3r4, f3r5, f3r6, f3r7, f3r8, f3r9, f3r10, f3r11, f3r12, f3r13, f3r14, f3r15, f3r16, f3r17, f3r18, f3r20, f3r21, f3r22, f3r23, f3r25, f3r27, f3l2] | (refine BrW.of (fun hb => ?_) (fun hb => ?_) <;> (have hb' := hb; try simp only [decide_eq_true_eq, decide_eq_false_iff_not, beq_iff_eq, bne_iff_ne, beq_eq_false_iff_ne, bne_eq_false_iff_eq, Bool.not_eq_true', Bool.not_eq_false', Bool.not_eq_true, Bool.not_eq_false, Bool.and_eq_true, Bool.or_eq_true, Bool.and_eq_false_iff, Bool.or_eq_false_iff, Int.not_lt, Int.not_le, ne_eq, gt_iff_lt, ge_iff_le] at hb') <;> (try (exfalso; omega))) | (refine altW.of ?_ ?_)
              all_goals first | (exfalso; omega) | (refine RdW.keep [0, 1, 2, 3, 9, 13, 14, 15, 47, 48] (l.length - (j + 1)) (by omega) ?_; simp (disch := first | with_reducible assumption | omega) only [go_sem, Bool.true_and, Bool.and_true, Bool.and_self, Bool.false_and, Bool.and_false, Bool.true_or, Bool.or_true, Bool.false_or, Bool.or_false, ↓reduceIte, Nat.reduceEqDiff, Nat.reduceAdd, Nat.reduceMul, Nat.reduceSub, Nat.reduceBEq, Nat.reduceLeDiff, Nat.reduceLT, Nat.reduceMod, Nat.reduceDiv, Int.reduceToNat, Int.reducePow, Int.reduceMul, Int.reduceAdd, Int.reduceSub, Int.reduceLE, Int.reduceLT, Int.reduceNeg, Int.reduceDiv, Int.reduceMod, Int.reduceEq, Int.reduceBEq, Int.reduceBNe]; exact ⟨j + 1, rfl, by omega, by omega, rfl, by omega, by omega⟩) | (refine RdW.keep [0, 1, 2, 3, 9, 47, 48] (M - (i + 1)) (by omega) ?_; simp (disch := first | with_reducible assumption | omega) only [go_sem, Bool.true_and, Bool.and_true, Bool.and_self, Bool.false_and, Bool.and_false, Bool.true_or, Bool.or_true, Bool.false_or, Bool.or_false, ↓reduceIte, Nat.reduceEqDiff, Nat.reduceAdd, Nat.reduceMul, Nat.reduceSub, Nat.reduceBEq, Nat.reduceLeDiff, Nat.reduceLT, Nat.reduceMod, Nat.reduceDiv, Int.reduceToNat, Int.reducePow, Int.reduceMul, Int.reduceAdd, Int.reduceSub, Int.reduceLE, Int.reduceLT, Int.reduceNeg, Int.reduceDiv, Int.reduceMod, Int.reduceEq, Int.reduceBEq, Int.reduceBNe]; exact ⟨i + 1, rfl, by omega, rfl⟩)
          · obtain ⟨rv, cc, hkv, hcv2, v0⟩ := Ints.cell hV
            repeat' first | simp (disch := first | with_reducible assumption | omega) only [go_sem, Bool.true_and, Bool.and_true, Bool.and_self, Bool.false_and, Bool.and_false, Bool.true_or, Bool.or_true, Bool.false_or, Bool.or_false, ↓reduceIte, Nat.reduceEqDiff, Nat.reduceAdd, Nat.reduceMul, Nat.reduceSub, Nat.reduceBEq, Nat.reduceLeDiff, Nat.reduceLT, Nat.reduceMod, Nat.reduceDiv, Int.reduceToNat, Int.reducePow, Int.reduceMul, Int.reduceAdd, Int.reduceSub, Int.reduceLE, Int.reduceLT, Int.reduceNeg, Int.reduceDiv, Int.reduceMod, Int.reduceEq, Int.reduceBEq, Int.reduceBNe, f3, f3b, f3r0, f3r1, f3r2, f3r3, f3r4, f3r5, f3r6, f3r7, f3r8, f3r9, f3r10, f3r11, f3r12, f3r13, f3r14, f3r15, f3r16, f3r17, f3r18, f3r20, f3r21, f3r22, f3r23, f3r25, f3r27, f3l1, hkG, hq, x0, x1, y0, y1, hkv] | (refine BrW.of (fun hb => ?_) (fun hb => ?_) <;> (have hb' := hb; try simp only [decide_eq_true_eq, decide_eq_false_iff_not, beq_iff_eq, bne_iff_ne, beq_eq_false_iff_ne, bne_eq_false_iff_eq, Bool.not_eq_true', Bool.not_eq_false', Bool.not_eq_true, Bool.not_eq_false, Bool.and_eq_true, Bool.or_eq_true, Bool.and_eq_false_iff, Bool.or_eq_false_iff, Int.not_lt, Int.not_le, ne_eq, gt_iff_lt, ge_iff_le] at hb') <;> (try (exfalso; omega))) | (refine altW.of ?_ ?_)
            all_goals first | (exfalso; omega) | skip
            all_goals
              rw [← hg3]
              refine loopW.of (by decide) (fun m e Y => ∃ q : Nat, e = [(0, .int .i64 n), (1, .int .i64 d), (2, .int .i64 b), (3, slv k 0 0 l.length c), (9, slv kq 0 gq l.length l.length), (13, .int .i64 (S j - S i + (s.take q).sum)), (14, .int .i64 (g (j + 1) - g i)), (15, .int .i64 j), (47, .int .i64 M), (48, .int .i64 i), (83, slv kv ov gv s.length cv), (84, .int .i64 s.length), (85, .int .i64 q)] ∧ Y = J ∧ q ≤ s.length ∧ m = s.length - q) s.length ⟨0, by simp, rfl, by omega, rfl⟩ ?_
              rintro m e Y ⟨q, rfl, rfl, hqs, rfl⟩
              by_cases hql : q < s.length
              · obtain ⟨s1, s2, s3, s4, s5⟩ := hsum q hql
                have z0 := v0 q hql
                generalize s.getD q 0 = z at *
                repeat' first | simp (disch := first | with_reducible assumption | omega) only [go_sem, Bool.true_and, Bool.and_true, Bool.and_self, Bool.false_and, Bool.and_false, Bool.true_or, Bool.or_true, Bool.false_or, Bool.or_false, ↓reduceIte, Nat.reduceEqDiff, Nat.reduceAdd, Nat.reduceMul, Nat.reduceSub, Nat.reduceBEq, Nat.reduceLeDiff, Nat.reduceLT, Nat.reduceMod, Nat.reduceDiv, Int.reduceToNat, Int.reducePow, Int.reduceMul, Int.reduceAdd, Int.reduceSub, Int.reduceLE, Int.reduceLT, Int.reduceNeg, Int.reduceDiv, Int.reduceMod, Int.reduceEq, Int.reduceBEq, Int.reduceBNe, f3, f3b, f3r0, f3r1, f3r2, f3r3, f3r4, f3r5, f3r6, f3r7, f3r8, f3r9, f3r10, f3r11, f3r12, f3r13, f3r14, f3r15, f3r16, f3r17, f3r18, f3r20, f3r21, f3r22, f3r23, f3r25, f3r27, f3l0, hkv, z0] | (refine BrW.of (fun hb => ?_) (fun hb => ?_) <;> (have hb' := hb; try simp only [decide_eq_true_eq, decide_eq_false_iff_not, beq_iff_eq, bne_iff_ne, beq_eq_false_iff_ne, bne_eq_false_iff_eq, Bool.not_eq_true', Bool.not_eq_false', Bool.not_eq_true, Bool.not_eq_false, Bool.and_eq_true, Bool.or_eq_true, Bool.and_eq_false_iff, Bool.or_eq_false_iff, Int.not_lt, Int.not_le, ne_eq, gt_iff_lt, ge_iff_le] at hb') <;> (try (exfalso; omega))) | (refine altW.of ?_ ?_)
                refine RdW.keep [0, 1, 2, 3, 9, 13, 14, 15, 47, 48, 83, 84, 85] (s.length - (q + 1)) (by omega) ?_
                simp (disch := first | with_reducible assumption | omega) only [go_sem, Bool.true_and, Bool.and_true, Bool.and_self, Bool.false_and, Bool.and_false, Bool.true_or, Bool.or_true, Bool.false_or, Bool.or_false, ↓reduceIte, Nat.reduceEqDiff, Nat.reduceAdd, Nat.reduceMul, Nat.reduceSub, Nat.reduceBEq, Nat.reduceLeDiff, Nat.reduceLT, Nat.reduceMod, Nat.reduceDiv, Int.reduceToNat, Int.reducePow, Int.reduceMul, Int.reduceAdd, Int.reduceSub, Int.reduceLE, Int.reduceLT, Int.reduceNeg, Int.reduceDiv, Int.reduceMod, Int.reduceEq, Int.reduceBEq, Int.reduceBNe]
                exact ⟨q + 1, by rw [s1, ← Int.add_assoc]; rfl, by omega, rfl⟩
              · obtain rfl : q = s.length := by omega
                rw [List.take_length, show S j - S i + s.sum = S (j + 1) - S i by omega]
                repeat' first | simp (disch := first | with_reducible assumption | omega) only [go_sem, Bool.true_and, Bool.and_true, Bool.and_self, Bool.false_and, Bool.and_false, Bool.true_or, Bool.or_true, Bool.false_or, Bool.or_false, ↓reduceIte, Nat.reduceEqDiff, Nat.reduceAdd, Nat.reduceMul, Nat.reduceSub, Nat.reduceBEq, Nat.reduceLeDiff, Nat.reduceLT, Nat.reduceMod, Nat.reduceDiv, Int.reduceToNat, Int.reducePow, Int.reduceMul, Int.reduceAdd, Int.reduceSub, Int.reduceLE, Int.reduceLT, Int.reduceNeg, Int.reduceDiv, Int.reduceMod, Int.reduceEq, Int.reduceBEq, Int.reduceBNe, f3, f3b, f3r0, f3r1, f3r2, f3r3, f3r4, f3r5, f3r6, f3r7, f3r8, f3r9, f3r10, f3r11, f3r12, f3r13, f3r14, f3r15, f3r16, f3r17, f3r18, f3r20, f3r21, f3r22, f3r23, f3r25, f3r27, f3l0, f3, f3b, f3r0, f3r1, f3r2, f3r3, f3r4, f3r5, f3r6, f3r7, f3r8, f3r9, f3r10, f3r11, f3r12, f3r13, f3r14, f3r15, f3r16, f3r17, f3r18, f3r20, f3r21, f3r22, f3r23, f3r25, f3r27, f3l1, f3, f3b, f3r0, f3r1, f3r2, f3r3, f3r4, f3r5, f3r6, f3r7, f3r8, f3r9, f3r10, f3r11, f3r12, f3r13, f3r14, f3r15, f3r16, f3r17, f3r18, f3r20, f3r21, f3r22, f3r23, f3r25, f3r27, f3l2] | (refine BrW.of (fun hb => ?_) (fun hb => ?_) <;> (have hb' := hb; try simp only [decide_eq_true_eq, decide_eq_false_iff_not, beq_iff_eq, bne_iff_ne, beq_eq_false_iff_ne, bne_eq_false_iff_eq, Bool.not_eq_true', Bool.not_eq_false', Bool.not_eq_true, Bool.not_eq_false, Bool.and_eq_true, Bool.or_eq_true, Bool.and_eq_false_iff, Bool.or_eq_false_iff, Int.not_lt, Int.not_le, ne_eq, gt_iff_lt, ge_iff_le] at hb') <;> (try (exfalso; omega))) | (refine altW.of ?_ ?_)
                all_goals first | (exfalso; omega) | (refine RdW.keep [0, 1, 2, 3, 9, 13, 14, 15, 47, 48] (l.length - (j + 1)) (by omega) ?_; simp (disch := first | with_reducible assumption | omega) only [go_sem, Bool.true_and, Bool.and_true, Bool.and_self, Bool.false_and, Bool.and_false, Bool.true_or, Bool.or_true, Bool.false_or, Bool.or_false, ↓reduceIte, Nat.reduceEqDiff, Nat.reduceAdd, Nat.reduceMul, Nat.reduceSub, Nat.reduceBEq, Nat.reduceLeDiff, Nat.reduceLT, Nat.reduceMod, Nat.reduceDiv, Int.reduceToNat, Int.reducePow, Int.reduceMul, Int.reduceAdd, Int.reduceSub, Int.reduceLE, Int.reduceLT, Int.reduceNeg, Int.reduceDiv, Int.reduceMod, Int.reduceEq, Int.reduceBEq, Int.reduceBNe]; exact ⟨j + 1, rfl, by omega, by omega, rfl, by omega, by omega⟩) | (refine RdW.keep [0, 1, 2, 3, 9, 47, 48] (M - (i + 1)) (by omega) ?_; simp (disch := first | with_reducible assumption | omega) only [go_sem, Bool.true_and, Bool.and_true, Bool.and_self, Bool.false_and, Bool.and_false, Bool.true_or, Bool.or_true, Bool.false_or, Bool.or_false, ↓reduceIte, Nat.reduceEqDiff, Nat.reduceAdd, Nat.reduceMul, Nat.reduceSub, Nat.reduceBEq, Nat.reduceLeDiff, Nat.reduceLT, Nat.reduceMod, Nat.reduceDiv, Int.reduceToNat, Int.reducePow, Int.reduceMul, Int.reduceAdd, Int.reduceSub, Int.reduceLE, Int.reduceLT, Int.reduceNeg, Int.reduceDiv, Int.reduceMod, Int.reduceEq, Int.reduceBEq, Int.reduceBNe]; exact ⟨i + 1, rfl, by omega, rfl⟩)
      · obtain rfl : j = l.length := by omega
        repeat' first | simp (disch := first | with_reducible assumption | omega) only [go_sem, Bool.true_and, Bool.and_true, Bool.and_self, Bool.false_and, Bool.and_false, Bool.true_or, Bool.or_true, Bool.false_or, Bool.or_false, ↓reduceIte, Nat.reduceEqDiff, Nat.reduceAdd, Nat.reduceMul, Nat.reduceSub, Nat.reduceBEq, Nat.reduceLeDiff, Nat.reduceLT, Nat.reduceMod, Nat.reduceDiv, Int.reduceToNat, Int.reducePow, Int.reduceMul, Int.reduceAdd, Int.reduceSub, Int.reduceLE, Int.reduceLT, Int.reduceNeg, Int.reduceDiv, Int.reduceMod, Int.reduceEq, Int.reduceBEq, Int.reduceBNe, f3, f3b, f3r0, f3r1, f3r2, f3r3, f3r4, f3r5, f3r6, f3r7, f3r8, f3r9, f3r10, f3r11, f3r12, f3r13, f3r14, f3r15, f3r16, f3r17, f3r18, f3r20, f3r21, f3r22, f3r23, f3r25, f3r27, f3l1, f3, f3b, f3r0, f3r1, f3r2, f3r3, f3r4, f3r5, f3r6, f3r7, f3r8, f3r9, f3r10, f3r11, f3r12, f3r13, f3r14, f3r15, f3r16, f3r17, f3r18, f3r20, f3r21, f3r22, f3r23, f3r25, f3r27, f3l2, hkG] | (refine BrW.of (fun hb => ?_) (fun hb => ?_) <;> (have hb' := hb; try simp only [decide_eq_true_eq, decide_eq_false_iff_not, beq_iff_eq, bne_iff_ne, beq_eq_false_iff_ne, bne_eq_false_iff_eq, Bool.not_eq_true', Bool.not_eq_false', Bool.not_eq_true, Bool.not_eq_false, Bool.and_eq_true, Bool.or_eq_true, Bool.and_eq_false_iff, Bool.or_eq_false_iff, Int.not_lt, Int.not_le, ne_eq, gt_iff_lt, ge_iff_le] at hb') <;> (try (exfalso; omega))) | (refine altW.of ?_ ?_)
        refine RdW.keep [0, 1, 2, 3, 9, 47, 48] (M - (i + 1)) (by omega) ?_
        simp (disch := first | with_reducible assumption | omega) only [go_sem, Bool.true_and, Bool.and_true, Bool.and_self, Bool.false_and, Bool.and_false, Bool.true_or, Bool.or_true, Bool.false_or, Bool.or_false, ↓reduceIte, Nat.reduceEqDiff, Nat.reduceAdd, Nat.reduceMul, Nat.reduceSub, Nat.reduceBEq, Nat.reduceLeDiff, Nat.reduceLT, Nat.reduceMod, Nat.reduceDiv, Int.reduceToNat, Int.reducePow, Int.reduceMul, Int.reduceAdd, Int.reduceSub, Int.reduceLE, Int.reduceLT, Int.reduceNeg, Int.reduceDiv, Int.reduceMod, Int.reduceEq, Int.reduceBEq, Int.reduceBNe]
        exact ⟨i + 1, rfl, by omega, rfl⟩
    · repeat' first | simp (disch := first | with_reducible assumption | omega) only [go_sem, Bool.true_and, Bool.and_true, Bool.and_self, Bool.false_and, Bool.and_false, Bool.true_or, Bool.or_true, Bool.false_or, Bool.or_false, ↓reduceIte, Nat.reduceEqDiff, Nat.reduceAdd, Nat.reduceMul, Nat.reduceSub, Nat.reduceBEq, Nat.reduceLeDiff, Nat.reduceLT, Nat.reduceMod, Nat.reduceDiv, Int.reduceToNat, Int.reducePow, Int.reduceMul, Int.reduceAdd, Int.reduceSub, Int.reduceLE, Int.reduceLT, Int.reduceNeg, Int.reduceDiv, Int.reduceMod, Int.reduceEq, Int.reduceBEq, Int.reduceBNe, f3, f3b, f3r0, f3r1, f3r2, f3r3, f3r4, f3r5, f3r6, f3r7, f3r8, f3r9, f3r10, f3r11, f3r12, f3r13, f3r14, f3r15, f3r16, f3r17, f3r18, f3r20, f3r21, f3r22, f3r23, f3r25, f3r27, f3l2, f3, f3b, f3r0, f3r1, f3r2, f3r3, f3r4, f3r5, f3r6, f3r7, f3r8, f3r9, f3r10, f3r11, f3r12, f3r13, f3r14, f3r15, f3r16, f3r17, f3r18, f3r20, f3r21, f3r22, f3r23, f3r25, f3r27] | (refine BrW.of (fun hb => ?_) (fun hb => ?_) <;> (have hb' := hb; try simp only [decide_eq_true_eq, decide_eq_false_iff_not, beq_iff_eq, bne_iff_ne, beq_eq_false_iff_ne, bne_eq_false_iff_eq, Bool.not_eq_true', Bool.not_eq_false', Bool.not_eq_true, Bool.not_eq_false, Bool.and_eq_true, Bool.or_eq_true, Bool.and_eq_false_iff, Bool.or_eq_false_iff, Int.not_lt, Int.not_le, ne_eq, gt_iff_lt, ge_iff_le] at hb') <;> (try (exfalso; omega))) | (refine altW.of ?_ ?_)
      exact .here rfl
  · obtain rfl := hbad hw
    clear hbad hgood
    generalize wrongP n d b = e at *
    repeat' first | simp (disch := first | with_reducible assumption | omega) only [go_sem, Bool.true_and, Bool.and_true, Bool.and_self, Bool.false_and, Bool.and_false, Bool.true_or, Bool.or_true, Bool.false_or, Bool.or_false, ↓reduceIte, Nat.reduceEqDiff, Nat.reduceAdd, Nat.reduceMul, Nat.reduceSub, Nat.reduceBEq, Nat.reduceLeDiff, Nat.reduceLT, Nat.reduceMod, Nat.reduceDiv, Int.reduceToNat, Int.reducePow, Int.reduceMul, Int.reduceAdd, Int.reduceSub, Int.reduceLE, Int.reduceLT, Int.reduceNeg, Int.reduceDiv, Int.reduceMod, Int.reduceEq, Int.reduceBEq, Int.reduceBNe, f3, f3b, f3r0, f3r1, f3r2, f3r3, f3r4, f3r5, f3r6, f3r7, f3r8, f3r9, f3r10, f3r11, f3r12, f3r13, f3r14, f3r15, f3r16, f3r17, f3r18, f3r20, f3r21, f3r22, f3r23, f3r25, f3r27, badT, hk, get_old hk] | (refine BrW.of (fun hb => ?_) (fun hb => ?_) <;> (have hb' := hb; try simp only [decide_eq_true_eq, decide_eq_false_iff_not, beq_iff_eq, bne_iff_ne, beq_eq_false_iff_ne, bne_eq_false_iff_eq, Bool.not_eq_true', Bool.not_eq_false', Bool.not_eq_true, Bool.not_eq_false, Bool.and_eq_true, Bool.or_eq_true, Bool.and_eq_false_iff, Bool.or_eq_false_iff, Int.not_lt, Int.not_le, ne_eq, gt_iff_lt, ge_iff_le] at hb') <;> (try (exfalso; omega))) | (refine altW.of ?_ ?_)
    all_goals first | exact .here rfl | (rw [hb]; exact .here rfl) | (exfalso; omega)
end Go.Proofs.Ytfoooabhfecjhaa
