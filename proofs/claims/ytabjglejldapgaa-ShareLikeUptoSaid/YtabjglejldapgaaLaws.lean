import Derived.Test.YtabjglejldapgaaAlive
import Derived.Test.YtabjglejldapgaaBase
set_option linter.unusedSimpArgs false
set_option linter.unusedVariables false
set_option maxHeartbeats 2000000
set_option maxRecDepth 20000
namespace Go.Proofs.Ytabjglejldapgaa
open Go Go.Am
attribute [local irreducible] opsW Ww loopW callW drawW outW outDW gW cW BrW bothW vW resW DropW RdW dcallW altW Later.run

theorem int_of {B : Nat} {H : Heap} {v : Value} (h : ArgOk B H (false, [.int .i64]) v) : ∃ n : Int, v = .int .i64 n ∧ -9223372036854775808 ≤ n ∧ n ≤ 9223372036854775807 := by
  obtain ⟨n, rfl, h1⟩ := h.cell.int_inv
  exact ⟨n, rfl, h1.1, h1.2⟩
theorem list_of {H : Heap} {v : Value} (h : ArgOk maxLen H (false, [.slice [.int .i64]]) v) : ∃ k c, ∃ l : List Int, v = slv k 0 0 l.length c ∧ l.length ≤ 9223372036854775807 ∧ l.length ≤ c ∧ Ints H k 0 0 l ∧ ∀ i, i < l.length → -9223372036854775808 ≤ l.getD i 0 ∧ l.getD i 0 ≤ 9223372036854775807 := by
  obtain ⟨k, c, l, h1, h2, h3, h4, h5⟩ := ints_of h
  exact ⟨k, c, l, h1, Nat.le_trans h2 (by decide), h3, h4, h5⟩
theorem F_get (l : List F) (i : Nat) (h : i < l.length) : (flat' F.cells l)[i * 2]? = some (.int .i64 (l.getD i f0).num) ∧ (flat' F.cells l)[i * 2 + 1]? = some (.int .i64 (l.getD i f0).den) :=
  ⟨flat'_get (enc := F.cells) (s := 2) (fun _ => rfl) f0 l i 0 h (by omega), flat'_get (enc := F.cells) (s := 2) (fun _ => rfl) f0 l i 1 h (by omega)⟩
theorem ShareAll_args (H : Heap) (vals : List Value) (h : ArgsOk maxLen H ShareAllSh vals) : ACallK Try.prog 3 vals H fun v _ => v = .bool true := by
  obtain ⟨_, _, rfl, a1, h1⟩ := h.cons
  obtain ⟨_, _, rfl, a2, h2⟩ := h1.cons
  obtain ⟨_, _, rfl, a3, h3⟩ := h2.cons
  obtain rfl := h3.nil
  obtain ⟨all, rfl, hall⟩ := int_of a1
  obtain ⟨kw, cw, wl, rfl, hlw, hcw, hw, hwb⟩ := list_of a2
  obtain ⟨kc, cc, cl, rfl, hlc, hcc, hc, hcb⟩ := list_of a3
  clear a1 a2 a3 h h1 h2 h3
  have hG := Gets_spec all wl cl kw 0 0 cw kc 0 0 cc H hw hc hlw hlc hcw hcc
  have hL := fun (x : Heap) => Level_spec all wl cl kw 0 0 cw kc 0 0 cc (H ++ x) (hw.app x) (hc.app x) hlw hlc hcw hcc
  obtain ⟨rw, csw, hkw, _, w0⟩ := Ints.cell hw
  refine .walkW f3_ok (by simp; decide) (by decide) ?_
  repeat' first | simp (disch := first | with_reducible assumption | omega) only [go_sem, Bool.true_and, Bool.and_true, Bool.and_self, Bool.false_and, Bool.and_false, Bool.true_or, Bool.or_true, Bool.false_or, Bool.or_false, ↓reduceIte, Nat.reduceEqDiff, Nat.reduceAdd, Nat.reduceMul, Nat.reduceSub, Nat.reduceBEq, Nat.reduceLeDiff, Nat.reduceLT, Nat.reduceMod, Nat.reduceDiv, Int.reduceToNat, Int.reducePow, Int.reduceMul, Int.reduceAdd, Int.reduceSub, Int.reduceLE, Int.reduceLT, Int.reduceNeg, Int.reduceDiv, Int.reduceMod, Int.reduceEq, Int.reduceBEq, Int.reduceBNe, f3, f3b, f3r0, f3r1, f3r2, f3r3, f3r4, f3r5, f3r6, f3r7, f3r8, f3r9, f3r10, f3r11, f3r12, f3r13, f3r14, f3r15, f3r16, f3r18] | (refine BrW.of (fun hb => ?_) (fun hb => ?_) <;> (have hb' := hb; try simp only [decide_eq_true_eq, decide_eq_false_iff_not, beq_iff_eq, bne_iff_ne, beq_eq_false_iff_ne, bne_eq_false_iff_eq, Bool.not_eq_true', Bool.not_eq_false', Bool.not_eq_true, Bool.not_eq_false, Bool.and_eq_true, Bool.or_eq_true, Bool.and_eq_false_iff, Bool.or_eq_false_iff, Int.not_lt, Int.not_le, ne_eq, gt_iff_lt, ge_iff_le] at hb') <;> (try (exfalso; omega))) | (refine altW.of ?_ ?_) | (refine .of ((alive _).mono ?_); rintro v H ⟨rfl, rfl⟩)
  refine .of (hG.mono ?_)
  rintro v J ⟨X, u, e, rfl, rfl, he, hbad, hgood⟩
  by_cases h0 : okS all wl cl
  · obtain rfl := he.2 h0
    obtain ⟨num, den, hlv, hA⟩ := hgood rfl
    obtain ⟨hlen, hok⟩ := h0
    obtain ⟨ka, ga, rfl, x1⟩ := hA
    repeat' first | simp (disch := first | with_reducible assumption | omega) only [go_sem, Bool.true_and, Bool.and_true, Bool.and_self, Bool.false_and, Bool.and_false, Bool.true_or, Bool.or_true, Bool.false_or, Bool.or_false, ↓reduceIte, Nat.reduceEqDiff, Nat.reduceAdd, Nat.reduceMul, Nat.reduceSub, Nat.reduceBEq, Nat.reduceLeDiff, Nat.reduceLT, Nat.reduceMod, Nat.reduceDiv, Int.reduceToNat, Int.reducePow, Int.reduceMul, Int.reduceAdd, Int.reduceSub, Int.reduceLE, Int.reduceLT, Int.reduceNeg, Int.reduceDiv, Int.reduceMod, Int.reduceEq, Int.reduceBEq, Int.reduceBNe, f3, f3b, f3r0, f3r1, f3r2, f3r3, f3r4, f3r5, f3r6, f3r7, f3r8, f3r9, f3r10, f3r11, f3r12, f3r13, f3r14, f3r15, f3r16, f3r18] | (refine BrW.of (fun hb => ?_) (fun hb => ?_) <;> (have hb' := hb; try simp only [decide_eq_true_eq, decide_eq_false_iff_not, beq_iff_eq, bne_iff_ne, beq_eq_false_iff_ne, bne_eq_false_iff_eq, Bool.not_eq_true', Bool.not_eq_false', Bool.not_eq_true, Bool.not_eq_false, Bool.and_eq_true, Bool.or_eq_true, Bool.and_eq_false_iff, Bool.or_eq_false_iff, Int.not_lt, Int.not_le, ne_eq, gt_iff_lt, ge_iff_le] at hb') <;> (try (exfalso; omega))) | (refine altW.of ?_ ?_)
    refine .of ((hL X).mono ?_)
    rintro v J ⟨num', den', e', rfl, rfl, he', hl'⟩
    obtain rfl := he'.2 ⟨hlen, hok⟩
    obtain ⟨rfl, rfl⟩ := lev_one (fun i hi => (hok.c i hi).1) (hl' rfl) hlv
    clear hG hL hbad hgood he he' hl'
    have hkG := get_old hkw X
    generalize H ++ X = G at *
    have h16 : wl.length ≤ 16 := hok.len
    have hr := lev_range hok hlv
    have hgn := gl_len (W wl cl) num' den' wl.length
    have hsum := share_all hlv
    have hgg := fun i (hi : i < wl.length) => F_get (gl (W wl cl) num' den' wl.length) i (by omega)
    have hge := gl_get (W wl cl) num' den' wl.length
    have hrg := fun i (hi : i < wl.length) => getF_range hok hlv (show i < (W wl cl).n from hi)
    have hwr : ∀ i, i < wl.length → 0 ≤ wl.getD i 0 ∧ wl.getD i 0 ≤ 1048576 := hok.w
    rw [hgn]
    have htb : ∀ i, i < wl.length → 0 ≤ tm (W wl cl) num' den' i ∧ tm (W wl cl) num' den' i ≤ 16777216000 := fun i hi => by
      have h1 := hwr i hi
      have h2 : 1 ≤ cl.getD i 0 ∧ cl.getD i 0 ≤ 1000 := hok.c i hi
      unfold tm
      split
      · have m1 := Int.mul_nonneg h1.1 (show 0 ≤ max den' 1 by omega)
        have m2 := Int.mul_le_mul h1.2 (show max den' 1 ≤ 16000 by omega) (by omega) (by omega)
        exact ⟨m1, by show wl.getD i 0 * max den' 1 ≤ _; omega⟩
      · have m1 := Int.mul_nonneg (show 0 ≤ cl.getD i 0 by omega) hr.1
        have m2 := Int.mul_le_mul h2.2 hr.2.1 hr.1 (by omega)
        exact ⟨m1, by show cl.getD i 0 * num' ≤ _; omega⟩
    have hsb := fun i (hi : i ≤ wl.length) => sI_bound (f := tm (W wl cl) num' den') (b := 16777216000) i (fun j hj => htb j (by omega))
    have hwb2 := fun i (hi : i ≤ wl.length) => sI_bound (f := fun j => wl.getD j 0) (b := 1048576) i (fun j hj => hwr j (by omega))
    repeat' first | simp (disch := first | with_reducible assumption | omega) only [go_sem, Bool.true_and, Bool.and_true, Bool.and_self, Bool.false_and, Bool.and_false, Bool.true_or, Bool.or_true, Bool.false_or, Bool.or_false, ↓reduceIte, Nat.reduceEqDiff, Nat.reduceAdd, Nat.reduceMul, Nat.reduceSub, Nat.reduceBEq, Nat.reduceLeDiff, Nat.reduceLT, Nat.reduceMod, Nat.reduceDiv, Int.reduceToNat, Int.reducePow, Int.reduceMul, Int.reduceAdd, Int.reduceSub, Int.reduceLE, Int.reduceLT, Int.reduceNeg, Int.reduceDiv, Int.reduceMod, Int.reduceEq, Int.reduceBEq, Int.reduceBNe, f3, f3b, f3r0, f3r1, f3r2, f3r3, f3r4, f3r5, f3r6, f3r7, f3r8, f3r9, f3r10, f3r11, f3r12, f3r13, f3r14, f3r15, f3r16, f3r18, x1, get_old x1] | (refine BrW.of (fun hb => ?_) (fun hb => ?_) <;> (have hb' := hb; try simp only [decide_eq_true_eq, decide_eq_false_iff_not, beq_iff_eq, bne_iff_ne, beq_eq_false_iff_ne, bne_eq_false_iff_eq, Bool.not_eq_true', Bool.not_eq_false', Bool.not_eq_true, Bool.not_eq_false, Bool.and_eq_true, Bool.or_eq_true, Bool.and_eq_false_iff, Bool.or_eq_false_iff, Int.not_lt, Int.not_le, ne_eq, gt_iff_lt, ge_iff_le] at hb') <;> (try (exfalso; omega))) | (refine altW.of ?_ ?_)
    replace x1 := get_old x1 [.cells 0 0 false [.int .i64 num', .int .i64 den']]
    replace hkG := get_old hkG [.cells 0 0 false [.int .i64 num', .int .i64 den']]
    generalize G ++ [.cells 0 0 false [.int .i64 num', .int .i64 den']] = Z at *
    generalize hD : max den' 1 = D at *
    refine loopW.of (by decide) (fun m e J => ∃ (i : Nat) (x : Heap), e = [(0, .int .i64 all), (1, slv kw 0 0 wl.length cw), (7, slv ka 0 ga wl.length wl.length), (11, .int .i64 D), (12, .int .i64 (sI (tm (W wl cl) num' den') i)), (13, .int .i64 (sI (fun j => wl.getD j 0) i)), (44, slv ka 0 ga wl.length wl.length), (45, .int .i64 wl.length), (46, .int .i64 i)] ∧ J = Z ++ x ∧ i ≤ wl.length ∧ m = wl.length - i) wl.length ⟨0, [], rfl, by simp, by omega, rfl⟩ ?_
    rintro m e J ⟨i, x, rfl, rfl, hi, rfl⟩
    have hs1 := hsb i hi
    have hs2 := hwb2 i hi
    by_cases hlt : i < wl.length
    · have e1 := w0 i hlt
      rw [Nat.zero_add] at e1
      obtain ⟨g1, g2⟩ := hgg i hlt
      rw [hge i hlt] at g1 g2
      have hrr := hrg i hlt
      have r1 := hwr i hlt
      have tb := htb i hlt
      have n1 : sI (tm (W wl cl) num' den') (i + 1) = sI (tm (W wl cl) num' den') i + tm (W wl cl) num' den' i := rfl
      have n2 : sI (fun j => wl.getD j 0) (i + 1) = sI (fun j => wl.getD j 0) i + wl.getD i 0 := rfl
      rw [show (W wl cl).w i = wl.getD i 0 from rfl] at hrr
      by_cases hA : den' = 0 ∨ sat (W wl cl) num' den' i
      · have ht : tm (W wl cl) num' den' i = wl.getD i 0 * D := by unfold tm; rw [if_pos hA, hD]; rfl
        rw [getF_A hA, show (W wl cl).w i = wl.getD i 0 from rfl] at g1 g2 hrr
        rw [ht] at n1 tb
        have q1 : D.tdiv 1 = D := Int.tdiv_one D
        have q2 : D / 1 = D := Int.ediv_one D
        have q3 : D % 1 = 0 := Int.emod_one D
        have q4 : D.tmod 1 = 0 := Int.tmod_one D
        clear hgg hge hrg hwr htb hsb hwb2 w0 hlv hsum
        generalize wl.getD i 0 = a at *
        generalize sI (tm (W wl cl) num' den') i = s1 at *
        generalize hS1 : sI (tm (W wl cl) num' den') (i + 1) = s1' at *
        generalize sI (fun j => wl.getD j 0) i = s2 at *
        generalize hS2 : sI (fun j => wl.getD j 0) (i + 1) = s2' at *
        simp only at g1 g2 hrr
        repeat' first | simp (disch := first | with_reducible assumption | omega) only [go_sem, Bool.true_and, Bool.and_true, Bool.and_self, Bool.false_and, Bool.and_false, Bool.true_or, Bool.or_true, Bool.false_or, Bool.or_false, ↓reduceIte, Nat.reduceEqDiff, Nat.reduceAdd, Nat.reduceMul, Nat.reduceSub, Nat.reduceBEq, Nat.reduceLeDiff, Nat.reduceLT, Nat.reduceMod, Nat.reduceDiv, Int.reduceToNat, Int.reducePow, Int.reduceMul, Int.reduceAdd, Int.reduceSub, Int.reduceLE, Int.reduceLT, Int.reduceNeg, Int.reduceDiv, Int.reduceMod, Int.reduceEq, Int.reduceBEq, Int.reduceBNe, f3, f3b, f3r0, f3r1, f3r2, f3r3, f3r4, f3r5, f3r6, f3r7, f3r8, f3r9, f3r10, f3r11, f3r12, f3r13, f3r14, f3r15, f3r16, f3r18, f3l0, f3, f3b, f3r0, f3r1, f3r2, f3r3, f3r4, f3r5, f3r6, f3r7, f3r8, f3r9, f3r10, f3r11, f3r12, f3r13, f3r14, f3r15, f3r16, f3r18, hkG, get_old hkG, x1, get_old x1, g1, g2, e1, q1, q2, q3, q4] | (refine BrW.of (fun hb => ?_) (fun hb => ?_) <;> (have hb' := hb; try simp only [decide_eq_true_eq, decide_eq_false_iff_not, beq_iff_eq, bne_iff_ne, beq_eq_false_iff_ne, bne_eq_false_iff_eq, Bool.not_eq_true', Bool.not_eq_false', Bool.not_eq_true, Bool.not_eq_false, Bool.and_eq_true, Bool.or_eq_true, Bool.and_eq_false_iff, Bool.or_eq_false_iff, Int.not_lt, Int.not_le, ne_eq, gt_iff_lt, ge_iff_le] at hb') <;> (try (exfalso; omega))) | (refine altW.of ?_ ?_)
        all_goals first | (exfalso; omega) | skip
        refine RdW.keep [0, 1, 7, 11, 12, 13, 44, 45, 46] (wl.length - (i + 1)) (by omega) ?_
        simp (disch := first | with_reducible assumption | omega) only [go_sem, Bool.true_and, Bool.and_true, Bool.and_self, Bool.false_and, Bool.and_false, Bool.true_or, Bool.or_true, Bool.false_or, Bool.or_false, ↓reduceIte, Nat.reduceEqDiff, Nat.reduceAdd, Nat.reduceMul, Nat.reduceSub, Nat.reduceBEq, Nat.reduceLeDiff, Nat.reduceLT, Nat.reduceMod, Nat.reduceDiv, Int.reduceToNat, Int.reducePow, Int.reduceMul, Int.reduceAdd, Int.reduceSub, Int.reduceLE, Int.reduceLT, Int.reduceNeg, Int.reduceDiv, Int.reduceMod, Int.reduceEq, Int.reduceBEq, Int.reduceBNe]
        exact ⟨i + 1, _, by rw [hS1, hS2, n1, n2]; rfl, rfl, by omega, rfl⟩
      · have hd0 : den' ≠ 0 := fun h => hA (Or.inl h)
        have hDd : D = den' := by omega
        obtain rfl : den' = D := hDd.symm
        have ht : tm (W wl cl) num' den' i = cl.getD i 0 * num' := by unfold tm; rw [if_neg hA]; rfl
        rw [getF_B hA, show (W wl cl).c i = cl.getD i 0 from rfl] at g1 g2 hrr
        rw [ht] at n1 tb
        have m1 := Int.mul_le_mul r1.2 hr.2.2.2 hr.2.2.1 (by omega)
        have m2 := Int.mul_nonneg r1.1 hr.2.2.1
        have q1 : den'.tdiv den' = 1 := Int.tdiv_self (by omega)
        have q2 : den' / den' = 1 := Int.ediv_self (by omega)
        have q3 : den' % den' = 0 := Int.emod_self
        have q4 : den'.tmod den' = 0 := Int.tmod_self
        clear hgg hge hrg hwr htb hsb hwb2 w0 hlv hsum hA
        generalize wl.getD i 0 = a at *
        generalize cl.getD i 0 * num' = b at *
        generalize sI (tm (W wl cl) num' den') i = s1 at *
        generalize hS1 : sI (tm (W wl cl) num' den') (i + 1) = s1' at *
        generalize sI (fun j => wl.getD j 0) i = s2 at *
        generalize hS2 : sI (fun j => wl.getD j 0) (i + 1) = s2' at *
        simp only at g1 g2 hrr
        have b1 : b * 1 = b := Int.mul_one b
        repeat' first | simp (disch := first | with_reducible assumption | omega) only [go_sem, Bool.true_and, Bool.and_true, Bool.and_self, Bool.false_and, Bool.and_false, Bool.true_or, Bool.or_true, Bool.false_or, Bool.or_false, ↓reduceIte, Nat.reduceEqDiff, Nat.reduceAdd, Nat.reduceMul, Nat.reduceSub, Nat.reduceBEq, Nat.reduceLeDiff, Nat.reduceLT, Nat.reduceMod, Nat.reduceDiv, Int.reduceToNat, Int.reducePow, Int.reduceMul, Int.reduceAdd, Int.reduceSub, Int.reduceLE, Int.reduceLT, Int.reduceNeg, Int.reduceDiv, Int.reduceMod, Int.reduceEq, Int.reduceBEq, Int.reduceBNe, f3, f3b, f3r0, f3r1, f3r2, f3r3, f3r4, f3r5, f3r6, f3r7, f3r8, f3r9, f3r10, f3r11, f3r12, f3r13, f3r14, f3r15, f3r16, f3r18, f3l0, f3, f3b, f3r0, f3r1, f3r2, f3r3, f3r4, f3r5, f3r6, f3r7, f3r8, f3r9, f3r10, f3r11, f3r12, f3r13, f3r14, f3r15, f3r16, f3r18, hkG, get_old hkG, x1, get_old x1, g1, g2, e1, q1, q2, q3, q4, b1] | (refine BrW.of (fun hb => ?_) (fun hb => ?_) <;> (have hb' := hb; try simp only [decide_eq_true_eq, decide_eq_false_iff_not, beq_iff_eq, bne_iff_ne, beq_eq_false_iff_ne, bne_eq_false_iff_eq, Bool.not_eq_true', Bool.not_eq_false', Bool.not_eq_true, Bool.not_eq_false, Bool.and_eq_true, Bool.or_eq_true, Bool.and_eq_false_iff, Bool.or_eq_false_iff, Int.not_lt, Int.not_le, ne_eq, gt_iff_lt, ge_iff_le] at hb') <;> (try (exfalso; omega))) | (refine altW.of ?_ ?_)
        all_goals first | (exfalso; omega) | skip
        refine RdW.keep [0, 1, 7, 11, 12, 13, 44, 45, 46] (wl.length - (i + 1)) (by omega) ?_
        simp (disch := first | with_reducible assumption | omega) only [go_sem, Bool.true_and, Bool.and_true, Bool.and_self, Bool.false_and, Bool.and_false, Bool.true_or, Bool.or_true, Bool.false_or, Bool.or_false, ↓reduceIte, Nat.reduceEqDiff, Nat.reduceAdd, Nat.reduceMul, Nat.reduceSub, Nat.reduceBEq, Nat.reduceLeDiff, Nat.reduceLT, Nat.reduceMod, Nat.reduceDiv, Int.reduceToNat, Int.reducePow, Int.reduceMul, Int.reduceAdd, Int.reduceSub, Int.reduceLE, Int.reduceLT, Int.reduceNeg, Int.reduceDiv, Int.reduceMod, Int.reduceEq, Int.reduceBEq, Int.reduceBNe]
        exact ⟨i + 1, _, by rw [hS1, hS2, n1, n2]; rfl, rfl, by omega, rfl⟩
    · obtain rfl : i = wl.length := by omega
      have hsum' : sI (tm (W wl cl) num' den') wl.length = min all (sI (fun j => wl.getD j 0) wl.length) * D := hsum
      have hap := hok.pos
      have hmb := Int.mul_le_mul (show min all (sI (fun j => wl.getD j 0) wl.length) ≤ 1048576 by omega) (show D ≤ 16000 by omega) (by omega) (by omega)
      have hmb2 := Int.mul_nonneg (show 0 ≤ min all (sI (fun j => wl.getD j 0) wl.length) by omega) (show 0 ≤ D by omega)
      rw [hsum'] at hs1 ⊢
      generalize sI (fun j => wl.getD j 0) wl.length = s2 at *
      repeat' first | simp (disch := first | with_reducible assumption | omega) only [go_sem, Bool.true_and, Bool.and_true, Bool.and_self, Bool.false_and, Bool.and_false, Bool.true_or, Bool.or_true, Bool.false_or, Bool.or_false, ↓reduceIte, Nat.reduceEqDiff, Nat.reduceAdd, Nat.reduceMul, Nat.reduceSub, Nat.reduceBEq, Nat.reduceLeDiff, Nat.reduceLT, Nat.reduceMod, Nat.reduceDiv, Int.reduceToNat, Int.reducePow, Int.reduceMul, Int.reduceAdd, Int.reduceSub, Int.reduceLE, Int.reduceLT, Int.reduceNeg, Int.reduceDiv, Int.reduceMod, Int.reduceEq, Int.reduceBEq, Int.reduceBNe, f3, f3b, f3r0, f3r1, f3r2, f3r3, f3r4, f3r5, f3r6, f3r7, f3r8, f3r9, f3r10, f3r11, f3r12, f3r13, f3r14, f3r15, f3r16, f3r18, f3l0, f3, f3b, f3r0, f3r1, f3r2, f3r3, f3r4, f3r5, f3r6, f3r7, f3r8, f3r9, f3r10, f3r11, f3r12, f3r13, f3r14, f3r15, f3r16, f3r18, hkG, get_old hkG, x1, get_old x1] | (refine BrW.of (fun hb => ?_) (fun hb => ?_) <;> (have hb' := hb; try simp only [decide_eq_true_eq, decide_eq_false_iff_not, beq_iff_eq, bne_iff_ne, beq_eq_false_iff_ne, bne_eq_false_iff_eq, Bool.not_eq_true', Bool.not_eq_false', Bool.not_eq_true, Bool.not_eq_false, Bool.and_eq_true, Bool.or_eq_true, Bool.and_eq_false_iff, Bool.or_eq_false_iff, Int.not_lt, Int.not_le, ne_eq, gt_iff_lt, ge_iff_le] at hb') <;> (try (exfalso; omega))) | (refine altW.of ?_ ?_)
      all_goals first | exact .here rfl | (refine .here ?_; simp; done) | (exfalso; omega)
  · have hne : ¬ e = 0 := fun h => h0 (he.1 h)
    obtain rfl := hbad hne
    repeat' first | simp (disch := first | with_reducible assumption | omega) only [go_sem, Bool.true_and, Bool.and_true, Bool.and_self, Bool.false_and, Bool.and_false, Bool.true_or, Bool.or_true, Bool.false_or, Bool.or_false, ↓reduceIte, Nat.reduceEqDiff, Nat.reduceAdd, Nat.reduceMul, Nat.reduceSub, Nat.reduceBEq, Nat.reduceLeDiff, Nat.reduceLT, Nat.reduceMod, Nat.reduceDiv, Int.reduceToNat, Int.reducePow, Int.reduceMul, Int.reduceAdd, Int.reduceSub, Int.reduceLE, Int.reduceLT, Int.reduceNeg, Int.reduceDiv, Int.reduceMod, Int.reduceEq, Int.reduceBEq, Int.reduceBNe, f3, f3b, f3r0, f3r1, f3r2, f3r3, f3r4, f3r5, f3r6, f3r7, f3r8, f3r9, f3r10, f3r11, f3r12, f3r13, f3r14, f3r15, f3r16, f3r18] | (refine BrW.of (fun hb => ?_) (fun hb => ?_) <;> (have hb' := hb; try simp only [decide_eq_true_eq, decide_eq_false_iff_not, beq_iff_eq, bne_iff_ne, beq_eq_false_iff_ne, bne_eq_false_iff_eq, Bool.not_eq_true', Bool.not_eq_false', Bool.not_eq_true, Bool.not_eq_false, Bool.and_eq_true, Bool.or_eq_true, Bool.and_eq_false_iff, Bool.or_eq_false_iff, Int.not_lt, Int.not_le, ne_eq, gt_iff_lt, ge_iff_le] at hb') <;> (try (exfalso; omega))) | (refine altW.of ?_ ?_)
    refine .of ((hL X).mono ?_)
    rintro v J ⟨num', den', e', rfl, rfl, he', hl'⟩
    repeat' first | simp (disch := first | with_reducible assumption | omega) only [go_sem, Bool.true_and, Bool.and_true, Bool.and_self, Bool.false_and, Bool.and_false, Bool.true_or, Bool.or_true, Bool.false_or, Bool.or_false, ↓reduceIte, Nat.reduceEqDiff, Nat.reduceAdd, Nat.reduceMul, Nat.reduceSub, Nat.reduceBEq, Nat.reduceLeDiff, Nat.reduceLT, Nat.reduceMod, Nat.reduceDiv, Int.reduceToNat, Int.reducePow, Int.reduceMul, Int.reduceAdd, Int.reduceSub, Int.reduceLE, Int.reduceLT, Int.reduceNeg, Int.reduceDiv, Int.reduceMod, Int.reduceEq, Int.reduceBEq, Int.reduceBNe, f3, f3b, f3r0, f3r1, f3r2, f3r3, f3r4, f3r5, f3r6, f3r7, f3r8, f3r9, f3r10, f3r11, f3r12, f3r13, f3r14, f3r15, f3r16, f3r18] | (refine BrW.of (fun hb => ?_) (fun hb => ?_) <;> (have hb' := hb; try simp only [decide_eq_true_eq, decide_eq_false_iff_not, beq_iff_eq, bne_iff_ne, beq_eq_false_iff_ne, bne_eq_false_iff_eq, Bool.not_eq_true', Bool.not_eq_false', Bool.not_eq_true, Bool.not_eq_false, Bool.and_eq_true, Bool.or_eq_true, Bool.and_eq_false_iff, Bool.or_eq_false_iff, Int.not_lt, Int.not_le, ne_eq, gt_iff_lt, ge_iff_le] at hb') <;> (try (exfalso; omega))) | (refine altW.of ?_ ?_)
    all_goals first | exact .here rfl | (exfalso; omega)
end Go.Proofs.Ytabjglejldapgaa
