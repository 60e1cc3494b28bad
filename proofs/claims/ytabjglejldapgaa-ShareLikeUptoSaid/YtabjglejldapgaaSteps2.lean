import Derived.Test.YtabjglejldapgaaSteps
import Derived.Test.YtabjglejldapgaaSort
set_option linter.unusedSimpArgs false
set_option linter.unusedVariables false
set_option maxHeartbeats 2000000
set_option maxRecDepth 20000
namespace Go.Proofs.Ytabjglejldapgaa
open Go Go.Am
attribute [local irreducible] opsW Ww loopW callW drawW outW outDW gW cW BrW bothW vW resW DropW RdW dcallW altW Later.run

/-- The places so far. -/
def idxI (n i : Nat) : List Int := (List.range n).map fun (j : Nat) => if j < i then (j : Int) else 0
theorem idxI_len (n i : Nat) : (idxI n i).length = n := by simp [idxI]
theorem idxI_set (n i : Nat) (h : i < n) : (idxI n i).set i (i : Int) = idxI n (i + 1) := by
  apply List.ext_getElem
  · simp [idxI]
  · intro j h1 h2
    simp only [idxI, List.getElem_set, List.getElem_map, List.getElem_range]
    by_cases hj : i = j
    · subst hj; simp
    · rw [if_neg hj]
      by_cases hji : j < i
      · rw [if_pos hji, if_pos (by omega)]
      · rw [if_neg hji, if_neg (by omega)]
theorem idxI_all (n : Nat) : idxI n n = idx0 n := by
  apply List.map_congr_left
  intro j hj
  rw [if_pos (List.mem_range.1 hj)]
theorem idxI_zero (n : Nat) : (List.replicate n ([.int .i64 0] : List Value)).flatten = ints (idxI n 0) := by
  induction n with
  | zero => rfl
  | succ n ih =>
    have e : idxI (n + 1) 0 = idxI n 0 ++ [0] := by simp [idxI, List.range_succ]
    rw [e, ← ints_app, ← ih, List.replicate_succ']
    simp [ints]
theorem set_three (H : Heap) (A B C D D' : AObj) : (H ++ [A, B, C, D]).set (H.length + 3) D' = H ++ [A, B, C, D'] := by
  induction H with
  | nil => rfl
  | cons h t ih => simp
theorem sort_fn : fnOk Try.prog 16 := (Sort_none 0 0 false [] .nilFunc [.cells 0 1 false []] rfl).1
theorem sL_bound {f : Nat → Int} {b : Int} (hb : 0 ≤ b) (n : Nat) (h : ∀ i, i < n → 0 ≤ f i ∧ f i ≤ b) : ∀ p : List Nat, (∀ x ∈ p, x < n) → 0 ≤ sL f p ∧ sL f p ≤ b * p.length
  | [], _ => by simp [sL]
  | x :: p, hp => by
    have := sL_bound hb n h p (fun y hy => hp y (by simp [hy]))
    have := h x (hp x (by simp))
    simp only [sL, List.length_cons]
    rw [Int.natCast_add, Int.mul_add]
    omega
theorem Level_spec (all : Int) (wl cl : List Int) (kw ow gw cw kc oc gc cc : Nat) (H : Heap) (hw : Ints H kw ow gw wl) (hc : Ints H kc oc gc cl) (hlw : wl.length ≤ 9223372036854775807) (hlc : cl.length ≤ 9223372036854775807) (hcw : wl.length ≤ cw) (hcc : cl.length ≤ cc) :
    ACallK Try.prog 9 [.int .i64 all, slv kw ow gw wl.length cw, slv kc oc gc cl.length cc] H (fun v H' => ∃ num den e : Int, v = .tuple #[.agg #[.int .i64 num, .int .i64 den], .int .i64 e] ∧ H' = H ∧ (e = 0 ↔ okS all wl cl) ∧ (e = 0 → IsLev (W wl cl) all num den)) := by
  have hW := fun (x : Heap) => Wrong_spec all wl cl kw ow gw cw kc oc gc cc (H ++ x) (hw.app x) (hc.app x) hlw hlc
  obtain ⟨rw, csw, hkw, _, w0⟩ := Ints.cell hw
  obtain ⟨rc, csc, hkc, _, c0⟩ := Ints.cell hc
  refine .walkW f9_ok (by simp; decide) (by decide) ?_
  repeat' first | simp (disch := first | with_reducible assumption | omega) only [go_sem, Bool.true_and, Bool.and_true, Bool.and_self, Bool.false_and, Bool.and_false, Bool.true_or, Bool.or_true, Bool.false_or, Bool.or_false, ↓reduceIte, Nat.reduceEqDiff, Nat.reduceAdd, Nat.reduceMul, Nat.reduceSub, Nat.reduceBEq, Nat.reduceLeDiff, Nat.reduceLT, Nat.reduceMod, Nat.reduceDiv, Int.reduceToNat, Int.reducePow, Int.reduceMul, Int.reduceAdd, Int.reduceSub, Int.reduceLE, Int.reduceLT, Int.reduceNeg, Int.reduceDiv, Int.reduceMod, Int.reduceEq, Int.reduceBEq, Int.reduceBNe, f9, f9b, f9r0, f9r1, f9r2, f9r3, f9r4, f9r5, f9r6, f9r7, f9r8, f9r9, f9r10, f9r11, f9r13, f9r14, f9r15, f9r16, f9r17, f9r18, f9r19, f9r20, f9r21, f9r22, f9r24] | (refine BrW.of (fun hb => ?_) (fun hb => ?_) <;> (have hb' := hb; try simp only [decide_eq_true_eq, decide_eq_false_iff_not, beq_iff_eq, bne_iff_ne, beq_eq_false_iff_ne, bne_eq_false_iff_eq, Bool.not_eq_true', Bool.not_eq_false', Bool.not_eq_true, Bool.not_eq_false, Bool.and_eq_true, Bool.or_eq_true, Bool.and_eq_false_iff, Bool.or_eq_false_iff, Int.not_lt, Int.not_le, ne_eq, gt_iff_lt, ge_iff_le] at hb') <;> (try (exfalso; omega))) | (refine altW.of ?_ ?_)
  refine .of ((hW _).mono ?_)
  rintro v J ⟨e, rfl, rfl, he⟩
  by_cases h0 : okS all wl cl
  · obtain rfl := he.2 h0
    obtain ⟨hlen, hok⟩ := h0
    have h16 : wl.length ≤ 16 := hok.len
    have hpos := hok.pos
    have hwr : ∀ i, i < wl.length → 0 ≤ wl.getD i 0 ∧ wl.getD i 0 ≤ 1048576 := hok.w
    have hcr : ∀ i, i < wl.length → 1 ≤ cl.getD i 0 ∧ cl.getD i 0 ≤ 1000 := hok.c
    rw [← hlen] at c0 hcc ⊢
    repeat' first | simp (disch := first | with_reducible assumption | omega) only [go_sem, Bool.true_and, Bool.and_true, Bool.and_self, Bool.false_and, Bool.and_false, Bool.true_or, Bool.or_true, Bool.false_or, Bool.or_false, ↓reduceIte, Nat.reduceEqDiff, Nat.reduceAdd, Nat.reduceMul, Nat.reduceSub, Nat.reduceBEq, Nat.reduceLeDiff, Nat.reduceLT, Nat.reduceMod, Nat.reduceDiv, Int.reduceToNat, Int.reducePow, Int.reduceMul, Int.reduceAdd, Int.reduceSub, Int.reduceLE, Int.reduceLT, Int.reduceNeg, Int.reduceDiv, Int.reduceMod, Int.reduceEq, Int.reduceBEq, Int.reduceBNe, f9, f9b, f9r0, f9r1, f9r2, f9r3, f9r4, f9r5, f9r6, f9r7, f9r8, f9r9, f9r10, f9r11, f9r13, f9r14, f9r15, f9r16, f9r17, f9r18, f9r19, f9r20, f9r21, f9r22, f9r24, hkw, get_old hkw] | (refine BrW.of (fun hb => ?_) (fun hb => ?_) <;> (have hb' := hb; try simp only [decide_eq_true_eq, decide_eq_false_iff_not, beq_iff_eq, bne_iff_ne, beq_eq_false_iff_ne, bne_eq_false_iff_eq, Bool.not_eq_true', Bool.not_eq_false', Bool.not_eq_true, Bool.not_eq_false, Bool.and_eq_true, Bool.or_eq_true, Bool.and_eq_false_iff, Bool.or_eq_false_iff, Int.not_lt, Int.not_le, ne_eq, gt_iff_lt, ge_iff_le] at hb') <;> (try (exfalso; omega))) | (refine altW.of ?_ ?_)
    all_goals first | (exfalso; omega) | skip
    rw [idxI_zero]
    have hsb := fun i (hi : i ≤ wl.length) => sI_bound (f := fun j => cl.getD j 0) (b := 1000) i (fun j hj => ⟨by have := hcr j (by omega); omega, (hcr j (by omega)).2⟩)
    refine loopW.of (by decide) (fun m e J => ∃ i : Nat, e = [(0, .int .i64 all), (4, .pointer (some ⟨H.length, 0, some 1⟩)), (5, .pointer (some ⟨H.length + 1, 0, some 1⟩)), (6, .pointer (some ⟨H.length + 2, 0, some 1⟩)), (9, slv (H.length + 3) 0 0 wl.length wl.length), (10, .int .i64 (sI (fun j => cl.getD j 0) i)), (27, .int .i64 wl.length), (28, .int .i64 i)] ∧
      J = H ++ [.cells 0 0 false [slv kw ow gw wl.length cw], .cells 0 0 false [slv kc oc gc wl.length cc], .cells 0 0 false [.int .i64 0, .int .i64 0], .cells 0 1 false (ints (idxI wl.length i))] ∧ i ≤ wl.length ∧ m = wl.length - i) wl.length ⟨0, rfl, rfl, by omega, rfl⟩ ?_
    rintro m e J ⟨i, rfl, rfl, hi, rfl⟩
    by_cases hlt : i < wl.length
    · have e1 := c0 i hlt
      have hc1 := hcr i hlt
      have hs1 := hsb i hi
      have hnx : sI (fun j => cl.getD j 0) (i + 1) = sI (fun j => cl.getD j 0) i + cl.getD i 0 := rfl
      have hset : (ints (idxI wl.length i)).set i (.int .i64 (i : Int)) = ints (idxI wl.length (i + 1)) := by rw [ints_set, idxI_set _ _ hlt]
      have hil : (ints (idxI wl.length i)).length = wl.length := by rw [ints_length, idxI_len]
      have hget : (ints (idxI wl.length i))[i]? = some (.int .i64 ((idxI wl.length i).getD i 0)) := ints_get _ i (by rw [idxI_len]; exact hlt)
      clear hW hsb
      generalize cl.getD i 0 = x at *
      generalize sI (fun j => cl.getD j 0) i = s at *
      repeat' first | simp (disch := first | with_reducible assumption | omega) only [go_sem, Bool.true_and, Bool.and_true, Bool.and_self, Bool.false_and, Bool.and_false, Bool.true_or, Bool.or_true, Bool.false_or, Bool.or_false, ↓reduceIte, Nat.reduceEqDiff, Nat.reduceAdd, Nat.reduceMul, Nat.reduceSub, Nat.reduceBEq, Nat.reduceLeDiff, Nat.reduceLT, Nat.reduceMod, Nat.reduceDiv, Int.reduceToNat, Int.reducePow, Int.reduceMul, Int.reduceAdd, Int.reduceSub, Int.reduceLE, Int.reduceLT, Int.reduceNeg, Int.reduceDiv, Int.reduceMod, Int.reduceEq, Int.reduceBEq, Int.reduceBNe, f9, f9b, f9r0, f9r1, f9r2, f9r3, f9r4, f9r5, f9r6, f9r7, f9r8, f9r9, f9r10, f9r11, f9r13, f9r14, f9r15, f9r16, f9r17, f9r18, f9r19, f9r20, f9r21, f9r22, f9r24, f9l0, hkc, get_old hkc, e1, hil, hget, hset] | (refine BrW.of (fun hb => ?_) (fun hb => ?_) <;> (have hb' := hb; try simp only [decide_eq_true_eq, decide_eq_false_iff_not, beq_iff_eq, bne_iff_ne, beq_eq_false_iff_ne, bne_eq_false_iff_eq, Bool.not_eq_true', Bool.not_eq_false', Bool.not_eq_true, Bool.not_eq_false, Bool.and_eq_true, Bool.or_eq_true, Bool.and_eq_false_iff, Bool.or_eq_false_iff, Int.not_lt, Int.not_le, ne_eq, gt_iff_lt, ge_iff_le] at hb') <;> (try (exfalso; omega))) | (refine altW.of ?_ ?_)
      refine RdW.keep [0, 4, 5, 6, 9, 10, 27, 28] (wl.length - (i + 1)) (by omega) ?_
      simp (disch := first | with_reducible assumption | omega) only [go_sem, Bool.true_and, Bool.and_true, Bool.and_self, Bool.false_and, Bool.and_false, Bool.true_or, Bool.or_true, Bool.false_or, Bool.or_false, ↓reduceIte, Nat.reduceEqDiff, Nat.reduceAdd, Nat.reduceMul, Nat.reduceSub, Nat.reduceBEq, Nat.reduceLeDiff, Nat.reduceLT, Nat.reduceMod, Nat.reduceDiv, Int.reduceToNat, Int.reducePow, Int.reduceMul, Int.reduceAdd, Int.reduceSub, Int.reduceLE, Int.reduceLT, Int.reduceNeg, Int.reduceDiv, Int.reduceMod, Int.reduceEq, Int.reduceBEq, Int.reduceBNe]
      exact ⟨i + 1, by rw [hnx]; rfl, rfl, by omega, rfl⟩
    · obtain rfl : i = wl.length := by omega
      rw [idxI_all]
      have hs1 := hsb wl.length (Nat.le_refl _)
      have hSort : ACallK Try.prog 16 [slv (H.length + 3) 0 0 wl.length wl.length, .func (.func 17) #[] #[.pointer (some ⟨H.length, 0, some 1⟩), .pointer (some ⟨H.length + 1, 0, some 1⟩)]]
          (H ++ [.cells 0 0 false [slv kw ow gw wl.length cw], .cells 0 0 false [slv kc oc gc wl.length cc], .cells 0 0 false [.int .i64 0, .int .i64 0], .cells 0 1 false (ints (idx0 wl.length))])
          (fun v H' => v = .tuple #[] ∧ ∃ p : List Nat, p.Perm (List.range wl.length) ∧ p.Pairwise (before (W wl cl)) ∧ H' = H ++ [.cells 0 0 false [slv kw ow gw wl.length cw], .cells 0 0 false [slv kc oc gc wl.length cc], .cells 0 0 false [.int .i64 0, .int .i64 0], .cells 0 1 false (ints (p.map fun (i : Nat) => (i : Int)))]) := by
        by_cases hz : wl.length = 0
        · rw [hz]
          refine (Sort_none (H.length + 3) 0 false (ints (idx0 0)) _ _ (by rw [get_new]; rfl)).mono ?_
          rintro v H' ⟨rfl, rfl⟩
          exact ⟨rfl, [], .refl _, List.Pairwise.nil, rfl⟩
        · have hlk : kw < H.length := (List.getElem?_eq_some_iff.1 hkw).1
          have hlk2 : kc < H.length := (List.getElem?_eq_some_iff.1 hkc).1
          refine (Sort_lift (n := wl.length) (by omega) wl cl rfl hlen.symm hwr hcr h16 (H.length + 3) 0 H.length 0 0 (H.length + 1) 0 0 kw ow gw cw kc oc gc cc _ (by rw [get_new]; rfl) (get_new0 _ _ _) (by rw [get_new]; rfl) (hw.app _) (hc.app _) hcw hcc (by omega) (by omega) (by omega) (by omega) sort_fn).mono ?_
          rintro v H' ⟨rfl, p, hp, hpw, rfl⟩
          exact ⟨rfl, p, hp, hpw, set_three _ _ _ _ _ _⟩
      clear hW hsb
      repeat' first | simp (disch := first | with_reducible assumption | omega) only [go_sem, Bool.true_and, Bool.and_true, Bool.and_self, Bool.false_and, Bool.and_false, Bool.true_or, Bool.or_true, Bool.false_or, Bool.or_false, ↓reduceIte, Nat.reduceEqDiff, Nat.reduceAdd, Nat.reduceMul, Nat.reduceSub, Nat.reduceBEq, Nat.reduceLeDiff, Nat.reduceLT, Nat.reduceMod, Nat.reduceDiv, Int.reduceToNat, Int.reducePow, Int.reduceMul, Int.reduceAdd, Int.reduceSub, Int.reduceLE, Int.reduceLT, Int.reduceNeg, Int.reduceDiv, Int.reduceMod, Int.reduceEq, Int.reduceBEq, Int.reduceBNe, f9, f9b, f9r0, f9r1, f9r2, f9r3, f9r4, f9r5, f9r6, f9r7, f9r8, f9r9, f9r10, f9r11, f9r13, f9r14, f9r15, f9r16, f9r17, f9r18, f9r19, f9r20, f9r21, f9r22, f9r24, f9l0, f9, f9b, f9r0, f9r1, f9r2, f9r3, f9r4, f9r5, f9r6, f9r7, f9r8, f9r9, f9r10, f9r11, f9r13, f9r14, f9r15, f9r16, f9r17, f9r18, f9r19, f9r20, f9r21, f9r22, f9r24] | (refine BrW.of (fun hb => ?_) (fun hb => ?_) <;> (have hb' := hb; try simp only [decide_eq_true_eq, decide_eq_false_iff_not, beq_iff_eq, bne_iff_ne, beq_eq_false_iff_ne, bne_eq_false_iff_eq, Bool.not_eq_true', Bool.not_eq_false', Bool.not_eq_true, Bool.not_eq_false, Bool.and_eq_true, Bool.or_eq_true, Bool.and_eq_false_iff, Bool.or_eq_false_iff, Int.not_lt, Int.not_le, ne_eq, gt_iff_lt, ge_iff_le] at hb') <;> (try (exfalso; omega))) | (refine altW.of ?_ ?_)
      refine .of (hSort.mono ?_)
      rintro v J ⟨rfl, p, hp, hpw, rfl⟩
      have hlev := lev_is hok hp hpw
      have hpl : p.length = wl.length := by rw [hp.length_eq, List.length_range]
      have hpm : ∀ x ∈ p, x < wl.length := fun x hx => List.mem_range.1 (hp.mem_iff.1 hx)
      have hsum : sL (W wl cl).c p = sI (fun j => cl.getD j 0) wl.length := by rw [sL_perm _ hp, sL_range]; rfl
      clear hSort
      have hil : (ints (p.map fun (i : Nat) => (i : Int))).length = wl.length := by simp [ints_length, hpl]
      repeat' first | simp (disch := first | with_reducible assumption | omega) only [go_sem, Bool.true_and, Bool.and_true, Bool.and_self, Bool.false_and, Bool.and_false, Bool.true_or, Bool.or_true, Bool.false_or, Bool.or_false, ↓reduceIte, Nat.reduceEqDiff, Nat.reduceAdd, Nat.reduceMul, Nat.reduceSub, Nat.reduceBEq, Nat.reduceLeDiff, Nat.reduceLT, Nat.reduceMod, Nat.reduceDiv, Int.reduceToNat, Int.reducePow, Int.reduceMul, Int.reduceAdd, Int.reduceSub, Int.reduceLE, Int.reduceLT, Int.reduceNeg, Int.reduceDiv, Int.reduceMod, Int.reduceEq, Int.reduceBEq, Int.reduceBNe, f9, f9b, f9r0, f9r1, f9r2, f9r3, f9r4, f9r5, f9r6, f9r7, f9r8, f9r9, f9r10, f9r11, f9r13, f9r14, f9r15, f9r16, f9r17, f9r18, f9r19, f9r20, f9r21, f9r22, f9r24, hil] | (refine BrW.of (fun hb => ?_) (fun hb => ?_) <;> (have hb' := hb; try simp only [decide_eq_true_eq, decide_eq_false_iff_not, beq_iff_eq, bne_iff_ne, beq_eq_false_iff_ne, bne_eq_false_iff_eq, Bool.not_eq_true', Bool.not_eq_false', Bool.not_eq_true, Bool.not_eq_false, Bool.and_eq_true, Bool.or_eq_true, Bool.and_eq_false_iff, Bool.or_eq_false_iff, Int.not_lt, Int.not_le, ne_eq, gt_iff_lt, ge_iff_le] at hb') <;> (try (exfalso; omega))) | (refine altW.of ?_ ?_)
      have hS0 : sI (W wl cl).c (W wl cl).n = sI (fun j => cl.getD j 0) wl.length := rfl
      rw [hS0] at hlev
      generalize hS : sI (fun j => cl.getD j 0) wl.length = S at *
      generalize hF : lev (W wl cl) p all S = F at *
      refine loopW.of (by decide) (fun m e J => ∃ (i : Nat) (left sum : Int), e = [(4, .pointer (some ⟨H.length, 0, some 1⟩)), (5, .pointer (some ⟨H.length + 1, 0, some 1⟩)), (6, .pointer (some ⟨H.length + 2, 0, some 1⟩)), (10, .int .i64 sum), (12, .int .i64 left), (46, slv (H.length + 3) 0 0 wl.length wl.length), (47, .int .i64 wl.length), (48, .int .i64 i)] ∧
        J = H ++ [.cells 0 0 false [slv kw ow gw wl.length cw], .cells 0 0 false [slv kc oc gc wl.length cc], .cells 0 0 false [.int .i64 0, .int .i64 0], .cells 0 1 false (ints (p.map fun (i : Nat) => (i : Int)))] ∧ i ≤ wl.length ∧ m = wl.length - i ∧ left = all - sL (W wl cl).w (p.take i) ∧ sum = sL (W wl cl).c (p.drop i) ∧ F = lev (W wl cl) (p.drop i) left sum) wl.length
        ⟨0, all, S, rfl, rfl, by omega, rfl, by simp [sL], by rw [List.drop_zero]; exact hsum.symm, by rw [List.drop_zero]; exact hF.symm⟩ ?_
      rintro m e J ⟨i, left, sum, rfl, rfl, hi, rfl, hleft, hsm, hlv⟩
      have hb1 := sL_bound (f := (W wl cl).w) (b := 1048576) (by omega) wl.length (fun i hi => hwr i hi) (p.take i) (fun x hx => hpm x (List.mem_of_mem_take hx))
      have hb2 := sL_bound (f := (W wl cl).c) (b := 1000) (by omega) wl.length (fun i hi => ⟨by have := hcr i hi; show 0 ≤ cl.getD i 0; omega, (hcr i hi).2⟩) (p.drop i) (fun x hx => hpm x (List.mem_of_mem_drop hx))
      have hbl1 : (p.take i).length ≤ 16 := by simp; omega
      have hbl2 : (p.drop i).length ≤ 16 := by simp; omega
      by_cases hlt : i < wl.length
      · have hd : p.drop i = (p[i]'(by omega)) :: p.drop (i + 1) := List.drop_eq_getElem_cons (by omega)
        have ht : p.take (i + 1) = p.take i ++ [p[i]'(by omega)] := by rw [List.take_append_getElem]
        have hr := hpm (p[i]'(by omega)) (List.getElem_mem _)
        have e0 : (ints (p.map fun (i : Nat) => (i : Int)))[i]? = some (.int .i64 ((p[i]'(by omega) : Nat) : Int)) := by simp [ints, show i < p.length by omega]
        generalize p[i]'(by omega) = r at *
        have e1 := w0 r hr
        have e2 := c0 r hr
        have r1 := hwr r hr
        have r2 := hcr r hr
        have htake : sL (W wl cl).w (p.take (i + 1)) = sL (W wl cl).w (p.take i) + wl.getD r 0 := by rw [ht, sL_app]; simp [sL, W]
        have hdrop : sL (W wl cl).c (p.drop i) = cl.getD r 0 + sL (W wl cl).c (p.drop (i + 1)) := by rw [hd]; rfl
        have hlevr : F = if left * cl.getD r 0 < wl.getD r 0 * sum then (left, sum) else lev (W wl cl) (p.drop (i + 1)) (left - wl.getD r 0) (sum - cl.getD r 0) := by rw [hlv, hd]; rfl
        have m1 := Int.mul_le_mul r1.2 (show sum ≤ 16000 by omega) (by omega) (by omega)
        have m2 := Int.mul_nonneg r1.1 (show 0 ≤ sum by omega)
        have m3 := Int.mul_le_mul_of_nonneg_right (show left ≤ 1048576 by omega) (show 0 ≤ cl.getD r 0 by omega)
        have m4 := Int.mul_le_mul_of_nonneg_right (show -16777216 ≤ left by omega) (show 0 ≤ cl.getD r 0 by omega)
        clear hlv hd ht hF hsum w0 c0
        generalize wl.getD r 0 = x at *
        generalize cl.getD r 0 = y at *
        by_cases hst : left * y < x * sum
        · rw [if_pos hst] at hlevr
          repeat' first | simp (disch := first | with_reducible assumption | omega) only [go_sem, Bool.true_and, Bool.and_true, Bool.and_self, Bool.false_and, Bool.and_false, Bool.true_or, Bool.or_true, Bool.false_or, Bool.or_false, ↓reduceIte, Nat.reduceEqDiff, Nat.reduceAdd, Nat.reduceMul, Nat.reduceSub, Nat.reduceBEq, Nat.reduceLeDiff, Nat.reduceLT, Nat.reduceMod, Nat.reduceDiv, Int.reduceToNat, Int.reducePow, Int.reduceMul, Int.reduceAdd, Int.reduceSub, Int.reduceLE, Int.reduceLT, Int.reduceNeg, Int.reduceDiv, Int.reduceMod, Int.reduceEq, Int.reduceBEq, Int.reduceBNe, f9, f9b, f9r0, f9r1, f9r2, f9r3, f9r4, f9r5, f9r6, f9r7, f9r8, f9r9, f9r10, f9r11, f9r13, f9r14, f9r15, f9r16, f9r17, f9r18, f9r19, f9r20, f9r21, f9r22, f9r24, f9l1, f9, f9b, f9r0, f9r1, f9r2, f9r3, f9r4, f9r5, f9r6, f9r7, f9r8, f9r9, f9r10, f9r11, f9r13, f9r14, f9r15, f9r16, f9r17, f9r18, f9r19, f9r20, f9r21, f9r22, f9r24, hil, hkw, get_old hkw, hkc, get_old hkc, e0, e1, e2] | (refine BrW.of (fun hb => ?_) (fun hb => ?_) <;> (have hb' := hb; try simp only [decide_eq_true_eq, decide_eq_false_iff_not, beq_iff_eq, bne_iff_ne, beq_eq_false_iff_ne, bne_eq_false_iff_eq, Bool.not_eq_true', Bool.not_eq_false', Bool.not_eq_true, Bool.not_eq_false, Bool.and_eq_true, Bool.or_eq_true, Bool.and_eq_false_iff, Bool.or_eq_false_iff, Int.not_lt, Int.not_le, ne_eq, gt_iff_lt, ge_iff_le] at hb') <;> (try (exfalso; omega))) | (refine altW.of ?_ ?_)
          all_goals first | (exfalso; omega) | exact .back rfl ⟨left, sum, 0, rfl, rfl, ⟨fun _ => ⟨hlen, hok⟩, fun _ => rfl⟩, fun _ => by rw [hlevr] at hlev; exact hlev⟩
        · rw [if_neg hst] at hlevr
          repeat' first | simp (disch := first | with_reducible assumption | omega) only [go_sem, Bool.true_and, Bool.and_true, Bool.and_self, Bool.false_and, Bool.and_false, Bool.true_or, Bool.or_true, Bool.false_or, Bool.or_false, ↓reduceIte, Nat.reduceEqDiff, Nat.reduceAdd, Nat.reduceMul, Nat.reduceSub, Nat.reduceBEq, Nat.reduceLeDiff, Nat.reduceLT, Nat.reduceMod, Nat.reduceDiv, Int.reduceToNat, Int.reducePow, Int.reduceMul, Int.reduceAdd, Int.reduceSub, Int.reduceLE, Int.reduceLT, Int.reduceNeg, Int.reduceDiv, Int.reduceMod, Int.reduceEq, Int.reduceBEq, Int.reduceBNe, f9, f9b, f9r0, f9r1, f9r2, f9r3, f9r4, f9r5, f9r6, f9r7, f9r8, f9r9, f9r10, f9r11, f9r13, f9r14, f9r15, f9r16, f9r17, f9r18, f9r19, f9r20, f9r21, f9r22, f9r24, f9l1, hil, hkw, get_old hkw, hkc, get_old hkc, e0, e1, e2] | (refine BrW.of (fun hb => ?_) (fun hb => ?_) <;> (have hb' := hb; try simp only [decide_eq_true_eq, decide_eq_false_iff_not, beq_iff_eq, bne_iff_ne, beq_eq_false_iff_ne, bne_eq_false_iff_eq, Bool.not_eq_true', Bool.not_eq_false', Bool.not_eq_true, Bool.not_eq_false, Bool.and_eq_true, Bool.or_eq_true, Bool.and_eq_false_iff, Bool.or_eq_false_iff, Int.not_lt, Int.not_le, ne_eq, gt_iff_lt, ge_iff_le] at hb') <;> (try (exfalso; omega))) | (refine altW.of ?_ ?_)
          all_goals first | (exfalso; omega) | skip
          refine RdW.keep [4, 5, 6, 10, 12, 46, 47, 48] (wl.length - (i + 1)) (by omega) ?_
          simp (disch := first | with_reducible assumption | omega) only [go_sem, Bool.true_and, Bool.and_true, Bool.and_self, Bool.false_and, Bool.and_false, Bool.true_or, Bool.or_true, Bool.false_or, Bool.or_false, ↓reduceIte, Nat.reduceEqDiff, Nat.reduceAdd, Nat.reduceMul, Nat.reduceSub, Nat.reduceBEq, Nat.reduceLeDiff, Nat.reduceLT, Nat.reduceMod, Nat.reduceDiv, Int.reduceToNat, Int.reducePow, Int.reduceMul, Int.reduceAdd, Int.reduceSub, Int.reduceLE, Int.reduceLT, Int.reduceNeg, Int.reduceDiv, Int.reduceMod, Int.reduceEq, Int.reduceBEq, Int.reduceBNe]
          exact ⟨i + 1, left - x, sum - y, rfl, by omega, rfl, by rw [htake]; omega, by omega, hlevr⟩
      · obtain rfl : i = wl.length := by omega
        rw [List.drop_eq_nil_of_le (by omega)] at hlv
        have hlz : F = (0, 0) := hlv
        repeat' first | simp (disch := first | with_reducible assumption | omega) only [go_sem, Bool.true_and, Bool.and_true, Bool.and_self, Bool.false_and, Bool.and_false, Bool.true_or, Bool.or_true, Bool.false_or, Bool.or_false, ↓reduceIte, Nat.reduceEqDiff, Nat.reduceAdd, Nat.reduceMul, Nat.reduceSub, Nat.reduceBEq, Nat.reduceLeDiff, Nat.reduceLT, Nat.reduceMod, Nat.reduceDiv, Int.reduceToNat, Int.reducePow, Int.reduceMul, Int.reduceAdd, Int.reduceSub, Int.reduceLE, Int.reduceLT, Int.reduceNeg, Int.reduceDiv, Int.reduceMod, Int.reduceEq, Int.reduceBEq, Int.reduceBNe, f9, f9b, f9r0, f9r1, f9r2, f9r3, f9r4, f9r5, f9r6, f9r7, f9r8, f9r9, f9r10, f9r11, f9r13, f9r14, f9r15, f9r16, f9r17, f9r18, f9r19, f9r20, f9r21, f9r22, f9r24, f9l1, f9, f9b, f9r0, f9r1, f9r2, f9r3, f9r4, f9r5, f9r6, f9r7, f9r8, f9r9, f9r10, f9r11, f9r13, f9r14, f9r15, f9r16, f9r17, f9r18, f9r19, f9r20, f9r21, f9r22, f9r24] | (refine BrW.of (fun hb => ?_) (fun hb => ?_) <;> (have hb' := hb; try simp only [decide_eq_true_eq, decide_eq_false_iff_not, beq_iff_eq, bne_iff_ne, beq_eq_false_iff_ne, bne_eq_false_iff_eq, Bool.not_eq_true', Bool.not_eq_false', Bool.not_eq_true, Bool.not_eq_false, Bool.and_eq_true, Bool.or_eq_true, Bool.and_eq_false_iff, Bool.or_eq_false_iff, Int.not_lt, Int.not_le, ne_eq, gt_iff_lt, ge_iff_le] at hb') <;> (try (exfalso; omega))) | (refine altW.of ?_ ?_)
        exact .back rfl ⟨0, 0, 0, rfl, rfl, ⟨fun _ => ⟨hlen, hok⟩, fun _ => rfl⟩, fun _ => by rw [hlz] at hlev; exact hlev⟩
  · have hne : ¬ e = 0 := fun h => h0 (he.1 h)
    repeat' first | simp (disch := first | with_reducible assumption | omega) only [go_sem, Bool.true_and, Bool.and_true, Bool.and_self, Bool.false_and, Bool.and_false, Bool.true_or, Bool.or_true, Bool.false_or, Bool.or_false, ↓reduceIte, Nat.reduceEqDiff, Nat.reduceAdd, Nat.reduceMul, Nat.reduceSub, Nat.reduceBEq, Nat.reduceLeDiff, Nat.reduceLT, Nat.reduceMod, Nat.reduceDiv, Int.reduceToNat, Int.reducePow, Int.reduceMul, Int.reduceAdd, Int.reduceSub, Int.reduceLE, Int.reduceLT, Int.reduceNeg, Int.reduceDiv, Int.reduceMod, Int.reduceEq, Int.reduceBEq, Int.reduceBNe, f9, f9b, f9r0, f9r1, f9r2, f9r3, f9r4, f9r5, f9r6, f9r7, f9r8, f9r9, f9r10, f9r11, f9r13, f9r14, f9r15, f9r16, f9r17, f9r18, f9r19, f9r20, f9r21, f9r22, f9r24] | (refine BrW.of (fun hb => ?_) (fun hb => ?_) <;> (have hb' := hb; try simp only [decide_eq_true_eq, decide_eq_false_iff_not, beq_iff_eq, bne_iff_ne, beq_eq_false_iff_ne, bne_eq_false_iff_eq, Bool.not_eq_true', Bool.not_eq_false', Bool.not_eq_true, Bool.not_eq_false, Bool.and_eq_true, Bool.or_eq_true, Bool.and_eq_false_iff, Bool.or_eq_false_iff, Int.not_lt, Int.not_le, ne_eq, gt_iff_lt, ge_iff_le] at hb') <;> (try (exfalso; omega))) | (refine altW.of ?_ ?_)
    all_goals first | (exfalso; omega) | exact .back rfl ⟨_, _, _, rfl, rfl, ⟨fun h => absurd h hne, fun h => absurd h h0⟩, fun h => absurd h hne⟩
end Go.Proofs.Ytabjglejldapgaa
