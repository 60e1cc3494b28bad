import Derived.Test.YtklbagfnepphmaaSteps
set_option linter.unusedSimpArgs false
set_option linter.unusedVariables false
set_option maxHeartbeats 1000000
set_option maxRecDepth 10000
namespace Go.Proofs.Ytklbagfnepphmaa
open Go Go.Am
attribute [local irreducible] opsW Ww loopW callW drawW outW outDW gW cW BrW bothW vW resW DropW RdW dcallW Later.run

/-- An entry of the line: where, and how great. -/
def entry (l : List Int) (a : Nat) : List Value := [.int .i64 a, .int .i64 (l.getD a 0)]
theorem entry_length (l : List Int) (a : Nat) : (entry l a).length = 2 := rfl
theorem popped_idx (l : List Int) (n : Int) : ∀ (L : List Nat), L.Pairwise (fun a b => a < b ∧ l.getD b 0 < l.getD a 0) → ∀ i, i < L.length → (i < (popped l n L).length ↔ n < l.getD (L.getD i 0) 0)
  | [], _, i, h => by simp at h
  | b :: r, hp, i, h => by
    rw [List.pairwise_cons] at hp
    unfold popped
    cases i with
    | zero =>
      rw [List.getD_cons_zero]
      split
      · simp only [List.length_nil]; omega
      · simp only [List.length_cons]; omega
    | succ i =>
      have ih := popped_idx l n r hp.2 i (by simpa using h)
      rw [List.getD_cons_succ]
      simp at h
      have hm : r.getD i 0 ∈ r := by rw [List.getD_eq_getElem?_getD, List.getElem?_eq_getElem h]; exact List.getElem_mem h
      have := hp.1 _ hm
      split
      · simp only [List.length_nil]; omega
      · simp only [List.length_cons]; omega
theorem popped_le (l : List Int) (n : Int) (L : List Nat) : (popped l n L).length ≤ L.length := by
  have := congrArg List.length (popped_prefix l n L)
  simp at this; omega

theorem Line.len {w : Nat} {l : List Int} {k : Nat} {L : List Nat} (h : Line w l k L) : L.length ≤ k := by
  have key : ∀ (L : List Nat) (b : Nat), L.Pairwise (fun a b => a < b) → (∀ a ∈ L, b ≤ a ∧ a < k) → b ≤ k → L.length + b ≤ k := by
    intro L
    induction L with
    | nil => intro b _ _ h; simpa using h
    | cons a r ih =>
      intro b hp ha hb
      rw [List.pairwise_cons] at hp
      have h1 := ha a (by simp)
      have := ih (a + 1) hp.2 (fun x hx => ⟨hp.1 x hx, (ha x (by simp [hx])).2⟩) (by omega)
      simp only [List.length_cons]
      omega
  have := key L 0 (h.up.imp fun h => h.1) (fun a ha => ⟨by omega, (h.in' a ha).1⟩) (by omega)
  omega

theorem Most_bad (w : Int) (l : List Int) (k o g c : Nat) (H : Heap) (hs : Ints H k o g l) (hl : l.length ≤ 9223372036854775807) (hw : wrongL w l) :
    ACallK Try.prog 9 [.int .i64 w, slv k o g l.length c] H (fun v H' => v = badV ∧ H' = H) := by
  refine .walkW f9_ok (by simp; decide) (by decide) ?_
  repeat' first | simp (disch := first | with_reducible assumption | omega) only [go_sem, Bool.true_and, Bool.and_true, Bool.and_self, Bool.false_and, Bool.and_false, Bool.true_or, Bool.or_true, Bool.false_or, Bool.or_false, ↓reduceIte, Nat.reduceEqDiff, Nat.reduceAdd, Nat.reduceMul, Nat.reduceSub, Nat.reduceBEq, Nat.reduceLeDiff, Nat.reduceLT, Nat.reduceMod, Nat.reduceDiv, Int.reduceToNat, Int.reducePow, Int.reduceMul, Int.reduceAdd, Int.reduceSub, Int.reduceLE, Int.reduceLT, Int.reduceNeg, Int.reduceDiv, Int.reduceMod, Int.reduceEq, Int.reduceBEq, Int.reduceBNe, f9, f9b, f9r0, f9r1, f9r2, f9r3, f9r4, f9r5, f9r6, f9r7, f9r8, f9r9, f9r11, f9r12, f9r13, f9r14, f9r15, f9r17] | (refine BrW.of (fun hb => ?_) (fun hb => ?_) <;> (have hb' := hb; try simp only [decide_eq_true_eq, decide_eq_false_iff_not, beq_iff_eq, bne_iff_ne, beq_eq_false_iff_ne, bne_eq_false_iff_eq, Bool.not_eq_true', Bool.not_eq_false', Bool.not_eq_true, Bool.not_eq_false, Bool.and_eq_true, Bool.or_eq_true, Bool.and_eq_false_iff, Bool.or_eq_false_iff, Int.not_lt, Int.not_le, ne_eq, gt_iff_lt, ge_iff_le] at hb') <;> (try (exfalso; omega))) | (refine .of ((wrong_yes w l k o g c _ hs hl hw).mono ?_); rintro v _ ⟨rfl, rfl⟩)
  exact .here ⟨rfl, rfl⟩

theorem Most_spec (w : Nat) (l : List Int) (k o g c : Nat) (H : Heap) (hs : Ints H k o g l) (h1 : 1 ≤ w) (h2 : w ≤ 400) (hl : okL l) :
    ACallK Try.prog 9 [.int .i64 w, slv k o g l.length c] H (fun v H' => ∃ g' o1 out, v = .tuple #[slv (H.length + 1) 0 g' l.length l.length, .int .i64 0] ∧ H' = H ++ [o1, .cells g' 1 false (ints out)] ∧ out.length = l.length ∧ ∀ i, i < l.length → Most w l i (out.getD i 0)) := by
  obtain ⟨ro, cs, hk, hcl, hcs⟩ := hs.cell
  have h3 := hl.1
  have hkl := hs.lt
  refine .walkW f9_ok (by simp; decide) (by decide) ?_
  repeat' first | simp (disch := first | with_reducible assumption | omega) only [go_sem, Bool.true_and, Bool.and_true, Bool.and_self, Bool.false_and, Bool.and_false, Bool.true_or, Bool.or_true, Bool.false_or, Bool.or_false, ↓reduceIte, Nat.reduceEqDiff, Nat.reduceAdd, Nat.reduceMul, Nat.reduceSub, Nat.reduceBEq, Nat.reduceLeDiff, Nat.reduceLT, Nat.reduceMod, Nat.reduceDiv, Int.reduceToNat, Int.reducePow, Int.reduceMul, Int.reduceAdd, Int.reduceSub, Int.reduceLE, Int.reduceLT, Int.reduceNeg, Int.reduceDiv, Int.reduceMod, Int.reduceEq, Int.reduceBEq, Int.reduceBNe, f9, f9b, f9r0, f9r1, f9r2, f9r3, f9r4, f9r5, f9r6, f9r7, f9r8, f9r9, f9r11, f9r12, f9r13, f9r14, f9r15, f9r17, hk, get_old hk] | (refine BrW.of (fun hb => ?_) (fun hb => ?_) <;> (have hb' := hb; try simp only [decide_eq_true_eq, decide_eq_false_iff_not, beq_iff_eq, bne_iff_ne, beq_eq_false_iff_ne, bne_eq_false_iff_eq, Bool.not_eq_true', Bool.not_eq_false', Bool.not_eq_true, Bool.not_eq_false, Bool.and_eq_true, Bool.or_eq_true, Bool.and_eq_false_iff, Bool.or_eq_false_iff, Int.not_lt, Int.not_le, ne_eq, gt_iff_lt, ge_iff_le] at hb') <;> (try (exfalso; omega))) | (refine .of ((wrong_no w l k o g c _ hs (by omega) (by omega) hl).mono ?_); rintro v _ ⟨rfl, rfl⟩)
  rename_i H
  refine loopW.ghost 6 2 rfl ?_
  simp (disch := first | with_reducible assumption | omega) only [go_sem, Bool.true_and, Bool.and_true, Bool.and_self, Bool.false_and, Bool.and_false, Bool.true_or, Bool.or_true, Bool.false_or, Bool.or_false, ↓reduceIte, Nat.reduceEqDiff, Nat.reduceAdd, Nat.reduceMul, Nat.reduceSub, Nat.reduceBEq, Nat.reduceLeDiff, Nat.reduceLT, Nat.reduceMod, Nat.reduceDiv, Int.reduceToNat, Int.reducePow, Int.reduceMul, Int.reduceAdd, Int.reduceSub, Int.reduceLE, Int.reduceLT, Int.reduceNeg, Int.reduceDiv, Int.reduceMod, Int.reduceEq, Int.reduceBEq, Int.reduceBNe]
  refine loopW.ghost 7 1 rfl ?_
  simp (disch := first | with_reducible assumption | omega) only [go_sem, Bool.true_and, Bool.and_true, Bool.and_self, Bool.false_and, Bool.and_false, Bool.true_or, Bool.or_true, Bool.false_or, Bool.or_false, ↓reduceIte, Nat.reduceEqDiff, Nat.reduceAdd, Nat.reduceMul, Nat.reduceSub, Nat.reduceBEq, Nat.reduceLeDiff, Nat.reduceLT, Nat.reduceMod, Nat.reduceDiv, Int.reduceToNat, Int.reducePow, Int.reduceMul, Int.reduceAdd, Int.reduceSub, Int.reduceLE, Int.reduceLT, Int.reduceNeg, Int.reduceDiv, Int.reduceMod, Int.reduceEq, Int.reduceBEq, Int.reduceBNe]
  refine loopW.keep [0, 6, 7, 13, 14, 15] ?_
  simp (disch := first | with_reducible assumption | omega) only [go_sem, Bool.true_and, Bool.and_true, Bool.and_self, Bool.false_and, Bool.and_false, Bool.true_or, Bool.or_true, Bool.false_or, Bool.or_false, ↓reduceIte, Nat.reduceEqDiff, Nat.reduceAdd, Nat.reduceMul, Nat.reduceSub, Nat.reduceBEq, Nat.reduceLeDiff, Nat.reduceLT, Nat.reduceMod, Nat.reduceDiv, Int.reduceToNat, Int.reducePow, Int.reduceMul, Int.reduceAdd, Int.reduceSub, Int.reduceLE, Int.reduceLT, Int.reduceNeg, Int.reduceDiv, Int.reduceMod, Int.reduceEq, Int.reduceBEq, Int.reduceBNe]
  refine loopW.of (by decide) (fun m e H'' => ∃ (i g' q gq lc : Nat) (L : List Nat) (lcs : List Value) (out : List Int), e = [(0, .int .i64 w), (6, slv H.length q gq L.length lc), (7, slv (H.length + 1) 0 g' i i), (13, slv k o g l.length c), (14, .int .i64 l.length), (15, .int .i64 i)] ∧
    H'' = H ++ [.cells gq 2 false lcs, .cells g' 1 false (ints out)] ∧ i ≤ l.length ∧ m = l.length - i ∧ out.length = i ∧ (∀ j, j < i → Most w l j (out.getD j 0)) ∧ Line w l i L ∧ Seg (entry l) 2 0 lcs q lc L ∧ (∀ v ∈ lcs, flat v = true))
    l.length ⟨0, 0, 0, 0, 0, [], [], [], rfl, rfl, by omega, rfl, rfl, by omega, Line.zero w l, Seg.nil, by simp⟩ ?_
  rintro m e H'' ⟨i, g', q, gq, lc, L, lcs, out, rfl, rfl, hi, rfl, hol, hout, hL, hseg, hfl⟩
  by_cases hlt : i < l.length
  · have e0 := hcs i hlt
    have hidx := popped_idx l (l.getD i 0) L hL.up
    have hple := popped_le l (l.getD i 0) L
    have hpre := popped_prefix l (l.getD i 0) L
    have hLl := hL.len
    have hst := hL.step h1
    have hne := hst.ne h1
    unfold lineStep at hst hne
    generalize hp : (popped l (l.getD i 0) L).length = p at *
    generalize hP : popped l (l.getD i 0) L = P at *
    repeat' first | simp (disch := first | with_reducible assumption | omega) only [go_sem, Bool.true_and, Bool.and_true, Bool.and_self, Bool.false_and, Bool.and_false, Bool.true_or, Bool.or_true, Bool.false_or, Bool.or_false, ↓reduceIte, Nat.reduceEqDiff, Nat.reduceAdd, Nat.reduceMul, Nat.reduceSub, Nat.reduceBEq, Nat.reduceLeDiff, Nat.reduceLT, Nat.reduceMod, Nat.reduceDiv, Int.reduceToNat, Int.reducePow, Int.reduceMul, Int.reduceAdd, Int.reduceSub, Int.reduceLE, Int.reduceLT, Int.reduceNeg, Int.reduceDiv, Int.reduceMod, Int.reduceEq, Int.reduceBEq, Int.reduceBNe, f9, f9b, f9r0, f9r1, f9r2, f9r3, f9r4, f9r5, f9r6, f9r7, f9r8, f9r9, f9r11, f9r12, f9r13, f9r14, f9r15, f9r17, f9l1, hk, get_old hk, e0] | (refine BrW.of (fun hb => ?_) (fun hb => ?_) <;> (have hb' := hb; try simp only [decide_eq_true_eq, decide_eq_false_iff_not, beq_iff_eq, bne_iff_ne, beq_eq_false_iff_ne, bne_eq_false_iff_eq, Bool.not_eq_true', Bool.not_eq_false', Bool.not_eq_true, Bool.not_eq_false, Bool.and_eq_true, Bool.or_eq_true, Bool.and_eq_false_iff, Bool.or_eq_false_iff, Int.not_lt, Int.not_le, ne_eq, gt_iff_lt, ge_iff_le] at hb') <;> (try (exfalso; omega)))
    refine loopW.of (by decide) (fun m e H'' => ∃ (n : Nat), e = [(0, .int .i64 w), (6, slv H.length q gq n lc), (7, slv (H.length + 1) 0 g' i i), (8, .int .i64 i), (9, .int .i64 (l.getD i 0)), (13, slv k o g l.length c), (14, .int .i64 l.length), (15, .int .i64 i)] ∧
      H'' = H ++ [.cells gq 2 false lcs, .cells g' 1 false (ints out)] ∧ p ≤ n ∧ n ≤ L.length ∧ m = n) L.length ⟨L.length, rfl, rfl, hple, by omega, rfl⟩ ?_
    rintro m e H'' ⟨n, rfl, rfl, hpn, hnL, rfl⟩
    by_cases hstop : p < m
    · obtain ⟨n, rfl⟩ : ∃ n, m = n + 1 := ⟨m - 1, by omega⟩
      have f1 := hseg.get n (by omega) 1 (by omega)
      change lcs[q + n * 2 + 1]? = some (.int .i64 (l.getD (L.getD n 0) 0)) at f1
      have hv := hidx n (by omega)
      have hv' : l.getD (L.getD n 0) 0 ≤ l.getD i 0 := by omega
      have ht : ((n + 1 : Nat) : Int) - 1 = n := by omega
      have hroom := hseg.room
      have hle := hseg.le
      clear hidx hv
      generalize l.getD (L.getD n 0) 0 = y at *
      generalize l.getD i 0 = x at *
      repeat' first | simp (disch := first | with_reducible assumption | omega) only [go_sem, Bool.true_and, Bool.and_true, Bool.and_self, Bool.false_and, Bool.and_false, Bool.true_or, Bool.or_true, Bool.false_or, Bool.or_false, ↓reduceIte, Nat.reduceEqDiff, Nat.reduceAdd, Nat.reduceMul, Nat.reduceSub, Nat.reduceBEq, Nat.reduceLeDiff, Nat.reduceLT, Nat.reduceMod, Nat.reduceDiv, Int.reduceToNat, Int.reducePow, Int.reduceMul, Int.reduceAdd, Int.reduceSub, Int.reduceLE, Int.reduceLT, Int.reduceNeg, Int.reduceDiv, Int.reduceMod, Int.reduceEq, Int.reduceBEq, Int.reduceBNe, f9, f9b, f9r0, f9r1, f9r2, f9r3, f9r4, f9r5, f9r6, f9r7, f9r8, f9r9, f9r11, f9r12, f9r13, f9r14, f9r15, f9r17, f9l0, hk, get_old hk, f1, ht] | (refine BrW.of (fun hb => ?_) (fun hb => ?_) <;> (have hb' := hb; try simp only [decide_eq_true_eq, decide_eq_false_iff_not, beq_iff_eq, bne_iff_ne, beq_eq_false_iff_ne, bne_eq_false_iff_eq, Bool.not_eq_true', Bool.not_eq_false', Bool.not_eq_true, Bool.not_eq_false, Bool.and_eq_true, Bool.or_eq_true, Bool.and_eq_false_iff, Bool.or_eq_false_iff, Int.not_lt, Int.not_le, ne_eq, gt_iff_lt, ge_iff_le] at hb') <;> (try (exfalso; omega)))
      refine RdW.keep [0, 6, 7, 8, 9, 13, 14, 15] n (by omega) ?_
      simp (disch := first | with_reducible assumption | omega) only [go_sem, Bool.true_and, Bool.and_true, Bool.and_self, Bool.false_and, Bool.and_false, Bool.true_or, Bool.or_true, Bool.false_or, Bool.or_false, ↓reduceIte, Nat.reduceEqDiff, Nat.reduceAdd, Nat.reduceMul, Nat.reduceSub, Nat.reduceBEq, Nat.reduceLeDiff, Nat.reduceLT, Nat.reduceMod, Nat.reduceDiv, Int.reduceToNat, Int.reducePow, Int.reduceMul, Int.reduceAdd, Int.reduceSub, Int.reduceLE, Int.reduceLT, Int.reduceNeg, Int.reduceDiv, Int.reduceMod, Int.reduceEq, Int.reduceBEq, Int.reduceBNe]
      exact ⟨n, rfl, by omega, by omega, rfl⟩
    · obtain rfl : p = m := by omega
      have hpl : (L.take p).length = p := by simp; omega
      have hsegp := hseg.take p
      rw [← hpre] at hsegp hpl
      have hroom := hseg.room
      have hle := hseg.le
      have hni : ¬ i + 1 ≤ i := by omega
      have il : (ints out).length = i := by rw [ints_length]; omega
      have htk : (ints out).take i = ints out := ints_take _ _ (by omega)
      obtain ⟨a0, r, har⟩ : ∃ a0 r, P ++ [i] = a0 :: r := by
        cases P with
        | nil => exact ⟨i, [], rfl⟩
        | cons a r => exact ⟨a, r ++ [i], rfl⟩
      have hrl : r.length = p := by have := congrArg List.length har; simp at this; omega
      rw [har] at hst hne
      simp only [fronted] at hst hne
      have hx0 : ∀ v ∈ entry l i, flat v = true := by simp [entry, flat]
      by_cases hp0 : 0 < p
      · have f3 := hseg.get (p - 1) (by omega) 1 (by omega)
        change lcs[q + (p - 1) * 2 + 1]? = some (.int .i64 (l.getD (L.getD (p - 1) 0) 0)) at f3
        have hv := hidx (p - 1) (by omega)
        have hv' : l.getD i 0 < l.getD (L.getD (p - 1) 0) 0 := by omega
        have ht : ((p : Int) - 1).toNat = p - 1 := by omega
        clear hidx hv
        by_cases hcap : P.length + 1 ≤ lc
        · have hs2 := hsegp.push (entry_length l) (by omega) i
          have hf2 := flat_wr (o := q + P.length * 2) hfl hx0
          rw [hpl] at hs2 hf2 hcap
          rw [har] at hs2
          simp only [wr, entry, Nat.zero_mul, Nat.add_zero, Nat.zero_add] at hs2 hf2 hcap
          have f0 := hs2.get 0 (by simp) 0 (by omega)
          have f1 := hs2.get 0 (by simp) 1 (by omega)
          simp only [Nat.zero_mul, Nat.add_zero, List.getD_cons_zero, List.getElem?_cons_zero, List.getElem?_cons_succ, entry] at f0 f1
          have hs3 := hs2.tail
          by_cases hfr : a0 + w ≤ i
          · rw [if_pos hfr] at hst hne
            cases r with
            | nil => exact (hne rfl).elim
            | cons b0 r =>
              have hrl2 : (a0 :: b0 :: r).length = p + 1 := by rw [List.length_cons, hrl]
              have f2 := hs3.get 0 (by simp) 1 (by omega)
              simp only [Nat.zero_mul, Nat.add_zero, List.getD_cons_zero, List.getElem?_cons_zero, List.getElem?_cons_succ, entry] at f2
              repeat' first | simp (disch := first | with_reducible assumption | omega) only [go_sem, Bool.true_and, Bool.and_true, Bool.and_self, Bool.false_and, Bool.and_false, Bool.true_or, Bool.or_true, Bool.false_or, Bool.or_false, ↓reduceIte, Nat.reduceEqDiff, Nat.reduceAdd, Nat.reduceMul, Nat.reduceSub, Nat.reduceBEq, Nat.reduceLeDiff, Nat.reduceLT, Nat.reduceMod, Nat.reduceDiv, Int.reduceToNat, Int.reducePow, Int.reduceMul, Int.reduceAdd, Int.reduceSub, Int.reduceLE, Int.reduceLT, Int.reduceNeg, Int.reduceDiv, Int.reduceMod, Int.reduceEq, Int.reduceBEq, Int.reduceBNe, f9, f9b, f9r0, f9r1, f9r2, f9r3, f9r4, f9r5, f9r6, f9r7, f9r8, f9r9, f9r11, f9r12, f9r13, f9r14, f9r15, f9r17, f9l0, f9, f9b, f9r0, f9r1, f9r2, f9r3, f9r4, f9r5, f9r6, f9r7, f9r8, f9r9, f9r11, f9r12, f9r13, f9r14, f9r15, f9r17, hk, get_old hk, f0, f1, f2, hcap, il, hni, htk, f3, ht] | (refine BrW.of (fun hb => ?_) (fun hb => ?_) <;> (have hb' := hb; try simp only [decide_eq_true_eq, decide_eq_false_iff_not, beq_iff_eq, bne_iff_ne, beq_eq_false_iff_ne, bne_eq_false_iff_eq, Bool.not_eq_true', Bool.not_eq_false', Bool.not_eq_true, Bool.not_eq_false, Bool.and_eq_true, Bool.or_eq_true, Bool.and_eq_false_iff, Bool.or_eq_false_iff, Int.not_lt, Int.not_le, ne_eq, gt_iff_lt, ge_iff_le] at hb') <;> (try (exfalso; omega)))
              refine RdW.cut2 [0, 6, 7, 13, 14, 15] (l.length - (i + 1)) ?_ ?_ ?_ ?_ ?_
              · omega
              · exact abnd_flat hf2
              · rw [ints_snoc]; exact abnd_ints' _ _ _ _ _
              · simp (disch := first | with_reducible assumption | omega) only [go_sem, Bool.true_and, Bool.and_true, Bool.and_self, Bool.false_and, Bool.and_false, Bool.true_or, Bool.or_true, Bool.false_or, Bool.or_false, ↓reduceIte, Nat.reduceEqDiff, Nat.reduceAdd, Nat.reduceMul, Nat.reduceSub, Nat.reduceBEq, Nat.reduceLeDiff, Nat.reduceLT, Nat.reduceMod, Nat.reduceDiv, Int.reduceToNat, Int.reducePow, Int.reduceMul, Int.reduceAdd, Int.reduceSub, Int.reduceLE, Int.reduceLT, Int.reduceNeg, Int.reduceDiv, Int.reduceMod, Int.reduceEq, Int.reduceBEq, Int.reduceBNe]
                simp; omega
              · simp (disch := first | with_reducible assumption | omega) only [go_sem, Bool.true_and, Bool.and_true, Bool.and_self, Bool.false_and, Bool.and_false, Bool.true_or, Bool.or_true, Bool.false_or, Bool.or_false, ↓reduceIte, Nat.reduceEqDiff, Nat.reduceAdd, Nat.reduceMul, Nat.reduceSub, Nat.reduceBEq, Nat.reduceLeDiff, Nat.reduceLT, Nat.reduceMod, Nat.reduceDiv, Int.reduceToNat, Int.reducePow, Int.reduceMul, Int.reduceAdd, Int.reduceSub, Int.reduceLE, Int.reduceLT, Int.reduceNeg, Int.reduceDiv, Int.reduceMod, Int.reduceEq, Int.reduceBEq, Int.reduceBNe]
                have hll := hs3.le
                refine ⟨i + 1, g' + 1, (q + 2), gq, (lc - 1), _, _, _, ?_, by rw [← ints_snoc], by omega, rfl, by simp; omega, fun j hj => ?_, hst, hs3, hf2⟩
                · first | rfl | (rw [hrl]; rfl) | (rw [hrl2]; rfl) | trace_state
                · by_cases hji : j < i
                  · have := hout j hji
                    simp only [List.getD_eq_getElem?_getD] at this ⊢
                    rwa [List.getElem?_append_left (by omega)]
                  · obtain rfl : j = i := by omega
                    have := hst.most
                    simp only [List.getD_eq_getElem?_getD] at this ⊢
                    rw [List.getElem?_append_right (by omega), hol]
                    simpa using this
          · rw [if_neg hfr] at hst hne
            have hrl2 : (a0 :: r).length = p + 1 := by rw [List.length_cons, hrl]
            repeat' first | simp (disch := first | with_reducible assumption | omega) only [go_sem, Bool.true_and, Bool.and_true, Bool.and_self, Bool.false_and, Bool.and_false, Bool.true_or, Bool.or_true, Bool.false_or, Bool.or_false, ↓reduceIte, Nat.reduceEqDiff, Nat.reduceAdd, Nat.reduceMul, Nat.reduceSub, Nat.reduceBEq, Nat.reduceLeDiff, Nat.reduceLT, Nat.reduceMod, Nat.reduceDiv, Int.reduceToNat, Int.reducePow, Int.reduceMul, Int.reduceAdd, Int.reduceSub, Int.reduceLE, Int.reduceLT, Int.reduceNeg, Int.reduceDiv, Int.reduceMod, Int.reduceEq, Int.reduceBEq, Int.reduceBNe, f9, f9b, f9r0, f9r1, f9r2, f9r3, f9r4, f9r5, f9r6, f9r7, f9r8, f9r9, f9r11, f9r12, f9r13, f9r14, f9r15, f9r17, f9l0, f9, f9b, f9r0, f9r1, f9r2, f9r3, f9r4, f9r5, f9r6, f9r7, f9r8, f9r9, f9r11, f9r12, f9r13, f9r14, f9r15, f9r17, hk, get_old hk, f0, f1, hcap, il, hni, htk, f3, ht] | (refine BrW.of (fun hb => ?_) (fun hb => ?_) <;> (have hb' := hb; try simp only [decide_eq_true_eq, decide_eq_false_iff_not, beq_iff_eq, bne_iff_ne, beq_eq_false_iff_ne, bne_eq_false_iff_eq, Bool.not_eq_true', Bool.not_eq_false', Bool.not_eq_true, Bool.not_eq_false, Bool.and_eq_true, Bool.or_eq_true, Bool.and_eq_false_iff, Bool.or_eq_false_iff, Int.not_lt, Int.not_le, ne_eq, gt_iff_lt, ge_iff_le] at hb') <;> (try (exfalso; omega)))
            refine RdW.cut2 [0, 6, 7, 13, 14, 15] (l.length - (i + 1)) ?_ ?_ ?_ ?_ ?_
            · omega
            · exact abnd_flat hf2
            · rw [ints_snoc]; exact abnd_ints' _ _ _ _ _
            · simp (disch := first | with_reducible assumption | omega) only [go_sem, Bool.true_and, Bool.and_true, Bool.and_self, Bool.false_and, Bool.and_false, Bool.true_or, Bool.or_true, Bool.false_or, Bool.or_false, ↓reduceIte, Nat.reduceEqDiff, Nat.reduceAdd, Nat.reduceMul, Nat.reduceSub, Nat.reduceBEq, Nat.reduceLeDiff, Nat.reduceLT, Nat.reduceMod, Nat.reduceDiv, Int.reduceToNat, Int.reducePow, Int.reduceMul, Int.reduceAdd, Int.reduceSub, Int.reduceLE, Int.reduceLT, Int.reduceNeg, Int.reduceDiv, Int.reduceMod, Int.reduceEq, Int.reduceBEq, Int.reduceBNe]
              simp; omega
            · simp (disch := first | with_reducible assumption | omega) only [go_sem, Bool.true_and, Bool.and_true, Bool.and_self, Bool.false_and, Bool.and_false, Bool.true_or, Bool.or_true, Bool.false_or, Bool.or_false, ↓reduceIte, Nat.reduceEqDiff, Nat.reduceAdd, Nat.reduceMul, Nat.reduceSub, Nat.reduceBEq, Nat.reduceLeDiff, Nat.reduceLT, Nat.reduceMod, Nat.reduceDiv, Int.reduceToNat, Int.reducePow, Int.reduceMul, Int.reduceAdd, Int.reduceSub, Int.reduceLE, Int.reduceLT, Int.reduceNeg, Int.reduceDiv, Int.reduceMod, Int.reduceEq, Int.reduceBEq, Int.reduceBNe]
              have hll := hs2.le
              refine ⟨i + 1, g' + 1, q, gq, lc, _, _, _, ?_, by rw [← ints_snoc], by omega, rfl, by simp; omega, fun j hj => ?_, hst, hs2, hf2⟩
              · first | rfl | (rw [hrl]; rfl) | (rw [hrl2]; rfl) | trace_state
              · by_cases hji : j < i
                · have := hout j hji
                  simp only [List.getD_eq_getElem?_getD] at this ⊢
                  rwa [List.getElem?_append_left (by omega)]
                · obtain rfl : j = i := by omega
                  have := hst.most
                  simp only [List.getD_eq_getElem?_getD] at this ⊢
                  rw [List.getElem?_append_right (by omega), hol]
                  simpa using this
        · have hs2 := hsegp.fresh (entry_length l) i
          have hf2 := flat_app (o := q) (n := P.length * 2) hfl hx0
          rw [hpl] at hs2 hf2 hcap
          rw [har] at hs2
          simp only [wr, entry, Nat.zero_mul, Nat.add_zero, Nat.zero_add, List.take_zero, List.nil_append] at hs2 hf2 hcap
          have f0 := hs2.get 0 (by simp) 0 (by omega)
          have f1 := hs2.get 0 (by simp) 1 (by omega)
          simp only [Nat.zero_mul, Nat.add_zero, List.getD_cons_zero, List.getElem?_cons_zero, List.getElem?_cons_succ, entry] at f0 f1
          have hs3 := hs2.tail
          by_cases hfr : a0 + w ≤ i
          · rw [if_pos hfr] at hst hne
            cases r with
            | nil => exact (hne rfl).elim
            | cons b0 r =>
              have hrl2 : (a0 :: b0 :: r).length = p + 1 := by rw [List.length_cons, hrl]
              have f2 := hs3.get 0 (by simp) 1 (by omega)
              simp only [Nat.zero_mul, Nat.add_zero, List.getD_cons_zero, List.getElem?_cons_zero, List.getElem?_cons_succ, entry] at f2
              repeat' first | simp (disch := first | with_reducible assumption | omega) only [go_sem, Bool.true_and, Bool.and_true, Bool.and_self, Bool.false_and, Bool.and_false, Bool.true_or, Bool.or_true, Bool.false_or, Bool.or_false, ↓reduceIte, Nat.reduceEqDiff, Nat.reduceAdd, Nat.reduceMul, Nat.reduceSub, Nat.reduceBEq, Nat.reduceLeDiff, Nat.reduceLT, Nat.reduceMod, Nat.reduceDiv, Int.reduceToNat, Int.reducePow, Int.reduceMul, Int.reduceAdd, Int.reduceSub, Int.reduceLE, Int.reduceLT, Int.reduceNeg, Int.reduceDiv, Int.reduceMod, Int.reduceEq, Int.reduceBEq, Int.reduceBNe, f9, f9b, f9r0, f9r1, f9r2, f9r3, f9r4, f9r5, f9r6, f9r7, f9r8, f9r9, f9r11, f9r12, f9r13, f9r14, f9r15, f9r17, f9l0, f9, f9b, f9r0, f9r1, f9r2, f9r3, f9r4, f9r5, f9r6, f9r7, f9r8, f9r9, f9r11, f9r12, f9r13, f9r14, f9r15, f9r17, hk, get_old hk, f0, f1, f2, hcap, il, hni, htk, f3, ht] | (refine BrW.of (fun hb => ?_) (fun hb => ?_) <;> (have hb' := hb; try simp only [decide_eq_true_eq, decide_eq_false_iff_not, beq_iff_eq, bne_iff_ne, beq_eq_false_iff_ne, bne_eq_false_iff_eq, Bool.not_eq_true', Bool.not_eq_false', Bool.not_eq_true, Bool.not_eq_false, Bool.and_eq_true, Bool.or_eq_true, Bool.and_eq_false_iff, Bool.or_eq_false_iff, Int.not_lt, Int.not_le, ne_eq, gt_iff_lt, ge_iff_le] at hb') <;> (try (exfalso; omega)))
              refine RdW.cut2 [0, 6, 7, 13, 14, 15] (l.length - (i + 1)) ?_ ?_ ?_ ?_ ?_
              · omega
              · exact abnd_flat hf2
              · rw [ints_snoc]; exact abnd_ints' _ _ _ _ _
              · simp (disch := first | with_reducible assumption | omega) only [go_sem, Bool.true_and, Bool.and_true, Bool.and_self, Bool.false_and, Bool.and_false, Bool.true_or, Bool.or_true, Bool.false_or, Bool.or_false, ↓reduceIte, Nat.reduceEqDiff, Nat.reduceAdd, Nat.reduceMul, Nat.reduceSub, Nat.reduceBEq, Nat.reduceLeDiff, Nat.reduceLT, Nat.reduceMod, Nat.reduceDiv, Int.reduceToNat, Int.reducePow, Int.reduceMul, Int.reduceAdd, Int.reduceSub, Int.reduceLE, Int.reduceLT, Int.reduceNeg, Int.reduceDiv, Int.reduceMod, Int.reduceEq, Int.reduceBEq, Int.reduceBNe]
                simp; omega
              · simp (disch := first | with_reducible assumption | omega) only [go_sem, Bool.true_and, Bool.and_true, Bool.and_self, Bool.false_and, Bool.and_false, Bool.true_or, Bool.or_true, Bool.false_or, Bool.or_false, ↓reduceIte, Nat.reduceEqDiff, Nat.reduceAdd, Nat.reduceMul, Nat.reduceSub, Nat.reduceBEq, Nat.reduceLeDiff, Nat.reduceLT, Nat.reduceMod, Nat.reduceDiv, Int.reduceToNat, Int.reducePow, Int.reduceMul, Int.reduceAdd, Int.reduceSub, Int.reduceLE, Int.reduceLT, Int.reduceNeg, Int.reduceDiv, Int.reduceMod, Int.reduceEq, Int.reduceBEq, Int.reduceBNe]
                have hll := hs3.le
                refine ⟨i + 1, g' + 1, (0 + 2), (gq + 1), ((p + 1) - 1), _, _, _, ?_, by rw [← ints_snoc], by omega, rfl, by simp; omega, fun j hj => ?_, hst, hs3, hf2⟩
                · first | rfl | (rw [hrl]; rfl) | (rw [hrl2]; rfl) | trace_state
                · by_cases hji : j < i
                  · have := hout j hji
                    simp only [List.getD_eq_getElem?_getD] at this ⊢
                    rwa [List.getElem?_append_left (by omega)]
                  · obtain rfl : j = i := by omega
                    have := hst.most
                    simp only [List.getD_eq_getElem?_getD] at this ⊢
                    rw [List.getElem?_append_right (by omega), hol]
                    simpa using this
          · rw [if_neg hfr] at hst hne
            have hrl2 : (a0 :: r).length = p + 1 := by rw [List.length_cons, hrl]
            repeat' first | simp (disch := first | with_reducible assumption | omega) only [go_sem, Bool.true_and, Bool.and_true, Bool.and_self, Bool.false_and, Bool.and_false, Bool.true_or, Bool.or_true, Bool.false_or, Bool.or_false, ↓reduceIte, Nat.reduceEqDiff, Nat.reduceAdd, Nat.reduceMul, Nat.reduceSub, Nat.reduceBEq, Nat.reduceLeDiff, Nat.reduceLT, Nat.reduceMod, Nat.reduceDiv, Int.reduceToNat, Int.reducePow, Int.reduceMul, Int.reduceAdd, Int.reduceSub, Int.reduceLE, Int.reduceLT, Int.reduceNeg, Int.reduceDiv, Int.reduceMod, Int.reduceEq, Int.reduceBEq, Int.reduceBNe, f9, f9b, f9r0, f9r1, f9r2, f9r3, f9r4, f9r5, f9r6, f9r7, f9r8, f9r9, f9r11, f9r12, f9r13, f9r14, f9r15, f9r17, f9l0, f9, f9b, f9r0, f9r1, f9r2, f9r3, f9r4, f9r5, f9r6, f9r7, f9r8, f9r9, f9r11, f9r12, f9r13, f9r14, f9r15, f9r17, hk, get_old hk, f0, f1, hcap, il, hni, htk, f3, ht] | (refine BrW.of (fun hb => ?_) (fun hb => ?_) <;> (have hb' := hb; try simp only [decide_eq_true_eq, decide_eq_false_iff_not, beq_iff_eq, bne_iff_ne, beq_eq_false_iff_ne, bne_eq_false_iff_eq, Bool.not_eq_true', Bool.not_eq_false', Bool.not_eq_true, Bool.not_eq_false, Bool.and_eq_true, Bool.or_eq_true, Bool.and_eq_false_iff, Bool.or_eq_false_iff, Int.not_lt, Int.not_le, ne_eq, gt_iff_lt, ge_iff_le] at hb') <;> (try (exfalso; omega)))
            refine RdW.cut2 [0, 6, 7, 13, 14, 15] (l.length - (i + 1)) ?_ ?_ ?_ ?_ ?_
            · omega
            · exact abnd_flat hf2
            · rw [ints_snoc]; exact abnd_ints' _ _ _ _ _
            · simp (disch := first | with_reducible assumption | omega) only [go_sem, Bool.true_and, Bool.and_true, Bool.and_self, Bool.false_and, Bool.and_false, Bool.true_or, Bool.or_true, Bool.false_or, Bool.or_false, ↓reduceIte, Nat.reduceEqDiff, Nat.reduceAdd, Nat.reduceMul, Nat.reduceSub, Nat.reduceBEq, Nat.reduceLeDiff, Nat.reduceLT, Nat.reduceMod, Nat.reduceDiv, Int.reduceToNat, Int.reducePow, Int.reduceMul, Int.reduceAdd, Int.reduceSub, Int.reduceLE, Int.reduceLT, Int.reduceNeg, Int.reduceDiv, Int.reduceMod, Int.reduceEq, Int.reduceBEq, Int.reduceBNe]
              simp; omega
            · simp (disch := first | with_reducible assumption | omega) only [go_sem, Bool.true_and, Bool.and_true, Bool.and_self, Bool.false_and, Bool.and_false, Bool.true_or, Bool.or_true, Bool.false_or, Bool.or_false, ↓reduceIte, Nat.reduceEqDiff, Nat.reduceAdd, Nat.reduceMul, Nat.reduceSub, Nat.reduceBEq, Nat.reduceLeDiff, Nat.reduceLT, Nat.reduceMod, Nat.reduceDiv, Int.reduceToNat, Int.reducePow, Int.reduceMul, Int.reduceAdd, Int.reduceSub, Int.reduceLE, Int.reduceLT, Int.reduceNeg, Int.reduceDiv, Int.reduceMod, Int.reduceEq, Int.reduceBEq, Int.reduceBNe]
              have hll := hs2.le
              refine ⟨i + 1, g' + 1, 0, (gq + 1), (p + 1), _, _, _, ?_, by rw [← ints_snoc], by omega, rfl, by simp; omega, fun j hj => ?_, hst, hs2, hf2⟩
              · first | rfl | (rw [hrl]; rfl) | (rw [hrl2]; rfl) | trace_state
              · by_cases hji : j < i
                · have := hout j hji
                  simp only [List.getD_eq_getElem?_getD] at this ⊢
                  rwa [List.getElem?_append_left (by omega)]
                · obtain rfl : j = i := by omega
                  have := hst.most
                  simp only [List.getD_eq_getElem?_getD] at this ⊢
                  rw [List.getElem?_append_right (by omega), hol]
                  simpa using this
      · clear hidx
        by_cases hcap : P.length + 1 ≤ lc
        · have hs2 := hsegp.push (entry_length l) (by omega) i
          have hf2 := flat_wr (o := q + P.length * 2) hfl hx0
          rw [hpl] at hs2 hf2 hcap
          rw [har] at hs2
          simp only [wr, entry, Nat.zero_mul, Nat.add_zero, Nat.zero_add] at hs2 hf2 hcap
          have f0 := hs2.get 0 (by simp) 0 (by omega)
          have f1 := hs2.get 0 (by simp) 1 (by omega)
          simp only [Nat.zero_mul, Nat.add_zero, List.getD_cons_zero, List.getElem?_cons_zero, List.getElem?_cons_succ, entry] at f0 f1
          have hfr : ¬ a0 + w ≤ i := by
            have : P = [] := List.eq_nil_of_length_eq_zero (by omega)
            rw [this] at har
            simp at har
            omega
          rw [if_neg hfr] at hst hne
          have hrl2 : (a0 :: r).length = p + 1 := by rw [List.length_cons, hrl]
          repeat' first | simp (disch := first | with_reducible assumption | omega) only [go_sem, Bool.true_and, Bool.and_true, Bool.and_self, Bool.false_and, Bool.and_false, Bool.true_or, Bool.or_true, Bool.false_or, Bool.or_false, ↓reduceIte, Nat.reduceEqDiff, Nat.reduceAdd, Nat.reduceMul, Nat.reduceSub, Nat.reduceBEq, Nat.reduceLeDiff, Nat.reduceLT, Nat.reduceMod, Nat.reduceDiv, Int.reduceToNat, Int.reducePow, Int.reduceMul, Int.reduceAdd, Int.reduceSub, Int.reduceLE, Int.reduceLT, Int.reduceNeg, Int.reduceDiv, Int.reduceMod, Int.reduceEq, Int.reduceBEq, Int.reduceBNe, f9, f9b, f9r0, f9r1, f9r2, f9r3, f9r4, f9r5, f9r6, f9r7, f9r8, f9r9, f9r11, f9r12, f9r13, f9r14, f9r15, f9r17, f9l0, f9, f9b, f9r0, f9r1, f9r2, f9r3, f9r4, f9r5, f9r6, f9r7, f9r8, f9r9, f9r11, f9r12, f9r13, f9r14, f9r15, f9r17, hk, get_old hk, f0, f1, hcap, il, hni, htk, List.take_zero] | (refine BrW.of (fun hb => ?_) (fun hb => ?_) <;> (have hb' := hb; try simp only [decide_eq_true_eq, decide_eq_false_iff_not, beq_iff_eq, bne_iff_ne, beq_eq_false_iff_ne, bne_eq_false_iff_eq, Bool.not_eq_true', Bool.not_eq_false', Bool.not_eq_true, Bool.not_eq_false, Bool.and_eq_true, Bool.or_eq_true, Bool.and_eq_false_iff, Bool.or_eq_false_iff, Int.not_lt, Int.not_le, ne_eq, gt_iff_lt, ge_iff_le] at hb') <;> (try (exfalso; omega)))
          refine RdW.cut2 [0, 6, 7, 13, 14, 15] (l.length - (i + 1)) ?_ ?_ ?_ ?_ ?_
          · omega
          · exact abnd_flat hf2
          · rw [ints_snoc]; exact abnd_ints' _ _ _ _ _
          · simp (disch := first | with_reducible assumption | omega) only [go_sem, Bool.true_and, Bool.and_true, Bool.and_self, Bool.false_and, Bool.and_false, Bool.true_or, Bool.or_true, Bool.false_or, Bool.or_false, ↓reduceIte, Nat.reduceEqDiff, Nat.reduceAdd, Nat.reduceMul, Nat.reduceSub, Nat.reduceBEq, Nat.reduceLeDiff, Nat.reduceLT, Nat.reduceMod, Nat.reduceDiv, Int.reduceToNat, Int.reducePow, Int.reduceMul, Int.reduceAdd, Int.reduceSub, Int.reduceLE, Int.reduceLT, Int.reduceNeg, Int.reduceDiv, Int.reduceMod, Int.reduceEq, Int.reduceBEq, Int.reduceBNe]
            simp; omega
          · simp (disch := first | with_reducible assumption | omega) only [go_sem, Bool.true_and, Bool.and_true, Bool.and_self, Bool.false_and, Bool.and_false, Bool.true_or, Bool.or_true, Bool.false_or, Bool.or_false, ↓reduceIte, Nat.reduceEqDiff, Nat.reduceAdd, Nat.reduceMul, Nat.reduceSub, Nat.reduceBEq, Nat.reduceLeDiff, Nat.reduceLT, Nat.reduceMod, Nat.reduceDiv, Int.reduceToNat, Int.reducePow, Int.reduceMul, Int.reduceAdd, Int.reduceSub, Int.reduceLE, Int.reduceLT, Int.reduceNeg, Int.reduceDiv, Int.reduceMod, Int.reduceEq, Int.reduceBEq, Int.reduceBNe]
            have hll := hs2.le
            refine ⟨i + 1, g' + 1, q, gq, lc, _, _, _, ?_, by rw [← ints_snoc], by omega, rfl, by simp; omega, fun j hj => ?_, hst, hs2, hf2⟩
            · first | rfl | (rw [hrl]; rfl) | (rw [hrl2]; rfl) | trace_state
            · by_cases hji : j < i
              · have := hout j hji
                simp only [List.getD_eq_getElem?_getD] at this ⊢
                rwa [List.getElem?_append_left (by omega)]
              · obtain rfl : j = i := by omega
                have := hst.most
                simp only [List.getD_eq_getElem?_getD] at this ⊢
                rw [List.getElem?_append_right (by omega), hol]
                simpa using this
        · have hs2 := hsegp.fresh (entry_length l) i
          have hf2 := flat_app (o := q) (n := P.length * 2) hfl hx0
          rw [hpl] at hs2 hf2 hcap
          rw [har] at hs2
          simp only [wr, entry, Nat.zero_mul, Nat.add_zero, Nat.zero_add, List.take_zero, List.nil_append] at hs2 hf2 hcap
          have f0 := hs2.get 0 (by simp) 0 (by omega)
          have f1 := hs2.get 0 (by simp) 1 (by omega)
          simp only [Nat.zero_mul, Nat.add_zero, List.getD_cons_zero, List.getElem?_cons_zero, List.getElem?_cons_succ, entry] at f0 f1
          have hfr : ¬ a0 + w ≤ i := by
            have : P = [] := List.eq_nil_of_length_eq_zero (by omega)
            rw [this] at har
            simp at har
            omega
          rw [if_neg hfr] at hst hne
          have hrl2 : (a0 :: r).length = p + 1 := by rw [List.length_cons, hrl]
          repeat' first | simp (disch := first | with_reducible assumption | omega) only [go_sem, Bool.true_and, Bool.and_true, Bool.and_self, Bool.false_and, Bool.and_false, Bool.true_or, Bool.or_true, Bool.false_or, Bool.or_false, ↓reduceIte, Nat.reduceEqDiff, Nat.reduceAdd, Nat.reduceMul, Nat.reduceSub, Nat.reduceBEq, Nat.reduceLeDiff, Nat.reduceLT, Nat.reduceMod, Nat.reduceDiv, Int.reduceToNat, Int.reducePow, Int.reduceMul, Int.reduceAdd, Int.reduceSub, Int.reduceLE, Int.reduceLT, Int.reduceNeg, Int.reduceDiv, Int.reduceMod, Int.reduceEq, Int.reduceBEq, Int.reduceBNe, f9, f9b, f9r0, f9r1, f9r2, f9r3, f9r4, f9r5, f9r6, f9r7, f9r8, f9r9, f9r11, f9r12, f9r13, f9r14, f9r15, f9r17, f9l0, f9, f9b, f9r0, f9r1, f9r2, f9r3, f9r4, f9r5, f9r6, f9r7, f9r8, f9r9, f9r11, f9r12, f9r13, f9r14, f9r15, f9r17, hk, get_old hk, f0, f1, hcap, il, hni, htk, List.take_zero] | (refine BrW.of (fun hb => ?_) (fun hb => ?_) <;> (have hb' := hb; try simp only [decide_eq_true_eq, decide_eq_false_iff_not, beq_iff_eq, bne_iff_ne, beq_eq_false_iff_ne, bne_eq_false_iff_eq, Bool.not_eq_true', Bool.not_eq_false', Bool.not_eq_true, Bool.not_eq_false, Bool.and_eq_true, Bool.or_eq_true, Bool.and_eq_false_iff, Bool.or_eq_false_iff, Int.not_lt, Int.not_le, ne_eq, gt_iff_lt, ge_iff_le] at hb') <;> (try (exfalso; omega)))
          refine RdW.cut2 [0, 6, 7, 13, 14, 15] (l.length - (i + 1)) ?_ ?_ ?_ ?_ ?_
          · omega
          · exact abnd_flat hf2
          · rw [ints_snoc]; exact abnd_ints' _ _ _ _ _
          · simp (disch := first | with_reducible assumption | omega) only [go_sem, Bool.true_and, Bool.and_true, Bool.and_self, Bool.false_and, Bool.and_false, Bool.true_or, Bool.or_true, Bool.false_or, Bool.or_false, ↓reduceIte, Nat.reduceEqDiff, Nat.reduceAdd, Nat.reduceMul, Nat.reduceSub, Nat.reduceBEq, Nat.reduceLeDiff, Nat.reduceLT, Nat.reduceMod, Nat.reduceDiv, Int.reduceToNat, Int.reducePow, Int.reduceMul, Int.reduceAdd, Int.reduceSub, Int.reduceLE, Int.reduceLT, Int.reduceNeg, Int.reduceDiv, Int.reduceMod, Int.reduceEq, Int.reduceBEq, Int.reduceBNe]
            simp; omega
          · simp (disch := first | with_reducible assumption | omega) only [go_sem, Bool.true_and, Bool.and_true, Bool.and_self, Bool.false_and, Bool.and_false, Bool.true_or, Bool.or_true, Bool.false_or, Bool.or_false, ↓reduceIte, Nat.reduceEqDiff, Nat.reduceAdd, Nat.reduceMul, Nat.reduceSub, Nat.reduceBEq, Nat.reduceLeDiff, Nat.reduceLT, Nat.reduceMod, Nat.reduceDiv, Int.reduceToNat, Int.reducePow, Int.reduceMul, Int.reduceAdd, Int.reduceSub, Int.reduceLE, Int.reduceLT, Int.reduceNeg, Int.reduceDiv, Int.reduceMod, Int.reduceEq, Int.reduceBEq, Int.reduceBNe]
            have hll := hs2.le
            refine ⟨i + 1, g' + 1, 0, (gq + 1), (p + 1), _, _, _, ?_, by rw [← ints_snoc], by omega, rfl, by simp; omega, fun j hj => ?_, hst, hs2, hf2⟩
            · first | rfl | (rw [hrl]; rfl) | (rw [hrl2]; rfl) | trace_state
            · by_cases hji : j < i
              · have := hout j hji
                simp only [List.getD_eq_getElem?_getD] at this ⊢
                rwa [List.getElem?_append_left (by omega)]
              · obtain rfl : j = i := by omega
                have := hst.most
                simp only [List.getD_eq_getElem?_getD] at this ⊢
                rw [List.getElem?_append_right (by omega), hol]
                simpa using this
  · obtain rfl : i = l.length := by omega
    repeat' first | simp (disch := first | with_reducible assumption | omega) only [go_sem, Bool.true_and, Bool.and_true, Bool.and_self, Bool.false_and, Bool.and_false, Bool.true_or, Bool.or_true, Bool.false_or, Bool.or_false, ↓reduceIte, Nat.reduceEqDiff, Nat.reduceAdd, Nat.reduceMul, Nat.reduceSub, Nat.reduceBEq, Nat.reduceLeDiff, Nat.reduceLT, Nat.reduceMod, Nat.reduceDiv, Int.reduceToNat, Int.reducePow, Int.reduceMul, Int.reduceAdd, Int.reduceSub, Int.reduceLE, Int.reduceLT, Int.reduceNeg, Int.reduceDiv, Int.reduceMod, Int.reduceEq, Int.reduceBEq, Int.reduceBNe, f9, f9b, f9r0, f9r1, f9r2, f9r3, f9r4, f9r5, f9r6, f9r7, f9r8, f9r9, f9r11, f9r12, f9r13, f9r14, f9r15, f9r17, f9l1, f9, f9b, f9r0, f9r1, f9r2, f9r3, f9r4, f9r5, f9r6, f9r7, f9r8, f9r9, f9r11, f9r12, f9r13, f9r14, f9r15, f9r17, hk, get_old hk] | (refine BrW.of (fun hb => ?_) (fun hb => ?_) <;> (have hb' := hb; try simp only [decide_eq_true_eq, decide_eq_false_iff_not, beq_iff_eq, bne_iff_ne, beq_eq_false_iff_ne, bne_eq_false_iff_eq, Bool.not_eq_true', Bool.not_eq_false', Bool.not_eq_true, Bool.not_eq_false, Bool.and_eq_true, Bool.or_eq_true, Bool.and_eq_false_iff, Bool.or_eq_false_iff, Int.not_lt, Int.not_le, ne_eq, gt_iff_lt, ge_iff_le] at hb') <;> (try (exfalso; omega)))
    exact .here ⟨g', _, out, rfl, rfl, hol, hout⟩
end Go.Proofs.Ytklbagfnepphmaa
