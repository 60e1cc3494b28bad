import Derived.Test.YtlnocgfblheehaaSteps4
set_option linter.unusedSimpArgs false
set_option linter.unusedVariables false
set_option maxHeartbeats 2000000
set_option maxRecDepth 20000
namespace Go.Proofs.Ytlnocgfblheehaa
open Go Go.Am
attribute [local irreducible] opsW Ww loopW callW drawW outW outDW gW cW BrW bothW vW resW DropW RdW dcallW altW Later.run

def inT (l : List Nd) (q : Int) : Prop := 0 ≤ q ∧ q < l.length
/-- Where a slice of whole numbers lies. -/
def At (H : Heap) (w : Value) (l : List Int) : Prop := ∃ k g, w = slv k 0 g l.length l.length ∧ H[k]? = some (.cells g 1 false (ints l))
theorem IsX.at' {H X : Heap} {w : Value} {l : List Int} (h : IsX H.length X w l) : At (H ++ X) w l := by
  obtain ⟨k, g, h1, h2⟩ := h
  exact ⟨_, g, h1, by rw [List.getElem?_append_right (by omega), Nat.add_sub_cancel_left, h2]⟩
theorem At.app {H : Heap} {w : Value} {l : List Int} (h : At H w l) (X : Heap) : At (H ++ X) w l := by
  obtain ⟨k, g, h1, h2⟩ := h
  exact ⟨k, g, h1, get_old h2 X⟩
theorem Path_at (l : List Nd) (k o g c : Nat) (H : Heap) (hO : Nodes H k o g l) (hl : l.length ≤ 9223372036854775807) (q : Int) (hq : -9223372036854775808 ≤ q ∧ q ≤ 9223372036854775807) :
    ACallK Try.prog 8 [slv k o g l.length c, .int .i64 q] H (fun v H' => ∃ (X : Heap) (u : Value) (e : Int), H' = H ++ X ∧ v = .tuple #[u, .int .i64 e] ∧ (e = 0 ↔ okT l ∧ inT l q) ∧ (¬ e = 0 → u = .slice none 0 0) ∧ (e = 0 → At H' u (way l q.toNat))) := by
  refine (Path_spec l k o g c H hO hl q hq).mono ?_
  rintro v H' ⟨X, u, e, rfl, rfl, h1, h2, h3⟩
  exact ⟨X, u, e, rfl, rfl, h1, h2, fun h => (h3 h).at'⟩
theorem Meet_spec (l : List Nd) (k o g c : Nat) (H : Heap) (hO : Nodes H k o g l) (hl : l.length ≤ 9223372036854775807) (a b : Int) (ha : -9223372036854775808 ≤ a ∧ a ≤ 9223372036854775807) (hb : -9223372036854775808 ≤ b ∧ b ≤ 9223372036854775807) :
    ACallK Try.prog 9 [slv k o g l.length c, .int .i64 a, .int .i64 b] H (fun v H' => ∃ m e : Int, v = .tuple #[.int .i64 m, .int .i64 e] ∧ H' = H ∧ (e = 0 ↔ okT l ∧ inT l a ∧ inT l b) ∧ (e = 0 → m = meet l a.toNat b.toNat)) := by
  have hP1 := Path_at l k o g c H hO hl a ha
  have hP2 := fun (X : Heap) => Path_at l k o g c (H ++ X) (hO.app X) hl b hb
  refine .walkW f9_ok (by simp; decide) (by decide) ?_
  repeat' first | simp (disch := first | with_reducible assumption | omega) only [go_sem, Bool.true_and, Bool.and_true, Bool.and_self, Bool.false_and, Bool.and_false, Bool.true_or, Bool.or_true, Bool.false_or, Bool.or_false, ↓reduceIte, Nat.reduceEqDiff, Nat.reduceAdd, Nat.reduceMul, Nat.reduceSub, Nat.reduceBEq, Nat.reduceLeDiff, Nat.reduceLT, Nat.reduceMod, Nat.reduceDiv, Int.reduceToNat, Int.reducePow, Int.reduceMul, Int.reduceAdd, Int.reduceSub, Int.reduceLE, Int.reduceLT, Int.reduceNeg, Int.reduceDiv, Int.reduceMod, Int.reduceEq, Int.reduceBEq, Int.reduceBNe, f9, f9b, f9r0, f9r1, f9r2, f9r3, f9r4, f9r5, f9r6, f9r7, f9r8, f9r9, f9r11] | (refine BrW.of (fun hb => ?_) (fun hb => ?_) <;> (have hb' := hb; try simp only [decide_eq_true_eq, decide_eq_false_iff_not, beq_iff_eq, bne_iff_ne, beq_eq_false_iff_ne, bne_eq_false_iff_eq, Bool.not_eq_true', Bool.not_eq_false', Bool.not_eq_true, Bool.not_eq_false, Bool.and_eq_true, Bool.or_eq_true, Bool.and_eq_false_iff, Bool.or_eq_false_iff, Int.not_lt, Int.not_le, ne_eq, gt_iff_lt, ge_iff_le] at hb') <;> (try (exfalso; omega))) | (refine altW.of ?_ ?_)
  refine .of (hP1.mono ?_)
  rintro v J ⟨X, u, e, rfl, rfl, he, _, hu⟩
  by_cases h1 : okT l ∧ inT l a
  · obtain rfl := he.2 h1
    have hu := hu rfl
    repeat' first | simp (disch := first | with_reducible assumption | omega) only [go_sem, Bool.true_and, Bool.and_true, Bool.and_self, Bool.false_and, Bool.and_false, Bool.true_or, Bool.or_true, Bool.false_or, Bool.or_false, ↓reduceIte, Nat.reduceEqDiff, Nat.reduceAdd, Nat.reduceMul, Nat.reduceSub, Nat.reduceBEq, Nat.reduceLeDiff, Nat.reduceLT, Nat.reduceMod, Nat.reduceDiv, Int.reduceToNat, Int.reducePow, Int.reduceMul, Int.reduceAdd, Int.reduceSub, Int.reduceLE, Int.reduceLT, Int.reduceNeg, Int.reduceDiv, Int.reduceMod, Int.reduceEq, Int.reduceBEq, Int.reduceBNe, f9, f9b, f9r0, f9r1, f9r2, f9r3, f9r4, f9r5, f9r6, f9r7, f9r8, f9r9, f9r11] | (refine BrW.of (fun hb => ?_) (fun hb => ?_) <;> (have hb' := hb; try simp only [decide_eq_true_eq, decide_eq_false_iff_not, beq_iff_eq, bne_iff_ne, beq_eq_false_iff_ne, bne_eq_false_iff_eq, Bool.not_eq_true', Bool.not_eq_false', Bool.not_eq_true, Bool.not_eq_false, Bool.and_eq_true, Bool.or_eq_true, Bool.and_eq_false_iff, Bool.or_eq_false_iff, Int.not_lt, Int.not_le, ne_eq, gt_iff_lt, ge_iff_le] at hb') <;> (try (exfalso; omega))) | (refine altW.of ?_ ?_)
    refine .of ((hP2 _).mono ?_)
    rintro v J ⟨Y, u2, e2, rfl, rfl, he2, _, hu2⟩
    by_cases h2 : okT l ∧ inT l b
    · obtain rfl := he2.2 h2
      have hu2 := hu2 rfl
      replace hu := hu.app Y
      obtain ⟨hw0, hwa⟩ := h1
      have wa := way_way hw0 (show a.toNat < l.length by have := hwa.1; have := hwa.2; omega)
      have wb := way_way hw0 (show b.toNat < l.length by have := h2.2.1; have := h2.2.2; omega)
      have hcp := comm_pos hw0 (show a.toNat < l.length by have := hwa.1; have := hwa.2; omega) (show b.toNat < l.length by have := h2.2.1; have := h2.2.2; omega)
      have h16 := hw0.2.1
      have hle1 := wa.le
      have hle2 := wb.le
      have hal : a.toNat < l.length := by have := hwa.1; have := hwa.2; omega
      have hbl : b.toNat < l.length := by have := h2.2.1; have := h2.2.2; omega
      have hm : meet l a.toNat b.toNat = (way l a.toNat).getD (comm (way l a.toNat) (way l b.toNat) - 1) 0 := rfl
      clear hP1 hP2 wa wb
      generalize way l a.toNat = p at *
      generalize way l b.toNat = r at *
      have hcl := comm_le p r
      obtain ⟨k1, g1, rfl, x1⟩ := hu
      obtain ⟨k2, g2, rfl, x2⟩ := hu2
      have hG : ∃ Z, H ++ X ++ Y = H ++ Z := ⟨_, List.append_assoc _ _ _⟩
      repeat' first | simp (disch := first | with_reducible assumption | omega) only [go_sem, Bool.true_and, Bool.and_true, Bool.and_self, Bool.false_and, Bool.and_false, Bool.true_or, Bool.or_true, Bool.false_or, Bool.or_false, ↓reduceIte, Nat.reduceEqDiff, Nat.reduceAdd, Nat.reduceMul, Nat.reduceSub, Nat.reduceBEq, Nat.reduceLeDiff, Nat.reduceLT, Nat.reduceMod, Nat.reduceDiv, Int.reduceToNat, Int.reducePow, Int.reduceMul, Int.reduceAdd, Int.reduceSub, Int.reduceLE, Int.reduceLT, Int.reduceNeg, Int.reduceDiv, Int.reduceMod, Int.reduceEq, Int.reduceBEq, Int.reduceBNe, f9, f9b, f9r0, f9r1, f9r2, f9r3, f9r4, f9r5, f9r6, f9r7, f9r8, f9r9, f9r11] | (refine BrW.of (fun hb => ?_) (fun hb => ?_) <;> (have hb' := hb; try simp only [decide_eq_true_eq, decide_eq_false_iff_not, beq_iff_eq, bne_iff_ne, beq_eq_false_iff_ne, bne_eq_false_iff_eq, Bool.not_eq_true', Bool.not_eq_false', Bool.not_eq_true, Bool.not_eq_false, Bool.and_eq_true, Bool.or_eq_true, Bool.and_eq_false_iff, Bool.or_eq_false_iff, Int.not_lt, Int.not_le, ne_eq, gt_iff_lt, ge_iff_le] at hb') <;> (try (exfalso; omega))) | (refine altW.of ?_ ?_)
      have hx1 := x1
      have hx2 := x2
      rw [List.append_assoc] at hx1 hx2
      refine loopW.of (by decide) (fun m e J => ∃ i : Nat, e = [(8, slv k1 0 g1 p.length p.length), (10, slv k2 0 g2 r.length r.length), (11, .int .i64 i)] ∧ J = H ++ (X ++ Y) ∧ i ≤ comm p r ∧ m = comm p r - i) (comm p r) ⟨0, rfl, rfl, by omega, rfl⟩ ?_
      rintro m e J ⟨i, rfl, rfl, hi, rfl⟩
      by_cases hlt : i < comm p r
      · have y1 : (ints p)[i]? = some (.int .i64 (p.getD i 0)) := ints_get p i (by omega)
        have y2 : (ints r)[i]? = some (.int .i64 (r.getD i 0)) := ints_get r i (by omega)
        rw [← comm_get p r i hlt] at y2
        generalize p.getD i 0 = y at *
        repeat' first | simp (disch := first | with_reducible assumption | omega) only [go_sem, Bool.true_and, Bool.and_true, Bool.and_self, Bool.false_and, Bool.and_false, Bool.true_or, Bool.or_true, Bool.false_or, Bool.or_false, ↓reduceIte, Nat.reduceEqDiff, Nat.reduceAdd, Nat.reduceMul, Nat.reduceSub, Nat.reduceBEq, Nat.reduceLeDiff, Nat.reduceLT, Nat.reduceMod, Nat.reduceDiv, Int.reduceToNat, Int.reducePow, Int.reduceMul, Int.reduceAdd, Int.reduceSub, Int.reduceLE, Int.reduceLT, Int.reduceNeg, Int.reduceDiv, Int.reduceMod, Int.reduceEq, Int.reduceBEq, Int.reduceBNe, f9, f9b, f9r0, f9r1, f9r2, f9r3, f9r4, f9r5, f9r6, f9r7, f9r8, f9r9, f9r11, f9l0, hx1, hx2, y1, y2] | (refine BrW.of (fun hb => ?_) (fun hb => ?_) <;> (have hb' := hb; try simp only [decide_eq_true_eq, decide_eq_false_iff_not, beq_iff_eq, bne_iff_ne, beq_eq_false_iff_ne, bne_eq_false_iff_eq, Bool.not_eq_true', Bool.not_eq_false', Bool.not_eq_true, Bool.not_eq_false, Bool.and_eq_true, Bool.or_eq_true, Bool.and_eq_false_iff, Bool.or_eq_false_iff, Int.not_lt, Int.not_le, ne_eq, gt_iff_lt, ge_iff_le] at hb') <;> (try (exfalso; omega))) | (refine altW.of ?_ ?_)
        all_goals first | (exfalso; omega) | skip
        refine RdW.keep [8, 10, 11] (comm p r - (i + 1)) (by omega) ?_
        simp (disch := first | with_reducible assumption | omega) only [go_sem, Bool.true_and, Bool.and_true, Bool.and_self, Bool.false_and, Bool.and_false, Bool.true_or, Bool.or_true, Bool.false_or, Bool.or_false, ↓reduceIte, Nat.reduceEqDiff, Nat.reduceAdd, Nat.reduceMul, Nat.reduceSub, Nat.reduceBEq, Nat.reduceLeDiff, Nat.reduceLT, Nat.reduceMod, Nat.reduceDiv, Int.reduceToNat, Int.reducePow, Int.reduceMul, Int.reduceAdd, Int.reduceSub, Int.reduceLE, Int.reduceLT, Int.reduceNeg, Int.reduceDiv, Int.reduceMod, Int.reduceEq, Int.reduceBEq, Int.reduceBNe]
        exact ⟨i + 1, rfl, by omega, rfl⟩
      · obtain rfl : i = comm p r := by omega
        have ym : (ints p)[comm p r - 1]? = some (.int .i64 (p.getD (comm p r - 1) 0)) := ints_get p _ (by omega)
        by_cases hs : comm p r < p.length ∧ comm p r < r.length
        · have y1 : (ints p)[comm p r]? = some (.int .i64 (p.getD (comm p r) 0)) := ints_get p _ hs.1
          have y2 : (ints r)[comm p r]? = some (.int .i64 (r.getD (comm p r) 0)) := ints_get r _ hs.2
          have hne := comm_stop p r hs.1 hs.2
          generalize p.getD (comm p r) 0 = y at *
          generalize r.getD (comm p r) 0 = y' at *
          generalize p.getD (comm p r - 1) 0 = ym at *
          generalize comm p r = cm at *
          have hcm : ((cm : Int) - 1).toNat = cm - 1 := by omega
          repeat' first | simp (disch := first | with_reducible assumption | omega) only [go_sem, Bool.true_and, Bool.and_true, Bool.and_self, Bool.false_and, Bool.and_false, Bool.true_or, Bool.or_true, Bool.false_or, Bool.or_false, ↓reduceIte, Nat.reduceEqDiff, Nat.reduceAdd, Nat.reduceMul, Nat.reduceSub, Nat.reduceBEq, Nat.reduceLeDiff, Nat.reduceLT, Nat.reduceMod, Nat.reduceDiv, Int.reduceToNat, Int.reducePow, Int.reduceMul, Int.reduceAdd, Int.reduceSub, Int.reduceLE, Int.reduceLT, Int.reduceNeg, Int.reduceDiv, Int.reduceMod, Int.reduceEq, Int.reduceBEq, Int.reduceBNe, f9, f9b, f9r0, f9r1, f9r2, f9r3, f9r4, f9r5, f9r6, f9r7, f9r8, f9r9, f9r11, f9l0, f9, f9b, f9r0, f9r1, f9r2, f9r3, f9r4, f9r5, f9r6, f9r7, f9r8, f9r9, f9r11, hx1, hx2, y1, y2, ym, hcm] | (refine BrW.of (fun hb => ?_) (fun hb => ?_) <;> (have hb' := hb; try simp only [decide_eq_true_eq, decide_eq_false_iff_not, beq_iff_eq, bne_iff_ne, beq_eq_false_iff_ne, bne_eq_false_iff_eq, Bool.not_eq_true', Bool.not_eq_false', Bool.not_eq_true, Bool.not_eq_false, Bool.and_eq_true, Bool.or_eq_true, Bool.and_eq_false_iff, Bool.or_eq_false_iff, Int.not_lt, Int.not_le, ne_eq, gt_iff_lt, ge_iff_le] at hb') <;> (try (exfalso; omega))) | (refine altW.of ?_ ?_)
          all_goals first | (exfalso; omega) | exact .back rfl ⟨_, _, rfl, rfl, ⟨fun _ => ⟨hw0, hwa, h2.2⟩, fun _ => rfl⟩, fun _ => hm.symm⟩
        · generalize p.getD (comm p r - 1) 0 = ym at *
          generalize comm p r = cm at *
          have hcm : ((cm : Int) - 1).toNat = cm - 1 := by omega
          repeat' first | simp (disch := first | with_reducible assumption | omega) only [go_sem, Bool.true_and, Bool.and_true, Bool.and_self, Bool.false_and, Bool.and_false, Bool.true_or, Bool.or_true, Bool.false_or, Bool.or_false, ↓reduceIte, Nat.reduceEqDiff, Nat.reduceAdd, Nat.reduceMul, Nat.reduceSub, Nat.reduceBEq, Nat.reduceLeDiff, Nat.reduceLT, Nat.reduceMod, Nat.reduceDiv, Int.reduceToNat, Int.reducePow, Int.reduceMul, Int.reduceAdd, Int.reduceSub, Int.reduceLE, Int.reduceLT, Int.reduceNeg, Int.reduceDiv, Int.reduceMod, Int.reduceEq, Int.reduceBEq, Int.reduceBNe, f9, f9b, f9r0, f9r1, f9r2, f9r3, f9r4, f9r5, f9r6, f9r7, f9r8, f9r9, f9r11, f9l0, f9, f9b, f9r0, f9r1, f9r2, f9r3, f9r4, f9r5, f9r6, f9r7, f9r8, f9r9, f9r11, hx1, hx2, ym, hcm] | (refine BrW.of (fun hb => ?_) (fun hb => ?_) <;> (have hb' := hb; try simp only [decide_eq_true_eq, decide_eq_false_iff_not, beq_iff_eq, bne_iff_ne, beq_eq_false_iff_ne, bne_eq_false_iff_eq, Bool.not_eq_true', Bool.not_eq_false', Bool.not_eq_true, Bool.not_eq_false, Bool.and_eq_true, Bool.or_eq_true, Bool.and_eq_false_iff, Bool.or_eq_false_iff, Int.not_lt, Int.not_le, ne_eq, gt_iff_lt, ge_iff_le] at hb') <;> (try (exfalso; omega))) | (refine altW.of ?_ ?_)
          all_goals first | (exfalso; omega) | exact .back rfl ⟨_, _, rfl, rfl, ⟨fun _ => ⟨hw0, hwa, h2.2⟩, fun _ => rfl⟩, fun _ => hm.symm⟩
    · have hne : ¬ e2 = 0 := fun h => h2 (he2.1 h)
      repeat' first | simp (disch := first | with_reducible assumption | omega) only [go_sem, Bool.true_and, Bool.and_true, Bool.and_self, Bool.false_and, Bool.and_false, Bool.true_or, Bool.or_true, Bool.false_or, Bool.or_false, ↓reduceIte, Nat.reduceEqDiff, Nat.reduceAdd, Nat.reduceMul, Nat.reduceSub, Nat.reduceBEq, Nat.reduceLeDiff, Nat.reduceLT, Nat.reduceMod, Nat.reduceDiv, Int.reduceToNat, Int.reducePow, Int.reduceMul, Int.reduceAdd, Int.reduceSub, Int.reduceLE, Int.reduceLT, Int.reduceNeg, Int.reduceDiv, Int.reduceMod, Int.reduceEq, Int.reduceBEq, Int.reduceBNe, f9, f9b, f9r0, f9r1, f9r2, f9r3, f9r4, f9r5, f9r6, f9r7, f9r8, f9r9, f9r11] | (refine BrW.of (fun hb => ?_) (fun hb => ?_) <;> (have hb' := hb; try simp only [decide_eq_true_eq, decide_eq_false_iff_not, beq_iff_eq, bne_iff_ne, beq_eq_false_iff_ne, bne_eq_false_iff_eq, Bool.not_eq_true', Bool.not_eq_false', Bool.not_eq_true, Bool.not_eq_false, Bool.and_eq_true, Bool.or_eq_true, Bool.and_eq_false_iff, Bool.or_eq_false_iff, Int.not_lt, Int.not_le, ne_eq, gt_iff_lt, ge_iff_le] at hb') <;> (try (exfalso; omega))) | (refine altW.of ?_ ?_)
      all_goals first | (exfalso; omega) | exact .back rfl ⟨_, _, rfl, rfl, ⟨fun h => absurd h hne, fun h => absurd ⟨h.1, h.2.2⟩ h2⟩, fun h => absurd h hne⟩
  · have hne : ¬ e = 0 := fun h => h1 (he.1 h)
    repeat' first | simp (disch := first | with_reducible assumption | omega) only [go_sem, Bool.true_and, Bool.and_true, Bool.and_self, Bool.false_and, Bool.and_false, Bool.true_or, Bool.or_true, Bool.false_or, Bool.or_false, ↓reduceIte, Nat.reduceEqDiff, Nat.reduceAdd, Nat.reduceMul, Nat.reduceSub, Nat.reduceBEq, Nat.reduceLeDiff, Nat.reduceLT, Nat.reduceMod, Nat.reduceDiv, Int.reduceToNat, Int.reducePow, Int.reduceMul, Int.reduceAdd, Int.reduceSub, Int.reduceLE, Int.reduceLT, Int.reduceNeg, Int.reduceDiv, Int.reduceMod, Int.reduceEq, Int.reduceBEq, Int.reduceBNe, f9, f9b, f9r0, f9r1, f9r2, f9r3, f9r4, f9r5, f9r6, f9r7, f9r8, f9r9, f9r11] | (refine BrW.of (fun hb => ?_) (fun hb => ?_) <;> (have hb' := hb; try simp only [decide_eq_true_eq, decide_eq_false_iff_not, beq_iff_eq, bne_iff_ne, beq_eq_false_iff_ne, bne_eq_false_iff_eq, Bool.not_eq_true', Bool.not_eq_false', Bool.not_eq_true, Bool.not_eq_false, Bool.and_eq_true, Bool.or_eq_true, Bool.and_eq_false_iff, Bool.or_eq_false_iff, Int.not_lt, Int.not_le, ne_eq, gt_iff_lt, ge_iff_le] at hb') <;> (try (exfalso; omega))) | (refine altW.of ?_ ?_)
    all_goals first | (exfalso; omega) | exact .back rfl ⟨_, _, rfl, rfl, ⟨fun h => absurd h hne, fun h => absurd ⟨h.1, h.2.1⟩ h1⟩, fun h => absurd h hne⟩
end Go.Proofs.Ytlnocgfblheehaa
