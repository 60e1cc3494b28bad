import Derived.Test.YtimmpjfbejojhaaSteps
set_option linter.unusedSimpArgs false
set_option linter.unusedVariables false
set_option maxHeartbeats 2000000
set_option maxRecDepth 20000
namespace Go.Proofs.Ytimmpjfbejojhaa
open Go Go.Am
attribute [local irreducible] opsW Ww loopW callW drawW outW outDW gW cW BrW bothW vW resW DropW RdW dcallW Later.run

theorem CloneI_spec (l : List Int) (k o g c : Nat) (H : Heap) (hs : Tbl Int ienc 1 0 H k o g l) (hl : l.length ≤ 1099511627776) (hc : l.length ≤ c) :
    ACallK Try.prog 13 [slv k o g l.length c] H (fun v H' => ∃ g', v = slv H.length 0 g' l.length l.length ∧ H' = H ++ [.cells g' 1 false (flat' ienc l)]) := by
  obtain ⟨ro, cs, hk, hle, hcs⟩ := hs.at'
  have ht := Tbl.cells (enc := ienc) (fun _ => rfl) hle hcs
  try simp only [Nat.mul_one] at ht
  refine .walkW f13_ok (by simp; decide) (by decide) ?_
  have hkn := get_old hk
  simp (disch := first | with_reducible assumption | omega) only [go_sem, Bool.true_and, Bool.and_true, Bool.and_self, Bool.false_and, Bool.and_false, Bool.true_or, Bool.or_true, Bool.false_or, Bool.or_false, ↓reduceIte, Nat.reduceEqDiff, Nat.reduceAdd, Nat.reduceMul, Nat.reduceSub, Nat.reduceBEq, Nat.reduceLeDiff, Nat.reduceLT, Nat.reduceMod, Nat.reduceDiv, Int.reduceToNat, Int.reducePow, Int.reduceMul, Int.reduceAdd, Int.reduceSub, Int.reduceLE, Int.reduceLT, Int.reduceNeg, Int.reduceDiv, Int.reduceMod, Int.reduceEq, Int.reduceBEq, Int.reduceBNe, f13, f13b, f13r0, f13r1, f13r2, f13r3, hk]
  refine .of ?_ (fun hn => ?_)
  · by_cases hz : l.length = 0
    · have hb : flat' ienc l = [] := by rw [List.length_eq_zero_iff.1 hz]; rfl
      simp (disch := first | with_reducible assumption | omega) only [go_sem, Bool.true_and, Bool.and_true, Bool.and_self, Bool.false_and, Bool.and_false, Bool.true_or, Bool.or_true, Bool.false_or, Bool.or_false, ↓reduceIte, Nat.reduceEqDiff, Nat.reduceAdd, Nat.reduceMul, Nat.reduceSub, Nat.reduceBEq, Nat.reduceLeDiff, Nat.reduceLT, Nat.reduceMod, Nat.reduceDiv, Int.reduceToNat, Int.reducePow, Int.reduceMul, Int.reduceAdd, Int.reduceSub, Int.reduceLE, Int.reduceLT, Int.reduceNeg, Int.reduceDiv, Int.reduceMod, Int.reduceEq, Int.reduceBEq, Int.reduceBNe, f13, f13b, f13r0, f13r1, f13r2, f13r3, hk, hkn, hz]
      exact .here ⟨0, by rw [hz], by rw [hb]⟩
    · have hz' : ¬ l.length ≤ 0 := by omega
      simp (disch := first | with_reducible assumption | omega) only [go_sem, Bool.true_and, Bool.and_true, Bool.and_self, Bool.false_and, Bool.and_false, Bool.true_or, Bool.or_true, Bool.false_or, Bool.or_false, ↓reduceIte, Nat.reduceEqDiff, Nat.reduceAdd, Nat.reduceMul, Nat.reduceSub, Nat.reduceBEq, Nat.reduceLeDiff, Nat.reduceLT, Nat.reduceMod, Nat.reduceDiv, Int.reduceToNat, Int.reducePow, Int.reduceMul, Int.reduceAdd, Int.reduceSub, Int.reduceLE, Int.reduceLT, Int.reduceNeg, Int.reduceDiv, Int.reduceMod, Int.reduceEq, Int.reduceBEq, Int.reduceBNe, f13, f13b, f13r0, f13r1, f13r2, f13r3, hk, hkn, hz, hz', ht, List.take_zero, List.drop_nil]
      exact .here ⟨1, rfl, rfl⟩
  · have hz : l.length = 0 := by have : c = 0 := by simpa using hn
                                 omega
    have hb : flat' ienc l = [] := by rw [List.length_eq_zero_iff.1 hz]; rfl
    simp (disch := first | with_reducible assumption | omega) only [go_sem, Bool.true_and, Bool.and_true, Bool.and_self, Bool.false_and, Bool.and_false, Bool.true_or, Bool.or_true, Bool.false_or, Bool.or_false, ↓reduceIte, Nat.reduceEqDiff, Nat.reduceAdd, Nat.reduceMul, Nat.reduceSub, Nat.reduceBEq, Nat.reduceLeDiff, Nat.reduceLT, Nat.reduceMod, Nat.reduceDiv, Int.reduceToNat, Int.reducePow, Int.reduceMul, Int.reduceAdd, Int.reduceSub, Int.reduceLE, Int.reduceLT, Int.reduceNeg, Int.reduceDiv, Int.reduceMod, Int.reduceEq, Int.reduceBEq, Int.reduceBNe, f13, f13b, f13r0, f13r1, f13r2, f13r3, hk]
    refine .ghost 1 false ⟨0, by rw [hz], by rw [hb]⟩


theorem CloneI_nil (H : Heap) : ACallK Try.prog 13 [.slice none 0 0] H (fun v H' => v = .slice none 0 0 ∧ H' = H) := by
  refine .walkW f13_ok (by simp; decide) (by decide) ?_
  repeat' first | simp (disch := first | with_reducible assumption | omega) only [go_sem, Bool.true_and, Bool.and_true, Bool.and_self, Bool.false_and, Bool.and_false, Bool.true_or, Bool.or_true, Bool.false_or, Bool.or_false, ↓reduceIte, Nat.reduceEqDiff, Nat.reduceAdd, Nat.reduceMul, Nat.reduceSub, Nat.reduceBEq, Nat.reduceLeDiff, Nat.reduceLT, Nat.reduceMod, Nat.reduceDiv, Int.reduceToNat, Int.reducePow, Int.reduceMul, Int.reduceAdd, Int.reduceSub, Int.reduceLE, Int.reduceLT, Int.reduceNeg, Int.reduceDiv, Int.reduceMod, Int.reduceEq, Int.reduceBEq, Int.reduceBNe, f13, f13b, f13r0, f13r1, f13r2, f13r3] | (refine BrW.of (fun hb => ?_) (fun hb => ?_) <;> (have hb' := hb; try simp only [decide_eq_true_eq, decide_eq_false_iff_not, beq_iff_eq, bne_iff_ne, beq_eq_false_iff_ne, bne_eq_false_iff_eq, Bool.not_eq_true', Bool.not_eq_false', Bool.not_eq_true, Bool.not_eq_false, Bool.and_eq_true, Bool.or_eq_true, Bool.and_eq_false_iff, Bool.or_eq_false_iff, Int.not_lt, Int.not_le, ne_eq, gt_iff_lt, ge_iff_le] at hb') <;> (try (exfalso; omega)))
  all_goals exact .here ⟨rfl, rfl⟩

/-- A new slice of whole numbers, in what the heap has grown by; or none at all. -/
def IsX (b : Nat) (x : Heap) (w : Value) (l : List Int) : Prop := (w = .slice none 0 0 ∧ l = []) ∨ ∃ k g, w = slv (b + k) 0 g l.length l.length ∧ x[k]? = some (.cells g 1 false (ints l))
theorem IsX.app {b : Nat} {x : Heap} {w : Value} {l : List Int} (h : IsX b x w l) (y : Heap) : IsX b (x ++ y) w l := by
  rcases h with h | ⟨k, g, h1, h2⟩
  · exact .inl h
  · exact .inr ⟨k, g, h1, get_old h2 y⟩
theorem IsX.is {H x : Heap} {w : Value} {l : List Int} (h : IsX H.length x w l) : IsI (H ++ x) w l := by
  rcases h with h | ⟨k, g, h1, h2⟩
  · exact .inl h
  · exact .inr ⟨_, 0, g, _, h1, Ints.new _ _ _ false _ (by rw [List.getElem?_append_right (by omega)]; rw [← h2]; congr 1; omega), Nat.le_refl _⟩
theorem IsX.up {b : Nat} {x y : Heap} {w : Value} {l : List Int} (h : IsX (b + x.length) y w l) : IsX b (x ++ y) w l := by
  rcases h with h | ⟨k, g, h1, h2⟩
  · exact .inl h
  · exact .inr ⟨x.length + k, g, by rw [h1, Nat.add_assoc], by rw [List.getElem?_append_right (by omega)]; rw [← h2]; congr 1; omega⟩

theorem Not_spec (e : Int) (H : Heap) : ACallK Try.prog 12 [.int .i64 e] H (fun v H' => v = .tuple #[q0.val (.slice none 0 0), .int .i64 0, .int .i64 e] ∧ H' = H) := by
  refine .walkW f12_ok (by simp; decide) (by decide) ?_
  repeat' first | simp (disch := first | with_reducible assumption | omega) only [go_sem, Bool.true_and, Bool.and_true, Bool.and_self, Bool.false_and, Bool.and_false, Bool.true_or, Bool.or_true, Bool.false_or, Bool.or_false, ↓reduceIte, Nat.reduceEqDiff, Nat.reduceAdd, Nat.reduceMul, Nat.reduceSub, Nat.reduceBEq, Nat.reduceLeDiff, Nat.reduceLT, Nat.reduceMod, Nat.reduceDiv, Int.reduceToNat, Int.reducePow, Int.reduceMul, Int.reduceAdd, Int.reduceSub, Int.reduceLE, Int.reduceLT, Int.reduceNeg, Int.reduceDiv, Int.reduceMod, Int.reduceEq, Int.reduceBEq, Int.reduceBNe, f12, f12b, f12r0, f12r1] | (refine BrW.of (fun hb => ?_) (fun hb => ?_) <;> (have hb' := hb; try simp only [decide_eq_true_eq, decide_eq_false_iff_not, beq_iff_eq, bne_iff_ne, beq_eq_false_iff_ne, bne_eq_false_iff_eq, Bool.not_eq_true', Bool.not_eq_false', Bool.not_eq_true, Bool.not_eq_false, Bool.and_eq_true, Bool.or_eq_true, Bool.and_eq_false_iff, Bool.or_eq_false_iff, Int.not_lt, Int.not_le, ne_eq, gt_iff_lt, ge_iff_le] at hb') <;> (try (exfalso; omega)))
  all_goals exact .back rfl ⟨rfl, rfl⟩

theorem Step_err {q : Q} {o : O} {H X : Heap} {e : Int} (hs0 : stepO q o = none) (he : e ≠ 0) : ∃ (X' : Heap) (q' : Q) (w' : Value) (r e' : Int), H ++ X = H ++ X' ∧ Value.tuple #[q0.val (.slice none 0 0), .int .i64 0, .int .i64 e] = .tuple #[q'.val w', .int .i64 r, .int .i64 e'] ∧ IsX H.length X' w' q'.l ∧ (e' = 0 → stepO q o = some (q', r)) ∧ (e' ≠ 0 → stepO q o = none) :=
  ⟨X, q0, _, 0, e, rfl, rfl, .inl ⟨rfl, rfl⟩, fun h => (he h).elim, fun _ => hs0⟩
theorem Step_u (q : Q) (o : O) (w : Value) (H : Heap) (hI : IsI H w q.l) (hB : q.l.length ≤ 9223372036854775807) : ACallK Try.prog 7 [q.val w, o.val] H (fun v H' => ∃ (X : Heap) (q' : Q) (w' : Value) (r e : Int), H' = H ++ X ∧ v = .tuple #[q'.val w', .int .i64 r, .int .i64 e] ∧ IsX H.length X w' q'.l ∧ (e = 0 → stepO q o = some (q', r)) ∧ (e ≠ 0 → stepO q o = none)) := by
  refine .walkW f7_ok (by simp; decide) (by decide) ?_
  obtain ⟨l, mo, mb, dr⟩ := q
  obtain ⟨k, n⟩ := o
  simp only at hI hB
  have hR := fun H' => Right_spec ⟨l, mo, mb, dr⟩ w H' 
  simp only at hR
  have hR1 := fun x => hR (H ++ x) (hI.app x) hB
  clear hR
  by_cases hr : Q.right ⟨l, mo, mb, dr⟩
  · have hz : (!decide (Q.right ⟨l, mo, mb, dr⟩)) = false := by simp [hr]
    have hS := hr.sum
    have hL := hr.len
    simp only at hS hL
    have hr2 := hr
    unfold Q.right at hr2
    simp only at hr2
    obtain ⟨m1, m2, m3, m4, m5, m6, m7, m8, m9⟩ := hr2
    by_cases k1 : k = 1
    · by_cases hn : 1 ≤ n ∧ n ≤ 1500
      · by_cases hf : Q.fit ⟨l, mo, mb, dr⟩ n
        · have hs0 : stepO ⟨l, mo, mb, dr⟩ ⟨k, n⟩ = some (⟨l ++ [n], mo, mb, dr⟩, 1) := by unfold stepO; simp only [if_pos hr, if_pos k1, if_pos hn, if_pos hf]
          unfold Q.fit at hf
          simp only at hf
          rcases hI with ⟨rfl, rfl⟩ | ⟨ki, oi, gi, ci, rfl, hi, hc⟩
          · clear m8 m9
            have hS0 := fun A B C => Sum_spec [] (.slice none 0 0) (H ++ [A, B, C]) (.inl ⟨rfl, rfl⟩) (by simp) (by simp)
            simp only [List.length_nil, List.sum_nil] at hS0 hf
            repeat' first | simp (disch := first | with_reducible assumption | omega) only [go_sem, Bool.true_and, Bool.and_true, Bool.and_self, Bool.false_and, Bool.and_false, Bool.true_or, Bool.or_true, Bool.false_or, Bool.or_false, ↓reduceIte, Nat.reduceEqDiff, Nat.reduceAdd, Nat.reduceMul, Nat.reduceSub, Nat.reduceBEq, Nat.reduceLeDiff, Nat.reduceLT, Nat.reduceMod, Nat.reduceDiv, Int.reduceToNat, Int.reducePow, Int.reduceMul, Int.reduceAdd, Int.reduceSub, Int.reduceLE, Int.reduceLT, Int.reduceNeg, Int.reduceDiv, Int.reduceMod, Int.reduceEq, Int.reduceBEq, Int.reduceBNe, f7, f7b, f7r0, f7r1, f7r2, f7r3, f7r4, f7r5, f7r6, f7r7, f7r8, f7r9, f7r10, f7r11, f7r12, f7r13, f7r14, f7r15, f7r16, f7r17, f7r18, f7r19, f7r20, f7r21, f7r22, Q.val, O.val, hz] | (refine BrW.of (fun hb => ?_) (fun hb => ?_) <;> (have hb' := hb; try simp only [decide_eq_true_eq, decide_eq_false_iff_not, beq_iff_eq, bne_iff_ne, beq_eq_false_iff_ne, bne_eq_false_iff_eq, Bool.not_eq_true', Bool.not_eq_false', Bool.not_eq_true, Bool.not_eq_false, Bool.and_eq_true, Bool.or_eq_true, Bool.and_eq_false_iff, Bool.or_eq_false_iff, Int.not_lt, Int.not_le, ne_eq, gt_iff_lt, ge_iff_le] at hb') <;> (try (exfalso; omega))) | (refine .of ((hR1 _).mono ?_); rintro v _ ⟨rfl, rfl⟩) | (refine .of ((CloneI_nil _).mono ?_); rintro v _ ⟨rfl, rfl⟩) | (refine dcallW.of _ _ (hS0 _ _ _) ?_) | (refine .of ((Not_spec _ _).mono ?_); rintro v _ ⟨rfl, rfl⟩)
            all_goals exact .here ⟨_, ⟨[n], mo, mb, dr⟩, _, 1, 0, rfl, rfl, .inr ⟨4, 0, rfl, rfl⟩, fun _ => hs0, fun h => (h rfl).elim⟩
          · have hC := fun x => CloneI_spec l ki oi gi ci (H ++ x) (hi.app x) (by omega) hc
            simp only [flat'_ienc] at hC
            have hS0 := fun A B C gn => Sum_spec l (slv (H.length + 3) 0 gn l.length l.length) (H ++ [A, B, C, .cells gn 1 false (ints l)]) (.inr ⟨_, 0, gn, _, rfl, Ints.new _ _ _ false _ (by rw [get_new]; rfl), Nat.le_refl _⟩) (by omega) m8
            have hni : ¬ l.length + 1 ≤ l.length := by omega
            have il := ints_length l
            have htk := ints_take l l.length (Nat.le_refl _)
            generalize l.sum = S at *
            clear m8 m9
            repeat' first | simp (disch := first | with_reducible assumption | omega) only [go_sem, Bool.true_and, Bool.and_true, Bool.and_self, Bool.false_and, Bool.and_false, Bool.true_or, Bool.or_true, Bool.false_or, Bool.or_false, ↓reduceIte, Nat.reduceEqDiff, Nat.reduceAdd, Nat.reduceMul, Nat.reduceSub, Nat.reduceBEq, Nat.reduceLeDiff, Nat.reduceLT, Nat.reduceMod, Nat.reduceDiv, Int.reduceToNat, Int.reducePow, Int.reduceMul, Int.reduceAdd, Int.reduceSub, Int.reduceLE, Int.reduceLT, Int.reduceNeg, Int.reduceDiv, Int.reduceMod, Int.reduceEq, Int.reduceBEq, Int.reduceBNe, f7, f7b, f7r0, f7r1, f7r2, f7r3, f7r4, f7r5, f7r6, f7r7, f7r8, f7r9, f7r10, f7r11, f7r12, f7r13, f7r14, f7r15, f7r16, f7r17, f7r18, f7r19, f7r20, f7r21, f7r22, Q.val, O.val, hz, hni, il, htk] | (refine BrW.of (fun hb => ?_) (fun hb => ?_) <;> (have hb' := hb; try simp only [decide_eq_true_eq, decide_eq_false_iff_not, beq_iff_eq, bne_iff_ne, beq_eq_false_iff_ne, bne_eq_false_iff_eq, Bool.not_eq_true', Bool.not_eq_false', Bool.not_eq_true, Bool.not_eq_false, Bool.and_eq_true, Bool.or_eq_true, Bool.and_eq_false_iff, Bool.or_eq_false_iff, Int.not_lt, Int.not_le, ne_eq, gt_iff_lt, ge_iff_le] at hb') <;> (try (exfalso; omega))) | (refine .of ((hR1 _).mono ?_); rintro v _ ⟨rfl, rfl⟩) | (refine .of ((hC _).mono ?_); rintro v _ ⟨gn, rfl, rfl⟩) | (refine dcallW.of _ _ (hS0 _ _ _ _) ?_) | (refine .of ((Not_spec _ _).mono ?_); rintro v _ ⟨rfl, rfl⟩)
            all_goals exact .here ⟨_, ⟨l ++ [n], mo, mb, dr⟩, slv (H.length + 3) 0 (gn + 1) (l ++ [n]).length (l ++ [n]).length, 1, 0, rfl, by rw [List.length_append]; rfl, .inr ⟨3, gn + 1, rfl, by rw [← ints_snoc]; rfl⟩, fun _ => hs0, fun h => (h rfl).elim⟩
        · by_cases hd : dr = 1099511627776
          · have hs0 : stepO ⟨l, mo, mb, dr⟩ ⟨k, n⟩ = none := by unfold stepO; simp only [if_pos hr, if_pos k1, if_pos hn, if_neg hf, if_pos hd]
            unfold Q.fit at hf
            simp only at hf
            rcases hI with ⟨rfl, rfl⟩ | ⟨ki, oi, gi, ci, rfl, hi, hc⟩
            · clear m8 m9
              have hS0 := fun A B C => Sum_spec [] (.slice none 0 0) (H ++ [A, B, C]) (.inl ⟨rfl, rfl⟩) (by simp) (by simp)
              simp only [List.length_nil, List.sum_nil] at hS0 hf
              repeat' first | simp (disch := first | with_reducible assumption | omega) only [go_sem, Bool.true_and, Bool.and_true, Bool.and_self, Bool.false_and, Bool.and_false, Bool.true_or, Bool.or_true, Bool.false_or, Bool.or_false, ↓reduceIte, Nat.reduceEqDiff, Nat.reduceAdd, Nat.reduceMul, Nat.reduceSub, Nat.reduceBEq, Nat.reduceLeDiff, Nat.reduceLT, Nat.reduceMod, Nat.reduceDiv, Int.reduceToNat, Int.reducePow, Int.reduceMul, Int.reduceAdd, Int.reduceSub, Int.reduceLE, Int.reduceLT, Int.reduceNeg, Int.reduceDiv, Int.reduceMod, Int.reduceEq, Int.reduceBEq, Int.reduceBNe, f7, f7b, f7r0, f7r1, f7r2, f7r3, f7r4, f7r5, f7r6, f7r7, f7r8, f7r9, f7r10, f7r11, f7r12, f7r13, f7r14, f7r15, f7r16, f7r17, f7r18, f7r19, f7r20, f7r21, f7r22, Q.val, O.val, hz] | (refine BrW.of (fun hb => ?_) (fun hb => ?_) <;> (have hb' := hb; try simp only [decide_eq_true_eq, decide_eq_false_iff_not, beq_iff_eq, bne_iff_ne, beq_eq_false_iff_ne, bne_eq_false_iff_eq, Bool.not_eq_true', Bool.not_eq_false', Bool.not_eq_true, Bool.not_eq_false, Bool.and_eq_true, Bool.or_eq_true, Bool.and_eq_false_iff, Bool.or_eq_false_iff, Int.not_lt, Int.not_le, ne_eq, gt_iff_lt, ge_iff_le] at hb') <;> (try (exfalso; omega))) | (refine .of ((hR1 _).mono ?_); rintro v _ ⟨rfl, rfl⟩) | (refine .of ((CloneI_nil _).mono ?_); rintro v _ ⟨rfl, rfl⟩) | (refine dcallW.of _ _ (hS0 _ _ _) ?_) | (refine .of ((Not_spec _ _).mono ?_); rintro v _ ⟨rfl, rfl⟩)
              all_goals exact .here (Step_err hs0 (by decide))
            · have hC := fun x => CloneI_spec l ki oi gi ci (H ++ x) (hi.app x) (by omega) hc
              simp only [flat'_ienc] at hC
              have hS0 := fun A B C gn => Sum_spec l (slv (H.length + 3) 0 gn l.length l.length) (H ++ [A, B, C, .cells gn 1 false (ints l)]) (.inr ⟨_, 0, gn, _, rfl, Ints.new _ _ _ false _ (by rw [get_new]; rfl), Nat.le_refl _⟩) (by omega) m8
              have hni : ¬ l.length + 1 ≤ l.length := by omega
              have il := ints_length l
              have htk := ints_take l l.length (Nat.le_refl _)
              generalize l.sum = S at *
              clear m8 m9
              repeat' first | simp (disch := first | with_reducible assumption | omega) only [go_sem, Bool.true_and, Bool.and_true, Bool.and_self, Bool.false_and, Bool.and_false, Bool.true_or, Bool.or_true, Bool.false_or, Bool.or_false, ↓reduceIte, Nat.reduceEqDiff, Nat.reduceAdd, Nat.reduceMul, Nat.reduceSub, Nat.reduceBEq, Nat.reduceLeDiff, Nat.reduceLT, Nat.reduceMod, Nat.reduceDiv, Int.reduceToNat, Int.reducePow, Int.reduceMul, Int.reduceAdd, Int.reduceSub, Int.reduceLE, Int.reduceLT, Int.reduceNeg, Int.reduceDiv, Int.reduceMod, Int.reduceEq, Int.reduceBEq, Int.reduceBNe, f7, f7b, f7r0, f7r1, f7r2, f7r3, f7r4, f7r5, f7r6, f7r7, f7r8, f7r9, f7r10, f7r11, f7r12, f7r13, f7r14, f7r15, f7r16, f7r17, f7r18, f7r19, f7r20, f7r21, f7r22, Q.val, O.val, hz, hni, il, htk] | (refine BrW.of (fun hb => ?_) (fun hb => ?_) <;> (have hb' := hb; try simp only [decide_eq_true_eq, decide_eq_false_iff_not, beq_iff_eq, bne_iff_ne, beq_eq_false_iff_ne, bne_eq_false_iff_eq, Bool.not_eq_true', Bool.not_eq_false', Bool.not_eq_true, Bool.not_eq_false, Bool.and_eq_true, Bool.or_eq_true, Bool.and_eq_false_iff, Bool.or_eq_false_iff, Int.not_lt, Int.not_le, ne_eq, gt_iff_lt, ge_iff_le] at hb') <;> (try (exfalso; omega))) | (refine .of ((hR1 _).mono ?_); rintro v _ ⟨rfl, rfl⟩) | (refine .of ((hC _).mono ?_); rintro v _ ⟨gn, rfl, rfl⟩) | (refine dcallW.of _ _ (hS0 _ _ _ _) ?_) | (refine .of ((Not_spec _ _).mono ?_); rintro v _ ⟨rfl, rfl⟩)
              all_goals exact .here (Step_err hs0 (by decide))
          · have hs0 : stepO ⟨l, mo, mb, dr⟩ ⟨k, n⟩ = some (⟨l, mo, mb, dr + 1⟩, 0) := by unfold stepO; simp only [if_pos hr, if_pos k1, if_pos hn, if_neg hf, if_neg hd]
            unfold Q.fit at hf
            simp only at hf
            rcases hI with ⟨rfl, rfl⟩ | ⟨ki, oi, gi, ci, rfl, hi, hc⟩
            · clear m8 m9
              have hS0 := fun A B C => Sum_spec [] (.slice none 0 0) (H ++ [A, B, C]) (.inl ⟨rfl, rfl⟩) (by simp) (by simp)
              simp only [List.length_nil, List.sum_nil] at hS0 hf
              repeat' first | simp (disch := first | with_reducible assumption | omega) only [go_sem, Bool.true_and, Bool.and_true, Bool.and_self, Bool.false_and, Bool.and_false, Bool.true_or, Bool.or_true, Bool.false_or, Bool.or_false, ↓reduceIte, Nat.reduceEqDiff, Nat.reduceAdd, Nat.reduceMul, Nat.reduceSub, Nat.reduceBEq, Nat.reduceLeDiff, Nat.reduceLT, Nat.reduceMod, Nat.reduceDiv, Int.reduceToNat, Int.reducePow, Int.reduceMul, Int.reduceAdd, Int.reduceSub, Int.reduceLE, Int.reduceLT, Int.reduceNeg, Int.reduceDiv, Int.reduceMod, Int.reduceEq, Int.reduceBEq, Int.reduceBNe, f7, f7b, f7r0, f7r1, f7r2, f7r3, f7r4, f7r5, f7r6, f7r7, f7r8, f7r9, f7r10, f7r11, f7r12, f7r13, f7r14, f7r15, f7r16, f7r17, f7r18, f7r19, f7r20, f7r21, f7r22, Q.val, O.val, hz] | (refine BrW.of (fun hb => ?_) (fun hb => ?_) <;> (have hb' := hb; try simp only [decide_eq_true_eq, decide_eq_false_iff_not, beq_iff_eq, bne_iff_ne, beq_eq_false_iff_ne, bne_eq_false_iff_eq, Bool.not_eq_true', Bool.not_eq_false', Bool.not_eq_true, Bool.not_eq_false, Bool.and_eq_true, Bool.or_eq_true, Bool.and_eq_false_iff, Bool.or_eq_false_iff, Int.not_lt, Int.not_le, ne_eq, gt_iff_lt, ge_iff_le] at hb') <;> (try (exfalso; omega))) | (refine .of ((hR1 _).mono ?_); rintro v _ ⟨rfl, rfl⟩) | (refine .of ((CloneI_nil _).mono ?_); rintro v _ ⟨rfl, rfl⟩) | (refine dcallW.of _ _ (hS0 _ _ _) ?_) | (refine .of ((Not_spec _ _).mono ?_); rintro v _ ⟨rfl, rfl⟩)
              all_goals exact .here ⟨_, ⟨[], mo, mb, dr + 1⟩, _, 0, 0, rfl, rfl, .inl ⟨rfl, rfl⟩, fun _ => hs0, fun h => (h rfl).elim⟩
            · have hC := fun x => CloneI_spec l ki oi gi ci (H ++ x) (hi.app x) (by omega) hc
              simp only [flat'_ienc] at hC
              have hS0 := fun A B C gn => Sum_spec l (slv (H.length + 3) 0 gn l.length l.length) (H ++ [A, B, C, .cells gn 1 false (ints l)]) (.inr ⟨_, 0, gn, _, rfl, Ints.new _ _ _ false _ (by rw [get_new]; rfl), Nat.le_refl _⟩) (by omega) m8
              have hni : ¬ l.length + 1 ≤ l.length := by omega
              have il := ints_length l
              have htk := ints_take l l.length (Nat.le_refl _)
              generalize l.sum = S at *
              clear m8 m9
              repeat' first | simp (disch := first | with_reducible assumption | omega) only [go_sem, Bool.true_and, Bool.and_true, Bool.and_self, Bool.false_and, Bool.and_false, Bool.true_or, Bool.or_true, Bool.false_or, Bool.or_false, ↓reduceIte, Nat.reduceEqDiff, Nat.reduceAdd, Nat.reduceMul, Nat.reduceSub, Nat.reduceBEq, Nat.reduceLeDiff, Nat.reduceLT, Nat.reduceMod, Nat.reduceDiv, Int.reduceToNat, Int.reducePow, Int.reduceMul, Int.reduceAdd, Int.reduceSub, Int.reduceLE, Int.reduceLT, Int.reduceNeg, Int.reduceDiv, Int.reduceMod, Int.reduceEq, Int.reduceBEq, Int.reduceBNe, f7, f7b, f7r0, f7r1, f7r2, f7r3, f7r4, f7r5, f7r6, f7r7, f7r8, f7r9, f7r10, f7r11, f7r12, f7r13, f7r14, f7r15, f7r16, f7r17, f7r18, f7r19, f7r20, f7r21, f7r22, Q.val, O.val, hz, hni, il, htk] | (refine BrW.of (fun hb => ?_) (fun hb => ?_) <;> (have hb' := hb; try simp only [decide_eq_true_eq, decide_eq_false_iff_not, beq_iff_eq, bne_iff_ne, beq_eq_false_iff_ne, bne_eq_false_iff_eq, Bool.not_eq_true', Bool.not_eq_false', Bool.not_eq_true, Bool.not_eq_false, Bool.and_eq_true, Bool.or_eq_true, Bool.and_eq_false_iff, Bool.or_eq_false_iff, Int.not_lt, Int.not_le, ne_eq, gt_iff_lt, ge_iff_le] at hb') <;> (try (exfalso; omega))) | (refine .of ((hR1 _).mono ?_); rintro v _ ⟨rfl, rfl⟩) | (refine .of ((hC _).mono ?_); rintro v _ ⟨gn, rfl, rfl⟩) | (refine dcallW.of _ _ (hS0 _ _ _ _) ?_) | (refine .of ((Not_spec _ _).mono ?_); rintro v _ ⟨rfl, rfl⟩)
              all_goals exact .here ⟨_, ⟨l, mo, mb, dr + 1⟩, _, 0, 0, rfl, rfl, .inr ⟨3, gn, rfl, rfl⟩, fun _ => hs0, fun h => (h rfl).elim⟩
      · have hs0 : stepO ⟨l, mo, mb, dr⟩ ⟨k, n⟩ = none := by unfold stepO; simp only [if_pos hr, if_pos k1, if_neg hn]
        rcases hI with ⟨rfl, rfl⟩ | ⟨ki, oi, gi, ci, rfl, hi, hc⟩
        · clear m8 m9
          repeat' first | simp (disch := first | with_reducible assumption | omega) only [go_sem, Bool.true_and, Bool.and_true, Bool.and_self, Bool.false_and, Bool.and_false, Bool.true_or, Bool.or_true, Bool.false_or, Bool.or_false, ↓reduceIte, Nat.reduceEqDiff, Nat.reduceAdd, Nat.reduceMul, Nat.reduceSub, Nat.reduceBEq, Nat.reduceLeDiff, Nat.reduceLT, Nat.reduceMod, Nat.reduceDiv, Int.reduceToNat, Int.reducePow, Int.reduceMul, Int.reduceAdd, Int.reduceSub, Int.reduceLE, Int.reduceLT, Int.reduceNeg, Int.reduceDiv, Int.reduceMod, Int.reduceEq, Int.reduceBEq, Int.reduceBNe, f7, f7b, f7r0, f7r1, f7r2, f7r3, f7r4, f7r5, f7r6, f7r7, f7r8, f7r9, f7r10, f7r11, f7r12, f7r13, f7r14, f7r15, f7r16, f7r17, f7r18, f7r19, f7r20, f7r21, f7r22, Q.val, O.val, hz] | (refine BrW.of (fun hb => ?_) (fun hb => ?_) <;> (have hb' := hb; try simp only [decide_eq_true_eq, decide_eq_false_iff_not, beq_iff_eq, bne_iff_ne, beq_eq_false_iff_ne, bne_eq_false_iff_eq, Bool.not_eq_true', Bool.not_eq_false', Bool.not_eq_true, Bool.not_eq_false, Bool.and_eq_true, Bool.or_eq_true, Bool.and_eq_false_iff, Bool.or_eq_false_iff, Int.not_lt, Int.not_le, ne_eq, gt_iff_lt, ge_iff_le] at hb') <;> (try (exfalso; omega))) | (refine .of ((hR1 _).mono ?_); rintro v _ ⟨rfl, rfl⟩) | (refine .of ((CloneI_nil _).mono ?_); rintro v _ ⟨rfl, rfl⟩) | (refine .of ((Not_spec _ _).mono ?_); rintro v _ ⟨rfl, rfl⟩)
          all_goals exact .here (Step_err hs0 (by decide))
        · have hC := fun x => CloneI_spec l ki oi gi ci (H ++ x) (hi.app x) (by omega) hc
          simp only [flat'_ienc] at hC
          clear m8 m9
          repeat' first | simp (disch := first | with_reducible assumption | omega) only [go_sem, Bool.true_and, Bool.and_true, Bool.and_self, Bool.false_and, Bool.and_false, Bool.true_or, Bool.or_true, Bool.false_or, Bool.or_false, ↓reduceIte, Nat.reduceEqDiff, Nat.reduceAdd, Nat.reduceMul, Nat.reduceSub, Nat.reduceBEq, Nat.reduceLeDiff, Nat.reduceLT, Nat.reduceMod, Nat.reduceDiv, Int.reduceToNat, Int.reducePow, Int.reduceMul, Int.reduceAdd, Int.reduceSub, Int.reduceLE, Int.reduceLT, Int.reduceNeg, Int.reduceDiv, Int.reduceMod, Int.reduceEq, Int.reduceBEq, Int.reduceBNe, f7, f7b, f7r0, f7r1, f7r2, f7r3, f7r4, f7r5, f7r6, f7r7, f7r8, f7r9, f7r10, f7r11, f7r12, f7r13, f7r14, f7r15, f7r16, f7r17, f7r18, f7r19, f7r20, f7r21, f7r22, Q.val, O.val, hz] | (refine BrW.of (fun hb => ?_) (fun hb => ?_) <;> (have hb' := hb; try simp only [decide_eq_true_eq, decide_eq_false_iff_not, beq_iff_eq, bne_iff_ne, beq_eq_false_iff_ne, bne_eq_false_iff_eq, Bool.not_eq_true', Bool.not_eq_false', Bool.not_eq_true, Bool.not_eq_false, Bool.and_eq_true, Bool.or_eq_true, Bool.and_eq_false_iff, Bool.or_eq_false_iff, Int.not_lt, Int.not_le, ne_eq, gt_iff_lt, ge_iff_le] at hb') <;> (try (exfalso; omega))) | (refine .of ((hR1 _).mono ?_); rintro v _ ⟨rfl, rfl⟩) | (refine .of ((hC _).mono ?_); rintro v _ ⟨gn, rfl, rfl⟩) | (refine .of ((Not_spec _ _).mono ?_); rintro v _ ⟨rfl, rfl⟩)
          all_goals exact .here (Step_err hs0 (by decide))
    · by_cases k2 : k = 2
      · cases l with
        | nil =>
          have hs0 : stepO ⟨[], mo, mb, dr⟩ ⟨k, n⟩ = none := by unfold stepO; simp only [if_pos hr, if_neg k1, if_pos k2]
          rcases hI with ⟨rfl, _⟩ | ⟨ki, oi, gi, ci, rfl, hi, hc⟩
          · clear m8 m9
            repeat' first | simp (disch := first | with_reducible assumption | omega) only [go_sem, Bool.true_and, Bool.and_true, Bool.and_self, Bool.false_and, Bool.and_false, Bool.true_or, Bool.or_true, Bool.false_or, Bool.or_false, ↓reduceIte, Nat.reduceEqDiff, Nat.reduceAdd, Nat.reduceMul, Nat.reduceSub, Nat.reduceBEq, Nat.reduceLeDiff, Nat.reduceLT, Nat.reduceMod, Nat.reduceDiv, Int.reduceToNat, Int.reducePow, Int.reduceMul, Int.reduceAdd, Int.reduceSub, Int.reduceLE, Int.reduceLT, Int.reduceNeg, Int.reduceDiv, Int.reduceMod, Int.reduceEq, Int.reduceBEq, Int.reduceBNe, f7, f7b, f7r0, f7r1, f7r2, f7r3, f7r4, f7r5, f7r6, f7r7, f7r8, f7r9, f7r10, f7r11, f7r12, f7r13, f7r14, f7r15, f7r16, f7r17, f7r18, f7r19, f7r20, f7r21, f7r22, Q.val, O.val, hz] | (refine BrW.of (fun hb => ?_) (fun hb => ?_) <;> (have hb' := hb; try simp only [decide_eq_true_eq, decide_eq_false_iff_not, beq_iff_eq, bne_iff_ne, beq_eq_false_iff_ne, bne_eq_false_iff_eq, Bool.not_eq_true', Bool.not_eq_false', Bool.not_eq_true, Bool.not_eq_false, Bool.and_eq_true, Bool.or_eq_true, Bool.and_eq_false_iff, Bool.or_eq_false_iff, Int.not_lt, Int.not_le, ne_eq, gt_iff_lt, ge_iff_le] at hb') <;> (try (exfalso; omega))) | (refine .of ((hR1 _).mono ?_); rintro v _ ⟨rfl, rfl⟩) | (refine .of ((CloneI_nil _).mono ?_); rintro v _ ⟨rfl, rfl⟩) | (refine .of ((Not_spec _ _).mono ?_); rintro v _ ⟨rfl, rfl⟩)
            all_goals exact .here (Step_err hs0 (by decide))
          · have hC := fun x => CloneI_spec [] ki oi gi ci (H ++ x) (hi.app x) (by simp) hc
            simp only [flat'_ienc] at hC
            clear m8 m9
            repeat' first | simp (disch := first | with_reducible assumption | omega) only [go_sem, Bool.true_and, Bool.and_true, Bool.and_self, Bool.false_and, Bool.and_false, Bool.true_or, Bool.or_true, Bool.false_or, Bool.or_false, ↓reduceIte, Nat.reduceEqDiff, Nat.reduceAdd, Nat.reduceMul, Nat.reduceSub, Nat.reduceBEq, Nat.reduceLeDiff, Nat.reduceLT, Nat.reduceMod, Nat.reduceDiv, Int.reduceToNat, Int.reducePow, Int.reduceMul, Int.reduceAdd, Int.reduceSub, Int.reduceLE, Int.reduceLT, Int.reduceNeg, Int.reduceDiv, Int.reduceMod, Int.reduceEq, Int.reduceBEq, Int.reduceBNe, f7, f7b, f7r0, f7r1, f7r2, f7r3, f7r4, f7r5, f7r6, f7r7, f7r8, f7r9, f7r10, f7r11, f7r12, f7r13, f7r14, f7r15, f7r16, f7r17, f7r18, f7r19, f7r20, f7r21, f7r22, Q.val, O.val, hz] | (refine BrW.of (fun hb => ?_) (fun hb => ?_) <;> (have hb' := hb; try simp only [decide_eq_true_eq, decide_eq_false_iff_not, beq_iff_eq, bne_iff_ne, beq_eq_false_iff_ne, bne_eq_false_iff_eq, Bool.not_eq_true', Bool.not_eq_false', Bool.not_eq_true, Bool.not_eq_false, Bool.and_eq_true, Bool.or_eq_true, Bool.and_eq_false_iff, Bool.or_eq_false_iff, Int.not_lt, Int.not_le, ne_eq, gt_iff_lt, ge_iff_le] at hb') <;> (try (exfalso; omega))) | (refine .of ((hR1 _).mono ?_); rintro v _ ⟨rfl, rfl⟩) | (refine .of ((hC _).mono ?_); rintro v _ ⟨gn, rfl, rfl⟩) | (refine .of ((Not_spec _ _).mono ?_); rintro v _ ⟨rfl, rfl⟩)
            all_goals exact .here (Step_err hs0 (by decide))
        | cons y t =>
          have hs0 : stepO ⟨y :: t, mo, mb, dr⟩ ⟨k, n⟩ = some (⟨t, mo, mb, dr⟩, y) := by unfold stepO; simp only [if_pos hr, if_neg k1, if_pos k2]
          rcases hI with ⟨_, hno⟩ | ⟨ki, oi, gi, ci, rfl, hi, hc⟩
          · cases hno
          · have hC := fun x => CloneI_spec (y :: t) ki oi gi ci (H ++ x) (hi.app x) (by omega) hc
            simp only [flat'_ienc] at hC
            have hC2 := fun A B C gn => CloneI_spec t (H.length + 3) 1 gn t.length (H ++ [A, B, C, .cells gn 1 false (ints (y :: t))]) (by have := (Ints.new (H ++ [A, B, C, .cells gn 1 false (ints (y :: t))]) (H.length + 3) gn false (y :: t) (by rw [get_new]; rfl)).drop 1 (by simp); exact this) (by simp at hL; omega) (Nat.le_refl _)
            simp only [flat'_ienc] at hC2
            have i0 : (ints (y :: t))[0]? = some (.int .i64 y) := rfl
            have il := ints_length (y :: t)
            simp only [List.length_cons] at *
            clear m8 m9
            generalize ints (y :: t) = cs at *
            repeat' first | simp (disch := first | with_reducible assumption | omega) only [go_sem, Bool.true_and, Bool.and_true, Bool.and_self, Bool.false_and, Bool.and_false, Bool.true_or, Bool.or_true, Bool.false_or, Bool.or_false, ↓reduceIte, Nat.reduceEqDiff, Nat.reduceAdd, Nat.reduceMul, Nat.reduceSub, Nat.reduceBEq, Nat.reduceLeDiff, Nat.reduceLT, Nat.reduceMod, Nat.reduceDiv, Int.reduceToNat, Int.reducePow, Int.reduceMul, Int.reduceAdd, Int.reduceSub, Int.reduceLE, Int.reduceLT, Int.reduceNeg, Int.reduceDiv, Int.reduceMod, Int.reduceEq, Int.reduceBEq, Int.reduceBNe, f7, f7b, f7r0, f7r1, f7r2, f7r3, f7r4, f7r5, f7r6, f7r7, f7r8, f7r9, f7r10, f7r11, f7r12, f7r13, f7r14, f7r15, f7r16, f7r17, f7r18, f7r19, f7r20, f7r21, f7r22, Q.val, O.val, hz, i0, il] | (refine BrW.of (fun hb => ?_) (fun hb => ?_) <;> (have hb' := hb; try simp only [decide_eq_true_eq, decide_eq_false_iff_not, beq_iff_eq, bne_iff_ne, beq_eq_false_iff_ne, bne_eq_false_iff_eq, Bool.not_eq_true', Bool.not_eq_false', Bool.not_eq_true, Bool.not_eq_false, Bool.and_eq_true, Bool.or_eq_true, Bool.and_eq_false_iff, Bool.or_eq_false_iff, Int.not_lt, Int.not_le, ne_eq, gt_iff_lt, ge_iff_le] at hb') <;> (try (exfalso; omega))) | (refine .of ((hR1 _).mono ?_); rintro v _ ⟨rfl, rfl⟩) | (refine .of ((hC _).mono ?_); rintro v _ ⟨gn, rfl, rfl⟩) | (refine .of ((hC2 _ _ _ _).mono ?_); rintro v _ ⟨gn2, rfl, rfl⟩)
            all_goals exact .here ⟨_, ⟨t, mo, mb, dr⟩, _, y, 0, rfl, rfl, .inr ⟨4, gn2, rfl, rfl⟩, fun _ => hs0, fun h => (h rfl).elim⟩
      · have hs0 : stepO ⟨l, mo, mb, dr⟩ ⟨k, n⟩ = none := by unfold stepO; simp only [if_pos hr, if_neg k1, if_neg k2]
        rcases hI with ⟨rfl, rfl⟩ | ⟨ki, oi, gi, ci, rfl, hi, hc⟩
        · clear m8 m9
          repeat' first | simp (disch := first | with_reducible assumption | omega) only [go_sem, Bool.true_and, Bool.and_true, Bool.and_self, Bool.false_and, Bool.and_false, Bool.true_or, Bool.or_true, Bool.false_or, Bool.or_false, ↓reduceIte, Nat.reduceEqDiff, Nat.reduceAdd, Nat.reduceMul, Nat.reduceSub, Nat.reduceBEq, Nat.reduceLeDiff, Nat.reduceLT, Nat.reduceMod, Nat.reduceDiv, Int.reduceToNat, Int.reducePow, Int.reduceMul, Int.reduceAdd, Int.reduceSub, Int.reduceLE, Int.reduceLT, Int.reduceNeg, Int.reduceDiv, Int.reduceMod, Int.reduceEq, Int.reduceBEq, Int.reduceBNe, f7, f7b, f7r0, f7r1, f7r2, f7r3, f7r4, f7r5, f7r6, f7r7, f7r8, f7r9, f7r10, f7r11, f7r12, f7r13, f7r14, f7r15, f7r16, f7r17, f7r18, f7r19, f7r20, f7r21, f7r22, Q.val, O.val, hz] | (refine BrW.of (fun hb => ?_) (fun hb => ?_) <;> (have hb' := hb; try simp only [decide_eq_true_eq, decide_eq_false_iff_not, beq_iff_eq, bne_iff_ne, beq_eq_false_iff_ne, bne_eq_false_iff_eq, Bool.not_eq_true', Bool.not_eq_false', Bool.not_eq_true, Bool.not_eq_false, Bool.and_eq_true, Bool.or_eq_true, Bool.and_eq_false_iff, Bool.or_eq_false_iff, Int.not_lt, Int.not_le, ne_eq, gt_iff_lt, ge_iff_le] at hb') <;> (try (exfalso; omega))) | (refine .of ((hR1 _).mono ?_); rintro v _ ⟨rfl, rfl⟩) | (refine .of ((CloneI_nil _).mono ?_); rintro v _ ⟨rfl, rfl⟩) | (refine .of ((Not_spec _ _).mono ?_); rintro v _ ⟨rfl, rfl⟩)
          all_goals exact .here (Step_err hs0 (by decide))
        · have hC := fun x => CloneI_spec l ki oi gi ci (H ++ x) (hi.app x) (by omega) hc
          simp only [flat'_ienc] at hC
          clear m8 m9
          repeat' first | simp (disch := first | with_reducible assumption | omega) only [go_sem, Bool.true_and, Bool.and_true, Bool.and_self, Bool.false_and, Bool.and_false, Bool.true_or, Bool.or_true, Bool.false_or, Bool.or_false, ↓reduceIte, Nat.reduceEqDiff, Nat.reduceAdd, Nat.reduceMul, Nat.reduceSub, Nat.reduceBEq, Nat.reduceLeDiff, Nat.reduceLT, Nat.reduceMod, Nat.reduceDiv, Int.reduceToNat, Int.reducePow, Int.reduceMul, Int.reduceAdd, Int.reduceSub, Int.reduceLE, Int.reduceLT, Int.reduceNeg, Int.reduceDiv, Int.reduceMod, Int.reduceEq, Int.reduceBEq, Int.reduceBNe, f7, f7b, f7r0, f7r1, f7r2, f7r3, f7r4, f7r5, f7r6, f7r7, f7r8, f7r9, f7r10, f7r11, f7r12, f7r13, f7r14, f7r15, f7r16, f7r17, f7r18, f7r19, f7r20, f7r21, f7r22, Q.val, O.val, hz] | (refine BrW.of (fun hb => ?_) (fun hb => ?_) <;> (have hb' := hb; try simp only [decide_eq_true_eq, decide_eq_false_iff_not, beq_iff_eq, bne_iff_ne, beq_eq_false_iff_ne, bne_eq_false_iff_eq, Bool.not_eq_true', Bool.not_eq_false', Bool.not_eq_true, Bool.not_eq_false, Bool.and_eq_true, Bool.or_eq_true, Bool.and_eq_false_iff, Bool.or_eq_false_iff, Int.not_lt, Int.not_le, ne_eq, gt_iff_lt, ge_iff_le] at hb') <;> (try (exfalso; omega))) | (refine .of ((hR1 _).mono ?_); rintro v _ ⟨rfl, rfl⟩) | (refine .of ((hC _).mono ?_); rintro v _ ⟨gn, rfl, rfl⟩) | (refine .of ((Not_spec _ _).mono ?_); rintro v _ ⟨rfl, rfl⟩)
          all_goals exact .here (Step_err hs0 (by decide))
  · have hs0 : stepO ⟨l, mo, mb, dr⟩ ⟨k, n⟩ = none := by unfold stepO; rw [if_neg hr]
    have hz : (!decide (Q.right ⟨l, mo, mb, dr⟩)) = true := by simp [hr]
    repeat' first | simp (disch := first | with_reducible assumption | omega) only [go_sem, Bool.true_and, Bool.and_true, Bool.and_self, Bool.false_and, Bool.and_false, Bool.true_or, Bool.or_true, Bool.false_or, Bool.or_false, ↓reduceIte, Nat.reduceEqDiff, Nat.reduceAdd, Nat.reduceMul, Nat.reduceSub, Nat.reduceBEq, Nat.reduceLeDiff, Nat.reduceLT, Nat.reduceMod, Nat.reduceDiv, Int.reduceToNat, Int.reducePow, Int.reduceMul, Int.reduceAdd, Int.reduceSub, Int.reduceLE, Int.reduceLT, Int.reduceNeg, Int.reduceDiv, Int.reduceMod, Int.reduceEq, Int.reduceBEq, Int.reduceBNe, f7, f7b, f7r0, f7r1, f7r2, f7r3, f7r4, f7r5, f7r6, f7r7, f7r8, f7r9, f7r10, f7r11, f7r12, f7r13, f7r14, f7r15, f7r16, f7r17, f7r18, f7r19, f7r20, f7r21, f7r22, Q.val, O.val, hz] | (refine BrW.of (fun hb => ?_) (fun hb => ?_) <;> (have hb' := hb; try simp only [decide_eq_true_eq, decide_eq_false_iff_not, beq_iff_eq, bne_iff_ne, beq_eq_false_iff_ne, bne_eq_false_iff_eq, Bool.not_eq_true', Bool.not_eq_false', Bool.not_eq_true, Bool.not_eq_false, Bool.and_eq_true, Bool.or_eq_true, Bool.and_eq_false_iff, Bool.or_eq_false_iff, Int.not_lt, Int.not_le, ne_eq, gt_iff_lt, ge_iff_le] at hb') <;> (try (exfalso; omega))) | (refine .of ((hR1 _).mono ?_); rintro v _ ⟨rfl, rfl⟩) | (refine .of ((Not_spec _ _).mono ?_); rintro v _ ⟨rfl, rfl⟩)
    all_goals exact .here (Step_err hs0 (by decide))
end Go.Proofs.Ytimmpjfbejojhaa
