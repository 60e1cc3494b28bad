import Derived.Test.YtfkhljgifndbpaaDoorSteps4
-- STRINGS
set_option linter.unusedSimpArgs false
set_option linter.unusedVariables false
set_option maxHeartbeats 2000000
set_option maxRecDepth 20000
namespace Go.Proofs.YtfkhljgifndbpaaDoor
open Go Go.Am
attribute [local irreducible] opsW Ww loopW callW drawW outW outDW gW cW BrW bothW vW resW DropW RdW dcallW altW forkW splitW Later.run

theorem Ns.of_X {b : Nat} {X B : Heap} (hb : B.length = b) {w : Value} {l : List Int} (h : Pc.IsX b X w l) : Ns (B ++ X) w l := by
  rcases h with h | ⟨k, g, h1, h2⟩
  · exact .inl h
  · exact .inr ⟨b + k, g, h1, by rw [← hb, get_new]; exact h2⟩
theorem Ns.le {H J : Heap} {w : Value} {l : List Int} (h : Ns H w l) (hJ : ∀ (j : Nat) (o : AObj), H[j]? = some o → J[j]? = some o) : Ns J w l := by
  rcases h with h | ⟨k, g, h1, h2⟩
  · exact .inl h
  · exact .inr ⟨k, g, h1, hJ _ _ h2⟩
theorem oe_map (os : List (Int × Int)) : flat' oe os = flat' Pc.O.cells (os.map opO) := by
  unfold flat'
  rw [List.flatMap_map]; rfl
def ad : Int × Value := (0, .slice none 0 0)
/-- What comes of the script. -/
def PlayR (H : Heap) (s : Scr) (v : Value) (H' : Heap) : Prop :=
  ∃ w' ka g' av, v = .tuple #[slv ka 0 g' s.ops.length s.ops.length, (Pc.runP (playS s) (s.ops.map opO)).val w', .int .i64 0] ∧ Le H H' ∧ H'[ka]? = some (.cells g' 2 false (flat' Pc.aenc av)) ∧ av.length = s.ops.length ∧
    (∀ i, i < s.ops.length → (av.getD i ad).1 = ((Pc.ansP (playS s) (s.ops.map opO)).getD i (0, [])).1 ∧ Ns H' (av.getD i ad).2 ((Pc.ansP (playS s) (s.ops.map opO)).getD i (0, [])).2) ∧ Ns H' w' (Pc.runP (playS s) (s.ops.map opO)).l
theorem Play_at (s : Scr) (k g : Nat) (H : Heap) (hk : H[k]? = some (.cells g 2 false (flat' oe s.ops))) (hl : s.ops.length ≤ 1048576) (hw : Pc.wrongP s.num s.den s.burst = 0) :
    ACallK Tryd.prog 12 [.int .i64 s.num, .int .i64 s.den, .int .i64 s.burst, slv k 0 g s.ops.length s.ops.length] H (PlayR H s) := by
  have hO : Pc.Ops H k 0 g (s.ops.map opO) := Tbl.new (enc := Pc.O.cells) (s := 2) (d := Pc.o0) (fun _ => rfl) _ _ _ false _ (by rw [← oe_map]; exact hk)
  have h := Pc.Play_u s.num s.den s.burst (s.ops.map opO) k 0 g s.ops.length H hO (by rw [List.length_map]; omega) hw
  rw [List.length_map] at h
  refine h.mono ?_
  rintro v H' ⟨X, w', so, rfl, rfl, hw', q, g', av, rfl, hq, hA1, hA2⟩
  rw [Pc.ansP_length, List.length_map] at hA1 hA2
  refine ⟨w', _, g', av, rfl, ⟨X, rfl⟩, by rw [get_new]; exact hq, hA1, fun i hi => ⟨(hA2 i hi).1, Ns.of_X rfl (hA2 i hi).2⟩, Ns.of_X rfl hw'⟩
theorem Play_any (s : Scr) (b : Nat) (v : Value) (H : Heap) (hO : OpsAt b H v s.ops) (hl : s.ops.length ≤ 1048576) (hw : Pc.wrongP s.num s.den s.burst = 0) :
    ACallK Tryd.prog 12 [.int .i64 s.num, .int .i64 s.den, .int .i64 s.burst, v] H (PlayR H s) := by
  rcases hO with ⟨h0, rfl⟩ | ⟨ko, g, _, rfl, hk⟩
  · have h := Play_at s H.length 0 (H ++ [.cells 0 2 false []]) (by rw [get_new0, h0]; rfl) hl hw
    rw [h0] at h
    refine (ghostArg (pr := [.int .i64 s.num, .int .i64 s.den, .int .i64 s.burst]) (su := []) 2 h).mono ?_
    rintro v H' ⟨w', ka, g', av, h1, ⟨X, hX⟩, h3⟩
    exact ⟨w', ka, g', av, h1, ⟨_ :: X, by rw [hX]; simp; rfl⟩, h3⟩
  · exact Play_at s ko g H hk hl hw
theorem Play_no (s : Scr) (b : Nat) (v : Value) (H : Heap) (hO : OpsAt b H v s.ops) (hw : ¬ Pc.wrongP s.num s.den s.burst = 0) :
    ACallK Tryd.prog 12 [.int .i64 s.num, .int .i64 s.den, .int .i64 s.burst, v] H (fun v H' => v = .tuple #[.slice none 0 0, .agg #[.slice none 0 0, .int .i64 0, .int .i64 0, .int .i64 0, .int .i64 0, .int .i64 0, .int .i64 0, .int .i64 0, .int .i64 0, .int .i64 0], .int .i64 (Pc.wrongP s.num s.den s.burst)] ∧ Le H H') := by
  rcases hO with ⟨h0, rfl⟩ | ⟨ko, g, _, rfl, hk⟩
  · have h := Pc.Play_bad s.num s.den s.burst [] H.length 0 0 0 (H ++ [.cells 0 2 false []]) hw
    refine (ghostArg (pr := [.int .i64 s.num, .int .i64 s.den, .int .i64 s.burst]) (su := []) 2 h).mono ?_
    rintro v H' ⟨h1, h2⟩
    exact ⟨h1, ⟨_, h2⟩⟩
  · have h := Pc.Play_bad s.num s.den s.burst (s.ops.map opO) ko 0 g s.ops.length H hw
    rw [List.length_map] at h
    refine h.mono ?_
    rintro v H' ⟨h1, h2⟩
    exact ⟨h1, ⟨[], by rw [h2]; simp⟩⟩
theorem left_loop {H0 J0 : Heap} {k : Nat} {l : List Int} {acc : Bs} (hk : J0[k]? = some (.cells 0 1 false (ints l))) (hb : ∀ x ∈ l, 0 ≤ x ∧ x ≤ 9223372036854775807) (hll : l.length ≤ 100) (hacc : acc.length ≤ 1000000) {v9 : Value} {Q : LQ}
    (hq : Q.run (.exit 4) [(9, v9), (15, str (acc ++ numsB l)), (97, slv k 0 0 l.length l.length), (98, .int .i64 l.length), (99, .int .i64 l.length), (100, .bool (decide ((l.length : Int) < l.length)))] J0) :
    @loopW (loopK Tryd.prog f6.n H0) f6l2 Q [(9, v9), (15, str acc), (97, slv k 0 0 l.length l.length), (98, .int .i64 l.length), (99, .int .i64 0)] J0 := by
  refine loopW.of (by decide) (fun m e J => ∃ (i : Nat), e = [(9, v9), (15, str (acc ++ numsB (l.take i))), (97, slv k 0 0 l.length l.length), (98, .int .i64 l.length), (99, .int .i64 i)] ∧ J = J0 ∧ i ≤ l.length ∧ m = l.length - i) l.length
    ⟨0, by simp [numsB], rfl, by omega, rfl⟩ ?_
  rintro m e J ⟨i, rfl, rfl, hi, rfl⟩
  by_cases hlt : i < l.length
  · have hld := ints_get l i hlt
    have hx := hb (l.getD i 0) (getD_mem hlt)
    have hnx : numsB (l.take (i + 1)) = numsB (l.take i) ++ (32 :: Lib.itoa (l.getD i 0)) := by rw [take_snoc 0 l i hlt, numsB_snoc]
    have hnl := numsB_len (l := l.take i) fun x hx => hb x (List.mem_of_mem_take hx)
    have htl : (l.take i).length ≤ 100 := by rw [List.length_take]; omega
    have hit := Lib.itoa_length_le (l.getD i 0) (by omega) (by omega)
    have hI := fun H => Itoa_spec (l.getD i 0) (by omega) (by omega) H
    generalize l.getD i 0 = x at *
    generalize hA : numsB (l.take i) = A at *
    repeat' first | simp (disch := first | with_reducible assumption | omega | (simp only [List.length_append, List.length_cons, List.length_nil]; omega)) only [go_sem, Bool.true_and, Bool.and_true, Bool.and_self, Bool.false_and, Bool.and_false, Bool.true_or, Bool.or_true, Bool.false_or, Bool.or_false, ↓reduceIte, Nat.reduceEqDiff, Nat.reduceAdd, Nat.reduceMul, Nat.reduceSub, Nat.reduceBEq, Nat.reduceLeDiff, Nat.reduceLT, Nat.reduceMod, Nat.reduceDiv, Int.reduceToNat, Int.reducePow, Int.reduceMul, Int.reduceAdd, Int.reduceSub, Int.reduceLE, Int.reduceLT, Int.reduceNeg, Int.reduceDiv, Int.reduceMod, Int.reduceEq, Int.reduceBEq, Int.reduceBNe, f6, f6b, f6r0, f6r1, f6r2, f6r3, f6r4, f6r5, f6r6, f6r7, f6r8, f6r9, f6r10, f6r11, f6r12, f6r13, f6r14, f6r15, f6r16, f6r17, f6r18, f6r19, f6r20, f6r22, f6r23, f6r25, f6r26, f6r27, f6r28, f6r29, f6r30, f6r32, f6l2, hk, hld] | (refine BrW.of (fun hb => ?_) (fun hb => ?_) <;> (have hb' := hb; try simp only [decide_eq_true_eq, decide_eq_false_iff_not, beq_iff_eq, bne_iff_ne, beq_eq_false_iff_ne, bne_eq_false_iff_eq, Bool.not_eq_true', Bool.not_eq_false', Bool.not_eq_true, Bool.not_eq_false, Bool.and_eq_true, Bool.or_eq_true, Bool.and_eq_false_iff, Bool.or_eq_false_iff, Int.not_lt, Int.not_le, ne_eq, gt_iff_lt, ge_iff_le] at hb') <;> (try (exfalso; omega))) | (refine altW.of ?_ ?_) | (refine .of ((hI _).mono ?_); rintro v J2 ⟨rfl, hq⟩; obtain rfl := hq.symm)
    refine RdW.keep [9, 15, 97, 98, 99] (l.length - (i + 1)) (by omega) ?_
    simp (disch := first | with_reducible assumption | omega | (simp only [List.length_append, List.length_cons, List.length_nil]; omega)) only [go_sem, Bool.true_and, Bool.and_true, Bool.and_self, Bool.false_and, Bool.and_false, Bool.true_or, Bool.or_true, Bool.false_or, Bool.or_false, ↓reduceIte, Nat.reduceEqDiff, Nat.reduceAdd, Nat.reduceMul, Nat.reduceSub, Nat.reduceBEq, Nat.reduceLeDiff, Nat.reduceLT, Nat.reduceMod, Nat.reduceDiv, Int.reduceToNat, Int.reducePow, Int.reduceMul, Int.reduceAdd, Int.reduceSub, Int.reduceLE, Int.reduceLT, Int.reduceNeg, Int.reduceDiv, Int.reduceMod, Int.reduceEq, Int.reduceBEq, Int.reduceBNe]
    refine ⟨i + 1, ?_, by omega, rfl⟩
    rw [hnx]
    simp
  · obtain rfl : i = l.length := by omega
    rw [List.take_length]
    repeat' first | simp (disch := first | with_reducible assumption | omega | (simp only [List.length_append, List.length_cons, List.length_nil]; omega)) only [go_sem, Bool.true_and, Bool.and_true, Bool.and_self, Bool.false_and, Bool.and_false, Bool.true_or, Bool.or_true, Bool.false_or, Bool.or_false, ↓reduceIte, Nat.reduceEqDiff, Nat.reduceAdd, Nat.reduceMul, Nat.reduceSub, Nat.reduceBEq, Nat.reduceLeDiff, Nat.reduceLT, Nat.reduceMod, Nat.reduceDiv, Int.reduceToNat, Int.reducePow, Int.reduceMul, Int.reduceAdd, Int.reduceSub, Int.reduceLE, Int.reduceLT, Int.reduceNeg, Int.reduceDiv, Int.reduceMod, Int.reduceEq, Int.reduceBEq, Int.reduceBNe, f6, f6b, f6r0, f6r1, f6r2, f6r3, f6r4, f6r5, f6r6, f6r7, f6r8, f6r9, f6r10, f6r11, f6r12, f6r13, f6r14, f6r15, f6r16, f6r17, f6r18, f6r19, f6r20, f6r22, f6r23, f6r25, f6r26, f6r27, f6r28, f6r29, f6r30, f6r32, f6l2] | (refine BrW.of (fun hb => ?_) (fun hb => ?_) <;> (have hb' := hb; try simp only [decide_eq_true_eq, decide_eq_false_iff_not, beq_iff_eq, bne_iff_ne, beq_eq_false_iff_ne, bne_eq_false_iff_eq, Bool.not_eq_true', Bool.not_eq_false', Bool.not_eq_true, Bool.not_eq_false, Bool.and_eq_true, Bool.or_eq_true, Bool.and_eq_false_iff, Bool.or_eq_false_iff, Int.not_lt, Int.not_le, ne_eq, gt_iff_lt, ge_iff_le] at hb') <;> (try (exfalso; omega))) | (refine altW.of ?_ ?_)
    exact hq
end Go.Proofs.YtfkhljgifndbpaaDoor
