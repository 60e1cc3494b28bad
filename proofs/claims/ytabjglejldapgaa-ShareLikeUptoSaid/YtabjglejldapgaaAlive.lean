import Derived.Test.YtabjglejldapgaaSteps3
import Derived.Test.YtabjglejldapgaaPlain3
set_option linter.unusedSimpArgs false
set_option linter.unusedVariables false
set_option maxHeartbeats 2000000
set_option maxRecDepth 20000
namespace Go.Proofs.Ytabjglejldapgaa
open Go Go.Am
attribute [local irreducible] opsW Ww loopW callW drawW outW outDW gW cW BrW bothW vW resW DropW RdW dcallW altW Later.run

theorem EqualF_spec (a b : List F) (k o g c k' o' g' c' : Nat) (H : Heap) (ha : Tbl F F.cells 2 f0 H k o g a) (hb : Tbl F F.cells 2 f0 H k' o' g' b) (hla : a.length ≤ 9223372036854775807) (hlb : b.length ≤ 9223372036854775807)
    (hsame : ∀ x y : F, sameS [false,false] (F.cells x) (F.cells y) = some (decide (x = y))) :
    ACallK Try.prog 14 [slv k o g a.length c, slv k' o' g' b.length c'] H (fun v H' => v = .bool (decide (a = b)) ∧ H' = H) := by
  obtain ⟨ro, cs, hk, hcl, hcs⟩ := ha.at'
  obtain ⟨ro', cs', hk', hcl', hcs'⟩ := hb.at'
  refine .walkW f14_ok (by simp; decide) (by decide) ?_
  by_cases hl : a.length = b.length
  · repeat' first | simp (disch := first | with_reducible assumption | omega) only [go_sem, Bool.true_and, Bool.and_true, Bool.and_self, Bool.false_and, Bool.and_false, Bool.true_or, Bool.or_true, Bool.false_or, Bool.or_false, ↓reduceIte, Nat.reduceEqDiff, Nat.reduceAdd, Nat.reduceMul, Nat.reduceSub, Nat.reduceBEq, Nat.reduceLeDiff, Nat.reduceLT, Nat.reduceMod, Nat.reduceDiv, Int.reduceToNat, Int.reducePow, Int.reduceMul, Int.reduceAdd, Int.reduceSub, Int.reduceLE, Int.reduceLT, Int.reduceNeg, Int.reduceDiv, Int.reduceMod, Int.reduceEq, Int.reduceBEq, Int.reduceBNe, f14, f14b, f14r0, f14r1, f14r2, f14r3, f14r4, f14r5, f14r6, f14r7, f14r8, f14r10, hk, hk'] | (refine BrW.of (fun hb => ?_) (fun hb => ?_) <;> (have hb' := hb; try simp only [decide_eq_true_eq, decide_eq_false_iff_not, beq_iff_eq, bne_iff_ne, beq_eq_false_iff_ne, bne_eq_false_iff_eq, Bool.not_eq_true', Bool.not_eq_false', Bool.not_eq_true, Bool.not_eq_false, Bool.and_eq_true, Bool.or_eq_true, Bool.and_eq_false_iff, Bool.or_eq_false_iff, Int.not_lt, Int.not_le, ne_eq, gt_iff_lt, ge_iff_le] at hb') <;> (try (exfalso; omega))) | (refine altW.of ?_ ?_)
    refine loopW.of (by decide) (fun m e H'' => ∃ i : Nat, e = [(0, slv k o g a.length c), (1, slv k' o' g' b.length c'), (12, .int .i64 a.length), (13, .int .i64 i)] ∧ H'' = H ∧ i ≤ a.length ∧ m = a.length - i ∧ a.take i = b.take i) a.length ⟨0, rfl, rfl, by omega, rfl, rfl⟩ ?_
    rintro m e H'' ⟨i, rfl, rfl, hi, rfl, hinv⟩
    by_cases hlt : i < a.length
    · have hltb : i < b.length := by omega
      have e0 := Tbl.ld (enc := F.cells) (fun _ => rfl) hcs i hlt
      have e1 := Tbl.ld (enc := F.cells) (fun _ => rfl) hcs' i hltb
      have hsm := hsame (a.getD i f0) (b.getD i f0)
      by_cases hxy : a.getD i f0 = b.getD i f0
      · have hnext : a.take (i + 1) = b.take (i + 1) := by rw [take_snoc f0 a i hlt, take_snoc f0 b i hltb, hinv, hxy]
        rw [decide_eq_true hxy] at hsm
        clear hxy
        generalize a.getD i f0 = x at *
        generalize b.getD i f0 = y at *
        repeat' first | simp (disch := first | with_reducible assumption | omega) only [go_sem, Bool.true_and, Bool.and_true, Bool.and_self, Bool.false_and, Bool.and_false, Bool.true_or, Bool.or_true, Bool.false_or, Bool.or_false, ↓reduceIte, Nat.reduceEqDiff, Nat.reduceAdd, Nat.reduceMul, Nat.reduceSub, Nat.reduceBEq, Nat.reduceLeDiff, Nat.reduceLT, Nat.reduceMod, Nat.reduceDiv, Int.reduceToNat, Int.reducePow, Int.reduceMul, Int.reduceAdd, Int.reduceSub, Int.reduceLE, Int.reduceLT, Int.reduceNeg, Int.reduceDiv, Int.reduceMod, Int.reduceEq, Int.reduceBEq, Int.reduceBNe, f14, f14b, f14r0, f14r1, f14r2, f14r3, f14r4, f14r5, f14r6, f14r7, f14r8, f14r10, f14l0, hk, hk', ↓e0, ↓e1, ↓hsm] | (refine BrW.of (fun hb => ?_) (fun hb => ?_) <;> (have hb' := hb; try simp only [decide_eq_true_eq, decide_eq_false_iff_not, beq_iff_eq, bne_iff_ne, beq_eq_false_iff_ne, bne_eq_false_iff_eq, Bool.not_eq_true', Bool.not_eq_false', Bool.not_eq_true, Bool.not_eq_false, Bool.and_eq_true, Bool.or_eq_true, Bool.and_eq_false_iff, Bool.or_eq_false_iff, Int.not_lt, Int.not_le, ne_eq, gt_iff_lt, ge_iff_le] at hb') <;> (try (exfalso; omega))) | (refine altW.of ?_ ?_)
        refine RdW.keep [0, 1, 12, 13] (a.length - (i + 1)) (by omega) ?_
        simp (disch := first | with_reducible assumption | omega) only [go_sem, Bool.true_and, Bool.and_true, Bool.and_self, Bool.false_and, Bool.and_false, Bool.true_or, Bool.or_true, Bool.false_or, Bool.or_false, ↓reduceIte, Nat.reduceEqDiff, Nat.reduceAdd, Nat.reduceMul, Nat.reduceSub, Nat.reduceBEq, Nat.reduceLeDiff, Nat.reduceLT, Nat.reduceMod, Nat.reduceDiv, Int.reduceToNat, Int.reducePow, Int.reduceMul, Int.reduceAdd, Int.reduceSub, Int.reduceLE, Int.reduceLT, Int.reduceNeg, Int.reduceDiv, Int.reduceMod, Int.reduceEq, Int.reduceBEq, Int.reduceBNe]
        exact ⟨i + 1, rfl, by omega, rfl, hnext⟩
      · have hne : decide (a = b) = false := by simp; rintro rfl; exact hxy rfl
        rw [decide_eq_false hxy] at hsm
        clear hxy
        generalize a.getD i f0 = x at *
        generalize b.getD i f0 = y at *
        repeat' first | simp (disch := first | with_reducible assumption | omega) only [go_sem, Bool.true_and, Bool.and_true, Bool.and_self, Bool.false_and, Bool.and_false, Bool.true_or, Bool.or_true, Bool.false_or, Bool.or_false, ↓reduceIte, Nat.reduceEqDiff, Nat.reduceAdd, Nat.reduceMul, Nat.reduceSub, Nat.reduceBEq, Nat.reduceLeDiff, Nat.reduceLT, Nat.reduceMod, Nat.reduceDiv, Int.reduceToNat, Int.reducePow, Int.reduceMul, Int.reduceAdd, Int.reduceSub, Int.reduceLE, Int.reduceLT, Int.reduceNeg, Int.reduceDiv, Int.reduceMod, Int.reduceEq, Int.reduceBEq, Int.reduceBNe, f14, f14b, f14r0, f14r1, f14r2, f14r3, f14r4, f14r5, f14r6, f14r7, f14r8, f14r10, f14l0, f14, f14b, f14r0, f14r1, f14r2, f14r3, f14r4, f14r5, f14r6, f14r7, f14r8, f14r10, hk, hk', ↓e0, ↓e1, ↓hsm] | (refine BrW.of (fun hb => ?_) (fun hb => ?_) <;> (have hb' := hb; try simp only [decide_eq_true_eq, decide_eq_false_iff_not, beq_iff_eq, bne_iff_ne, beq_eq_false_iff_ne, bne_eq_false_iff_eq, Bool.not_eq_true', Bool.not_eq_false', Bool.not_eq_true, Bool.not_eq_false, Bool.and_eq_true, Bool.or_eq_true, Bool.and_eq_false_iff, Bool.or_eq_false_iff, Int.not_lt, Int.not_le, ne_eq, gt_iff_lt, ge_iff_le] at hb') <;> (try (exfalso; omega))) | (refine altW.of ?_ ?_)
        exact .here ⟨by rw [hne], rfl⟩
    · obtain rfl : i = a.length := by omega
      have heq : decide (a = b) = true := by
        rw [List.take_length, hl, List.take_length] at hinv
        simpa using hinv
      repeat' first | simp (disch := first | with_reducible assumption | omega) only [go_sem, Bool.true_and, Bool.and_true, Bool.and_self, Bool.false_and, Bool.and_false, Bool.true_or, Bool.or_true, Bool.false_or, Bool.or_false, ↓reduceIte, Nat.reduceEqDiff, Nat.reduceAdd, Nat.reduceMul, Nat.reduceSub, Nat.reduceBEq, Nat.reduceLeDiff, Nat.reduceLT, Nat.reduceMod, Nat.reduceDiv, Int.reduceToNat, Int.reducePow, Int.reduceMul, Int.reduceAdd, Int.reduceSub, Int.reduceLE, Int.reduceLT, Int.reduceNeg, Int.reduceDiv, Int.reduceMod, Int.reduceEq, Int.reduceBEq, Int.reduceBNe, f14, f14b, f14r0, f14r1, f14r2, f14r3, f14r4, f14r5, f14r6, f14r7, f14r8, f14r10, f14l0, f14, f14b, f14r0, f14r1, f14r2, f14r3, f14r4, f14r5, f14r6, f14r7, f14r8, f14r10, hk, hk'] | (refine BrW.of (fun hb => ?_) (fun hb => ?_) <;> (have hb' := hb; try simp only [decide_eq_true_eq, decide_eq_false_iff_not, beq_iff_eq, bne_iff_ne, beq_eq_false_iff_ne, bne_eq_false_iff_eq, Bool.not_eq_true', Bool.not_eq_false', Bool.not_eq_true, Bool.not_eq_false, Bool.and_eq_true, Bool.or_eq_true, Bool.and_eq_false_iff, Bool.or_eq_false_iff, Int.not_lt, Int.not_le, ne_eq, gt_iff_lt, ge_iff_le] at hb') <;> (try (exfalso; omega))) | (refine altW.of ?_ ?_)
      exact .here ⟨by rw [heq], rfl⟩
  · have hne : decide (a = b) = false := by simp; rintro rfl; exact hl rfl
    repeat' first | simp (disch := first | with_reducible assumption | omega) only [go_sem, Bool.true_and, Bool.and_true, Bool.and_self, Bool.false_and, Bool.and_false, Bool.true_or, Bool.or_true, Bool.false_or, Bool.or_false, ↓reduceIte, Nat.reduceEqDiff, Nat.reduceAdd, Nat.reduceMul, Nat.reduceSub, Nat.reduceBEq, Nat.reduceLeDiff, Nat.reduceLT, Nat.reduceMod, Nat.reduceDiv, Int.reduceToNat, Int.reducePow, Int.reduceMul, Int.reduceAdd, Int.reduceSub, Int.reduceLE, Int.reduceLT, Int.reduceNeg, Int.reduceDiv, Int.reduceMod, Int.reduceEq, Int.reduceBEq, Int.reduceBNe, f14, f14b, f14r0, f14r1, f14r2, f14r3, f14r4, f14r5, f14r6, f14r7, f14r8, f14r10, hk, hk'] | (refine BrW.of (fun hb => ?_) (fun hb => ?_) <;> (have hb' := hb; try simp only [decide_eq_true_eq, decide_eq_false_iff_not, beq_iff_eq, bne_iff_ne, beq_eq_false_iff_ne, bne_eq_false_iff_eq, Bool.not_eq_true', Bool.not_eq_false', Bool.not_eq_true, Bool.not_eq_false, Bool.and_eq_true, Bool.or_eq_true, Bool.and_eq_false_iff, Bool.or_eq_false_iff, Int.not_lt, Int.not_le, ne_eq, gt_iff_lt, ge_iff_le] at hb') <;> (try (exfalso; omega))) | (refine altW.of ?_ ?_)
    all_goals exact .here ⟨by rw [hne], rfl⟩

theorem same_F (x y : F) : sameS [false, false] (F.cells x) (F.cells y) = some (decide (x = y)) := by
  obtain ⟨a0, a1⟩ := x
  obtain ⟨d0, d1⟩ := y
  simp only [F.cells, sameS, if_true, Option.map_some]
  congr 1
  rw [Bool.eq_iff_iff]
  simp only [Bool.and_eq_true, beq_iff_eq, decide_eq_true_eq, F.mk.injEq, and_true, and_assoc]
theorem a_ok : okS 10 [2, 8, 9] [1, 1, 3] := by
  refine ⟨rfl, by decide, by decide, fun i hi => ?_, fun i hi => ?_⟩
  · have : i = 0 ∨ i = 1 ∨ i = 2 := by have : i < 3 := hi; omega
    rcases this with rfl | rfl | rfl <;> decide
  · have : i = 0 ∨ i = 1 ∨ i = 2 := by have : i < 3 := hi; omega
    rcases this with rfl | rfl | rfl <;> decide
theorem a_lev : IsLev (W [2, 8, 9] [1, 1, 3]) 10 8 4 := Or.inr (by decide +kernel)
theorem a_gets : gl (W [2, 8, 9] [1, 1, 3]) 8 4 3 = [⟨2, 1⟩, ⟨8, 4⟩, ⟨24, 4⟩] := by decide +kernel
theorem a_one {num den : Int} (h : IsLev (W [2, 8, 9] [1, 1, 3]) 10 num den) : num = 8 ∧ den = 4 := by
  have h2 := lev_one (fun i hi => (a_ok.2.c i hi).1) h a_lev
  exact h2
theorem alive (H : Heap) : ACallK Try.prog 7 [] H (fun v H' => v = .bool true ∧ H' = H) := by
  have hI := fun (J : Heap) (k g : Nat) (l : List Int) (h : J[k]? = some (.cells g 1 false (ints l))) => Ints.new J k g false l h
  have hsame : sameS [false, false] [Value.int IntKind.i64 8, Value.int IntKind.i64 4] [Value.int IntKind.i64 8, Value.int IntKind.i64 4] = some true := by decide
  have hE := fun (G : Heap) (k1 g1 k2 : Nat) (h1 : G[k1]? = some (.cells g1 2 false (flat' F.cells [⟨2, 1⟩, ⟨8, 4⟩, ⟨24, 4⟩]))) (h2 : G[k2]? = some (.cells 0 2 false (flat' F.cells [⟨2, 1⟩, ⟨8, 4⟩, ⟨24, 4⟩]))) => EqualF_spec [⟨2, 1⟩, ⟨8, 4⟩, ⟨24, 4⟩] [⟨2, 1⟩, ⟨8, 4⟩, ⟨24, 4⟩] k1 0 g1 3 k2 0 0 3 G (Tbl.new (enc := F.cells) (s := 2) (d := f0) (fun _ => rfl) _ _ _ false _ h1) (Tbl.new (enc := F.cells) (s := 2) (d := f0) (fun _ => rfl) _ _ _ false _ h2) (by decide) (by decide) same_F
  rw [decide_eq_true rfl] at hE
  refine .walkW f7_ok (by simp) (by decide) ?_
  repeat' first | simp (disch := first | with_reducible assumption | omega) only [go_sem, Bool.true_and, Bool.and_true, Bool.and_self, Bool.false_and, Bool.and_false, Bool.true_or, Bool.or_true, Bool.false_or, Bool.or_false, ↓reduceIte, Nat.reduceEqDiff, Nat.reduceAdd, Nat.reduceMul, Nat.reduceSub, Nat.reduceBEq, Nat.reduceLeDiff, Nat.reduceLT, Nat.reduceMod, Nat.reduceDiv, Int.reduceToNat, Int.reducePow, Int.reduceMul, Int.reduceAdd, Int.reduceSub, Int.reduceLE, Int.reduceLT, Int.reduceNeg, Int.reduceDiv, Int.reduceMod, Int.reduceEq, Int.reduceBEq, Int.reduceBNe, f7, f7b, f7r0, f7r1, f7r2, f7r3] | (refine BrW.of (fun hb => ?_) (fun hb => ?_) <;> (have hb' := hb; try simp only [decide_eq_true_eq, decide_eq_false_iff_not, beq_iff_eq, bne_iff_ne, beq_eq_false_iff_ne, bne_eq_false_iff_eq, Bool.not_eq_true', Bool.not_eq_false', Bool.not_eq_true, Bool.not_eq_false, Bool.and_eq_true, Bool.or_eq_true, Bool.and_eq_false_iff, Bool.or_eq_false_iff, Int.not_lt, Int.not_le, ne_eq, gt_iff_lt, ge_iff_le] at hb') <;> (try (exfalso; omega))) | (refine altW.of ?_ ?_)
  refine .of ((Level_spec 10 [2, 8, 9] [1, 1, 3] H.length 0 0 3 (H.length + 1) 0 0 3 _ (hI _ _ _ _ (get_new0 _ _ _)) (hI _ _ _ _ (by rw [get_new]; rfl)) (by decide) (by decide) (by decide) (by decide)).mono ?_)
  rintro v J ⟨num, den, e, rfl, rfl, he, hl⟩
  obtain rfl := he.2 a_ok
  obtain ⟨rfl, rfl⟩ := a_one (hl rfl)
  repeat' first | simp (disch := first | with_reducible assumption | omega) only [go_sem, Bool.true_and, Bool.and_true, Bool.and_self, Bool.false_and, Bool.and_false, Bool.true_or, Bool.or_true, Bool.false_or, Bool.or_false, ↓reduceIte, Nat.reduceEqDiff, Nat.reduceAdd, Nat.reduceMul, Nat.reduceSub, Nat.reduceBEq, Nat.reduceLeDiff, Nat.reduceLT, Nat.reduceMod, Nat.reduceDiv, Int.reduceToNat, Int.reducePow, Int.reduceMul, Int.reduceAdd, Int.reduceSub, Int.reduceLE, Int.reduceLT, Int.reduceNeg, Int.reduceDiv, Int.reduceMod, Int.reduceEq, Int.reduceBEq, Int.reduceBNe, f7, f7b, f7r0, f7r1, f7r2, f7r3] | (refine BrW.of (fun hb => ?_) (fun hb => ?_) <;> (have hb' := hb; try simp only [decide_eq_true_eq, decide_eq_false_iff_not, beq_iff_eq, bne_iff_ne, beq_eq_false_iff_ne, bne_eq_false_iff_eq, Bool.not_eq_true', Bool.not_eq_false', Bool.not_eq_true, Bool.not_eq_false, Bool.and_eq_true, Bool.or_eq_true, Bool.and_eq_false_iff, Bool.or_eq_false_iff, Int.not_lt, Int.not_le, ne_eq, gt_iff_lt, ge_iff_le] at hb') <;> (try (exfalso; omega))) | (refine altW.of ?_ ?_)
  refine .of ((Gets_spec 10 [2, 8, 9] [1, 1, 3] (H.length + 3) 0 0 3 (H.length + 4) 0 0 3 _ (hI _ _ _ _ (by rw [get_new]; rfl)) (hI _ _ _ _ (by rw [get_new]; rfl)) (by decide) (by decide) (by decide) (by decide)).mono ?_)
  rintro v J ⟨X, u, e, hJ, rfl, he, _, hg⟩
  obtain rfl := he.2 a_ok
  obtain ⟨num, den, hl2, hA⟩ := hg rfl
  obtain ⟨rfl, rfl⟩ := a_one hl2
  rw [show ([2, 8, 9] : List Int).length = 3 from rfl, a_gets] at hA
  obtain ⟨k, g, rfl, x1⟩ := hA
  have hp : J[H.length + 2]? = some (.cells 0 0 false [.int .i64 8, .int .i64 4]) := by
    rw [hJ]
    exact get_old (by rw [get_new]; rfl) X
  have hg : ∃ Z, J = H ++ Z := ⟨_, hJ.trans (List.append_assoc _ _ _)⟩
  clear hI he hl hl2 hJ
  generalize H.length + 2 = kp at *
  repeat' first | simp (disch := first | with_reducible assumption | omega) only [go_sem, Bool.true_and, Bool.and_true, Bool.and_self, Bool.false_and, Bool.and_false, Bool.true_or, Bool.or_true, Bool.false_or, Bool.or_false, ↓reduceIte, Nat.reduceEqDiff, Nat.reduceAdd, Nat.reduceMul, Nat.reduceSub, Nat.reduceBEq, Nat.reduceLeDiff, Nat.reduceLT, Nat.reduceMod, Nat.reduceDiv, Int.reduceToNat, Int.reducePow, Int.reduceMul, Int.reduceAdd, Int.reduceSub, Int.reduceLE, Int.reduceLT, Int.reduceNeg, Int.reduceDiv, Int.reduceMod, Int.reduceEq, Int.reduceBEq, Int.reduceBNe, f7, f7b, f7r0, f7r1, f7r2, f7r3, hp, get_old hp, hsame] | (refine BrW.of (fun hb => ?_) (fun hb => ?_) <;> (have hb' := hb; try simp only [decide_eq_true_eq, decide_eq_false_iff_not, beq_iff_eq, bne_iff_ne, beq_eq_false_iff_ne, bne_eq_false_iff_eq, Bool.not_eq_true', Bool.not_eq_false', Bool.not_eq_true, Bool.not_eq_false, Bool.and_eq_true, Bool.or_eq_true, Bool.and_eq_false_iff, Bool.or_eq_false_iff, Int.not_lt, Int.not_le, ne_eq, gt_iff_lt, ge_iff_le] at hb') <;> (try (exfalso; omega))) | (refine altW.of ?_ ?_)
  refine .of ((hE _ k g J.length (get_old x1 _) (get_new0 _ _ _)).mono ?_)
  rintro v J2 ⟨rfl, rfl⟩
  repeat' first | simp (disch := first | with_reducible assumption | omega) only [go_sem, Bool.true_and, Bool.and_true, Bool.and_self, Bool.false_and, Bool.and_false, Bool.true_or, Bool.or_true, Bool.false_or, Bool.or_false, ↓reduceIte, Nat.reduceEqDiff, Nat.reduceAdd, Nat.reduceMul, Nat.reduceSub, Nat.reduceBEq, Nat.reduceLeDiff, Nat.reduceLT, Nat.reduceMod, Nat.reduceDiv, Int.reduceToNat, Int.reducePow, Int.reduceMul, Int.reduceAdd, Int.reduceSub, Int.reduceLE, Int.reduceLT, Int.reduceNeg, Int.reduceDiv, Int.reduceMod, Int.reduceEq, Int.reduceBEq, Int.reduceBNe, f7, f7b, f7r0, f7r1, f7r2, f7r3, hp, get_old hp, hsame] | (refine BrW.of (fun hb => ?_) (fun hb => ?_) <;> (have hb' := hb; try simp only [decide_eq_true_eq, decide_eq_false_iff_not, beq_iff_eq, bne_iff_ne, beq_eq_false_iff_ne, bne_eq_false_iff_eq, Bool.not_eq_true', Bool.not_eq_false', Bool.not_eq_true, Bool.not_eq_false, Bool.and_eq_true, Bool.or_eq_true, Bool.and_eq_false_iff, Bool.or_eq_false_iff, Int.not_lt, Int.not_le, ne_eq, gt_iff_lt, ge_iff_le] at hb') <;> (try (exfalso; omega))) | (refine altW.of ?_ ?_)
  obtain ⟨Z, rfl⟩ := hg
  rw [List.append_assoc]
  exact .back rfl ⟨rfl, rfl⟩
end Go.Proofs.Ytabjglejldapgaa
