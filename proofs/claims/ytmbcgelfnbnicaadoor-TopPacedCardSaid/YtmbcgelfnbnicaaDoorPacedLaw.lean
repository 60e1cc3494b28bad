import Derived.Test.YtmbcgelfnbnicaaDoorMeSteps
import Derived.Test.YtmbcgelfnbnicaaDoorPcC
import Derived.Test.YtmbcgelfnbnicaaDoorPacedPlain
import Derived.Test.YtmbcgelfnbnicaaDoorAlive
import Derived.Test.YtmbcgelfnbnicaaDoorBase
set_option linter.unusedSimpArgs false
set_option linter.unusedVariables false
set_option maxHeartbeats 2000000
set_option maxRecDepth 20000
namespace Go.Proofs.YtmbcgelfnbnicaaDoor
open Go Go.Am
attribute [local irreducible] opsW Ww loopW callW drawW outW outDW gW cW BrW bothW vW resW DropW RdW dcallW altW forkW splitW Later.run

theorem Shot.of {B : Nat} {H : Heap} (cs : List Value) (h : RowOk B H [.int .i64, .int .i64] cs) : ∃ s : Me.S, cs = s.cells ∧ True := by
  obtain ⟨_, _, rfl, c0, h⟩ := h.cons_inv
  obtain ⟨_, _, rfl, c1, h⟩ := h.cons_inv
  obtain rfl := h.nil_inv
  obtain ⟨n0, rfl, _⟩ := c0.int_inv
  obtain ⟨n1, rfl, _⟩ := c1.int_inv
  exact ⟨⟨n0, n1⟩, rfl, trivial⟩
theorem opsTo_flat (l : List Me.S) (out : List Int) (i : Nat) : (flat' Pc.O.cells (opsTo l out i)).length = (opsTo l out i).length * 2 := flat'_length (s := 2) (fun _ => rfl) _
theorem opsTo_no {l : List Me.S} {out : List Int} {i : Nat} (h : ¬ out.getD i 0 = 1) :
    flat' Pc.O.cells (opsTo l out (i + 1)) = flat' Pc.O.cells (opsTo l out i) ++ [.int .i64 2, .int .i64 ((l.getD i Me.s0).at' - nowAt l i)] ∧ (opsTo l out (i + 1)).length = (opsTo l out i).length + 1 := by
  have e : opsTo l out (i + 1) = opsTo l out i ++ [⟨2, (l.getD i Me.s0).at' - nowAt l i⟩] := by
    show opsTo l out i ++ opsOf l out i = _
    unfold opsOf
    rw [if_neg h]; rfl
  rw [e, ← flat'_app]
  exact ⟨by simp [flat', Pc.O.cells], by simp⟩
theorem opsTo_yes {l : List Me.S} {out : List Int} {i : Nat} (h : out.getD i 0 = 1) :
    flat' Pc.O.cells (opsTo l out (i + 1)) = flat' Pc.O.cells (opsTo l out i) ++ [.int .i64 2, .int .i64 ((l.getD i Me.s0).at' - nowAt l i)] ++ [.int .i64 1, .int .i64 (l.getD i Me.s0).by', .int .i64 3, .int .i64 1073741824] ∧ (opsTo l out (i + 1)).length = (opsTo l out i).length + 1 + 2 := by
  have e : opsTo l out (i + 1) = opsTo l out i ++ [⟨2, (l.getD i Me.s0).at' - nowAt l i⟩] ++ [⟨1, (l.getD i Me.s0).by'⟩, ⟨3, 1073741824⟩] := by
    show opsTo l out i ++ opsOf l out i = _
    unfold opsOf
    rw [if_pos h, List.append_assoc]; rfl
  rw [e, ← flat'_app, ← flat'_app]
  exact ⟨by simp [flat', Pc.O.cells], by simp⟩
theorem fa_pos {co bu : Int} (hr : (Me.full co bu 0).right) (hb : 1500 ≤ bu) : Pc.wrongP co 1 bu = 0 := by
  have h : (Pc.may co 1 bu).right := by
    unfold Me.full Me.M.right at hr
    unfold Pc.may Pc.Bk.right
    simp only at hr ⊢
    omega
  unfold Pc.wrongP
  rw [if_pos h, if_neg (by omega)]

theorem RdW.cut5 {H0 : Heap} {I : Nat → Env → Heap → Prop} {m : Nat} {e : Env} {o1 o2 o3 o4 o5 : AObj} {g : Heap} (l : List Nat) (m' : Nat) (hm : m' < m) (h1 : abnd (H0.length + 5) o1 = true) (h2 : abnd (H0.length + 5) o2 = true) (h3 : abnd (H0.length + 5) o3 = true) (h4 : abnd (H0.length + 5) o4 = true) (h5 : abnd (H0.length + 5) o5 = true)
    (he : bndE (H0.length + 5) (e.keep l) = true) (h : I m' (e.keep l) (H0 ++ [o1, o2, o3, o4, o5])) : @RdW H0 m e (H0 ++ o1 :: o2 :: o3 :: o4 :: o5 :: g) ⟨I⟩ :=
  RdW.cut l m' hm [o1, o2, o3, o4, o5] g (by simpa using ⟨h1, h2, h3, h4, h5⟩) he h
theorem TopPaced_args (H : Heap) (vals : List Value) (h : ArgsOk maxLen H TopPacedSh vals) : ACallK Tryd.prog 3 vals H fun v _ => v = .bool true := by
  obtain ⟨_, _, rfl, a1, h⟩ := h.cons
  obtain ⟨_, _, rfl, a2, h⟩ := h.cons
  obtain ⟨_, _, rfl, a3, h⟩ := h.cons
  obtain rfl := h.nil
  obtain ⟨co, rfl, hco⟩ := a1.cell.int_inv
  obtain ⟨bu, rfl, hbu⟩ := a2.cell.int_inv
  obtain ⟨k, c, l, rfl, hB, hlc, hs, _⟩ := rows_of (α := Me.S) (enc := Me.S.cells) (ok := fun _ => True) 2 (fun _ => rfl) Me.s0 rfl (fun cs h => Shot.of cs h) a3
  clear a1 a2 a3 h
  have hs : Me.Shots H k 0 0 l := hs
  obtain ⟨ro, cs, hk, hcl, hcs⟩ := hs.cell
  simp only [Nat.zero_add] at hcs
  have hkl := hs.lt
  refine .walkW f3_ok (by simp; decide) (by decide) ?_
  by_cases hb0 : bu < 1500
  · repeat' first | simp (disch := first | with_reducible assumption | omega) only [go_sem, Bool.true_and, Bool.and_true, Bool.and_self, Bool.false_and, Bool.and_false, Bool.true_or, Bool.or_true, Bool.false_or, Bool.or_false, ↓reduceIte, Nat.reduceEqDiff, Nat.reduceAdd, Nat.reduceMul, Nat.reduceSub, Nat.reduceBEq, Nat.reduceLeDiff, Nat.reduceLT, Nat.reduceMod, Nat.reduceDiv, Int.reduceToNat, Int.reducePow, Int.reduceMul, Int.reduceAdd, Int.reduceSub, Int.reduceLE, Int.reduceLT, Int.reduceNeg, Int.reduceDiv, Int.reduceMod, Int.reduceEq, Int.reduceBEq, Int.reduceBNe, f3, f3b, f3r0, f3r1, f3r2, f3r3, f3r4, f3r5, f3r6, f3r7, f3r8, f3r9, f3r10, f3r11, f3r12, f3r13, f3r14, f3r15, f3r16, f3r17, f3r18, f3r19, f3r21, f3r22, f3r23, f3r24, hk] | (refine BrW.of (fun hb => ?_) (fun hb => ?_) <;> (have hb' := hb; try simp only [decide_eq_true_eq, decide_eq_false_iff_not, beq_iff_eq, bne_iff_ne, beq_eq_false_iff_ne, bne_eq_false_iff_eq, Bool.not_eq_true', Bool.not_eq_false', Bool.not_eq_true, Bool.not_eq_false, Bool.and_eq_true, Bool.or_eq_true, Bool.and_eq_false_iff, Bool.or_eq_false_iff, Int.not_lt, Int.not_le, ne_eq, gt_iff_lt, ge_iff_le] at hb') <;> (try (exfalso; omega))) | (refine altW.of ?_ ?_) | (refine .of ((alive _).mono ?_); rintro v _ ⟨rfl, rfl⟩)
    all_goals exact .here rfl
  by_cases hl0 : 60 < l.length
  · repeat' first | simp (disch := first | with_reducible assumption | omega) only [go_sem, Bool.true_and, Bool.and_true, Bool.and_self, Bool.false_and, Bool.and_false, Bool.true_or, Bool.or_true, Bool.false_or, Bool.or_false, ↓reduceIte, Nat.reduceEqDiff, Nat.reduceAdd, Nat.reduceMul, Nat.reduceSub, Nat.reduceBEq, Nat.reduceLeDiff, Nat.reduceLT, Nat.reduceMod, Nat.reduceDiv, Int.reduceToNat, Int.reducePow, Int.reduceMul, Int.reduceAdd, Int.reduceSub, Int.reduceLE, Int.reduceLT, Int.reduceNeg, Int.reduceDiv, Int.reduceMod, Int.reduceEq, Int.reduceBEq, Int.reduceBNe, f3, f3b, f3r0, f3r1, f3r2, f3r3, f3r4, f3r5, f3r6, f3r7, f3r8, f3r9, f3r10, f3r11, f3r12, f3r13, f3r14, f3r15, f3r16, f3r17, f3r18, f3r19, f3r21, f3r22, f3r23, f3r24, hk] | (refine BrW.of (fun hb => ?_) (fun hb => ?_) <;> (have hb' := hb; try simp only [decide_eq_true_eq, decide_eq_false_iff_not, beq_iff_eq, bne_iff_ne, beq_eq_false_iff_ne, bne_eq_false_iff_eq, Bool.not_eq_true', Bool.not_eq_false', Bool.not_eq_true, Bool.not_eq_false, Bool.and_eq_true, Bool.or_eq_true, Bool.and_eq_false_iff, Bool.or_eq_false_iff, Int.not_lt, Int.not_le, ne_eq, gt_iff_lt, ge_iff_le] at hb') <;> (try (exfalso; omega))) | (refine altW.of ?_ ?_) | (refine .of ((alive _).mono ?_); rintro v _ ⟨rfl, rfl⟩)
    all_goals exact .here rfl
  by_cases hr : (Me.full co bu 0).right
  · have hw := fa_pos hr (by omega)
    cases hrun : Me.run (Me.full co bu 0) l with
    | none =>
      repeat' first | simp (disch := first | with_reducible assumption | omega) only [go_sem, Bool.true_and, Bool.and_true, Bool.and_self, Bool.false_and, Bool.and_false, Bool.true_or, Bool.or_true, Bool.false_or, Bool.or_false, ↓reduceIte, Nat.reduceEqDiff, Nat.reduceAdd, Nat.reduceMul, Nat.reduceSub, Nat.reduceBEq, Nat.reduceLeDiff, Nat.reduceLT, Nat.reduceMod, Nat.reduceDiv, Int.reduceToNat, Int.reducePow, Int.reduceMul, Int.reduceAdd, Int.reduceSub, Int.reduceLE, Int.reduceLT, Int.reduceNeg, Int.reduceDiv, Int.reduceMod, Int.reduceEq, Int.reduceBEq, Int.reduceBNe, f3, f3b, f3r0, f3r1, f3r2, f3r3, f3r4, f3r5, f3r6, f3r7, f3r8, f3r9, f3r10, f3r11, f3r12, f3r13, f3r14, f3r15, f3r16, f3r17, f3r18, f3r19, f3r21, f3r22, f3r23, f3r24, hk, Me.M.cells, Me.M.val, Me.M.zero] | (refine BrW.of (fun hb => ?_) (fun hb => ?_) <;> (have hb' := hb; try simp only [decide_eq_true_eq, decide_eq_false_iff_not, beq_iff_eq, bne_iff_ne, beq_eq_false_iff_ne, bne_eq_false_iff_eq, Bool.not_eq_true', Bool.not_eq_false', Bool.not_eq_true, Bool.not_eq_false, Bool.and_eq_true, Bool.or_eq_true, Bool.and_eq_false_iff, Bool.or_eq_false_iff, Int.not_lt, Int.not_le, ne_eq, gt_iff_lt, ge_iff_le] at hb') <;> (try (exfalso; omega))) | (refine altW.of ?_ ?_) | (refine .of ((alive _).mono ?_); rintro v _ ⟨rfl, rfl⟩) | (refine .of ((Me.Play_bad co bu 0 l k 0 0 c _ hs (by omega) hr hrun).mono ?_); rintro v _ ⟨e, he, rfl, x, rfl⟩; have he' : (e != 0) = true := by simpa using he)
      all_goals exact .here (by rw [he'])
    | some p =>
      obtain ⟨out, m'⟩ := p
      have hol := Me.run_length hrun
      have hrun' : Me.run ⟨co, bu, 0, bu, 0, 0⟩ l = some (out, m') := hrun
      have hr' : (⟨co, bu, 0, bu, 0, 0⟩ : Me.M).right := hr
      repeat' first | simp (disch := first | with_reducible assumption | omega) only [go_sem, Bool.true_and, Bool.and_true, Bool.and_self, Bool.false_and, Bool.and_false, Bool.true_or, Bool.or_true, Bool.false_or, Bool.or_false, ↓reduceIte, Nat.reduceEqDiff, Nat.reduceAdd, Nat.reduceMul, Nat.reduceSub, Nat.reduceBEq, Nat.reduceLeDiff, Nat.reduceLT, Nat.reduceMod, Nat.reduceDiv, Int.reduceToNat, Int.reducePow, Int.reduceMul, Int.reduceAdd, Int.reduceSub, Int.reduceLE, Int.reduceLT, Int.reduceNeg, Int.reduceDiv, Int.reduceMod, Int.reduceEq, Int.reduceBEq, Int.reduceBNe, f3, f3b, f3r0, f3r1, f3r2, f3r3, f3r4, f3r5, f3r6, f3r7, f3r8, f3r9, f3r10, f3r11, f3r12, f3r13, f3r14, f3r15, f3r16, f3r17, f3r18, f3r19, f3r21, f3r22, f3r23, f3r24, hk, get_old hk, Me.M.cells, Me.M.val] | (refine BrW.of (fun hb => ?_) (fun hb => ?_) <;> (have hb' := hb; try simp only [decide_eq_true_eq, decide_eq_false_iff_not, beq_iff_eq, bne_iff_ne, beq_eq_false_iff_ne, bne_eq_false_iff_eq, Bool.not_eq_true', Bool.not_eq_false', Bool.not_eq_true, Bool.not_eq_false, Bool.and_eq_true, Bool.or_eq_true, Bool.and_eq_false_iff, Bool.or_eq_false_iff, Int.not_lt, Int.not_le, ne_eq, gt_iff_lt, ge_iff_le] at hb') <;> (try (exfalso; omega))) | (refine altW.of ?_ ?_) | (refine .of ((alive _).mono ?_); rintro v J ⟨rfl, hq⟩; obtain rfl := hq.symm) | (refine .of ((Me.Play_spec co bu 0 l k 0 0 c _ hs (by omega) out m' hr hrun).mono ?_); rintro v J ⟨gp, z, x, rfl, hq⟩; obtain rfl := hq.symm)
      refine loopW.ghost 10 2 rfl ?_
      simp (disch := first | with_reducible assumption | omega) only [go_sem, Bool.true_and, Bool.and_true, Bool.and_self, Bool.false_and, Bool.and_false, Bool.true_or, Bool.or_true, Bool.false_or, Bool.or_false, ↓reduceIte, Nat.reduceEqDiff, Nat.reduceAdd, Nat.reduceMul, Nat.reduceSub, Nat.reduceBEq, Nat.reduceLeDiff, Nat.reduceLT, Nat.reduceMod, Nat.reduceDiv, Int.reduceToNat, Int.reducePow, Int.reduceMul, Int.reduceAdd, Int.reduceSub, Int.reduceLE, Int.reduceLT, Int.reduceNeg, Int.reduceDiv, Int.reduceMod, Int.reduceEq, Int.reduceBEq, Int.reduceBNe]
      refine loopW.keep [0, 1, 7, 10, 11, 45, 46, 47] ?_
      simp (disch := first | with_reducible assumption | omega) only [go_sem, Bool.true_and, Bool.and_true, Bool.and_self, Bool.false_and, Bool.and_false, Bool.true_or, Bool.or_true, Bool.false_or, Bool.or_false, ↓reduceIte, Nat.reduceEqDiff, Nat.reduceAdd, Nat.reduceMul, Nat.reduceSub, Nat.reduceBEq, Nat.reduceLeDiff, Nat.reduceLT, Nat.reduceMod, Nat.reduceDiv, Int.reduceToNat, Int.reducePow, Int.reduceMul, Int.reduceAdd, Int.reduceSub, Int.reduceLE, Int.reduceLT, Int.reduceNeg, Int.reduceDiv, Int.reduceMod, Int.reduceEq, Int.reduceBEq, Int.reduceBNe]
      refine loopW.of (by decide) (fun m e H'' => ∃ (i g' : Nat), e = [(0, .int .i64 co), (1, .int .i64 bu), (7, slv (H.length + 2) 0 gp l.length l.length), (10, slv (H.length + 4) 0 g' (opsTo l out i).length (opsTo l out i).length), (11, .int .i64 (nowAt l i)), (45, slv k 0 0 l.length c), (46, .int .i64 l.length), (47, .int .i64 i)] ∧
        H'' = H ++ [.cells 0 0 false z.cells, .cells 0 0 false x.cells, .cells gp 1 false (ints out), .cells 0 0 false m'.cells, .cells g' 2 false (flat' Pc.O.cells (opsTo l out i))] ∧ i ≤ l.length ∧ m = l.length - i ∧ ∀ j, j < i → 1 ≤ (l.getD j Me.s0).by' ∧ (l.getD j Me.s0).by' ≤ 1500) l.length ⟨0, 0, rfl, rfl, by omega, rfl, fun j hj => by omega⟩ ?_
      rintro m e H'' ⟨i, g', rfl, rfl, hi, rfl, hinv⟩
      by_cases hlt : i < l.length
      · obtain ⟨e0, e1⟩ := hcs i hlt
        have e2 : (ints out)[i]? = some (.int .i64 (out.getD i 0)) := ints_get _ _ (by omega)
        have hg := paced_good hr' hrun' i hlt hinv
        have hnow : nowAt l (i + 1) = (l.getD i Me.s0).at' := rfl
        have hol' := opsTo_length l out i
        have hof := opsTo_flat l out i
        have hn1 : ¬ (opsTo l out i).length + 1 ≤ (opsTo l out i).length := by omega
        have hn2 : ¬ (opsTo l out i).length + 1 + 2 ≤ (opsTo l out i).length + 1 := by omega
        have tk1 : (flat' Pc.O.cells (opsTo l out i)).take ((opsTo l out i).length * 2) = flat' Pc.O.cells (opsTo l out i) := List.take_of_length_le (by omega)
        have hfr : ∀ v ∈ flat' Pc.O.cells (opsTo l out (i + 1)), flat v = true := flat_rows (fun _ => by simp [Pc.O.cells, flat]) _
        have hgz : (l.getD i ⟨0, 0⟩ : Me.S) = l.getD i Me.s0 := rfl
        rw [hgz] at hg
        by_cases hx : 1 ≤ (l.getD i Me.s0).by' ∧ (l.getD i Me.s0).by' ≤ 1500
        · have hnext : ∀ j, j < i + 1 → 1 ≤ (l.getD j Me.s0).by' ∧ (l.getD j Me.s0).by' ≤ 1500 := fun j hj => by
            by_cases e : j = i
            · rw [e]; exact hx
            · exact hinv j (by omega)
          clear hinv
          by_cases hy : out.getD i 0 = 1
          · obtain ⟨f1, f2⟩ := opsTo_yes (l := l) hy
            rw [hy] at e2
            have tk2 : (flat' Pc.O.cells (opsTo l out i) ++ ([.int .i64 2, .int .i64 ((l.getD i Me.s0).at' - nowAt l i)] : List Value)).take (((opsTo l out i).length + 1) * 2) = flat' Pc.O.cells (opsTo l out i) ++ ([.int .i64 2, .int .i64 ((l.getD i Me.s0).at' - nowAt l i)] : List Value) := List.take_of_length_le (by simp; omega)
            have hof2 : (flat' Pc.O.cells (opsTo l out i) ++ ([.int .i64 2, .int .i64 ((l.getD i Me.s0).at' - nowAt l i)] : List Value)).length = ((opsTo l out i).length + 1) * 2 := by simp; omega
            generalize (l.getD i Me.s0).at' = at' at *
            generalize (l.getD i Me.s0).by' = by' at *
            generalize nowAt l i = now at *
            repeat' first | simp (disch := first | with_reducible assumption | omega) only [go_sem, Bool.true_and, Bool.and_true, Bool.and_self, Bool.false_and, Bool.and_false, Bool.true_or, Bool.or_true, Bool.false_or, Bool.or_false, ↓reduceIte, Nat.reduceEqDiff, Nat.reduceAdd, Nat.reduceMul, Nat.reduceSub, Nat.reduceBEq, Nat.reduceLeDiff, Nat.reduceLT, Nat.reduceMod, Nat.reduceDiv, Int.reduceToNat, Int.reducePow, Int.reduceMul, Int.reduceAdd, Int.reduceSub, Int.reduceLE, Int.reduceLT, Int.reduceNeg, Int.reduceDiv, Int.reduceMod, Int.reduceEq, Int.reduceBEq, Int.reduceBNe, f3, f3b, f3r0, f3r1, f3r2, f3r3, f3r4, f3r5, f3r6, f3r7, f3r8, f3r9, f3r10, f3r11, f3r12, f3r13, f3r14, f3r15, f3r16, f3r17, f3r18, f3r19, f3r21, f3r22, f3r23, f3r24, f3l0, f3, f3b, f3r0, f3r1, f3r2, f3r3, f3r4, f3r5, f3r6, f3r7, f3r8, f3r9, f3r10, f3r11, f3r12, f3r13, f3r14, f3r15, f3r16, f3r17, f3r18, f3r19, f3r21, f3r22, f3r23, f3r24, hk, get_old hk, e0, e1, e2, hof, hof2, hn1, hn2, tk1, tk2] | (refine BrW.of (fun hb => ?_) (fun hb => ?_) <;> (have hb' := hb; try simp only [decide_eq_true_eq, decide_eq_false_iff_not, beq_iff_eq, bne_iff_ne, beq_eq_false_iff_ne, bne_eq_false_iff_eq, Bool.not_eq_true', Bool.not_eq_false', Bool.not_eq_true, Bool.not_eq_false, Bool.and_eq_true, Bool.or_eq_true, Bool.and_eq_false_iff, Bool.or_eq_false_iff, Int.not_lt, Int.not_le, ne_eq, gt_iff_lt, ge_iff_le] at hb') <;> (try (exfalso; omega))) | (refine altW.of ?_ ?_)
            refine RdW.cut5 [0, 1, 7, 10, 11, 45, 46, 47] (l.length - (i + 1)) (by omega) rfl rfl (abnd_ints' _ _ _ _ _) rfl (by rw [← f1]; exact abnd_flat hfr) ?_ ?_
            · simp (disch := first | with_reducible assumption | omega) only [go_sem, Bool.true_and, Bool.and_true, Bool.and_self, Bool.false_and, Bool.and_false, Bool.true_or, Bool.or_true, Bool.false_or, Bool.or_false, ↓reduceIte, Nat.reduceEqDiff, Nat.reduceAdd, Nat.reduceMul, Nat.reduceSub, Nat.reduceBEq, Nat.reduceLeDiff, Nat.reduceLT, Nat.reduceMod, Nat.reduceDiv, Int.reduceToNat, Int.reducePow, Int.reduceMul, Int.reduceAdd, Int.reduceSub, Int.reduceLE, Int.reduceLT, Int.reduceNeg, Int.reduceDiv, Int.reduceMod, Int.reduceEq, Int.reduceBEq, Int.reduceBNe]
              simp
            · simp (disch := first | with_reducible assumption | omega) only [go_sem, Bool.true_and, Bool.and_true, Bool.and_self, Bool.false_and, Bool.and_false, Bool.true_or, Bool.or_true, Bool.false_or, Bool.or_false, ↓reduceIte, Nat.reduceEqDiff, Nat.reduceAdd, Nat.reduceMul, Nat.reduceSub, Nat.reduceBEq, Nat.reduceLeDiff, Nat.reduceLT, Nat.reduceMod, Nat.reduceDiv, Int.reduceToNat, Int.reducePow, Int.reduceMul, Int.reduceAdd, Int.reduceSub, Int.reduceLE, Int.reduceLT, Int.reduceNeg, Int.reduceDiv, Int.reduceMod, Int.reduceEq, Int.reduceBEq, Int.reduceBNe]
              exact ⟨i + 1, g' + 1 + 1, by rw [f2, hnow]; rfl, by rw [f1], by omega, rfl, hnext⟩
          · obtain ⟨f1, f2⟩ := opsTo_no (l := l) hy
            generalize out.getD i 0 = ou at *
            generalize (l.getD i Me.s0).at' = at' at *
            generalize (l.getD i Me.s0).by' = by' at *
            generalize nowAt l i = now at *
            repeat' first | simp (disch := first | with_reducible assumption | omega) only [go_sem, Bool.true_and, Bool.and_true, Bool.and_self, Bool.false_and, Bool.and_false, Bool.true_or, Bool.or_true, Bool.false_or, Bool.or_false, ↓reduceIte, Nat.reduceEqDiff, Nat.reduceAdd, Nat.reduceMul, Nat.reduceSub, Nat.reduceBEq, Nat.reduceLeDiff, Nat.reduceLT, Nat.reduceMod, Nat.reduceDiv, Int.reduceToNat, Int.reducePow, Int.reduceMul, Int.reduceAdd, Int.reduceSub, Int.reduceLE, Int.reduceLT, Int.reduceNeg, Int.reduceDiv, Int.reduceMod, Int.reduceEq, Int.reduceBEq, Int.reduceBNe, f3, f3b, f3r0, f3r1, f3r2, f3r3, f3r4, f3r5, f3r6, f3r7, f3r8, f3r9, f3r10, f3r11, f3r12, f3r13, f3r14, f3r15, f3r16, f3r17, f3r18, f3r19, f3r21, f3r22, f3r23, f3r24, f3l0, f3, f3b, f3r0, f3r1, f3r2, f3r3, f3r4, f3r5, f3r6, f3r7, f3r8, f3r9, f3r10, f3r11, f3r12, f3r13, f3r14, f3r15, f3r16, f3r17, f3r18, f3r19, f3r21, f3r22, f3r23, f3r24, hk, get_old hk, e0, e1, e2, hof, hn1, tk1] | (refine BrW.of (fun hb => ?_) (fun hb => ?_) <;> (have hb' := hb; try simp only [decide_eq_true_eq, decide_eq_false_iff_not, beq_iff_eq, bne_iff_ne, beq_eq_false_iff_ne, bne_eq_false_iff_eq, Bool.not_eq_true', Bool.not_eq_false', Bool.not_eq_true, Bool.not_eq_false, Bool.and_eq_true, Bool.or_eq_true, Bool.and_eq_false_iff, Bool.or_eq_false_iff, Int.not_lt, Int.not_le, ne_eq, gt_iff_lt, ge_iff_le] at hb') <;> (try (exfalso; omega))) | (refine altW.of ?_ ?_)
            refine RdW.cut5 [0, 1, 7, 10, 11, 45, 46, 47] (l.length - (i + 1)) (by omega) rfl rfl (abnd_ints' _ _ _ _ _) rfl (by rw [← f1]; exact abnd_flat hfr) ?_ ?_
            · simp (disch := first | with_reducible assumption | omega) only [go_sem, Bool.true_and, Bool.and_true, Bool.and_self, Bool.false_and, Bool.and_false, Bool.true_or, Bool.or_true, Bool.false_or, Bool.or_false, ↓reduceIte, Nat.reduceEqDiff, Nat.reduceAdd, Nat.reduceMul, Nat.reduceSub, Nat.reduceBEq, Nat.reduceLeDiff, Nat.reduceLT, Nat.reduceMod, Nat.reduceDiv, Int.reduceToNat, Int.reducePow, Int.reduceMul, Int.reduceAdd, Int.reduceSub, Int.reduceLE, Int.reduceLT, Int.reduceNeg, Int.reduceDiv, Int.reduceMod, Int.reduceEq, Int.reduceBEq, Int.reduceBNe]
              simp
            · simp (disch := first | with_reducible assumption | omega) only [go_sem, Bool.true_and, Bool.and_true, Bool.and_self, Bool.false_and, Bool.and_false, Bool.true_or, Bool.or_true, Bool.false_or, Bool.or_false, ↓reduceIte, Nat.reduceEqDiff, Nat.reduceAdd, Nat.reduceMul, Nat.reduceSub, Nat.reduceBEq, Nat.reduceLeDiff, Nat.reduceLT, Nat.reduceMod, Nat.reduceDiv, Int.reduceToNat, Int.reducePow, Int.reduceMul, Int.reduceAdd, Int.reduceSub, Int.reduceLE, Int.reduceLT, Int.reduceNeg, Int.reduceDiv, Int.reduceMod, Int.reduceEq, Int.reduceBEq, Int.reduceBNe]
              exact ⟨i + 1, g' + 1, by rw [f2, hnow]; rfl, by rw [f1], by omega, rfl, hnext⟩
        · by_cases hx0 : (l.getD i Me.s0).by' < 1
          · generalize (l.getD i Me.s0).at' = at' at *
            generalize (l.getD i Me.s0).by' = by' at *
            repeat' first | simp (disch := first | with_reducible assumption | omega) only [go_sem, Bool.true_and, Bool.and_true, Bool.and_self, Bool.false_and, Bool.and_false, Bool.true_or, Bool.or_true, Bool.false_or, Bool.or_false, ↓reduceIte, Nat.reduceEqDiff, Nat.reduceAdd, Nat.reduceMul, Nat.reduceSub, Nat.reduceBEq, Nat.reduceLeDiff, Nat.reduceLT, Nat.reduceMod, Nat.reduceDiv, Int.reduceToNat, Int.reducePow, Int.reduceMul, Int.reduceAdd, Int.reduceSub, Int.reduceLE, Int.reduceLT, Int.reduceNeg, Int.reduceDiv, Int.reduceMod, Int.reduceEq, Int.reduceBEq, Int.reduceBNe, f3, f3b, f3r0, f3r1, f3r2, f3r3, f3r4, f3r5, f3r6, f3r7, f3r8, f3r9, f3r10, f3r11, f3r12, f3r13, f3r14, f3r15, f3r16, f3r17, f3r18, f3r19, f3r21, f3r22, f3r23, f3r24, f3l0, f3, f3b, f3r0, f3r1, f3r2, f3r3, f3r4, f3r5, f3r6, f3r7, f3r8, f3r9, f3r10, f3r11, f3r12, f3r13, f3r14, f3r15, f3r16, f3r17, f3r18, f3r19, f3r21, f3r22, f3r23, f3r24, hk, get_old hk, e0, e1] | (refine BrW.of (fun hb => ?_) (fun hb => ?_) <;> (have hb' := hb; try simp only [decide_eq_true_eq, decide_eq_false_iff_not, beq_iff_eq, bne_iff_ne, beq_eq_false_iff_ne, bne_eq_false_iff_eq, Bool.not_eq_true', Bool.not_eq_false', Bool.not_eq_true, Bool.not_eq_false, Bool.and_eq_true, Bool.or_eq_true, Bool.and_eq_false_iff, Bool.or_eq_false_iff, Int.not_lt, Int.not_le, ne_eq, gt_iff_lt, ge_iff_le] at hb') <;> (try (exfalso; omega))) | (refine altW.of ?_ ?_)
            all_goals exact .back rfl rfl
          · have hx1 : 1500 < (l.getD i Me.s0).by' := by omega
            generalize (l.getD i Me.s0).at' = at' at *
            generalize (l.getD i Me.s0).by' = by' at *
            repeat' first | simp (disch := first | with_reducible assumption | omega) only [go_sem, Bool.true_and, Bool.and_true, Bool.and_self, Bool.false_and, Bool.and_false, Bool.true_or, Bool.or_true, Bool.false_or, Bool.or_false, ↓reduceIte, Nat.reduceEqDiff, Nat.reduceAdd, Nat.reduceMul, Nat.reduceSub, Nat.reduceBEq, Nat.reduceLeDiff, Nat.reduceLT, Nat.reduceMod, Nat.reduceDiv, Int.reduceToNat, Int.reducePow, Int.reduceMul, Int.reduceAdd, Int.reduceSub, Int.reduceLE, Int.reduceLT, Int.reduceNeg, Int.reduceDiv, Int.reduceMod, Int.reduceEq, Int.reduceBEq, Int.reduceBNe, f3, f3b, f3r0, f3r1, f3r2, f3r3, f3r4, f3r5, f3r6, f3r7, f3r8, f3r9, f3r10, f3r11, f3r12, f3r13, f3r14, f3r15, f3r16, f3r17, f3r18, f3r19, f3r21, f3r22, f3r23, f3r24, f3l0, f3, f3b, f3r0, f3r1, f3r2, f3r3, f3r4, f3r5, f3r6, f3r7, f3r8, f3r9, f3r10, f3r11, f3r12, f3r13, f3r14, f3r15, f3r16, f3r17, f3r18, f3r19, f3r21, f3r22, f3r23, f3r24, hk, get_old hk, e0, e1] | (refine BrW.of (fun hb => ?_) (fun hb => ?_) <;> (have hb' := hb; try simp only [decide_eq_true_eq, decide_eq_false_iff_not, beq_iff_eq, bne_iff_ne, beq_eq_false_iff_ne, bne_eq_false_iff_eq, Bool.not_eq_true', Bool.not_eq_false', Bool.not_eq_true, Bool.not_eq_false, Bool.and_eq_true, Bool.or_eq_true, Bool.and_eq_false_iff, Bool.or_eq_false_iff, Int.not_lt, Int.not_le, ne_eq, gt_iff_lt, ge_iff_le] at hb') <;> (try (exfalso; omega))) | (refine altW.of ?_ ?_)
            all_goals exact .back rfl rfl
      · obtain rfl : i = l.length := by omega
        have hend := paced_end hr' hrun' hinv
        have hon := opsTo_length l out l.length
        obtain ⟨G, hG⟩ : ∃ G, G = H ++ [.cells 0 0 false z.cells, .cells 0 0 false x.cells, .cells gp 1 false (ints out), .cells 0 0 false m'.cells, .cells g' 2 false (flat' Pc.O.cells (opsTo l out l.length))] := ⟨_, rfl⟩
        have hO : Pc.Ops G (H.length + 4) 0 g' (opsTo l out l.length) := Tbl.new (enc := Pc.O.cells) (s := 2) (d := Pc.o0) (fun _ => rfl) _ _ _ false _ (by rw [hG, get_new]; rfl)
        have hP := Pc.Play_u co 1 bu (opsTo l out l.length) (H.length + 4) 0 g' (opsTo l out l.length).length G hO (by omega) hw
        obtain ⟨csO, hkO⟩ : ∃ ro cs, G[H.length + 4]? = some (.cells g' 2 ro cs) := by obtain ⟨ro, cs, h1, _⟩ := hO.at'; exact ⟨ro, cs, h1⟩
        obtain ⟨csO', hkO⟩ := hkO
        repeat' first | simp (disch := first | with_reducible assumption | omega) only [go_sem, Bool.true_and, Bool.and_true, Bool.and_self, Bool.false_and, Bool.and_false, Bool.true_or, Bool.or_true, Bool.false_or, Bool.or_false, ↓reduceIte, Nat.reduceEqDiff, Nat.reduceAdd, Nat.reduceMul, Nat.reduceSub, Nat.reduceBEq, Nat.reduceLeDiff, Nat.reduceLT, Nat.reduceMod, Nat.reduceDiv, Int.reduceToNat, Int.reducePow, Int.reduceMul, Int.reduceAdd, Int.reduceSub, Int.reduceLE, Int.reduceLT, Int.reduceNeg, Int.reduceDiv, Int.reduceMod, Int.reduceEq, Int.reduceBEq, Int.reduceBNe, f3, f3b, f3r0, f3r1, f3r2, f3r3, f3r4, f3r5, f3r6, f3r7, f3r8, f3r9, f3r10, f3r11, f3r12, f3r13, f3r14, f3r15, f3r16, f3r17, f3r18, f3r19, f3r21, f3r22, f3r23, f3r24, f3l0, f3, f3b, f3r0, f3r1, f3r2, f3r3, f3r4, f3r5, f3r6, f3r7, f3r8, f3r9, f3r10, f3r11, f3r12, f3r13, f3r14, f3r15, f3r16, f3r17, f3r18, f3r19, f3r21, f3r22, f3r23, f3r24, hk, get_old hk] | (refine BrW.of (fun hb => ?_) (fun hb => ?_) <;> (have hb' := hb; try simp only [decide_eq_true_eq, decide_eq_false_iff_not, beq_iff_eq, bne_iff_ne, beq_eq_false_iff_ne, bne_eq_false_iff_eq, Bool.not_eq_true', Bool.not_eq_false', Bool.not_eq_true, Bool.not_eq_false, Bool.and_eq_true, Bool.or_eq_true, Bool.and_eq_false_iff, Bool.or_eq_false_iff, Int.not_lt, Int.not_le, ne_eq, gt_iff_lt, ge_iff_le] at hb') <;> (try (exfalso; omega))) | (refine altW.of ?_ ?_)
        rw [← hG]
        refine .of (hP.mono ?_)
        rintro v _ ⟨X, w', so, rfl, rfl, hI, q, gq, av, rfl, hq, hA⟩
        have hd1 := hend.1
        have hd2 := hend.2
        generalize Pc.runP (Pc.p0 co 1 bu) (opsTo l out l.length) = p at *
        obtain ⟨pl, pd, pb, ps⟩ := p
        simp only at hd1 hd2
        subst hd1 hd2
        have hq1 : ∀ y, (G ++ (X ++ y))[G.length + q]? = some (.cells gq 2 false (flat' Pc.aenc av)) := fun y => by rw [get_new]; exact get_old hq _
        rcases hI with ⟨rfl, _⟩ | ⟨k', g2, rfl, hk'⟩
        · repeat' first | simp (disch := first | with_reducible assumption | omega) only [go_sem, Bool.true_and, Bool.and_true, Bool.and_self, Bool.false_and, Bool.and_false, Bool.true_or, Bool.or_true, Bool.false_or, Bool.or_false, ↓reduceIte, Nat.reduceEqDiff, Nat.reduceAdd, Nat.reduceMul, Nat.reduceSub, Nat.reduceBEq, Nat.reduceLeDiff, Nat.reduceLT, Nat.reduceMod, Nat.reduceDiv, Int.reduceToNat, Int.reducePow, Int.reduceMul, Int.reduceAdd, Int.reduceSub, Int.reduceLE, Int.reduceLT, Int.reduceNeg, Int.reduceDiv, Int.reduceMod, Int.reduceEq, Int.reduceBEq, Int.reduceBNe, f3, f3b, f3r0, f3r1, f3r2, f3r3, f3r4, f3r5, f3r6, f3r7, f3r8, f3r9, f3r10, f3r11, f3r12, f3r13, f3r14, f3r15, f3r16, f3r17, f3r18, f3r19, f3r21, f3r22, f3r23, f3r24, get_old hkO, hq1, Pc.P.val] | (refine BrW.of (fun hb => ?_) (fun hb => ?_) <;> (have hb' := hb; try simp only [decide_eq_true_eq, decide_eq_false_iff_not, beq_iff_eq, bne_iff_ne, beq_eq_false_iff_ne, bne_eq_false_iff_eq, Bool.not_eq_true', Bool.not_eq_false', Bool.not_eq_true, Bool.not_eq_false, Bool.and_eq_true, Bool.or_eq_true, Bool.and_eq_false_iff, Bool.or_eq_false_iff, Int.not_lt, Int.not_le, ne_eq, gt_iff_lt, ge_iff_le] at hb') <;> (try (exfalso; omega))) | (refine altW.of ?_ ?_)
          all_goals exact .here rfl
        · have hk1 : ∀ y, (G ++ (X ++ y))[G.length + k']? = some (.cells g2 1 false (ints [])) := fun y => by rw [get_new]; exact get_old hk' _
          repeat' first | simp (disch := first | with_reducible assumption | omega) only [go_sem, Bool.true_and, Bool.and_true, Bool.and_self, Bool.false_and, Bool.and_false, Bool.true_or, Bool.or_true, Bool.false_or, Bool.or_false, ↓reduceIte, Nat.reduceEqDiff, Nat.reduceAdd, Nat.reduceMul, Nat.reduceSub, Nat.reduceBEq, Nat.reduceLeDiff, Nat.reduceLT, Nat.reduceMod, Nat.reduceDiv, Int.reduceToNat, Int.reducePow, Int.reduceMul, Int.reduceAdd, Int.reduceSub, Int.reduceLE, Int.reduceLT, Int.reduceNeg, Int.reduceDiv, Int.reduceMod, Int.reduceEq, Int.reduceBEq, Int.reduceBNe, f3, f3b, f3r0, f3r1, f3r2, f3r3, f3r4, f3r5, f3r6, f3r7, f3r8, f3r9, f3r10, f3r11, f3r12, f3r13, f3r14, f3r15, f3r16, f3r17, f3r18, f3r19, f3r21, f3r22, f3r23, f3r24, get_old hkO, hq1, hk1, Pc.P.val] | (refine BrW.of (fun hb => ?_) (fun hb => ?_) <;> (have hb' := hb; try simp only [decide_eq_true_eq, decide_eq_false_iff_not, beq_iff_eq, bne_iff_ne, beq_eq_false_iff_ne, bne_eq_false_iff_eq, Bool.not_eq_true', Bool.not_eq_false', Bool.not_eq_true, Bool.not_eq_false, Bool.and_eq_true, Bool.or_eq_true, Bool.and_eq_false_iff, Bool.or_eq_false_iff, Int.not_lt, Int.not_le, ne_eq, gt_iff_lt, ge_iff_le] at hb') <;> (try (exfalso; omega))) | (refine altW.of ?_ ?_)
          all_goals exact .here rfl
  · repeat' first | simp (disch := first | with_reducible assumption | omega) only [go_sem, Bool.true_and, Bool.and_true, Bool.and_self, Bool.false_and, Bool.and_false, Bool.true_or, Bool.or_true, Bool.false_or, Bool.or_false, ↓reduceIte, Nat.reduceEqDiff, Nat.reduceAdd, Nat.reduceMul, Nat.reduceSub, Nat.reduceBEq, Nat.reduceLeDiff, Nat.reduceLT, Nat.reduceMod, Nat.reduceDiv, Int.reduceToNat, Int.reducePow, Int.reduceMul, Int.reduceAdd, Int.reduceSub, Int.reduceLE, Int.reduceLT, Int.reduceNeg, Int.reduceDiv, Int.reduceMod, Int.reduceEq, Int.reduceBEq, Int.reduceBNe, f3, f3b, f3r0, f3r1, f3r2, f3r3, f3r4, f3r5, f3r6, f3r7, f3r8, f3r9, f3r10, f3r11, f3r12, f3r13, f3r14, f3r15, f3r16, f3r17, f3r18, f3r19, f3r21, f3r22, f3r23, f3r24, hk, Me.M.cells, Me.M.val, Me.M.zero] | (refine BrW.of (fun hb => ?_) (fun hb => ?_) <;> (have hb' := hb; try simp only [decide_eq_true_eq, decide_eq_false_iff_not, beq_iff_eq, bne_iff_ne, beq_eq_false_iff_ne, bne_eq_false_iff_eq, Bool.not_eq_true', Bool.not_eq_false', Bool.not_eq_true, Bool.not_eq_false, Bool.and_eq_true, Bool.or_eq_true, Bool.and_eq_false_iff, Bool.or_eq_false_iff, Int.not_lt, Int.not_le, ne_eq, gt_iff_lt, ge_iff_le] at hb') <;> (try (exfalso; omega))) | (refine altW.of ?_ ?_) | (refine .of ((alive _).mono ?_); rintro v _ ⟨rfl, rfl⟩) | (refine .of ((Me.Play_wrong co bu 0 k 0 0 l.length c _ hr).mono ?_); rintro v _ ⟨e, he, rfl, x, rfl⟩; have he' : (e != 0) = true := by simpa using he)
    all_goals exact .here (by rw [he'])
end Go.Proofs.YtmbcgelfnbnicaaDoor
