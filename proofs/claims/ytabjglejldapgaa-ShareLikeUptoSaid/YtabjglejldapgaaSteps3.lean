import Derived.Test.YtabjglejldapgaaSteps2
import Derived.Test.YtabjglejldapgaaPlain2
set_option linter.unusedSimpArgs false
set_option linter.unusedVariables false
set_option maxHeartbeats 2000000
set_option maxRecDepth 20000
namespace Go.Proofs.Ytabjglejldapgaa
open Go Go.Am
attribute [local irreducible] opsW Ww loopW callW drawW outW outDW gW cW BrW bothW vW resW DropW RdW dcallW altW Later.run

def F.cells (a : F) : List Value := [.int .i64 a.num, .int .i64 a.den]
/-- A slice of fractions. -/
def AtF (H : Heap) (u : Value) (l : List F) : Prop := ∃ k g, u = slv k 0 g l.length l.length ∧ H[k]? = some (.cells g 2 false (flat' F.cells l))
theorem AtF.app {H : Heap} {u : Value} {l : List F} (h : AtF H u l) (X : Heap) : AtF (H ++ X) u l := by
  obtain ⟨k, g, h1, h2⟩ := h
  exact ⟨k, g, h1, get_old h2 X⟩
theorem Gets_new (all : Int) (wl cl : List Int) (kw ow gw cw kc oc gc cc : Nat) (H : Heap) (hw : Ints H kw ow gw wl) (hc : Ints H kc oc gc cl) (hlw : wl.length ≤ 9223372036854775807) (hlc : cl.length ≤ 9223372036854775807) (hcw : wl.length ≤ cw) (hcc : cl.length ≤ cc) :
    ACallK Try.prog 8 [.int .i64 all, slv kw ow gw wl.length cw, slv kc oc gc cl.length cc] H (fun v H' => ∃ (X : Heap) (u : Value) (e : Int), H' = H ++ X ∧ v = .tuple #[u, .int .i64 e] ∧ (e = 0 ↔ okS all wl cl) ∧ (¬ e = 0 → u = .slice none 0 0) ∧ (e = 0 → ∃ num den, IsLev (W wl cl) all num den ∧ ∃ k g, H.length ≤ k ∧ u = slv k 0 g (gl (W wl cl) num den wl.length).length (gl (W wl cl) num den wl.length).length ∧ H'[k]? = some (.cells g 2 false (flat' F.cells (gl (W wl cl) num den wl.length))))) := by
  have hL := fun (x : Heap) => Level_spec all wl cl kw ow gw cw kc oc gc cc (H ++ x) (hw.app x) (hc.app x) hlw hlc hcw hcc
  have hL0 := hL []
  rw [List.append_nil] at hL0
  obtain ⟨rw, csw, hkw, _, w0⟩ := Ints.cell hw
  obtain ⟨rc, csc, hkc, _, c0⟩ := Ints.cell hc
  refine .walkW f8_ok (by simp; decide) (by decide) ?_
  repeat' first | simp (disch := first | with_reducible assumption | omega) only [go_sem, Bool.true_and, Bool.and_true, Bool.and_self, Bool.false_and, Bool.and_false, Bool.true_or, Bool.or_true, Bool.false_or, Bool.or_false, ↓reduceIte, Nat.reduceEqDiff, Nat.reduceAdd, Nat.reduceMul, Nat.reduceSub, Nat.reduceBEq, Nat.reduceLeDiff, Nat.reduceLT, Nat.reduceMod, Nat.reduceDiv, Int.reduceToNat, Int.reducePow, Int.reduceMul, Int.reduceAdd, Int.reduceSub, Int.reduceLE, Int.reduceLT, Int.reduceNeg, Int.reduceDiv, Int.reduceMod, Int.reduceEq, Int.reduceBEq, Int.reduceBNe, f8, f8b, f8r0, f8r1, f8r2, f8r3, f8r4, f8r5, f8r6, f8r7, f8r8, f8r9, f8r10, f8r11, f8r13] | (refine BrW.of (fun hb => ?_) (fun hb => ?_) <;> (have hb' := hb; try simp only [decide_eq_true_eq, decide_eq_false_iff_not, beq_iff_eq, bne_iff_ne, beq_eq_false_iff_ne, bne_eq_false_iff_eq, Bool.not_eq_true', Bool.not_eq_false', Bool.not_eq_true, Bool.not_eq_false, Bool.and_eq_true, Bool.or_eq_true, Bool.and_eq_false_iff, Bool.or_eq_false_iff, Int.not_lt, Int.not_le, ne_eq, gt_iff_lt, ge_iff_le] at hb') <;> (try (exfalso; omega))) | (refine altW.of ?_ ?_)
  refine .of (hL0.mono ?_)
  rintro v H ⟨num, den, e, rfl, rfl, he, hlv⟩
  by_cases h0 : okS all wl cl
  · obtain rfl := he.2 h0
    have hlv := hlv rfl
    obtain ⟨hlen, hok⟩ := h0
    have h16 : wl.length ≤ 16 := hok.len
    have hr := lev_range hok hlv
    have hwr : ∀ i, i < wl.length → 0 ≤ wl.getD i 0 ∧ wl.getD i 0 ≤ 1048576 := hok.w
    have hcr : ∀ i, i < wl.length → 1 ≤ cl.getD i 0 ∧ cl.getD i 0 ≤ 1000 := hok.c
    clear hL hL0
    repeat' first | simp (disch := first | with_reducible assumption | omega) only [go_sem, Bool.true_and, Bool.and_true, Bool.and_self, Bool.false_and, Bool.and_false, Bool.true_or, Bool.or_true, Bool.false_or, Bool.or_false, ↓reduceIte, Nat.reduceEqDiff, Nat.reduceAdd, Nat.reduceMul, Nat.reduceSub, Nat.reduceBEq, Nat.reduceLeDiff, Nat.reduceLT, Nat.reduceMod, Nat.reduceDiv, Int.reduceToNat, Int.reducePow, Int.reduceMul, Int.reduceAdd, Int.reduceSub, Int.reduceLE, Int.reduceLT, Int.reduceNeg, Int.reduceDiv, Int.reduceMod, Int.reduceEq, Int.reduceBEq, Int.reduceBNe, f8, f8b, f8r0, f8r1, f8r2, f8r3, f8r4, f8r5, f8r6, f8r7, f8r8, f8r9, f8r10, f8r11, f8r13, hkw, get_old hkw] | (refine BrW.of (fun hb => ?_) (fun hb => ?_) <;> (have hb' := hb; try simp only [decide_eq_true_eq, decide_eq_false_iff_not, beq_iff_eq, bne_iff_ne, beq_eq_false_iff_ne, bne_eq_false_iff_eq, Bool.not_eq_true', Bool.not_eq_false', Bool.not_eq_true, Bool.not_eq_false, Bool.and_eq_true, Bool.or_eq_true, Bool.and_eq_false_iff, Bool.or_eq_false_iff, Int.not_lt, Int.not_le, ne_eq, gt_iff_lt, ge_iff_le] at hb') <;> (try (exfalso; omega))) | (refine altW.of ?_ ?_)
    refine loopW.ghost 10 2 rfl ?_
    simp (disch := first | with_reducible assumption | omega) only [go_sem, Bool.true_and, Bool.and_true, Bool.and_self, Bool.false_and, Bool.and_false, Bool.true_or, Bool.or_true, Bool.false_or, Bool.or_false, ↓reduceIte, Nat.reduceEqDiff, Nat.reduceAdd, Nat.reduceMul, Nat.reduceSub, Nat.reduceBEq, Nat.reduceLeDiff, Nat.reduceLT, Nat.reduceMod, Nat.reduceDiv, Int.reduceToNat, Int.reducePow, Int.reduceMul, Int.reduceAdd, Int.reduceSub, Int.reduceLE, Int.reduceLT, Int.reduceNeg, Int.reduceDiv, Int.reduceMod, Int.reduceEq, Int.reduceBEq, Int.reduceBNe]
    refine loopW.of (by decide) (fun m e J => ∃ (i g : Nat) (x : Heap), e = [(2, slv kc oc gc cl.length cc), (8, .pointer (some ⟨H.length, 0, some 1⟩)), (10, slv (H.length + 1) 0 g (gl (W wl cl) num den i).length (gl (W wl cl) num den i).length), (23, slv kw ow gw wl.length cw), (24, .int .i64 wl.length), (25, .int .i64 i)] ∧
      J = H ++ (.cells 0 0 false [.int .i64 num, .int .i64 den] :: .cells g 2 false (flat' F.cells (gl (W wl cl) num den i)) :: x) ∧ i ≤ wl.length ∧ m = wl.length - i) wl.length ⟨0, 0, [], rfl, rfl, by omega, rfl⟩ ?_
    rintro m e J ⟨i, g, x, rfl, rfl, hi, rfl⟩
    by_cases hlt : i < wl.length
    · have e1 := w0 i hlt
      have e2 := c0 i (by omega)
      have r1 := hwr i hlt
      have r2 := hcr i hlt
      have hgn := gl_len (W wl cl) num den i
      have hnx : gl (W wl cl) num den (i + 1) = gl (W wl cl) num den i ++ [getF (W wl cl) num den i] := rfl
      have hgf : getF (W wl cl) num den i = if den = 0 ∨ wl.getD i 0 * den ≤ cl.getD i 0 * num then ⟨wl.getD i 0, 1⟩ else ⟨cl.getD i 0 * num, den⟩ := rfl
      have m1 := Int.mul_le_mul r1.2 hr.2.2.2 hr.2.2.1 (by omega)
      have m2 := Int.mul_nonneg r1.1 hr.2.2.1
      have m3 := Int.mul_le_mul r2.2 hr.2.1 hr.1 (by omega)
      have m4 := Int.mul_nonneg (show 0 ≤ cl.getD i 0 by omega) hr.1
      have hfl := flat'_length (enc := F.cells) (s := 2) (fun _ => rfl) (gl (W wl cl) num den i)
      have htk : (flat' F.cells (gl (W wl cl) num den i)).take ((gl (W wl cl) num den i).length * 2) = flat' F.cells (gl (W wl cl) num den i) := List.take_of_length_le (by omega)
      clear w0 c0
      generalize wl.getD i 0 = a at *
      generalize cl.getD i 0 = b at *
      generalize gl (W wl cl) num den i = L at *
      have hni : ¬ L.length + 1 ≤ L.length := by omega
      by_cases hs : den = 0 ∨ a * den ≤ b * num
      · rw [if_pos hs] at hgf
        rw [hgf] at hnx
        repeat' first | simp (disch := first | with_reducible assumption | omega) only [go_sem, Bool.true_and, Bool.and_true, Bool.and_self, Bool.false_and, Bool.and_false, Bool.true_or, Bool.or_true, Bool.false_or, Bool.or_false, ↓reduceIte, Nat.reduceEqDiff, Nat.reduceAdd, Nat.reduceMul, Nat.reduceSub, Nat.reduceBEq, Nat.reduceLeDiff, Nat.reduceLT, Nat.reduceMod, Nat.reduceDiv, Int.reduceToNat, Int.reducePow, Int.reduceMul, Int.reduceAdd, Int.reduceSub, Int.reduceLE, Int.reduceLT, Int.reduceNeg, Int.reduceDiv, Int.reduceMod, Int.reduceEq, Int.reduceBEq, Int.reduceBNe, f8, f8b, f8r0, f8r1, f8r2, f8r3, f8r4, f8r5, f8r6, f8r7, f8r8, f8r9, f8r10, f8r11, f8r13, f8l0, hkw, get_old hkw, hkc, get_old hkc, e1, e2, hfl, htk, hni] | (refine BrW.of (fun hb => ?_) (fun hb => ?_) <;> (have hb' := hb; try simp only [decide_eq_true_eq, decide_eq_false_iff_not, beq_iff_eq, bne_iff_ne, beq_eq_false_iff_ne, bne_eq_false_iff_eq, Bool.not_eq_true', Bool.not_eq_false', Bool.not_eq_true, Bool.not_eq_false, Bool.and_eq_true, Bool.or_eq_true, Bool.and_eq_false_iff, Bool.or_eq_false_iff, Int.not_lt, Int.not_le, ne_eq, gt_iff_lt, ge_iff_le] at hb') <;> (try (exfalso; omega))) | (refine altW.of ?_ ?_)
        all_goals first | (exfalso; omega) | skip
        all_goals
          refine RdW.keep [2, 8, 10, 23, 24, 25] (wl.length - (i + 1)) (by omega) ?_
          simp (disch := first | with_reducible assumption | omega) only [go_sem, Bool.true_and, Bool.and_true, Bool.and_self, Bool.false_and, Bool.and_false, Bool.true_or, Bool.or_true, Bool.false_or, Bool.or_false, ↓reduceIte, Nat.reduceEqDiff, Nat.reduceAdd, Nat.reduceMul, Nat.reduceSub, Nat.reduceBEq, Nat.reduceLeDiff, Nat.reduceLT, Nat.reduceMod, Nat.reduceDiv, Int.reduceToNat, Int.reducePow, Int.reduceMul, Int.reduceAdd, Int.reduceSub, Int.reduceLE, Int.reduceLT, Int.reduceNeg, Int.reduceDiv, Int.reduceMod, Int.reduceEq, Int.reduceBEq, Int.reduceBNe]
          exact ⟨i + 1, g + 1, _, by rw [hnx, List.length_append]; rfl, by rw [hnx, ← flat'_app]; rfl, by omega, rfl⟩
      · rw [if_neg hs] at hgf
        rw [hgf] at hnx
        repeat' first | simp (disch := first | with_reducible assumption | omega) only [go_sem, Bool.true_and, Bool.and_true, Bool.and_self, Bool.false_and, Bool.and_false, Bool.true_or, Bool.or_true, Bool.false_or, Bool.or_false, ↓reduceIte, Nat.reduceEqDiff, Nat.reduceAdd, Nat.reduceMul, Nat.reduceSub, Nat.reduceBEq, Nat.reduceLeDiff, Nat.reduceLT, Nat.reduceMod, Nat.reduceDiv, Int.reduceToNat, Int.reducePow, Int.reduceMul, Int.reduceAdd, Int.reduceSub, Int.reduceLE, Int.reduceLT, Int.reduceNeg, Int.reduceDiv, Int.reduceMod, Int.reduceEq, Int.reduceBEq, Int.reduceBNe, f8, f8b, f8r0, f8r1, f8r2, f8r3, f8r4, f8r5, f8r6, f8r7, f8r8, f8r9, f8r10, f8r11, f8r13, f8l0, hkw, get_old hkw, hkc, get_old hkc, e1, e2, hfl, htk, hni] | (refine BrW.of (fun hb => ?_) (fun hb => ?_) <;> (have hb' := hb; try simp only [decide_eq_true_eq, decide_eq_false_iff_not, beq_iff_eq, bne_iff_ne, beq_eq_false_iff_ne, bne_eq_false_iff_eq, Bool.not_eq_true', Bool.not_eq_false', Bool.not_eq_true, Bool.not_eq_false, Bool.and_eq_true, Bool.or_eq_true, Bool.and_eq_false_iff, Bool.or_eq_false_iff, Int.not_lt, Int.not_le, ne_eq, gt_iff_lt, ge_iff_le] at hb') <;> (try (exfalso; omega))) | (refine altW.of ?_ ?_)
        all_goals first | (exfalso; omega) | skip
        all_goals
          refine RdW.keep [2, 8, 10, 23, 24, 25] (wl.length - (i + 1)) (by omega) ?_
          simp (disch := first | with_reducible assumption | omega) only [go_sem, Bool.true_and, Bool.and_true, Bool.and_self, Bool.false_and, Bool.and_false, Bool.true_or, Bool.or_true, Bool.false_or, Bool.or_false, ↓reduceIte, Nat.reduceEqDiff, Nat.reduceAdd, Nat.reduceMul, Nat.reduceSub, Nat.reduceBEq, Nat.reduceLeDiff, Nat.reduceLT, Nat.reduceMod, Nat.reduceDiv, Int.reduceToNat, Int.reducePow, Int.reduceMul, Int.reduceAdd, Int.reduceSub, Int.reduceLE, Int.reduceLT, Int.reduceNeg, Int.reduceDiv, Int.reduceMod, Int.reduceEq, Int.reduceBEq, Int.reduceBNe]
          exact ⟨i + 1, g + 1, _, by rw [hnx, List.length_append]; rfl, by rw [hnx, ← flat'_app]; rfl, by omega, rfl⟩
    · obtain rfl : i = wl.length := by omega
      repeat' first | simp (disch := first | with_reducible assumption | omega) only [go_sem, Bool.true_and, Bool.and_true, Bool.and_self, Bool.false_and, Bool.and_false, Bool.true_or, Bool.or_true, Bool.false_or, Bool.or_false, ↓reduceIte, Nat.reduceEqDiff, Nat.reduceAdd, Nat.reduceMul, Nat.reduceSub, Nat.reduceBEq, Nat.reduceLeDiff, Nat.reduceLT, Nat.reduceMod, Nat.reduceDiv, Int.reduceToNat, Int.reducePow, Int.reduceMul, Int.reduceAdd, Int.reduceSub, Int.reduceLE, Int.reduceLT, Int.reduceNeg, Int.reduceDiv, Int.reduceMod, Int.reduceEq, Int.reduceBEq, Int.reduceBNe, f8, f8b, f8r0, f8r1, f8r2, f8r3, f8r4, f8r5, f8r6, f8r7, f8r8, f8r9, f8r10, f8r11, f8r13, f8l0, f8, f8b, f8r0, f8r1, f8r2, f8r3, f8r4, f8r5, f8r6, f8r7, f8r8, f8r9, f8r10, f8r11, f8r13] | (refine BrW.of (fun hb => ?_) (fun hb => ?_) <;> (have hb' := hb; try simp only [decide_eq_true_eq, decide_eq_false_iff_not, beq_iff_eq, bne_iff_ne, beq_eq_false_iff_ne, bne_eq_false_iff_eq, Bool.not_eq_true', Bool.not_eq_false', Bool.not_eq_true, Bool.not_eq_false, Bool.and_eq_true, Bool.or_eq_true, Bool.and_eq_false_iff, Bool.or_eq_false_iff, Int.not_lt, Int.not_le, ne_eq, gt_iff_lt, ge_iff_le] at hb') <;> (try (exfalso; omega))) | (refine altW.of ?_ ?_)
      exact .here ⟨_, _, 0, rfl, rfl, ⟨fun _ => ⟨hlen, hok⟩, fun _ => rfl⟩, fun h => absurd rfl h, fun _ => ⟨num, den, hlv, _, g, by omega, rfl, by rw [get_new]; rfl⟩⟩
  · have hne : ¬ e = 0 := fun h => h0 (he.1 h)
    repeat' first | simp (disch := first | with_reducible assumption | omega) only [go_sem, Bool.true_and, Bool.and_true, Bool.and_self, Bool.false_and, Bool.and_false, Bool.true_or, Bool.or_true, Bool.false_or, Bool.or_false, ↓reduceIte, Nat.reduceEqDiff, Nat.reduceAdd, Nat.reduceMul, Nat.reduceSub, Nat.reduceBEq, Nat.reduceLeDiff, Nat.reduceLT, Nat.reduceMod, Nat.reduceDiv, Int.reduceToNat, Int.reducePow, Int.reduceMul, Int.reduceAdd, Int.reduceSub, Int.reduceLE, Int.reduceLT, Int.reduceNeg, Int.reduceDiv, Int.reduceMod, Int.reduceEq, Int.reduceBEq, Int.reduceBNe, f8, f8b, f8r0, f8r1, f8r2, f8r3, f8r4, f8r5, f8r6, f8r7, f8r8, f8r9, f8r10, f8r11, f8r13] | (refine BrW.of (fun hb => ?_) (fun hb => ?_) <;> (have hb' := hb; try simp only [decide_eq_true_eq, decide_eq_false_iff_not, beq_iff_eq, bne_iff_ne, beq_eq_false_iff_ne, bne_eq_false_iff_eq, Bool.not_eq_true', Bool.not_eq_false', Bool.not_eq_true, Bool.not_eq_false, Bool.and_eq_true, Bool.or_eq_true, Bool.and_eq_false_iff, Bool.or_eq_false_iff, Int.not_lt, Int.not_le, ne_eq, gt_iff_lt, ge_iff_le] at hb') <;> (try (exfalso; omega))) | (refine altW.of ?_ ?_)
    all_goals first | (exfalso; omega) | exact .here ⟨_, _, _, rfl, rfl, ⟨fun h => absurd h hne, fun h => absurd h h0⟩, fun _ => rfl, fun h => absurd h hne⟩
theorem Gets_spec (all : Int) (wl cl : List Int) (kw ow gw cw kc oc gc cc : Nat) (H : Heap) (hw : Ints H kw ow gw wl) (hc : Ints H kc oc gc cl) (hlw : wl.length ≤ 9223372036854775807) (hlc : cl.length ≤ 9223372036854775807) (hcw : wl.length ≤ cw) (hcc : cl.length ≤ cc) :
    ACallK Try.prog 8 [.int .i64 all, slv kw ow gw wl.length cw, slv kc oc gc cl.length cc] H (fun v H' => ∃ (X : Heap) (u : Value) (e : Int), H' = H ++ X ∧ v = .tuple #[u, .int .i64 e] ∧ (e = 0 ↔ okS all wl cl) ∧ (¬ e = 0 → u = .slice none 0 0) ∧ (e = 0 → ∃ num den, IsLev (W wl cl) all num den ∧ AtF H' u (gl (W wl cl) num den wl.length))) := by
  refine (Gets_new all wl cl kw ow gw cw kc oc gc cc H hw hc hlw hlc hcw hcc).mono ?_
  rintro v J ⟨X, u, e, h1, h2, h3, h4, h5⟩
  refine ⟨X, u, e, h1, h2, h3, h4, fun he => ?_⟩
  obtain ⟨num, den, h6, k, g, _, h7, h8⟩ := h5 he
  exact ⟨num, den, h6, k, g, h7, h8⟩
end Go.Proofs.Ytabjglejldapgaa
