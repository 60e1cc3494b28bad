import Derived.Test.YtgianafoiegdmaaSteps3
import Derived.Test.YtgianafoiegdmaaBase
set_option linter.unusedSimpArgs false
set_option linter.unusedVariables false
set_option maxHeartbeats 1000000
set_option maxRecDepth 20000
namespace Go.Proofs.Ytgianafoiegdmaa
open Go Go.Am
attribute [local irreducible] opsW Ww loopW callW drawW outW outDW gW cW BrW bothW vW resW DropW RdW dcallW Later.run

theorem u8_range {n : Int} (h : IntKind.u8.min ≤ n ∧ n ≤ IntKind.u8.max) : 0 ≤ n ∧ n ≤ 255 := h
theorem R.of {B : Nat} {H : Heap} (cs : List Value) (h : RowOk B H [.int .u8, .int .u8, .int .u8, .int .u8, .int .u8, .int .u8, .int .u8, .int .u8, .int .i64, .int .i64, .int .i64, .int .i64, .int .i64, .int .i64] cs) : ∃ r : R, cs = r.cells ∧ r.ok := by
  obtain ⟨_, _, rfl, c0, h⟩ := h.cons_inv
  obtain ⟨_, _, rfl, c1, h⟩ := h.cons_inv
  obtain ⟨_, _, rfl, c2, h⟩ := h.cons_inv
  obtain ⟨_, _, rfl, c3, h⟩ := h.cons_inv
  obtain ⟨_, _, rfl, c4, h⟩ := h.cons_inv
  obtain ⟨_, _, rfl, c5, h⟩ := h.cons_inv
  obtain ⟨_, _, rfl, c6, h⟩ := h.cons_inv
  obtain ⟨_, _, rfl, c7, h⟩ := h.cons_inv
  obtain ⟨_, _, rfl, c8, h⟩ := h.cons_inv
  obtain ⟨_, _, rfl, c9, h⟩ := h.cons_inv
  obtain ⟨_, _, rfl, c10, h⟩ := h.cons_inv
  obtain ⟨_, _, rfl, c11, h⟩ := h.cons_inv
  obtain ⟨_, _, rfl, c12, h⟩ := h.cons_inv
  obtain ⟨_, _, rfl, c13, h⟩ := h.cons_inv
  obtain rfl := h.nil_inv
  obtain ⟨n0, rfl, h0⟩ := c0.int_inv
  obtain ⟨n1, rfl, h1⟩ := c1.int_inv
  obtain ⟨n2, rfl, h2⟩ := c2.int_inv
  obtain ⟨n3, rfl, h3⟩ := c3.int_inv
  obtain ⟨n4, rfl, h4⟩ := c4.int_inv
  obtain ⟨n5, rfl, h5⟩ := c5.int_inv
  obtain ⟨n6, rfl, h6⟩ := c6.int_inv
  obtain ⟨n7, rfl, h7⟩ := c7.int_inv
  obtain ⟨n8, rfl, _⟩ := c8.int_inv
  obtain ⟨n9, rfl, _⟩ := c9.int_inv
  obtain ⟨n10, rfl, _⟩ := c10.int_inv
  obtain ⟨n11, rfl, _⟩ := c11.int_inv
  obtain ⟨n12, rfl, _⟩ := c12.int_inv
  obtain ⟨n13, rfl, _⟩ := c13.int_inv
  exact ⟨⟨⟨n0, n1, n2, n3⟩, ⟨n4, n5, n6, n7⟩, n8, n9, n10, n11, n12, n13⟩, rfl, ⟨u8_range h0, u8_range h1, u8_range h2, u8_range h3⟩, ⟨u8_range h4, u8_range h5, u8_range h6, u8_range h7⟩⟩
theorem D.of {B : Nat} {H : Heap} (cs : List Value) (h : RowOk B H [.int .u8, .int .u8, .int .u8, .int .u8, .int .u8, .int .u8, .int .u8, .int .u8, .int .i64, .int .i64, .int .i64, .int .i64, .int .i64] cs) : ∃ r : D, cs = r.cells ∧ r.ok := by
  obtain ⟨_, _, rfl, c0, h⟩ := h.cons_inv
  obtain ⟨_, _, rfl, c1, h⟩ := h.cons_inv
  obtain ⟨_, _, rfl, c2, h⟩ := h.cons_inv
  obtain ⟨_, _, rfl, c3, h⟩ := h.cons_inv
  obtain ⟨_, _, rfl, c4, h⟩ := h.cons_inv
  obtain ⟨_, _, rfl, c5, h⟩ := h.cons_inv
  obtain ⟨_, _, rfl, c6, h⟩ := h.cons_inv
  obtain ⟨_, _, rfl, c7, h⟩ := h.cons_inv
  obtain ⟨_, _, rfl, c8, h⟩ := h.cons_inv
  obtain ⟨_, _, rfl, c9, h⟩ := h.cons_inv
  obtain ⟨_, _, rfl, c10, h⟩ := h.cons_inv
  obtain ⟨_, _, rfl, c11, h⟩ := h.cons_inv
  obtain ⟨_, _, rfl, c12, h⟩ := h.cons_inv
  obtain rfl := h.nil_inv
  obtain ⟨n0, rfl, h0⟩ := c0.int_inv
  obtain ⟨n1, rfl, h1⟩ := c1.int_inv
  obtain ⟨n2, rfl, h2⟩ := c2.int_inv
  obtain ⟨n3, rfl, h3⟩ := c3.int_inv
  obtain ⟨n4, rfl, h4⟩ := c4.int_inv
  obtain ⟨n5, rfl, h5⟩ := c5.int_inv
  obtain ⟨n6, rfl, h6⟩ := c6.int_inv
  obtain ⟨n7, rfl, h7⟩ := c7.int_inv
  obtain ⟨n8, rfl, _⟩ := c8.int_inv
  obtain ⟨n9, rfl, _⟩ := c9.int_inv
  obtain ⟨n10, rfl, _⟩ := c10.int_inv
  obtain ⟨n11, rfl, _⟩ := c11.int_inv
  obtain ⟨n12, rfl, _⟩ := c12.int_inv
  exact ⟨⟨⟨n0, n1, n2, n3⟩, ⟨n4, n5, n6, n7⟩, n8, n9, n10, n11, n12⟩, rfl, ⟨u8_range h0, u8_range h1, u8_range h2, u8_range h3⟩, ⟨u8_range h4, u8_range h5, u8_range h6, u8_range h7⟩⟩

theorem RulesPruned_args (H : Heap) (vals : List Value) (h : ArgsOk maxLen H RulesPrunedSh vals) : ACallK Try.prog 5 vals H fun v _ => v = .bool true := by
  obtain ⟨_, _, rfl, a1, h⟩ := h.cons
  obtain ⟨_, _, rfl, a2, h⟩ := h.cons
  obtain rfl := h.nil
  obtain ⟨k, c, l, rfl, hB, hlc, hs, hok⟩ := rows_of (enc := R.cells) (ok := R.ok) 14 (fun _ => rfl) r0 rfl (fun cs h => R.of cs h) a1
  obtain ⟨cs, rfl, hr⟩ := a2.agg
  obtain ⟨d, rfl, hd⟩ := D.of cs hr
  clear a1 a2 h hr
  have hB' : l.length ≤ 9223372036854775807 := hB
  refine .walkW f5_ok (by simp; decide) (by decide) ?_
  have sc : ∀ H', Rs H' k 0 0 l → ACallK Try.prog 10 [slv k 0 0 l.length c, d.val] H' _ := fun H' hs' => Class_spec l d k 0 0 c H' hs' hB' hok hd
  cases hw : wrong l with
  | true =>
    have sp := fun H' hs' => Prune_bad l k 0 0 c H' hs' hB' hw
    repeat' first | simp (disch := first | with_reducible assumption | omega) only [go_sem, Bool.true_and, Bool.and_true, Bool.and_self, Bool.false_and, Bool.and_false, Bool.true_or, Bool.or_true, Bool.false_or, Bool.or_false, ↓reduceIte, Nat.reduceEqDiff, Nat.reduceAdd, Nat.reduceMul, Nat.reduceSub, Nat.reduceBEq, Nat.reduceLeDiff, Nat.reduceLT, Nat.reduceMod, Nat.reduceDiv, Int.reduceToNat, Int.reducePow, Int.reduceMul, Int.reduceAdd, Int.reduceSub, Int.reduceLE, Int.reduceLT, Int.reduceNeg, Int.reduceDiv, Int.reduceMod, Int.reduceEq, Int.reduceBEq, Int.reduceBNe, f5, f5b, f5r0, f5r1, f5r2, f5r3, f5r4, f5r5, f5r6, f5r7, f5r8, f5r9, D.cells] | (refine BrW.of (fun hb => ?_) (fun hb => ?_) <;> (have hb' := hb; try simp only [decide_eq_true_eq, decide_eq_false_iff_not, beq_iff_eq, bne_iff_ne, beq_eq_false_iff_ne, bne_eq_false_iff_eq, Bool.not_eq_true', Bool.not_eq_false', Bool.not_eq_true, Bool.not_eq_false, Bool.and_eq_true, Bool.or_eq_true, Bool.and_eq_false_iff, Bool.or_eq_false_iff, Int.not_lt, Int.not_le, ne_eq, gt_iff_lt, ge_iff_le] at hb') <;> (try (exfalso; omega))) | (refine .of ((alive _).mono ?_); rintro v _ ⟨rfl, rfl⟩) | (refine .of ((sp _ (hs.app _)).mono ?_); rintro v _ ⟨rfl, rfl⟩)
    exact .here rfl
  | false =>
    have sp := fun H' hs' => Prune_spec l k 0 0 c H' hs' hw hok
    have hpw := prune_wrong hw
    have hpp := prune_prune l
    have hpc := prune_cls hw d
    obtain ⟨hsub, hple⟩ := prune_sub l
    have hpo : ∀ j, j < (prune l).length → ((prune l).getD j r0).ok := fun j hj => by
      have hm : (prune l).getD j r0 ∈ prune l := by rw [List.getD_eq_getElem?_getD, List.getElem?_eq_getElem hj]; exact List.getElem_mem hj
      obtain ⟨q, hq, e⟩ := List.getElem_of_mem (hsub _ hm)
      have := hok q hq
      rw [List.getD_eq_getElem?_getD, List.getElem?_eq_getElem hq] at this
      rw [← e]; exact this
    generalize prune l = P at *
    obtain ⟨ro, cs, hk, hcl, hcs⟩ := hs.at'
    have sp2 := fun H' q g hs' => Prune_spec P q 0 g P.length H' hs' hpw hpo
    have sc2 := fun H' q g hs' => Class_spec P d q 0 g P.length H' hs' (by omega) hpo hd
    rw [hpp] at sp2
    rw [hpc] at sc2
    have tn : ∀ (J : Heap) q g, J[q]? = some (.cells g 14 false (flat' R.cells P)) → Rs J q 0 g P := fun J q g h => Tbl.new (enc := R.cells) (s := 14) (d := r0) (fun _ => rfl) _ _ _ false _ h
    have sE := fun J q1 g1 q2 g2 h1 h2 => EqualR_spec P P q1 0 g1 P.length q2 0 g2 P.length J (tn J q1 g1 h1) (tn J q2 g2 h2) (by omega) (by omega) same_R
    simp only [decide_true] at sE
    repeat' first | simp (disch := first | with_reducible assumption | omega) only [go_sem, Bool.true_and, Bool.and_true, Bool.and_self, Bool.false_and, Bool.and_false, Bool.true_or, Bool.or_true, Bool.false_or, Bool.or_false, ↓reduceIte, Nat.reduceEqDiff, Nat.reduceAdd, Nat.reduceMul, Nat.reduceSub, Nat.reduceBEq, Nat.reduceLeDiff, Nat.reduceLT, Nat.reduceMod, Nat.reduceDiv, Int.reduceToNat, Int.reducePow, Int.reduceMul, Int.reduceAdd, Int.reduceSub, Int.reduceLE, Int.reduceLT, Int.reduceNeg, Int.reduceDiv, Int.reduceMod, Int.reduceEq, Int.reduceBEq, Int.reduceBNe, f5, f5b, f5r0, f5r1, f5r2, f5r3, f5r4, f5r5, f5r6, f5r7, f5r8, f5r9, D.cells, hk, get_old hk] | (refine BrW.of (fun hb => ?_) (fun hb => ?_) <;> (have hb' := hb; try simp only [decide_eq_true_eq, decide_eq_false_iff_not, beq_iff_eq, bne_iff_ne, beq_eq_false_iff_ne, bne_eq_false_iff_eq, Bool.not_eq_true', Bool.not_eq_false', Bool.not_eq_true, Bool.not_eq_false, Bool.and_eq_true, Bool.or_eq_true, Bool.and_eq_false_iff, Bool.or_eq_false_iff, Int.not_lt, Int.not_le, ne_eq, gt_iff_lt, ge_iff_le] at hb') <;> (try (exfalso; omega))) | (refine .of ((alive _).mono ?_); rintro v H ⟨rfl, rfl⟩) | (refine .of ((sp _ (hs.app _)).mono ?_); rintro v _ ⟨g1, rfl, rfl⟩) | (refine .of ((sp2 _ (H.length + 1) g1 (tn _ _ _ (by rw [get_new]; rfl))).mono ?_); rintro v _ ⟨g2, rfl, rfl⟩) | (refine .of ((sc _ (hs.app _)).mono ?_); rintro v _ ⟨rfl, rfl⟩) | (refine .of ((sc2 _ (H.length + 1) g1 (tn _ _ _ (by rw [get_new]; rfl))).mono ?_); rintro v _ ⟨rfl, rfl⟩) | (refine .of ((sE _ (H.length + 1) g1 (H.length + 2) g2 (by rw [get_new]; rfl) (by rw [get_new]; rfl)).mono ?_); rintro v _ ⟨rfl, rfl⟩)
    exact .here (by (first | with_reducible rfl | (congr 1; first | with_reducible rfl | omega | (rw [Bool.eq_iff_iff]; simp only [decide_eq_true_eq, decide_eq_false_iff_not, beq_iff_eq, bne_iff_ne, beq_eq_false_iff_ne, bne_eq_false_iff_eq, Bool.not_eq_true', Bool.not_eq_false', Bool.not_eq_true, Bool.not_eq_false, Bool.and_eq_true, Bool.or_eq_true, Bool.and_eq_false_iff, Bool.or_eq_false_iff, Int.not_lt, Int.not_le, ne_eq, gt_iff_lt, ge_iff_le, Bool.and_false, Bool.false_and, Bool.or_true, Bool.true_or, Bool.false_eq_true, true_iff, iff_true, false_iff, iff_false, eq_self, not_true_eq_false, not_false_eq_true]; try omega))))

/-- A last rule that fits all. -/
def lastR (cl : Int) : R := ⟨⟨0, 0, 0, 0⟩, ⟨0, 0, 0, 0⟩, 0, 0, 0, 0, 65535, cl⟩
theorem lastR_fits (cl : Int) (d : D) (h : 0 ≤ d.dp ∧ d.dp ≤ 65535) : fits (lastR cl) d = true := by
  simp only [fits, lastR, decide_eq_true_eq]
  exact ⟨within.zero _ _, within.zero _ _, .inl trivial, h.1, h.2⟩
theorem append_get {α : Type} (l : List α) (x d : α) (i : Nat) : (l ++ [x]).getD i d = if i < l.length then l.getD i d else if i = l.length then x else d := by
  simp only [List.getD_eq_getElem?_getD]
  by_cases h : i < l.length
  · rw [if_pos h, List.getElem?_append_left h]
  · rw [if_neg h, List.getElem?_append_right (by omega)]
    by_cases h2 : i = l.length
    · rw [if_pos h2, h2, Nat.sub_self]; rfl
    · rw [if_neg h2]
      cases hn : i - l.length with
      | zero => omega
      | succ n => rfl

theorem RulesAll_args (H : Heap) (vals : List Value) (h : ArgsOk 1048576 H RulesAllSh vals) : ACallK Try.prog 4 vals H fun v _ => v = .bool true := by
  obtain ⟨_, _, rfl, a1, h⟩ := h.cons
  obtain ⟨_, _, rfl, a2, h⟩ := h.cons
  obtain ⟨_, _, rfl, a3, h⟩ := h.cons
  obtain rfl := h.nil
  obtain ⟨k, c, l, rfl, hB, hlc, hs, hok⟩ := rows_of (enc := R.cells) (ok := R.ok) 14 (fun _ => rfl) r0 rfl (fun cs h => R.of cs h) a1
  obtain ⟨cs, rfl, hr⟩ := a2.agg
  obtain ⟨d, rfl, hd⟩ := D.of cs hr
  obtain ⟨cl, rfl, _⟩ := a3.cell.int_inv
  clear a1 a2 a3 h hr
  have hB' : l.length ≤ 9223372036854775807 := by omega
  have sc := fun H' (hs' : Rs H' k 0 0 l) => Class_spec l d k 0 0 c H' hs' hB' hok hd
  have hmo : ∀ i, i < (l ++ [lastR cl]).length → ((l ++ [lastR cl]).getD i r0).ok := fun i hi => by
    rw [append_get]
    split
    · rename_i h; exact hok i h
    · split
      · simp [R.ok, A.ok, lastR]
      · simp [R.ok, A.ok, r0]
  have sw2 := fun H' q g c' (hs' : Rs H' q 0 g (l ++ [lastR cl])) => Wrong_spec (l ++ [lastR cl]) q 0 g c' H' hs' (by simp; omega)
  have sc2 := fun H' q g c' (hs' : Rs H' q 0 g (l ++ [lastR cl])) => Class_spec (l ++ [lastR cl]) d q 0 g c' H' hs' (by simp; omega) hmo hd
  have tn : ∀ (J : Heap) q g, J[q]? = some (.cells g 14 false (flat' R.cells (l ++ [lastR cl]))) → Rs J q 0 g (l ++ [lastR cl]) := fun J q g h => Tbl.new (enc := R.cells) (s := 14) (d := r0) (fun _ => rfl) _ _ _ false _ h
  have hll : (l ++ [lastR cl]).length = l.length + 1 := by simp
  rw [hll] at sw2 sc2
  have hni : ¬ l.length + 1 ≤ l.length := by omega
  have htk : (flat' R.cells l).take (l.length * 14) = flat' R.cells l := List.take_of_length_le (by rw [flat'_length (s := 14) (fun _ => rfl)]; omega)
  have hfl := flat'_length (enc := R.cells) (s := 14) (fun _ => rfl) l
  have hap : flat' R.cells l ++ [.int .u8 0, .int .u8 0, .int .u8 0, .int .u8 0, .int .u8 0, .int .u8 0, .int .u8 0, .int .u8 0, .int .i64 0, .int .i64 0, .int .i64 0, .int .i64 0, .int .i64 65535, .int .i64 cl] = flat' R.cells (l ++ [lastR cl]) := by rw [← flat'_app]; rfl
  refine .walkW f4_ok (by simp; decide) (by decide) ?_
  cases hw : wrong (l ++ [lastR cl]) with
  | true =>
    rw [hw] at sw2
    repeat' first | simp (disch := first | with_reducible assumption | omega) only [go_sem, Bool.true_and, Bool.and_true, Bool.and_self, Bool.false_and, Bool.and_false, Bool.true_or, Bool.or_true, Bool.false_or, Bool.or_false, ↓reduceIte, Nat.reduceEqDiff, Nat.reduceAdd, Nat.reduceMul, Nat.reduceSub, Nat.reduceBEq, Nat.reduceLeDiff, Nat.reduceLT, Nat.reduceMod, Nat.reduceDiv, Int.reduceToNat, Int.reducePow, Int.reduceMul, Int.reduceAdd, Int.reduceSub, Int.reduceLE, Int.reduceLT, Int.reduceNeg, Int.reduceDiv, Int.reduceMod, Int.reduceEq, Int.reduceBEq, Int.reduceBNe, f4, f4b, f4r0, f4r1, f4r2, f4r3, f4r4, f4r5, f4r6, f4r7, f4r8, D.cells, hni, htk, hfl, hap] | (refine BrW.of (fun hb => ?_) (fun hb => ?_) <;> (have hb' := hb; try simp only [decide_eq_true_eq, decide_eq_false_iff_not, beq_iff_eq, bne_iff_ne, beq_eq_false_iff_ne, bne_eq_false_iff_eq, Bool.not_eq_true', Bool.not_eq_false', Bool.not_eq_true, Bool.not_eq_false, Bool.and_eq_true, Bool.or_eq_true, Bool.and_eq_false_iff, Bool.or_eq_false_iff, Int.not_lt, Int.not_le, ne_eq, gt_iff_lt, ge_iff_le] at hb') <;> (try (exfalso; omega))) | (refine .of ((alive _).mono ?_); rintro v H ⟨rfl, rfl⟩) | (refine .of ((CloneR_spec l k 0 0 c _ (hs.app _) (by omega) hlc).mono ?_); rintro v _ ⟨g1, rfl, rfl⟩) | (refine .of ((sw2 _ (H.length + 1) (g1 + 1) _ (tn _ _ _ (by rw [get_new]; rfl))).mono ?_); rintro v _ ⟨rfl, rfl⟩)
    all_goals exact .here rfl
  | false =>
    rw [hw] at sw2
    by_cases hp : 0 ≤ d.dp ∧ d.dp ≤ 65535
    · have hwl := wrong_app hw
      have hf := lastR_fits cl d hp
      have hfa := first_app l [lastR cl] d
      have h1 : first [lastR cl] d = some (lastR cl) := by unfold first; simp [hf]
      rw [h1] at hfa
      cases hfl' : first l d with
      | none =>
        have e1 : cls l d = (0, 3) := by unfold cls; rw [hwl, hfl']; rfl
        have e2 : cls (l ++ [lastR cl]) d = (cl, 0) := by unfold cls; rw [hw, hfa, hfl']; rfl
        rw [e1] at sc
        rw [e2] at sc2
        repeat' first | simp (disch := first | with_reducible assumption | omega) only [go_sem, Bool.true_and, Bool.and_true, Bool.and_self, Bool.false_and, Bool.and_false, Bool.true_or, Bool.or_true, Bool.false_or, Bool.or_false, ↓reduceIte, Nat.reduceEqDiff, Nat.reduceAdd, Nat.reduceMul, Nat.reduceSub, Nat.reduceBEq, Nat.reduceLeDiff, Nat.reduceLT, Nat.reduceMod, Nat.reduceDiv, Int.reduceToNat, Int.reducePow, Int.reduceMul, Int.reduceAdd, Int.reduceSub, Int.reduceLE, Int.reduceLT, Int.reduceNeg, Int.reduceDiv, Int.reduceMod, Int.reduceEq, Int.reduceBEq, Int.reduceBNe, f4, f4b, f4r0, f4r1, f4r2, f4r3, f4r4, f4r5, f4r6, f4r7, f4r8, D.cells, hni, htk, hfl, hap] | (refine BrW.of (fun hb => ?_) (fun hb => ?_) <;> (have hb' := hb; try simp only [decide_eq_true_eq, decide_eq_false_iff_not, beq_iff_eq, bne_iff_ne, beq_eq_false_iff_ne, bne_eq_false_iff_eq, Bool.not_eq_true', Bool.not_eq_false', Bool.not_eq_true, Bool.not_eq_false, Bool.and_eq_true, Bool.or_eq_true, Bool.and_eq_false_iff, Bool.or_eq_false_iff, Int.not_lt, Int.not_le, ne_eq, gt_iff_lt, ge_iff_le] at hb') <;> (try (exfalso; omega))) | (refine .of ((alive _).mono ?_); rintro v H ⟨rfl, rfl⟩) | (refine .of ((CloneR_spec l k 0 0 c _ (hs.app _) (by omega) hlc).mono ?_); rintro v _ ⟨g1, rfl, rfl⟩) | (refine .of ((sw2 _ (H.length + 1) (g1 + 1) _ (tn _ _ _ (by rw [get_new]; rfl))).mono ?_); rintro v _ ⟨rfl, rfl⟩) | (refine .of ((sc2 _ (H.length + 1) (g1 + 1) _ (tn _ _ _ (by rw [get_new]; rfl))).mono ?_); rintro v _ ⟨rfl, rfl⟩) | (refine .of ((sc _ (hs.app _)).mono ?_); rintro v _ ⟨rfl, rfl⟩)
        all_goals exact .here (by (first | with_reducible rfl | (congr 1; first | with_reducible rfl | omega | (rw [Bool.eq_iff_iff]; simp only [decide_eq_true_eq, decide_eq_false_iff_not, beq_iff_eq, bne_iff_ne, beq_eq_false_iff_ne, bne_eq_false_iff_eq, Bool.not_eq_true', Bool.not_eq_false', Bool.not_eq_true, Bool.not_eq_false, Bool.and_eq_true, Bool.or_eq_true, Bool.and_eq_false_iff, Bool.or_eq_false_iff, Int.not_lt, Int.not_le, ne_eq, gt_iff_lt, ge_iff_le, Bool.and_false, Bool.false_and, Bool.or_true, Bool.true_or, Bool.false_eq_true, true_iff, iff_true, false_iff, iff_false, eq_self, not_true_eq_false, not_false_eq_true]; try omega))))
      | some r =>
        have e1 : cls l d = (r.cl, 0) := by unfold cls; rw [hwl, hfl']; rfl
        have e2 : cls (l ++ [lastR cl]) d = (r.cl, 0) := by unfold cls; rw [hw, hfa, hfl']; rfl
        rw [e1] at sc
        rw [e2] at sc2
        repeat' first | simp (disch := first | with_reducible assumption | omega) only [go_sem, Bool.true_and, Bool.and_true, Bool.and_self, Bool.false_and, Bool.and_false, Bool.true_or, Bool.or_true, Bool.false_or, Bool.or_false, ↓reduceIte, Nat.reduceEqDiff, Nat.reduceAdd, Nat.reduceMul, Nat.reduceSub, Nat.reduceBEq, Nat.reduceLeDiff, Nat.reduceLT, Nat.reduceMod, Nat.reduceDiv, Int.reduceToNat, Int.reducePow, Int.reduceMul, Int.reduceAdd, Int.reduceSub, Int.reduceLE, Int.reduceLT, Int.reduceNeg, Int.reduceDiv, Int.reduceMod, Int.reduceEq, Int.reduceBEq, Int.reduceBNe, f4, f4b, f4r0, f4r1, f4r2, f4r3, f4r4, f4r5, f4r6, f4r7, f4r8, D.cells, hni, htk, hfl, hap] | (refine BrW.of (fun hb => ?_) (fun hb => ?_) <;> (have hb' := hb; try simp only [decide_eq_true_eq, decide_eq_false_iff_not, beq_iff_eq, bne_iff_ne, beq_eq_false_iff_ne, bne_eq_false_iff_eq, Bool.not_eq_true', Bool.not_eq_false', Bool.not_eq_true, Bool.not_eq_false, Bool.and_eq_true, Bool.or_eq_true, Bool.and_eq_false_iff, Bool.or_eq_false_iff, Int.not_lt, Int.not_le, ne_eq, gt_iff_lt, ge_iff_le] at hb') <;> (try (exfalso; omega))) | (refine .of ((alive _).mono ?_); rintro v H ⟨rfl, rfl⟩) | (refine .of ((CloneR_spec l k 0 0 c _ (hs.app _) (by omega) hlc).mono ?_); rintro v _ ⟨g1, rfl, rfl⟩) | (refine .of ((sw2 _ (H.length + 1) (g1 + 1) _ (tn _ _ _ (by rw [get_new]; rfl))).mono ?_); rintro v _ ⟨rfl, rfl⟩) | (refine .of ((sc2 _ (H.length + 1) (g1 + 1) _ (tn _ _ _ (by rw [get_new]; rfl))).mono ?_); rintro v _ ⟨rfl, rfl⟩) | (refine .of ((sc _ (hs.app _)).mono ?_); rintro v _ ⟨rfl, rfl⟩)
        all_goals exact .here (by (first | with_reducible rfl | (congr 1; first | with_reducible rfl | omega | (rw [Bool.eq_iff_iff]; simp only [decide_eq_true_eq, decide_eq_false_iff_not, beq_iff_eq, bne_iff_ne, beq_eq_false_iff_ne, bne_eq_false_iff_eq, Bool.not_eq_true', Bool.not_eq_false', Bool.not_eq_true, Bool.not_eq_false, Bool.and_eq_true, Bool.or_eq_true, Bool.and_eq_false_iff, Bool.or_eq_false_iff, Int.not_lt, Int.not_le, ne_eq, gt_iff_lt, ge_iff_le, Bool.and_false, Bool.false_and, Bool.or_true, Bool.true_or, Bool.false_eq_true, true_iff, iff_true, false_iff, iff_false, eq_self, not_true_eq_false, not_false_eq_true]; try omega))))
    · by_cases hp0 : 0 ≤ d.dp
      · have hp1 : 65535 < d.dp := by omega
        clear hp
        repeat' first | simp (disch := first | with_reducible assumption | omega) only [go_sem, Bool.true_and, Bool.and_true, Bool.and_self, Bool.false_and, Bool.and_false, Bool.true_or, Bool.or_true, Bool.false_or, Bool.or_false, ↓reduceIte, Nat.reduceEqDiff, Nat.reduceAdd, Nat.reduceMul, Nat.reduceSub, Nat.reduceBEq, Nat.reduceLeDiff, Nat.reduceLT, Nat.reduceMod, Nat.reduceDiv, Int.reduceToNat, Int.reducePow, Int.reduceMul, Int.reduceAdd, Int.reduceSub, Int.reduceLE, Int.reduceLT, Int.reduceNeg, Int.reduceDiv, Int.reduceMod, Int.reduceEq, Int.reduceBEq, Int.reduceBNe, f4, f4b, f4r0, f4r1, f4r2, f4r3, f4r4, f4r5, f4r6, f4r7, f4r8, D.cells, hni, htk, hfl, hap] | (refine BrW.of (fun hb => ?_) (fun hb => ?_) <;> (have hb' := hb; try simp only [decide_eq_true_eq, decide_eq_false_iff_not, beq_iff_eq, bne_iff_ne, beq_eq_false_iff_ne, bne_eq_false_iff_eq, Bool.not_eq_true', Bool.not_eq_false', Bool.not_eq_true, Bool.not_eq_false, Bool.and_eq_true, Bool.or_eq_true, Bool.and_eq_false_iff, Bool.or_eq_false_iff, Int.not_lt, Int.not_le, ne_eq, gt_iff_lt, ge_iff_le] at hb') <;> (try (exfalso; omega))) | (refine .of ((alive _).mono ?_); rintro v H ⟨rfl, rfl⟩) | (refine .of ((CloneR_spec l k 0 0 c _ (hs.app _) (by omega) hlc).mono ?_); rintro v _ ⟨g1, rfl, rfl⟩) | (refine .of ((sw2 _ (H.length + 1) (g1 + 1) _ (tn _ _ _ (by rw [get_new]; rfl))).mono ?_); rintro v _ ⟨rfl, rfl⟩)
        all_goals exact .here rfl
      · clear hp
        repeat' first | simp (disch := first | with_reducible assumption | omega) only [go_sem, Bool.true_and, Bool.and_true, Bool.and_self, Bool.false_and, Bool.and_false, Bool.true_or, Bool.or_true, Bool.false_or, Bool.or_false, ↓reduceIte, Nat.reduceEqDiff, Nat.reduceAdd, Nat.reduceMul, Nat.reduceSub, Nat.reduceBEq, Nat.reduceLeDiff, Nat.reduceLT, Nat.reduceMod, Nat.reduceDiv, Int.reduceToNat, Int.reducePow, Int.reduceMul, Int.reduceAdd, Int.reduceSub, Int.reduceLE, Int.reduceLT, Int.reduceNeg, Int.reduceDiv, Int.reduceMod, Int.reduceEq, Int.reduceBEq, Int.reduceBNe, f4, f4b, f4r0, f4r1, f4r2, f4r3, f4r4, f4r5, f4r6, f4r7, f4r8, D.cells, hni, htk, hfl, hap] | (refine BrW.of (fun hb => ?_) (fun hb => ?_) <;> (have hb' := hb; try simp only [decide_eq_true_eq, decide_eq_false_iff_not, beq_iff_eq, bne_iff_ne, beq_eq_false_iff_ne, bne_eq_false_iff_eq, Bool.not_eq_true', Bool.not_eq_false', Bool.not_eq_true, Bool.not_eq_false, Bool.and_eq_true, Bool.or_eq_true, Bool.and_eq_false_iff, Bool.or_eq_false_iff, Int.not_lt, Int.not_le, ne_eq, gt_iff_lt, ge_iff_le] at hb') <;> (try (exfalso; omega))) | (refine .of ((alive _).mono ?_); rintro v H ⟨rfl, rfl⟩) | (refine .of ((CloneR_spec l k 0 0 c _ (hs.app _) (by omega) hlc).mono ?_); rintro v _ ⟨g1, rfl, rfl⟩) | (refine .of ((sw2 _ (H.length + 1) (g1 + 1) _ (tn _ _ _ (by rw [get_new]; rfl))).mono ?_); rintro v _ ⟨rfl, rfl⟩)
        all_goals exact .here rfl

theorem RulesSwap_args (H : Heap) (vals : List Value) (h : ArgsOk 1048576 H RulesSwapSh vals) : ACallK Try.prog 3 vals H fun v _ => v = .bool true := by
  obtain ⟨_, _, rfl, a1, h⟩ := h.cons
  obtain ⟨_, _, rfl, a2, h⟩ := h.cons
  obtain ⟨_, _, rfl, a3, h⟩ := h.cons
  obtain rfl := h.nil
  obtain ⟨k, c, l, rfl, hB, hlc, hs, hok⟩ := rows_of (enc := R.cells) (ok := R.ok) 14 (fun _ => rfl) r0 rfl (fun cs h => R.of cs h) a1
  obtain ⟨K, rfl, _⟩ := a2.cell.int_inv
  obtain ⟨cs, rfl, hr⟩ := a3.agg
  obtain ⟨d, rfl, hd⟩ := D.of cs hr
  clear a1 a2 a3 h hr
  have hB' : l.length ≤ 9223372036854775807 := by omega
  refine .walkW f3_ok (by simp; decide) (by decide) ?_
  by_cases hK : 0 ≤ K ∧ K + 1 < l.length
  · obtain ⟨hK0, hK1⟩ := hK
    obtain ⟨i, rfl⟩ := Int.eq_ofNat_of_zero_le hK0
    obtain ⟨ro, cs, hk, hcl, hcs⟩ := hs.at'
    have hi : i + 1 < l.length := by omega
    have f1 := Tbl.ld (enc := R.cells) (fun _ => rfl) hcs i (by omega)
    have f2 := Tbl.ld (enc := R.cells) (fun _ => rfl) hcs (i + 1) (by omega)
    simp only [Nat.zero_add] at f1 f2
    have hts : ((i : Int) + 1).toNat = i + 1 := by omega
    have sf1 := fun H' => Fits_spec (l.getD i r0) d H' (hok i (by omega)) hd
    have sf2 := fun H' => Fits_spec (l.getD (i + 1) r0) d H' (hok (i + 1) (by omega)) hd
    by_cases hb : fits (l.getD i r0) d = true ∧ fits (l.getD (i + 1) r0) d = true
    · rw [hb.1] at sf1
      rw [hb.2] at sf2
      clear hb
      repeat' first | simp (disch := first | with_reducible assumption | omega) only [go_sem, Bool.true_and, Bool.and_true, Bool.and_self, Bool.false_and, Bool.and_false, Bool.true_or, Bool.or_true, Bool.false_or, Bool.or_false, ↓reduceIte, Nat.reduceEqDiff, Nat.reduceAdd, Nat.reduceMul, Nat.reduceSub, Nat.reduceBEq, Nat.reduceLeDiff, Nat.reduceLT, Nat.reduceMod, Nat.reduceDiv, Int.reduceToNat, Int.reducePow, Int.reduceMul, Int.reduceAdd, Int.reduceSub, Int.reduceLE, Int.reduceLT, Int.reduceNeg, Int.reduceDiv, Int.reduceMod, Int.reduceEq, Int.reduceBEq, Int.reduceBNe, f3, f3b, f3r0, f3r1, f3r2, f3r3, f3r4, f3r5, f3r6, f3r7, f3r8, f3r9, D.cells, hk, get_old hk, ↓f1, ↓f2, hts] | (refine BrW.of (fun hb => ?_) (fun hb => ?_) <;> (have hb' := hb; try simp only [decide_eq_true_eq, decide_eq_false_iff_not, beq_iff_eq, bne_iff_ne, beq_eq_false_iff_ne, bne_eq_false_iff_eq, Bool.not_eq_true', Bool.not_eq_false', Bool.not_eq_true, Bool.not_eq_false, Bool.and_eq_true, Bool.or_eq_true, Bool.and_eq_false_iff, Bool.or_eq_false_iff, Int.not_lt, Int.not_le, ne_eq, gt_iff_lt, ge_iff_le] at hb') <;> (try (exfalso; omega))) | (refine .of ((alive _).mono ?_); rintro v H ⟨rfl, rfl⟩) | (refine .of ((sf1 _).mono ?_); rintro v _ ⟨rfl, rfl⟩) | (refine .of ((sf2 _).mono ?_); rintro v _ ⟨rfl, rfl⟩) | (refine dcallW.of _ _ (sf1 _) ?_) | (refine dcallW.of _ _ (sf2 _) ?_)
      all_goals exact .here rfl
    · obtain ⟨p, q, e1, e2⟩ := swap_split r0 l i hi
      have hcls := cls_swap p q (l.getD i r0) (l.getD (i + 1) r0) d hb
      rw [← e1, ← e2] at hcls
      have hmem : ∀ r ∈ (l.set i (l.getD (i + 1) r0)).set (i + 1) (l.getD i r0), r.ok := by
        intro r hr
        rcases List.mem_or_eq_of_mem_set hr with hr | rfl
        · rcases List.mem_or_eq_of_mem_set hr with hr | rfl
          · obtain ⟨j, hj, rfl⟩ := mem_getD (d := r0) hr
            exact hok j hj
          · exact hok _ (by omega)
        · exact hok _ (by omega)
      have hml : ((l.set i (l.getD (i + 1) r0)).set (i + 1) (l.getD i r0)).length = l.length := by simp
      have g1 := flat'_ld (enc := R.cells) (s := 14) (fun _ => rfl) r0 l i (by omega)
      have g2 := flat'_ld (enc := R.cells) (s := 14) (fun _ => rfl) r0 l (i + 1) (by omega)
      have w1 := flat'_wr (enc := R.cells) (s := 14) (fun _ => rfl) (l.getD (i + 1) r0) l i (by omega)
      have w2 := flat'_wr (enc := R.cells) (s := 14) (fun _ => rfl) (l.getD i r0) (l.set i (l.getD (i + 1) r0)) (i + 1) (by simp; omega)
      have hfl := flat'_length (enc := R.cells) (s := 14) (fun _ => rfl) l
      have hfl2 := flat'_length (enc := R.cells) (s := 14) (fun _ => rfl) (l.set i (l.getD (i + 1) r0))
      have sc := fun H' (hs' : Rs H' k 0 0 l) => Class_spec l d k 0 0 c H' hs' hB' hok hd
      have sc2 := fun H' q g c' hs' => Class_spec ((l.set i (l.getD (i + 1) r0)).set (i + 1) (l.getD i r0)) d q 0 g c' H' hs' (by omega) (fun j hj => hmem _ (getD_mem hj)) hd
      rw [hcls, hml] at sc2
      rw [List.length_set] at hfl2
      generalize (l.set i (l.getD (i + 1) r0)).set (i + 1) (l.getD i r0) = M at *
      have tn : ∀ (J : Heap) q g, J[q]? = some (.cells g 14 false (flat' R.cells M)) → Rs J q 0 g M := fun J q g h => Tbl.new (enc := R.cells) (s := 14) (d := r0) (fun _ => rfl) _ _ _ false _ h
      cases hx : fits (l.getD i r0) d with
      | true =>
        have hy : fits (l.getD (i + 1) r0) d = false := by cases hy : fits (l.getD (i + 1) r0) d with | false => rfl | true => exact (hb ⟨hx, hy⟩).elim
        rw [hx] at sf1
        rw [hy] at sf2
        clear hb
        repeat' first | simp (disch := first | with_reducible assumption | omega) only [go_sem, Bool.true_and, Bool.and_true, Bool.and_self, Bool.false_and, Bool.and_false, Bool.true_or, Bool.or_true, Bool.false_or, Bool.or_false, ↓reduceIte, Nat.reduceEqDiff, Nat.reduceAdd, Nat.reduceMul, Nat.reduceSub, Nat.reduceBEq, Nat.reduceLeDiff, Nat.reduceLT, Nat.reduceMod, Nat.reduceDiv, Int.reduceToNat, Int.reducePow, Int.reduceMul, Int.reduceAdd, Int.reduceSub, Int.reduceLE, Int.reduceLT, Int.reduceNeg, Int.reduceDiv, Int.reduceMod, Int.reduceEq, Int.reduceBEq, Int.reduceBNe, f3, f3b, f3r0, f3r1, f3r2, f3r3, f3r4, f3r5, f3r6, f3r7, f3r8, f3r9, D.cells, hk, get_old hk, ↓f1, ↓f2, hts, ↓g1, ↓g2, ↓w1, ↓w2, hfl, hfl2, R.cells_length] | (refine BrW.of (fun hb => ?_) (fun hb => ?_) <;> (have hb' := hb; try simp only [decide_eq_true_eq, decide_eq_false_iff_not, beq_iff_eq, bne_iff_ne, beq_eq_false_iff_ne, bne_eq_false_iff_eq, Bool.not_eq_true', Bool.not_eq_false', Bool.not_eq_true, Bool.not_eq_false, Bool.and_eq_true, Bool.or_eq_true, Bool.and_eq_false_iff, Bool.or_eq_false_iff, Int.not_lt, Int.not_le, ne_eq, gt_iff_lt, ge_iff_le] at hb') <;> (try (exfalso; omega))) | (refine .of ((alive _).mono ?_); rintro v H ⟨rfl, rfl⟩) | (refine .of ((sf1 _).mono ?_); rintro v _ ⟨rfl, rfl⟩) | (refine .of ((sf2 _).mono ?_); rintro v _ ⟨rfl, rfl⟩) | (refine .of ((CloneR_spec l k 0 0 c _ (hs.app _) (by omega) hlc).mono ?_); rintro v _ ⟨g1', rfl, rfl⟩) | (refine .of ((sc _ (hs.app _)).mono ?_); rintro v _ ⟨rfl, rfl⟩) | (refine .of ((sc2 _ (H.length + 1) g1' l.length (tn _ _ _ (by rw [get_new]; rfl))).mono ?_); rintro v _ ⟨rfl, rfl⟩) | (refine dcallW.of _ _ (sf1 _) ?_) | (refine dcallW.of _ _ (sf2 _) ?_)
        all_goals exact .here (by (first | with_reducible rfl | (congr 1; first | with_reducible rfl | omega | (rw [Bool.eq_iff_iff]; simp only [decide_eq_true_eq, decide_eq_false_iff_not, beq_iff_eq, bne_iff_ne, beq_eq_false_iff_ne, bne_eq_false_iff_eq, Bool.not_eq_true', Bool.not_eq_false', Bool.not_eq_true, Bool.not_eq_false, Bool.and_eq_true, Bool.or_eq_true, Bool.and_eq_false_iff, Bool.or_eq_false_iff, Int.not_lt, Int.not_le, ne_eq, gt_iff_lt, ge_iff_le, Bool.and_false, Bool.false_and, Bool.or_true, Bool.true_or, Bool.false_eq_true, true_iff, iff_true, false_iff, iff_false, eq_self, not_true_eq_false, not_false_eq_true]; try omega))))
      | false =>
        rw [hx] at sf1
        clear hb
        repeat' first | simp (disch := first | with_reducible assumption | omega) only [go_sem, Bool.true_and, Bool.and_true, Bool.and_self, Bool.false_and, Bool.and_false, Bool.true_or, Bool.or_true, Bool.false_or, Bool.or_false, ↓reduceIte, Nat.reduceEqDiff, Nat.reduceAdd, Nat.reduceMul, Nat.reduceSub, Nat.reduceBEq, Nat.reduceLeDiff, Nat.reduceLT, Nat.reduceMod, Nat.reduceDiv, Int.reduceToNat, Int.reducePow, Int.reduceMul, Int.reduceAdd, Int.reduceSub, Int.reduceLE, Int.reduceLT, Int.reduceNeg, Int.reduceDiv, Int.reduceMod, Int.reduceEq, Int.reduceBEq, Int.reduceBNe, f3, f3b, f3r0, f3r1, f3r2, f3r3, f3r4, f3r5, f3r6, f3r7, f3r8, f3r9, D.cells, hk, get_old hk, ↓f1, ↓f2, hts, ↓g1, ↓g2, ↓w1, ↓w2, hfl, hfl2, R.cells_length] | (refine BrW.of (fun hb => ?_) (fun hb => ?_) <;> (have hb' := hb; try simp only [decide_eq_true_eq, decide_eq_false_iff_not, beq_iff_eq, bne_iff_ne, beq_eq_false_iff_ne, bne_eq_false_iff_eq, Bool.not_eq_true', Bool.not_eq_false', Bool.not_eq_true, Bool.not_eq_false, Bool.and_eq_true, Bool.or_eq_true, Bool.and_eq_false_iff, Bool.or_eq_false_iff, Int.not_lt, Int.not_le, ne_eq, gt_iff_lt, ge_iff_le] at hb') <;> (try (exfalso; omega))) | (refine .of ((alive _).mono ?_); rintro v H ⟨rfl, rfl⟩) | (refine .of ((sf1 _).mono ?_); rintro v _ ⟨rfl, rfl⟩) | (refine .of ((sf2 _).mono ?_); rintro v _ ⟨rfl, rfl⟩) | (refine .of ((CloneR_spec l k 0 0 c _ (hs.app _) (by omega) hlc).mono ?_); rintro v _ ⟨g1', rfl, rfl⟩) | (refine .of ((sc _ (hs.app _)).mono ?_); rintro v _ ⟨rfl, rfl⟩) | (refine .of ((sc2 _ (H.length + 1) g1' l.length (tn _ _ _ (by rw [get_new]; rfl))).mono ?_); rintro v _ ⟨rfl, rfl⟩) | (refine dcallW.of _ _ (sf1 _) ?_) | (refine dcallW.of _ _ (sf2 _) ?_)
        all_goals exact .here (by (first | with_reducible rfl | (congr 1; first | with_reducible rfl | omega | (rw [Bool.eq_iff_iff]; simp only [decide_eq_true_eq, decide_eq_false_iff_not, beq_iff_eq, bne_iff_ne, beq_eq_false_iff_ne, bne_eq_false_iff_eq, Bool.not_eq_true', Bool.not_eq_false', Bool.not_eq_true, Bool.not_eq_false, Bool.and_eq_true, Bool.or_eq_true, Bool.and_eq_false_iff, Bool.or_eq_false_iff, Int.not_lt, Int.not_le, ne_eq, gt_iff_lt, ge_iff_le, Bool.and_false, Bool.false_and, Bool.or_true, Bool.true_or, Bool.false_eq_true, true_iff, iff_true, false_iff, iff_false, eq_self, not_true_eq_false, not_false_eq_true]; try omega))))
  · by_cases hK0 : 0 ≤ K
    · have hK1 : (l.length : Int) ≤ K + 1 := by omega
      clear hK
      obtain ⟨ro, cs, hk, hcl, hcs⟩ := hs.at'
      repeat' first | simp (disch := first | with_reducible assumption | omega) only [go_sem, Bool.true_and, Bool.and_true, Bool.and_self, Bool.false_and, Bool.and_false, Bool.true_or, Bool.or_true, Bool.false_or, Bool.or_false, ↓reduceIte, Nat.reduceEqDiff, Nat.reduceAdd, Nat.reduceMul, Nat.reduceSub, Nat.reduceBEq, Nat.reduceLeDiff, Nat.reduceLT, Nat.reduceMod, Nat.reduceDiv, Int.reduceToNat, Int.reducePow, Int.reduceMul, Int.reduceAdd, Int.reduceSub, Int.reduceLE, Int.reduceLT, Int.reduceNeg, Int.reduceDiv, Int.reduceMod, Int.reduceEq, Int.reduceBEq, Int.reduceBNe, f3, f3b, f3r0, f3r1, f3r2, f3r3, f3r4, f3r5, f3r6, f3r7, f3r8, f3r9, D.cells, hk, get_old hk] | (refine BrW.of (fun hb => ?_) (fun hb => ?_) <;> (have hb' := hb; try simp only [decide_eq_true_eq, decide_eq_false_iff_not, beq_iff_eq, bne_iff_ne, beq_eq_false_iff_ne, bne_eq_false_iff_eq, Bool.not_eq_true', Bool.not_eq_false', Bool.not_eq_true, Bool.not_eq_false, Bool.and_eq_true, Bool.or_eq_true, Bool.and_eq_false_iff, Bool.or_eq_false_iff, Int.not_lt, Int.not_le, ne_eq, gt_iff_lt, ge_iff_le] at hb') <;> (try (exfalso; omega))) | (refine .of ((alive _).mono ?_); rintro v H ⟨rfl, rfl⟩)
      all_goals exact .here rfl
    · clear hK
      repeat' first | simp (disch := first | with_reducible assumption | omega) only [go_sem, Bool.true_and, Bool.and_true, Bool.and_self, Bool.false_and, Bool.and_false, Bool.true_or, Bool.or_true, Bool.false_or, Bool.or_false, ↓reduceIte, Nat.reduceEqDiff, Nat.reduceAdd, Nat.reduceMul, Nat.reduceSub, Nat.reduceBEq, Nat.reduceLeDiff, Nat.reduceLT, Nat.reduceMod, Nat.reduceDiv, Int.reduceToNat, Int.reducePow, Int.reduceMul, Int.reduceAdd, Int.reduceSub, Int.reduceLE, Int.reduceLT, Int.reduceNeg, Int.reduceDiv, Int.reduceMod, Int.reduceEq, Int.reduceBEq, Int.reduceBNe, f3, f3b, f3r0, f3r1, f3r2, f3r3, f3r4, f3r5, f3r6, f3r7, f3r8, f3r9, D.cells] | (refine BrW.of (fun hb => ?_) (fun hb => ?_) <;> (have hb' := hb; try simp only [decide_eq_true_eq, decide_eq_false_iff_not, beq_iff_eq, bne_iff_ne, beq_eq_false_iff_ne, bne_eq_false_iff_eq, Bool.not_eq_true', Bool.not_eq_false', Bool.not_eq_true, Bool.not_eq_false, Bool.and_eq_true, Bool.or_eq_true, Bool.and_eq_false_iff, Bool.or_eq_false_iff, Int.not_lt, Int.not_le, ne_eq, gt_iff_lt, ge_iff_le] at hb') <;> (try (exfalso; omega))) | (refine .of ((alive _).mono ?_); rintro v H ⟨rfl, rfl⟩)
      all_goals exact .here rfl
end Go.Proofs.Ytgianafoiegdmaa
