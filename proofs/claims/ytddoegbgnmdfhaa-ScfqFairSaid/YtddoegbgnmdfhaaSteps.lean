import Derived.Test.YtddoegbgnmdfhaaBase
import Derived.Test.YtddoegbgnmdfhaaFns
import Derived.Test.YtddoegbgnmdfhaaPlain
import Derived.Test.YtddoegbgnmdfhaaDiscH
import Derived.Test.YtddoegbgnmdfhaaOwn
set_option linter.unusedSimpArgs false
set_option linter.unusedVariables false
set_option maxHeartbeats 2000000
set_option maxRecDepth 20000
namespace Go.Proofs.Ytddoegbgnmdfhaa
open Go Go.Am
attribute [local irreducible] opsW Ww loopW callW drawW outW outDW gW cW BrW bothW vW resW DropW RdW dcallW altW Later.run

/-- A flow's row. -/
structure Rw where
  v : Value
  u : Value
  l : Int
def r0 : Rw := ⟨.slice none 0 0, .slice none 0 0, 0⟩
def Rw.cells (r : Rw) : List Value := [r.v, r.u, .int .i64 r.l]
theorem getD_setR (l : List Rw) (i k : Nat) (x : Rw) (h : i < l.length) : (l.set i x).getD k r0 = if i = k then x else l.getD k r0 := by
  simp only [List.getD_eq_getElem?_getD]
  by_cases e : i = k
  · subst e; rw [if_pos rfl, List.getElem?_set_self h]; rfl
  · rw [if_neg e, List.getElem?_set_ne e]
theorem flatR_len (l : List Rw) : (flat' Rw.cells l).length = l.length * 3 := flat'_length (enc := Rw.cells) (s := 3) (fun _ => rfl) l
def vv (rs : List Rw) (f : Nat) : Value := if f % 2 = 0 then (rs.getD (f / 2) r0).v else (rs.getD (f / 2) r0).u
def ll (fl : List Fq) (f : Nat) : List Int := if f % 2 = 0 then (fl.getD (f / 2) f0).b else (fl.getD (f / 2) f0).t
theorem vv_b (rs : List Rw) (k : Nat) : vv rs (2 * k) = (rs.getD k r0).v := by unfold vv; rw [if_pos (by omega), show 2 * k / 2 = k by omega]
theorem vv_t (rs : List Rw) (k : Nat) : vv rs (2 * k + 1) = (rs.getD k r0).u := by unfold vv; rw [if_neg (by omega), show (2 * k + 1) / 2 = k by omega]
theorem ll_b (fl : List Fq) (k : Nat) : ll fl (2 * k) = (fl.getD k f0).b := by unfold ll; rw [if_pos (by omega), show 2 * k / 2 = k by omega]
theorem ll_t (fl : List Fq) (k : Nat) : ll fl (2 * k + 1) = (fl.getD k f0).t := by unfold ll; rw [if_neg (by omega), show (2 * k + 1) / 2 = k by omega]
theorem vv_o (rs : List Rw) (k f : Nat) (r : Rw) (hk : k < rs.length) (h1 : f ≠ 2 * k) (h2 : f ≠ 2 * k + 1) : vv (rs.set k r) f = vv rs f := by
  unfold vv
  by_cases e : f % 2 = 0
  · rw [if_pos e, if_pos e, getD_setR _ _ _ _ hk, if_neg (by omega)]
  · rw [if_neg e, if_neg e, getD_setR _ _ _ _ hk, if_neg (by omega)]
theorem ll_o (fl : List Fq) (k f : Nat) (r : Fq) (h1 : f ≠ 2 * k) (h2 : f ≠ 2 * k + 1) : ll (fl.set k r) f = ll fl f := by
  unfold ll
  by_cases e : f % 2 = 0
  · rw [if_pos e, if_pos e, getD_setF, if_neg (by omega)]
  · rw [if_neg e, if_neg e, getD_setF, if_neg (by omega)]
section
variable {P n : Nat} {V V' : Nat → Value} {L L' : Nat → List Int} {J J' : Heap} {q o g : Nat → Nat} {cs : Nat → List Value}
theorem OwnX.step2 (h : OwnX P n V L J q o g cs) {f1 f2 q1 q2 o1 o2 g1 g2 : Nat} {cs1 cs2 : List Value} {l1 l2 : List Int} (hf : f1 ≠ f2) (hV1 : V' f1 = slv q1 o1 g1 l1.length l1.length) (hL1 : L' f1 = l1) (hV2 : V' f2 = slv q2 o2 g2 l2.length l2.length) (hL2 : L' f2 = l2)
    (hVo : ∀ k, k < n → k ≠ f1 → k ≠ f2 → V' k = V k) (hLo : ∀ k, k < n → k ≠ f1 → k ≠ f2 → L' k = L k) (hP1 : P ≤ q1) (hP2 : P ≤ q2) (hJ1 : J'[q1]? = some (.cells g1 1 false cs1)) (hJ2 : J'[q2]? = some (.cells g2 1 false cs2)) (hd1 : cs1.drop o1 = ints l1) (hd2 : cs2.drop o2 = ints l2) (ho1 : o1 ≤ cs1.length) (ho2 : o2 ≤ cs2.length) (hqq : q1 ≠ q2)
    (hq : ∀ k, k < n → k ≠ f1 → k ≠ f2 → V k ≠ .slice none 0 0 → q k ≠ q1 ∧ q k ≠ q2 ∧ J'[q k]? = J[q k]?) : Own P n V' L' J' := by
  refine ⟨fun k => if k = f1 then q1 else if k = f2 then q2 else q k, fun k => if k = f1 then o1 else if k = f2 then o2 else o k, fun k => if k = f1 then g1 else if k = f2 then g2 else g k, fun k => if k = f1 then cs1 else if k = f2 then cs2 else cs k, fun k hk => ?_, fun k j hk hj hkj h1 h2 => ?_⟩
  · by_cases e : k = f1
    · simp only [if_pos e]
      rw [e, hV1, hL1]
      exact .inr ⟨rfl, hP1, hJ1, hd1, ho1⟩
    · by_cases e2 : k = f2
      · simp only [if_neg e, if_pos e2]
        rw [e2, hV2, hL2]
        exact .inr ⟨rfl, hP2, hJ2, hd2, ho2⟩
      · simp only [if_neg e, if_neg e2]
        rw [hVo k hk e e2, hLo k hk e e2]
        rcases h.at' k hk with h1 | ⟨h1, h2, h3, h4⟩
        · exact .inl h1
        · exact .inr ⟨h1, h2, by rw [(hq k hk e e2 (by rw [h1]; exact slv_ne _ _ _ _ _)).2.2]; exact h3, h4⟩
  · have hk1 : k ≠ f1 → k ≠ f2 → q k ≠ q1 ∧ q k ≠ q2 := fun a b => by
      rw [hVo k hk a b] at h1
      have := hq k hk a b h1
      exact ⟨this.1, this.2.1⟩
    have hj1 : j ≠ f1 → j ≠ f2 → q j ≠ q1 ∧ q j ≠ q2 := fun a b => by
      rw [hVo j hj a b] at h2
      have := hq j hj a b h2
      exact ⟨this.1, this.2.1⟩
    by_cases a1 : k = f1
    · by_cases b1 : j = f1
      · omega
      · by_cases b2 : j = f2
        · simp only [if_pos a1, if_neg b1, if_pos b2]; exact hqq
        · simp only [if_pos a1, if_neg b1, if_neg b2]; exact ((hj1 b1 b2).1).symm
    · by_cases a2 : k = f2
      · by_cases b1 : j = f1
        · simp only [if_neg a1, if_pos a2, if_pos b1]; exact hqq.symm
        · by_cases b2 : j = f2
          · omega
          · simp only [if_neg a1, if_pos a2, if_neg b1, if_neg b2]; exact ((hj1 b1 b2).2).symm
      · by_cases b1 : j = f1
        · simp only [if_neg a1, if_neg a2, if_pos b1]; exact (hk1 a1 a2).1
        · by_cases b2 : j = f2
          · simp only [if_neg a1, if_neg a2, if_neg b1, if_pos b2]; exact (hk1 a1 a2).2
          · simp only [if_neg a1, if_neg a2, if_neg b1, if_neg b2]
            rw [hVo k hk a1 a2] at h1
            rw [hVo j hj b1 b2] at h2
            exact h.inj k j hk hj hkj h1 h2
end
/-- The flows' array at F, their packets from P on. -/
def WF (P F : Nat) (fl : List Fq) (J : Heap) : Prop := ∃ rs : List Rw, J[F]? = some (.cells 0 3 false (flat' Rw.cells rs)) ∧ rs.length = fl.length ∧ (∀ k, k < fl.length → (rs.getD k r0).l = (fl.getD k f0).l ∧ ((rs.getD k r0).v = .slice none 0 0 ↔ (rs.getD k r0).u = .slice none 0 0)) ∧ Own P (2 * fl.length) (vv rs) (ll fl) J
theorem WF.app {P F : Nat} {fl : List Fq} {J : Heap} (h : WF P F fl J) (X : Heap) : WF P F fl (J ++ X) := by
  obtain ⟨rs, h1, h2, h3, h4⟩ := h
  exact ⟨rs, get_old h1 X, h2, h3, h4.app X⟩
theorem WF.set {P F : Nat} {fl : List Fq} {J : Heap} (h : WF P F fl J) {j : Nat} (y : AObj) (h1 : F < j) (h2 : j < P) : WF P F fl (J.set j y) := by
  obtain ⟨rs, a1, a2, a3, a4⟩ := h
  exact ⟨rs, (get_set_miss (by omega)).trans a1, a2, a3, a4.agree fun k hk o ho => (get_set_miss (by omega)).trans ho⟩
theorem Wrong_spec (ws : List Int) (ww : Value) (A : Nat → Prop) (H : Heap) (hw0 : IsN A H ww ws) (hwl : ws.length ≤ 9223372036854775807) :
    ACallK Try.prog 11 [ww] H (fun v H' => ∃ e, v = .int .i64 e ∧ (e = 0 ↔ ws.length ≤ 16 ∧ ∀ k, k < ws.length → 1 ≤ ws.getD k 0 ∧ ws.getD k 0 ≤ 12) ∧ (e = 0 ∨ e = 2) ∧ H' = H) := by
  obtain ⟨k, o, g, c, _, rfl, hs, hc⟩ := hw0
  obtain ⟨ro, cs, hk, hcl, hcs⟩ := Ints.cell hs
  refine .walkW f11_ok (by simp; decide) (by decide) ?_
  by_cases h2 : ws.length ≤ 16
  · repeat' first | simp (disch := first | with_reducible assumption | omega) only [go_sem, Bool.true_and, Bool.and_true, Bool.and_self, Bool.false_and, Bool.and_false, Bool.true_or, Bool.or_true, Bool.false_or, Bool.or_false, ↓reduceIte, Nat.reduceEqDiff, Nat.reduceAdd, Nat.reduceMul, Nat.reduceSub, Nat.reduceBEq, Nat.reduceLeDiff, Nat.reduceLT, Nat.reduceMod, Nat.reduceDiv, Int.reduceToNat, Int.reducePow, Int.reduceMul, Int.reduceAdd, Int.reduceSub, Int.reduceLE, Int.reduceLT, Int.reduceNeg, Int.reduceDiv, Int.reduceMod, Int.reduceEq, Int.reduceBEq, Int.reduceBNe, f11, f11b, f11r0, f11r1, f11r2, f11r3, f11r4, f11r5, f11r6, f11r7, f11r8, f11r10, hk] | (refine BrW.of (fun hb => ?_) (fun hb => ?_) <;> (have hb' := hb; try simp only [decide_eq_true_eq, decide_eq_false_iff_not, beq_iff_eq, bne_iff_ne, beq_eq_false_iff_ne, bne_eq_false_iff_eq, Bool.not_eq_true', Bool.not_eq_false', Bool.not_eq_true, Bool.not_eq_false, Bool.and_eq_true, Bool.or_eq_true, Bool.and_eq_false_iff, Bool.or_eq_false_iff, Int.not_lt, Int.not_le, ne_eq, gt_iff_lt, ge_iff_le] at hb') <;> (try (exfalso; omega))) | (refine altW.of ?_ ?_)
    refine loopW.of (by decide) (fun m e J => ∃ i : Nat, e = [(8, slv k o g ws.length c), (9, .int .i64 ws.length), (10, .int .i64 i)] ∧ J = H ∧ i ≤ ws.length ∧ m = ws.length - i ∧ ∀ q, q < i → 1 ≤ ws.getD q 0 ∧ ws.getD q 0 ≤ 12) ws.length ⟨0, rfl, rfl, by omega, rfl, fun q hq => by omega⟩ ?_
    rintro m e J ⟨i, rfl, rfl, hi, rfl, hinv⟩
    by_cases hlt : i < ws.length
    · have e0 := hcs i hlt
      have hno : (ws.length ≤ 16 ∧ ∀ k, k < ws.length → 1 ≤ ws.getD k 0 ∧ ws.getD k 0 ≤ 12) → 1 ≤ ws.getD i 0 ∧ ws.getD i 0 ≤ 12 := fun h => h.2 i hlt
      have hnext : (1 ≤ ws.getD i 0 ∧ ws.getD i 0 ≤ 12) → ∀ q, q < i + 1 → 1 ≤ ws.getD q 0 ∧ ws.getD q 0 ≤ 12 := fun h q hq => by
        by_cases e : q = i
        · subst e; exact h
        · exact hinv q (by omega)
      generalize hG : (ws.length ≤ 16 ∧ ∀ k, k < ws.length → 1 ≤ ws.getD k 0 ∧ ws.getD k 0 ≤ 12) = G at *
      clear hinv hcs hG
      generalize ws.getD i 0 = w at *
      by_cases hg : 1 ≤ w ∧ w ≤ 12
      · have hnext := hnext hg
        clear hno
        obtain ⟨q1, q2⟩ := hg
        repeat' first | simp (disch := first | with_reducible assumption | omega) only [go_sem, Bool.true_and, Bool.and_true, Bool.and_self, Bool.false_and, Bool.and_false, Bool.true_or, Bool.or_true, Bool.false_or, Bool.or_false, ↓reduceIte, Nat.reduceEqDiff, Nat.reduceAdd, Nat.reduceMul, Nat.reduceSub, Nat.reduceBEq, Nat.reduceLeDiff, Nat.reduceLT, Nat.reduceMod, Nat.reduceDiv, Int.reduceToNat, Int.reducePow, Int.reduceMul, Int.reduceAdd, Int.reduceSub, Int.reduceLE, Int.reduceLT, Int.reduceNeg, Int.reduceDiv, Int.reduceMod, Int.reduceEq, Int.reduceBEq, Int.reduceBNe, f11, f11b, f11r0, f11r1, f11r2, f11r3, f11r4, f11r5, f11r6, f11r7, f11r8, f11r10, f11l0, hk, e0] | (refine BrW.of (fun hb => ?_) (fun hb => ?_) <;> (have hb' := hb; try simp only [decide_eq_true_eq, decide_eq_false_iff_not, beq_iff_eq, bne_iff_ne, beq_eq_false_iff_ne, bne_eq_false_iff_eq, Bool.not_eq_true', Bool.not_eq_false', Bool.not_eq_true, Bool.not_eq_false, Bool.and_eq_true, Bool.or_eq_true, Bool.and_eq_false_iff, Bool.or_eq_false_iff, Int.not_lt, Int.not_le, ne_eq, gt_iff_lt, ge_iff_le] at hb') <;> (try (exfalso; omega))) | (refine altW.of ?_ ?_)
        refine RdW.keep [8, 9, 10] (ws.length - (i + 1)) (by omega) ?_
        simp (disch := first | with_reducible assumption | omega) only [go_sem, Bool.true_and, Bool.and_true, Bool.and_self, Bool.false_and, Bool.and_false, Bool.true_or, Bool.or_true, Bool.false_or, Bool.or_false, ↓reduceIte, Nat.reduceEqDiff, Nat.reduceAdd, Nat.reduceMul, Nat.reduceSub, Nat.reduceBEq, Nat.reduceLeDiff, Nat.reduceLT, Nat.reduceMod, Nat.reduceDiv, Int.reduceToNat, Int.reducePow, Int.reduceMul, Int.reduceAdd, Int.reduceSub, Int.reduceLE, Int.reduceLT, Int.reduceNeg, Int.reduceDiv, Int.reduceMod, Int.reduceEq, Int.reduceBEq, Int.reduceBNe]
        exact ⟨i + 1, rfl, by omega, rfl, hnext⟩
      · have hno : ¬ G := fun h => hg (hno h)
        clear hnext
        have hg' : w < 1 ∨ (1 ≤ w ∧ 12 < w) := by omega
        clear hg
        rcases hg' with hg | hg
        · repeat' first | simp (disch := first | with_reducible assumption | omega) only [go_sem, Bool.true_and, Bool.and_true, Bool.and_self, Bool.false_and, Bool.and_false, Bool.true_or, Bool.or_true, Bool.false_or, Bool.or_false, ↓reduceIte, Nat.reduceEqDiff, Nat.reduceAdd, Nat.reduceMul, Nat.reduceSub, Nat.reduceBEq, Nat.reduceLeDiff, Nat.reduceLT, Nat.reduceMod, Nat.reduceDiv, Int.reduceToNat, Int.reducePow, Int.reduceMul, Int.reduceAdd, Int.reduceSub, Int.reduceLE, Int.reduceLT, Int.reduceNeg, Int.reduceDiv, Int.reduceMod, Int.reduceEq, Int.reduceBEq, Int.reduceBNe, f11, f11b, f11r0, f11r1, f11r2, f11r3, f11r4, f11r5, f11r6, f11r7, f11r8, f11r10, f11l0, f11, f11b, f11r0, f11r1, f11r2, f11r3, f11r4, f11r5, f11r6, f11r7, f11r8, f11r10, hk, e0] | (refine BrW.of (fun hb => ?_) (fun hb => ?_) <;> (have hb' := hb; try simp only [decide_eq_true_eq, decide_eq_false_iff_not, beq_iff_eq, bne_iff_ne, beq_eq_false_iff_ne, bne_eq_false_iff_eq, Bool.not_eq_true', Bool.not_eq_false', Bool.not_eq_true, Bool.not_eq_false, Bool.and_eq_true, Bool.or_eq_true, Bool.and_eq_false_iff, Bool.or_eq_false_iff, Int.not_lt, Int.not_le, ne_eq, gt_iff_lt, ge_iff_le] at hb') <;> (try (exfalso; omega))) | (refine altW.of ?_ ?_)
          all_goals exact .here ⟨2, rfl, ⟨fun h => by omega, fun h => absurd h hno⟩, .inr rfl, rfl⟩
        · repeat' first | simp (disch := first | with_reducible assumption | omega) only [go_sem, Bool.true_and, Bool.and_true, Bool.and_self, Bool.false_and, Bool.and_false, Bool.true_or, Bool.or_true, Bool.false_or, Bool.or_false, ↓reduceIte, Nat.reduceEqDiff, Nat.reduceAdd, Nat.reduceMul, Nat.reduceSub, Nat.reduceBEq, Nat.reduceLeDiff, Nat.reduceLT, Nat.reduceMod, Nat.reduceDiv, Int.reduceToNat, Int.reducePow, Int.reduceMul, Int.reduceAdd, Int.reduceSub, Int.reduceLE, Int.reduceLT, Int.reduceNeg, Int.reduceDiv, Int.reduceMod, Int.reduceEq, Int.reduceBEq, Int.reduceBNe, f11, f11b, f11r0, f11r1, f11r2, f11r3, f11r4, f11r5, f11r6, f11r7, f11r8, f11r10, f11l0, f11, f11b, f11r0, f11r1, f11r2, f11r3, f11r4, f11r5, f11r6, f11r7, f11r8, f11r10, hk, e0] | (refine BrW.of (fun hb => ?_) (fun hb => ?_) <;> (have hb' := hb; try simp only [decide_eq_true_eq, decide_eq_false_iff_not, beq_iff_eq, bne_iff_ne, beq_eq_false_iff_ne, bne_eq_false_iff_eq, Bool.not_eq_true', Bool.not_eq_false', Bool.not_eq_true, Bool.not_eq_false, Bool.and_eq_true, Bool.or_eq_true, Bool.and_eq_false_iff, Bool.or_eq_false_iff, Int.not_lt, Int.not_le, ne_eq, gt_iff_lt, ge_iff_le] at hb') <;> (try (exfalso; omega))) | (refine altW.of ?_ ?_)
          all_goals exact .here ⟨2, rfl, ⟨fun h => by omega, fun h => absurd h hno⟩, .inr rfl, rfl⟩
    · obtain rfl : i = ws.length := by omega
      clear hcs
      repeat' first | simp (disch := first | with_reducible assumption | omega) only [go_sem, Bool.true_and, Bool.and_true, Bool.and_self, Bool.false_and, Bool.and_false, Bool.true_or, Bool.or_true, Bool.false_or, Bool.or_false, ↓reduceIte, Nat.reduceEqDiff, Nat.reduceAdd, Nat.reduceMul, Nat.reduceSub, Nat.reduceBEq, Nat.reduceLeDiff, Nat.reduceLT, Nat.reduceMod, Nat.reduceDiv, Int.reduceToNat, Int.reducePow, Int.reduceMul, Int.reduceAdd, Int.reduceSub, Int.reduceLE, Int.reduceLT, Int.reduceNeg, Int.reduceDiv, Int.reduceMod, Int.reduceEq, Int.reduceBEq, Int.reduceBNe, f11, f11b, f11r0, f11r1, f11r2, f11r3, f11r4, f11r5, f11r6, f11r7, f11r8, f11r10, f11l0, f11, f11b, f11r0, f11r1, f11r2, f11r3, f11r4, f11r5, f11r6, f11r7, f11r8, f11r10] | (refine BrW.of (fun hb => ?_) (fun hb => ?_) <;> (have hb' := hb; try simp only [decide_eq_true_eq, decide_eq_false_iff_not, beq_iff_eq, bne_iff_ne, beq_eq_false_iff_ne, bne_eq_false_iff_eq, Bool.not_eq_true', Bool.not_eq_false', Bool.not_eq_true, Bool.not_eq_false, Bool.and_eq_true, Bool.or_eq_true, Bool.and_eq_false_iff, Bool.or_eq_false_iff, Int.not_lt, Int.not_le, ne_eq, gt_iff_lt, ge_iff_le] at hb') <;> (try (exfalso; omega))) | (refine altW.of ?_ ?_)
      exact .here ⟨0, rfl, ⟨fun _ => ⟨h2, hinv⟩, fun _ => rfl⟩, .inl rfl, rfl⟩
  · repeat' first | simp (disch := first | with_reducible assumption | omega) only [go_sem, Bool.true_and, Bool.and_true, Bool.and_self, Bool.false_and, Bool.and_false, Bool.true_or, Bool.or_true, Bool.false_or, Bool.or_false, ↓reduceIte, Nat.reduceEqDiff, Nat.reduceAdd, Nat.reduceMul, Nat.reduceSub, Nat.reduceBEq, Nat.reduceLeDiff, Nat.reduceLT, Nat.reduceMod, Nat.reduceDiv, Int.reduceToNat, Int.reducePow, Int.reduceMul, Int.reduceAdd, Int.reduceSub, Int.reduceLE, Int.reduceLT, Int.reduceNeg, Int.reduceDiv, Int.reduceMod, Int.reduceEq, Int.reduceBEq, Int.reduceBNe, f11, f11b, f11r0, f11r1, f11r2, f11r3, f11r4, f11r5, f11r6, f11r7, f11r8, f11r10, hk] | (refine BrW.of (fun hb => ?_) (fun hb => ?_) <;> (have hb' := hb; try simp only [decide_eq_true_eq, decide_eq_false_iff_not, beq_iff_eq, bne_iff_ne, beq_eq_false_iff_ne, bne_eq_false_iff_eq, Bool.not_eq_true', Bool.not_eq_false', Bool.not_eq_true, Bool.not_eq_false, Bool.and_eq_true, Bool.or_eq_true, Bool.and_eq_false_iff, Bool.or_eq_false_iff, Int.not_lt, Int.not_le, ne_eq, gt_iff_lt, ge_iff_le] at hb') <;> (try (exfalso; omega))) | (refine altW.of ?_ ?_)
    all_goals exact .here ⟨2, rfl, ⟨fun h => by omega, fun h => absurd h.1 h2⟩, .inr rfl, rfl⟩
end Go.Proofs.Ytddoegbgnmdfhaa
