import Derived.Test.YtknfaoonjmlncaaStepsT
import Derived.Test.YtknfaoonjmlncaaInsert
import Derived.Test.YtknfaoonjmlncaaLay
set_option linter.unusedSimpArgs false
set_option linter.unusedVariables false
set_option maxHeartbeats 2000000
set_option maxRecDepth 20000
namespace Go.Proofs.Ytknfaoonjmlncaa
open Go Go.Am
attribute [local irreducible] opsW Ww loopW callW drawW outW outDW gW cW BrW bothW vW resW DropW RdW dcallW altW Later.run

theorem Insert_first (x : Int) (kv gv : Nat) (H : Heap) (hv : H[kv]? = some (.cells gv 1 false [.int .i64 x])) :
    ACallK Try.prog 21 [.slice none 0 0, .int .i64 0, slv kv 0 gv 1 1] H (fun v H' => v = slv H.length 0 0 1 1 ∧ H' = H ++ [.cells 0 1 false [.int .i64 x]]) := by
  refine .walkW f21_ok (by simp; decide) (by decide) ?_
  repeat' first | simp (disch := first | with_reducible assumption | omega) only [go_sem, Bool.true_and, Bool.and_true, Bool.and_self, Bool.false_and, Bool.and_false, Bool.true_or, Bool.or_true, Bool.false_or, Bool.or_false, ↓reduceIte, Nat.reduceEqDiff, Nat.reduceAdd, Nat.reduceMul, Nat.reduceSub, Nat.reduceBEq, Nat.reduceLeDiff, Nat.reduceLT, Nat.reduceMod, Nat.reduceDiv, Int.reduceToNat, Int.reducePow, Int.reduceMul, Int.reduceAdd, Int.reduceSub, Int.reduceLE, Int.reduceLT, Int.reduceNeg, Int.reduceDiv, Int.reduceMod, Int.reduceEq, Int.reduceBEq, Int.reduceBNe, f21, f21b, f21r0, f21r1, f21r2, f21r3, f21r4, f21r5, f21r6, f21r7, f21r8, f21r9, f21r10, f21r11, f21r12, f21r13, f21r14, f21r15, f21r16, f21r17, f21r18, f21r19, f21r20, hv, get_old hv] | (refine BrW.of (fun hb => ?_) (fun hb => ?_) <;> (have hb' := hb; try simp only [decide_eq_true_eq, decide_eq_false_iff_not, beq_iff_eq, bne_iff_ne, beq_eq_false_iff_ne, bne_eq_false_iff_eq, Bool.not_eq_true', Bool.not_eq_false', Bool.not_eq_true, Bool.not_eq_false, Bool.and_eq_true, Bool.or_eq_true, Bool.and_eq_false_iff, Bool.or_eq_false_iff, Int.not_lt, Int.not_le, ne_eq, gt_iff_lt, ge_iff_le] at hb') <;> (try (exfalso; omega))) | (refine altW.of ?_ ?_)
  all_goals first | exact .here ⟨rfl, rfl⟩ | (exfalso; omega)
theorem Insert_spec (x : Int) (l : List Int) (k g kv gv : Nat) (H : Heap) (hb : H[k]? = some (.cells g 1 false (ints l))) (hl : 0 < l.length) (hbd : l.length ≤ 1048576) (hv : H[kv]? = some (.cells gv 1 false [.int .i64 x])) (hkv : kv ≠ k) :
    ACallK Try.prog 21 [slv k 0 g l.length l.length, .int .i64 0, slv kv 0 gv 1 1] H (fun v H' => v = slv k 0 (g + 1) (l.length + 1) (l.length + 1) ∧ H' = H.set k (.cells (g + 1) 1 false (ints (x :: l)))) :=
  insert_front lays (Insert_first x kv gv H hv).1 x l k g kv gv 1 H hb hl hbd hv hkv (by omega)
def wayU (l : List Nd) (c : Int) : List Int := if c < 0 then [] else way l c.toNat
theorem wayU_neg (l : List Nd) {c : Int} (h : c < 0) : wayU l c = [] := by unfold wayU; rw [if_pos h]
theorem wayU_step {l : List Nd} (h : okT l) {n : Nat} (hn : n < l.length) : wayU l n = wayU l (up l n) ++ [(n : Int)] ∧ -1 ≤ up l n ∧ up l n < n := by
  obtain ⟨_, h2, h3⟩ := h.2.2 n hn
  unfold wayU
  rw [if_neg (by omega), Int.toNat_natCast]
  by_cases h0 : n = 0
  · have := h2 h0
    subst h0
    rw [this]
    exact ⟨rfl, by omega, by omega⟩
  · have := h3 (by omega)
    rw [if_neg (by omega), way_step h (by omega) hn]
    exact ⟨rfl, by omega, by omega⟩
theorem set_one (H : Heap) (A C C' : AObj) (z : Heap) : (H ++ A :: C :: z).set (H.length + 1) C' = H ++ A :: C' :: z := by
  induction H with
  | nil => rfl
  | cons h t ih => simp
theorem Path_spec (l : List Nd) (k o g c : Nat) (H : Heap) (hO : Nodes H k o g l) (hl : l.length ≤ 9223372036854775807) (q : Int) (hq : -9223372036854775808 ≤ q ∧ q ≤ 9223372036854775807) :
    ACallK Try.prog 12 [slv k o g l.length c, .int .i64 q] H (fun v H' => ∃ (X : Heap) (u : Value) (e : Int), H' = H ++ X ∧ v = .tuple #[u, .int .i64 e] ∧ (e = 0 ↔ okT l ∧ 0 ≤ q ∧ q < l.length) ∧ (¬ e = 0 → u = .slice none 0 0) ∧ (e = 0 → IsX H.length X u (way l q.toNat))) := by
  obtain ⟨ro, cs, hk, hcl, hcs⟩ := hO.at'
  refine .walkW f12_ok (by simp; decide) (by decide) ?_
  repeat' first | simp (disch := first | with_reducible assumption | omega) only [go_sem, Bool.true_and, Bool.and_true, Bool.and_self, Bool.false_and, Bool.and_false, Bool.true_or, Bool.or_true, Bool.false_or, Bool.or_false, ↓reduceIte, Nat.reduceEqDiff, Nat.reduceAdd, Nat.reduceMul, Nat.reduceSub, Nat.reduceBEq, Nat.reduceLeDiff, Nat.reduceLT, Nat.reduceMod, Nat.reduceDiv, Int.reduceToNat, Int.reducePow, Int.reduceMul, Int.reduceAdd, Int.reduceSub, Int.reduceLE, Int.reduceLT, Int.reduceNeg, Int.reduceDiv, Int.reduceMod, Int.reduceEq, Int.reduceBEq, Int.reduceBNe, f12, f12b, f12r0, f12r1, f12r2, f12r3, f12r4, f12r5, f12r6, f12r7, f12r8, f12r9, f12r11] | (refine BrW.of (fun hb => ?_) (fun hb => ?_) <;> (have hb' := hb; try simp only [decide_eq_true_eq, decide_eq_false_iff_not, beq_iff_eq, bne_iff_ne, beq_eq_false_iff_ne, bne_eq_false_iff_eq, Bool.not_eq_true', Bool.not_eq_false', Bool.not_eq_true, Bool.not_eq_false, Bool.and_eq_true, Bool.or_eq_true, Bool.and_eq_false_iff, Bool.or_eq_false_iff, Int.not_lt, Int.not_le, ne_eq, gt_iff_lt, ge_iff_le] at hb') <;> (try (exfalso; omega))) | (refine altW.of ?_ ?_)
  refine .of ((Wrong_spec l k o g c H hO hl).mono ?_)
  rintro v H ⟨e, rfl, rfl, he⟩
  by_cases h0 : okT l
  · obtain rfl := he.2 h0
    by_cases hr : 0 ≤ q ∧ q < l.length
    · repeat' first | simp (disch := first | with_reducible assumption | omega) only [go_sem, Bool.true_and, Bool.and_true, Bool.and_self, Bool.false_and, Bool.and_false, Bool.true_or, Bool.or_true, Bool.false_or, Bool.or_false, ↓reduceIte, Nat.reduceEqDiff, Nat.reduceAdd, Nat.reduceMul, Nat.reduceSub, Nat.reduceBEq, Nat.reduceLeDiff, Nat.reduceLT, Nat.reduceMod, Nat.reduceDiv, Int.reduceToNat, Int.reducePow, Int.reduceMul, Int.reduceAdd, Int.reduceSub, Int.reduceLE, Int.reduceLT, Int.reduceNeg, Int.reduceDiv, Int.reduceMod, Int.reduceEq, Int.reduceBEq, Int.reduceBNe, f12, f12b, f12r0, f12r1, f12r2, f12r3, f12r4, f12r5, f12r6, f12r7, f12r8, f12r9, f12r11, hk, get_old hk] | (refine BrW.of (fun hb => ?_) (fun hb => ?_) <;> (have hb' := hb; try simp only [decide_eq_true_eq, decide_eq_false_iff_not, beq_iff_eq, bne_iff_ne, beq_eq_false_iff_ne, bne_eq_false_iff_eq, Bool.not_eq_true', Bool.not_eq_false', Bool.not_eq_true, Bool.not_eq_false, Bool.and_eq_true, Bool.or_eq_true, Bool.and_eq_false_iff, Bool.or_eq_false_iff, Int.not_lt, Int.not_le, ne_eq, gt_iff_lt, ge_iff_le] at hb') <;> (try (exfalso; omega))) | (refine altW.of ?_ ?_)
      all_goals first | (exfalso; omega) | skip
      obtain ⟨m, rfl⟩ : ∃ m : Nat, q = m := ⟨q.toNat, by omega⟩
      have hml : m < l.length := by omega
      have h16 := h0.2.1
      refine loopW.of (by decide) (fun ms e J => ∃ (cur : Int), ms = (cur + 1).toNat ∧ cur ≤ m ∧ -1 ≤ cur ∧ ((cur = m ∧ J = H ∧ e = [(0, slv k o g l.length c), (1, .int .i64 cur), (7, .slice none 0 0)]) ∨ ∃ (A : AObj) (g' : Nat) (out : List Int) (y : Heap), e = [(0, slv k o g l.length c), (1, .int .i64 cur), (7, slv (H.length + 1) 0 g' out.length out.length)] ∧ J = H ++ (A :: .cells g' 1 false (ints out) :: y) ∧ 0 < out.length ∧ out.length + cur ≤ m + 1 ∧ wayU l m = wayU l cur ++ out)) (m + 1) ⟨m, by omega, by omega, by omega, Or.inl ⟨rfl, rfl, rfl⟩⟩ ?_
      rintro ms e J ⟨cur, rfl, hcm, hc1, hcase⟩
      by_cases hcur : 0 ≤ cur
      · obtain ⟨r, rfl⟩ : ∃ r : Nat, cur = r := ⟨cur.toNat, by omega⟩
        have hrl : r < l.length := by omega
        obtain ⟨hst, hu1, hu2⟩ := wayU_step h0 hrl
        have e0 : cs[o + r * 2]? = some (.int .i64 (up l r)) := hcs r hrl 0 (by omega)
        generalize up l r = u at *
        rcases hcase with ⟨hmr, rfl, rfl⟩ | ⟨A, g', out, y, rfl, rfl, ho, hoc, hway⟩
        · obtain rfl : r = m := by omega
          have hF := fun (G : Heap) (kv : Nat) (hG : G[kv]? = some (.cells 0 1 false [.int .i64 (r : Int)])) => Insert_first r kv 0 G hG
          repeat' first | simp (disch := first | with_reducible assumption | omega) only [go_sem, Bool.true_and, Bool.and_true, Bool.and_self, Bool.false_and, Bool.and_false, Bool.true_or, Bool.or_true, Bool.false_or, Bool.or_false, ↓reduceIte, Nat.reduceEqDiff, Nat.reduceAdd, Nat.reduceMul, Nat.reduceSub, Nat.reduceBEq, Nat.reduceLeDiff, Nat.reduceLT, Nat.reduceMod, Nat.reduceDiv, Int.reduceToNat, Int.reducePow, Int.reduceMul, Int.reduceAdd, Int.reduceSub, Int.reduceLE, Int.reduceLT, Int.reduceNeg, Int.reduceDiv, Int.reduceMod, Int.reduceEq, Int.reduceBEq, Int.reduceBNe, f12, f12b, f12r0, f12r1, f12r2, f12r3, f12r4, f12r5, f12r6, f12r7, f12r8, f12r9, f12r11, f12l0, hk, get_old hk, e0] | (refine BrW.of (fun hb => ?_) (fun hb => ?_) <;> (have hb' := hb; try simp only [decide_eq_true_eq, decide_eq_false_iff_not, beq_iff_eq, bne_iff_ne, beq_eq_false_iff_ne, bne_eq_false_iff_eq, Bool.not_eq_true', Bool.not_eq_false', Bool.not_eq_true, Bool.not_eq_false, Bool.and_eq_true, Bool.or_eq_true, Bool.and_eq_false_iff, Bool.or_eq_false_iff, Int.not_lt, Int.not_le, ne_eq, gt_iff_lt, ge_iff_le] at hb') <;> (try (exfalso; omega))) | (refine altW.of ?_ ?_)
          refine .of ((hF _ _ (get_new0 _ _ _)).mono ?_)
          rintro v J2 ⟨rfl, rfl⟩
          repeat' first | simp (disch := first | with_reducible assumption | omega) only [go_sem, Bool.true_and, Bool.and_true, Bool.and_self, Bool.false_and, Bool.and_false, Bool.true_or, Bool.or_true, Bool.false_or, Bool.or_false, ↓reduceIte, Nat.reduceEqDiff, Nat.reduceAdd, Nat.reduceMul, Nat.reduceSub, Nat.reduceBEq, Nat.reduceLeDiff, Nat.reduceLT, Nat.reduceMod, Nat.reduceDiv, Int.reduceToNat, Int.reducePow, Int.reduceMul, Int.reduceAdd, Int.reduceSub, Int.reduceLE, Int.reduceLT, Int.reduceNeg, Int.reduceDiv, Int.reduceMod, Int.reduceEq, Int.reduceBEq, Int.reduceBNe, f12, f12b, f12r0, f12r1, f12r2, f12r3, f12r4, f12r5, f12r6, f12r7, f12r8, f12r9, f12r11, f12l0, hk, get_old hk, e0] | (refine BrW.of (fun hb => ?_) (fun hb => ?_) <;> (have hb' := hb; try simp only [decide_eq_true_eq, decide_eq_false_iff_not, beq_iff_eq, bne_iff_ne, beq_eq_false_iff_ne, bne_eq_false_iff_eq, Bool.not_eq_true', Bool.not_eq_false', Bool.not_eq_true, Bool.not_eq_false, Bool.and_eq_true, Bool.or_eq_true, Bool.and_eq_false_iff, Bool.or_eq_false_iff, Int.not_lt, Int.not_le, ne_eq, gt_iff_lt, ge_iff_le] at hb') <;> (try (exfalso; omega))) | (refine altW.of ?_ ?_)
          refine RdW.keep [0, 1, 7] (u + 1).toNat (by omega) ?_
          simp (disch := first | with_reducible assumption | omega) only [go_sem, Bool.true_and, Bool.and_true, Bool.and_self, Bool.false_and, Bool.and_false, Bool.true_or, Bool.or_true, Bool.false_or, Bool.or_false, ↓reduceIte, Nat.reduceEqDiff, Nat.reduceAdd, Nat.reduceMul, Nat.reduceSub, Nat.reduceBEq, Nat.reduceLeDiff, Nat.reduceLT, Nat.reduceMod, Nat.reduceDiv, Int.reduceToNat, Int.reducePow, Int.reduceMul, Int.reduceAdd, Int.reduceSub, Int.reduceLE, Int.reduceLT, Int.reduceNeg, Int.reduceDiv, Int.reduceMod, Int.reduceEq, Int.reduceBEq, Int.reduceBNe]
          exact ⟨u, rfl, by omega, by omega, Or.inr ⟨.cells 0 1 false [.int .i64 (r : Int)], 0, [(r : Int)], [], rfl, rfl, by simp, by simp; omega, hst⟩⟩
        · have hF := fun (G : Heap) (kv : Nat) (hb : G[H.length + 1]? = some (.cells g' 1 false (ints out))) (hG : G[kv]? = some (.cells 0 1 false [.int .i64 (r : Int)])) (hne : kv ≠ H.length + 1) => Insert_spec r out (H.length + 1) g' kv 0 G hb ho (by omega) hG hne
          repeat' first | simp (disch := first | with_reducible assumption | omega) only [go_sem, Bool.true_and, Bool.and_true, Bool.and_self, Bool.false_and, Bool.and_false, Bool.true_or, Bool.or_true, Bool.false_or, Bool.or_false, ↓reduceIte, Nat.reduceEqDiff, Nat.reduceAdd, Nat.reduceMul, Nat.reduceSub, Nat.reduceBEq, Nat.reduceLeDiff, Nat.reduceLT, Nat.reduceMod, Nat.reduceDiv, Int.reduceToNat, Int.reducePow, Int.reduceMul, Int.reduceAdd, Int.reduceSub, Int.reduceLE, Int.reduceLT, Int.reduceNeg, Int.reduceDiv, Int.reduceMod, Int.reduceEq, Int.reduceBEq, Int.reduceBNe, f12, f12b, f12r0, f12r1, f12r2, f12r3, f12r4, f12r5, f12r6, f12r7, f12r8, f12r9, f12r11, f12l0, hk, get_old hk, e0] | (refine BrW.of (fun hb => ?_) (fun hb => ?_) <;> (have hb' := hb; try simp only [decide_eq_true_eq, decide_eq_false_iff_not, beq_iff_eq, bne_iff_ne, beq_eq_false_iff_ne, bne_eq_false_iff_eq, Bool.not_eq_true', Bool.not_eq_false', Bool.not_eq_true, Bool.not_eq_false, Bool.and_eq_true, Bool.or_eq_true, Bool.and_eq_false_iff, Bool.or_eq_false_iff, Int.not_lt, Int.not_le, ne_eq, gt_iff_lt, ge_iff_le] at hb') <;> (try (exfalso; omega))) | (refine altW.of ?_ ?_)
          refine .of ((hF _ (H.length + (y.length + 1 + 1)) (by rw [get_new]; rfl) (by rw [get_new]; simp) (by omega)).mono ?_)
          rintro v J2 ⟨rfl, rfl⟩
          rw [set_one]
          repeat' first | simp (disch := first | with_reducible assumption | omega) only [go_sem, Bool.true_and, Bool.and_true, Bool.and_self, Bool.false_and, Bool.and_false, Bool.true_or, Bool.or_true, Bool.false_or, Bool.or_false, ↓reduceIte, Nat.reduceEqDiff, Nat.reduceAdd, Nat.reduceMul, Nat.reduceSub, Nat.reduceBEq, Nat.reduceLeDiff, Nat.reduceLT, Nat.reduceMod, Nat.reduceDiv, Int.reduceToNat, Int.reducePow, Int.reduceMul, Int.reduceAdd, Int.reduceSub, Int.reduceLE, Int.reduceLT, Int.reduceNeg, Int.reduceDiv, Int.reduceMod, Int.reduceEq, Int.reduceBEq, Int.reduceBNe, f12, f12b, f12r0, f12r1, f12r2, f12r3, f12r4, f12r5, f12r6, f12r7, f12r8, f12r9, f12r11, f12l0, hk, get_old hk, e0] | (refine BrW.of (fun hb => ?_) (fun hb => ?_) <;> (have hb' := hb; try simp only [decide_eq_true_eq, decide_eq_false_iff_not, beq_iff_eq, bne_iff_ne, beq_eq_false_iff_ne, bne_eq_false_iff_eq, Bool.not_eq_true', Bool.not_eq_false', Bool.not_eq_true, Bool.not_eq_false, Bool.and_eq_true, Bool.or_eq_true, Bool.and_eq_false_iff, Bool.or_eq_false_iff, Int.not_lt, Int.not_le, ne_eq, gt_iff_lt, ge_iff_le] at hb') <;> (try (exfalso; omega))) | (refine altW.of ?_ ?_)
          refine RdW.keep [0, 1, 7] (u + 1).toNat (by omega) ?_
          simp (disch := first | with_reducible assumption | omega) only [go_sem, Bool.true_and, Bool.and_true, Bool.and_self, Bool.false_and, Bool.and_false, Bool.true_or, Bool.or_true, Bool.false_or, Bool.or_false, ↓reduceIte, Nat.reduceEqDiff, Nat.reduceAdd, Nat.reduceMul, Nat.reduceSub, Nat.reduceBEq, Nat.reduceLeDiff, Nat.reduceLT, Nat.reduceMod, Nat.reduceDiv, Int.reduceToNat, Int.reducePow, Int.reduceMul, Int.reduceAdd, Int.reduceSub, Int.reduceLE, Int.reduceLT, Int.reduceNeg, Int.reduceDiv, Int.reduceMod, Int.reduceEq, Int.reduceBEq, Int.reduceBNe]
          refine ⟨u, rfl, by omega, by omega, Or.inr ⟨A, g' + 1, (r : Int) :: out, _, rfl, rfl, by simp, by simp only [List.length_cons]; omega, ?_⟩⟩
          rw [hway, hst, List.append_assoc]; rfl
      · rcases hcase with ⟨hmr, rfl, rfl⟩ | ⟨A, g', out, y, rfl, rfl, ho, hoc, hway⟩
        · omega
        · rw [wayU_neg l (c := cur) (by omega), List.nil_append] at hway
          repeat' first | simp (disch := first | with_reducible assumption | omega) only [go_sem, Bool.true_and, Bool.and_true, Bool.and_self, Bool.false_and, Bool.and_false, Bool.true_or, Bool.or_true, Bool.false_or, Bool.or_false, ↓reduceIte, Nat.reduceEqDiff, Nat.reduceAdd, Nat.reduceMul, Nat.reduceSub, Nat.reduceBEq, Nat.reduceLeDiff, Nat.reduceLT, Nat.reduceMod, Nat.reduceDiv, Int.reduceToNat, Int.reducePow, Int.reduceMul, Int.reduceAdd, Int.reduceSub, Int.reduceLE, Int.reduceLT, Int.reduceNeg, Int.reduceDiv, Int.reduceMod, Int.reduceEq, Int.reduceBEq, Int.reduceBNe, f12, f12b, f12r0, f12r1, f12r2, f12r3, f12r4, f12r5, f12r6, f12r7, f12r8, f12r9, f12r11, f12l0, f12, f12b, f12r0, f12r1, f12r2, f12r3, f12r4, f12r5, f12r6, f12r7, f12r8, f12r9, f12r11, hk, get_old hk] | (refine BrW.of (fun hb => ?_) (fun hb => ?_) <;> (have hb' := hb; try simp only [decide_eq_true_eq, decide_eq_false_iff_not, beq_iff_eq, bne_iff_ne, beq_eq_false_iff_ne, bne_eq_false_iff_eq, Bool.not_eq_true', Bool.not_eq_false', Bool.not_eq_true, Bool.not_eq_false, Bool.and_eq_true, Bool.or_eq_true, Bool.and_eq_false_iff, Bool.or_eq_false_iff, Int.not_lt, Int.not_le, ne_eq, gt_iff_lt, ge_iff_le] at hb') <;> (try (exfalso; omega))) | (refine altW.of ?_ ?_)
          refine .here ⟨_, _, 0, rfl, rfl, ⟨fun _ => ⟨h0, by omega, by omega⟩, fun _ => rfl⟩, fun h => absurd rfl h, fun _ => ⟨1, g', ?_, ?_⟩⟩
          · unfold wayU at hway
            rw [if_neg (by omega)] at hway
            rw [hway]
          · unfold wayU at hway
            rw [if_neg (by omega)] at hway
            rw [hway]; rfl
    · repeat' first | simp (disch := first | with_reducible assumption | omega) only [go_sem, Bool.true_and, Bool.and_true, Bool.and_self, Bool.false_and, Bool.and_false, Bool.true_or, Bool.or_true, Bool.false_or, Bool.or_false, ↓reduceIte, Nat.reduceEqDiff, Nat.reduceAdd, Nat.reduceMul, Nat.reduceSub, Nat.reduceBEq, Nat.reduceLeDiff, Nat.reduceLT, Nat.reduceMod, Nat.reduceDiv, Int.reduceToNat, Int.reducePow, Int.reduceMul, Int.reduceAdd, Int.reduceSub, Int.reduceLE, Int.reduceLT, Int.reduceNeg, Int.reduceDiv, Int.reduceMod, Int.reduceEq, Int.reduceBEq, Int.reduceBNe, f12, f12b, f12r0, f12r1, f12r2, f12r3, f12r4, f12r5, f12r6, f12r7, f12r8, f12r9, f12r11, hk, get_old hk] | (refine BrW.of (fun hb => ?_) (fun hb => ?_) <;> (have hb' := hb; try simp only [decide_eq_true_eq, decide_eq_false_iff_not, beq_iff_eq, bne_iff_ne, beq_eq_false_iff_ne, bne_eq_false_iff_eq, Bool.not_eq_true', Bool.not_eq_false', Bool.not_eq_true, Bool.not_eq_false, Bool.and_eq_true, Bool.or_eq_true, Bool.and_eq_false_iff, Bool.or_eq_false_iff, Int.not_lt, Int.not_le, ne_eq, gt_iff_lt, ge_iff_le] at hb') <;> (try (exfalso; omega))) | (refine altW.of ?_ ?_)
      all_goals first | (exfalso; omega) | exact .here ⟨[], _, _, by simp, rfl, by omega, fun _ => rfl, by omega⟩
  · have hne : ¬ e = 0 := fun h => h0 (he.1 h)
    repeat' first | simp (disch := first | with_reducible assumption | omega) only [go_sem, Bool.true_and, Bool.and_true, Bool.and_self, Bool.false_and, Bool.and_false, Bool.true_or, Bool.or_true, Bool.false_or, Bool.or_false, ↓reduceIte, Nat.reduceEqDiff, Nat.reduceAdd, Nat.reduceMul, Nat.reduceSub, Nat.reduceBEq, Nat.reduceLeDiff, Nat.reduceLT, Nat.reduceMod, Nat.reduceDiv, Int.reduceToNat, Int.reducePow, Int.reduceMul, Int.reduceAdd, Int.reduceSub, Int.reduceLE, Int.reduceLT, Int.reduceNeg, Int.reduceDiv, Int.reduceMod, Int.reduceEq, Int.reduceBEq, Int.reduceBNe, f12, f12b, f12r0, f12r1, f12r2, f12r3, f12r4, f12r5, f12r6, f12r7, f12r8, f12r9, f12r11, hk, get_old hk] | (refine BrW.of (fun hb => ?_) (fun hb => ?_) <;> (have hb' := hb; try simp only [decide_eq_true_eq, decide_eq_false_iff_not, beq_iff_eq, bne_iff_ne, beq_eq_false_iff_ne, bne_eq_false_iff_eq, Bool.not_eq_true', Bool.not_eq_false', Bool.not_eq_true, Bool.not_eq_false, Bool.and_eq_true, Bool.or_eq_true, Bool.and_eq_false_iff, Bool.or_eq_false_iff, Int.not_lt, Int.not_le, ne_eq, gt_iff_lt, ge_iff_le] at hb') <;> (try (exfalso; omega))) | (refine altW.of ?_ ?_)
    all_goals first | (exfalso; omega) | exact .here ⟨[], _, _, by simp, rfl, ⟨fun h => absurd h hne, fun h => absurd h.1 h0⟩, fun _ => rfl, fun h => absurd h hne⟩
end Go.Proofs.Ytknfaoonjmlncaa
