import Derived.Test.YtfoooabhfecjhaaSteps9
import Derived.Test.YtfoooabhfecjhaaBase
set_option linter.unusedSimpArgs false
set_option linter.unusedVariables false
set_option maxHeartbeats 2000000
set_option maxRecDepth 20000
namespace Go.Proofs.Ytfoooabhfecjhaa
open Go Go.Am
attribute [local irreducible] opsW Ww loopW callW drawW outW outDW gW cW BrW bothW vW resW DropW RdW dcallW altW Later.run

theorem poll_do (p : P) (r : Int) (h : 0 ≤ r ∧ r ≤ 1073741824) : (doP p ⟨3, r⟩).1 = pollP p r := by
  unfold doP
  rw [if_neg (by show ¬ (3 : Int) = 1; decide), if_neg (by show ¬ (3 : Int) = 2; decide), if_pos rfl, if_pos h]
structure Has (Z : Heap) (h k c : Nat) (n d b : Int) (l : List O) : Prop where
  z1 : Z[h]? = some (.cells 0 0 false [.int .i64 n])
  z2 : Z[h + 1]? = some (.cells 0 0 false [.int .i64 d])
  z3 : Z[h + 2]? = some (.cells 0 0 false [.int .i64 b])
  z4 : Z[h + 3]? = some (.cells 0 0 false [slv k 0 0 l.length c])
  o : Ops Z k 0 0 l
  len : l.length ≤ 1048576
  cap : l.length ≤ c
theorem Has.app {Z : Heap} {h k c : Nat} {n d b : Int} {l : List O} (H : Has Z h k c n d b l) (y : Heap) : Has (Z ++ y) h k c n d b l :=
  ⟨get_old H.z1 y, get_old H.z2 y, get_old H.z3 y, get_old H.z4 y, H.o.app y, H.len, H.cap⟩
theorem Has.call {Z : Heap} {h k c : Nat} {n d b : Int} {l : List O} (H : Has Z h k c n d b l) (kr : Nat) (rs : List Int) (hk : Z[kr]? = some (.cells 0 1 false (ints rs))) (hrs : rs.length ≤ 300) :
    ACallK Try.prog 11 [slv kr 0 0 rs.length rs.length, .pointer (some ⟨h + 3, 0, some 1⟩), .pointer (some ⟨h, 0, some 1⟩), .pointer (some ⟨h + 1, 0, some 1⟩), .pointer (some ⟨h + 2, 0, some 1⟩)] Z (fun v H' => ∃ X, H' = Z ++ X ∧ (¬ wrongP n d b = 0 → v = .tuple #[.agg #[.slice none 0 0, .int .i64 0, .int .i64 0, .int .i64 0, .int .i64 0, .int .i64 0, .int .i64 0, .int .i64 0, .int .i64 0, .int .i64 0], .int .i64 (wrongP n d b)]) ∧ (wrongP n d b = 0 → ∃ (w' : Value), v = .tuple #[(runP (p0 n d b) (l ++ polls rs)).val w', .int .i64 0] ∧ IsI H' w' (runP (p0 n d b) (l ++ polls rs)).l)) :=
  closure_spec n d b l k 0 0 c rs kr 0 0 rs.length (h + 3) h (h + 1) (h + 2) Z H.o H.len H.cap (Ints.new Z kr 0 false rs hk) hrs H.z4 H.z1 H.z2 H.z3
theorem PaceParts_args (H : Heap) (vals : List Value) (h : ArgsOk 1048576 H PacePartsSh vals) : ACallK Try.prog 6 vals H fun v _ => v = .bool true := by
  obtain ⟨_, _, rfl, a1, h1⟩ := h.cons
  obtain ⟨_, _, rfl, a2, h2⟩ := h1.cons
  obtain ⟨_, _, rfl, a3, h3⟩ := h2.cons
  obtain ⟨_, _, rfl, a4, h4⟩ := h3.cons
  obtain ⟨_, _, rfl, a5, h5⟩ := h4.cons
  obtain ⟨_, _, rfl, a6, h6⟩ := h5.cons
  obtain rfl := h6.nil
  obtain ⟨n, rfl, hn⟩ := int_of a1
  obtain ⟨d, rfl, hd⟩ := int_of a2
  obtain ⟨b, rfl, hb⟩ := int_of a3
  obtain ⟨k, c, l, rfl, hl, hlc, hO⟩ := ops_of a4
  obtain ⟨x, rfl, hx⟩ := int_of a5
  obtain ⟨y, rfl, hy⟩ := int_of a6
  clear a1 a2 a3 a4 a5 a6 h h1 h2 h3 h4 h5 h6
  obtain ⟨ro, cs, hk, hcl, hcs⟩ := hO.at'
  refine .walkW f6_ok (by simp; decide) (by decide) ?_
  by_cases hg : (0 ≤ x ∧ 0 ≤ y) ∧ x ≤ 1048576 ∧ y ≤ 1048576
  · obtain ⟨⟨g1, g2⟩, g3, g4⟩ := hg
    repeat' first | simp (disch := first | with_reducible assumption | omega) only [go_sem, Bool.true_and, Bool.and_true, Bool.and_self, Bool.false_and, Bool.and_false, Bool.true_or, Bool.or_true, Bool.false_or, Bool.or_false, ↓reduceIte, Nat.reduceEqDiff, Nat.reduceAdd, Nat.reduceMul, Nat.reduceSub, Nat.reduceBEq, Nat.reduceLeDiff, Nat.reduceLT, Nat.reduceMod, Nat.reduceDiv, Int.reduceToNat, Int.reducePow, Int.reduceMul, Int.reduceAdd, Int.reduceSub, Int.reduceLE, Int.reduceLT, Int.reduceNeg, Int.reduceDiv, Int.reduceMod, Int.reduceEq, Int.reduceBEq, Int.reduceBNe, f6, f6b, f6r0, f6r1, f6r2, f6r3, f6r4, f6r5, f6r6, f6r7, f6r8, f6r9, f6r10, f6r11, f6r12] | (refine BrW.of (fun hb => ?_) (fun hb => ?_) <;> (have hb' := hb; try simp only [decide_eq_true_eq, decide_eq_false_iff_not, beq_iff_eq, bne_iff_ne, beq_eq_false_iff_ne, bne_eq_false_iff_eq, Bool.not_eq_true', Bool.not_eq_false', Bool.not_eq_true, Bool.not_eq_false, Bool.and_eq_true, Bool.or_eq_true, Bool.and_eq_false_iff, Bool.or_eq_false_iff, Int.not_lt, Int.not_le, ne_eq, gt_iff_lt, ge_iff_le] at hb') <;> (try (exfalso; omega))) | (refine altW.of ?_ ?_) | (refine .of ((alive _).mono ?_); rintro v J ⟨rfl, rfl⟩)
    have hA : Has (H ++ [.cells 0 0 false [.int .i64 n], .cells 0 0 false [.int .i64 d], .cells 0 0 false [.int .i64 b], .cells 0 0 false [slv k 0 0 l.length c], .cells 0 1 false (ints [x, y])]) H.length k c n d b l := ⟨by rw [get_new0], by rw [get_new]; rfl, by rw [get_new]; rfl, by rw [get_new]; rfl, hO.app _, hl, hlc⟩
    refine .of ((hA.call (H.length + 4) [x, y] (by rw [get_new]; rfl) (by simp)).mono ?_)
    rintro v J ⟨X1, rfl, hbad1, hgood1⟩
    replace hA := hA.app X1
    clear hO hk hcs hcl
    generalize H ++ [.cells 0 0 false [.int .i64 n], .cells 0 0 false [.int .i64 d], .cells 0 0 false [.int .i64 b], .cells 0 0 false [slv k 0 0 l.length c], .cells 0 1 false (ints [x, y])] ++ X1 = G1 at *
    generalize H.length = h0 at *
    by_cases hw : wrongP n d b = 0
    · obtain ⟨w1, rfl, hI1⟩ := hgood1 hw
      clear hbad1 hgood1
      have hok := runP_ok (start_ok hw) l
      have e1 : runP (p0 n d b) (l ++ polls [x, y]) = pollP (pollP (runP (p0 n d b) l) x) y := by
        rw [runP_app]
        show (doP (doP (runP (p0 n d b) l) ⟨3, x⟩).1 ⟨3, y⟩).1 = _
        rw [poll_do _ _ (by omega), poll_do _ _ (by omega)]
      have e2 : runP (p0 n d b) (l ++ polls [x + y]) = pollP (runP (p0 n d b) l) (x + y) := by
        rw [runP_app]
        show (doP (runP (p0 n d b) l) ⟨3, x + y⟩).1 = _
        rw [poll_do _ _ (by omega)]
      have e3 : runP (p0 n d b) (l ++ polls [1073741824]) = pollP (runP (p0 n d b) l) 1073741824 := by
        rw [runP_app]
        show (doP (runP (p0 n d b) l) ⟨3, 1073741824⟩).1 = _
        rw [poll_do _ _ (by omega)]
      have e4 : runP (p0 n d b) (l ++ polls [1073741824, x]) = pollP (runP (p0 n d b) l) 1073741824 := by
        rw [runP_app]
        show (doP (doP (runP (p0 n d b) l) ⟨3, 1073741824⟩).1 ⟨3, x⟩).1 = _
        rw [poll_do _ _ (by omega), poll_do _ _ (by omega), again hok]
      have hp1 := parts hok x y g1 g2
      have hp2 := more hok (x + y) 1073741824 (by omega) (by omega)
      have hq := (doP_ok hok ⟨3, 1073741824⟩).q.len
      rw [poll_do _ _ (by omega)] at hq
      rw [e1] at hI1 ⊢
      generalize pollP (pollP (runP (p0 n d b) l) x) y = p1 at *
      generalize pollP (runP (p0 n d b) l) (x + y) = p2 at *
      generalize pollP (runP (p0 n d b) l) 1073741824 = p3 at *
      replace hq : p3.l.length ≤ 400 := hq
      repeat' first | simp (disch := first | with_reducible assumption | omega) only [go_sem, Bool.true_and, Bool.and_true, Bool.and_self, Bool.false_and, Bool.and_false, Bool.true_or, Bool.or_true, Bool.false_or, Bool.or_false, ↓reduceIte, Nat.reduceEqDiff, Nat.reduceAdd, Nat.reduceMul, Nat.reduceSub, Nat.reduceBEq, Nat.reduceLeDiff, Nat.reduceLT, Nat.reduceMod, Nat.reduceDiv, Int.reduceToNat, Int.reducePow, Int.reduceMul, Int.reduceAdd, Int.reduceSub, Int.reduceLE, Int.reduceLT, Int.reduceNeg, Int.reduceDiv, Int.reduceMod, Int.reduceEq, Int.reduceBEq, Int.reduceBNe, f6, f6b, f6r0, f6r1, f6r2, f6r3, f6r4, f6r5, f6r6, f6r7, f6r8, f6r9, f6r10, f6r11, f6r12, P.val] | (refine BrW.of (fun hb => ?_) (fun hb => ?_) <;> (have hb' := hb; try simp only [decide_eq_true_eq, decide_eq_false_iff_not, beq_iff_eq, bne_iff_ne, beq_eq_false_iff_ne, bne_eq_false_iff_eq, Bool.not_eq_true', Bool.not_eq_false', Bool.not_eq_true, Bool.not_eq_false, Bool.and_eq_true, Bool.or_eq_true, Bool.and_eq_false_iff, Bool.or_eq_false_iff, Int.not_lt, Int.not_le, ne_eq, gt_iff_lt, ge_iff_le] at hb') <;> (try (exfalso; omega))) | (refine altW.of ?_ ?_)
      refine .of (((hA.app _).call (G1.length + 1) [x + y] (by rw [get_new]; rfl) (by simp)).mono ?_)
      rintro v J ⟨X2, rfl, hbad2, hgood2⟩
      obtain ⟨w2, rfl, hI2⟩ := hgood2 hw
      clear hbad2 hgood2
      rw [e2] at hI2 ⊢
      have hp1' := get_old (get_new0 G1 (.cells 0 0 false [w1, .int .i64 100, .int .i64 60000, .int .i64 p1.dr, .int .i64 p1.b.num, .int .i64 p1.b.den, .int .i64 p1.b.bu, .int .i64 p1.b.lv, .int .i64 p1.b.at', .int .i64 p1.se]) [.cells 0 1 false [.int .i64 (x + y)]]) X2
      replace hA := (hA.app [.cells 0 0 false [w1, .int .i64 100, .int .i64 60000, .int .i64 p1.dr, .int .i64 p1.b.num, .int .i64 p1.b.den, .int .i64 p1.b.bu, .int .i64 p1.b.lv, .int .i64 p1.b.at', .int .i64 p1.se], .cells 0 1 false [.int .i64 (x + y)]]).app X2
      generalize G1 ++ [.cells 0 0 false [w1, .int .i64 100, .int .i64 60000, .int .i64 p1.dr, .int .i64 p1.b.num, .int .i64 p1.b.den, .int .i64 p1.b.bu, .int .i64 p1.b.lv, .int .i64 p1.b.at', .int .i64 p1.se], .cells 0 1 false [.int .i64 (x + y)]] ++ X2 = G2 at *
      repeat' first | simp (disch := first | with_reducible assumption | omega) only [go_sem, Bool.true_and, Bool.and_true, Bool.and_self, Bool.false_and, Bool.and_false, Bool.true_or, Bool.or_true, Bool.false_or, Bool.or_false, ↓reduceIte, Nat.reduceEqDiff, Nat.reduceAdd, Nat.reduceMul, Nat.reduceSub, Nat.reduceBEq, Nat.reduceLeDiff, Nat.reduceLT, Nat.reduceMod, Nat.reduceDiv, Int.reduceToNat, Int.reducePow, Int.reduceMul, Int.reduceAdd, Int.reduceSub, Int.reduceLE, Int.reduceLT, Int.reduceNeg, Int.reduceDiv, Int.reduceMod, Int.reduceEq, Int.reduceBEq, Int.reduceBNe, f6, f6b, f6r0, f6r1, f6r2, f6r3, f6r4, f6r5, f6r6, f6r7, f6r8, f6r9, f6r10, f6r11, f6r12, P.val] | (refine BrW.of (fun hb => ?_) (fun hb => ?_) <;> (have hb' := hb; try simp only [decide_eq_true_eq, decide_eq_false_iff_not, beq_iff_eq, bne_iff_ne, beq_eq_false_iff_ne, bne_eq_false_iff_eq, Bool.not_eq_true', Bool.not_eq_false', Bool.not_eq_true, Bool.not_eq_false, Bool.and_eq_true, Bool.or_eq_true, Bool.and_eq_false_iff, Bool.or_eq_false_iff, Int.not_lt, Int.not_le, ne_eq, gt_iff_lt, ge_iff_le] at hb') <;> (try (exfalso; omega))) | (refine altW.of ?_ ?_)
      refine .of (((hA.app _).call (G2.length + 1) [1073741824] (by rw [get_new]; rfl) (by simp)).mono ?_)
      rintro v J ⟨X3, rfl, hbad3, hgood3⟩
      obtain ⟨w3, rfl, hI3⟩ := hgood3 hw
      clear hbad3 hgood3
      rw [e3] at hI3 ⊢
      have hp2' := get_old (get_new0 G2 (.cells 0 0 false [w2, .int .i64 100, .int .i64 60000, .int .i64 p2.dr, .int .i64 p2.b.num, .int .i64 p2.b.den, .int .i64 p2.b.bu, .int .i64 p2.b.lv, .int .i64 p2.b.at', .int .i64 p2.se]) [.cells 0 1 false [.int .i64 1073741824]]) X3
      replace hA := (hA.app [.cells 0 0 false [w2, .int .i64 100, .int .i64 60000, .int .i64 p2.dr, .int .i64 p2.b.num, .int .i64 p2.b.den, .int .i64 p2.b.bu, .int .i64 p2.b.lv, .int .i64 p2.b.at', .int .i64 p2.se], .cells 0 1 false [.int .i64 1073741824]]).app X3
      replace hp1' := get_old (get_old hp1' [.cells 0 0 false [w2, .int .i64 100, .int .i64 60000, .int .i64 p2.dr, .int .i64 p2.b.num, .int .i64 p2.b.den, .int .i64 p2.b.bu, .int .i64 p2.b.lv, .int .i64 p2.b.at', .int .i64 p2.se], .cells 0 1 false [.int .i64 1073741824]]) X3
      generalize G2 ++ [.cells 0 0 false [w2, .int .i64 100, .int .i64 60000, .int .i64 p2.dr, .int .i64 p2.b.num, .int .i64 p2.b.den, .int .i64 p2.b.bu, .int .i64 p2.b.lv, .int .i64 p2.b.at', .int .i64 p2.se], .cells 0 1 false [.int .i64 1073741824]] ++ X3 = G3 at *
      repeat' first | simp (disch := first | with_reducible assumption | omega) only [go_sem, Bool.true_and, Bool.and_true, Bool.and_self, Bool.false_and, Bool.and_false, Bool.true_or, Bool.or_true, Bool.false_or, Bool.or_false, ↓reduceIte, Nat.reduceEqDiff, Nat.reduceAdd, Nat.reduceMul, Nat.reduceSub, Nat.reduceBEq, Nat.reduceLeDiff, Nat.reduceLT, Nat.reduceMod, Nat.reduceDiv, Int.reduceToNat, Int.reducePow, Int.reduceMul, Int.reduceAdd, Int.reduceSub, Int.reduceLE, Int.reduceLT, Int.reduceNeg, Int.reduceDiv, Int.reduceMod, Int.reduceEq, Int.reduceBEq, Int.reduceBNe, f6, f6b, f6r0, f6r1, f6r2, f6r3, f6r4, f6r5, f6r6, f6r7, f6r8, f6r9, f6r10, f6r11, f6r12, P.val] | (refine BrW.of (fun hb => ?_) (fun hb => ?_) <;> (have hb' := hb; try simp only [decide_eq_true_eq, decide_eq_false_iff_not, beq_iff_eq, bne_iff_ne, beq_eq_false_iff_ne, bne_eq_false_iff_eq, Bool.not_eq_true', Bool.not_eq_false', Bool.not_eq_true, Bool.not_eq_false, Bool.and_eq_true, Bool.or_eq_true, Bool.and_eq_false_iff, Bool.or_eq_false_iff, Int.not_lt, Int.not_le, ne_eq, gt_iff_lt, ge_iff_le] at hb') <;> (try (exfalso; omega))) | (refine altW.of ?_ ?_)
      refine .of (((hA.app _).call (G3.length + 1) [1073741824, x] (by rw [get_new]; rfl) (by simp)).mono ?_)
      rintro v J ⟨X4, rfl, hbad4, hgood4⟩
      obtain ⟨w4, rfl, hI4⟩ := hgood4 hw
      clear hbad4 hgood4
      rw [e4] at hI4 ⊢
      have hp3' := get_old (get_new0 G3 (.cells 0 0 false [w3, .int .i64 100, .int .i64 60000, .int .i64 p3.dr, .int .i64 p3.b.num, .int .i64 p3.b.den, .int .i64 p3.b.bu, .int .i64 p3.b.lv, .int .i64 p3.b.at', .int .i64 p3.se]) [.cells 0 1 false [.int .i64 1073741824, .int .i64 x]]) X4
      replace hA := (hA.app [.cells 0 0 false [w3, .int .i64 100, .int .i64 60000, .int .i64 p3.dr, .int .i64 p3.b.num, .int .i64 p3.b.den, .int .i64 p3.b.bu, .int .i64 p3.b.lv, .int .i64 p3.b.at', .int .i64 p3.se], .cells 0 1 false [.int .i64 1073741824, .int .i64 x]]).app X4
      replace hp1' := get_old (get_old hp1' [.cells 0 0 false [w3, .int .i64 100, .int .i64 60000, .int .i64 p3.dr, .int .i64 p3.b.num, .int .i64 p3.b.den, .int .i64 p3.b.bu, .int .i64 p3.b.lv, .int .i64 p3.b.at', .int .i64 p3.se], .cells 0 1 false [.int .i64 1073741824, .int .i64 x]]) X4
      replace hp2' := get_old (get_old hp2' [.cells 0 0 false [w3, .int .i64 100, .int .i64 60000, .int .i64 p3.dr, .int .i64 p3.b.num, .int .i64 p3.b.den, .int .i64 p3.b.bu, .int .i64 p3.b.lv, .int .i64 p3.b.at', .int .i64 p3.se], .cells 0 1 false [.int .i64 1073741824, .int .i64 x]]) X4
      replace hI3 := (hI3.app [.cells 0 0 false [w3, .int .i64 100, .int .i64 60000, .int .i64 p3.dr, .int .i64 p3.b.num, .int .i64 p3.b.den, .int .i64 p3.b.bu, .int .i64 p3.b.lv, .int .i64 p3.b.at', .int .i64 p3.se], .cells 0 1 false [.int .i64 1073741824, .int .i64 x]]).app X4
      generalize G3 ++ [.cells 0 0 false [w3, .int .i64 100, .int .i64 60000, .int .i64 p3.dr, .int .i64 p3.b.num, .int .i64 p3.b.den, .int .i64 p3.b.bu, .int .i64 p3.b.lv, .int .i64 p3.b.at', .int .i64 p3.se], .cells 0 1 false [.int .i64 1073741824, .int .i64 x]] ++ X4 = G4 at *
      have hS := fun (x : Heap) => SamePaced_spec p3 w3 w4 (G4 ++ x) (hI3.app x) (hI4.app x) hq
      simp only [P.val] at hS
      have hle1 : ¬ p2.se < p1.se := by omega
      clear hA
      repeat' first | simp (disch := first | with_reducible assumption | omega) only [go_sem, Bool.true_and, Bool.and_true, Bool.and_self, Bool.false_and, Bool.and_false, Bool.true_or, Bool.or_true, Bool.false_or, Bool.or_false, ↓reduceIte, Nat.reduceEqDiff, Nat.reduceAdd, Nat.reduceMul, Nat.reduceSub, Nat.reduceBEq, Nat.reduceLeDiff, Nat.reduceLT, Nat.reduceMod, Nat.reduceDiv, Int.reduceToNat, Int.reducePow, Int.reduceMul, Int.reduceAdd, Int.reduceSub, Int.reduceLE, Int.reduceLT, Int.reduceNeg, Int.reduceDiv, Int.reduceMod, Int.reduceEq, Int.reduceBEq, Int.reduceBNe, f6, f6b, f6r0, f6r1, f6r2, f6r3, f6r4, f6r5, f6r6, f6r7, f6r8, f6r9, f6r10, f6r11, f6r12, P.val, hp1', get_old hp1', hp2', get_old hp2', hp3', get_old hp3'] | (refine BrW.of (fun hb => ?_) (fun hb => ?_) <;> (have hb' := hb; try simp only [decide_eq_true_eq, decide_eq_false_iff_not, beq_iff_eq, bne_iff_ne, beq_eq_false_iff_ne, bne_eq_false_iff_eq, Bool.not_eq_true', Bool.not_eq_false', Bool.not_eq_true, Bool.not_eq_false, Bool.and_eq_true, Bool.or_eq_true, Bool.and_eq_false_iff, Bool.or_eq_false_iff, Int.not_lt, Int.not_le, ne_eq, gt_iff_lt, ge_iff_le] at hb') <;> (try (exfalso; omega))) | (refine altW.of ?_ ?_) | (refine .of ((hS _).mono ?_); rintro v J rfl)
      all_goals first | exact .here rfl | (exfalso; omega)
    · obtain rfl := hbad1 hw
      clear hbad1 hgood1
      repeat' first | simp (disch := first | with_reducible assumption | omega) only [go_sem, Bool.true_and, Bool.and_true, Bool.and_self, Bool.false_and, Bool.and_false, Bool.true_or, Bool.or_true, Bool.false_or, Bool.or_false, ↓reduceIte, Nat.reduceEqDiff, Nat.reduceAdd, Nat.reduceMul, Nat.reduceSub, Nat.reduceBEq, Nat.reduceLeDiff, Nat.reduceLT, Nat.reduceMod, Nat.reduceDiv, Int.reduceToNat, Int.reducePow, Int.reduceMul, Int.reduceAdd, Int.reduceSub, Int.reduceLE, Int.reduceLT, Int.reduceNeg, Int.reduceDiv, Int.reduceMod, Int.reduceEq, Int.reduceBEq, Int.reduceBNe, f6, f6b, f6r0, f6r1, f6r2, f6r3, f6r4, f6r5, f6r6, f6r7, f6r8, f6r9, f6r10, f6r11, f6r12] | (refine BrW.of (fun hb => ?_) (fun hb => ?_) <;> (have hb' := hb; try simp only [decide_eq_true_eq, decide_eq_false_iff_not, beq_iff_eq, bne_iff_ne, beq_eq_false_iff_ne, bne_eq_false_iff_eq, Bool.not_eq_true', Bool.not_eq_false', Bool.not_eq_true, Bool.not_eq_false, Bool.and_eq_true, Bool.or_eq_true, Bool.and_eq_false_iff, Bool.or_eq_false_iff, Int.not_lt, Int.not_le, ne_eq, gt_iff_lt, ge_iff_le] at hb') <;> (try (exfalso; omega))) | (refine altW.of ?_ ?_)
      refine .of (((hA.app [.cells 0 0 false pz, .cells 0 1 false (ints [x + y])]).call (G1.length + 1) [x + y] (by rw [get_new]; rfl) (by simp)).mono ?_)
      rintro v J ⟨X2, rfl, hbad2, hgood2⟩
      obtain rfl := hbad2 hw
      clear hbad2 hgood2
      replace hA := (hA.app [.cells 0 0 false pz, .cells 0 1 false (ints [x + y])]).app X2
      generalize G1 ++ [.cells 0 0 false pz, .cells 0 1 false (ints [x + y])] ++ X2 = G2 at *
      repeat' first | simp (disch := first | with_reducible assumption | omega) only [go_sem, Bool.true_and, Bool.and_true, Bool.and_self, Bool.false_and, Bool.and_false, Bool.true_or, Bool.or_true, Bool.false_or, Bool.or_false, ↓reduceIte, Nat.reduceEqDiff, Nat.reduceAdd, Nat.reduceMul, Nat.reduceSub, Nat.reduceBEq, Nat.reduceLeDiff, Nat.reduceLT, Nat.reduceMod, Nat.reduceDiv, Int.reduceToNat, Int.reducePow, Int.reduceMul, Int.reduceAdd, Int.reduceSub, Int.reduceLE, Int.reduceLT, Int.reduceNeg, Int.reduceDiv, Int.reduceMod, Int.reduceEq, Int.reduceBEq, Int.reduceBNe, f6, f6b, f6r0, f6r1, f6r2, f6r3, f6r4, f6r5, f6r6, f6r7, f6r8, f6r9, f6r10, f6r11, f6r12] | (refine BrW.of (fun hb => ?_) (fun hb => ?_) <;> (have hb' := hb; try simp only [decide_eq_true_eq, decide_eq_false_iff_not, beq_iff_eq, bne_iff_ne, beq_eq_false_iff_ne, bne_eq_false_iff_eq, Bool.not_eq_true', Bool.not_eq_false', Bool.not_eq_true, Bool.not_eq_false, Bool.and_eq_true, Bool.or_eq_true, Bool.and_eq_false_iff, Bool.or_eq_false_iff, Int.not_lt, Int.not_le, ne_eq, gt_iff_lt, ge_iff_le] at hb') <;> (try (exfalso; omega))) | (refine altW.of ?_ ?_)
      refine .of (((hA.app [.cells 0 0 false pz, .cells 0 1 false (ints [1073741824])]).call (G2.length + 1) [1073741824] (by rw [get_new]; rfl) (by simp)).mono ?_)
      rintro v J ⟨X3, rfl, hbad3, hgood3⟩
      obtain rfl := hbad3 hw
      clear hbad3 hgood3
      replace hA := (hA.app [.cells 0 0 false pz, .cells 0 1 false (ints [1073741824])]).app X3
      generalize G2 ++ [.cells 0 0 false pz, .cells 0 1 false (ints [1073741824])] ++ X3 = G3 at *
      repeat' first | simp (disch := first | with_reducible assumption | omega) only [go_sem, Bool.true_and, Bool.and_true, Bool.and_self, Bool.false_and, Bool.and_false, Bool.true_or, Bool.or_true, Bool.false_or, Bool.or_false, ↓reduceIte, Nat.reduceEqDiff, Nat.reduceAdd, Nat.reduceMul, Nat.reduceSub, Nat.reduceBEq, Nat.reduceLeDiff, Nat.reduceLT, Nat.reduceMod, Nat.reduceDiv, Int.reduceToNat, Int.reducePow, Int.reduceMul, Int.reduceAdd, Int.reduceSub, Int.reduceLE, Int.reduceLT, Int.reduceNeg, Int.reduceDiv, Int.reduceMod, Int.reduceEq, Int.reduceBEq, Int.reduceBNe, f6, f6b, f6r0, f6r1, f6r2, f6r3, f6r4, f6r5, f6r6, f6r7, f6r8, f6r9, f6r10, f6r11, f6r12] | (refine BrW.of (fun hb => ?_) (fun hb => ?_) <;> (have hb' := hb; try simp only [decide_eq_true_eq, decide_eq_false_iff_not, beq_iff_eq, bne_iff_ne, beq_eq_false_iff_ne, bne_eq_false_iff_eq, Bool.not_eq_true', Bool.not_eq_false', Bool.not_eq_true, Bool.not_eq_false, Bool.and_eq_true, Bool.or_eq_true, Bool.and_eq_false_iff, Bool.or_eq_false_iff, Int.not_lt, Int.not_le, ne_eq, gt_iff_lt, ge_iff_le] at hb') <;> (try (exfalso; omega))) | (refine altW.of ?_ ?_)
      refine .of (((hA.app [.cells 0 0 false pz, .cells 0 1 false (ints [1073741824, x])]).call (G3.length + 1) [1073741824, x] (by rw [get_new]; rfl) (by simp)).mono ?_)
      rintro v J ⟨X4, rfl, hbad4, hgood4⟩
      obtain rfl := hbad4 hw
      clear hbad4 hgood4
      replace hA := (hA.app [.cells 0 0 false pz, .cells 0 1 false (ints [1073741824, x])]).app X4
      generalize G3 ++ [.cells 0 0 false pz, .cells 0 1 false (ints [1073741824, x])] ++ X4 = G4 at *
      generalize wrongP n d b = e at *
      clear hA
      repeat' first | simp (disch := first | with_reducible assumption | omega) only [go_sem, Bool.true_and, Bool.and_true, Bool.and_self, Bool.false_and, Bool.and_false, Bool.true_or, Bool.or_true, Bool.false_or, Bool.or_false, ↓reduceIte, Nat.reduceEqDiff, Nat.reduceAdd, Nat.reduceMul, Nat.reduceSub, Nat.reduceBEq, Nat.reduceLeDiff, Nat.reduceLT, Nat.reduceMod, Nat.reduceDiv, Int.reduceToNat, Int.reducePow, Int.reduceMul, Int.reduceAdd, Int.reduceSub, Int.reduceLE, Int.reduceLT, Int.reduceNeg, Int.reduceDiv, Int.reduceMod, Int.reduceEq, Int.reduceBEq, Int.reduceBNe, f6, f6b, f6r0, f6r1, f6r2, f6r3, f6r4, f6r5, f6r6, f6r7, f6r8, f6r9, f6r10, f6r11, f6r12] | (refine BrW.of (fun hb => ?_) (fun hb => ?_) <;> (have hb' := hb; try simp only [decide_eq_true_eq, decide_eq_false_iff_not, beq_iff_eq, bne_iff_ne, beq_eq_false_iff_ne, bne_eq_false_iff_eq, Bool.not_eq_true', Bool.not_eq_false', Bool.not_eq_true, Bool.not_eq_false, Bool.and_eq_true, Bool.or_eq_true, Bool.and_eq_false_iff, Bool.or_eq_false_iff, Int.not_lt, Int.not_le, ne_eq, gt_iff_lt, ge_iff_le] at hb') <;> (try (exfalso; omega))) | (refine altW.of ?_ ?_)
      all_goals first | exact .here rfl | (refine .here ?_; simp; done) | (exfalso; omega)
  · repeat' first | simp (disch := first | with_reducible assumption | omega) only [go_sem, Bool.true_and, Bool.and_true, Bool.and_self, Bool.false_and, Bool.and_false, Bool.true_or, Bool.or_true, Bool.false_or, Bool.or_false, ↓reduceIte, Nat.reduceEqDiff, Nat.reduceAdd, Nat.reduceMul, Nat.reduceSub, Nat.reduceBEq, Nat.reduceLeDiff, Nat.reduceLT, Nat.reduceMod, Nat.reduceDiv, Int.reduceToNat, Int.reducePow, Int.reduceMul, Int.reduceAdd, Int.reduceSub, Int.reduceLE, Int.reduceLT, Int.reduceNeg, Int.reduceDiv, Int.reduceMod, Int.reduceEq, Int.reduceBEq, Int.reduceBNe, f6, f6b, f6r0, f6r1, f6r2, f6r3, f6r4, f6r5, f6r6, f6r7, f6r8, f6r9, f6r10, f6r11, f6r12] | (refine BrW.of (fun hb => ?_) (fun hb => ?_) <;> (have hb' := hb; try simp only [decide_eq_true_eq, decide_eq_false_iff_not, beq_iff_eq, bne_iff_ne, beq_eq_false_iff_ne, bne_eq_false_iff_eq, Bool.not_eq_true', Bool.not_eq_false', Bool.not_eq_true, Bool.not_eq_false, Bool.and_eq_true, Bool.or_eq_true, Bool.and_eq_false_iff, Bool.or_eq_false_iff, Int.not_lt, Int.not_le, ne_eq, gt_iff_lt, ge_iff_le] at hb') <;> (try (exfalso; omega))) | (refine altW.of ?_ ?_) | (refine .of ((alive _).mono ?_); rintro v J ⟨rfl, rfl⟩)
    all_goals first | exact .here rfl | (exfalso; omega)
end Go.Proofs.Ytfoooabhfecjhaa
