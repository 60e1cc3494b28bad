import Derived.Test.YtmbcgelfnbnicaaDoorPcA
set_option linter.unusedSimpArgs false
set_option linter.unusedVariables false
set_option maxHeartbeats 2000000
set_option maxRecDepth 20000
namespace Go.Proofs.YtmbcgelfnbnicaaDoor.Pc
open Go Go.Am
attribute [local irreducible] opsW Ww loopW callW drawW outW outDW gW cW BrW bothW vW resW DropW RdW dcallW altW forkW splitW Later.run

def wrongP (n d b : Int) : Int := if (may n d b).right then (if b < 1500 then 2 else 0) else 2
theorem Wrong_spec (n d b : Int) (H : Heap) : ACallK Tryd.prog 22 [.int .i64 n, .int .i64 d, .int .i64 b] H (fun v H' => v = .int .i64 (wrongP n d b) ∧ H' = H) := by
  have hF := Full_spec n d b H
  refine .walkW f22_ok (by simp; decide) (by decide) ?_
  unfold wrongP
  by_cases hr : (may n d b).right
  · rw [if_pos hr] at hF ⊢
    by_cases hb : b < 1500
    · rw [if_pos hb]
      repeat' first | simp (disch := first | with_reducible assumption | omega) only [go_sem, Bool.true_and, Bool.and_true, Bool.and_self, Bool.false_and, Bool.and_false, Bool.true_or, Bool.or_true, Bool.false_or, Bool.or_false, ↓reduceIte, Nat.reduceEqDiff, Nat.reduceAdd, Nat.reduceMul, Nat.reduceSub, Nat.reduceBEq, Nat.reduceLeDiff, Nat.reduceLT, Nat.reduceMod, Nat.reduceDiv, Int.reduceToNat, Int.reducePow, Int.reduceMul, Int.reduceAdd, Int.reduceSub, Int.reduceLE, Int.reduceLT, Int.reduceNeg, Int.reduceDiv, Int.reduceMod, Int.reduceEq, Int.reduceBEq, Int.reduceBNe, f22, f22b, f22r0, f22r1, f22r2, f22r3, f22r4, f22r5, f22r6, ansB, Bk.val] | (refine BrW.of (fun hb => ?_) (fun hb => ?_) <;> (have hb' := hb; try simp only [decide_eq_true_eq, decide_eq_false_iff_not, beq_iff_eq, bne_iff_ne, beq_eq_false_iff_ne, bne_eq_false_iff_eq, Bool.not_eq_true', Bool.not_eq_false', Bool.not_eq_true, Bool.not_eq_false, Bool.and_eq_true, Bool.or_eq_true, Bool.and_eq_false_iff, Bool.or_eq_false_iff, Int.not_lt, Int.not_le, ne_eq, gt_iff_lt, ge_iff_le] at hb') <;> (try (exfalso; omega))) | (refine altW.of ?_ ?_) | (refine .of (hF.mono ?_); rintro v _ ⟨rfl, rfl⟩)
      all_goals exact .back rfl ⟨rfl, rfl⟩
    · rw [if_neg hb]
      repeat' first | simp (disch := first | with_reducible assumption | omega) only [go_sem, Bool.true_and, Bool.and_true, Bool.and_self, Bool.false_and, Bool.and_false, Bool.true_or, Bool.or_true, Bool.false_or, Bool.or_false, ↓reduceIte, Nat.reduceEqDiff, Nat.reduceAdd, Nat.reduceMul, Nat.reduceSub, Nat.reduceBEq, Nat.reduceLeDiff, Nat.reduceLT, Nat.reduceMod, Nat.reduceDiv, Int.reduceToNat, Int.reducePow, Int.reduceMul, Int.reduceAdd, Int.reduceSub, Int.reduceLE, Int.reduceLT, Int.reduceNeg, Int.reduceDiv, Int.reduceMod, Int.reduceEq, Int.reduceBEq, Int.reduceBNe, f22, f22b, f22r0, f22r1, f22r2, f22r3, f22r4, f22r5, f22r6, ansB, Bk.val] | (refine BrW.of (fun hb => ?_) (fun hb => ?_) <;> (have hb' := hb; try simp only [decide_eq_true_eq, decide_eq_false_iff_not, beq_iff_eq, bne_iff_ne, beq_eq_false_iff_ne, bne_eq_false_iff_eq, Bool.not_eq_true', Bool.not_eq_false', Bool.not_eq_true, Bool.not_eq_false, Bool.and_eq_true, Bool.or_eq_true, Bool.and_eq_false_iff, Bool.or_eq_false_iff, Int.not_lt, Int.not_le, ne_eq, gt_iff_lt, ge_iff_le] at hb') <;> (try (exfalso; omega))) | (refine altW.of ?_ ?_) | (refine .of (hF.mono ?_); rintro v _ ⟨rfl, rfl⟩)
      all_goals exact .back rfl ⟨rfl, rfl⟩
  · rw [if_neg hr] at hF ⊢
    repeat' first | simp (disch := first | with_reducible assumption | omega) only [go_sem, Bool.true_and, Bool.and_true, Bool.and_self, Bool.false_and, Bool.and_false, Bool.true_or, Bool.or_true, Bool.false_or, Bool.or_false, ↓reduceIte, Nat.reduceEqDiff, Nat.reduceAdd, Nat.reduceMul, Nat.reduceSub, Nat.reduceBEq, Nat.reduceLeDiff, Nat.reduceLT, Nat.reduceMod, Nat.reduceDiv, Int.reduceToNat, Int.reducePow, Int.reduceMul, Int.reduceAdd, Int.reduceSub, Int.reduceLE, Int.reduceLT, Int.reduceNeg, Int.reduceDiv, Int.reduceMod, Int.reduceEq, Int.reduceBEq, Int.reduceBNe, f22, f22b, f22r0, f22r1, f22r2, f22r3, f22r4, f22r5, f22r6, ansB, Bk.val] | (refine BrW.of (fun hb => ?_) (fun hb => ?_) <;> (have hb' := hb; try simp only [decide_eq_true_eq, decide_eq_false_iff_not, beq_iff_eq, bne_iff_ne, beq_eq_false_iff_ne, bne_eq_false_iff_eq, Bool.not_eq_true', Bool.not_eq_false', Bool.not_eq_true, Bool.not_eq_false, Bool.and_eq_true, Bool.or_eq_true, Bool.and_eq_false_iff, Bool.or_eq_false_iff, Int.not_lt, Int.not_le, ne_eq, gt_iff_lt, ge_iff_le] at hb') <;> (try (exfalso; omega))) | (refine altW.of ?_ ?_) | (refine .of (hF.mono ?_); rintro v _ ⟨rfl, rfl⟩)
    all_goals exact .back rfl ⟨rfl, rfl⟩


def P.val (p : P) (w : Value) : Value := .agg #[w, .int .i64 100, .int .i64 60000, .int .i64 p.dr, .int .i64 p.b.num, .int .i64 p.b.den, .int .i64 p.b.bu, .int .i64 p.b.lv, .int .i64 p.b.at', .int .i64 p.se]
def P.cells (p : P) (w : Value) : List Value := [w, .int .i64 100, .int .i64 60000, .int .i64 p.dr, .int .i64 p.b.num, .int .i64 p.b.den, .int .i64 p.b.bu, .int .i64 p.b.lv, .int .i64 p.b.at', .int .i64 p.se]
def lvl (b : Bk) (lv : Int) : Bk := ⟨b.num, b.den, b.bu, lv, b.at'⟩
def pz : List Value := [.slice none 0 0, .int .i64 0, .int .i64 0, .int .i64 0, .int .i64 0, .int .i64 0, .int .i64 0, .int .i64 0, .int .i64 0, .int .i64 0]

theorem take_now {b : Bk} (h : b.right) {n : Int} (hn : 1 ≤ n ∧ n ≤ 1500) : takeB b ⟨b.at', n⟩ = if n * b.den ≤ b.lv then ({ b with lv := b.lv - n * b.den }, true, 0) else (b, false, 0) := by
  have h0 := h
  obtain ⟨h1, h2, h3, h4, h5, h6, h7, h8, h9, h10⟩ := h
  have hf : filled b b.at' = b := by
    unfold filled
    rw [Int.sub_self, Int.zero_mul, show min 0 (b.bu * b.den - b.lv) = 0 by omega, Int.add_zero]
  have hk : okT b b.at' := ⟨by omega, h10⟩
  unfold takeB fillB
  rw [if_pos h0, if_pos hk, if_pos rfl, if_pos (show okB n from ⟨by omega, by omega⟩), hf]
/-- The slice that was, or one of what is new. -/
def IsY (w0 : Value) (l0 : List Int) (b : Nat) (x : Heap) (w : Value) (l : List Int) : Prop := (w = w0 ∧ l = l0) ∨ IsX b x w l
theorem IsY.is {w0 : Value} {l0 : List Int} {H O x : Heap} {w : Value} {l : List Int} (hI : IsI H w0 l0) (h : IsY w0 l0 (H.length + O.length) x w l) : IsI (H ++ (O ++ x)) w l := by
  rcases h with ⟨rfl, rfl⟩ | h
  · exact hI.app _
  · exact IsX.is (IsX.up h)
theorem IsY.app {w0 : Value} {l0 : List Int} {x : Heap} {b : Nat} {w : Value} {l : List Int} (h : IsY w0 l0 b x w l) (y : Heap) : IsY w0 l0 b (x ++ y) w l := by
  rcases h with h | h
  · exact Or.inl h
  · exact Or.inr (h.app y)

theorem IsY.up {w0 : Value} {l0 : List Int} {b : Nat} {x y : Heap} {w : Value} {l : List Int} (h : IsY w0 l0 (b + x.length) y w l) : IsY w0 l0 b (x ++ y) w l := by
  rcases h with h | h
  · exact Or.inl h
  · exact Or.inr (IsX.up h)
theorem poll_spec (p : P) (w : Value) (room : Int) (H : Heap) (hI : IsI H w p.l) (hq : p.q.right) (hb : p.b.right) (hr : 0 ≤ room ∧ room ≤ 1073741824) (hs : 0 ≤ p.se ∧ p.se ≤ 1099511627776) :
    ACallK Tryd.prog 43 [p.val w, .int .i64 room] H (fun v H' => ∃ (X : Heap) (w' so : Value), H' = H ++ X ∧ v = .tuple #[(pollP p room).val w', so] ∧ IsY w p.l H.length X w' (pollP p room).l ∧ IsX H.length X so (pollL p.b.den p.l p.b.lv room).1) := by
  refine .walkW f43_ok (by simp; decide) (by decide) ?_
  repeat' first | simp (disch := first | with_reducible assumption | omega) only [go_sem, Bool.true_and, Bool.and_true, Bool.and_self, Bool.false_and, Bool.and_false, Bool.true_or, Bool.or_true, Bool.false_or, Bool.or_false, ↓reduceIte, Nat.reduceEqDiff, Nat.reduceAdd, Nat.reduceMul, Nat.reduceSub, Nat.reduceBEq, Nat.reduceLeDiff, Nat.reduceLT, Nat.reduceMod, Nat.reduceDiv, Int.reduceToNat, Int.reducePow, Int.reduceMul, Int.reduceAdd, Int.reduceSub, Int.reduceLE, Int.reduceLT, Int.reduceNeg, Int.reduceDiv, Int.reduceMod, Int.reduceEq, Int.reduceBEq, Int.reduceBNe, f43, f43b, f43r0, f43r1, f43r2, f43r3, f43r4, f43r5, f43r6, f43r7, f43r8, f43r9, f43r10, f43r11, f43r12, f43r14, P.val] | (refine BrW.of (fun hb => ?_) (fun hb => ?_) <;> (have hb' := hb; try simp only [decide_eq_true_eq, decide_eq_false_iff_not, beq_iff_eq, bne_iff_ne, beq_eq_false_iff_ne, bne_eq_false_iff_eq, Bool.not_eq_true', Bool.not_eq_false', Bool.not_eq_true, Bool.not_eq_false, Bool.and_eq_true, Bool.or_eq_true, Bool.and_eq_false_iff, Bool.or_eq_false_iff, Int.not_lt, Int.not_le, ne_eq, gt_iff_lt, ge_iff_le] at hb') <;> (try (exfalso; omega))) | (refine altW.of ?_ ?_)
  refine loopW.ghost 6 1 rfl ?_
  simp (disch := first | with_reducible assumption | omega) only [go_sem, Bool.true_and, Bool.and_true, Bool.and_self, Bool.false_and, Bool.and_false, Bool.true_or, Bool.or_true, Bool.false_or, Bool.or_false, ↓reduceIte, Nat.reduceEqDiff, Nat.reduceAdd, Nat.reduceMul, Nat.reduceSub, Nat.reduceBEq, Nat.reduceLeDiff, Nat.reduceLT, Nat.reduceMod, Nat.reduceDiv, Int.reduceToNat, Int.reducePow, Int.reduceMul, Int.reduceAdd, Int.reduceSub, Int.reduceLE, Int.reduceLT, Int.reduceNeg, Int.reduceDiv, Int.reduceMod, Int.reduceEq, Int.reduceBEq, Int.reduceBNe]
  refine loopW.of (by decide) (fun m e J => ∃ (g : Nat) (lc out : List Int) (lv rm : Int) (wc : Value) (x : Heap), e = [(1, .int .i64 rm), (2, .pointer (some ⟨H.length, 0, some 1⟩)), (4, .pointer (some ⟨H.length + 1, 0, some 1⟩)), (6, slv (H.length + 2) 0 g out.length out.length)] ∧
    J = H ++ (.cells 0 0 false (P.cells ⟨lc, p.dr, lvl p.b lv, p.se + out.sum⟩ wc) :: .cells 0 0 false pz :: .cells g 1 false (ints out) :: x) ∧ m = lc.length ∧ IsY w p.l (H.length + 3) x wc lc ∧ out ++ lc = p.l ∧
    0 ≤ rm ∧ rm ≤ room ∧ 0 ≤ out.sum ∧ (lvl p.b lv).right ∧ pollL p.b.den p.l p.b.lv room = (out ++ (pollL p.b.den lc lv rm).1, (pollL p.b.den lc lv rm).2)) p.l.length ⟨0, p.l, [], p.b.lv, room, w, [], rfl, by simp [P.cells, pz, ints, lvl], rfl, Or.inl ⟨rfl, rfl⟩, rfl, hr.1, by omega, by simp, hb, by simp⟩ ?_
  rintro m e J ⟨g, lc, out, lv, rm, wc, x, rfl, rfl, rfl, hY, hol, h1, h2, h3, hbr, hp⟩
  have hI' : IsI (H ++ (.cells 0 0 false (P.cells ⟨lc, p.dr, lvl p.b lv, p.se + out.sum⟩ wc) :: .cells 0 0 false pz :: .cells g 1 false (ints out) :: x)) wc lc := IsY.is hI hY (O := [.cells 0 0 false (P.cells ⟨lc, p.dr, lvl p.b lv, p.se + out.sum⟩ wc), .cells 0 0 false pz, .cells g 1 false (ints out)])
  have hstop : ∀ (K : Prop), pollL p.b.den p.l p.b.lv room = (out, lc, lv) → (pollP p room = ⟨lc, p.dr, lvl p.b lv, p.se + out.sum⟩ → (pollL p.b.den p.l p.b.lv room).1 = out → K) → K := fun K h f => f (by unfold pollP; rw [h]; rfl) (by rw [h])
  have hYX : IsY w p.l H.length (.cells 0 0 false (P.cells ⟨lc, p.dr, lvl p.b lv, p.se + out.sum⟩ wc) :: .cells 0 0 false (P.cells ⟨lc, p.dr, lvl p.b lv, p.se + out.sum⟩ wc) :: .cells g 1 false (ints out) :: x) wc lc := by
    rcases hY with h | h
    · exact Or.inl h
    · exact Or.inr (IsX.up (x := [.cells 0 0 false (P.cells ⟨lc, p.dr, lvl p.b lv, p.se + out.sum⟩ wc), .cells 0 0 false (P.cells ⟨lc, p.dr, lvl p.b lv, p.se + out.sum⟩ wc), .cells g 1 false (ints out)]) h)
  have hXo : IsX H.length (.cells 0 0 false (P.cells ⟨lc, p.dr, lvl p.b lv, p.se + out.sum⟩ wc) :: .cells 0 0 false (P.cells ⟨lc, p.dr, lvl p.b lv, p.se + out.sum⟩ wc) :: .cells g 1 false (ints out) :: x) (slv (H.length + 2) 0 g out.length out.length) out := Or.inr ⟨2, g, rfl, rfl⟩
  simp only [P.cells, pz] at hI'
  cases lc with
  | nil =>
    have hpe : pollL p.b.den p.l p.b.lv room = (out, [], lv) := by rw [hp]; simp [pollL]
    refine hstop _ hpe fun e1 e2 => ?_
    rcases hI' with ⟨rfl, _⟩ | ⟨k, o, g', c, rfl, hi, hc⟩
    · clear hstop hpe hp hY hol
      repeat' first | simp (disch := first | with_reducible assumption | omega) only [go_sem, Bool.true_and, Bool.and_true, Bool.and_self, Bool.false_and, Bool.and_false, Bool.true_or, Bool.or_true, Bool.false_or, Bool.or_false, ↓reduceIte, Nat.reduceEqDiff, Nat.reduceAdd, Nat.reduceMul, Nat.reduceSub, Nat.reduceBEq, Nat.reduceLeDiff, Nat.reduceLT, Nat.reduceMod, Nat.reduceDiv, Int.reduceToNat, Int.reducePow, Int.reduceMul, Int.reduceAdd, Int.reduceSub, Int.reduceLE, Int.reduceLT, Int.reduceNeg, Int.reduceDiv, Int.reduceMod, Int.reduceEq, Int.reduceBEq, Int.reduceBNe, f43, f43b, f43r0, f43r1, f43r2, f43r3, f43r4, f43r5, f43r6, f43r7, f43r8, f43r9, f43r10, f43r11, f43r12, f43r14, f43l0, f43, f43b, f43r0, f43r1, f43r2, f43r3, f43r4, f43r5, f43r6, f43r7, f43r8, f43r9, f43r10, f43r11, f43r12, f43r14, P.cells, pz] | (refine BrW.of (fun hb => ?_) (fun hb => ?_) <;> (have hb' := hb; try simp only [decide_eq_true_eq, decide_eq_false_iff_not, beq_iff_eq, bne_iff_ne, beq_eq_false_iff_ne, bne_eq_false_iff_eq, Bool.not_eq_true', Bool.not_eq_false', Bool.not_eq_true, Bool.not_eq_false, Bool.and_eq_true, Bool.or_eq_true, Bool.and_eq_false_iff, Bool.or_eq_false_iff, Int.not_lt, Int.not_le, ne_eq, gt_iff_lt, ge_iff_le] at hb') <;> (try (exfalso; omega))) | (refine altW.of ?_ ?_)
      exact .here ⟨_, _, _, rfl, by rw [e1]; rfl, by rw [e1]; exact hYX, by rw [e2]; exact hXo⟩
    · obtain ⟨ro, cs, hk, hcl, hcs⟩ := hi.cell
      simp only [List.length_nil] at hk
      clear hstop hpe hp hY hol
      repeat' first | simp (disch := first | with_reducible assumption | omega) only [go_sem, Bool.true_and, Bool.and_true, Bool.and_self, Bool.false_and, Bool.and_false, Bool.true_or, Bool.or_true, Bool.false_or, Bool.or_false, ↓reduceIte, Nat.reduceEqDiff, Nat.reduceAdd, Nat.reduceMul, Nat.reduceSub, Nat.reduceBEq, Nat.reduceLeDiff, Nat.reduceLT, Nat.reduceMod, Nat.reduceDiv, Int.reduceToNat, Int.reducePow, Int.reduceMul, Int.reduceAdd, Int.reduceSub, Int.reduceLE, Int.reduceLT, Int.reduceNeg, Int.reduceDiv, Int.reduceMod, Int.reduceEq, Int.reduceBEq, Int.reduceBNe, f43, f43b, f43r0, f43r1, f43r2, f43r3, f43r4, f43r5, f43r6, f43r7, f43r8, f43r9, f43r10, f43r11, f43r12, f43r14, f43l0, f43, f43b, f43r0, f43r1, f43r2, f43r3, f43r4, f43r5, f43r6, f43r7, f43r8, f43r9, f43r10, f43r11, f43r12, f43r14, P.cells, pz, hk] | (refine BrW.of (fun hb => ?_) (fun hb => ?_) <;> (have hb' := hb; try simp only [decide_eq_true_eq, decide_eq_false_iff_not, beq_iff_eq, bne_iff_ne, beq_eq_false_iff_ne, bne_eq_false_iff_eq, Bool.not_eq_true', Bool.not_eq_false', Bool.not_eq_true, Bool.not_eq_false, Bool.and_eq_true, Bool.or_eq_true, Bool.and_eq_false_iff, Bool.or_eq_false_iff, Int.not_lt, Int.not_le, ne_eq, gt_iff_lt, ge_iff_le] at hb') <;> (try (exfalso; omega))) | (refine altW.of ?_ ?_)
      exact .here ⟨_, _, _, rfl, by rw [e1]; rfl, by rw [e1]; exact hYX, by rw [e2]; exact hXo⟩
  | cons n r =>
    have hmem : n ∈ p.l := by rw [← hol]; simp
    have hsub : ∀ y ∈ n :: r, y ∈ p.l := fun y hy => by rw [← hol]; exact List.mem_append_right _ hy
    obtain ⟨q1, q2, q3, q4, q5, q6, q7, q8, q9⟩ := hq
    have hn : 1 ≤ n ∧ n ≤ 1500 := q8 n hmem
    have hlen : out.length + (r.length + 1) = p.l.length := by rw [← hol]; simp
    have hpl : (p.l.length : Int) ≤ 100 := q7
    have hpsum : p.l.sum ≤ 60000 := q9
    have hsum : out.sum + (n + r.sum) = p.l.sum := by rw [← hol]; simp
    have hrs : 0 ≤ r.sum := (sum_bound r fun y hy => q8 y (hsub y (by simp [hy]))).1
    have hqr : Q.right ⟨n :: r, 100, 60000, p.dr⟩ := ⟨q1, q2, q3, q4, q5, q6, by simp; omega, fun y hy => q8 y (hsub y hy), by simp only [List.sum_cons]; omega⟩
    rcases hI' with ⟨_, hno⟩ | ⟨k, o, g', c, rfl, hi, hc⟩
    · cases hno
    obtain ⟨ro, cs, hk, hcl, hcs⟩ := hi.cell
    simp only [List.length_cons] at hk
    have e0 := hcs 0 (by simp)
    simp only [Nat.add_zero, List.getD_cons_zero] at e0
    by_cases ha : rm < n
    · have hpe : pollL p.b.den p.l p.b.lv room = (out, n :: r, lv) := by rw [hp]; unfold pollL; rw [if_pos (Or.inl ha)]; simp
      refine hstop _ hpe fun e1 e2 => ?_
      clear hstop hpe hp hY hol hcs
      repeat' first | simp (disch := first | with_reducible assumption | omega) only [go_sem, Bool.true_and, Bool.and_true, Bool.and_self, Bool.false_and, Bool.and_false, Bool.true_or, Bool.or_true, Bool.false_or, Bool.or_false, ↓reduceIte, Nat.reduceEqDiff, Nat.reduceAdd, Nat.reduceMul, Nat.reduceSub, Nat.reduceBEq, Nat.reduceLeDiff, Nat.reduceLT, Nat.reduceMod, Nat.reduceDiv, Int.reduceToNat, Int.reducePow, Int.reduceMul, Int.reduceAdd, Int.reduceSub, Int.reduceLE, Int.reduceLT, Int.reduceNeg, Int.reduceDiv, Int.reduceMod, Int.reduceEq, Int.reduceBEq, Int.reduceBNe, f43, f43b, f43r0, f43r1, f43r2, f43r3, f43r4, f43r5, f43r6, f43r7, f43r8, f43r9, f43r10, f43r11, f43r12, f43r14, f43l0, f43, f43b, f43r0, f43r1, f43r2, f43r3, f43r4, f43r5, f43r6, f43r7, f43r8, f43r9, f43r10, f43r11, f43r12, f43r14, P.cells, pz, hk, e0] | (refine BrW.of (fun hb => ?_) (fun hb => ?_) <;> (have hb' := hb; try simp only [decide_eq_true_eq, decide_eq_false_iff_not, beq_iff_eq, bne_iff_ne, beq_eq_false_iff_ne, bne_eq_false_iff_eq, Bool.not_eq_true', Bool.not_eq_false', Bool.not_eq_true, Bool.not_eq_false, Bool.and_eq_true, Bool.or_eq_true, Bool.and_eq_false_iff, Bool.or_eq_false_iff, Int.not_lt, Int.not_le, ne_eq, gt_iff_lt, ge_iff_le] at hb') <;> (try (exfalso; omega))) | (refine altW.of ?_ ?_)
      all_goals exact .here ⟨_, _, _, rfl, by rw [e1]; rfl, by rw [e1]; exact hYX, by rw [e2]; exact hXo⟩
    · have hT := fun X => Take_spec (lvl p.b lv) ⟨(lvl p.b lv).at', n⟩ X
      rw [take_now hbr hn] at hT
      by_cases hlv : n * p.b.den ≤ lv
      · have hlv' : n * (lvl p.b lv).den ≤ (lvl p.b lv).lv := hlv
        rw [if_pos hlv'] at hT
        have hSt := Step_u ⟨n :: r, 100, 60000, p.dr⟩ ⟨2, 0⟩ (slv k o g' (n :: r).length c) _ (Or.inr ⟨k, o, g', c, rfl, hi.app [.cells 0 0 false (Bk.cells ⟨p.b.num, p.b.den, p.b.bu, lv - n * p.b.den, p.b.at'⟩)], hc⟩) (by show (n :: r).length ≤ _; simp; omega)
        have hso : stepO ⟨n :: r, 100, 60000, p.dr⟩ ⟨2, 0⟩ = some (⟨r, 100, 60000, p.dr⟩, n) := by unfold stepO; simp only [if_pos hqr]; rfl
        rw [hso] at hSt
        simp only [List.append_assoc, List.cons_append, List.nil_append, List.length_cons, Q.val, O.val, Bk.cells, lvl, P.cells, pz] at hSt hT hk
        clear hstop
        repeat' first | simp (disch := first | with_reducible assumption | omega) only [go_sem, Bool.true_and, Bool.and_true, Bool.and_self, Bool.false_and, Bool.and_false, Bool.true_or, Bool.or_true, Bool.false_or, Bool.or_false, ↓reduceIte, Nat.reduceEqDiff, Nat.reduceAdd, Nat.reduceMul, Nat.reduceSub, Nat.reduceBEq, Nat.reduceLeDiff, Nat.reduceLT, Nat.reduceMod, Nat.reduceDiv, Int.reduceToNat, Int.reducePow, Int.reduceMul, Int.reduceAdd, Int.reduceSub, Int.reduceLE, Int.reduceLT, Int.reduceNeg, Int.reduceDiv, Int.reduceMod, Int.reduceEq, Int.reduceBEq, Int.reduceBNe, f43, f43b, f43r0, f43r1, f43r2, f43r3, f43r4, f43r5, f43r6, f43r7, f43r8, f43r9, f43r10, f43r11, f43r12, f43r14, f43l0, f43, f43b, f43r0, f43r1, f43r2, f43r3, f43r4, f43r5, f43r6, f43r7, f43r8, f43r9, f43r10, f43r11, f43r12, f43r14, P.cells, pz, lvl, hk, e0, ansT, Bk.val] | (refine BrW.of (fun hb => ?_) (fun hb => ?_) <;> (have hb' := hb; try simp only [decide_eq_true_eq, decide_eq_false_iff_not, beq_iff_eq, bne_iff_ne, beq_eq_false_iff_ne, bne_eq_false_iff_eq, Bool.not_eq_true', Bool.not_eq_false', Bool.not_eq_true, Bool.not_eq_false, Bool.and_eq_true, Bool.or_eq_true, Bool.and_eq_false_iff, Bool.or_eq_false_iff, Int.not_lt, Int.not_le, ne_eq, gt_iff_lt, ge_iff_le] at hb') <;> (try (exfalso; omega))) | (refine altW.of ?_ ?_) | (refine .of ((hT _).mono ?_); rintro v _ ⟨rfl, rfl⟩)
        refine .of (hSt.mono ?_)
        rintro v J ⟨X', q', w', r', e, rfl, rfl, hX', he0, he1⟩
        have z : e = 0 := by
          by_cases z : e = 0
          · exact z
          · cases (he1 z).1
        subst z
        have hq' := he0 rfl
        simp only [Option.some.injEq, Prod.mk.injEq] at hq'
        obtain ⟨rfl, rfl⟩ := hq'
        have hl3 : ∀ A B C D : AObj, List.length (H ++ (A :: B :: C :: (x ++ [D]))) = H.length + 3 + (x ++ [D]).length := fun A B C D => by simp; omega
        rw [hl3] at hX'
        have hX2 : IsX (H.length + 3) (x ++ AObj.cells 0 0 false [Value.int IntKind.i64 p.b.num, Value.int IntKind.i64 p.b.den, Value.int IntKind.i64 p.b.bu, Value.int IntKind.i64 (lv - n * p.b.den), Value.int IntKind.i64 p.b.at'] :: X') w' r := by have := IsX.up hX'; simpa using this
        have hop2 : (x ++ AObj.cells 0 0 false [Value.int IntKind.i64 p.b.num, Value.int IntKind.i64 p.b.den, Value.int IntKind.i64 p.b.bu, Value.int IntKind.i64 (lv - n * p.b.den), Value.int IntKind.i64 p.b.at'] :: X')[x.length]? = some (AObj.cells 0 0 false [Value.int IntKind.i64 p.b.num, Value.int IntKind.i64 p.b.den, Value.int IntKind.i64 p.b.bu, Value.int IntKind.i64 (lv - n * p.b.den), Value.int IntKind.i64 p.b.at']) := get_new0 _ _ _
        have il := ints_length out
        have hni : ¬ out.length + 1 ≤ out.length := by omega
        have htk := ints_take out out.length (Nat.le_refl _)
        have hb2 : (lvl p.b (lv - n * p.b.den)).right := by
          obtain ⟨b1, b2, b3, b4, b5, b6, b7, b8, b9, b10⟩ := hbr
          have hnd := Int.mul_nonneg (show 0 ≤ n by omega) (show 0 ≤ p.b.den by have : 1 ≤ p.b.den := b3; omega)
          have b8' : lv ≤ p.b.bu * p.b.den := b8
          exact ⟨b1, b2, b3, b4, b5, b6, by show 0 ≤ lv - n * p.b.den; omega, by show lv - n * p.b.den ≤ p.b.bu * p.b.den; omega, b9, b10⟩
        have hp2 : pollL p.b.den p.l p.b.lv room = ((out ++ [n]) ++ (pollL p.b.den r (lv - n * p.b.den) (rm - n)).1, (pollL p.b.den r (lv - n * p.b.den) (rm - n)).2) := by
          rw [hp]
          conv => lhs; unfold pollL
          rw [if_neg (by omega)]
          simp
        clear hX' hl3 hSt hT hI hi hp hbr hlv hlv' hYX hXo hY hcs hk e0 hso hqr hsub hmem q8 he0 he1
        generalize x ++ AObj.cells 0 0 false [Value.int IntKind.i64 p.b.num, Value.int IntKind.i64 p.b.den, Value.int IntKind.i64 p.b.bu, Value.int IntKind.i64 (lv - n * p.b.den), Value.int IntKind.i64 p.b.at'] :: X' = y at *
        generalize hz : lv - n * p.b.den = z at *
        repeat' first | simp (disch := first | with_reducible assumption | omega) only [go_sem, Bool.true_and, Bool.and_true, Bool.and_self, Bool.false_and, Bool.and_false, Bool.true_or, Bool.or_true, Bool.false_or, Bool.or_false, ↓reduceIte, Nat.reduceEqDiff, Nat.reduceAdd, Nat.reduceMul, Nat.reduceSub, Nat.reduceBEq, Nat.reduceLeDiff, Nat.reduceLT, Nat.reduceMod, Nat.reduceDiv, Int.reduceToNat, Int.reducePow, Int.reduceMul, Int.reduceAdd, Int.reduceSub, Int.reduceLE, Int.reduceLT, Int.reduceNeg, Int.reduceDiv, Int.reduceMod, Int.reduceEq, Int.reduceBEq, Int.reduceBNe, f43, f43b, f43r0, f43r1, f43r2, f43r3, f43r4, f43r5, f43r6, f43r7, f43r8, f43r9, f43r10, f43r11, f43r12, f43r14, f43l0, f43, f43b, f43r0, f43r1, f43r2, f43r3, f43r4, f43r5, f43r6, f43r7, f43r8, f43r9, f43r10, f43r11, f43r12, f43r14, hop2, get_old hop2, il, hni, htk] | (refine BrW.of (fun hb => ?_) (fun hb => ?_) <;> (have hb' := hb; try simp only [decide_eq_true_eq, decide_eq_false_iff_not, beq_iff_eq, bne_iff_ne, beq_eq_false_iff_ne, bne_eq_false_iff_eq, Bool.not_eq_true', Bool.not_eq_false', Bool.not_eq_true, Bool.not_eq_false, Bool.and_eq_true, Bool.or_eq_true, Bool.and_eq_false_iff, Bool.or_eq_false_iff, Int.not_lt, Int.not_le, ne_eq, gt_iff_lt, ge_iff_le] at hb') <;> (try (exfalso; omega))) | (refine altW.of ?_ ?_)
        refine RdW.keep [1, 2, 4, 6] r.length (by omega) ?_
        simp (disch := first | with_reducible assumption | omega) only [go_sem, Bool.true_and, Bool.and_true, Bool.and_self, Bool.false_and, Bool.and_false, Bool.true_or, Bool.or_true, Bool.false_or, Bool.or_false, ↓reduceIte, Nat.reduceEqDiff, Nat.reduceAdd, Nat.reduceMul, Nat.reduceSub, Nat.reduceBEq, Nat.reduceLeDiff, Nat.reduceLT, Nat.reduceMod, Nat.reduceDiv, Int.reduceToNat, Int.reducePow, Int.reduceMul, Int.reduceAdd, Int.reduceSub, Int.reduceLE, Int.reduceLT, Int.reduceNeg, Int.reduceDiv, Int.reduceMod, Int.reduceEq, Int.reduceBEq, Int.reduceBNe]
        have hol2 : (out ++ [n]) ++ r = p.l := by rw [← hol]; simp
        have hse : p.se + out.sum + n = p.se + (out ++ [n]).sum := by rw [sum_app, List.sum_cons, List.sum_nil]; omega
        have h32 : 0 ≤ (out ++ [n]).sum := by rw [sum_app, List.sum_cons, List.sum_nil]; omega
        exact ⟨g + 1, r, out ++ [n], z, rm - n, w', _, by rw [List.length_append]; rfl, by rw [← ints_snoc, ← hse]; rfl, rfl, IsY.app (Or.inr hX2) _, hol2, by omega, by omega, h32, hb2, hp2⟩
      · have hpe : pollL p.b.den p.l p.b.lv room = (out, n :: r, lv) := by rw [hp]; unfold pollL; rw [if_pos (Or.inr (by omega))]; simp
        have hlv' : ¬ n * (lvl p.b lv).den ≤ (lvl p.b lv).lv := hlv
        rw [if_neg hlv'] at hT
        refine hstop _ hpe fun e1 e2 => ?_
        clear hstop hpe hp hY hol hcs hlv hlv'
        repeat' first | simp (disch := first | with_reducible assumption | omega) only [go_sem, Bool.true_and, Bool.and_true, Bool.and_self, Bool.false_and, Bool.and_false, Bool.true_or, Bool.or_true, Bool.false_or, Bool.or_false, ↓reduceIte, Nat.reduceEqDiff, Nat.reduceAdd, Nat.reduceMul, Nat.reduceSub, Nat.reduceBEq, Nat.reduceLeDiff, Nat.reduceLT, Nat.reduceMod, Nat.reduceDiv, Int.reduceToNat, Int.reducePow, Int.reduceMul, Int.reduceAdd, Int.reduceSub, Int.reduceLE, Int.reduceLT, Int.reduceNeg, Int.reduceDiv, Int.reduceMod, Int.reduceEq, Int.reduceBEq, Int.reduceBNe, f43, f43b, f43r0, f43r1, f43r2, f43r3, f43r4, f43r5, f43r6, f43r7, f43r8, f43r9, f43r10, f43r11, f43r12, f43r14, f43l0, f43, f43b, f43r0, f43r1, f43r2, f43r3, f43r4, f43r5, f43r6, f43r7, f43r8, f43r9, f43r10, f43r11, f43r12, f43r14, P.cells, pz, hk, e0, ansT, Bk.val] | (refine BrW.of (fun hb => ?_) (fun hb => ?_) <;> (have hb' := hb; try simp only [decide_eq_true_eq, decide_eq_false_iff_not, beq_iff_eq, bne_iff_ne, beq_eq_false_iff_ne, bne_eq_false_iff_eq, Bool.not_eq_true', Bool.not_eq_false', Bool.not_eq_true, Bool.not_eq_false, Bool.and_eq_true, Bool.or_eq_true, Bool.and_eq_false_iff, Bool.or_eq_false_iff, Int.not_lt, Int.not_le, ne_eq, gt_iff_lt, ge_iff_le] at hb') <;> (try (exfalso; omega))) | (refine altW.of ?_ ?_) | (refine .of ((hT _).mono ?_); rintro v _ ⟨rfl, rfl⟩)
        all_goals exact .here ⟨_, _, _, rfl, by rw [e1]; rfl, by rw [e1]; exact hYX.app _, by rw [e2]; exact hXo.app _⟩


theorem fails_spec (e : Int) (K : Nat) (cs : List Value) (w a1 a2 a3 a4 a5 a6 a7 a8 a9 : Value) (H : Heap) (hk : H[K]? = some (.cells 0 0 false [w, a1, a2, a3, a4, a5, a6, a7, a8, a9])) :
    ACallK Tryd.prog 40 [.int .i64 e, .pointer (some ⟨K, 0, some 1⟩)] H (fun v H' => v = .tuple #[.agg #[w, a1, a2, a3, a4, a5, a6, a7, a8, a9], .agg #[.int .i64 e, .slice none 0 0]] ∧ H' = H ++ [.cells 0 0 false [w, a1, a2, a3, a4, a5, a6, a7, a8, a9], .cells 0 0 false [.int .i64 e, .slice none 0 0]]) := by
  refine .walkW f40_ok (by simp; decide) (by decide) ?_
  repeat' first | simp (disch := first | with_reducible assumption | omega) only [go_sem, Bool.true_and, Bool.and_true, Bool.and_self, Bool.false_and, Bool.and_false, Bool.true_or, Bool.or_true, Bool.false_or, Bool.or_false, ↓reduceIte, Nat.reduceEqDiff, Nat.reduceAdd, Nat.reduceMul, Nat.reduceSub, Nat.reduceBEq, Nat.reduceLeDiff, Nat.reduceLT, Nat.reduceMod, Nat.reduceDiv, Int.reduceToNat, Int.reducePow, Int.reduceMul, Int.reduceAdd, Int.reduceSub, Int.reduceLE, Int.reduceLT, Int.reduceNeg, Int.reduceDiv, Int.reduceMod, Int.reduceEq, Int.reduceBEq, Int.reduceBNe, f40, f40b, f40r0, f40r1, hk, get_old hk] | (refine BrW.of (fun hb => ?_) (fun hb => ?_) <;> (have hb' := hb; try simp only [decide_eq_true_eq, decide_eq_false_iff_not, beq_iff_eq, bne_iff_ne, beq_eq_false_iff_ne, bne_eq_false_iff_eq, Bool.not_eq_true', Bool.not_eq_false', Bool.not_eq_true, Bool.not_eq_false, Bool.and_eq_true, Bool.or_eq_true, Bool.and_eq_false_iff, Bool.or_eq_false_iff, Int.not_lt, Int.not_le, ne_eq, gt_iff_lt, ge_iff_le] at hb') <;> (try (exfalso; omega))) | (refine altW.of ?_ ?_)
  exact .here ⟨rfl, rfl⟩

/-- What do answers. -/
def DoR (p : P) (o : O) (w : Value) (H : Heap) (v : Value) (H' : Heap) : Prop := ∃ (X : Heap) (w' so : Value), H' = H ++ X ∧ v = .tuple #[(doP p o).1.val w', .agg #[.int .i64 (doP p o).2.1, so]] ∧ IsY w p.l H.length X w' (doP p o).1.l ∧ IsX H.length X so (doP p o).2.2

theorem do_tick (p : P) (o : O) (w : Value) (H : Heap) (hI : IsI H w p.l) (hb : p.b.right) (hk : o.k = 2) : ACallK Tryd.prog 24 [p.val w, o.val] H (DoR p o w H) := by
  obtain ⟨k, n⟩ := o
  obtain rfl : k = 2 := hk
  have hF := fun X => Fill_spec p.b (tickT p.b n) X
  refine .walkW f24_ok (by simp; decide) (by decide) ?_
  by_cases hn : 0 ≤ n ∧ n ≤ 1099511627776
  · have hd : doP p ⟨2, n⟩ = ({ p with b := filled p.b (tickT p.b n) }, 0, []) := by unfold doP; rw [if_neg (by simp), if_pos rfl, if_pos hn]
    have hok := okT_tick hb hn.1
    have hf : fillB p.b (tickT p.b n) = (filled p.b (tickT p.b n), 0) := by unfold fillB; rw [if_pos hb, if_pos hok]
    rw [hf] at hF
    obtain ⟨b1, b2, b3, b4, b5, b6, b7, b8, b9, b10⟩ := hb
    unfold tickT at hF hd
    clear hok hf
    generalize hfb : filled p.b (min (p.b.at' + n) 1099511627776) = fb at *
    clear hfb
    repeat' first | simp (disch := first | with_reducible assumption | omega) only [go_sem, Bool.true_and, Bool.and_true, Bool.and_self, Bool.false_and, Bool.and_false, Bool.true_or, Bool.or_true, Bool.false_or, Bool.or_false, ↓reduceIte, Nat.reduceEqDiff, Nat.reduceAdd, Nat.reduceMul, Nat.reduceSub, Nat.reduceBEq, Nat.reduceLeDiff, Nat.reduceLT, Nat.reduceMod, Nat.reduceDiv, Int.reduceToNat, Int.reducePow, Int.reduceMul, Int.reduceAdd, Int.reduceSub, Int.reduceLE, Int.reduceLT, Int.reduceNeg, Int.reduceDiv, Int.reduceMod, Int.reduceEq, Int.reduceBEq, Int.reduceBNe, f24, f24b, f24r0, f24r1, f24r2, f24r3, f24r4, f24r5, f24r6, f24r7, f24r8, f24r9, f24r10, f24r11, f24r12, f24r13, f24r14, f24r15, f24r16, f24r17, f24r18, f24r19, f24r20, f24r21, f24r22, f24r23, P.val, O.val, ansB, Bk.val] | (refine BrW.of (fun hb => ?_) (fun hb => ?_) <;> (have hb' := hb; try simp only [decide_eq_true_eq, decide_eq_false_iff_not, beq_iff_eq, bne_iff_ne, beq_eq_false_iff_ne, bne_eq_false_iff_eq, Bool.not_eq_true', Bool.not_eq_false', Bool.not_eq_true, Bool.not_eq_false, Bool.and_eq_true, Bool.or_eq_true, Bool.and_eq_false_iff, Bool.or_eq_false_iff, Int.not_lt, Int.not_le, ne_eq, gt_iff_lt, ge_iff_le] at hb') <;> (try (exfalso; omega))) | (refine altW.of ?_ ?_) | (refine .of ((hF _).mono ?_); rintro v _ ⟨rfl, rfl⟩)
    all_goals exact .here ⟨_, w, .slice none 0 0, rfl, by rw [hd]; rfl, by rw [hd]; exact Or.inl ⟨rfl, rfl⟩, by rw [hd]; exact Or.inl ⟨rfl, rfl⟩⟩
  · have hd : doP p ⟨2, n⟩ = (p, 2, []) := by unfold doP; rw [if_neg (by simp), if_pos rfl, if_neg hn]
    have hfl := fun (X : Heap) (h : X[H.length]? = some (.cells 0 0 false [w, .int .i64 100, .int .i64 60000, .int .i64 p.dr, .int .i64 p.b.num, .int .i64 p.b.den, .int .i64 p.b.bu, .int .i64 p.b.lv, .int .i64 p.b.at', .int .i64 p.se])) => fails_spec 2 H.length [] _ _ _ _ _ _ _ _ _ _ X h
    clear hF hb
    repeat' first | simp (disch := first | with_reducible assumption | omega) only [go_sem, Bool.true_and, Bool.and_true, Bool.and_self, Bool.false_and, Bool.and_false, Bool.true_or, Bool.or_true, Bool.false_or, Bool.or_false, ↓reduceIte, Nat.reduceEqDiff, Nat.reduceAdd, Nat.reduceMul, Nat.reduceSub, Nat.reduceBEq, Nat.reduceLeDiff, Nat.reduceLT, Nat.reduceMod, Nat.reduceDiv, Int.reduceToNat, Int.reducePow, Int.reduceMul, Int.reduceAdd, Int.reduceSub, Int.reduceLE, Int.reduceLT, Int.reduceNeg, Int.reduceDiv, Int.reduceMod, Int.reduceEq, Int.reduceBEq, Int.reduceBNe, f24, f24b, f24r0, f24r1, f24r2, f24r3, f24r4, f24r5, f24r6, f24r7, f24r8, f24r9, f24r10, f24r11, f24r12, f24r13, f24r14, f24r15, f24r16, f24r17, f24r18, f24r19, f24r20, f24r21, f24r22, f24r23, P.val, O.val] | (refine BrW.of (fun hb => ?_) (fun hb => ?_) <;> (have hb' := hb; try simp only [decide_eq_true_eq, decide_eq_false_iff_not, beq_iff_eq, bne_iff_ne, beq_eq_false_iff_ne, bne_eq_false_iff_eq, Bool.not_eq_true', Bool.not_eq_false', Bool.not_eq_true, Bool.not_eq_false, Bool.and_eq_true, Bool.or_eq_true, Bool.and_eq_false_iff, Bool.or_eq_false_iff, Int.not_lt, Int.not_le, ne_eq, gt_iff_lt, ge_iff_le] at hb') <;> (try (exfalso; omega))) | (refine altW.of ?_ ?_) | (refine .of ((hfl _ (get_new0 _ _ _)).mono ?_); rintro v _ ⟨rfl, rfl⟩)
    all_goals exact .here ⟨_, w, .slice none 0 0, rfl, by rw [hd]; rfl, by rw [hd]; exact Or.inl ⟨rfl, rfl⟩, by rw [hd]; exact Or.inl ⟨rfl, rfl⟩⟩


theorem do_else (p : P) (o : O) (w : Value) (H : Heap) (hI : IsI H w p.l) (h1 : o.k ≠ 1) (h2 : o.k ≠ 2) (h3 : o.k ≠ 3) : ACallK Tryd.prog 24 [p.val w, o.val] H (DoR p o w H) := by
  obtain ⟨k, n⟩ := o
  simp only at h1 h2 h3
  have hd : doP p ⟨k, n⟩ = (p, 5, []) := by unfold doP; rw [if_neg h1, if_neg h2, if_neg h3]
  have hfl := fun (X : Heap) (h : X[H.length]? = some (.cells 0 0 false [w, .int .i64 100, .int .i64 60000, .int .i64 p.dr, .int .i64 p.b.num, .int .i64 p.b.den, .int .i64 p.b.bu, .int .i64 p.b.lv, .int .i64 p.b.at', .int .i64 p.se])) => fails_spec 5 H.length [] _ _ _ _ _ _ _ _ _ _ X h
  refine .walkW f24_ok (by simp; decide) (by decide) ?_
  repeat' first | simp (disch := first | with_reducible assumption | omega) only [go_sem, Bool.true_and, Bool.and_true, Bool.and_self, Bool.false_and, Bool.and_false, Bool.true_or, Bool.or_true, Bool.false_or, Bool.or_false, ↓reduceIte, Nat.reduceEqDiff, Nat.reduceAdd, Nat.reduceMul, Nat.reduceSub, Nat.reduceBEq, Nat.reduceLeDiff, Nat.reduceLT, Nat.reduceMod, Nat.reduceDiv, Int.reduceToNat, Int.reducePow, Int.reduceMul, Int.reduceAdd, Int.reduceSub, Int.reduceLE, Int.reduceLT, Int.reduceNeg, Int.reduceDiv, Int.reduceMod, Int.reduceEq, Int.reduceBEq, Int.reduceBNe, f24, f24b, f24r0, f24r1, f24r2, f24r3, f24r4, f24r5, f24r6, f24r7, f24r8, f24r9, f24r10, f24r11, f24r12, f24r13, f24r14, f24r15, f24r16, f24r17, f24r18, f24r19, f24r20, f24r21, f24r22, f24r23, P.val, O.val] | (refine BrW.of (fun hb => ?_) (fun hb => ?_) <;> (have hb' := hb; try simp only [decide_eq_true_eq, decide_eq_false_iff_not, beq_iff_eq, bne_iff_ne, beq_eq_false_iff_ne, bne_eq_false_iff_eq, Bool.not_eq_true', Bool.not_eq_false', Bool.not_eq_true, Bool.not_eq_false, Bool.and_eq_true, Bool.or_eq_true, Bool.and_eq_false_iff, Bool.or_eq_false_iff, Int.not_lt, Int.not_le, ne_eq, gt_iff_lt, ge_iff_le] at hb') <;> (try (exfalso; omega))) | (refine altW.of ?_ ?_) | (refine .of ((hfl _ (get_new0 _ _ _)).mono ?_); rintro v _ ⟨rfl, rfl⟩)
  all_goals exact .here ⟨_, w, .slice none 0 0, rfl, by rw [hd]; rfl, by rw [hd]; exact Or.inl ⟨rfl, rfl⟩, by rw [hd]; exact Or.inl ⟨rfl, rfl⟩⟩

theorem do_poll (p : P) (o : O) (w : Value) (H : Heap) (hI : IsI H w p.l) (hq : p.q.right) (hb : p.b.right) (hs : 0 ≤ p.se ∧ p.se ≤ 1099511627776) (hk : o.k = 3) : ACallK Tryd.prog 24 [p.val w, o.val] H (DoR p o w H) := by
  obtain ⟨k, n⟩ := o
  obtain rfl : k = 3 := hk
  refine .walkW f24_ok (by simp; decide) (by decide) ?_
  by_cases hn : 0 ≤ n ∧ n ≤ 1073741824
  · have hd : doP p ⟨3, n⟩ = (pollP p n, 0, (pollL p.b.den p.l p.b.lv n).1) := by unfold doP; rw [if_neg (by simp), if_neg (by simp), if_pos rfl, if_pos hn]
    have hP := fun X => poll_spec p w n (H ++ X) (hI.app X) hq hb hn hs
    simp only [P.val] at hP
    clear hq hb hs
    repeat' first | simp (disch := first | with_reducible assumption | omega) only [go_sem, Bool.true_and, Bool.and_true, Bool.and_self, Bool.false_and, Bool.and_false, Bool.true_or, Bool.or_true, Bool.false_or, Bool.or_false, ↓reduceIte, Nat.reduceEqDiff, Nat.reduceAdd, Nat.reduceMul, Nat.reduceSub, Nat.reduceBEq, Nat.reduceLeDiff, Nat.reduceLT, Nat.reduceMod, Nat.reduceDiv, Int.reduceToNat, Int.reducePow, Int.reduceMul, Int.reduceAdd, Int.reduceSub, Int.reduceLE, Int.reduceLT, Int.reduceNeg, Int.reduceDiv, Int.reduceMod, Int.reduceEq, Int.reduceBEq, Int.reduceBNe, f24, f24b, f24r0, f24r1, f24r2, f24r3, f24r4, f24r5, f24r6, f24r7, f24r8, f24r9, f24r10, f24r11, f24r12, f24r13, f24r14, f24r15, f24r16, f24r17, f24r18, f24r19, f24r20, f24r21, f24r22, f24r23, P.val, O.val] | (refine BrW.of (fun hb => ?_) (fun hb => ?_) <;> (have hb' := hb; try simp only [decide_eq_true_eq, decide_eq_false_iff_not, beq_iff_eq, bne_iff_ne, beq_eq_false_iff_ne, bne_eq_false_iff_eq, Bool.not_eq_true', Bool.not_eq_false', Bool.not_eq_true, Bool.not_eq_false, Bool.and_eq_true, Bool.or_eq_true, Bool.and_eq_false_iff, Bool.or_eq_false_iff, Int.not_lt, Int.not_le, ne_eq, gt_iff_lt, ge_iff_le] at hb') <;> (try (exfalso; omega))) | (refine altW.of ?_ ?_)
    refine .of ((hP _).mono ?_)
    rintro v J ⟨X, w', so, rfl, rfl, hY, hX⟩
    have hlX : ∀ Z : Heap, List.length (H ++ Z) = H.length + Z.length := fun Z => by simp
    rw [hlX] at hY hX
    have hY4 : IsY w p.l (H.length + 4) X w' (pollP p n).l := hY
    have hX4 : IsX (H.length + 4) X so (pollL p.b.den p.l p.b.lv n).1 := hX
    clear hP hY hX hlX
    have hso : ∃ s a b, so = .slice s a b := by rcases hX4 with ⟨rfl, _⟩ | ⟨_, _, rfl, _⟩ <;> exact ⟨_, _, _, rfl⟩
    obtain ⟨s1, s2, s3, rfl⟩ := hso
    generalize pollP p n = pp at *
    rw [List.append_assoc]
    repeat' first | simp (disch := first | with_reducible assumption | omega) only [go_sem, Bool.true_and, Bool.and_true, Bool.and_self, Bool.false_and, Bool.and_false, Bool.true_or, Bool.or_true, Bool.false_or, Bool.or_false, ↓reduceIte, Nat.reduceEqDiff, Nat.reduceAdd, Nat.reduceMul, Nat.reduceSub, Nat.reduceBEq, Nat.reduceLeDiff, Nat.reduceLT, Nat.reduceMod, Nat.reduceDiv, Int.reduceToNat, Int.reducePow, Int.reduceMul, Int.reduceAdd, Int.reduceSub, Int.reduceLE, Int.reduceLT, Int.reduceNeg, Int.reduceDiv, Int.reduceMod, Int.reduceEq, Int.reduceBEq, Int.reduceBNe, f24, f24b, f24r0, f24r1, f24r2, f24r3, f24r4, f24r5, f24r6, f24r7, f24r8, f24r9, f24r10, f24r11, f24r12, f24r13, f24r14, f24r15, f24r16, f24r17, f24r18, f24r19, f24r20, f24r21, f24r22, f24r23] | (refine BrW.of (fun hb => ?_) (fun hb => ?_) <;> (have hb' := hb; try simp only [decide_eq_true_eq, decide_eq_false_iff_not, beq_iff_eq, bne_iff_ne, beq_eq_false_iff_ne, bne_eq_false_iff_eq, Bool.not_eq_true', Bool.not_eq_false', Bool.not_eq_true, Bool.not_eq_false, Bool.and_eq_true, Bool.or_eq_true, Bool.and_eq_false_iff, Bool.or_eq_false_iff, Int.not_lt, Int.not_le, ne_eq, gt_iff_lt, ge_iff_le] at hb') <;> (try (exfalso; omega))) | (refine altW.of ?_ ?_)
    exact .here ⟨_, w', _, rfl, by rw [hd]; rfl, by rw [hd]; exact IsY.up (x := [_, _, _, _]) (hY4.app _), by rw [hd]; exact IsX.up (x := [_, _, _, _]) (hX4.app _)⟩
  · have hd : doP p ⟨3, n⟩ = (p, 2, []) := by unfold doP; rw [if_neg (by simp), if_neg (by simp), if_pos rfl, if_neg hn]
    have hfl := fun (X : Heap) (h : X[H.length]? = some (.cells 0 0 false [w, .int .i64 100, .int .i64 60000, .int .i64 p.dr, .int .i64 p.b.num, .int .i64 p.b.den, .int .i64 p.b.bu, .int .i64 p.b.lv, .int .i64 p.b.at', .int .i64 p.se])) => fails_spec 2 H.length [] _ _ _ _ _ _ _ _ _ _ X h
    clear hb
    repeat' first | simp (disch := first | with_reducible assumption | omega) only [go_sem, Bool.true_and, Bool.and_true, Bool.and_self, Bool.false_and, Bool.and_false, Bool.true_or, Bool.or_true, Bool.false_or, Bool.or_false, ↓reduceIte, Nat.reduceEqDiff, Nat.reduceAdd, Nat.reduceMul, Nat.reduceSub, Nat.reduceBEq, Nat.reduceLeDiff, Nat.reduceLT, Nat.reduceMod, Nat.reduceDiv, Int.reduceToNat, Int.reducePow, Int.reduceMul, Int.reduceAdd, Int.reduceSub, Int.reduceLE, Int.reduceLT, Int.reduceNeg, Int.reduceDiv, Int.reduceMod, Int.reduceEq, Int.reduceBEq, Int.reduceBNe, f24, f24b, f24r0, f24r1, f24r2, f24r3, f24r4, f24r5, f24r6, f24r7, f24r8, f24r9, f24r10, f24r11, f24r12, f24r13, f24r14, f24r15, f24r16, f24r17, f24r18, f24r19, f24r20, f24r21, f24r22, f24r23, P.val, O.val] | (refine BrW.of (fun hb => ?_) (fun hb => ?_) <;> (have hb' := hb; try simp only [decide_eq_true_eq, decide_eq_false_iff_not, beq_iff_eq, bne_iff_ne, beq_eq_false_iff_ne, bne_eq_false_iff_eq, Bool.not_eq_true', Bool.not_eq_false', Bool.not_eq_true, Bool.not_eq_false, Bool.and_eq_true, Bool.or_eq_true, Bool.and_eq_false_iff, Bool.or_eq_false_iff, Int.not_lt, Int.not_le, ne_eq, gt_iff_lt, ge_iff_le] at hb') <;> (try (exfalso; omega))) | (refine altW.of ?_ ?_) | (refine .of ((hfl _ (get_new0 _ _ _)).mono ?_); rintro v _ ⟨rfl, rfl⟩)
    all_goals exact .here ⟨_, w, .slice none 0 0, rfl, by rw [hd]; rfl, by rw [hd]; exact Or.inl ⟨rfl, rfl⟩, by rw [hd]; exact Or.inl ⟨rfl, rfl⟩⟩
theorem do_in (p : P) (o : O) (w : Value) (H : Heap) (hI : IsI H w p.l) (hq : p.q.right) (hk : o.k = 1) : ACallK Tryd.prog 24 [p.val w, o.val] H (DoR p o w H) := by
  obtain ⟨k, n⟩ := o
  obtain rfl : k = 1 := hk
  have hSt := fun X => Step_u p.q ⟨1, n⟩ w (H ++ X) (hI.app X) (by have := hq.len; omega)
  simp only [Q.val, O.val, P.q] at hSt
  have hqr : Q.right ⟨p.l, 100, 60000, p.dr⟩ := hq
  have hfl := fun (e : Int) (X : Heap) (w a1 a2 a3 a4 a5 a6 a7 a8 a9 : Value) (h : X[H.length]? = some (.cells 0 0 false [w, a1, a2, a3, a4, a5, a6, a7, a8, a9])) => fails_spec e H.length [] _ _ _ _ _ _ _ _ _ _ X h
  have hlX : ∀ Z : Heap, List.length (H ++ Z) = H.length + Z.length := fun Z => by simp
  refine .walkW f24_ok (by simp; decide) (by decide) ?_
  repeat' first | simp (disch := first | with_reducible assumption | omega) only [go_sem, Bool.true_and, Bool.and_true, Bool.and_self, Bool.false_and, Bool.and_false, Bool.true_or, Bool.or_true, Bool.false_or, Bool.or_false, ↓reduceIte, Nat.reduceEqDiff, Nat.reduceAdd, Nat.reduceMul, Nat.reduceSub, Nat.reduceBEq, Nat.reduceLeDiff, Nat.reduceLT, Nat.reduceMod, Nat.reduceDiv, Int.reduceToNat, Int.reducePow, Int.reduceMul, Int.reduceAdd, Int.reduceSub, Int.reduceLE, Int.reduceLT, Int.reduceNeg, Int.reduceDiv, Int.reduceMod, Int.reduceEq, Int.reduceBEq, Int.reduceBNe, f24, f24b, f24r0, f24r1, f24r2, f24r3, f24r4, f24r5, f24r6, f24r7, f24r8, f24r9, f24r10, f24r11, f24r12, f24r13, f24r14, f24r15, f24r16, f24r17, f24r18, f24r19, f24r20, f24r21, f24r22, f24r23, P.val, O.val] | (refine BrW.of (fun hb => ?_) (fun hb => ?_) <;> (have hb' := hb; try simp only [decide_eq_true_eq, decide_eq_false_iff_not, beq_iff_eq, bne_iff_ne, beq_eq_false_iff_ne, bne_eq_false_iff_eq, Bool.not_eq_true', Bool.not_eq_false', Bool.not_eq_true, Bool.not_eq_false, Bool.and_eq_true, Bool.or_eq_true, Bool.and_eq_false_iff, Bool.or_eq_false_iff, Int.not_lt, Int.not_le, ne_eq, gt_iff_lt, ge_iff_le] at hb') <;> (try (exfalso; omega))) | (refine altW.of ?_ ?_)
  refine .of ((hSt _).mono ?_)
  rintro v J ⟨X, q', w', r', e, rfl, rfl, hX, he0, he1⟩
  rw [hlX] at hX
  have hX4 : IsX (H.length + 4) X w' q'.l := hX
  clear hSt hX hlX
  rw [List.append_assoc]
  by_cases z : e = 0
  · subst z
    have h0 := he0 rfl
    clear he0 he1
    have hst : stepO ⟨p.l, 100, 60000, p.dr⟩ ⟨1, n⟩ = if 1 ≤ n ∧ n ≤ 1500 then (if p.q.fit n then some (⟨p.l ++ [n], 100, 60000, p.dr⟩, 1) else if p.dr = 1099511627776 then none else some (⟨p.l, 100, 60000, p.dr + 1⟩, 0)) else none := by unfold stepO; rw [if_pos hqr, if_pos rfl]; rfl
    rw [hst] at h0
    by_cases hn : 1 ≤ n ∧ n ≤ 1500
    · by_cases hf : p.q.fit n
      · rw [if_pos hn, if_pos hf] at h0
        simp only [Option.some.injEq, Prod.mk.injEq] at h0
        obtain ⟨rfl, rfl⟩ := h0
        have hd : doP p ⟨1, n⟩ = ({ p with l := p.l ++ [n] }, 0, []) := by unfold doP; rw [if_pos rfl, if_pos hn, if_pos hf]
        repeat' first | simp (disch := first | with_reducible assumption | omega) only [go_sem, Bool.true_and, Bool.and_true, Bool.and_self, Bool.false_and, Bool.and_false, Bool.true_or, Bool.or_true, Bool.false_or, Bool.or_false, ↓reduceIte, Nat.reduceEqDiff, Nat.reduceAdd, Nat.reduceMul, Nat.reduceSub, Nat.reduceBEq, Nat.reduceLeDiff, Nat.reduceLT, Nat.reduceMod, Nat.reduceDiv, Int.reduceToNat, Int.reducePow, Int.reduceMul, Int.reduceAdd, Int.reduceSub, Int.reduceLE, Int.reduceLT, Int.reduceNeg, Int.reduceDiv, Int.reduceMod, Int.reduceEq, Int.reduceBEq, Int.reduceBNe, f24, f24b, f24r0, f24r1, f24r2, f24r3, f24r4, f24r5, f24r6, f24r7, f24r8, f24r9, f24r10, f24r11, f24r12, f24r13, f24r14, f24r15, f24r16, f24r17, f24r18, f24r19, f24r20, f24r21, f24r22, f24r23] | (refine BrW.of (fun hb => ?_) (fun hb => ?_) <;> (have hb' := hb; try simp only [decide_eq_true_eq, decide_eq_false_iff_not, beq_iff_eq, bne_iff_ne, beq_eq_false_iff_ne, bne_eq_false_iff_eq, Bool.not_eq_true', Bool.not_eq_false', Bool.not_eq_true, Bool.not_eq_false, Bool.and_eq_true, Bool.or_eq_true, Bool.and_eq_false_iff, Bool.or_eq_false_iff, Int.not_lt, Int.not_le, ne_eq, gt_iff_lt, ge_iff_le] at hb') <;> (try (exfalso; omega))) | (refine altW.of ?_ ?_)
        exact .here ⟨_, w', .slice none 0 0, rfl, by rw [hd]; rfl, by rw [hd]; exact IsY.up (x := [_, _, _, _]) (Or.inr (hX4.app _)), by rw [hd]; exact Or.inl ⟨rfl, rfl⟩⟩
      · rw [if_pos hn, if_neg hf] at h0
        by_cases hdr : p.dr = 1099511627776
        · rw [if_pos hdr] at h0; cases h0
        · rw [if_neg hdr] at h0
          simp only [Option.some.injEq, Prod.mk.injEq] at h0
          obtain ⟨rfl, rfl⟩ := h0
          have hd : doP p ⟨1, n⟩ = ({ p with dr := p.dr + 1 }, 4, []) := by unfold doP; rw [if_pos rfl, if_pos hn, if_neg hf, if_neg hdr]
          repeat' first | simp (disch := first | with_reducible assumption | omega) only [go_sem, Bool.true_and, Bool.and_true, Bool.and_self, Bool.false_and, Bool.and_false, Bool.true_or, Bool.or_true, Bool.false_or, Bool.or_false, ↓reduceIte, Nat.reduceEqDiff, Nat.reduceAdd, Nat.reduceMul, Nat.reduceSub, Nat.reduceBEq, Nat.reduceLeDiff, Nat.reduceLT, Nat.reduceMod, Nat.reduceDiv, Int.reduceToNat, Int.reducePow, Int.reduceMul, Int.reduceAdd, Int.reduceSub, Int.reduceLE, Int.reduceLT, Int.reduceNeg, Int.reduceDiv, Int.reduceMod, Int.reduceEq, Int.reduceBEq, Int.reduceBNe, f24, f24b, f24r0, f24r1, f24r2, f24r3, f24r4, f24r5, f24r6, f24r7, f24r8, f24r9, f24r10, f24r11, f24r12, f24r13, f24r14, f24r15, f24r16, f24r17, f24r18, f24r19, f24r20, f24r21, f24r22, f24r23] | (refine BrW.of (fun hb => ?_) (fun hb => ?_) <;> (have hb' := hb; try simp only [decide_eq_true_eq, decide_eq_false_iff_not, beq_iff_eq, bne_iff_ne, beq_eq_false_iff_ne, bne_eq_false_iff_eq, Bool.not_eq_true', Bool.not_eq_false', Bool.not_eq_true, Bool.not_eq_false, Bool.and_eq_true, Bool.or_eq_true, Bool.and_eq_false_iff, Bool.or_eq_false_iff, Int.not_lt, Int.not_le, ne_eq, gt_iff_lt, ge_iff_le] at hb') <;> (try (exfalso; omega))) | (refine altW.of ?_ ?_)
          refine .of ((hfl 4 _ _ _ _ _ _ _ _ _ _ _ (get_new0 _ _ _)).mono ?_)
          rintro v J ⟨rfl, rfl⟩
          repeat' first | simp (disch := first | with_reducible assumption | omega) only [go_sem, Bool.true_and, Bool.and_true, Bool.and_self, Bool.false_and, Bool.and_false, Bool.true_or, Bool.or_true, Bool.false_or, Bool.or_false, ↓reduceIte, Nat.reduceEqDiff, Nat.reduceAdd, Nat.reduceMul, Nat.reduceSub, Nat.reduceBEq, Nat.reduceLeDiff, Nat.reduceLT, Nat.reduceMod, Nat.reduceDiv, Int.reduceToNat, Int.reducePow, Int.reduceMul, Int.reduceAdd, Int.reduceSub, Int.reduceLE, Int.reduceLT, Int.reduceNeg, Int.reduceDiv, Int.reduceMod, Int.reduceEq, Int.reduceBEq, Int.reduceBNe, f24, f24b, f24r0, f24r1, f24r2, f24r3, f24r4, f24r5, f24r6, f24r7, f24r8, f24r9, f24r10, f24r11, f24r12, f24r13, f24r14, f24r15, f24r16, f24r17, f24r18, f24r19, f24r20, f24r21, f24r22, f24r23] | (refine BrW.of (fun hb => ?_) (fun hb => ?_) <;> (have hb' := hb; try simp only [decide_eq_true_eq, decide_eq_false_iff_not, beq_iff_eq, bne_iff_ne, beq_eq_false_iff_ne, bne_eq_false_iff_eq, Bool.not_eq_true', Bool.not_eq_false', Bool.not_eq_true, Bool.not_eq_false, Bool.and_eq_true, Bool.or_eq_true, Bool.and_eq_false_iff, Bool.or_eq_false_iff, Int.not_lt, Int.not_le, ne_eq, gt_iff_lt, ge_iff_le] at hb') <;> (try (exfalso; omega))) | (refine altW.of ?_ ?_)
          exact .here ⟨_, w', .slice none 0 0, rfl, by rw [hd]; rfl, by rw [hd]; exact IsY.up (x := [_, _, _, _]) (Or.inr (hX4.app _)), by rw [hd]; exact Or.inl ⟨rfl, rfl⟩⟩
    · rw [if_neg hn] at h0; cases h0
  · obtain ⟨h1, h2⟩ := he1 z
    have h3 := h2 hqr trivial
    try simp only at h3
    clear he0 he1 h2
    have hd : doP p ⟨1, n⟩ = (p, e, []) := by
      unfold doP
      rw [if_pos rfl]
      unfold stepO at h1
      rw [if_pos hqr, if_pos rfl] at h1
      by_cases hn : 1 ≤ n ∧ n ≤ 1500
      · rw [if_pos hn] at h1 h3 ⊢
        by_cases hf : p.q.fit n
        · rw [if_pos (show Q.fit ⟨p.l, 100, 60000, p.dr⟩ n from hf)] at h1; cases h1
        · rw [if_neg (show ¬ Q.fit ⟨p.l, 100, 60000, p.dr⟩ n from hf)] at h1
          rw [if_neg hf]
          by_cases hdr : p.dr = 1099511627776
          · rw [if_pos hdr, h3]
          · simp only [if_neg hdr] at h1; cases h1
      · rw [if_neg hn] at h3 ⊢
        rw [h3]
    have ze : (e != 0) = true := by simpa using z
    clear h1 h3
    repeat' first | simp (disch := first | with_reducible assumption | omega) only [go_sem, Bool.true_and, Bool.and_true, Bool.and_self, Bool.false_and, Bool.and_false, Bool.true_or, Bool.or_true, Bool.false_or, Bool.or_false, ↓reduceIte, Nat.reduceEqDiff, Nat.reduceAdd, Nat.reduceMul, Nat.reduceSub, Nat.reduceBEq, Nat.reduceLeDiff, Nat.reduceLT, Nat.reduceMod, Nat.reduceDiv, Int.reduceToNat, Int.reducePow, Int.reduceMul, Int.reduceAdd, Int.reduceSub, Int.reduceLE, Int.reduceLT, Int.reduceNeg, Int.reduceDiv, Int.reduceMod, Int.reduceEq, Int.reduceBEq, Int.reduceBNe, f24, f24b, f24r0, f24r1, f24r2, f24r3, f24r4, f24r5, f24r6, f24r7, f24r8, f24r9, f24r10, f24r11, f24r12, f24r13, f24r14, f24r15, f24r16, f24r17, f24r18, f24r19, f24r20, f24r21, f24r22, f24r23, z] | (refine BrW.of (fun hb => ?_) (fun hb => ?_) <;> (have hb' := hb; try simp only [decide_eq_true_eq, decide_eq_false_iff_not, beq_iff_eq, bne_iff_ne, beq_eq_false_iff_ne, bne_eq_false_iff_eq, Bool.not_eq_true', Bool.not_eq_false', Bool.not_eq_true, Bool.not_eq_false, Bool.and_eq_true, Bool.or_eq_true, Bool.and_eq_false_iff, Bool.or_eq_false_iff, Int.not_lt, Int.not_le, ne_eq, gt_iff_lt, ge_iff_le] at hb') <;> (try (exfalso; omega))) | (refine altW.of ?_ ?_)
    refine .of ((hfl e _ _ _ _ _ _ _ _ _ _ _ (get_new0 _ _ _)).mono ?_)
    rintro v J ⟨rfl, rfl⟩
    repeat' first | simp (disch := first | with_reducible assumption | omega) only [go_sem, Bool.true_and, Bool.and_true, Bool.and_self, Bool.false_and, Bool.and_false, Bool.true_or, Bool.or_true, Bool.false_or, Bool.or_false, ↓reduceIte, Nat.reduceEqDiff, Nat.reduceAdd, Nat.reduceMul, Nat.reduceSub, Nat.reduceBEq, Nat.reduceLeDiff, Nat.reduceLT, Nat.reduceMod, Nat.reduceDiv, Int.reduceToNat, Int.reducePow, Int.reduceMul, Int.reduceAdd, Int.reduceSub, Int.reduceLE, Int.reduceLT, Int.reduceNeg, Int.reduceDiv, Int.reduceMod, Int.reduceEq, Int.reduceBEq, Int.reduceBNe, f24, f24b, f24r0, f24r1, f24r2, f24r3, f24r4, f24r5, f24r6, f24r7, f24r8, f24r9, f24r10, f24r11, f24r12, f24r13, f24r14, f24r15, f24r16, f24r17, f24r18, f24r19, f24r20, f24r21, f24r22, f24r23] | (refine BrW.of (fun hb => ?_) (fun hb => ?_) <;> (have hb' := hb; try simp only [decide_eq_true_eq, decide_eq_false_iff_not, beq_iff_eq, bne_iff_ne, beq_eq_false_iff_ne, bne_eq_false_iff_eq, Bool.not_eq_true', Bool.not_eq_false', Bool.not_eq_true, Bool.not_eq_false, Bool.and_eq_true, Bool.or_eq_true, Bool.and_eq_false_iff, Bool.or_eq_false_iff, Int.not_lt, Int.not_le, ne_eq, gt_iff_lt, ge_iff_le] at hb') <;> (try (exfalso; omega))) | (refine altW.of ?_ ?_)
    exact .here ⟨_, w, .slice none 0 0, rfl, by rw [hd]; rfl, by rw [hd]; exact Or.inl ⟨rfl, rfl⟩, by rw [hd]; exact Or.inl ⟨rfl, rfl⟩⟩
theorem do_spec (p : P) (o : O) (w : Value) (H : Heap) (hI : IsI H w p.l) (hq : p.q.right) (hb : p.b.right) (hs : 0 ≤ p.se ∧ p.se ≤ 1099511627776) : ACallK Tryd.prog 24 [p.val w, o.val] H (DoR p o w H) := by
  by_cases h1 : o.k = 1
  · exact do_in p o w H hI hq h1
  · by_cases h2 : o.k = 2
    · exact do_tick p o w H hI hb h2
    · by_cases h3 : o.k = 3
      · exact do_poll p o w H hI hq hb hs h3
      · exact do_else p o w H hI h1 h2 h3

end Go.Proofs.YtmbcgelfnbnicaaDoor.Pc
