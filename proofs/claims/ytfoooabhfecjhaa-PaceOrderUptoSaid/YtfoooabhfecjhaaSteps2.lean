import Derived.Test.YtfoooabhfecjhaaSteps
set_option linter.unusedSimpArgs false
set_option linter.unusedVariables false
set_option maxHeartbeats 2000000
set_option maxRecDepth 20000
namespace Go.Proofs.Ytfoooabhfecjhaa
open Go Go.Am
attribute [local irreducible] opsW Ww loopW callW drawW outW outDW gW cW BrW bothW vW resW DropW RdW dcallW altW Later.run

def P.val (p : P) (w : Value) : Value := .agg #[w, .int .i64 100, .int .i64 60000, .int .i64 p.dr, .int .i64 p.b.num, .int .i64 p.b.den, .int .i64 p.b.bu, .int .i64 p.b.lv, .int .i64 p.b.at', .int .i64 p.se]
def P.cells (p : P) (w : Value) : List Value := [w, .int .i64 100, .int .i64 60000, .int .i64 p.dr, .int .i64 p.b.num, .int .i64 p.b.den, .int .i64 p.b.bu, .int .i64 p.b.lv, .int .i64 p.b.at', .int .i64 p.se]
def lvl (b : Bk) (lv : Int) : Bk := ⟨b.num, b.den, b.bu, lv, b.at'⟩
def pz : List Value := [.slice none 0 0, .int .i64 0, .int .i64 0, .int .i64 0, .int .i64 0, .int .i64 0, .int .i64 0, .int .i64 0, .int .i64 0, .int .i64 0]

theorem take_now {b : Bk} (h : b.right) {n : Int} (hn : 1 ≤ n ∧ n ≤ 1500) : takeB b ⟨b.at', n⟩ = if n * b.den ≤ b.lv then ({ b with lv := b.lv - n * b.den }, true, 0) else (b, false, 0) := by
  have h0 := h
  obtain ⟨h1, h2, h3, h4, h5, h6, h7, h8, h9, h10⟩ := h
  have hf : filled b b.at' = b := by
    unfold filled
    rw [Int.sub_self, Int.zero_mul, show min 0 (b.bu * b.den - b.lv) = 0 by omega, Int.add_zero]
  have hk : okT b b.at' := ⟨by omega, h10⟩
  unfold takeB fillB
  rw [if_pos h0, if_pos hk, if_pos rfl, if_pos (show okB n from ⟨by omega, by omega⟩), hf]
/-- The slice that was, or one of what is new. -/
def IsY (w0 : Value) (l0 : List Int) (b : Nat) (x : Heap) (w : Value) (l : List Int) : Prop := (w = w0 ∧ l = l0) ∨ IsX b x w l
theorem IsY.is {w0 : Value} {l0 : List Int} {H O x : Heap} {w : Value} {l : List Int} (hI : IsI H w0 l0) (h : IsY w0 l0 (H.length + O.length) x w l) : IsI (H ++ (O ++ x)) w l := by
  rcases h with ⟨rfl, rfl⟩ | h
  · exact hI.app _
  · exact IsX.is (IsX.up h)
theorem IsY.app {w0 : Value} {l0 : List Int} {x : Heap} {b : Nat} {w : Value} {l : List Int} (h : IsY w0 l0 b x w l) (y : Heap) : IsY w0 l0 b (x ++ y) w l := by
  rcases h with h | h
  · exact Or.inl h
  · exact Or.inr (h.app y)

theorem IsY.up {w0 : Value} {l0 : List Int} {b : Nat} {x y : Heap} {w : Value} {l : List Int} (h : IsY w0 l0 (b + x.length) y w l) : IsY w0 l0 b (x ++ y) w l := by
  rcases h with h | h
  · exact Or.inl h
  · exact Or.inr (IsX.up h)
theorem poll_spec (p : P) (w : Value) (room : Int) (H : Heap) (hI : IsI H w p.l) (hq : p.q.right) (hb : p.b.right) (hr : 0 ≤ room ∧ room ≤ 1073741824) (hs : 0 ≤ p.se ∧ p.se ≤ 1099511627776) :
    ACallK Try.prog 25 [p.val w, .int .i64 room] H (fun v H' => ∃ (X : Heap) (w' so : Value), H' = H ++ X ∧ v = .tuple #[(pollP p room).val w', so] ∧ IsY w p.l H.length X w' (pollP p room).l ∧ IsX H.length X so (pollL p.b.den p.l p.b.lv room).1) := by
  refine .walkW f25_ok (by simp; decide) (by decide) ?_
  repeat' first | simp (disch := first | with_reducible assumption | omega) only [go_sem, Bool.true_and, Bool.and_true, Bool.and_self, Bool.false_and, Bool.and_false, Bool.true_or, Bool.or_true, Bool.false_or, Bool.or_false, ↓reduceIte, Nat.reduceEqDiff, Nat.reduceAdd, Nat.reduceMul, Nat.reduceSub, Nat.reduceBEq, Nat.reduceLeDiff, Nat.reduceLT, Nat.reduceMod, Nat.reduceDiv, Int.reduceToNat, Int.reducePow, Int.reduceMul, Int.reduceAdd, Int.reduceSub, Int.reduceLE, Int.reduceLT, Int.reduceNeg, Int.reduceDiv, Int.reduceMod, Int.reduceEq, Int.reduceBEq, Int.reduceBNe, f25, f25b, f25r0, f25r1, f25r2, f25r3, f25r4, f25r5, f25r6, f25r7, f25r8, f25r9, f25r10, f25r11, f25r12, f25r14, P.val] | (refine BrW.of (fun hb => ?_) (fun hb => ?_) <;> (have hb' := hb; try simp only [decide_eq_true_eq, decide_eq_false_iff_not, beq_iff_eq, bne_iff_ne, beq_eq_false_iff_ne, bne_eq_false_iff_eq, Bool.not_eq_true', Bool.not_eq_false', Bool.not_eq_true, Bool.not_eq_false, Bool.and_eq_true, Bool.or_eq_true, Bool.and_eq_false_iff, Bool.or_eq_false_iff, Int.not_lt, Int.not_le, ne_eq, gt_iff_lt, ge_iff_le] at hb') <;> (try (exfalso; omega))) | (refine altW.of ?_ ?_)
  refine loopW.ghost 6 1 rfl ?_
  simp (disch := first | with_reducible assumption | omega) only [go_sem, Bool.true_and, Bool.and_true, Bool.and_self, Bool.false_and, Bool.and_false, Bool.true_or, Bool.or_true, Bool.false_or, Bool.or_false, ↓reduceIte, Nat.reduceEqDiff, Nat.reduceAdd, Nat.reduceMul, Nat.reduceSub, Nat.reduceBEq, Nat.reduceLeDiff, Nat.reduceLT, Nat.reduceMod, Nat.reduceDiv, Int.reduceToNat, Int.reducePow, Int.reduceMul, Int.reduceAdd, Int.reduceSub, Int.reduceLE, Int.reduceLT, Int.reduceNeg, Int.reduceDiv, Int.reduceMod, Int.reduceEq, Int.reduceBEq, Int.reduceBNe]
  refine loopW.of (by decide) (fun m e J => ∃ (g : Nat) (lc out : List Int) (lv rm : Int) (wc : Value) (x : Heap), e = [(1, .int .i64 rm), (2, .pointer (some ⟨H.length, 0, some 1⟩)), (4, .pointer (some ⟨H.length + 1, 0, some 1⟩)), (6, slv (H.length + 2) 0 g out.length out.length)] ∧
    J = H ++ (.cells 0 0 false (P.cells ⟨lc, p.dr, lvl p.b lv, p.se + out.sum⟩ wc) :: .cells 0 0 false pz :: .cells g 1 false (ints out) :: x) ∧ m = lc.length ∧ IsY w p.l (H.length + 3) x wc lc ∧ out ++ lc = p.l ∧
    0 ≤ rm ∧ rm ≤ room ∧ 0 ≤ out.sum ∧ (lvl p.b lv).right ∧ pollL p.b.den p.l p.b.lv room = (out ++ (pollL p.b.den lc lv rm).1, (pollL p.b.den lc lv rm).2)) p.l.length ⟨0, p.l, [], p.b.lv, room, w, [], rfl, by simp [P.cells, pz, ints, lvl], rfl, Or.inl ⟨rfl, rfl⟩, rfl, hr.1, by omega, by simp, hb, by simp⟩ ?_
  rintro m e J ⟨g, lc, out, lv, rm, wc, x, rfl, rfl, rfl, hY, hol, h1, h2, h3, hbr, hp⟩
  have hI' : IsI (H ++ (.cells 0 0 false (P.cells ⟨lc, p.dr, lvl p.b lv, p.se + out.sum⟩ wc) :: .cells 0 0 false pz :: .cells g 1 false (ints out) :: x)) wc lc := IsY.is hI hY (O := [.cells 0 0 false (P.cells ⟨lc, p.dr, lvl p.b lv, p.se + out.sum⟩ wc), .cells 0 0 false pz, .cells g 1 false (ints out)])
  have hstop : ∀ (K : Prop), pollL p.b.den p.l p.b.lv room = (out, lc, lv) → (pollP p room = ⟨lc, p.dr, lvl p.b lv, p.se + out.sum⟩ → (pollL p.b.den p.l p.b.lv room).1 = out → K) → K := fun K h f => f (by unfold pollP; rw [h]; rfl) (by rw [h])
  have hYX : IsY w p.l H.length (.cells 0 0 false (P.cells ⟨lc, p.dr, lvl p.b lv, p.se + out.sum⟩ wc) :: .cells 0 0 false (P.cells ⟨lc, p.dr, lvl p.b lv, p.se + out.sum⟩ wc) :: .cells g 1 false (ints out) :: x) wc lc := by
    rcases hY with h | h
    · exact Or.inl h
    · exact Or.inr (IsX.up (x := [.cells 0 0 false (P.cells ⟨lc, p.dr, lvl p.b lv, p.se + out.sum⟩ wc), .cells 0 0 false (P.cells ⟨lc, p.dr, lvl p.b lv, p.se + out.sum⟩ wc), .cells g 1 false (ints out)]) h)
  have hXo : IsX H.length (.cells 0 0 false (P.cells ⟨lc, p.dr, lvl p.b lv, p.se + out.sum⟩ wc) :: .cells 0 0 false (P.cells ⟨lc, p.dr, lvl p.b lv, p.se + out.sum⟩ wc) :: .cells g 1 false (ints out) :: x) (slv (H.length + 2) 0 g out.length out.length) out := Or.inr ⟨2, g, rfl, rfl⟩
  simp only [P.cells, pz] at hI'
  cases lc with
  | nil =>
    have hpe : pollL p.b.den p.l p.b.lv room = (out, [], lv) := by rw [hp]; simp [pollL]
    refine hstop _ hpe fun e1 e2 => ?_
    rcases hI' with ⟨rfl, _⟩ | ⟨k, o, g', c, rfl, hi, hc⟩
    · clear hstop hpe hp hY hol
      repeat' first | simp (disch := first | with_reducible assumption | omega) only [go_sem, Bool.true_and, Bool.and_true, Bool.and_self, Bool.false_and, Bool.and_false, Bool.true_or, Bool.or_true, Bool.false_or, Bool.or_false, ↓reduceIte, Nat.reduceEqDiff, Nat.reduceAdd, Nat.reduceMul, Nat.reduceSub, Nat.reduceBEq, Nat.reduceLeDiff, Nat.reduceLT, Nat.reduceMod, Nat.reduceDiv, Int.reduceToNat, Int.reducePow, Int.reduceMul, Int.reduceAdd, Int.reduceSub, Int.reduceLE, Int.reduceLT, Int.reduceNeg, Int.reduceDiv, Int.reduceMod, Int.reduceEq, Int.reduceBEq, Int.reduceBNe, f25, f25b, f25r0, f25r1, f25r2, f25r3, f25r4, f25r5, f25r6, f25r7, f25r8, f25r9, f25r10, f25r11, f25r12, f25r14, f25l0, f25, f25b, f25r0, f25r1, f25r2, f25r3, f25r4, f25r5, f25r6, f25r7, f25r8, f25r9, f25r10, f25r11, f25r12, f25r14, P.cells, pz] | (refine BrW.of (fun hb => ?_) (fun hb => ?_) <;> (have hb' := hb; try simp only [decide_eq_true_eq, decide_eq_false_iff_not, beq_iff_eq, bne_iff_ne, beq_eq_false_iff_ne, bne_eq_false_iff_eq, Bool.not_eq_true', Bool.not_eq_false', Bool.not_eq_true, Bool.not_eq_false, Bool.and_eq_true, Bool.or_eq_true, Bool.and_eq_false_iff, Bool.or_eq_false_iff, Int.not_lt, Int.not_le, ne_eq, gt_iff_lt, ge_iff_le] at hb') <;> (try (exfalso; omega))) | (refine altW.of ?_ ?_)
      exact .here ⟨_, _, _, rfl, by rw [e1]; rfl, by rw [e1]; exact hYX, by rw [e2]; exact hXo⟩
    · obtain ⟨ro, cs, hk, hcl, hcs⟩ := hi.cell
      simp only [List.length_nil] at hk
      clear hstop hpe hp hY hol
      repeat' first | simp (disch := first | with_reducible assumption | omega) only [go_sem, Bool.true_and, Bool.and_true, Bool.and_self, Bool.false_and, Bool.and_false, Bool.true_or, Bool.or_true, Bool.false_or, Bool.or_false, ↓reduceIte, Nat.reduceEqDiff, Nat.reduceAdd, Nat.reduceMul, Nat.reduceSub, Nat.reduceBEq, Nat.reduceLeDiff, Nat.reduceLT, Nat.reduceMod, Nat.reduceDiv, Int.reduceToNat, Int.reducePow, Int.reduceMul, Int.reduceAdd, Int.reduceSub, Int.reduceLE, Int.reduceLT, Int.reduceNeg, Int.reduceDiv, Int.reduceMod, Int.reduceEq, Int.reduceBEq, Int.reduceBNe, f25, f25b, f25r0, f25r1, f25r2, f25r3, f25r4, f25r5, f25r6, f25r7, f25r8, f25r9, f25r10, f25r11, f25r12, f25r14, f25l0, f25, f25b, f25r0, f25r1, f25r2, f25r3, f25r4, f25r5, f25r6, f25r7, f25r8, f25r9, f25r10, f25r11, f25r12, f25r14, P.cells, pz, hk] | (refine BrW.of (fun hb => ?_) (fun hb => ?_) <;> (have hb' := hb; try simp only [decide_eq_true_eq, decide_eq_false_iff_not, beq_iff_eq, bne_iff_ne, beq_eq_false_iff_ne, bne_eq_false_iff_eq, Bool.not_eq_true', Bool.not_eq_false', Bool.not_eq_true, Bool.not_eq_false, Bool.and_eq_true, Bool.or_eq_true, Bool.and_eq_false_iff, Bool.or_eq_false_iff, Int.not_lt, Int.not_le, ne_eq, gt_iff_lt, ge_iff_le] at hb') <;> (try (exfalso; omega))) | (refine altW.of ?_ ?_)
      exact .here ⟨_, _, _, rfl, by rw [e1]; rfl, by rw [e1]; exact hYX, by rw [e2]; exact hXo⟩
  | cons n r =>
    have hmem : n ∈ p.l := by rw [← hol]; simp
    have hsub : ∀ y ∈ n :: r, y ∈ p.l := fun y hy => by rw [← hol]; exact List.mem_append_right _ hy
    obtain ⟨q1, q2, q3, q4, q5, q6, q7, q8, q9⟩ := hq
    have hn : 1 ≤ n ∧ n ≤ 1500 := q8 n hmem
    have hlen : out.length + (r.length + 1) = p.l.length := by rw [← hol]; simp
    have hpl : (p.l.length : Int) ≤ 100 := q7
    have hpsum : p.l.sum ≤ 60000 := q9
    have hsum : out.sum + (n + r.sum) = p.l.sum := by rw [← hol]; simp
    have hrs : 0 ≤ r.sum := (sum_bound r fun y hy => q8 y (hsub y (by simp [hy]))).1
    have hqr : Q.right ⟨n :: r, 100, 60000, p.dr⟩ := ⟨q1, q2, q3, q4, q5, q6, by simp; omega, fun y hy => q8 y (hsub y hy), by simp only [List.sum_cons]; omega⟩
    rcases hI' with ⟨_, hno⟩ | ⟨k, o, g', c, rfl, hi, hc⟩
    · cases hno
    obtain ⟨ro, cs, hk, hcl, hcs⟩ := hi.cell
    simp only [List.length_cons] at hk
    have e0 := hcs 0 (by simp)
    simp only [Nat.add_zero, List.getD_cons_zero] at e0
    by_cases ha : rm < n
    · have hpe : pollL p.b.den p.l p.b.lv room = (out, n :: r, lv) := by rw [hp]; unfold pollL; rw [if_pos (Or.inl ha)]; simp
      refine hstop _ hpe fun e1 e2 => ?_
      clear hstop hpe hp hY hol hcs
      repeat' first | simp (disch := first | with_reducible assumption | omega) only [go_sem, Bool.true_and, Bool.and_true, Bool.and_self, Bool.false_and, Bool.and_false, Bool.true_or, Bool.or_true, Bool.false_or, Bool.or_false, ↓reduceIte, Nat.reduceEqDiff, Nat.reduceAdd, Nat.reduceMul, Nat.reduceSub, Nat.reduceBEq, Nat.reduceLeDiff, Nat.reduceLT, Nat.reduceMod, Nat.reduceDiv, Int.reduceToNat, Int.reducePow, Int.reduceMul, Int.reduceAdd, Int.reduceSub, Int.reduceLE, Int.reduceLT, Int.reduceNeg, Int.reduceDiv, Int.reduceMod, Int.reduceEq, Int.reduceBEq, Int.reduceBNe, f25, f25b, f25r0, f25r1, f25r2, f25r3, f25r4, f25r5, f25r6, f25r7, f25r8, f25r9, f25r10, f25r11, f25r12, f25r14, f25l0, f25, f25b, f25r0, f25r1, f25r2, f25r3, f25r4, f25r5, f25r6, f25r7, f25r8, f25r9, f25r10, f25r11, f25r12, f25r14, P.cells, pz, hk, e0] | (refine BrW.of (fun hb => ?_) (fun hb => ?_) <;> (have hb' := hb; try simp only [decide_eq_true_eq, decide_eq_false_iff_not, beq_iff_eq, bne_iff_ne, beq_eq_false_iff_ne, bne_eq_false_iff_eq, Bool.not_eq_true', Bool.not_eq_false', Bool.not_eq_true, Bool.not_eq_false, Bool.and_eq_true, Bool.or_eq_true, Bool.and_eq_false_iff, Bool.or_eq_false_iff, Int.not_lt, Int.not_le, ne_eq, gt_iff_lt, ge_iff_le] at hb') <;> (try (exfalso; omega))) | (refine altW.of ?_ ?_)
      all_goals exact .here ⟨_, _, _, rfl, by rw [e1]; rfl, by rw [e1]; exact hYX, by rw [e2]; exact hXo⟩
    · have hT := fun X => Take_spec (lvl p.b lv) ⟨(lvl p.b lv).at', n⟩ X
      rw [take_now hbr hn] at hT
      by_cases hlv : n * p.b.den ≤ lv
      · have hlv' : n * (lvl p.b lv).den ≤ (lvl p.b lv).lv := hlv
        rw [if_pos hlv'] at hT
        have hSt := Step_u ⟨n :: r, 100, 60000, p.dr⟩ ⟨2, 0⟩ (slv k o g' (n :: r).length c) _ (Or.inr ⟨k, o, g', c, rfl, hi.app [.cells 0 0 false (Bk.cells ⟨p.b.num, p.b.den, p.b.bu, lv - n * p.b.den, p.b.at'⟩)], hc⟩) (by show (n :: r).length ≤ _; simp; omega)
        have hso : stepO ⟨n :: r, 100, 60000, p.dr⟩ ⟨2, 0⟩ = some (⟨r, 100, 60000, p.dr⟩, n) := by unfold stepO; simp only [if_pos hqr]; rfl
        rw [hso] at hSt
        simp only [List.append_assoc, List.cons_append, List.nil_append, List.length_cons, Q.val, O.val, Bk.cells, lvl, P.cells, pz] at hSt hT hk
        clear hstop
        repeat' first | simp (disch := first | with_reducible assumption | omega) only [go_sem, Bool.true_and, Bool.and_true, Bool.and_self, Bool.false_and, Bool.and_false, Bool.true_or, Bool.or_true, Bool.false_or, Bool.or_false, ↓reduceIte, Nat.reduceEqDiff, Nat.reduceAdd, Nat.reduceMul, Nat.reduceSub, Nat.reduceBEq, Nat.reduceLeDiff, Nat.reduceLT, Nat.reduceMod, Nat.reduceDiv, Int.reduceToNat, Int.reducePow, Int.reduceMul, Int.reduceAdd, Int.reduceSub, Int.reduceLE, Int.reduceLT, Int.reduceNeg, Int.reduceDiv, Int.reduceMod, Int.reduceEq, Int.reduceBEq, Int.reduceBNe, f25, f25b, f25r0, f25r1, f25r2, f25r3, f25r4, f25r5, f25r6, f25r7, f25r8, f25r9, f25r10, f25r11, f25r12, f25r14, f25l0, f25, f25b, f25r0, f25r1, f25r2, f25r3, f25r4, f25r5, f25r6, f25r7, f25r8, f25r9, f25r10, f25r11, f25r12, f25r14, P.cells, pz, lvl, hk, e0, ansT, Bk.val] | (refine BrW.of (fun hb => ?_) (fun hb => ?_) <;> (have hb' := hb; try simp only [decide_eq_true_eq, decide_eq_false_iff_not, beq_iff_eq, bne_iff_ne, beq_eq_false_iff_ne, bne_eq_false_iff_eq, Bool.not_eq_true', Bool.not_eq_false', Bool.not_eq_true, Bool.not_eq_false, Bool.and_eq_true, Bool.or_eq_true, Bool.and_eq_false_iff, Bool.or_eq_false_iff, Int.not_lt, Int.not_le, ne_eq, gt_iff_lt, ge_iff_le] at hb') <;> (try (exfalso; omega))) | (refine altW.of ?_ ?_) | (refine .of ((hT _).mono ?_); rintro v _ ⟨rfl, rfl⟩)
        refine .of (hSt.mono ?_)
        rintro v J ⟨X', q', w', r', e, rfl, rfl, hX', he0, he1⟩
        have z : e = 0 := by
          by_cases z : e = 0
          · exact z
          · cases (he1 z).1
        subst z
        have hq' := he0 rfl
        simp only [Option.some.injEq, Prod.mk.injEq] at hq'
        obtain ⟨rfl, rfl⟩ := hq'
        have hl3 : ∀ A B C D : AObj, List.length (H ++ (A :: B :: C :: (x ++ [D]))) = H.length + 3 + (x ++ [D]).length := fun A B C D => by simp; omega
        rw [hl3] at hX'
        have hX2 : IsX (H.length + 3) (x ++ AObj.cells 0 0 false [Value.int IntKind.i64 p.b.num, Value.int IntKind.i64 p.b.den, Value.int IntKind.i64 p.b.bu, Value.int IntKind.i64 (lv - n * p.b.den), Value.int IntKind.i64 p.b.at'] :: X') w' r := by have := IsX.up hX'; simpa using this
        have hop2 : (x ++ AObj.cells 0 0 false [Value.int IntKind.i64 p.b.num, Value.int IntKind.i64 p.b.den, Value.int IntKind.i64 p.b.bu, Value.int IntKind.i64 (lv - n * p.b.den), Value.int IntKind.i64 p.b.at'] :: X')[x.length]? = some (AObj.cells 0 0 false [Value.int IntKind.i64 p.b.num, Value.int IntKind.i64 p.b.den, Value.int IntKind.i64 p.b.bu, Value.int IntKind.i64 (lv - n * p.b.den), Value.int IntKind.i64 p.b.at']) := get_new0 _ _ _
        have il := ints_length out
        have hni : ¬ out.length + 1 ≤ out.length := by omega
        have htk := ints_take out out.length (Nat.le_refl _)
        have hb2 : (lvl p.b (lv - n * p.b.den)).right := by
          obtain ⟨b1, b2, b3, b4, b5, b6, b7, b8, b9, b10⟩ := hbr
          have hnd := Int.mul_nonneg (show 0 ≤ n by omega) (show 0 ≤ p.b.den by have : 1 ≤ p.b.den := b3; omega)
          have b8' : lv ≤ p.b.bu * p.b.den := b8
          exact ⟨b1, b2, b3, b4, b5, b6, by show 0 ≤ lv - n * p.b.den; omega, by show lv - n * p.b.den ≤ p.b.bu * p.b.den; omega, b9, b10⟩
        have hp2 : pollL p.b.den p.l p.b.lv room = ((out ++ [n]) ++ (pollL p.b.den r (lv - n * p.b.den) (rm - n)).1, (pollL p.b.den r (lv - n * p.b.den) (rm - n)).2) := by
          rw [hp]
          conv => lhs; unfold pollL
          rw [if_neg (by omega)]
          simp
        clear hX' hl3 hSt hT hI hi hp hbr hlv hlv' hYX hXo hY hcs hk e0 hso hqr hsub hmem q8 he0 he1
        generalize x ++ AObj.cells 0 0 false [Value.int IntKind.i64 p.b.num, Value.int IntKind.i64 p.b.den, Value.int IntKind.i64 p.b.bu, Value.int IntKind.i64 (lv - n * p.b.den), Value.int IntKind.i64 p.b.at'] :: X' = y at *
        generalize hz : lv - n * p.b.den = z at *
        repeat' first | simp (disch := first | with_reducible assumption | omega) only [go_sem, Bool.true_and, Bool.and_true, Bool.and_self, Bool.false_and, Bool.and_false, Bool.true_or, Bool.or_true, Bool.false_or, Bool.or_false, ↓reduceIte, Nat.reduceEqDiff, Nat.reduceAdd, Nat.reduceMul, Nat.reduceSub, Nat.reduceBEq, Nat.reduceLeDiff, Nat.reduceLT, Nat.reduceMod, Nat.reduceDiv, Int.reduceToNat, Int.reducePow, Int.reduceMul, Int.reduceAdd, Int.reduceSub, Int.reduceLE, Int.reduceLT, Int.reduceNeg, Int.reduceDiv, Int.reduceMod, Int.reduceEq, Int.reduceBEq, Int.reduceBNe, f25, f25b, f25r0, f25r1, f25r2, f25r3, f25r4, f25r5, f25r6, f25r7, f25r8, f25r9, f25r10, f25r11, f25r12, f25r14, f25l0, f25, f25b, f25r0, f25r1, f25r2, f25r3, f25r4, f25r5, f25r6, f25r7, f25r8, f25r9, f25r10, f25r11, f25r12, f25r14, hop2, get_old hop2, il, hni, htk] | (refine BrW.of (fun hb => ?_) (fun hb => ?_) <;> (have hb' := hb; try simp only [decide_eq_true_eq, decide_eq_false_iff_not, beq_iff_eq, bne_iff_ne, beq_eq_false_iff_ne, bne_eq_false_iff_eq, Bool.not_eq_true', Bool.not_eq_false', Bool.not_eq_true, Bool.not_eq_false, Bool.and_eq_true, Bool.or_eq_true, Bool.and_eq_false_iff, Bool.or_eq_false_iff, Int.not_lt, Int.not_le, ne_eq, gt_iff_lt, ge_iff_le] at hb') <;> (try (exfalso; omega))) | (refine altW.of ?_ ?_)
        refine RdW.keep [1, 2, 4, 6] r.length (by omega) ?_
        simp (disch := first | with_reducible assumption | omega) only [go_sem, Bool.true_and, Bool.and_true, Bool.and_self, Bool.false_and, Bool.and_false, Bool.true_or, Bool.or_true, Bool.false_or, Bool.or_false, ↓reduceIte, Nat.reduceEqDiff, Nat.reduceAdd, Nat.reduceMul, Nat.reduceSub, Nat.reduceBEq, Nat.reduceLeDiff, Nat.reduceLT, Nat.reduceMod, Nat.reduceDiv, Int.reduceToNat, Int.reducePow, Int.reduceMul, Int.reduceAdd, Int.reduceSub, Int.reduceLE, Int.reduceLT, Int.reduceNeg, Int.reduceDiv, Int.reduceMod, Int.reduceEq, Int.reduceBEq, Int.reduceBNe]
        have hol2 : (out ++ [n]) ++ r = p.l := by rw [← hol]; simp
        have hse : p.se + out.sum + n = p.se + (out ++ [n]).sum := by rw [sum_app, List.sum_cons, List.sum_nil]; omega
        have h32 : 0 ≤ (out ++ [n]).sum := by rw [sum_app, List.sum_cons, List.sum_nil]; omega
        exact ⟨g + 1, r, out ++ [n], z, rm - n, w', _, by rw [List.length_append]; rfl, by rw [← ints_snoc, ← hse]; rfl, rfl, IsY.app (Or.inr hX2) _, hol2, by omega, by omega, h32, hb2, hp2⟩
      · have hpe : pollL p.b.den p.l p.b.lv room = (out, n :: r, lv) := by rw [hp]; unfold pollL; rw [if_pos (Or.inr (by omega))]; simp
        have hlv' : ¬ n * (lvl p.b lv).den ≤ (lvl p.b lv).lv := hlv
        rw [if_neg hlv'] at hT
        refine hstop _ hpe fun e1 e2 => ?_
        clear hstop hpe hp hY hol hcs hlv hlv'
        repeat' first | simp (disch := first | with_reducible assumption | omega) only [go_sem, Bool.true_and, Bool.and_true, Bool.and_self, Bool.false_and, Bool.and_false, Bool.true_or, Bool.or_true, Bool.false_or, Bool.or_false, ↓reduceIte, Nat.reduceEqDiff, Nat.reduceAdd, Nat.reduceMul, Nat.reduceSub, Nat.reduceBEq, Nat.reduceLeDiff, Nat.reduceLT, Nat.reduceMod, Nat.reduceDiv, Int.reduceToNat, Int.reducePow, Int.reduceMul, Int.reduceAdd, Int.reduceSub, Int.reduceLE, Int.reduceLT, Int.reduceNeg, Int.reduceDiv, Int.reduceMod, Int.reduceEq, Int.reduceBEq, Int.reduceBNe, f25, f25b, f25r0, f25r1, f25r2, f25r3, f25r4, f25r5, f25r6, f25r7, f25r8, f25r9, f25r10, f25r11, f25r12, f25r14, f25l0, f25, f25b, f25r0, f25r1, f25r2, f25r3, f25r4, f25r5, f25r6, f25r7, f25r8, f25r9, f25r10, f25r11, f25r12, f25r14, P.cells, pz, hk, e0, ansT, Bk.val] | (refine BrW.of (fun hb => ?_) (fun hb => ?_) <;> (have hb' := hb; try simp only [decide_eq_true_eq, decide_eq_false_iff_not, beq_iff_eq, bne_iff_ne, beq_eq_false_iff_ne, bne_eq_false_iff_eq, Bool.not_eq_true', Bool.not_eq_false', Bool.not_eq_true, Bool.not_eq_false, Bool.and_eq_true, Bool.or_eq_true, Bool.and_eq_false_iff, Bool.or_eq_false_iff, Int.not_lt, Int.not_le, ne_eq, gt_iff_lt, ge_iff_le] at hb') <;> (try (exfalso; omega))) | (refine altW.of ?_ ?_) | (refine .of ((hT _).mono ?_); rintro v _ ⟨rfl, rfl⟩)
        all_goals exact .here ⟨_, _, _, rfl, by rw [e1]; rfl, by rw [e1]; exact hYX.app _, by rw [e2]; exact hXo.app _⟩
end Go.Proofs.Ytfoooabhfecjhaa
