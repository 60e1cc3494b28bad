import Derived.Test.YtadogoahnpakbaaSteps2
set_option linter.unusedSimpArgs false
set_option linter.unusedVariables false
set_option maxHeartbeats 1000000
set_option maxRecDepth 20000
namespace Go.Proofs.Ytadogoahnpakbaa
open Go Go.Am
attribute [local irreducible] opsW Ww loopW callW drawW outW outDW gW cW BrW bothW vW resW DropW RdW dcallW Later.run

/-- A new slice of whole numbers, in what the heap has grown by; or none at all. -/
def IsX (b : Nat) (x : Heap) (w : Value) (l : List Int) : Prop := (w = .slice none 0 0 ∧ l = []) ∨ ∃ k g, w = slv (b + k) 0 g l.length l.length ∧ x[k]? = some (.cells g 1 false (ints l))
theorem IsX.app {b : Nat} {x : Heap} {w : Value} {l : List Int} (h : IsX b x w l) (y : Heap) : IsX b (x ++ y) w l := by
  rcases h with h | ⟨k, g, h1, h2⟩
  · exact .inl h
  · exact .inr ⟨k, g, h1, get_old h2 y⟩
theorem IsX.is {H x : Heap} {w : Value} {l : List Int} (h : IsX H.length x w l) : IsI (H ++ x) w l := by
  rcases h with h | ⟨k, g, h1, h2⟩
  · exact .inl h
  · exact .inr ⟨_, 0, g, _, h1, Ints.new _ _ _ false _ (by rw [List.getElem?_append_right (by omega)]; rw [← h2]; congr 1; omega), Nat.le_refl _⟩
theorem IsX.up {b : Nat} {x y : Heap} {w : Value} {l : List Int} (h : IsX (b + x.length) y w l) : IsX b (x ++ y) w l := by
  rcases h with h | ⟨k, g, h1, h2⟩
  · exact .inl h
  · exact .inr ⟨x.length + k, g, by rw [h1, Nat.add_assoc], by rw [List.getElem?_append_right (by omega)]; rw [← h2]; congr 1; omega⟩

/-- How one more is counted. -/
def more (b : Bool) (was n y : Int) : Int := if b then max y (was + n) else y + n
def addL (b : Bool) (l : List Int) (ks : List Nat) (n : Int) : List Int := put (more b (least l ks) n) l ks
def fits (l : List Int) : Prop := ∀ j, 0 ≤ l.getD j 0 ∧ l.getD j 0 ≤ 1099511627776
theorem fits_mem {l : List Int} (h : fits l) : ∀ x ∈ l, 0 ≤ x ∧ x ≤ 1099511627776 := fun x hx => by
  obtain ⟨j, hj, rfl⟩ := mem_getD (d := 0) hx
  exact h j
theorem fits_set {l : List Int} (h : fits l) (q : Nat) (z : Int) (hz : 0 ≤ z ∧ z ≤ 1099511627776) (hq : q < l.length) : fits (l.set q z) := fun j => by
  rw [getD_set _ _ _ _ hq]
  split
  · exact hz
  · exact h j

def AddPost (s : S) (x n : Int) (b : Bool) (H : Heap) (v' : Value) (H' : Heap) : Prop :=
  ∃ (X : Heap) (s' : S) (w' : Value) (e : Int), H' = H ++ X ∧ v' = .tuple #[s'.val w', .int .i64 e] ∧ IsX H.length X w' s'.l ∧
    (e = 0 → s.right ∧ (0 ≤ n ∧ n ≤ 1073741824) ∧ s'.right ∧ s' = ⟨s.rows, s.w, addL b s.l (pls s.w.toNat s.rows.toNat x) n⟩)
theorem AddPost.err {s : S} {x n : Int} {b : Bool} {H X : Heap} {e : Int} (he : e ≠ 0) : AddPost s x n b H (.tuple #[s0.val (.slice none 0 0), .int .i64 e]) (H ++ X) :=
  ⟨X, s0, _, e, rfl, rfl, .inl ⟨rfl, rfl⟩, fun h => (he h).elim⟩

theorem Add_u (s : S) (v : Value) (x n : Int) (b : Bool) (H : Heap) (hI : IsI H v s.l) (hB : s.l.length ≤ 9223372036854775807) (hx : 0 ≤ x ∧ x ≤ 18446744073709551615) :
    ACallK Try.prog 14 [s.val v, .int .u64 x, .int .i64 n, .bool b] H (AddPost s x n b H) := by
  refine .walkW f14_ok (by simp; decide) (by decide) ?_
  have hRt := fun X => Right_spec s v (H ++ X) (hI.app X) hB
  by_cases hr : s.right
  · rw [decide_eq_true hr] at hRt
    by_cases hn : 0 ≤ n ∧ n ≤ 1073741824
    · obtain ⟨R, W, e1, e2, h1, h2, h3, h4, h5, h6⟩ := right_cases hr
      obtain ⟨rows, w, l⟩ := s
      simp only at e1 e2 h3 h6 hI hB
      subst e1 e2
      have hCt := fun X => Count_spec R W l v x (H ++ X) (hI.app X) hr hx
      rcases hI with ⟨rfl, rfl⟩ | ⟨k, o, g, c, rfl, hi, hc⟩
      · simp only [List.length_nil] at h3; omega
      · have hCl := fun X => CloneI_spec l k o g c (H ++ X) (hi.app X) (by omega) hc
        simp only [flat'_ienc] at hCl
        have hCe := fun v H' => cells_ex R W l v x H' h1 h2 hx
        simp only [S.val] at hRt hCt hCe
        repeat' first | simp (disch := first | with_reducible assumption | omega) only [go_sem, Bool.true_and, Bool.and_true, Bool.and_self, Bool.false_and, Bool.and_false, Bool.true_or, Bool.or_true, Bool.false_or, Bool.or_false, ↓reduceIte, Nat.reduceEqDiff, Nat.reduceAdd, Nat.reduceMul, Nat.reduceSub, Nat.reduceBEq, Nat.reduceLeDiff, Nat.reduceLT, Nat.reduceMod, Nat.reduceDiv, Int.reduceToNat, Int.reducePow, Int.reduceMul, Int.reduceAdd, Int.reduceSub, Int.reduceLE, Int.reduceLT, Int.reduceNeg, Int.reduceDiv, Int.reduceMod, Int.reduceEq, Int.reduceBEq, Int.reduceBNe, f14, f14b, f14r0, f14r1, f14r2, f14r3, f14r4, f14r5, f14r6, f14r7, f14r8, f14r9, f14r10, f14r11, f14r12, f14r13, f14r14, f14r15, f14r17, S.val] | (refine BrW.of (fun hb => ?_) (fun hb => ?_) <;> (have hb' := hb; try simp only [decide_eq_true_eq, decide_eq_false_iff_not, beq_iff_eq, bne_iff_ne, beq_eq_false_iff_ne, bne_eq_false_iff_eq, Bool.not_eq_true', Bool.not_eq_false', Bool.not_eq_true, Bool.not_eq_false, Bool.and_eq_true, Bool.or_eq_true, Bool.and_eq_false_iff, Bool.or_eq_false_iff, Int.not_lt, Int.not_le, ne_eq, gt_iff_lt, ge_iff_le] at hb') <;> (try (exfalso; omega))) | (refine .of ((hRt _).mono ?_); rintro v _ ⟨rfl, rfl⟩) | (refine .of ((hCt _).mono ?_); rintro v _ ⟨rfl, rfl⟩) | (refine .of ((hCl _).mono ?_); rintro v _ ⟨gn, rfl, rfl⟩)
        refine .of ((hCe _ _).mono ?_)
        rintro v _ ⟨g2, B, y, rfl, rfl⟩
        have hlen : ∀ A B C : AObj, (H ++ [A, B, C]).length + 1 = H.length + 4 := fun A B C => by simp
        rw [hlen, List.append_assoc, List.cons_append, List.cons_append, List.cons_append, List.nil_append]
        have hf0 : fits l := fun j => getD_nonneg h6 j
        have hle0 : 0 ≤ least l (pls W R x) ∧ least l (pls W R x) ≤ 1099511627776 := by
          rcases least_spec l (fun j => (hf0 j).1) (pls W R x) with ⟨h, _⟩ | ⟨c, _, h, _⟩
          · have : (pls W R x).length = R := places_length W (pl W) R x
            rw [h] at this; simp at this; omega
          · rw [h]; exact hf0 c
        have hpl : (pls W R x).length = R := places_length _ _ _ _
        have hpi := fun i => (ints_get (pint (pls W R x)) i : _)
        have hil := pint_length (pls W R x)
        clear hRt hCt hCl hCe hlen hi h6
        generalize hwas : least l (pls W R x) = was at *
        obtain ⟨f, hf⟩ : ∃ f, f = more b was n := ⟨_, rfl⟩
        repeat' first | simp (disch := first | with_reducible assumption | omega) only [go_sem, Bool.true_and, Bool.and_true, Bool.and_self, Bool.false_and, Bool.and_false, Bool.true_or, Bool.or_true, Bool.false_or, Bool.or_false, ↓reduceIte, Nat.reduceEqDiff, Nat.reduceAdd, Nat.reduceMul, Nat.reduceSub, Nat.reduceBEq, Nat.reduceLeDiff, Nat.reduceLT, Nat.reduceMod, Nat.reduceDiv, Int.reduceToNat, Int.reducePow, Int.reduceMul, Int.reduceAdd, Int.reduceSub, Int.reduceLE, Int.reduceLT, Int.reduceNeg, Int.reduceDiv, Int.reduceMod, Int.reduceEq, Int.reduceBEq, Int.reduceBNe, f14, f14b, f14r0, f14r1, f14r2, f14r3, f14r4, f14r5, f14r6, f14r7, f14r8, f14r9, f14r10, f14r11, f14r12, f14r13, f14r14, f14r15, f14r17] | (refine BrW.of (fun hb => ?_) (fun hb => ?_) <;> (have hb' := hb; try simp only [decide_eq_true_eq, decide_eq_false_iff_not, beq_iff_eq, bne_iff_ne, beq_eq_false_iff_ne, bne_eq_false_iff_eq, Bool.not_eq_true', Bool.not_eq_false', Bool.not_eq_true, Bool.not_eq_false, Bool.and_eq_true, Bool.or_eq_true, Bool.and_eq_false_iff, Bool.or_eq_false_iff, Int.not_lt, Int.not_le, ne_eq, gt_iff_lt, ge_iff_le] at hb') <;> (try (exfalso; omega)))
        refine loopW.of (by decide) (fun m e J => ∃ (i : Nat) (L : List Int), e = [(2, .int .i64 n), (3, .bool b), (4, .pointer (some ⟨H.length, 0, some 1⟩)), (8, .pointer (some ⟨H.length + 1, 0, some 1⟩)), (10, .int .i64 was), (39, slv (H.length + 4) 0 g2 R R), (40, .int .i64 R), (41, .int .i64 i)] ∧
          J = H ++ (.cells 0 0 false [.int .i64 R, .int .i64 W, slv (H.length + 2) 0 gn l.length l.length] :: .cells 0 0 false [.int .i64 0, .int .i64 0, .slice none 0 0] :: .cells gn 1 false (ints L) :: B :: .cells g2 1 false (ints (pint (pls W R x))) :: y) ∧ i ≤ R ∧ m = R - i ∧ L = put f l (pls W i x) ∧ fits L) R ⟨0, l, rfl, rfl, by omega, rfl, rfl, hf0⟩ ?_
        rintro m e J ⟨i, L, rfl, rfl, hi, rfl, hL, hfl⟩
        have hLl : L.length = l.length := by rw [hL, put_length]
        by_cases hlt : i < R
        · have e1 := hpi i (by rw [hil, hpl]; exact hlt)
          rw [pint_get, places_get _ _ _ _ _ hlt] at e1
          have hpc : i * W + pl W i x < l.length := by
            rw [h3]; exact places_lt (pl_lt h2.1) (mem_places.2 ⟨i, hlt, rfl⟩)
          have e2 := ints_get L (i * W + pl W i x) (by omega)
          have hsn := put_snoc f l (pls W i x) (i * W + pl W i x)
          rw [← places_succ, ← hL] at hsn
          have hy := hfl (i * W + pl W i x)
          have hfs := fits_set hfl (i * W + pl W i x)
          generalize i * W + pl W i x = q at *
          have hqt : ((q : Int)).toNat = q := by omega
          have hst := fun z => ints_set L q z
          have hge := fun z => (ints_get (L.set q z) q (by rw [List.length_set]; omega))
          have hgz : ∀ z, (L.set q z).getD q 0 = z := fun z => by rw [getD_set _ _ _ _ (by omega), if_pos rfl]
          simp only [hgz] at hge
          have hle := ints_length L
          generalize hF : ints (pint (pls W R x)) = F at *
          generalize L.getD q 0 = yy at *
          rw [hLl] at hle hfs
          clear hpi hgz hfl
          cases b with
          | true =>
            have hfy : f yy = max yy (was + n) := by rw [hf]; rfl
            rw [hfy] at hsn
            by_cases hz : max yy (was + n) ≤ 1099511627776
            · have hfs := hfs _ ⟨by omega, hz⟩ hpc
              repeat' first | simp (disch := first | with_reducible assumption | omega) only [go_sem, Bool.true_and, Bool.and_true, Bool.and_self, Bool.false_and, Bool.and_false, Bool.true_or, Bool.or_true, Bool.false_or, Bool.or_false, ↓reduceIte, Nat.reduceEqDiff, Nat.reduceAdd, Nat.reduceMul, Nat.reduceSub, Nat.reduceBEq, Nat.reduceLeDiff, Nat.reduceLT, Nat.reduceMod, Nat.reduceDiv, Int.reduceToNat, Int.reducePow, Int.reduceMul, Int.reduceAdd, Int.reduceSub, Int.reduceLE, Int.reduceLT, Int.reduceNeg, Int.reduceDiv, Int.reduceMod, Int.reduceEq, Int.reduceBEq, Int.reduceBNe, f14, f14b, f14r0, f14r1, f14r2, f14r3, f14r4, f14r5, f14r6, f14r7, f14r8, f14r9, f14r10, f14r11, f14r12, f14r13, f14r14, f14r15, f14r17, f14l0, e1, e2, hqt, hst, hge, hle] | (refine BrW.of (fun hb => ?_) (fun hb => ?_) <;> (have hb' := hb; try simp only [decide_eq_true_eq, decide_eq_false_iff_not, beq_iff_eq, bne_iff_ne, beq_eq_false_iff_ne, bne_eq_false_iff_eq, Bool.not_eq_true', Bool.not_eq_false', Bool.not_eq_true, Bool.not_eq_false, Bool.and_eq_true, Bool.or_eq_true, Bool.and_eq_false_iff, Bool.or_eq_false_iff, Int.not_lt, Int.not_le, ne_eq, gt_iff_lt, ge_iff_le] at hb') <;> (try (exfalso; omega)))
              refine RdW.keep [2, 3, 4, 8, 10, 39, 40, 41] (R - (i + 1)) (by omega) ?_
              simp (disch := first | with_reducible assumption | omega) only [go_sem, Bool.true_and, Bool.and_true, Bool.and_self, Bool.false_and, Bool.and_false, Bool.true_or, Bool.or_true, Bool.false_or, Bool.or_false, ↓reduceIte, Nat.reduceEqDiff, Nat.reduceAdd, Nat.reduceMul, Nat.reduceSub, Nat.reduceBEq, Nat.reduceLeDiff, Nat.reduceLT, Nat.reduceMod, Nat.reduceDiv, Int.reduceToNat, Int.reducePow, Int.reduceMul, Int.reduceAdd, Int.reduceSub, Int.reduceLE, Int.reduceLT, Int.reduceNeg, Int.reduceDiv, Int.reduceMod, Int.reduceEq, Int.reduceBEq, Int.reduceBNe]
              exact ⟨i + 1, _, rfl, rfl, by omega, rfl, hsn.symm, hfs⟩
            · repeat' first | simp (disch := first | with_reducible assumption | omega) only [go_sem, Bool.true_and, Bool.and_true, Bool.and_self, Bool.false_and, Bool.and_false, Bool.true_or, Bool.or_true, Bool.false_or, Bool.or_false, ↓reduceIte, Nat.reduceEqDiff, Nat.reduceAdd, Nat.reduceMul, Nat.reduceSub, Nat.reduceBEq, Nat.reduceLeDiff, Nat.reduceLT, Nat.reduceMod, Nat.reduceDiv, Int.reduceToNat, Int.reducePow, Int.reduceMul, Int.reduceAdd, Int.reduceSub, Int.reduceLE, Int.reduceLT, Int.reduceNeg, Int.reduceDiv, Int.reduceMod, Int.reduceEq, Int.reduceBEq, Int.reduceBNe, f14, f14b, f14r0, f14r1, f14r2, f14r3, f14r4, f14r5, f14r6, f14r7, f14r8, f14r9, f14r10, f14r11, f14r12, f14r13, f14r14, f14r15, f14r17, f14l0, f14, f14b, f14r0, f14r1, f14r2, f14r3, f14r4, f14r5, f14r6, f14r7, f14r8, f14r9, f14r10, f14r11, f14r12, f14r13, f14r14, f14r15, f14r17, e1, e2, hqt, hst, hge, hle] | (refine BrW.of (fun hb => ?_) (fun hb => ?_) <;> (have hb' := hb; try simp only [decide_eq_true_eq, decide_eq_false_iff_not, beq_iff_eq, bne_iff_ne, beq_eq_false_iff_ne, bne_eq_false_iff_eq, Bool.not_eq_true', Bool.not_eq_false', Bool.not_eq_true, Bool.not_eq_false, Bool.and_eq_true, Bool.or_eq_true, Bool.and_eq_false_iff, Bool.or_eq_false_iff, Int.not_lt, Int.not_le, ne_eq, gt_iff_lt, ge_iff_le] at hb') <;> (try (exfalso; omega)))
              all_goals exact .here (AddPost.err (by decide))
          | false =>
            have hfy : f yy = yy + n := by rw [hf]; rfl
            rw [hfy] at hsn
            by_cases hz : yy + n ≤ 1099511627776
            · have hfs := hfs _ ⟨by omega, hz⟩ hpc
              repeat' first | simp (disch := first | with_reducible assumption | omega) only [go_sem, Bool.true_and, Bool.and_true, Bool.and_self, Bool.false_and, Bool.and_false, Bool.true_or, Bool.or_true, Bool.false_or, Bool.or_false, ↓reduceIte, Nat.reduceEqDiff, Nat.reduceAdd, Nat.reduceMul, Nat.reduceSub, Nat.reduceBEq, Nat.reduceLeDiff, Nat.reduceLT, Nat.reduceMod, Nat.reduceDiv, Int.reduceToNat, Int.reducePow, Int.reduceMul, Int.reduceAdd, Int.reduceSub, Int.reduceLE, Int.reduceLT, Int.reduceNeg, Int.reduceDiv, Int.reduceMod, Int.reduceEq, Int.reduceBEq, Int.reduceBNe, f14, f14b, f14r0, f14r1, f14r2, f14r3, f14r4, f14r5, f14r6, f14r7, f14r8, f14r9, f14r10, f14r11, f14r12, f14r13, f14r14, f14r15, f14r17, f14l0, e1, e2, hqt, hst, hge, hle] | (refine BrW.of (fun hb => ?_) (fun hb => ?_) <;> (have hb' := hb; try simp only [decide_eq_true_eq, decide_eq_false_iff_not, beq_iff_eq, bne_iff_ne, beq_eq_false_iff_ne, bne_eq_false_iff_eq, Bool.not_eq_true', Bool.not_eq_false', Bool.not_eq_true, Bool.not_eq_false, Bool.and_eq_true, Bool.or_eq_true, Bool.and_eq_false_iff, Bool.or_eq_false_iff, Int.not_lt, Int.not_le, ne_eq, gt_iff_lt, ge_iff_le] at hb') <;> (try (exfalso; omega)))
              refine RdW.keep [2, 3, 4, 8, 10, 39, 40, 41] (R - (i + 1)) (by omega) ?_
              simp (disch := first | with_reducible assumption | omega) only [go_sem, Bool.true_and, Bool.and_true, Bool.and_self, Bool.false_and, Bool.and_false, Bool.true_or, Bool.or_true, Bool.false_or, Bool.or_false, ↓reduceIte, Nat.reduceEqDiff, Nat.reduceAdd, Nat.reduceMul, Nat.reduceSub, Nat.reduceBEq, Nat.reduceLeDiff, Nat.reduceLT, Nat.reduceMod, Nat.reduceDiv, Int.reduceToNat, Int.reducePow, Int.reduceMul, Int.reduceAdd, Int.reduceSub, Int.reduceLE, Int.reduceLT, Int.reduceNeg, Int.reduceDiv, Int.reduceMod, Int.reduceEq, Int.reduceBEq, Int.reduceBNe]
              exact ⟨i + 1, _, rfl, rfl, by omega, rfl, hsn.symm, hfs⟩
            · repeat' first | simp (disch := first | with_reducible assumption | omega) only [go_sem, Bool.true_and, Bool.and_true, Bool.and_self, Bool.false_and, Bool.and_false, Bool.true_or, Bool.or_true, Bool.false_or, Bool.or_false, ↓reduceIte, Nat.reduceEqDiff, Nat.reduceAdd, Nat.reduceMul, Nat.reduceSub, Nat.reduceBEq, Nat.reduceLeDiff, Nat.reduceLT, Nat.reduceMod, Nat.reduceDiv, Int.reduceToNat, Int.reducePow, Int.reduceMul, Int.reduceAdd, Int.reduceSub, Int.reduceLE, Int.reduceLT, Int.reduceNeg, Int.reduceDiv, Int.reduceMod, Int.reduceEq, Int.reduceBEq, Int.reduceBNe, f14, f14b, f14r0, f14r1, f14r2, f14r3, f14r4, f14r5, f14r6, f14r7, f14r8, f14r9, f14r10, f14r11, f14r12, f14r13, f14r14, f14r15, f14r17, f14l0, f14, f14b, f14r0, f14r1, f14r2, f14r3, f14r4, f14r5, f14r6, f14r7, f14r8, f14r9, f14r10, f14r11, f14r12, f14r13, f14r14, f14r15, f14r17, e1, e2, hqt, hst, hge, hle] | (refine BrW.of (fun hb => ?_) (fun hb => ?_) <;> (have hb' := hb; try simp only [decide_eq_true_eq, decide_eq_false_iff_not, beq_iff_eq, bne_iff_ne, beq_eq_false_iff_ne, bne_eq_false_iff_eq, Bool.not_eq_true', Bool.not_eq_false', Bool.not_eq_true, Bool.not_eq_false, Bool.and_eq_true, Bool.or_eq_true, Bool.and_eq_false_iff, Bool.or_eq_false_iff, Int.not_lt, Int.not_le, ne_eq, gt_iff_lt, ge_iff_le] at hb') <;> (try (exfalso; omega)))
              all_goals exact .here (AddPost.err (by decide))
        · obtain rfl : i = R := by omega
          repeat' first | simp (disch := first | with_reducible assumption | omega) only [go_sem, Bool.true_and, Bool.and_true, Bool.and_self, Bool.false_and, Bool.and_false, Bool.true_or, Bool.or_true, Bool.false_or, Bool.or_false, ↓reduceIte, Nat.reduceEqDiff, Nat.reduceAdd, Nat.reduceMul, Nat.reduceSub, Nat.reduceBEq, Nat.reduceLeDiff, Nat.reduceLT, Nat.reduceMod, Nat.reduceDiv, Int.reduceToNat, Int.reducePow, Int.reduceMul, Int.reduceAdd, Int.reduceSub, Int.reduceLE, Int.reduceLT, Int.reduceNeg, Int.reduceDiv, Int.reduceMod, Int.reduceEq, Int.reduceBEq, Int.reduceBNe, f14, f14b, f14r0, f14r1, f14r2, f14r3, f14r4, f14r5, f14r6, f14r7, f14r8, f14r9, f14r10, f14r11, f14r12, f14r13, f14r14, f14r15, f14r17, f14l0, f14, f14b, f14r0, f14r1, f14r2, f14r3, f14r4, f14r5, f14r6, f14r7, f14r8, f14r9, f14r10, f14r11, f14r12, f14r13, f14r14, f14r15, f14r17] | (refine BrW.of (fun hb => ?_) (fun hb => ?_) <;> (have hb' := hb; try simp only [decide_eq_true_eq, decide_eq_false_iff_not, beq_iff_eq, bne_iff_ne, beq_eq_false_iff_ne, bne_eq_false_iff_eq, Bool.not_eq_true', Bool.not_eq_false', Bool.not_eq_true, Bool.not_eq_false, Bool.and_eq_true, Bool.or_eq_true, Bool.and_eq_false_iff, Bool.or_eq_false_iff, Int.not_lt, Int.not_le, ne_eq, gt_iff_lt, ge_iff_le] at hb') <;> (try (exfalso; omega)))
          have hadd : L = addL b l (pls W i x) n := by unfold addL; rw [hwas, ← hf]; exact hL
          refine .here ⟨_, ⟨i, W, L⟩, slv (H.length + 2) 0 gn l.length l.length, 0, rfl, rfl, .inr ⟨2, gn, by rw [hLl], rfl⟩, fun _ => ⟨hr, hn, ⟨?_, ?_, ?_, ?_, ?_, ?_⟩, ?_⟩⟩
          · exact hr.1
          · exact hr.2.1
          · exact hr.2.2.1
          · exact hr.2.2.2.1
          · show (L.length : Int) = _; rw [hLl]; exact hr.2.2.2.2.1
          · exact fits_mem hfl
          · simp only [Int.toNat_natCast]; rw [← hadd]
    · simp only [S.val] at hRt
      repeat' first | simp (disch := first | with_reducible assumption | omega) only [go_sem, Bool.true_and, Bool.and_true, Bool.and_self, Bool.false_and, Bool.and_false, Bool.true_or, Bool.or_true, Bool.false_or, Bool.or_false, ↓reduceIte, Nat.reduceEqDiff, Nat.reduceAdd, Nat.reduceMul, Nat.reduceSub, Nat.reduceBEq, Nat.reduceLeDiff, Nat.reduceLT, Nat.reduceMod, Nat.reduceDiv, Int.reduceToNat, Int.reducePow, Int.reduceMul, Int.reduceAdd, Int.reduceSub, Int.reduceLE, Int.reduceLT, Int.reduceNeg, Int.reduceDiv, Int.reduceMod, Int.reduceEq, Int.reduceBEq, Int.reduceBNe, f14, f14b, f14r0, f14r1, f14r2, f14r3, f14r4, f14r5, f14r6, f14r7, f14r8, f14r9, f14r10, f14r11, f14r12, f14r13, f14r14, f14r15, f14r17, S.val] | (refine BrW.of (fun hb => ?_) (fun hb => ?_) <;> (have hb' := hb; try simp only [decide_eq_true_eq, decide_eq_false_iff_not, beq_iff_eq, bne_iff_ne, beq_eq_false_iff_ne, bne_eq_false_iff_eq, Bool.not_eq_true', Bool.not_eq_false', Bool.not_eq_true, Bool.not_eq_false, Bool.and_eq_true, Bool.or_eq_true, Bool.and_eq_false_iff, Bool.or_eq_false_iff, Int.not_lt, Int.not_le, ne_eq, gt_iff_lt, ge_iff_le] at hb') <;> (try (exfalso; omega))) | (refine .of ((hRt _).mono ?_); rintro v _ ⟨rfl, rfl⟩)
      all_goals exact .here (AddPost.err (by decide))
  · rw [decide_eq_false hr] at hRt
    simp only [S.val] at hRt
    repeat' first | simp (disch := first | with_reducible assumption | omega) only [go_sem, Bool.true_and, Bool.and_true, Bool.and_self, Bool.false_and, Bool.and_false, Bool.true_or, Bool.or_true, Bool.false_or, Bool.or_false, ↓reduceIte, Nat.reduceEqDiff, Nat.reduceAdd, Nat.reduceMul, Nat.reduceSub, Nat.reduceBEq, Nat.reduceLeDiff, Nat.reduceLT, Nat.reduceMod, Nat.reduceDiv, Int.reduceToNat, Int.reducePow, Int.reduceMul, Int.reduceAdd, Int.reduceSub, Int.reduceLE, Int.reduceLT, Int.reduceNeg, Int.reduceDiv, Int.reduceMod, Int.reduceEq, Int.reduceBEq, Int.reduceBNe, f14, f14b, f14r0, f14r1, f14r2, f14r3, f14r4, f14r5, f14r6, f14r7, f14r8, f14r9, f14r10, f14r11, f14r12, f14r13, f14r14, f14r15, f14r17, S.val] | (refine BrW.of (fun hb => ?_) (fun hb => ?_) <;> (have hb' := hb; try simp only [decide_eq_true_eq, decide_eq_false_iff_not, beq_iff_eq, bne_iff_ne, beq_eq_false_iff_ne, bne_eq_false_iff_eq, Bool.not_eq_true', Bool.not_eq_false', Bool.not_eq_true, Bool.not_eq_false, Bool.and_eq_true, Bool.or_eq_true, Bool.and_eq_false_iff, Bool.or_eq_false_iff, Int.not_lt, Int.not_le, ne_eq, gt_iff_lt, ge_iff_le] at hb') <;> (try (exfalso; omega))) | (refine .of ((hRt _).mono ?_); rintro v _ ⟨rfl, rfl⟩)
    all_goals exact .here (AddPost.err (by decide))
end Go.Proofs.Ytadogoahnpakbaa
