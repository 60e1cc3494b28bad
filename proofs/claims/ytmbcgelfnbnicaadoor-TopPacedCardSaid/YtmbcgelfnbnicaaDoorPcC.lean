import Derived.Test.YtmbcgelfnbnicaaDoorPcB
set_option linter.unusedSimpArgs false
set_option linter.unusedVariables false
set_option maxHeartbeats 2000000
set_option maxRecDepth 20000
namespace Go.Proofs.YtmbcgelfnbnicaaDoor.Pc
open Go Go.Am
attribute [local irreducible] opsW Ww loopW callW drawW outW outDW gW cW BrW bothW vW resW DropW RdW dcallW altW forkW splitW Later.run

abbrev Ops (H : Heap) (k o g : Nat) (l : List O) : Prop := Tbl O O.cells 2 o0 H k o g l
theorem Play_bad (n d b : Int) (l : List O) (k o g c : Nat) (H : Heap) (hw : ¬ wrongP n d b = 0) : ACallK Tryd.prog 8 [.int .i64 n, .int .i64 d, .int .i64 b, slv k o g l.length c] H (fun v H' => v = .tuple #[.slice none 0 0, .agg #[.slice none 0 0, .int .i64 0, .int .i64 0, .int .i64 0, .int .i64 0, .int .i64 0, .int .i64 0, .int .i64 0, .int .i64 0, .int .i64 0], .int .i64 (wrongP n d b)] ∧ H' = H) := by
  have hW := fun X => Wrong_spec n d b X
  generalize wrongP n d b = e at *
  refine .walkW f8_ok (by simp; decide) (by decide) ?_
  repeat' first | simp (disch := first | with_reducible assumption | omega) only [go_sem, Bool.true_and, Bool.and_true, Bool.and_self, Bool.false_and, Bool.and_false, Bool.true_or, Bool.or_true, Bool.false_or, Bool.or_false, ↓reduceIte, Nat.reduceEqDiff, Nat.reduceAdd, Nat.reduceMul, Nat.reduceSub, Nat.reduceBEq, Nat.reduceLeDiff, Nat.reduceLT, Nat.reduceMod, Nat.reduceDiv, Int.reduceToNat, Int.reducePow, Int.reduceMul, Int.reduceAdd, Int.reduceSub, Int.reduceLE, Int.reduceLT, Int.reduceNeg, Int.reduceDiv, Int.reduceMod, Int.reduceEq, Int.reduceBEq, Int.reduceBNe, f8, f8b, f8r0, f8r1, f8r2, f8r3, f8r4, f8r5, f8r6, f8r7, f8r8, f8r9, f8r10, f8r11, f8r12, f8r13, f8r15, f8r16] | (refine BrW.of (fun hb => ?_) (fun hb => ?_) <;> (have hb' := hb; try simp only [decide_eq_true_eq, decide_eq_false_iff_not, beq_iff_eq, bne_iff_ne, beq_eq_false_iff_ne, bne_eq_false_iff_eq, Bool.not_eq_true', Bool.not_eq_false', Bool.not_eq_true, Bool.not_eq_false, Bool.and_eq_true, Bool.or_eq_true, Bool.and_eq_false_iff, Bool.or_eq_false_iff, Int.not_lt, Int.not_le, ne_eq, gt_iff_lt, ge_iff_le] at hb') <;> (try (exfalso; omega))) | (refine altW.of ?_ ?_) | (refine .of ((hW _).mono ?_); rintro v _ ⟨rfl, rfl⟩)
  all_goals exact .back rfl ⟨rfl, rfl⟩

/-- An answer, with its slice. -/
def aenc (a : Int × Value) : List Value := [.int .i64 a.1, a.2]
def Ans (b : Nat) (x : Heap) (av : List (Int × Value)) (l : List (Int × List Int)) : Prop := av.length = l.length ∧ ∀ i, i < l.length → (av.getD i (0, .slice none 0 0)).1 = (l.getD i (0, [])).1 ∧ IsX b x (av.getD i (0, .slice none 0 0)).2 (l.getD i (0, [])).2
theorem Ans.app {b : Nat} {x : Heap} {av : List (Int × Value)} {l : List (Int × List Int)} (h : Ans b x av l) (y : Heap) : Ans b (x ++ y) av l := ⟨h.1, fun i hi => ⟨(h.2 i hi).1, (h.2 i hi).2.app y⟩⟩
theorem Ans.snoc {b : Nat} {x : Heap} {av : List (Int × Value)} {l : List (Int × List Int)} (h : Ans b x av l) {e : Int} {v : Value} {s : List Int} (hx : IsX b x v s) : Ans b x (av ++ [(e, v)]) (l ++ [(e, s)]) := by
  refine ⟨by simp [h.1], fun i hi => ?_⟩
  by_cases hlt : i < l.length
  · have h1 : (av ++ [(e, v)]).getD i (0, .slice none 0 0) = av.getD i (0, .slice none 0 0) := by simp only [List.getD_eq_getElem?_getD]; rw [List.getElem?_append_left (by rw [h.1]; exact hlt)]
    have h2 : (l ++ [(e, s)]).getD i (0, []) = l.getD i (0, []) := by simp only [List.getD_eq_getElem?_getD]; rw [List.getElem?_append_left hlt]
    rw [h1, h2]
    exact h.2 i hlt
  · have hil : i = l.length := by simp at hi; omega
    have h1 : (av ++ [(e, v)]).getD i (0, .slice none 0 0) = (e, v) := by simp [List.getD_eq_getElem?_getD, hil, ← h.1]
    have h2 : (l ++ [(e, s)]).getD i (0, []) = (e, s) := by simp [List.getD_eq_getElem?_getD, hil]
    rw [h1, h2]
    exact ⟨rfl, hx⟩


theorem wrong_right {n d b : Int} (hw : wrongP n d b = 0) : (may n d b).right := by
  unfold wrongP at hw
  split at hw
  · assumption
  · omega
theorem IsX.mid {b : Nat} {x X : Heap} {w : Value} {l : List Int} {E F : AObj} (h : IsX (b + (x ++ [E, F]).length) X w l) (F' G : AObj) : IsX b (x ++ E :: F' :: (X ++ [G])) w l := by
  have := (IsX.up (x := x ++ [E, F']) (by simpa using h)).app [G]
  simpa using this
theorem Play_u (n d b : Int) (l : List O) (k o g c : Nat) (H : Heap) (hO : Ops H k o g l) (hl : l.length ≤ 1049600) (hw : wrongP n d b = 0) :
    ACallK Tryd.prog 8 [.int .i64 n, .int .i64 d, .int .i64 b, slv k o g l.length c] H (fun v H' => ∃ (X : Heap) (w' so : Value), H' = H ++ X ∧ v = .tuple #[so, (runP (p0 n d b) l).val w', .int .i64 0] ∧ IsX H.length X w' (runP (p0 n d b) l).l ∧ ∃ (q g' : Nat) (av : List (Int × Value)), so = slv (H.length + q) 0 g' l.length l.length ∧ X[q]? = some (.cells g' 2 false (flat' aenc av)) ∧ Ans H.length X av (ansP (p0 n d b) l)) := by
  have hr := wrong_right hw
  have hW := fun X => Wrong_spec n d b X
  have hF := fun X => Full_spec n d b X
  rw [hw] at hW
  rw [if_pos hr] at hF
  have h0 := p0_ok (n := n) (d := d) (b := b) (full_right hr)
  obtain ⟨ro, cs, hk, hcl, hcs⟩ := hO.at'
  refine .walkW f8_ok (by simp; decide) (by decide) ?_
  repeat' first | simp (disch := first | with_reducible assumption | omega) only [go_sem, Bool.true_and, Bool.and_true, Bool.and_self, Bool.false_and, Bool.and_false, Bool.true_or, Bool.or_true, Bool.false_or, Bool.or_false, ↓reduceIte, Nat.reduceEqDiff, Nat.reduceAdd, Nat.reduceMul, Nat.reduceSub, Nat.reduceBEq, Nat.reduceLeDiff, Nat.reduceLT, Nat.reduceMod, Nat.reduceDiv, Int.reduceToNat, Int.reducePow, Int.reduceMul, Int.reduceAdd, Int.reduceSub, Int.reduceLE, Int.reduceLT, Int.reduceNeg, Int.reduceDiv, Int.reduceMod, Int.reduceEq, Int.reduceBEq, Int.reduceBNe, f8, f8b, f8r0, f8r1, f8r2, f8r3, f8r4, f8r5, f8r6, f8r7, f8r8, f8r9, f8r10, f8r11, f8r12, f8r13, f8r15, f8r16, hk, get_old hk, ansB, Bk.val, full] | (refine BrW.of (fun hb => ?_) (fun hb => ?_) <;> (have hb' := hb; try simp only [decide_eq_true_eq, decide_eq_false_iff_not, beq_iff_eq, bne_iff_ne, beq_eq_false_iff_ne, bne_eq_false_iff_eq, Bool.not_eq_true', Bool.not_eq_false', Bool.not_eq_true, Bool.not_eq_false, Bool.and_eq_true, Bool.or_eq_true, Bool.and_eq_false_iff, Bool.or_eq_false_iff, Int.not_lt, Int.not_le, ne_eq, gt_iff_lt, ge_iff_le] at hb') <;> (try (exfalso; omega))) | (refine altW.of ?_ ?_) | (refine .of ((hW _).mono ?_); rintro v _ ⟨rfl, rfl⟩) | (refine .of ((hF _).mono ?_); rintro v _ ⟨rfl, rfl⟩)
  refine loopW.ghost 15 2 rfl ?_
  simp (disch := first | with_reducible assumption | omega) only [go_sem, Bool.true_and, Bool.and_true, Bool.and_self, Bool.false_and, Bool.and_false, Bool.true_or, Bool.or_true, Bool.false_or, Bool.or_false, ↓reduceIte, Nat.reduceEqDiff, Nat.reduceAdd, Nat.reduceMul, Nat.reduceSub, Nat.reduceBEq, Nat.reduceLeDiff, Nat.reduceLT, Nat.reduceMod, Nat.reduceDiv, Int.reduceToNat, Int.reducePow, Int.reduceMul, Int.reduceAdd, Int.reduceSub, Int.reduceLE, Int.reduceLT, Int.reduceNeg, Int.reduceDiv, Int.reduceMod, Int.reduceEq, Int.reduceBEq, Int.reduceBNe]
  clear hW hF
  have hkl := hO.lt
  refine loopW.of (by decide) (fun m e J => ∃ (i g' : Nat) (w' : Value) (av : List (Int × Value)) (x : Heap), e = [(9, .pointer (some ⟨H.length, 0, some 1⟩)), (14, .pointer (some ⟨H.length + 2, 0, some 1⟩)), (15, slv (H.length + 3) 0 g' i i), (37, slv k o g l.length c), (38, .int .i64 l.length), (39, .int .i64 i)] ∧
    J = H ++ (.cells 0 0 false pz :: .cells 0 0 false (Bk.cells (full n d b)) :: .cells 0 0 false (P.cells (runP (p0 n d b) (l.take i)) w') :: .cells g' 2 false (flat' aenc av) :: x) ∧ i ≤ l.length ∧ m = l.length - i ∧ IsX (H.length + 4) x w' (runP (p0 n d b) (l.take i)).l ∧ Ans (H.length + 4) x av (ansP (p0 n d b) (l.take i))) l.length
    ⟨0, 0, .slice none 0 0, [], [], rfl, rfl, by omega, rfl, Or.inl ⟨rfl, rfl⟩, ⟨rfl, fun i hi => by simp [ansP] at hi⟩⟩ ?_
  rintro m e J ⟨i, g', w', av, x, rfl, rfl, hi, rfl, hX, hA⟩
  by_cases hlt : i < l.length
  · have e0 : cs[o + i * 2]? = some (.int .i64 (l.getD i o0).k) := hcs i hlt 0 (by omega)
    have e1 : cs[o + i * 2 + 1]? = some (.int .i64 (l.getD i o0).n) := hcs i hlt 1 (by omega)
    have hok := runP_ok h0 (l.take i)
    have hrs : runP (p0 n d b) (l.take (i + 1)) = (doP (runP (p0 n d b) (l.take i)) (l.getD i o0)).1 := by rw [take_snoc o0 l i hlt, runP_snoc]
    have has : ansP (p0 n d b) (l.take (i + 1)) = ansP (p0 n d b) (l.take i) ++ [(doP (runP (p0 n d b) (l.take i)) (l.getD i o0)).2] := by rw [take_snoc o0 l i hlt, ansP_snoc]
    have hlen := hok.all
    have hlen2 : (l.take i).length = i := by simp; omega
    rw [hlen2] at hlen
    have hsb := (sum_bound _ hok.q.2.2.2.2.2.2.2.1).1
    have hal : av.length = i := by rw [hA.1, ansP_length, hlen2]
    have hfl := flat'_length (enc := aenc) (s := 2) (fun _ => rfl) av
    generalize hP : runP (p0 n d b) (l.take i) = p at *
    generalize l.getD i o0 = op at *
    have hse : 0 ≤ p.se ∧ p.se ≤ 1099511627776 := by
      have : (0 : Int) ≤ p.l.sum := hsb
      have := hok.pos
      omega
    have hD := fun (J : Heap) (hJ : IsI J w' p.l) => do_spec p op w' J hJ hok.q hok.b hse
    simp only [P.val, O.val] at hD
    repeat' first | simp (disch := first | with_reducible assumption | omega) only [go_sem, Bool.true_and, Bool.and_true, Bool.and_self, Bool.false_and, Bool.and_false, Bool.true_or, Bool.or_true, Bool.false_or, Bool.or_false, ↓reduceIte, Nat.reduceEqDiff, Nat.reduceAdd, Nat.reduceMul, Nat.reduceSub, Nat.reduceBEq, Nat.reduceLeDiff, Nat.reduceLT, Nat.reduceMod, Nat.reduceDiv, Int.reduceToNat, Int.reducePow, Int.reduceMul, Int.reduceAdd, Int.reduceSub, Int.reduceLE, Int.reduceLT, Int.reduceNeg, Int.reduceDiv, Int.reduceMod, Int.reduceEq, Int.reduceBEq, Int.reduceBNe, f8, f8b, f8r0, f8r1, f8r2, f8r3, f8r4, f8r5, f8r6, f8r7, f8r8, f8r9, f8r10, f8r11, f8r12, f8r13, f8r15, f8r16, f8l0, P.cells, pz, hk, get_old hk, e0, e1] | (refine BrW.of (fun hb => ?_) (fun hb => ?_) <;> (have hb' := hb; try simp only [decide_eq_true_eq, decide_eq_false_iff_not, beq_iff_eq, bne_iff_ne, beq_eq_false_iff_ne, bne_eq_false_iff_eq, Bool.not_eq_true', Bool.not_eq_false', Bool.not_eq_true, Bool.not_eq_false, Bool.and_eq_true, Bool.or_eq_true, Bool.and_eq_false_iff, Bool.or_eq_false_iff, Int.not_lt, Int.not_le, ne_eq, gt_iff_lt, ge_iff_le] at hb') <;> (try (exfalso; omega))) | (refine altW.of ?_ ?_)
    have hJ := (IsX.up (b := H.length) (x := [.cells 0 0 false pz, .cells 0 0 false (Bk.cells (full n d b)), .cells 0 0 false (P.cells p w'), .cells g' 2 false (flat' aenc av)]) (hX.app [AObj.cells 0 0 false [.int .i64 op.k, .int .i64 op.n], AObj.cells 0 0 false [.int .i64 0, .slice none 0 0]])).is (H := H)
    refine .of ((hD _ (by simpa [P.cells, pz] using hJ)).mono ?_)
    rintro v J ⟨X, w2, so, rfl, rfl, hY, hXs⟩
    have hl4 : ∀ A B C D E F : AObj, List.length (H ++ (A :: B :: C :: D :: (x ++ [E, F]))) = H.length + 4 + (x ++ [E, F]).length := fun A B C D E F => by simp; omega
    rw [hl4] at hY hXs
    have hso : ∃ s a b, so = .slice s a b := by rcases hXs with ⟨rfl, _⟩ | ⟨_, _, rfl, _⟩ <;> exact ⟨_, _, _, rfl⟩
    obtain ⟨s1, s2, s3, rfl⟩ := hso
    rw [List.append_assoc, List.cons_append, List.cons_append, List.cons_append, List.cons_append, List.append_assoc]
    clear hD hJ hl4 hcs hO
    have hni : ¬ i + 1 ≤ i := by omega
    rw [hal] at hfl
    have htk : (flat' aenc av).take (i * 2) = flat' aenc av := List.take_of_length_le (by omega)
    generalize hdp : doP p op = dp at *
    obtain ⟨p', er, sn⟩ := dp
    simp only at hrs has hY hXs
    repeat' first | simp (disch := first | with_reducible assumption | omega) only [go_sem, Bool.true_and, Bool.and_true, Bool.and_self, Bool.false_and, Bool.and_false, Bool.true_or, Bool.or_true, Bool.false_or, Bool.or_false, ↓reduceIte, Nat.reduceEqDiff, Nat.reduceAdd, Nat.reduceMul, Nat.reduceSub, Nat.reduceBEq, Nat.reduceLeDiff, Nat.reduceLT, Nat.reduceMod, Nat.reduceDiv, Int.reduceToNat, Int.reducePow, Int.reduceMul, Int.reduceAdd, Int.reduceSub, Int.reduceLE, Int.reduceLT, Int.reduceNeg, Int.reduceDiv, Int.reduceMod, Int.reduceEq, Int.reduceBEq, Int.reduceBNe, f8, f8b, f8r0, f8r1, f8r2, f8r3, f8r4, f8r5, f8r6, f8r7, f8r8, f8r9, f8r10, f8r11, f8r12, f8r13, f8r15, f8r16, f8l0, P.val, hni, htk, hfl] | (refine BrW.of (fun hb => ?_) (fun hb => ?_) <;> (have hb' := hb; try simp only [decide_eq_true_eq, decide_eq_false_iff_not, beq_iff_eq, bne_iff_ne, beq_eq_false_iff_ne, bne_eq_false_iff_eq, Bool.not_eq_true', Bool.not_eq_false', Bool.not_eq_true, Bool.not_eq_false, Bool.and_eq_true, Bool.or_eq_true, Bool.and_eq_false_iff, Bool.or_eq_false_iff, Int.not_lt, Int.not_le, ne_eq, gt_iff_lt, ge_iff_le] at hb') <;> (try (exfalso; omega))) | (refine altW.of ?_ ?_)
    refine RdW.keep [9, 14, 15, 37, 38, 39] (l.length - (i + 1)) (by omega) ?_
    simp (disch := first | with_reducible assumption | omega) only [go_sem, Bool.true_and, Bool.and_true, Bool.and_self, Bool.false_and, Bool.and_false, Bool.true_or, Bool.or_true, Bool.false_or, Bool.or_false, ↓reduceIte, Nat.reduceEqDiff, Nat.reduceAdd, Nat.reduceMul, Nat.reduceSub, Nat.reduceBEq, Nat.reduceLeDiff, Nat.reduceLT, Nat.reduceMod, Nat.reduceDiv, Int.reduceToNat, Int.reducePow, Int.reduceMul, Int.reduceAdd, Int.reduceSub, Int.reduceLE, Int.reduceLT, Int.reduceNeg, Int.reduceDiv, Int.reduceMod, Int.reduceEq, Int.reduceBEq, Int.reduceBNe]
    have hW2 : ∀ F' G : AObj, IsX (H.length + 4) (x ++ AObj.cells 0 0 false [Value.int IntKind.i64 op.k, Value.int IntKind.i64 op.n] :: F' :: (X ++ [G])) w2 p'.l := fun F' G => by
      rcases hY with ⟨rfl, hl⟩ | h
      · rw [hl]; exact hX.app _
      · exact IsX.mid h F' G
    exact ⟨i + 1, g' + 1, w2, av ++ [(er, .slice s1 s2 s3)], _, rfl, by rw [hrs, ← flat'_app]; rfl, by omega, rfl, by rw [hrs]; exact hW2 _ _, by rw [has]; exact (hA.app _).snoc (IsX.mid hXs _ _)⟩
  · obtain rfl : i = l.length := by omega
    have hok := runP_ok h0 l
    rw [List.take_length] at hX hA ⊢
    have hq := hok.q
    generalize runP (p0 n d b) l = p at *
    have hpl : p.l.length ≤ 400 := hq.len
    rcases hX with ⟨rfl, hl0⟩ | ⟨k2, g2, rfl, hx2⟩
    · repeat' first | simp (disch := first | with_reducible assumption | omega) only [go_sem, Bool.true_and, Bool.and_true, Bool.and_self, Bool.false_and, Bool.and_false, Bool.true_or, Bool.or_true, Bool.false_or, Bool.or_false, ↓reduceIte, Nat.reduceEqDiff, Nat.reduceAdd, Nat.reduceMul, Nat.reduceSub, Nat.reduceBEq, Nat.reduceLeDiff, Nat.reduceLT, Nat.reduceMod, Nat.reduceDiv, Int.reduceToNat, Int.reducePow, Int.reduceMul, Int.reduceAdd, Int.reduceSub, Int.reduceLE, Int.reduceLT, Int.reduceNeg, Int.reduceDiv, Int.reduceMod, Int.reduceEq, Int.reduceBEq, Int.reduceBNe, f8, f8b, f8r0, f8r1, f8r2, f8r3, f8r4, f8r5, f8r6, f8r7, f8r8, f8r9, f8r10, f8r11, f8r12, f8r13, f8r15, f8r16, f8l0, f8, f8b, f8r0, f8r1, f8r2, f8r3, f8r4, f8r5, f8r6, f8r7, f8r8, f8r9, f8r10, f8r11, f8r12, f8r13, f8r15, f8r16, P.cells, pz, hk, P.val] | (refine BrW.of (fun hb => ?_) (fun hb => ?_) <;> (have hb' := hb; try simp only [decide_eq_true_eq, decide_eq_false_iff_not, beq_iff_eq, bne_iff_ne, beq_eq_false_iff_ne, bne_eq_false_iff_eq, Bool.not_eq_true', Bool.not_eq_false', Bool.not_eq_true, Bool.not_eq_false, Bool.and_eq_true, Bool.or_eq_true, Bool.and_eq_false_iff, Bool.or_eq_false_iff, Int.not_lt, Int.not_le, ne_eq, gt_iff_lt, ge_iff_le] at hb') <;> (try (exfalso; omega))) | (refine altW.of ?_ ?_) | (refine .of ((CloneI_nil _).mono ?_); rintro v _ ⟨rfl, rfl⟩)
      exact .here ⟨_, .slice none 0 0, _, rfl, rfl, Or.inl ⟨rfl, hl0⟩, 3, g', av, rfl, rfl, hA.1, fun i hi => ⟨(hA.2 i hi).1, IsX.up (b := H.length) (x := [_, _, _, _]) (hA.2 i hi).2⟩⟩
    · have hI := fun (A B C D : AObj) => Ints.new (H ++ (A :: B :: C :: D :: x)) (H.length + 4 + k2) g2 false p.l (by rw [Nat.add_assoc, get_new, Nat.add_comm 4 k2]; exact hx2)
      have hC := fun (A B C D : AObj) => CloneI_spec p.l (H.length + 4 + k2) 0 g2 p.l.length _ (hI A B C D) (by omega) (Nat.le_refl _)
      repeat' first | simp (disch := first | with_reducible assumption | omega) only [go_sem, Bool.true_and, Bool.and_true, Bool.and_self, Bool.false_and, Bool.and_false, Bool.true_or, Bool.or_true, Bool.false_or, Bool.or_false, ↓reduceIte, Nat.reduceEqDiff, Nat.reduceAdd, Nat.reduceMul, Nat.reduceSub, Nat.reduceBEq, Nat.reduceLeDiff, Nat.reduceLT, Nat.reduceMod, Nat.reduceDiv, Int.reduceToNat, Int.reducePow, Int.reduceMul, Int.reduceAdd, Int.reduceSub, Int.reduceLE, Int.reduceLT, Int.reduceNeg, Int.reduceDiv, Int.reduceMod, Int.reduceEq, Int.reduceBEq, Int.reduceBNe, f8, f8b, f8r0, f8r1, f8r2, f8r3, f8r4, f8r5, f8r6, f8r7, f8r8, f8r9, f8r10, f8r11, f8r12, f8r13, f8r15, f8r16, f8l0, f8, f8b, f8r0, f8r1, f8r2, f8r3, f8r4, f8r5, f8r6, f8r7, f8r8, f8r9, f8r10, f8r11, f8r12, f8r13, f8r15, f8r16, P.cells, pz, hk, P.val] | (refine BrW.of (fun hb => ?_) (fun hb => ?_) <;> (have hb' := hb; try simp only [decide_eq_true_eq, decide_eq_false_iff_not, beq_iff_eq, bne_iff_ne, beq_eq_false_iff_ne, bne_eq_false_iff_eq, Bool.not_eq_true', Bool.not_eq_false', Bool.not_eq_true, Bool.not_eq_false, Bool.and_eq_true, Bool.or_eq_true, Bool.and_eq_false_iff, Bool.or_eq_false_iff, Int.not_lt, Int.not_le, ne_eq, gt_iff_lt, ge_iff_le] at hb') <;> (try (exfalso; omega))) | (refine altW.of ?_ ?_) | (refine .of ((hC _ _ _ _).mono ?_); rintro v _ ⟨gn, rfl, rfl⟩)
      exact .here ⟨_, _, _, rfl, rfl, Or.inr ⟨x.length + 1 + 1 + 1 + 1, gn, rfl, by simp [flat'_ienc]⟩, 3, g', av, rfl, rfl, hA.1, fun i hi => ⟨(hA.2 i hi).1, IsX.up (b := H.length) (x := [_, _, _, _]) ((hA.2 i hi).2.app _)⟩⟩

end Go.Proofs.YtmbcgelfnbnicaaDoor.Pc
