import Derived.Test.YtlnocgfblheehaaLaws
import Derived.Test.YtlnocgfblheehaaPlain3
set_option linter.unusedSimpArgs false
set_option linter.unusedVariables false
set_option maxHeartbeats 2000000
set_option maxRecDepth 20000
namespace Go.Proofs.Ytlnocgfblheehaa
open Go Go.Am
attribute [local irreducible] opsW Ww loopW callW drawW outW outDW gW cW BrW bothW vW resW DropW RdW dcallW altW Later.run

theorem flat_upd : ∀ (l : List Nd) (k : Nat) (more : Int), k < l.length → (flat' Nd.cells l).set (k * 2 + 1) (.int .i64 (wt l k + more)) = flat' Nd.cells (updN l k more)
  | [], k, more, h => by simp at h
  | n :: r, 0, more, h => by simp [flat', updN, wt, up, Nd.cells]
  | n :: r, k + 1, more, h => by
    have ih := flat_upd r k more (by simpa using h)
    have e1 : flat' Nd.cells (n :: r) = Nd.cells n ++ flat' Nd.cells r := rfl
    have e2 : updN (n :: r) (k + 1) more = n :: updN r k more := rfl
    have e3 : flat' Nd.cells (n :: updN r k more) = Nd.cells n ++ flat' Nd.cells (updN r k more) := rfl
    have e4 : wt (n :: r) (k + 1) = wt r k := rfl
    rw [e1, e2, e3, e4, ← ih]
    show ([Value.int .i64 n.u, Value.int .i64 n.w] ++ flat' Nd.cells r).set ((k + 1) * 2 + 1) _ = [Value.int .i64 n.u, Value.int .i64 n.w] ++ (flat' Nd.cells r).set (k * 2 + 1) _
    rw [show (k + 1) * 2 + 1 = (k * 2 + 1) + 1 + 1 by omega]
    simp
theorem TreeMore_args (H : Heap) (vals : List Value) (h : ArgsOk maxLen H TreeMoreSh vals) : ACallK Try.prog 6 vals H fun v _ => v = .bool true := by
  obtain ⟨_, _, rfl, a1, h1⟩ := h.cons
  obtain ⟨_, _, rfl, a2, h2⟩ := h1.cons
  obtain ⟨_, _, rfl, a3, h3⟩ := h2.cons
  obtain rfl := h3.nil
  obtain ⟨k, cc, l, rfl, hl, hlc, hO⟩ := nodes_of a1
  obtain ⟨q, rfl, hq⟩ := int_of a2
  obtain ⟨more, rfl, hm⟩ := int_of a3
  clear a1 a2 a3 h h1 h2 h3
  have hW := Wrong_spec l k 0 0 cc H hO hl
  have hkl := hO.at'
  obtain ⟨ro, cs, hk, hcl, hcs⟩ := hO.at'
  refine .walkW f6_ok (by simp; decide) (by decide) ?_
  repeat' first | simp (disch := first | with_reducible assumption | omega) only [go_sem, Bool.true_and, Bool.and_true, Bool.and_self, Bool.false_and, Bool.and_false, Bool.true_or, Bool.or_true, Bool.false_or, Bool.or_false, ↓reduceIte, Nat.reduceEqDiff, Nat.reduceAdd, Nat.reduceMul, Nat.reduceSub, Nat.reduceBEq, Nat.reduceLeDiff, Nat.reduceLT, Nat.reduceMod, Nat.reduceDiv, Int.reduceToNat, Int.reducePow, Int.reduceMul, Int.reduceAdd, Int.reduceSub, Int.reduceLE, Int.reduceLT, Int.reduceNeg, Int.reduceDiv, Int.reduceMod, Int.reduceEq, Int.reduceBEq, Int.reduceBNe, f6, f6b, f6r0, f6r1, f6r2, f6r3, f6r4, f6r5, f6r6, f6r7, f6r8, f6r9, f6r10, f6r11, f6r12, f6r13, f6r14, f6r15, f6r16, f6r17, f6r18, f6r19, f6r20, f6r22] | (refine BrW.of (fun hb => ?_) (fun hb => ?_) <;> (have hb' := hb; try simp only [decide_eq_true_eq, decide_eq_false_iff_not, beq_iff_eq, bne_iff_ne, beq_eq_false_iff_ne, bne_eq_false_iff_eq, Bool.not_eq_true', Bool.not_eq_false', Bool.not_eq_true, Bool.not_eq_false, Bool.and_eq_true, Bool.or_eq_true, Bool.and_eq_false_iff, Bool.or_eq_false_iff, Int.not_lt, Int.not_le, ne_eq, gt_iff_lt, ge_iff_le] at hb') <;> (try (exfalso; omega))) | (refine altW.of ?_ ?_) | (refine .of ((alive _).mono ?_); rintro v H ⟨rfl, rfl⟩)
  refine .of (hW.mono ?_)
  rintro v H ⟨e, rfl, rfl, he⟩
  by_cases hg : okT l ∧ 0 ≤ q ∧ q < l.length ∧ 0 ≤ more ∧ more ≤ 12
  · obtain ⟨h0, g1, g2, g3, g4⟩ := hg
    obtain rfl := he.2 h0
    obtain ⟨r, rfl⟩ : ∃ r : Nat, q = r := ⟨q.toNat, by omega⟩
    have hrl : r < l.length := by omega
    have h16 := h0.2.1
    have hwr := (h0.2.2 r hrl).1
    have hfl := flat'_length (enc := Nd.cells) (s := 2) (fun _ => rfl) l
    have hfw : (flat' Nd.cells l)[r * 2 + 1]? = some (.int .i64 (wt l r)) := flat'_get (enc := Nd.cells) (s := 2) (fun _ => rfl) n0 l r 1 hrl (by omega)
    have hup := flat_upd l r more hrl
    have hC := CloneN_spec l k 0 0 cc H hO (by omega) hlc
    repeat' first | simp (disch := first | with_reducible assumption | omega) only [go_sem, Bool.true_and, Bool.and_true, Bool.and_self, Bool.false_and, Bool.and_false, Bool.true_or, Bool.or_true, Bool.false_or, Bool.or_false, ↓reduceIte, Nat.reduceEqDiff, Nat.reduceAdd, Nat.reduceMul, Nat.reduceSub, Nat.reduceBEq, Nat.reduceLeDiff, Nat.reduceLT, Nat.reduceMod, Nat.reduceDiv, Int.reduceToNat, Int.reducePow, Int.reduceMul, Int.reduceAdd, Int.reduceSub, Int.reduceLE, Int.reduceLT, Int.reduceNeg, Int.reduceDiv, Int.reduceMod, Int.reduceEq, Int.reduceBEq, Int.reduceBNe, f6, f6b, f6r0, f6r1, f6r2, f6r3, f6r4, f6r5, f6r6, f6r7, f6r8, f6r9, f6r10, f6r11, f6r12, f6r13, f6r14, f6r15, f6r16, f6r17, f6r18, f6r19, f6r20, f6r22, hk, get_old hk] | (refine BrW.of (fun hb => ?_) (fun hb => ?_) <;> (have hb' := hb; try simp only [decide_eq_true_eq, decide_eq_false_iff_not, beq_iff_eq, bne_iff_ne, beq_eq_false_iff_ne, bne_eq_false_iff_eq, Bool.not_eq_true', Bool.not_eq_false', Bool.not_eq_true, Bool.not_eq_false, Bool.and_eq_true, Bool.or_eq_true, Bool.and_eq_false_iff, Bool.or_eq_false_iff, Int.not_lt, Int.not_le, ne_eq, gt_iff_lt, ge_iff_le] at hb') <;> (try (exfalso; omega))) | (refine altW.of ?_ ?_)
    all_goals first | (exfalso; omega) | skip
    refine .of (hC.mono ?_)
    rintro v J ⟨g', rfl, rfl⟩
    generalize wt l r = w at *
    repeat' first | simp (disch := first | with_reducible assumption | omega) only [go_sem, Bool.true_and, Bool.and_true, Bool.and_self, Bool.false_and, Bool.and_false, Bool.true_or, Bool.or_true, Bool.false_or, Bool.or_false, ↓reduceIte, Nat.reduceEqDiff, Nat.reduceAdd, Nat.reduceMul, Nat.reduceSub, Nat.reduceBEq, Nat.reduceLeDiff, Nat.reduceLT, Nat.reduceMod, Nat.reduceDiv, Int.reduceToNat, Int.reducePow, Int.reduceMul, Int.reduceAdd, Int.reduceSub, Int.reduceLE, Int.reduceLT, Int.reduceNeg, Int.reduceDiv, Int.reduceMod, Int.reduceEq, Int.reduceBEq, Int.reduceBNe, f6, f6b, f6r0, f6r1, f6r2, f6r3, f6r4, f6r5, f6r6, f6r7, f6r8, f6r9, f6r10, f6r11, f6r12, f6r13, f6r14, f6r15, f6r16, f6r17, f6r18, f6r19, f6r20, f6r22, hk, get_old hk, hfl, hfw] | (refine BrW.of (fun hb => ?_) (fun hb => ?_) <;> (have hb' := hb; try simp only [decide_eq_true_eq, decide_eq_false_iff_not, beq_iff_eq, bne_iff_ne, beq_eq_false_iff_ne, bne_eq_false_iff_eq, Bool.not_eq_true', Bool.not_eq_false', Bool.not_eq_true, Bool.not_eq_false, Bool.and_eq_true, Bool.or_eq_true, Bool.and_eq_false_iff, Bool.or_eq_false_iff, Int.not_lt, Int.not_le, ne_eq, gt_iff_lt, ge_iff_le] at hb') <;> (try (exfalso; omega))) | (refine altW.of ?_ ?_)
    rw [hup]
    have hlm := updN_len l r more
    have hS := fun i (hi : i < l.length) => share_spec h0 hi
    have hself := fun h2 => more_self h0 r more g3 hrl h2
    have hoth := fun h2 i (hi : i < l.length) (h3 : i ≠ r) (h4 : up l i = up l r) => more_other h0 r more g3 hrl h2 hi h3 h4
    generalize updN l r more = m at *
    have hNm := fun (x : Heap) => (Tbl.new (enc := Nd.cells) (s := 2) (d := n0) (fun _ => rfl) (H ++ .cells g' 2 false (flat' Nd.cells m) :: x) H.length g' false m (get_new0 _ _ _) : Nodes (H ++ .cells g' 2 false (flat' Nd.cells m) :: x) H.length 0 g' m)
    have hW2 := Wrong_spec m H.length 0 g' l.length _ (hNm []) (by omega)
    rw [hlm] at hW2
    refine .of (hW2.mono ?_)
    rintro v J ⟨e2, rfl, rfl, he2⟩
    by_cases hm2 : okT m
    · obtain rfl := he2.2 hm2
      have hS2 := fun i (hi : i < l.length) => share_spec hm2 (show i < m.length by omega)
      have hself := hself hm2
      have hoth := hoth hm2
      clear hW hW2 hC he he2 hfl hfw hup
      repeat' first | simp (disch := first | with_reducible assumption | omega) only [go_sem, Bool.true_and, Bool.and_true, Bool.and_self, Bool.false_and, Bool.and_false, Bool.true_or, Bool.or_true, Bool.false_or, Bool.or_false, ↓reduceIte, Nat.reduceEqDiff, Nat.reduceAdd, Nat.reduceMul, Nat.reduceSub, Nat.reduceBEq, Nat.reduceLeDiff, Nat.reduceLT, Nat.reduceMod, Nat.reduceDiv, Int.reduceToNat, Int.reducePow, Int.reduceMul, Int.reduceAdd, Int.reduceSub, Int.reduceLE, Int.reduceLT, Int.reduceNeg, Int.reduceDiv, Int.reduceMod, Int.reduceEq, Int.reduceBEq, Int.reduceBNe, f6, f6b, f6r0, f6r1, f6r2, f6r3, f6r4, f6r5, f6r6, f6r7, f6r8, f6r9, f6r10, f6r11, f6r12, f6r13, f6r14, f6r15, f6r16, f6r17, f6r18, f6r19, f6r20, f6r22, hk, get_old hk] | (refine BrW.of (fun hb => ?_) (fun hb => ?_) <;> (have hb' := hb; try simp only [decide_eq_true_eq, decide_eq_false_iff_not, beq_iff_eq, bne_iff_ne, beq_eq_false_iff_ne, bne_eq_false_iff_eq, Bool.not_eq_true', Bool.not_eq_false', Bool.not_eq_true, Bool.not_eq_false, Bool.and_eq_true, Bool.or_eq_true, Bool.and_eq_false_iff, Bool.or_eq_false_iff, Int.not_lt, Int.not_le, ne_eq, gt_iff_lt, ge_iff_le] at hb') <;> (try (exfalso; omega))) | (refine altW.of ?_ ?_)
      refine loopW.of (by decide) (fun ms e J => ∃ (i : Nat) (x : Heap), e = [(0, slv k 0 0 l.length cc), (1, .int .i64 r), (7, slv H.length 0 g' l.length l.length), (53, .int .i64 l.length), (54, .int .i64 i)] ∧ J = H ++ (.cells g' 2 false (flat' Nd.cells m) :: x) ∧ i ≤ l.length ∧ ms = l.length - i) l.length ⟨0, [], rfl, rfl, by omega, rfl⟩ ?_
      rintro ms e J ⟨i, x, rfl, rfl, hi, rfl⟩
      by_cases hlt : i < l.length
      · have y0 : cs[0 + i * 2]? = some (.int .i64 (up l i)) := hcs i hlt 0 (by omega)
        have y1 : cs[0 + r * 2]? = some (.int .i64 (up l r)) := hcs r hrl 0 (by omega)
        rw [Nat.zero_add] at y0 y1
        have hA := fun (x : Heap) => Share_spec l k 0 0 cc (H ++ x) (hO.app x) h0 i hlt
        have hB := fun (x : Heap) => Share_spec m H.length 0 g' l.length _ (hNm x) hm2 i (by omega)
        rw [hlm] at hB
        have sa := hS i hlt
        have sb := hS2 i hlt
        have ho := hoth i hlt
        clear hS hS2 hoth
        generalize share l i = fa at *
        generalize share m i = fb at *
        obtain ⟨fa, ea⟩ := fa
        obtain ⟨fb, eb⟩ := fb
        simp only [ansF, F.val] at hA hB sa sb
        rcases sa with ⟨rfl, ra, _, rfl⟩ | rfl
        · rcases sb with ⟨rfl, rb, _, rfl⟩ | rfl
          · have hcm := cmp_of ra rb
            have hD := fun (G : Heap) => Cmp_spec (F.of (shQ m i)) (F.of (shQ l i)) G
            obtain ⟨c0, c1, c2, c3, c4⟩ := hcm
            rw [c0] at hD
            have hc3 : i = r → ¬ (cmpF (F.of (shQ m i)) (F.of (shQ l i))).1 < 0 := fun h => c3 (by subst h; exact hself)
            have hc4 : ¬ i = r → up l i = up l r → ¬ 0 < (cmpF (F.of (shQ m i)) (F.of (shQ l i))).1 := fun h1 h2 => c4 (ho h1 h2)
            clear c3 c4 c0 ho hself ra rb
            generalize (cmpF (F.of (shQ m i)) (F.of (shQ l i))).1 = c at *
            generalize F.of (shQ m i) = fb at *
            generalize F.of (shQ l i) = fa at *
            generalize up l i = ui at *
            generalize up l r = ur at *
            simp only [F.val] at hD
            repeat' first | simp (disch := first | with_reducible assumption | omega) only [go_sem, Bool.true_and, Bool.and_true, Bool.and_self, Bool.false_and, Bool.and_false, Bool.true_or, Bool.or_true, Bool.false_or, Bool.or_false, ↓reduceIte, Nat.reduceEqDiff, Nat.reduceAdd, Nat.reduceMul, Nat.reduceSub, Nat.reduceBEq, Nat.reduceLeDiff, Nat.reduceLT, Nat.reduceMod, Nat.reduceDiv, Int.reduceToNat, Int.reducePow, Int.reduceMul, Int.reduceAdd, Int.reduceSub, Int.reduceLE, Int.reduceLT, Int.reduceNeg, Int.reduceDiv, Int.reduceMod, Int.reduceEq, Int.reduceBEq, Int.reduceBNe, f6, f6b, f6r0, f6r1, f6r2, f6r3, f6r4, f6r5, f6r6, f6r7, f6r8, f6r9, f6r10, f6r11, f6r12, f6r13, f6r14, f6r15, f6r16, f6r17, f6r18, f6r19, f6r20, f6r22, f6l0, f6, f6b, f6r0, f6r1, f6r2, f6r3, f6r4, f6r5, f6r6, f6r7, f6r8, f6r9, f6r10, f6r11, f6r12, f6r13, f6r14, f6r15, f6r16, f6r17, f6r18, f6r19, f6r20, f6r22, hk, get_old hk, y0, y1] | (refine BrW.of (fun hb => ?_) (fun hb => ?_) <;> (have hb' := hb; try simp only [decide_eq_true_eq, decide_eq_false_iff_not, beq_iff_eq, bne_iff_ne, beq_eq_false_iff_ne, bne_eq_false_iff_eq, Bool.not_eq_true', Bool.not_eq_false', Bool.not_eq_true, Bool.not_eq_false, Bool.and_eq_true, Bool.or_eq_true, Bool.and_eq_false_iff, Bool.or_eq_false_iff, Int.not_lt, Int.not_le, ne_eq, gt_iff_lt, ge_iff_le] at hb') <;> (try (exfalso; omega))) | (refine altW.of ?_ ?_) | (refine .of ((hA _).mono ?_); rintro v J ⟨rfl, rfl⟩) | (refine .of ((hB _).mono ?_); rintro v J ⟨rfl, rfl⟩) | (refine .of ((hD _).mono ?_); rintro v J ⟨rfl, rfl⟩)
            all_goals first | (exfalso; omega) | (refine RdW.keep [0, 1, 7, 53, 54] (l.length - (i + 1)) (by omega) ?_; simp (disch := first | with_reducible assumption | omega) only [go_sem, Bool.true_and, Bool.and_true, Bool.and_self, Bool.false_and, Bool.and_false, Bool.true_or, Bool.or_true, Bool.false_or, Bool.or_false, ↓reduceIte, Nat.reduceEqDiff, Nat.reduceAdd, Nat.reduceMul, Nat.reduceSub, Nat.reduceBEq, Nat.reduceLeDiff, Nat.reduceLT, Nat.reduceMod, Nat.reduceDiv, Int.reduceToNat, Int.reducePow, Int.reduceMul, Int.reduceAdd, Int.reduceSub, Int.reduceLE, Int.reduceLT, Int.reduceNeg, Int.reduceDiv, Int.reduceMod, Int.reduceEq, Int.reduceBEq, Int.reduceBNe]; exact ⟨i + 1, _, rfl, rfl, by omega, rfl⟩)
          · repeat' first | simp (disch := first | with_reducible assumption | omega) only [go_sem, Bool.true_and, Bool.and_true, Bool.and_self, Bool.false_and, Bool.and_false, Bool.true_or, Bool.or_true, Bool.false_or, Bool.or_false, ↓reduceIte, Nat.reduceEqDiff, Nat.reduceAdd, Nat.reduceMul, Nat.reduceSub, Nat.reduceBEq, Nat.reduceLeDiff, Nat.reduceLT, Nat.reduceMod, Nat.reduceDiv, Int.reduceToNat, Int.reducePow, Int.reduceMul, Int.reduceAdd, Int.reduceSub, Int.reduceLE, Int.reduceLT, Int.reduceNeg, Int.reduceDiv, Int.reduceMod, Int.reduceEq, Int.reduceBEq, Int.reduceBNe, f6, f6b, f6r0, f6r1, f6r2, f6r3, f6r4, f6r5, f6r6, f6r7, f6r8, f6r9, f6r10, f6r11, f6r12, f6r13, f6r14, f6r15, f6r16, f6r17, f6r18, f6r19, f6r20, f6r22, f6l0, f6, f6b, f6r0, f6r1, f6r2, f6r3, f6r4, f6r5, f6r6, f6r7, f6r8, f6r9, f6r10, f6r11, f6r12, f6r13, f6r14, f6r15, f6r16, f6r17, f6r18, f6r19, f6r20, f6r22, hk, get_old hk, y0, y1] | (refine BrW.of (fun hb => ?_) (fun hb => ?_) <;> (have hb' := hb; try simp only [decide_eq_true_eq, decide_eq_false_iff_not, beq_iff_eq, bne_iff_ne, beq_eq_false_iff_ne, bne_eq_false_iff_eq, Bool.not_eq_true', Bool.not_eq_false', Bool.not_eq_true, Bool.not_eq_false, Bool.and_eq_true, Bool.or_eq_true, Bool.and_eq_false_iff, Bool.or_eq_false_iff, Int.not_lt, Int.not_le, ne_eq, gt_iff_lt, ge_iff_le] at hb') <;> (try (exfalso; omega))) | (refine altW.of ?_ ?_) | (refine .of ((hA _).mono ?_); rintro v J ⟨rfl, rfl⟩) | (refine .of ((hB _).mono ?_); rintro v J ⟨rfl, rfl⟩)
            all_goals first | (exfalso; omega) | (refine RdW.keep [0, 1, 7, 53, 54] (l.length - (i + 1)) (by omega) ?_; simp (disch := first | with_reducible assumption | omega) only [go_sem, Bool.true_and, Bool.and_true, Bool.and_self, Bool.false_and, Bool.and_false, Bool.true_or, Bool.or_true, Bool.false_or, Bool.or_false, ↓reduceIte, Nat.reduceEqDiff, Nat.reduceAdd, Nat.reduceMul, Nat.reduceSub, Nat.reduceBEq, Nat.reduceLeDiff, Nat.reduceLT, Nat.reduceMod, Nat.reduceDiv, Int.reduceToNat, Int.reducePow, Int.reduceMul, Int.reduceAdd, Int.reduceSub, Int.reduceLE, Int.reduceLT, Int.reduceNeg, Int.reduceDiv, Int.reduceMod, Int.reduceEq, Int.reduceBEq, Int.reduceBNe]; exact ⟨i + 1, _, rfl, rfl, by omega, rfl⟩)
        · repeat' first | simp (disch := first | with_reducible assumption | omega) only [go_sem, Bool.true_and, Bool.and_true, Bool.and_self, Bool.false_and, Bool.and_false, Bool.true_or, Bool.or_true, Bool.false_or, Bool.or_false, ↓reduceIte, Nat.reduceEqDiff, Nat.reduceAdd, Nat.reduceMul, Nat.reduceSub, Nat.reduceBEq, Nat.reduceLeDiff, Nat.reduceLT, Nat.reduceMod, Nat.reduceDiv, Int.reduceToNat, Int.reducePow, Int.reduceMul, Int.reduceAdd, Int.reduceSub, Int.reduceLE, Int.reduceLT, Int.reduceNeg, Int.reduceDiv, Int.reduceMod, Int.reduceEq, Int.reduceBEq, Int.reduceBNe, f6, f6b, f6r0, f6r1, f6r2, f6r3, f6r4, f6r5, f6r6, f6r7, f6r8, f6r9, f6r10, f6r11, f6r12, f6r13, f6r14, f6r15, f6r16, f6r17, f6r18, f6r19, f6r20, f6r22, f6l0, f6, f6b, f6r0, f6r1, f6r2, f6r3, f6r4, f6r5, f6r6, f6r7, f6r8, f6r9, f6r10, f6r11, f6r12, f6r13, f6r14, f6r15, f6r16, f6r17, f6r18, f6r19, f6r20, f6r22, hk, get_old hk, y0, y1] | (refine BrW.of (fun hb => ?_) (fun hb => ?_) <;> (have hb' := hb; try simp only [decide_eq_true_eq, decide_eq_false_iff_not, beq_iff_eq, bne_iff_ne, beq_eq_false_iff_ne, bne_eq_false_iff_eq, Bool.not_eq_true', Bool.not_eq_false', Bool.not_eq_true, Bool.not_eq_false, Bool.and_eq_true, Bool.or_eq_true, Bool.and_eq_false_iff, Bool.or_eq_false_iff, Int.not_lt, Int.not_le, ne_eq, gt_iff_lt, ge_iff_le] at hb') <;> (try (exfalso; omega))) | (refine altW.of ?_ ?_) | (refine .of ((hA _).mono ?_); rintro v J ⟨rfl, rfl⟩) | (refine .of ((hB _).mono ?_); rintro v J ⟨rfl, rfl⟩)
          all_goals first | (exfalso; omega) | (refine RdW.keep [0, 1, 7, 53, 54] (l.length - (i + 1)) (by omega) ?_; simp (disch := first | with_reducible assumption | omega) only [go_sem, Bool.true_and, Bool.and_true, Bool.and_self, Bool.false_and, Bool.and_false, Bool.true_or, Bool.or_true, Bool.false_or, Bool.or_false, ↓reduceIte, Nat.reduceEqDiff, Nat.reduceAdd, Nat.reduceMul, Nat.reduceSub, Nat.reduceBEq, Nat.reduceLeDiff, Nat.reduceLT, Nat.reduceMod, Nat.reduceDiv, Int.reduceToNat, Int.reducePow, Int.reduceMul, Int.reduceAdd, Int.reduceSub, Int.reduceLE, Int.reduceLT, Int.reduceNeg, Int.reduceDiv, Int.reduceMod, Int.reduceEq, Int.reduceBEq, Int.reduceBNe]; exact ⟨i + 1, _, rfl, rfl, by omega, rfl⟩)
      · obtain rfl : i = l.length := by omega
        repeat' first | simp (disch := first | with_reducible assumption | omega) only [go_sem, Bool.true_and, Bool.and_true, Bool.and_self, Bool.false_and, Bool.and_false, Bool.true_or, Bool.or_true, Bool.false_or, Bool.or_false, ↓reduceIte, Nat.reduceEqDiff, Nat.reduceAdd, Nat.reduceMul, Nat.reduceSub, Nat.reduceBEq, Nat.reduceLeDiff, Nat.reduceLT, Nat.reduceMod, Nat.reduceDiv, Int.reduceToNat, Int.reducePow, Int.reduceMul, Int.reduceAdd, Int.reduceSub, Int.reduceLE, Int.reduceLT, Int.reduceNeg, Int.reduceDiv, Int.reduceMod, Int.reduceEq, Int.reduceBEq, Int.reduceBNe, f6, f6b, f6r0, f6r1, f6r2, f6r3, f6r4, f6r5, f6r6, f6r7, f6r8, f6r9, f6r10, f6r11, f6r12, f6r13, f6r14, f6r15, f6r16, f6r17, f6r18, f6r19, f6r20, f6r22, f6l0, f6, f6b, f6r0, f6r1, f6r2, f6r3, f6r4, f6r5, f6r6, f6r7, f6r8, f6r9, f6r10, f6r11, f6r12, f6r13, f6r14, f6r15, f6r16, f6r17, f6r18, f6r19, f6r20, f6r22] | (refine BrW.of (fun hb => ?_) (fun hb => ?_) <;> (have hb' := hb; try simp only [decide_eq_true_eq, decide_eq_false_iff_not, beq_iff_eq, bne_iff_ne, beq_eq_false_iff_ne, bne_eq_false_iff_eq, Bool.not_eq_true', Bool.not_eq_false', Bool.not_eq_true, Bool.not_eq_false, Bool.and_eq_true, Bool.or_eq_true, Bool.and_eq_false_iff, Bool.or_eq_false_iff, Int.not_lt, Int.not_le, ne_eq, gt_iff_lt, ge_iff_le] at hb') <;> (try (exfalso; omega))) | (refine altW.of ?_ ?_)
        all_goals first | exact .here rfl | (exfalso; omega)
    · have hne : ¬ e2 = 0 := fun h => hm2 (he2.1 h)
      repeat' first | simp (disch := first | with_reducible assumption | omega) only [go_sem, Bool.true_and, Bool.and_true, Bool.and_self, Bool.false_and, Bool.and_false, Bool.true_or, Bool.or_true, Bool.false_or, Bool.or_false, ↓reduceIte, Nat.reduceEqDiff, Nat.reduceAdd, Nat.reduceMul, Nat.reduceSub, Nat.reduceBEq, Nat.reduceLeDiff, Nat.reduceLT, Nat.reduceMod, Nat.reduceDiv, Int.reduceToNat, Int.reducePow, Int.reduceMul, Int.reduceAdd, Int.reduceSub, Int.reduceLE, Int.reduceLT, Int.reduceNeg, Int.reduceDiv, Int.reduceMod, Int.reduceEq, Int.reduceBEq, Int.reduceBNe, f6, f6b, f6r0, f6r1, f6r2, f6r3, f6r4, f6r5, f6r6, f6r7, f6r8, f6r9, f6r10, f6r11, f6r12, f6r13, f6r14, f6r15, f6r16, f6r17, f6r18, f6r19, f6r20, f6r22, hk, get_old hk] | (refine BrW.of (fun hb => ?_) (fun hb => ?_) <;> (have hb' := hb; try simp only [decide_eq_true_eq, decide_eq_false_iff_not, beq_iff_eq, bne_iff_ne, beq_eq_false_iff_ne, bne_eq_false_iff_eq, Bool.not_eq_true', Bool.not_eq_false', Bool.not_eq_true, Bool.not_eq_false, Bool.and_eq_true, Bool.or_eq_true, Bool.and_eq_false_iff, Bool.or_eq_false_iff, Int.not_lt, Int.not_le, ne_eq, gt_iff_lt, ge_iff_le] at hb') <;> (try (exfalso; omega))) | (refine altW.of ?_ ?_)
      all_goals first | exact .here rfl | (exfalso; omega)
  · repeat' first | simp (disch := first | with_reducible assumption | omega) only [go_sem, Bool.true_and, Bool.and_true, Bool.and_self, Bool.false_and, Bool.and_false, Bool.true_or, Bool.or_true, Bool.false_or, Bool.or_false, ↓reduceIte, Nat.reduceEqDiff, Nat.reduceAdd, Nat.reduceMul, Nat.reduceSub, Nat.reduceBEq, Nat.reduceLeDiff, Nat.reduceLT, Nat.reduceMod, Nat.reduceDiv, Int.reduceToNat, Int.reducePow, Int.reduceMul, Int.reduceAdd, Int.reduceSub, Int.reduceLE, Int.reduceLT, Int.reduceNeg, Int.reduceDiv, Int.reduceMod, Int.reduceEq, Int.reduceBEq, Int.reduceBNe, f6, f6b, f6r0, f6r1, f6r2, f6r3, f6r4, f6r5, f6r6, f6r7, f6r8, f6r9, f6r10, f6r11, f6r12, f6r13, f6r14, f6r15, f6r16, f6r17, f6r18, f6r19, f6r20, f6r22, hk, get_old hk] | (refine BrW.of (fun hb => ?_) (fun hb => ?_) <;> (have hb' := hb; try simp only [decide_eq_true_eq, decide_eq_false_iff_not, beq_iff_eq, bne_iff_ne, beq_eq_false_iff_ne, bne_eq_false_iff_eq, Bool.not_eq_true', Bool.not_eq_false', Bool.not_eq_true, Bool.not_eq_false, Bool.and_eq_true, Bool.or_eq_true, Bool.and_eq_false_iff, Bool.or_eq_false_iff, Int.not_lt, Int.not_le, ne_eq, gt_iff_lt, ge_iff_le] at hb') <;> (try (exfalso; omega))) | (refine altW.of ?_ ?_)
    all_goals first | exact .here rfl | (exfalso; omega) | (exfalso; exact hg ⟨he.1 (by omega), by omega, by omega, by omega, by omega⟩)
end Go.Proofs.Ytlnocgfblheehaa
