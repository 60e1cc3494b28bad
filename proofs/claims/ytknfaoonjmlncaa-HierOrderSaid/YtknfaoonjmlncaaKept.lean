import Derived.Test.YtknfaoonjmlncaaTab
import Derived.Test.YtknfaoonjmlncaaDiscH
import Derived.Test.YtknfaoonjmlncaaOwn
set_option linter.unusedSimpArgs false
set_option linter.unusedVariables false
set_option maxHeartbeats 4000000
set_option maxRecDepth 20000
namespace Go.Proofs.Ytknfaoonjmlncaa
open Go Go.Am
attribute [local irreducible] opsW Ww loopW callW drawW outW outDW gW cW BrW bothW vW resW DropW RdW dcallW altW Later.run

theorem get_ap {H : Heap} {k : Nat} (h : k < H.length) (X : Heap) : (H ++ X)[k]? = H[k]? := List.getElem?_append_left h
/-- The queues in an array. -/
def Cm (C n : Nat) (L : Nat → List Int) (J : Heap) : Prop := ∃ vs : List Value, vs.length = n ∧ J[C]? = some (.cells 0 1 false vs) ∧ Own (C + 1) n (fun k => vs.getD k v0) L J
theorem getD_setV (l : List Value) (i k : Nat) (x : Value) (h : i < l.length) : (l.set i x).getD k v0 = if i = k then x else l.getD k v0 := by
  simp only [List.getD_eq_getElem?_getD]
  by_cases e : i = k
  · subst e; rw [if_pos rfl, List.getElem?_set_self h]; rfl
  · rw [if_neg e, List.getElem?_set_ne e]
theorem drop_intsK {cs : List Value} {o : Nat} {l : List Int} (hd : cs.drop o = ints l) : (cs.drop o).take l.length = ints l := by rw [hd]; exact ints_take l _ (Nat.le_refl _)
theorem drop_lenK {cs : List Value} {o : Nat} {l : List Int} (hd : cs.drop o = ints l) (ho : o ≤ cs.length) : o + l.length = cs.length := by
  have := congrArg List.length hd
  rw [List.length_drop, ints_length] at this
  omega
theorem nils1_flat (n : Nat) : (List.replicate n [Value.slice none 0 0]).flatten = List.replicate n v0 := by
  induction n with
  | zero => rfl
  | succ n ih => simp only [List.replicate_succ, List.flatten_cons, ih]; rfl
theorem kept_spec (n : Nat) (ops : List Op) (errs left : List Int) (sent : List S) (q : Nat → List Int) (w : Nat) (wo we wt wl : Value) (A : Nat → Prop) (H : Heap) (hK : Kept n ops errs sent q w) (ho0 : IsO A H wo ops) (he0 : IsN A H we errs) (hs0 : IsS A H wt sent) (hl0 : IsN A H wl left)
    (hn : n ≤ 1000) (hol : ops.length ≤ 10000) (hsl : sent.length ≤ 10000) (hll : left.length = n) (hlq : ∀ k, k < n → left.getD k 0 = (q k).length) (hrl : ∀ j k, (rest ops errs sent j k).length ≤ 10000) (hcl : ∀ k i, (came ops errs k i).length ≤ 10000) :
    ACallK Try.prog 8 [.int .i64 n, wo, we, wt, wl] H (fun v _ => v = .bool true) := by
  obtain ⟨ko, oo, go, co, _, rfl, hso, hco⟩ := ho0
  obtain ⟨roo, cso, hko, o2, o3⟩ := hso.at'
  obtain ⟨ke, oe, ge, ce, _, rfl, hse, hce⟩ := he0
  obtain ⟨roe, cse, hke, e2, e3⟩ := Ints.cell hse
  obtain ⟨ks, os, gs, cs, _, rfl, hss, hcs⟩ := hs0
  obtain ⟨ros, css, hks, s2, s3⟩ := hss.at'
  obtain ⟨kl, ol, gl, cl, _, rfl, hsl', hcl'⟩ := hl0
  obtain ⟨rol, csl, hkl, l2, l3⟩ := Ints.cell hsl'
  rw [hll] at l3 l2
  have hel := hK.len
  have hkol := (List.getElem?_eq_some_iff.1 hko).1
  have hkel := (List.getElem?_eq_some_iff.1 hke).1
  have hksl := (List.getElem?_eq_some_iff.1 hks).1
  have hkll := (List.getElem?_eq_some_iff.1 hkl).1
  refine .walkW f8_ok (by simp; decide) (by decide) ?_
  have hnf := nils1_flat n
  repeat' first | simp (disch := first | with_reducible assumption | omega) only [go_sem, Bool.true_and, Bool.and_true, Bool.and_self, Bool.false_and, Bool.and_false, Bool.true_or, Bool.or_true, Bool.false_or, Bool.or_false, ↓reduceIte, Nat.reduceEqDiff, Nat.reduceAdd, Nat.reduceMul, Nat.reduceSub, Nat.reduceBEq, Nat.reduceLeDiff, Nat.reduceLT, Nat.reduceMod, Nat.reduceDiv, Int.reduceToNat, Int.reducePow, Int.reduceMul, Int.reduceAdd, Int.reduceSub, Int.reduceLE, Int.reduceLT, Int.reduceNeg, Int.reduceDiv, Int.reduceMod, Int.reduceEq, Int.reduceBEq, Int.reduceBNe, f8, f8b, f8r0, f8r1, f8r2, f8r3, f8r4, f8r5, f8r6, f8r7, f8r8, f8r9, f8r10, f8r11, f8r13, f8r14, f8r15, f8r16, f8r17, f8r18, f8r19, f8r21, f8r22, f8r23, f8r24, f8r25, f8r26, f8r28, hke, hko, hkl, get_old hko, hnf] | (refine BrW.of (fun hb => ?_) (fun hb => ?_) <;> (have hb' := hb; try simp only [decide_eq_true_eq, decide_eq_false_iff_not, beq_iff_eq, bne_iff_ne, beq_eq_false_iff_ne, bne_eq_false_iff_eq, Bool.not_eq_true', Bool.not_eq_false', Bool.not_eq_true, Bool.not_eq_false, Bool.and_eq_true, Bool.or_eq_true, Bool.and_eq_false_iff, Bool.or_eq_false_iff, Int.not_lt, Int.not_le, ne_eq, gt_iff_lt, ge_iff_le] at hb') <;> (try (exfalso; omega))) | (refine altW.of ?_ ?_)
  have hC0 : Cm H.length n (fun k => came ops errs k 0) (H ++ [.cells 0 1 false (List.replicate n v0)]) :=
    ⟨List.replicate n v0, by simp, get_new0 _ _ _, (Own.nil _ _ _ fun k hk => by simp only [List.getD_eq_getElem?_getD, List.getElem?_replicate]; rw [if_pos hk]; rfl).cong (fun _ _ => rfl) (fun _ _ => rfl)⟩
  refine loopW.of (by decide) (fun m e J => ∃ (i : Nat), e = [(0, .int .i64 n), (2, slv ke oe ge errs.length ce), (3, slv ks os gs sent.length cs), (4, slv kl ol gl left.length cl), (11, slv H.length 0 0 n n), (31, slv ko oo go ops.length co), (32, .int .i64 ops.length), (33, .int .i64 i)] ∧
    (∀ j, j < H.length → J[j]? = H[j]?) ∧ Cm H.length n (fun k => came ops errs k i) J ∧ i ≤ ops.length ∧ m = ops.length - i) ops.length ⟨0, rfl, fun j hj => get_ap hj _, hC0, by omega, rfl⟩ ?_
  clear hC0
  rintro m e J ⟨i, rfl, hold, ⟨vs, hvl, hC, hOwn⟩, hi, rfl⟩
  have hCl := (List.getElem?_eq_some_iff.1 hC).1
  have hkoJ := (hold ko hkol).trans hko
  have hkeJ := (hold ke hkel).trans hke
  have hksJ := (hold ks hksl).trans hks
  have hklJ := (hold kl hkll).trans hkl
  by_cases hlt : i < ops.length
  · have x0 := o3 i hlt 0 (by omega)
    have x1 := o3 i hlt 1 (by omega)
    have x2 := o3 i hlt 2 (by omega)
    simp only [Op.cells, List.getElem?_cons_zero, List.getElem?_cons_succ, Nat.add_zero, show oo + i * 3 + 2 = oo + i * 3 + 1 + 1 by omega] at x0 x1 x2
    have xe := e3 i (by omega)
    have hee : errs.getD i 1 = errs.getD i 0 := by simp [List.getD_eq_getElem?_getD, List.getElem?_eq_getElem (show i < errs.length by omega)]
    have hcm : ∀ k : Nat, came ops errs k (i + 1) = came ops errs k i ++ (if errs.getD i 0 = 0 ∧ (ops.getD i o0).k = 1 ∧ (ops.getD i o0).f = k then [(ops.getD i o0).b] else []) := fun k => by rw [← hee]; rfl
    have hokk := hK.ok i hlt
    rw [hee] at hokk
    have hcl1 := fun k => hcl k i
    clear hee o3 e3 hcl hrl hlq
    generalize ops.getD i o0 = o at *
    generalize errs.getD i 0 = e at *
    by_cases hyes : e = 0 ∧ o.k = 1
    · obtain ⟨rfl, h1⟩ := hyes
      rcases hokk rfl with ⟨_, hf1, hf2⟩ | h2
      · obtain ⟨k, hk'⟩ := Int.eq_ofNat_of_zero_le hf1
        rw [hk'] at x1 hcm hf2
        rw [h1] at x0 hcm
        have hkn : k < n := by omega
        have hvk : vs[k]? = some (vs.getD k v0) := by simp [List.getD_eq_getElem?_getD, List.getElem?_eq_getElem (show k < vs.length by omega)]
        have hcm1 := hcm k
        rw [if_pos ⟨rfl, rfl, rfl⟩] at hcm1
        have hcm2 : ∀ j, j ≠ k → came ops errs j (i + 1) = came ops errs j i := fun j hj => by rw [hcm j, if_neg (fun h => by omega), List.append_nil]
        have hclk := hcl1 k
        clear hcm hcl1
        obtain ⟨q1, o1, g1, cs1, hX⟩ := hOwn
        have hat := hX.at' k hkn
        have hag : ∀ k', k' < H.length → k' < J.length := fun _ _ => by omega
        rcases hat with ⟨hv, hq⟩ | ⟨hv, hqP, hQ, hd, ho⟩
        · rw [hv] at hvk
          rw [hq] at hcm1
          repeat' first | simp (disch := first | with_reducible assumption | omega) only [go_sem, Bool.true_and, Bool.and_true, Bool.and_self, Bool.false_and, Bool.and_false, Bool.true_or, Bool.or_true, Bool.false_or, Bool.or_false, ↓reduceIte, Nat.reduceEqDiff, Nat.reduceAdd, Nat.reduceMul, Nat.reduceSub, Nat.reduceBEq, Nat.reduceLeDiff, Nat.reduceLT, Nat.reduceMod, Nat.reduceDiv, Int.reduceToNat, Int.reducePow, Int.reduceMul, Int.reduceAdd, Int.reduceSub, Int.reduceLE, Int.reduceLT, Int.reduceNeg, Int.reduceDiv, Int.reduceMod, Int.reduceEq, Int.reduceBEq, Int.reduceBNe, f8, f8b, f8r0, f8r1, f8r2, f8r3, f8r4, f8r5, f8r6, f8r7, f8r8, f8r9, f8r10, f8r11, f8r13, f8r14, f8r15, f8r16, f8r17, f8r18, f8r19, f8r21, f8r22, f8r23, f8r24, f8r25, f8r26, f8r28, f8l0, hkoJ, get_old hkoJ, x0, x1, x2, xe, get_old hkeJ, hkeJ, hC, get_old hC, hvk, hvl] | (refine BrW.of (fun hb => ?_) (fun hb => ?_) <;> (have hb' := hb; try simp only [decide_eq_true_eq, decide_eq_false_iff_not, beq_iff_eq, bne_iff_ne, beq_eq_false_iff_ne, bne_eq_false_iff_eq, Bool.not_eq_true', Bool.not_eq_false', Bool.not_eq_true, Bool.not_eq_false, Bool.and_eq_true, Bool.or_eq_true, Bool.and_eq_false_iff, Bool.or_eq_false_iff, Int.not_lt, Int.not_le, ne_eq, gt_iff_lt, ge_iff_le] at hb') <;> (try (exfalso; omega))) | (refine altW.of ?_ ?_)
          refine RdW.keep [0, 2, 3, 4, 11, 31, 32, 33] (ops.length - (i + 1)) (by omega) ?_
          simp (disch := first | with_reducible assumption | omega) only [go_sem, Bool.true_and, Bool.and_true, Bool.and_self, Bool.false_and, Bool.and_false, Bool.true_or, Bool.or_true, Bool.false_or, Bool.or_false, ↓reduceIte, Nat.reduceEqDiff, Nat.reduceAdd, Nat.reduceMul, Nat.reduceSub, Nat.reduceBEq, Nat.reduceLeDiff, Nat.reduceLT, Nat.reduceMod, Nat.reduceDiv, Int.reduceToNat, Int.reducePow, Int.reduceMul, Int.reduceAdd, Int.reduceSub, Int.reduceLE, Int.reduceLT, Int.reduceNeg, Int.reduceDiv, Int.reduceMod, Int.reduceEq, Int.reduceBEq, Int.reduceBNe]
          refine ⟨i + 1, rfl, fun j hj => (get_set_miss (by omega)).trans ((get_ap (by omega) _).trans (hold j hj)), ⟨vs.set k (slv (J.length + 2) 0 0 1 1), by simpa using hvl, get_set_hit (get_old hC _), ?_⟩, by omega, rfl⟩
          refine hX.step (f := k) (q' := J.length + 2) (o' := 0) (g' := 0) (cs' := [.int .i64 o.b]) (l' := [o.b]) (by rw [getD_setV _ _ _ _ (by omega), if_pos rfl]; rfl) (by rw [hcm1]; rfl) (fun j _ h => by rw [getD_setV _ _ _ _ (by omega), if_neg (Ne.symm h)]) (fun j _ h => hcm2 j h) (by omega) ((get_set_miss (by omega)).trans (by rw [get_new]; rfl)) rfl (by simp) (fun j hj h1 h2 => by have := hX.lt hj h2; omega) (fun j hj h1 h2 => by have := hX.lt hj h2; have := hX.ge hj h2; rw [List.getElem?_set_ne (by omega), get_ap (by omega)])
        · rw [hv] at hvk
          have hql2 := drop_lenK hd ho
          have hdt := drop_intsK hd
          have il := ints_length (came ops errs k i)
          have is := ints_snoc (came ops errs k i) o.b
          rw [← hcm1] at is
          have hil : (came ops errs k (i + 1)).length = (came ops errs k i).length + 1 := by rw [hcm1]; simp
          have hqJ := (List.getElem?_eq_some_iff.1 hQ).1
          have hni : ¬ (came ops errs k i).length + 1 ≤ (came ops errs k i).length := by omega
          have nC0 : ∀ X y, ((J ++ X).set (q1 k) y)[H.length]? = _ := fun X y => (get_set_miss (by omega)).trans (get_old hC X)
          have nO : ∀ X B y, ((J ++ B :: X).set (q1 k) y)[J.length]? = some B := fun X B y => (get_set_miss (by omega)).trans (get_new0 J B X)
          repeat' first | simp (disch := first | with_reducible assumption | omega) only [go_sem, Bool.true_and, Bool.and_true, Bool.and_self, Bool.false_and, Bool.and_false, Bool.true_or, Bool.or_true, Bool.false_or, Bool.or_false, ↓reduceIte, Nat.reduceEqDiff, Nat.reduceAdd, Nat.reduceMul, Nat.reduceSub, Nat.reduceBEq, Nat.reduceLeDiff, Nat.reduceLT, Nat.reduceMod, Nat.reduceDiv, Int.reduceToNat, Int.reducePow, Int.reduceMul, Int.reduceAdd, Int.reduceSub, Int.reduceLE, Int.reduceLT, Int.reduceNeg, Int.reduceDiv, Int.reduceMod, Int.reduceEq, Int.reduceBEq, Int.reduceBNe, f8, f8b, f8r0, f8r1, f8r2, f8r3, f8r4, f8r5, f8r6, f8r7, f8r8, f8r9, f8r10, f8r11, f8r13, f8r14, f8r15, f8r16, f8r17, f8r18, f8r19, f8r21, f8r22, f8r23, f8r24, f8r25, f8r26, f8r28, f8l0, hkoJ, get_old hkoJ, x0, x1, x2, xe, get_old hkeJ, hkeJ, hC, get_old hC, hvk, hvl, get_old hQ, hdt, il, is, hni, nC0, nO] | (refine BrW.of (fun hb => ?_) (fun hb => ?_) <;> (have hb' := hb; try simp only [decide_eq_true_eq, decide_eq_false_iff_not, beq_iff_eq, bne_iff_ne, beq_eq_false_iff_ne, bne_eq_false_iff_eq, Bool.not_eq_true', Bool.not_eq_false', Bool.not_eq_true, Bool.not_eq_false, Bool.and_eq_true, Bool.or_eq_true, Bool.and_eq_false_iff, Bool.or_eq_false_iff, Int.not_lt, Int.not_le, ne_eq, gt_iff_lt, ge_iff_le] at hb') <;> (try (exfalso; omega))) | (refine altW.of ?_ ?_)
          refine RdW.keep [0, 2, 3, 4, 11, 31, 32, 33] (ops.length - (i + 1)) (by omega) ?_
          simp (disch := first | with_reducible assumption | omega) only [go_sem, Bool.true_and, Bool.and_true, Bool.and_self, Bool.false_and, Bool.and_false, Bool.true_or, Bool.or_true, Bool.false_or, Bool.or_false, ↓reduceIte, Nat.reduceEqDiff, Nat.reduceAdd, Nat.reduceMul, Nat.reduceSub, Nat.reduceBEq, Nat.reduceLeDiff, Nat.reduceLT, Nat.reduceMod, Nat.reduceDiv, Int.reduceToNat, Int.reducePow, Int.reduceMul, Int.reduceAdd, Int.reduceSub, Int.reduceLE, Int.reduceLT, Int.reduceNeg, Int.reduceDiv, Int.reduceMod, Int.reduceEq, Int.reduceBEq, Int.reduceBNe]
          refine ⟨i + 1, rfl, fun j hj => (get_set_miss (by omega)).trans ((get_set_miss (by omega)).trans ((get_ap (by omega) _).trans (hold j hj))), ⟨vs.set k (slv (q1 k) 0 (g1 k + 1) ((came ops errs k i).length + 1) ((came ops errs k i).length + 1)), by simpa using hvl, get_set_hit (nC0 _ _), ?_⟩, by omega, rfl⟩
          refine hX.step (f := k) (q' := q1 k) (o' := 0) (g' := g1 k + 1) (cs' := ints (came ops errs k (i + 1))) (l' := came ops errs k (i + 1)) (by rw [getD_setV _ _ _ _ (by omega), if_pos rfl, hil]) rfl (fun j _ h => by rw [getD_setV _ _ _ _ (by omega), if_neg (Ne.symm h)]) (fun j _ h => hcm2 j h) hqP ((get_set_miss (by omega)).trans (get_set_hit (get_old hQ _))) (by rw [List.drop_zero]) (by omega) (fun j hj h1 h2 => hX.inj j k hj hkn h1 h2 (by rw [hv]; exact slv_ne _ _ _ _ _)) (fun j hj h1 h2 => by
            have := hX.lt hj h2
            have := hX.ge hj h2
            have := hX.inj j k hj hkn h1 h2 (by rw [hv]; exact slv_ne _ _ _ _ _)
            rw [List.getElem?_set_ne (by omega), List.getElem?_set_ne (by omega), get_ap (by omega)])
      · omega
    · have hcm2 : ∀ j : Nat, came ops errs j (i + 1) = came ops errs j i := fun j => by rw [hcm j, if_neg (fun h => hyes ⟨h.1, h.2.1⟩), List.append_nil]
      by_cases he : e = 0
      · repeat' first | simp (disch := first | with_reducible assumption | omega) only [go_sem, Bool.true_and, Bool.and_true, Bool.and_self, Bool.false_and, Bool.and_false, Bool.true_or, Bool.or_true, Bool.false_or, Bool.or_false, ↓reduceIte, Nat.reduceEqDiff, Nat.reduceAdd, Nat.reduceMul, Nat.reduceSub, Nat.reduceBEq, Nat.reduceLeDiff, Nat.reduceLT, Nat.reduceMod, Nat.reduceDiv, Int.reduceToNat, Int.reducePow, Int.reduceMul, Int.reduceAdd, Int.reduceSub, Int.reduceLE, Int.reduceLT, Int.reduceNeg, Int.reduceDiv, Int.reduceMod, Int.reduceEq, Int.reduceBEq, Int.reduceBNe, f8, f8b, f8r0, f8r1, f8r2, f8r3, f8r4, f8r5, f8r6, f8r7, f8r8, f8r9, f8r10, f8r11, f8r13, f8r14, f8r15, f8r16, f8r17, f8r18, f8r19, f8r21, f8r22, f8r23, f8r24, f8r25, f8r26, f8r28, f8l0, hkoJ, get_old hkoJ, x0, x1, x2, xe, get_old hkeJ, hkeJ] | (refine BrW.of (fun hb => ?_) (fun hb => ?_) <;> (have hb' := hb; try simp only [decide_eq_true_eq, decide_eq_false_iff_not, beq_iff_eq, bne_iff_ne, beq_eq_false_iff_ne, bne_eq_false_iff_eq, Bool.not_eq_true', Bool.not_eq_false', Bool.not_eq_true, Bool.not_eq_false, Bool.and_eq_true, Bool.or_eq_true, Bool.and_eq_false_iff, Bool.or_eq_false_iff, Int.not_lt, Int.not_le, ne_eq, gt_iff_lt, ge_iff_le] at hb') <;> (try (exfalso; omega))) | (refine altW.of ?_ ?_)
        refine RdW.keep [0, 2, 3, 4, 11, 31, 32, 33] (ops.length - (i + 1)) (by omega) ?_
        simp (disch := first | with_reducible assumption | omega) only [go_sem, Bool.true_and, Bool.and_true, Bool.and_self, Bool.false_and, Bool.and_false, Bool.true_or, Bool.or_true, Bool.false_or, Bool.or_false, ↓reduceIte, Nat.reduceEqDiff, Nat.reduceAdd, Nat.reduceMul, Nat.reduceSub, Nat.reduceBEq, Nat.reduceLeDiff, Nat.reduceLT, Nat.reduceMod, Nat.reduceDiv, Int.reduceToNat, Int.reducePow, Int.reduceMul, Int.reduceAdd, Int.reduceSub, Int.reduceLE, Int.reduceLT, Int.reduceNeg, Int.reduceDiv, Int.reduceMod, Int.reduceEq, Int.reduceBEq, Int.reduceBNe]
        exact ⟨i + 1, rfl, fun j hj => (get_ap (by omega) _).trans (hold j hj), ⟨vs, hvl, get_old hC _, (hOwn.app _).cong (fun _ _ => rfl) fun k _ => hcm2 k⟩, by omega, rfl⟩
      · repeat' first | simp (disch := first | with_reducible assumption | omega) only [go_sem, Bool.true_and, Bool.and_true, Bool.and_self, Bool.false_and, Bool.and_false, Bool.true_or, Bool.or_true, Bool.false_or, Bool.or_false, ↓reduceIte, Nat.reduceEqDiff, Nat.reduceAdd, Nat.reduceMul, Nat.reduceSub, Nat.reduceBEq, Nat.reduceLeDiff, Nat.reduceLT, Nat.reduceMod, Nat.reduceDiv, Int.reduceToNat, Int.reducePow, Int.reduceMul, Int.reduceAdd, Int.reduceSub, Int.reduceLE, Int.reduceLT, Int.reduceNeg, Int.reduceDiv, Int.reduceMod, Int.reduceEq, Int.reduceBEq, Int.reduceBNe, f8, f8b, f8r0, f8r1, f8r2, f8r3, f8r4, f8r5, f8r6, f8r7, f8r8, f8r9, f8r10, f8r11, f8r13, f8r14, f8r15, f8r16, f8r17, f8r18, f8r19, f8r21, f8r22, f8r23, f8r24, f8r25, f8r26, f8r28, f8l0, hkoJ, get_old hkoJ, x0, x1, x2, xe, get_old hkeJ, hkeJ] | (refine BrW.of (fun hb => ?_) (fun hb => ?_) <;> (have hb' := hb; try simp only [decide_eq_true_eq, decide_eq_false_iff_not, beq_iff_eq, bne_iff_ne, beq_eq_false_iff_ne, bne_eq_false_iff_eq, Bool.not_eq_true', Bool.not_eq_false', Bool.not_eq_true, Bool.not_eq_false, Bool.and_eq_true, Bool.or_eq_true, Bool.and_eq_false_iff, Bool.or_eq_false_iff, Int.not_lt, Int.not_le, ne_eq, gt_iff_lt, ge_iff_le] at hb') <;> (try (exfalso; omega))) | (refine altW.of ?_ ?_)
        refine RdW.keep [0, 2, 3, 4, 11, 31, 32, 33] (ops.length - (i + 1)) (by omega) ?_
        simp (disch := first | with_reducible assumption | omega) only [go_sem, Bool.true_and, Bool.and_true, Bool.and_self, Bool.false_and, Bool.and_false, Bool.true_or, Bool.or_true, Bool.false_or, Bool.or_false, ↓reduceIte, Nat.reduceEqDiff, Nat.reduceAdd, Nat.reduceMul, Nat.reduceSub, Nat.reduceBEq, Nat.reduceLeDiff, Nat.reduceLT, Nat.reduceMod, Nat.reduceDiv, Int.reduceToNat, Int.reducePow, Int.reduceMul, Int.reduceAdd, Int.reduceSub, Int.reduceLE, Int.reduceLT, Int.reduceNeg, Int.reduceDiv, Int.reduceMod, Int.reduceEq, Int.reduceBEq, Int.reduceBNe]
        exact ⟨i + 1, rfl, fun j hj => (get_ap (by omega) _).trans (hold j hj), ⟨vs, hvl, get_old hC _, (hOwn.app _).cong (fun _ _ => rfl) fun k _ => hcm2 k⟩, by omega, rfl⟩
  · obtain rfl : i = ops.length := by omega
    repeat' first | simp (disch := first | with_reducible assumption | omega) only [go_sem, Bool.true_and, Bool.and_true, Bool.and_self, Bool.false_and, Bool.and_false, Bool.true_or, Bool.or_true, Bool.false_or, Bool.or_false, ↓reduceIte, Nat.reduceEqDiff, Nat.reduceAdd, Nat.reduceMul, Nat.reduceSub, Nat.reduceBEq, Nat.reduceLeDiff, Nat.reduceLT, Nat.reduceMod, Nat.reduceDiv, Int.reduceToNat, Int.reducePow, Int.reduceMul, Int.reduceAdd, Int.reduceSub, Int.reduceLE, Int.reduceLT, Int.reduceNeg, Int.reduceDiv, Int.reduceMod, Int.reduceEq, Int.reduceBEq, Int.reduceBNe, f8, f8b, f8r0, f8r1, f8r2, f8r3, f8r4, f8r5, f8r6, f8r7, f8r8, f8r9, f8r10, f8r11, f8r13, f8r14, f8r15, f8r16, f8r17, f8r18, f8r19, f8r21, f8r22, f8r23, f8r24, f8r25, f8r26, f8r28, f8l0, f8, f8b, f8r0, f8r1, f8r2, f8r3, f8r4, f8r5, f8r6, f8r7, f8r8, f8r9, f8r10, f8r11, f8r13, f8r14, f8r15, f8r16, f8r17, f8r18, f8r19, f8r21, f8r22, f8r23, f8r24, f8r25, f8r26, f8r28, hksJ] | (refine BrW.of (fun hb => ?_) (fun hb => ?_) <;> (have hb' := hb; try simp only [decide_eq_true_eq, decide_eq_false_iff_not, beq_iff_eq, bne_iff_ne, beq_eq_false_iff_ne, bne_eq_false_iff_eq, Bool.not_eq_true', Bool.not_eq_false', Bool.not_eq_true, Bool.not_eq_false, Bool.and_eq_true, Bool.or_eq_true, Bool.and_eq_false_iff, Bool.or_eq_false_iff, Int.not_lt, Int.not_le, ne_eq, gt_iff_lt, ge_iff_le] at hb') <;> (try (exfalso; omega))) | (refine altW.of ?_ ?_)
    have hCm : Cm H.length n (fun k => rest ops errs sent 0 k) J := ⟨vs, hvl, hC, hOwn⟩
    clear hC hOwn hvl hcl hkoJ hkeJ hksJ hklJ o3 e3
    refine loopW.of (by decide) (fun m e J' => ∃ (j : Nat), e = [(0, .int .i64 n), (4, slv kl ol gl left.length cl), (11, slv H.length 0 0 n n), (71, slv ks os gs sent.length cs), (72, .int .i64 sent.length), (73, .int .i64 j)] ∧
      (∀ j, j < H.length → J'[j]? = H[j]?) ∧ Cm H.length n (fun k => rest ops errs sent j k) J' ∧ j ≤ sent.length ∧ m = sent.length - j) sent.length ⟨0, rfl, hold, hCm, by omega, rfl⟩ ?_
    clear hCm hold hCl
    clear J
    rintro m e J ⟨i, rfl, hold, ⟨vs, hvl, hC, hOwn⟩, hi, rfl⟩
    have hCl := (List.getElem?_eq_some_iff.1 hC).1
    have hksJ := (hold ks hksl).trans hks
    have hklJ := (hold kl hkll).trans hkl
    by_cases hlt : i < sent.length
    · have x0 := s3 i hlt 0 (by omega)
      have x1 := s3 i hlt 1 (by omega)
      simp only [S.cells, List.getElem?_cons_zero, List.getElem?_cons_succ, Nat.add_zero] at x0 x1
      have hfi := hK.fine i hlt
      have hst := fun k hk => hK.rest_step (j := i) (k := k) hk hlt
      have hrl1 := fun k => hrl i k
      clear s3 hrl hlq
      generalize sent.getD i s0 = s at *
      obtain ⟨k, hk'⟩ := Int.eq_ofNat_of_zero_le hfi.1
      rw [hk'] at x0
      have hkn : k < n := by omega
      have hvk : vs[k]? = some (vs.getD k v0) := by simp [List.getD_eq_getElem?_getD, List.getElem?_eq_getElem (show k < vs.length by omega)]
      have hr := hst k hkn
      rw [if_pos hk'] at hr
      have hr2 : ∀ j, j < n → j ≠ k → rest ops errs sent (i + 1) j = rest ops errs sent i j := fun j hj hjk => by
        have := hst j hj
        rwa [if_neg (by omega)] at this
      have hrlk := hrl1 k
      clear hst hrl1
      obtain ⟨q1, o1, g1, cs1, hX⟩ := hOwn
      rcases hX.at' k hkn with ⟨hv, hq⟩ | ⟨hv, hqP, hQ, hd, ho⟩
      · rw [hr] at hq; cases hq
      · rw [hv] at hvk
        rw [hr] at hd hvk hrlk
        have hqJ := (List.getElem?_eq_some_iff.1 hQ).1
        have hql2 := drop_lenK hd ho
        simp only [List.length_cons] at hvk hql2 hrlk
        have hx0 : (cs1 k)[o1 k]? = some (.int .i64 s.n) := by
          have h1 := congrArg (fun l => l[0]?) hd
          simp only [List.getElem?_drop, Nat.add_zero] at h1
          rw [h1]; rfl
        have hdt : (cs1 k).drop (o1 k + 1) = ints (rest ops errs sent (i + 1) k) := by
          have h1 := congrArg (List.drop 1) hd
          rwa [List.drop_drop] at h1
        have hni : 1 ≤ (rest ops errs sent (i + 1) k).length + 1 := by omega
        repeat' first | simp (disch := first | with_reducible assumption | omega) only [go_sem, Bool.true_and, Bool.and_true, Bool.and_self, Bool.false_and, Bool.and_false, Bool.true_or, Bool.or_true, Bool.false_or, Bool.or_false, ↓reduceIte, Nat.reduceEqDiff, Nat.reduceAdd, Nat.reduceMul, Nat.reduceSub, Nat.reduceBEq, Nat.reduceLeDiff, Nat.reduceLT, Nat.reduceMod, Nat.reduceDiv, Int.reduceToNat, Int.reducePow, Int.reduceMul, Int.reduceAdd, Int.reduceSub, Int.reduceLE, Int.reduceLT, Int.reduceNeg, Int.reduceDiv, Int.reduceMod, Int.reduceEq, Int.reduceBEq, Int.reduceBNe, f8, f8b, f8r0, f8r1, f8r2, f8r3, f8r4, f8r5, f8r6, f8r7, f8r8, f8r9, f8r10, f8r11, f8r13, f8r14, f8r15, f8r16, f8r17, f8r18, f8r19, f8r21, f8r22, f8r23, f8r24, f8r25, f8r26, f8r28, f8l1, hksJ, get_old hksJ, x0, x1, hC, get_old hC, hvk, hvl, hQ, get_old hQ, hx0] | (refine BrW.of (fun hb => ?_) (fun hb => ?_) <;> (have hb' := hb; try simp only [decide_eq_true_eq, decide_eq_false_iff_not, beq_iff_eq, bne_iff_ne, beq_eq_false_iff_ne, bne_eq_false_iff_eq, Bool.not_eq_true', Bool.not_eq_false', Bool.not_eq_true, Bool.not_eq_false, Bool.and_eq_true, Bool.or_eq_true, Bool.and_eq_false_iff, Bool.or_eq_false_iff, Int.not_lt, Int.not_le, ne_eq, gt_iff_lt, ge_iff_le] at hb') <;> (try (exfalso; omega))) | (refine altW.of ?_ ?_)
        rw [Nat.add_sub_cancel]
        refine RdW.keep [0, 4, 11, 71, 72, 73] (sent.length - (i + 1)) (by omega) ?_
        simp (disch := first | with_reducible assumption | omega) only [go_sem, Bool.true_and, Bool.and_true, Bool.and_self, Bool.false_and, Bool.and_false, Bool.true_or, Bool.or_true, Bool.false_or, Bool.or_false, ↓reduceIte, Nat.reduceEqDiff, Nat.reduceAdd, Nat.reduceMul, Nat.reduceSub, Nat.reduceBEq, Nat.reduceLeDiff, Nat.reduceLT, Nat.reduceMod, Nat.reduceDiv, Int.reduceToNat, Int.reducePow, Int.reduceMul, Int.reduceAdd, Int.reduceSub, Int.reduceLE, Int.reduceLT, Int.reduceNeg, Int.reduceDiv, Int.reduceMod, Int.reduceEq, Int.reduceBEq, Int.reduceBNe]
        refine ⟨i + 1, rfl, fun j hj => (get_set_miss (by omega)).trans ((get_ap (by omega) _).trans (hold j hj)), ⟨vs.set k (slv (q1 k) (o1 k + 1) (g1 k) (rest ops errs sent (i + 1) k).length (rest ops errs sent (i + 1) k).length), by simpa using hvl, get_set_hit (get_old hC _), ?_⟩, by omega, rfl⟩
        refine hX.step (f := k) (q' := q1 k) (o' := o1 k + 1) (g' := g1 k) (cs' := cs1 k) (l' := rest ops errs sent (i + 1) k) (by rw [getD_setV _ _ _ _ (by omega), if_pos rfl]) rfl (fun j _ h => by rw [getD_setV _ _ _ _ (by omega), if_neg (Ne.symm h)]) hr2 hqP ((get_set_miss (by omega)).trans (get_old hQ _)) hdt (by omega) (fun j hj h1 h2 => hX.inj j k hj hkn h1 h2 (by rw [hv]; exact slv_ne _ _ _ _ _)) (fun j hj h1 h2 => by
          have := hX.lt hj h2
          have := hX.ge hj h2
          rw [List.getElem?_set_ne (by omega), get_ap (by omega)])
    · obtain rfl : i = sent.length := by omega
      repeat' first | simp (disch := first | with_reducible assumption | omega) only [go_sem, Bool.true_and, Bool.and_true, Bool.and_self, Bool.false_and, Bool.and_false, Bool.true_or, Bool.or_true, Bool.false_or, Bool.or_false, ↓reduceIte, Nat.reduceEqDiff, Nat.reduceAdd, Nat.reduceMul, Nat.reduceSub, Nat.reduceBEq, Nat.reduceLeDiff, Nat.reduceLT, Nat.reduceMod, Nat.reduceDiv, Int.reduceToNat, Int.reducePow, Int.reduceMul, Int.reduceAdd, Int.reduceSub, Int.reduceLE, Int.reduceLT, Int.reduceNeg, Int.reduceDiv, Int.reduceMod, Int.reduceEq, Int.reduceBEq, Int.reduceBNe, f8, f8b, f8r0, f8r1, f8r2, f8r3, f8r4, f8r5, f8r6, f8r7, f8r8, f8r9, f8r10, f8r11, f8r13, f8r14, f8r15, f8r16, f8r17, f8r18, f8r19, f8r21, f8r22, f8r23, f8r24, f8r25, f8r26, f8r28, f8l1, f8, f8b, f8r0, f8r1, f8r2, f8r3, f8r4, f8r5, f8r6, f8r7, f8r8, f8r9, f8r10, f8r11, f8r13, f8r14, f8r15, f8r16, f8r17, f8r18, f8r19, f8r21, f8r22, f8r23, f8r24, f8r25, f8r26, f8r28, hC] | (refine BrW.of (fun hb => ?_) (fun hb => ?_) <;> (have hb' := hb; try simp only [decide_eq_true_eq, decide_eq_false_iff_not, beq_iff_eq, bne_iff_ne, beq_eq_false_iff_ne, bne_eq_false_iff_eq, Bool.not_eq_true', Bool.not_eq_false', Bool.not_eq_true, Bool.not_eq_false, Bool.and_eq_true, Bool.or_eq_true, Bool.and_eq_false_iff, Bool.or_eq_false_iff, Int.not_lt, Int.not_le, ne_eq, gt_iff_lt, ge_iff_le] at hb') <;> (try (exfalso; omega))) | (refine altW.of ?_ ?_)
      refine loopW.of (by decide) (fun m e J' => ∃ (j : Nat), e = [(4, slv kl ol gl left.length cl), (118, slv H.length 0 0 n n), (119, .int .i64 n), (120, .int .i64 j)] ∧ J' = J ∧ j ≤ n ∧ m = n - j) n ⟨0, rfl, rfl, by omega, rfl⟩ ?_
      rintro m e J' ⟨i, rfl, rfl, hi2, rfl⟩
      by_cases hlt2 : i < n
      · have hvk : vs[i]? = some (vs.getD i v0) := by simp [List.getD_eq_getElem?_getD, List.getElem?_eq_getElem (show i < vs.length by omega)]
        have hre := hK.rest_end (k := i) hlt2
        have xl := l3 i (by omega)
        have hll2 := hrl sent.length i
        rw [hlq i hlt2, ← hre] at xl
        obtain ⟨q1, o1, g1, cs1, hX⟩ := hOwn
        have hat := hX.at' i hlt2
        clear hX hrl hlq l3 s3
        generalize rest ops errs sent sent.length i = y at *
        rcases hat with ⟨hv, rfl⟩ | ⟨hv, hqP, hQ, hd, ho⟩
        · rw [hv] at hvk
          have xl2 : csl[ol + i]? = some (.int .i64 0) := xl
          repeat' first | simp (disch := first | with_reducible assumption | omega) only [go_sem, Bool.true_and, Bool.and_true, Bool.and_self, Bool.false_and, Bool.and_false, Bool.true_or, Bool.or_true, Bool.false_or, Bool.or_false, ↓reduceIte, Nat.reduceEqDiff, Nat.reduceAdd, Nat.reduceMul, Nat.reduceSub, Nat.reduceBEq, Nat.reduceLeDiff, Nat.reduceLT, Nat.reduceMod, Nat.reduceDiv, Int.reduceToNat, Int.reducePow, Int.reduceMul, Int.reduceAdd, Int.reduceSub, Int.reduceLE, Int.reduceLT, Int.reduceNeg, Int.reduceDiv, Int.reduceMod, Int.reduceEq, Int.reduceBEq, Int.reduceBNe, f8, f8b, f8r0, f8r1, f8r2, f8r3, f8r4, f8r5, f8r6, f8r7, f8r8, f8r9, f8r10, f8r11, f8r13, f8r14, f8r15, f8r16, f8r17, f8r18, f8r19, f8r21, f8r22, f8r23, f8r24, f8r25, f8r26, f8r28, f8l2, hC, hvk, hvl, hklJ, xl2] | (refine BrW.of (fun hb => ?_) (fun hb => ?_) <;> (have hb' := hb; try simp only [decide_eq_true_eq, decide_eq_false_iff_not, beq_iff_eq, bne_iff_ne, beq_eq_false_iff_ne, bne_eq_false_iff_eq, Bool.not_eq_true', Bool.not_eq_false', Bool.not_eq_true, Bool.not_eq_false, Bool.and_eq_true, Bool.or_eq_true, Bool.and_eq_false_iff, Bool.or_eq_false_iff, Int.not_lt, Int.not_le, ne_eq, gt_iff_lt, ge_iff_le] at hb') <;> (try (exfalso; omega))) | (refine altW.of ?_ ?_)
          refine RdW.keep [4, 118, 119, 120] (n - (i + 1)) (by omega) ?_
          simp (disch := first | with_reducible assumption | omega) only [go_sem, Bool.true_and, Bool.and_true, Bool.and_self, Bool.false_and, Bool.and_false, Bool.true_or, Bool.or_true, Bool.false_or, Bool.or_false, ↓reduceIte, Nat.reduceEqDiff, Nat.reduceAdd, Nat.reduceMul, Nat.reduceSub, Nat.reduceBEq, Nat.reduceLeDiff, Nat.reduceLT, Nat.reduceMod, Nat.reduceDiv, Int.reduceToNat, Int.reducePow, Int.reduceMul, Int.reduceAdd, Int.reduceSub, Int.reduceLE, Int.reduceLT, Int.reduceNeg, Int.reduceDiv, Int.reduceMod, Int.reduceEq, Int.reduceBEq, Int.reduceBNe]
          exact ⟨i + 1, rfl, by omega, rfl⟩
        · rw [hv] at hvk
          repeat' first | simp (disch := first | with_reducible assumption | omega) only [go_sem, Bool.true_and, Bool.and_true, Bool.and_self, Bool.false_and, Bool.and_false, Bool.true_or, Bool.or_true, Bool.false_or, Bool.or_false, ↓reduceIte, Nat.reduceEqDiff, Nat.reduceAdd, Nat.reduceMul, Nat.reduceSub, Nat.reduceBEq, Nat.reduceLeDiff, Nat.reduceLT, Nat.reduceMod, Nat.reduceDiv, Int.reduceToNat, Int.reducePow, Int.reduceMul, Int.reduceAdd, Int.reduceSub, Int.reduceLE, Int.reduceLT, Int.reduceNeg, Int.reduceDiv, Int.reduceMod, Int.reduceEq, Int.reduceBEq, Int.reduceBNe, f8, f8b, f8r0, f8r1, f8r2, f8r3, f8r4, f8r5, f8r6, f8r7, f8r8, f8r9, f8r10, f8r11, f8r13, f8r14, f8r15, f8r16, f8r17, f8r18, f8r19, f8r21, f8r22, f8r23, f8r24, f8r25, f8r26, f8r28, f8l2, hC, hvk, hvl, hklJ, hQ, xl] | (refine BrW.of (fun hb => ?_) (fun hb => ?_) <;> (have hb' := hb; try simp only [decide_eq_true_eq, decide_eq_false_iff_not, beq_iff_eq, bne_iff_ne, beq_eq_false_iff_ne, bne_eq_false_iff_eq, Bool.not_eq_true', Bool.not_eq_false', Bool.not_eq_true, Bool.not_eq_false, Bool.and_eq_true, Bool.or_eq_true, Bool.and_eq_false_iff, Bool.or_eq_false_iff, Int.not_lt, Int.not_le, ne_eq, gt_iff_lt, ge_iff_le] at hb') <;> (try (exfalso; omega))) | (refine altW.of ?_ ?_)
          refine RdW.keep [4, 118, 119, 120] (n - (i + 1)) (by omega) ?_
          simp (disch := first | with_reducible assumption | omega) only [go_sem, Bool.true_and, Bool.and_true, Bool.and_self, Bool.false_and, Bool.and_false, Bool.true_or, Bool.or_true, Bool.false_or, Bool.or_false, ↓reduceIte, Nat.reduceEqDiff, Nat.reduceAdd, Nat.reduceMul, Nat.reduceSub, Nat.reduceBEq, Nat.reduceLeDiff, Nat.reduceLT, Nat.reduceMod, Nat.reduceDiv, Int.reduceToNat, Int.reducePow, Int.reduceMul, Int.reduceAdd, Int.reduceSub, Int.reduceLE, Int.reduceLT, Int.reduceNeg, Int.reduceDiv, Int.reduceMod, Int.reduceEq, Int.reduceBEq, Int.reduceBNe]
          exact ⟨i + 1, rfl, by omega, rfl⟩
      · obtain rfl : i = n := by omega
        repeat' first | simp (disch := first | with_reducible assumption | omega) only [go_sem, Bool.true_and, Bool.and_true, Bool.and_self, Bool.false_and, Bool.and_false, Bool.true_or, Bool.or_true, Bool.false_or, Bool.or_false, ↓reduceIte, Nat.reduceEqDiff, Nat.reduceAdd, Nat.reduceMul, Nat.reduceSub, Nat.reduceBEq, Nat.reduceLeDiff, Nat.reduceLT, Nat.reduceMod, Nat.reduceDiv, Int.reduceToNat, Int.reducePow, Int.reduceMul, Int.reduceAdd, Int.reduceSub, Int.reduceLE, Int.reduceLT, Int.reduceNeg, Int.reduceDiv, Int.reduceMod, Int.reduceEq, Int.reduceBEq, Int.reduceBNe, f8, f8b, f8r0, f8r1, f8r2, f8r3, f8r4, f8r5, f8r6, f8r7, f8r8, f8r9, f8r10, f8r11, f8r13, f8r14, f8r15, f8r16, f8r17, f8r18, f8r19, f8r21, f8r22, f8r23, f8r24, f8r25, f8r26, f8r28, f8l2, f8, f8b, f8r0, f8r1, f8r2, f8r3, f8r4, f8r5, f8r6, f8r7, f8r8, f8r9, f8r10, f8r11, f8r13, f8r14, f8r15, f8r16, f8r17, f8r18, f8r19, f8r21, f8r22, f8r23, f8r24, f8r25, f8r26, f8r28] | (refine BrW.of (fun hb => ?_) (fun hb => ?_) <;> (have hb' := hb; try simp only [decide_eq_true_eq, decide_eq_false_iff_not, beq_iff_eq, bne_iff_ne, beq_eq_false_iff_ne, bne_eq_false_iff_eq, Bool.not_eq_true', Bool.not_eq_false', Bool.not_eq_true, Bool.not_eq_false, Bool.and_eq_true, Bool.or_eq_true, Bool.and_eq_false_iff, Bool.or_eq_false_iff, Int.not_lt, Int.not_le, ne_eq, gt_iff_lt, ge_iff_le] at hb') <;> (try (exfalso; omega))) | (refine altW.of ?_ ?_)
        exact .here rfl

end Go.Proofs.Ytknfaoonjmlncaa
