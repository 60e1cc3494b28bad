import Derived.Test.YtabcjhpgamhpoaaSteps2
import Derived.Test.YtabcjhpgamhpoaaInsL
set_option linter.unusedSimpArgs false
set_option linter.unusedVariables false
set_option maxHeartbeats 2000000
set_option maxRecDepth 20000
namespace Go.Proofs.Ytabcjhpgamhpoaa
open Go Go.Am
attribute [local irreducible] opsW Ww loopW callW drawW outW outDW gW cW BrW bothW vW resW DropW RdW dcallW altW forkW splitW Later.run

theorem cts_ints (l : List Ct) : ∀ v ∈ flat' cenc l, ∃ kd n, v = Value.int kd n := by
  induction l with
  | nil => intro v hv; cases hv
  | cons o t ih =>
    intro v hv
    rcases List.mem_append.1 (show v ∈ cenc o ++ flat' cenc t from hv) with h | h
    · simp only [cenc, List.mem_cons, List.not_mem_nil, or_false] at h
      rcases h with rfl | rfl <;> exact ⟨_, _, rfl⟩
    · exact ih v h
theorem flC (l : List Ct) : (flat' cenc l).length = l.length * 2 := flat'_length (enc := cenc) (s := 2) (fun _ => rfl) l
theorem Insert_end (x : Ct) (l : List Ct) (k g kv gv : Nat) (H : Heap) (hl : l.length ≤ 1000000) (hbk : H[k]? = some (.cells g 2 false (flat' cenc l))) (hv : H[kv]? = some (.cells gv 2 false [.int .i64 x.1, .int .i64 x.2])) :
    ACallK Try.prog 28 [slv k 0 g l.length l.length, .int .i64 l.length, slv kv 0 gv 1 1] H (fun v H' => v = slv k 0 (g + 1) (l.length + 1) (l.length + 1) ∧ H' = H.set k (.cells (g + 1) 2 false (flat' cenc (l ++ [x])))) := by
  refine .walkW f28_ok (by simp; decide) (by decide) ?_
  have e : flat' cenc (l ++ [x]) = flat' cenc l ++ [.int .i64 x.1, .int .i64 x.2] := by rw [← flat'_app]; rfl
  have hfl := flC l
  have hni : ¬ l.length + 1 ≤ l.length := by omega
  have htk : (flat' cenc l).take (l.length * 2) = flat' cenc l := List.take_of_length_le (by omega)
  rw [e]
  generalize flat' cenc l = F at *
  repeat' first | simp (disch := first | with_reducible assumption | omega) only [go_sem, Bool.true_and, Bool.and_true, Bool.and_self, Bool.false_and, Bool.and_false, Bool.true_or, Bool.or_true, Bool.false_or, Bool.or_false, ↓reduceIte, Nat.reduceEqDiff, Nat.reduceAdd, Nat.reduceMul, Nat.reduceSub, Nat.reduceBEq, Nat.reduceLeDiff, Nat.reduceLT, Nat.reduceMod, Nat.reduceDiv, Int.reduceToNat, Int.reducePow, Int.reduceMul, Int.reduceAdd, Int.reduceSub, Int.reduceLE, Int.reduceLT, Int.reduceNeg, Int.reduceDiv, Int.reduceMod, Int.reduceEq, Int.reduceBEq, Int.reduceBNe, f28, f28b, f28r0, f28r1, f28r2, f28r3, f28r4, f28r5, f28r6, f28r7, f28r8, f28r9, f28r10, f28r11, f28r12, f28r13, f28r14, f28r15, f28r16, f28r17, f28r18, f28r19, f28r20, hbk, hv, hni, htk, hfl] | (refine BrW.of (fun hb => ?_) (fun hb => ?_) <;> (have hb' := hb; try simp only [decide_eq_true_eq, decide_eq_false_iff_not, beq_iff_eq, bne_iff_ne, beq_eq_false_iff_ne, bne_eq_false_iff_eq, Bool.not_eq_true', Bool.not_eq_false', Bool.not_eq_true, Bool.not_eq_false, Bool.and_eq_true, Bool.or_eq_true, Bool.and_eq_false_iff, Bool.or_eq_false_iff, Int.not_lt, Int.not_le, ne_eq, gt_iff_lt, ge_iff_le] at hb') <;> (try (exfalso; omega))) | (refine altW.of ?_ ?_)
  all_goals first | exact .here ⟨rfl, rfl⟩ | (exfalso; omega)
theorem flat_put (l : List Ct) (i : Nat) (x : Ct) : (flat' cenc l).take (i * 2) ++ cenc x ++ (flat' cenc l).drop (i * 2) = flat' cenc (putAt l i x) := by
  have h1 : (flat' cenc l).take (i * 2) = flat' cenc (l.take i) := by
    rcases Nat.lt_or_ge i l.length with h | h
    · conv => lhs; rw [← List.take_append_drop i l, ← flat'_app]
      rw [List.take_left']
      rw [flC, List.length_take, Nat.min_eq_left (by omega)]
    · rw [List.take_of_length_le (by rw [flC]; omega), List.take_of_length_le h]
  have h2 : (flat' cenc l).drop (i * 2) = flat' cenc (l.drop i) := by
    rcases Nat.lt_or_ge i l.length with h | h
    · conv => lhs; rw [← List.take_append_drop i l, ← flat'_app]
      rw [List.drop_left']
      rw [flC, List.length_take, Nat.min_eq_left (by omega)]
    · rw [List.drop_eq_nil_of_le (by rw [flC]; omega), List.drop_eq_nil_of_le h]; rfl
  rw [h1, h2, putAt, ← flat'_app, List.append_assoc]
  rfl
theorem Insert_spec (x : Ct) (l : List Ct) (i k g kv gv : Nat) (H : Heap) (hi : i ≤ l.length) (hl : l.length ≤ 1000000) (hbk : H[k]? = some (.cells g 2 false (flat' cenc l))) (hv : H[kv]? = some (.cells gv 2 false [.int .i64 x.1, .int .i64 x.2])) (hkv : kv ≠ k) :
    ACallK Try.prog 28 [slv k 0 g l.length l.length, .int .i64 i, slv kv 0 gv 1 1] H (fun v H' => v = slv k 0 (g + 1) (l.length + 1) (l.length + 1) ∧ H' = H.set k (.cells (g + 1) 2 false (flat' cenc (putAt l i x)))) := by
  rcases Nat.lt_or_ge i l.length with h | h
  · have hfn := (Insert_end c0 [] 0 0 1 0 [.cells 0 2 false [], .cells 0 2 false [.int .i64 0, .int .i64 0]] (by simp) rfl rfl).1
    have := insert_at hfn (flat' cenc l) (cenc x) l.length i k g kv gv 1 H hbk (by rw [flC]) h (by omega) hv rfl hkv (by omega) (cts_ints _) (fun v hv => by
      simp only [cenc, List.mem_cons, List.not_mem_nil, or_false] at hv
      rcases hv with rfl | rfl <;> exact ⟨_, _, rfl⟩)
    rw [flat_put] at this
    exact this
  · obtain rfl : i = l.length := by omega
    have e : putAt l l.length x = l ++ [x] := by simp [putAt]
    rw [e]
    exact Insert_end x l k g kv gv H hl hbk hv
theorem set_last (H : Heap) (A C : AObj) (z : Heap) : (H ++ A :: z).set H.length C = H ++ C :: z := by simp
theorem putAt_len (l : List Ct) (i : Nat) (x : Ct) : (putAt l i x).length = l.length + 1 := by
  have := congrArg List.length (List.take_append_drop i l)
  simp only [putAt, List.length_append, List.length_cons] at this ⊢; omega
theorem addP_bad {k : Int} {l : List Ct} {id : Int} (h : ¬ Right k l) : addP k l id = ([], 1) := by unfold addP; rw [if_neg h]
theorem addP_full {k : Int} {l : List Ct} {id : Int} (h : Right k l) (hf : lb l id < l.length ∧ (l.getD (lb l id) c0).1 = id) (hm : (l.getD (lb l id) c0).2 = mx) : addP k l id = ([], 4) := by unfold addP; rw [if_pos h, if_pos hf, if_pos hm]
theorem addP_inc {k : Int} {l : List Ct} {id : Int} (h : Right k l) (hf : lb l id < l.length ∧ (l.getD (lb l id) c0).1 = id) (hm : ¬ (l.getD (lb l id) c0).2 = mx) :
    addP k l id = (l.set (lb l id) ((l.getD (lb l id) c0).1, (l.getD (lb l id) c0).2 + 1), 0) := by unfold addP; rw [if_pos h, if_pos hf, if_neg hm]
theorem addP_put {k : Int} {l : List Ct} {id : Int} (h : Right k l) (hf : ¬ (lb l id < l.length ∧ (l.getD (lb l id) c0).1 = id)) (hm : (l.length : Int) < k) : addP k l id = (putAt l (lb l id) (id, 1), 0) := by unfold addP; rw [if_pos h, if_neg hf, if_pos hm]
theorem addP_less {k : Int} {l : List Ct} {id : Int} (h : Right k l) (hf : ¬ (lb l id < l.length ∧ (l.getD (lb l id) c0).1 = id)) (hm : ¬ (l.length : Int) < k) : addP k l id = (lessP l 1, 0) := by unfold addP; rw [if_pos h, if_neg hf, if_neg hm]
theorem OkTo.rng {l : List Ct} (h : OkTo l l.length) : ∀ c ∈ l, 1 ≤ c.2 ∧ c.2 ≤ mx := fun c hc => by
  obtain ⟨j, hj, e⟩ := mem_getD (d := c0) hc
  rw [← e]; exact (h j hj).1
theorem Add_spec (kk : Int) (l : List Ct) (id : Int) (k o g c : Nat) (H : Heap) (h : Cts H k o g l) (hl : l.length ≤ 1000000) (hc : l.length ≤ c) :
    ACallK Try.prog 17 [.int .i64 kk, slv k o g l.length c, .int .i64 id] H (fun v H' =>
      ((addP kk l id).2 ≠ 0 ∧ v = .tuple #[.slice none 0 0, .int .i64 (addP kk l id).2] ∧ H' = H) ∨
      ((addP kk l id).2 = 0 ∧ ∃ g', v = .tuple #[slv H.length 0 g' (addP kk l id).1.length (addP kk l id).1.length, .int .i64 0] ∧ H' = H ++ [.cells g' 2 false (flat' cenc (addP kk l id).1)])) := by
  obtain ⟨ro, cs, hk, hcl, hcs⟩ := h.at'
  have hkl := h.lt
  refine .walkW f17_ok (by simp; decide) (by decide) ?_
  have hR := Right_spec kk l k o g c H h (by omega)
  by_cases hr : Right kk l
  rotate_left
  · have ha := addP_bad (id := id) hr
    rw [decide_eq_false hr] at hR
    repeat' first | simp (disch := first | with_reducible assumption | omega) only [go_sem, Bool.true_and, Bool.and_true, Bool.and_self, Bool.false_and, Bool.and_false, Bool.true_or, Bool.or_true, Bool.false_or, Bool.or_false, ↓reduceIte, Nat.reduceEqDiff, Nat.reduceAdd, Nat.reduceMul, Nat.reduceSub, Nat.reduceBEq, Nat.reduceLeDiff, Nat.reduceLT, Nat.reduceMod, Nat.reduceDiv, Int.reduceToNat, Int.reducePow, Int.reduceMul, Int.reduceAdd, Int.reduceSub, Int.reduceLE, Int.reduceLT, Int.reduceNeg, Int.reduceDiv, Int.reduceMod, Int.reduceEq, Int.reduceBEq, Int.reduceBNe, f17, f17b, f17r0, f17r1, f17r2, f17r3, f17r4, f17r5, f17r6, f17r7, f17r8, f17r9, f17r10, f17r11, f17r12, hk] | (refine BrW.of (fun hb => ?_) (fun hb => ?_) <;> (have hb' := hb; try simp only [decide_eq_true_eq, decide_eq_false_iff_not, beq_iff_eq, bne_iff_ne, beq_eq_false_iff_ne, bne_eq_false_iff_eq, Bool.not_eq_true', Bool.not_eq_false', Bool.not_eq_true, Bool.not_eq_false, Bool.and_eq_true, Bool.or_eq_true, Bool.and_eq_false_iff, Bool.or_eq_false_iff, Int.not_lt, Int.not_le, ne_eq, gt_iff_lt, ge_iff_le] at hb') <;> (try (exfalso; omega))) | (refine altW.of ?_ ?_) | (refine dcallW.of _ _ hR ?_) | (refine callW.ex _ _ hR ?_)
    exact .here (.inl ⟨by rw [ha]; show (1 : Int) ≠ 0; omega, by rw [ha], rfl⟩)
  rw [decide_eq_true hr] at hR
  have hS := search_spec l id hr.2.asc k o g c H h (by omega)
  have hCl := Clone_spec l k o g c H h (by omega) hc
  have hL := less_spec l 1 (by unfold mx; omega) hr.2.rng k o g c H h hl
  obtain ⟨hlb, _, _⟩ := lb_spec c0 l id
  by_cases hf : lb l id < l.length ∧ (l.getD (lb l id) c0).1 = id
  · have ha1 := addP_full hr hf
    have ha2 := addP_inc hr hf
    rw [decide_eq_true hf] at hS
    have h1 := Cts.snd hcs hf.1
    have hy := hr.2 _ hf.1
    have hfs := flat'_set (enc := cenc) (s := 2) (a' := ((l.getD (lb l id) c0).1, (l.getD (lb l id) c0).2 + 1)) (v := .int .i64 ((l.getD (lb l id) c0).2 + 1)) (fun _ => rfl) c0 l (lb l id) 1 hf.1 (by omega) rfl
    have hfg : (flat' cenc l)[lb l id * 2 + 1]? = some (.int .i64 (l.getD (lb l id) c0).2) := flat'_get (enc := cenc) (s := 2) (fun _ => rfl) c0 l (lb l id) 1 hf.1 (by omega)
    have hfl := flC l
    have hlt := hf.1
    by_cases hm : (l.getD (lb l id) c0).2 = mx
    · have ha := ha1 hm
      rw [hm] at h1
      unfold mx at h1
      clear hf hr hfs hfg ha1 ha2 hy hm
      generalize lb l id = I at *
      repeat' first | simp (disch := first | with_reducible assumption | omega) only [go_sem, Bool.true_and, Bool.and_true, Bool.and_self, Bool.false_and, Bool.and_false, Bool.true_or, Bool.or_true, Bool.false_or, Bool.or_false, ↓reduceIte, Nat.reduceEqDiff, Nat.reduceAdd, Nat.reduceMul, Nat.reduceSub, Nat.reduceBEq, Nat.reduceLeDiff, Nat.reduceLT, Nat.reduceMod, Nat.reduceDiv, Int.reduceToNat, Int.reducePow, Int.reduceMul, Int.reduceAdd, Int.reduceSub, Int.reduceLE, Int.reduceLT, Int.reduceNeg, Int.reduceDiv, Int.reduceMod, Int.reduceEq, Int.reduceBEq, Int.reduceBNe, f17, f17b, f17r0, f17r1, f17r2, f17r3, f17r4, f17r5, f17r6, f17r7, f17r8, f17r9, f17r10, f17r11, f17r12, hk, h1] | (refine BrW.of (fun hb => ?_) (fun hb => ?_) <;> (have hb' := hb; try simp only [decide_eq_true_eq, decide_eq_false_iff_not, beq_iff_eq, bne_iff_ne, beq_eq_false_iff_ne, bne_eq_false_iff_eq, Bool.not_eq_true', Bool.not_eq_false', Bool.not_eq_true, Bool.not_eq_false, Bool.and_eq_true, Bool.or_eq_true, Bool.and_eq_false_iff, Bool.or_eq_false_iff, Int.not_lt, Int.not_le, ne_eq, gt_iff_lt, ge_iff_le] at hb') <;> (try (exfalso; omega))) | (refine altW.of ?_ ?_) | (refine dcallW.of _ _ hR ?_) | (refine callW.ex _ _ hR ?_) | (refine dcallW.of _ _ hS ?_) | (refine callW.ex _ _ hS ?_)
      exact .here (.inl ⟨by rw [ha]; show (4 : Int) ≠ 0; omega, by rw [ha], rfl⟩)
    · have ha := ha2 hm
      have hm' : ¬ (l.getD (lb l id) c0).2 = 1099511627776 := hm
      have hy1 : 1 ≤ (l.getD (lb l id) c0).2 ∧ (l.getD (lb l id) c0).2 ≤ 1099511627776 := hy.1
      rw [ha]
      clear hf hr ha1 ha2 hy hm ha
      generalize lb l id = I at *
      generalize l.getD I c0 = y at *
      have hll : (l.set I (y.1, y.2 + 1)).length = l.length := List.length_set
      generalize l.set I (y.1, y.2 + 1) = l2 at *
      generalize flat' cenc l2 = F2 at *
      generalize flat' cenc l = F at *
      repeat' first | simp (disch := first | with_reducible assumption | omega) only [go_sem, Bool.true_and, Bool.and_true, Bool.and_self, Bool.false_and, Bool.and_false, Bool.true_or, Bool.or_true, Bool.false_or, Bool.or_false, ↓reduceIte, Nat.reduceEqDiff, Nat.reduceAdd, Nat.reduceMul, Nat.reduceSub, Nat.reduceBEq, Nat.reduceLeDiff, Nat.reduceLT, Nat.reduceMod, Nat.reduceDiv, Int.reduceToNat, Int.reducePow, Int.reduceMul, Int.reduceAdd, Int.reduceSub, Int.reduceLE, Int.reduceLT, Int.reduceNeg, Int.reduceDiv, Int.reduceMod, Int.reduceEq, Int.reduceBEq, Int.reduceBNe, f17, f17b, f17r0, f17r1, f17r2, f17r3, f17r4, f17r5, f17r6, f17r7, f17r8, f17r9, f17r10, f17r11, f17r12, hk, h1, hfg, hfs, hfl] | (refine BrW.of (fun hb => ?_) (fun hb => ?_) <;> (have hb' := hb; try simp only [decide_eq_true_eq, decide_eq_false_iff_not, beq_iff_eq, bne_iff_ne, beq_eq_false_iff_ne, bne_eq_false_iff_eq, Bool.not_eq_true', Bool.not_eq_false', Bool.not_eq_true, Bool.not_eq_false, Bool.and_eq_true, Bool.or_eq_true, Bool.and_eq_false_iff, Bool.or_eq_false_iff, Int.not_lt, Int.not_le, ne_eq, gt_iff_lt, ge_iff_le] at hb') <;> (try (exfalso; omega))) | (refine altW.of ?_ ?_) | (refine dcallW.of _ _ hR ?_) | (refine callW.ex _ _ hR ?_) | (refine dcallW.of _ _ hS ?_) | (refine callW.ex _ _ hS ?_) | (refine .of (hCl.mono ?_); rintro v _ ⟨g', rfl, rfl⟩)
      exact .here (.inr ⟨rfl, g', by rw [hll], rfl⟩)
  · rw [decide_eq_false hf] at hS
    by_cases hm : (l.length : Int) < kk
    · have ha := addP_put hr hf hm
      rw [ha]
      have hI := fun g' => Insert_spec (id, 1) l (lb l id) H.length g' (H.length + 1) 0 (H ++ [.cells g' 2 false (flat' cenc l), .cells 0 2 false [.int .i64 id, .int .i64 1]]) hlb hl (get_new0 _ _ _) (by rw [get_new]; rfl) (by omega)
      have hpl := putAt_len l (lb l id) (id, 1)
      clear hf hr ha
      generalize lb l id = I at *
      generalize putAt l I (id, 1) = l2 at *
      repeat' first | simp (disch := first | with_reducible assumption | omega) only [go_sem, Bool.true_and, Bool.and_true, Bool.and_self, Bool.false_and, Bool.and_false, Bool.true_or, Bool.or_true, Bool.false_or, Bool.or_false, ↓reduceIte, Nat.reduceEqDiff, Nat.reduceAdd, Nat.reduceMul, Nat.reduceSub, Nat.reduceBEq, Nat.reduceLeDiff, Nat.reduceLT, Nat.reduceMod, Nat.reduceDiv, Int.reduceToNat, Int.reducePow, Int.reduceMul, Int.reduceAdd, Int.reduceSub, Int.reduceLE, Int.reduceLT, Int.reduceNeg, Int.reduceDiv, Int.reduceMod, Int.reduceEq, Int.reduceBEq, Int.reduceBNe, f17, f17b, f17r0, f17r1, f17r2, f17r3, f17r4, f17r5, f17r6, f17r7, f17r8, f17r9, f17r10, f17r11, f17r12, hk] | (refine BrW.of (fun hb => ?_) (fun hb => ?_) <;> (have hb' := hb; try simp only [decide_eq_true_eq, decide_eq_false_iff_not, beq_iff_eq, bne_iff_ne, beq_eq_false_iff_ne, bne_eq_false_iff_eq, Bool.not_eq_true', Bool.not_eq_false', Bool.not_eq_true, Bool.not_eq_false, Bool.and_eq_true, Bool.or_eq_true, Bool.and_eq_false_iff, Bool.or_eq_false_iff, Int.not_lt, Int.not_le, ne_eq, gt_iff_lt, ge_iff_le] at hb') <;> (try (exfalso; omega))) | (refine altW.of ?_ ?_) | (refine dcallW.of _ _ hR ?_) | (refine callW.ex _ _ hR ?_) | (refine dcallW.of _ _ hS ?_) | (refine callW.ex _ _ hS ?_) | (refine .of (hCl.mono ?_); rintro v _ ⟨g', rfl, rfl⟩) | (refine .of ((hI g').mono ?_); rintro v _ ⟨rfl, rfl⟩; rw [set_last])
      refine .keep1 ?_ (abnd_flat (flat_cts _)) (.inr ⟨rfl, g' + 1, by rw [hpl], rfl⟩)
      simp [bnd, bnd1, bnd0, Am.flat]
    · have ha := addP_less hr hf hm
      rw [ha]
      clear hf hr ha
      generalize lb l id = I at *
      repeat' first | simp (disch := first | with_reducible assumption | omega) only [go_sem, Bool.true_and, Bool.and_true, Bool.and_self, Bool.false_and, Bool.and_false, Bool.true_or, Bool.or_true, Bool.false_or, Bool.or_false, ↓reduceIte, Nat.reduceEqDiff, Nat.reduceAdd, Nat.reduceMul, Nat.reduceSub, Nat.reduceBEq, Nat.reduceLeDiff, Nat.reduceLT, Nat.reduceMod, Nat.reduceDiv, Int.reduceToNat, Int.reducePow, Int.reduceMul, Int.reduceAdd, Int.reduceSub, Int.reduceLE, Int.reduceLT, Int.reduceNeg, Int.reduceDiv, Int.reduceMod, Int.reduceEq, Int.reduceBEq, Int.reduceBNe, f17, f17b, f17r0, f17r1, f17r2, f17r3, f17r4, f17r5, f17r6, f17r7, f17r8, f17r9, f17r10, f17r11, f17r12, hk] | (refine BrW.of (fun hb => ?_) (fun hb => ?_) <;> (have hb' := hb; try simp only [decide_eq_true_eq, decide_eq_false_iff_not, beq_iff_eq, bne_iff_ne, beq_eq_false_iff_ne, bne_eq_false_iff_eq, Bool.not_eq_true', Bool.not_eq_false', Bool.not_eq_true, Bool.not_eq_false, Bool.and_eq_true, Bool.or_eq_true, Bool.and_eq_false_iff, Bool.or_eq_false_iff, Int.not_lt, Int.not_le, ne_eq, gt_iff_lt, ge_iff_le] at hb') <;> (try (exfalso; omega))) | (refine altW.of ?_ ?_) | (refine dcallW.of _ _ hR ?_) | (refine callW.ex _ _ hR ?_) | (refine dcallW.of _ _ hS ?_) | (refine callW.ex _ _ hS ?_) | (refine .of (hL.mono ?_); rintro v _ ⟨g', rfl, rfl⟩)
      exact .here (.inr ⟨rfl, g', rfl, rfl⟩)
end Go.Proofs.Ytabcjhpgamhpoaa
