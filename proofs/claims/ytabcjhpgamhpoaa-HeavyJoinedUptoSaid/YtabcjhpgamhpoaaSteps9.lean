import Derived.Test.YtabcjhpgamhpoaaSteps8
set_option linter.unusedSimpArgs false
set_option linter.unusedVariables false
set_option maxHeartbeats 2000000
set_option maxRecDepth 20000
namespace Go.Proofs.Ytabcjhpgamhpoaa
open Go Go.Am
attribute [local irreducible] opsW Ww loopW callW drawW outW outDW gW cW BrW bothW vW resW DropW RdW dcallW altW forkW splitW Later.run

theorem tot_nonneg {x : Int} : ∀ {L : List Ct}, (∀ c ∈ L, 1 ≤ c.2) → 0 ≤ tot L x
  | [], _ => by simp [tot]
  | c :: L, h => by
    have := tot_nonneg (x := x) (L := L) fun c hc => h c (List.mem_cons_of_mem _ hc)
    have := h c List.mem_cons_self
    unfold tot; split <;> omega
theorem tot_take {x : Int} {L : List Ct} (h : ∀ c ∈ L, 1 ≤ c.2) (i : Nat) : 0 ≤ tot (L.take i) x ∧ tot (L.take i) x ≤ tot L x := by
  have h1 := tot_nonneg (x := x) (L := L.take i) fun c hc => h c (List.mem_of_mem_take hc)
  have h2 := tot_nonneg (x := x) (L := L.drop i) fun c hc => h c (List.mem_of_mem_drop hc)
  have h3 := tot_app (L.take i) (L.drop i) x
  rw [List.take_append_drop] at h3
  omega
theorem tot_mx {x : Int} {L : List Ct} (h : ∀ c ∈ L, 1 ≤ c.2) (hM : ∀ c ∈ mrg L, 1 ≤ c.2 ∧ c.2 ≤ mx) : tot L x ≤ mx := by
  obtain ⟨⟨b, hu⟩, hc, _⟩ := mrg_up h
  rw [← hc]
  by_cases h0 : cnt (mrg L) x = 0
  · rw [h0]; unfold mx; omega
  · obtain ⟨c, hm, e⟩ := cnt_mem h0
    rw [← e, hu.cnt c hm]; exact (hM c hm).2
theorem tot_mem {x : Int} : ∀ {L : List Ct}, tot L x ≠ 0 → x ∈ L.map (·.1)
  | [], h => absurd rfl h
  | c :: L, h => by
    unfold tot at h
    by_cases e : c.1 = x
    · rw [← e]; exact List.mem_cons_self
    · rw [if_neg e] at h
      exact List.mem_cons_of_mem _ (tot_mem (L := L) (by omega))
theorem nodup_leI : ∀ {N M : List Int}, N.Nodup → (∀ x ∈ N, x ∈ M) → N.length ≤ M.length
  | [], _, _, _ => by simp
  | x :: N, M, h, hs => by
    rw [List.nodup_cons] at h
    have hx := hs x List.mem_cons_self
    have := nodup_leI (N := N) (M := M.erase x) h.2 fun y hy => (List.mem_erase_of_ne (fun e : y = x => h.1 (by rw [← e]; exact hy))).2 (hs y (List.mem_cons_of_mem _ hy))
    rw [List.length_erase_of_mem hx] at this
    have : 0 < M.length := List.length_pos_of_mem hx
    simp only [List.length_cons]; omega
theorem MI.val {L : List Ct} {m : List T3} {c : Nat} (h : MI L m c) : ∀ t ∈ m, t.2.1 = Go.Proofs.Ytabcjhpgamhpoaa.tot L t.1 := fun t ht => by
  rw [← h.tot, lk_of h.wm t ht]; rfl
theorem MI.len {L : List Ct} {m : List T3} {c : Nat} (h : MI L m c) : m.length ≤ L.length := by
  have := nodup_leI h.wm.ids (M := L.map (·.1)) fun x hx => by
    obtain ⟨t, ht, rfl⟩ := List.mem_map.1 hx
    have := h.pos t ht
    exact tot_mem (by rw [← h.val t ht]; omega)
  simpa using this
theorem Join_spec (k : Nat) (hk : 1 ≤ k ∧ k ≤ 400) (a b : List Ct) (ka oa ga ca kb ob gb cb : Nat) (H : Heap) (ha : Cts H ka oa ga a) (hb : Cts H kb ob gb b) (hca : a.length ≤ ca) (hcb : b.length ≤ cb) (hra : Right k a) (hrb : Right k b) (hM : ∀ c ∈ mrg (a ++ b), 1 ≤ c.2 ∧ c.2 ≤ mx) :
    ACallK Try.prog 12 [.int .i64 k, slv ka oa ga a.length ca, slv kb ob gb b.length cb] H (fun v H' => ∃ kj g, v = .tuple #[slv kj 0 g (joinR k (mrg (a ++ b))).length (joinR k (mrg (a ++ b))).length, .int .i64 0] ∧
      H'[kj]? = some (.cells g 2 false (flat' cenc (joinR k (mrg (a ++ b))))) ∧ Ag H H' ∧ H.length ≤ H'.length) := by
  have hal : a.length ≤ 400 := by have := hra.1.2.2; omega
  have hbl : b.length ≤ 400 := by have := hrb.1.2.2; omega
  have hL1 : ∀ c ∈ a ++ b, 1 ≤ c.2 ∧ c.2 ≤ 1099511627776 := fun c hc => by
    rcases List.mem_append.1 hc with hc | hc
    · exact hra.2.rng c hc
    · exact hrb.2.rng c hc
  have hLp : ∀ c ∈ a ++ b, 1 ≤ c.2 := fun c hc => (hL1 c hc).1
  have hR1 := Right_spec k a ka oa ga ca H ha (by omega)
  have hR2 := Right_spec k b kb ob gb cb H hb (by omega)
  rw [decide_eq_true hra] at hR1
  rw [decide_eq_true hrb] at hR2
  obtain ⟨roa, csa, hka, _, _⟩ := ha.at'
  obtain ⟨rob, csb, hkb, _, _⟩ := hb.at'
  have hCat := CatC2_spec a b (slv ka oa ga a.length ca) (slv kb ob gb b.length cb) (H.length + 1) (H ++ [.map [] 0, .cells 0 1 false [slv ka oa ga a.length ca, slv kb ob gb b.length cb]]) (by rw [get_new]; rfl)
    (.inr ⟨_, _, _, _, rfl, ha.app _, hca⟩) (.inr ⟨_, _, _, _, rfl, hb.app _, hcb⟩) (by omega) (by omega)
  refine .walkW f12_ok (by simp; decide) (by decide) ?_
  repeat' first | simp (disch := first | with_reducible assumption | omega) only [go_sem, Bool.true_and, Bool.and_true, Bool.and_self, Bool.false_and, Bool.and_false, Bool.true_or, Bool.or_true, Bool.false_or, Bool.or_false, ↓reduceIte, Nat.reduceEqDiff, Nat.reduceAdd, Nat.reduceMul, Nat.reduceSub, Nat.reduceBEq, Nat.reduceLeDiff, Nat.reduceLT, Nat.reduceMod, Nat.reduceDiv, Int.reduceToNat, Int.reducePow, Int.reduceMul, Int.reduceAdd, Int.reduceSub, Int.reduceLE, Int.reduceLT, Int.reduceNeg, Int.reduceDiv, Int.reduceMod, Int.reduceEq, Int.reduceBEq, Int.reduceBNe, f12, f12b, f12r0, f12r1, f12r2, f12r3, f12r4, f12r5, f12r6, f12r7, f12r8, f12r10, f12r11, f12r12, f12r13, f12r14, f12r15, f12r16, f12r17, f12r19, f12r20, f12r21, f12r22, f12r23, hka, hkb] | (refine BrW.of (fun hb => ?_) (fun hb => ?_) <;> (have hb' := hb; try simp only [decide_eq_true_eq, decide_eq_false_iff_not, beq_iff_eq, bne_iff_ne, beq_eq_false_iff_ne, bne_eq_false_iff_eq, Bool.not_eq_true', Bool.not_eq_false', Bool.not_eq_true, Bool.not_eq_false, Bool.and_eq_true, Bool.or_eq_true, Bool.and_eq_false_iff, Bool.or_eq_false_iff, Int.not_lt, Int.not_le, ne_eq, gt_iff_lt, ge_iff_le] at hb') <;> (try (exfalso; omega))) | (refine altW.of ?_ ?_) | (refine dcallW.of _ _ hR1 ?_) | (refine callW.ex _ _ hR1 ?_) | (refine dcallW.of _ _ hR2 ?_) | (refine callW.ex _ _ hR2 ?_) | (refine .of (hCat.mono ?_); rintro v J0 ⟨hLe, kc, oc, gc, cc, rfl, hcat⟩)
  obtain ⟨roc, csc, hkc, _, _⟩ := hcat.at'
  have hm0 : J0[H.length]? = some (.map [] 0) := hLe.get (get_new0 _ _ _)
  have hJ0 : H.length + 2 ≤ J0.length := by obtain ⟨X, rfl⟩ := hLe; simp
  have hAg0 : Ag H J0 := fun j hj => by rw [hLe.get (k := j) (o := H[j]) (by rw [List.getElem?_append_left hj]; exact List.getElem?_eq_getElem hj)]; exact (List.getElem?_eq_getElem hj).symm
  have hne : kc ≠ H.length := fun e => by rw [e, hm0] at hkc; cases hkc
  have hpos := fun c hc => (hL1 c hc).1
  have hab : (a ++ b).length ≤ 800 := by rw [List.length_append]; omega
  generalize hL : a ++ b = L at *
  have htot : ∀ i x, 0 ≤ tot (L.take i) x ∧ tot (L.take i) x ≤ 1099511627776 := fun i x => by
    have h1 := tot_take (x := x) hpos i
    have h2 := tot_mx (x := x) hpos hM
    unfold mx at h2
    omega
  repeat' first | simp (disch := first | with_reducible assumption | omega) only [go_sem, Bool.true_and, Bool.and_true, Bool.and_self, Bool.false_and, Bool.and_false, Bool.true_or, Bool.or_true, Bool.false_or, Bool.or_false, ↓reduceIte, Nat.reduceEqDiff, Nat.reduceAdd, Nat.reduceMul, Nat.reduceSub, Nat.reduceBEq, Nat.reduceLeDiff, Nat.reduceLT, Nat.reduceMod, Nat.reduceDiv, Int.reduceToNat, Int.reducePow, Int.reduceMul, Int.reduceAdd, Int.reduceSub, Int.reduceLE, Int.reduceLT, Int.reduceNeg, Int.reduceDiv, Int.reduceMod, Int.reduceEq, Int.reduceBEq, Int.reduceBNe, f12, f12b, f12r0, f12r1, f12r2, f12r3, f12r4, f12r5, f12r6, f12r7, f12r8, f12r10, f12r11, f12r12, f12r13, f12r14, f12r15, f12r16, f12r17, f12r19, f12r20, f12r21, f12r22, f12r23, hkc] | (refine BrW.of (fun hb => ?_) (fun hb => ?_) <;> (have hb' := hb; try simp only [decide_eq_true_eq, decide_eq_false_iff_not, beq_iff_eq, bne_iff_ne, beq_eq_false_iff_ne, bne_eq_false_iff_eq, Bool.not_eq_true', Bool.not_eq_false', Bool.not_eq_true, Bool.not_eq_false, Bool.and_eq_true, Bool.or_eq_true, Bool.and_eq_false_iff, Bool.or_eq_false_iff, Int.not_lt, Int.not_le, ne_eq, gt_iff_lt, ge_iff_le] at hb') <;> (try (exfalso; omega))) | (refine altW.of ?_ ?_)
  refine Join_map hL1 htot (by omega) hcat hm0 hne fun J m c hI hmJ hJo hJl => ?_
  have hmlen := hI.len
  have hmap : mapAt J (.map (some H.length)) = some (H.length, m.map E, c) := by simp only [mapAt, hmJ]
  repeat' first | simp (disch := first | with_reducible assumption | omega) only [go_sem, Bool.true_and, Bool.and_true, Bool.and_self, Bool.false_and, Bool.and_false, Bool.true_or, Bool.or_true, Bool.false_or, Bool.or_false, ↓reduceIte, Nat.reduceEqDiff, Nat.reduceAdd, Nat.reduceMul, Nat.reduceSub, Nat.reduceBEq, Nat.reduceLeDiff, Nat.reduceLT, Nat.reduceMod, Nat.reduceDiv, Int.reduceToNat, Int.reducePow, Int.reduceMul, Int.reduceAdd, Int.reduceSub, Int.reduceLE, Int.reduceLT, Int.reduceNeg, Int.reduceDiv, Int.reduceMod, Int.reduceEq, Int.reduceBEq, Int.reduceBNe, f12, f12b, f12r0, f12r1, f12r2, f12r3, f12r4, f12r5, f12r6, f12r7, f12r8, f12r10, f12r11, f12r12, f12r13, f12r14, f12r15, f12r16, f12r17, f12r19, f12r20, f12r21, f12r22, f12r23, hmap] | (refine BrW.of (fun hb => ?_) (fun hb => ?_) <;> (have hb' := hb; try simp only [decide_eq_true_eq, decide_eq_false_iff_not, beq_iff_eq, bne_iff_ne, beq_eq_false_iff_ne, bne_eq_false_iff_eq, Bool.not_eq_true', Bool.not_eq_false', Bool.not_eq_true, Bool.not_eq_false, Bool.and_eq_true, Bool.or_eq_true, Bool.and_eq_false_iff, Bool.or_eq_false_iff, Int.not_lt, Int.not_le, ne_eq, gt_iff_lt, ge_iff_le] at hb') <;> (try (exfalso; omega))) | (refine altW.of ?_ ?_)
  refine loopW.ghost 11 2 rfl ?_
  refine loopW.ghost 12 1 rfl ?_
  simp (disch := first | with_reducible assumption | omega) only [go_sem, Bool.true_and, Bool.and_true, Bool.and_self, Bool.false_and, Bool.and_false, Bool.true_or, Bool.or_true, Bool.false_or, Bool.or_false, ↓reduceIte, Nat.reduceEqDiff, Nat.reduceAdd, Nat.reduceMul, Nat.reduceSub, Nat.reduceBEq, Nat.reduceLeDiff, Nat.reduceLT, Nat.reduceMod, Nat.reduceDiv, Int.reduceToNat, Int.reducePow, Int.reduceMul, Int.reduceAdd, Int.reduceSub, Int.reduceLE, Int.reduceLT, Int.reduceNeg, Int.reduceDiv, Int.reduceMod, Int.reduceEq, Int.reduceBEq, Int.reduceBNe]
  have hv : ∀ t ∈ m, t.2.1 ≤ 1099511627776 := fun t ht => by
    rw [hI.val t ht]
    have := tot_mx (x := t.1) hpos hM
    unfold mx at this; exact this
  have hJl2 : H.length + 2 ≤ J.length := by omega
  refine Join_rng (kit := J.length) (kA := J.length + 1) (kS := J.length + 2) (km := H.length) hI.wm hv (by omega) (get_new0 _ _ _) (by rw [get_new]; rfl) (by rw [get_new]; rfl) (get_old hmJ _) (by omega) (by omega) (by omega) (by omega) (by omega) (by omega) fun J1 Qs gA gS hperm jA jS jo jl => ?_
  have hAgJ : Ag H J := fun j hj => by rw [hJo j (by omega) (by omega)]; exact hAg0 j hj
  have hAg1 : Ag H J1 := fun j hj => by
    rw [jo j (by simp; omega) (by omega) (by omega) (by omega), List.getElem?_append_left (by omega)]; exact hAgJ j hj
  have hl1 : J.length + 3 ≤ J1.length := by simpa using jl
  have hql := hperm.length_eq
  have hS1 := SortC_spec (Qs.map ctT) (J.length + 1) gA J1 jA (by rw [List.length_map]; omega)
  rw [List.length_map] at hS1
  repeat' first | simp (disch := first | with_reducible assumption | omega) only [go_sem, Bool.true_and, Bool.and_true, Bool.and_self, Bool.false_and, Bool.and_false, Bool.true_or, Bool.or_true, Bool.false_or, Bool.or_false, ↓reduceIte, Nat.reduceEqDiff, Nat.reduceAdd, Nat.reduceMul, Nat.reduceSub, Nat.reduceBEq, Nat.reduceLeDiff, Nat.reduceLT, Nat.reduceMod, Nat.reduceDiv, Int.reduceToNat, Int.reducePow, Int.reduceMul, Int.reduceAdd, Int.reduceSub, Int.reduceLE, Int.reduceLT, Int.reduceNeg, Int.reduceDiv, Int.reduceMod, Int.reduceEq, Int.reduceBEq, Int.reduceBNe, f12, f12b, f12r0, f12r1, f12r2, f12r3, f12r4, f12r5, f12r6, f12r7, f12r8, f12r10, f12r11, f12r12, f12r13, f12r14, f12r15, f12r16, f12r17, f12r19, f12r20, f12r21, f12r22, f12r23] | (refine BrW.of (fun hb => ?_) (fun hb => ?_) <;> (have hb' := hb; try simp only [decide_eq_true_eq, decide_eq_false_iff_not, beq_iff_eq, bne_iff_ne, beq_eq_false_iff_ne, bne_eq_false_iff_eq, Bool.not_eq_true', Bool.not_eq_false', Bool.not_eq_true, Bool.not_eq_false, Bool.and_eq_true, Bool.or_eq_true, Bool.and_eq_false_iff, Bool.or_eq_false_iff, Int.not_lt, Int.not_le, ne_eq, gt_iff_lt, ge_iff_le] at hb') <;> (try (exfalso; omega))) | (refine altW.of ?_ ?_) | (refine .of (hS1.mono ?_); rintro v J2 ⟨rfl, A, hAp, hAw, rfl⟩)
  have hAeq := join_list hI hpos hperm hAp hAw
  subst hAeq
  have hML : (mrg L).length = Qs.length := by have := hAp.length_eq; simpa using this
  have hsz : sortI (Qs.map fun t : T3 => t.2.1) = sortP ((mrg L).map (·.2)) := by
    refine sorted_eq (sortP_le _) (sortP_le _) ((sortP_perm _).trans ?_)
    refine List.Perm.trans ?_ (sortP_perm _).symm
    have := (hAp.map (·.2)).symm
    rwa [List.map_map] at this
  have j2A : (J1.set (J.length + 1) (AObj.cells gA 2 false (flat' cenc (mrg L))))[J.length + 1]? = some (AObj.cells gA 2 false (flat' cenc (mrg L))) := get_set_hit jA
  have j2S : (J1.set (J.length + 1) (AObj.cells gA 2 false (flat' cenc (mrg L))))[J.length + 2]? = some (AObj.cells gS 1 false (ints (Qs.map (·.2.1)))) := (get_set_miss (by omega)).trans jS
  have hAg2 : Ag H (J1.set (J.length + 1) (AObj.cells gA 2 false (flat' cenc (mrg L)))) := hAg1.set (by omega) _
  have hl2 : (J1.set (J.length + 1) (AObj.cells gA 2 false (flat' cenc (mrg L)))).length = J1.length := List.length_set
  generalize J1.set (J.length + 1) (AObj.cells gA 2 false (flat' cenc (mrg L))) = J2 at *
  by_cases hle : (mrg L).length ≤ k
  · repeat' first | simp (disch := first | with_reducible assumption | omega) only [go_sem, Bool.true_and, Bool.and_true, Bool.and_self, Bool.false_and, Bool.and_false, Bool.true_or, Bool.or_true, Bool.false_or, Bool.or_false, ↓reduceIte, Nat.reduceEqDiff, Nat.reduceAdd, Nat.reduceMul, Nat.reduceSub, Nat.reduceBEq, Nat.reduceLeDiff, Nat.reduceLT, Nat.reduceMod, Nat.reduceDiv, Int.reduceToNat, Int.reducePow, Int.reduceMul, Int.reduceAdd, Int.reduceSub, Int.reduceLE, Int.reduceLT, Int.reduceNeg, Int.reduceDiv, Int.reduceMod, Int.reduceEq, Int.reduceBEq, Int.reduceBNe, f12, f12b, f12r0, f12r1, f12r2, f12r3, f12r4, f12r5, f12r6, f12r7, f12r8, f12r10, f12r11, f12r12, f12r13, f12r14, f12r15, f12r16, f12r17, f12r19, f12r20, f12r21, f12r22, f12r23, j2A] | (refine BrW.of (fun hb => ?_) (fun hb => ?_) <;> (have hb' := hb; try simp only [decide_eq_true_eq, decide_eq_false_iff_not, beq_iff_eq, bne_iff_ne, beq_eq_false_iff_ne, bne_eq_false_iff_eq, Bool.not_eq_true', Bool.not_eq_false', Bool.not_eq_true, Bool.not_eq_false, Bool.and_eq_true, Bool.or_eq_true, Bool.and_eq_false_iff, Bool.or_eq_false_iff, Int.not_lt, Int.not_le, ne_eq, gt_iff_lt, ge_iff_le] at hb') <;> (try (exfalso; omega))) | (refine altW.of ?_ ?_)
    refine .here ⟨J.length + 1, gA, ?_, ?_, hAg2, by omega⟩
    · unfold joinR; rw [if_pos hle, hML]
    · unfold joinR; rw [if_pos hle]; exact j2A
  · have hS2 := Sort_spec (Qs.map fun t : T3 => t.2.1) (J.length + 2) gS J2 j2S (by rw [List.length_map]; omega)
    rw [List.length_map, hsz] at hS2
    repeat' first | simp (disch := first | with_reducible assumption | omega) only [go_sem, Bool.true_and, Bool.and_true, Bool.and_self, Bool.false_and, Bool.and_false, Bool.true_or, Bool.or_true, Bool.false_or, Bool.or_false, ↓reduceIte, Nat.reduceEqDiff, Nat.reduceAdd, Nat.reduceMul, Nat.reduceSub, Nat.reduceBEq, Nat.reduceLeDiff, Nat.reduceLT, Nat.reduceMod, Nat.reduceDiv, Int.reduceToNat, Int.reducePow, Int.reduceMul, Int.reduceAdd, Int.reduceSub, Int.reduceLE, Int.reduceLT, Int.reduceNeg, Int.reduceDiv, Int.reduceMod, Int.reduceEq, Int.reduceBEq, Int.reduceBNe, f12, f12b, f12r0, f12r1, f12r2, f12r3, f12r4, f12r5, f12r6, f12r7, f12r8, f12r10, f12r11, f12r12, f12r13, f12r14, f12r15, f12r16, f12r17, f12r19, f12r20, f12r21, f12r22, f12r23, j2A] | (refine BrW.of (fun hb => ?_) (fun hb => ?_) <;> (have hb' := hb; try simp only [decide_eq_true_eq, decide_eq_false_iff_not, beq_iff_eq, bne_iff_ne, beq_eq_false_iff_ne, bne_eq_false_iff_eq, Bool.not_eq_true', Bool.not_eq_false', Bool.not_eq_true, Bool.not_eq_false, Bool.and_eq_true, Bool.or_eq_true, Bool.and_eq_false_iff, Bool.or_eq_false_iff, Int.not_lt, Int.not_le, ne_eq, gt_iff_lt, ge_iff_le] at hb') <;> (try (exfalso; omega))) | (refine altW.of ?_ ?_) | (refine .of (hS2.mono ?_); rintro v J3 ⟨rfl, rfl⟩)
    have j3A : (J2.set (J.length + 2) (AObj.cells gS 1 false (ints (sortP ((mrg L).map (·.2))))))[J.length + 1]? = some (AObj.cells gA 2 false (flat' cenc (mrg L))) := (get_set_miss (by omega)).trans j2A
    have j3S : (J2.set (J.length + 2) (AObj.cells gS 1 false (ints (sortP ((mrg L).map (·.2))))))[J.length + 2]? = some (AObj.cells gS 1 false (ints (sortP ((mrg L).map (·.2))))) := get_set_hit j2S
    have hAg3 : Ag H (J2.set (J.length + 2) (AObj.cells gS 1 false (ints (sortP ((mrg L).map (·.2)))))) := hAg2.set (by omega) _
    have hl3 : (J2.set (J.length + 2) (AObj.cells gS 1 false (ints (sortP ((mrg L).map (·.2)))))).length = J2.length := List.length_set
    generalize J2.set (J.length + 2) (AObj.cells gS 1 false (ints (sortP ((mrg L).map (·.2))))) = J3 at *
    have hsl : (sortP ((mrg L).map (·.2))).length = Qs.length := by rw [(sortP_perm _).length_eq, List.length_map, hML]
    have hpr := vth_props (k := k) (M := mrg L) (by omega) fun c hc => (hM c hc).1
    have hvm : 1 ≤ vth k (mrg L) ∧ vth k (mrg L) ≤ mx := by
      obtain ⟨q1, ⟨c', hc', q2⟩, _⟩ := hpr
      exact ⟨q1, by rw [q2]; exact (hM c' hc').2⟩
    have hLs := less_spec (mrg L) (vth k (mrg L)) (by omega) hM (J.length + 1) 0 gA Qs.length J3 (OkC.tbl j3A) (by omega)
    rw [hML] at hLs
    have hld : (ints (sortP ((mrg L).map (·.2))))[Qs.length - 1 - k]? = some (.int .i64 (vth k (mrg L))) := by
      unfold vth
      rw [ints_get _ _ (by omega), hML]
    have hix : ((Qs.length : Int) - 1 - (k : Int)).toNat = Qs.length - 1 - k := by omega
    repeat' first | simp (disch := first | with_reducible assumption | omega) only [go_sem, Bool.true_and, Bool.and_true, Bool.and_self, Bool.false_and, Bool.and_false, Bool.true_or, Bool.or_true, Bool.false_or, Bool.or_false, ↓reduceIte, Nat.reduceEqDiff, Nat.reduceAdd, Nat.reduceMul, Nat.reduceSub, Nat.reduceBEq, Nat.reduceLeDiff, Nat.reduceLT, Nat.reduceMod, Nat.reduceDiv, Int.reduceToNat, Int.reducePow, Int.reduceMul, Int.reduceAdd, Int.reduceSub, Int.reduceLE, Int.reduceLT, Int.reduceNeg, Int.reduceDiv, Int.reduceMod, Int.reduceEq, Int.reduceBEq, Int.reduceBNe, f12, f12b, f12r0, f12r1, f12r2, f12r3, f12r4, f12r5, f12r6, f12r7, f12r8, f12r10, f12r11, f12r12, f12r13, f12r14, f12r15, f12r16, f12r17, f12r19, f12r20, f12r21, f12r22, f12r23, j3A, j3S, hix, hld] | (refine BrW.of (fun hb => ?_) (fun hb => ?_) <;> (have hb' := hb; try simp only [decide_eq_true_eq, decide_eq_false_iff_not, beq_iff_eq, bne_iff_ne, beq_eq_false_iff_ne, bne_eq_false_iff_eq, Bool.not_eq_true', Bool.not_eq_false', Bool.not_eq_true, Bool.not_eq_false, Bool.and_eq_true, Bool.or_eq_true, Bool.and_eq_false_iff, Bool.or_eq_false_iff, Int.not_lt, Int.not_le, ne_eq, gt_iff_lt, ge_iff_le] at hb') <;> (try (exfalso; omega))) | (refine altW.of ?_ ?_) | (refine .of (hLs.mono ?_); rintro v J4 ⟨g', rfl, rfl⟩)
    refine .here ⟨J3.length, g', ?_, ?_, ?_, by simp; omega⟩
    · unfold joinR; rw [if_neg hle]
    · unfold joinR; rw [if_neg hle]; exact get_new0 _ _ _
    · exact hAg3.app (by omega) _
end Go.Proofs.Ytabcjhpgamhpoaa
