import Derived.Test.YtabcjhpgamhpoaaSteps7
set_option linter.unusedSimpArgs false
set_option linter.unusedVariables false
set_option maxHeartbeats 2000000
set_option maxRecDepth 20000
namespace Go.Proofs.Ytabcjhpgamhpoaa
open Go Go.Am
attribute [local irreducible] opsW Ww loopW callW drawW outW outDW gW cW BrW bothW vW resW DropW RdW dcallW altW forkW splitW Later.run

theorem WM.inj : ∀ {m : List T3} {c : Nat}, WM m c → ∀ t ∈ m, ∀ u ∈ m, t.2.2 = u.2.2 → t = u
  | [], _, _, t, ht, _, _, _ => by cases ht
  | y :: m, c, h, t, ht, u, hu, e => by
    rcases List.mem_cons.1 ht with e1 | ht
    · rcases List.mem_cons.1 hu with e2 | hu
      · rw [e1, e2]
      · rw [e1] at e; exact absurd e.symm (h.2.1 u hu).1
    · rcases List.mem_cons.1 hu with e2 | hu
      · rw [e2] at e; exact absurd e (h.2.1 t ht).1
      · exact WM.inj h.2.2 t ht u hu e
theorem WM.nodup {m : List T3} {c : Nat} (h : WM m c) : m.Nodup := by
  have := h.borns
  induction m with
  | nil => exact List.nodup_nil
  | cons t m ih =>
    rw [List.map_cons, List.nodup_cons] at this
    rw [List.nodup_cons]
    exact ⟨fun hm => this.1 (List.mem_map.2 ⟨t, hm, rfl⟩), ih h.2.2 this.2⟩
theorem nodup_leT : ∀ {N M : List T3}, N.Nodup → (∀ x ∈ N, x ∈ M) → N.length ≤ M.length
  | [], _, _, _ => by simp
  | x :: N, M, h, hs => by
    rw [List.nodup_cons] at h
    have hx := hs x List.mem_cons_self
    have := nodup_leT (N := N) (M := M.erase x) h.2 fun y hy => (List.mem_erase_of_ne (fun e : y = x => h.1 (by rw [← e]; exact hy))).2 (hs y (List.mem_cons_of_mem _ hy))
    rw [List.length_erase_of_mem hx] at this
    have : 0 < M.length := List.length_pos_of_mem hx
    simp only [List.length_cons]; omega
theorem left_E {m Qs : List T3} {x : MapEntry} (h : x ∈ leftL (m.map E) (Qs.map (·.2.2))) : ∃ t ∈ m, x = E t ∧ t ∉ Qs := by
  unfold leftL at h
  rw [List.mem_filter] at h
  obtain ⟨t, ht, rfl⟩ := List.mem_map.1 h.1
  refine ⟨t, ht, rfl, fun hq => ?_⟩
  have h2 := h.2
  have : (Qs.map (·.2.2)).contains (E t).born = true := by
    rw [List.contains_iff_mem]; exact List.mem_map.2 ⟨t, hq, rfl⟩
  rw [this] at h2; cases h2
theorem left_none {m Qs : List T3} {c : Nat} (hw : WM m c) (hQ : ∀ t ∈ Qs, t ∈ m) (h : (leftL (m.map E) (Qs.map (·.2.2))).isEmpty = true) : ∀ t ∈ m, t ∈ Qs := fun t ht => by
  unfold leftL at h
  rw [List.isEmpty_iff, List.filter_eq_nil_iff] at h
  have h1 := h (E t) (List.mem_map.2 ⟨t, ht, rfl⟩)
  have h2 : (Qs.map (·.2.2)).contains (E t).born = true := by simpa using h1
  rw [List.contains_iff_mem] at h2
  obtain ⟨u, hu, e⟩ := List.mem_map.1 h2
  rw [← hw.inj u (hQ u hu) t ht e]; exact hu
/-- All comes out of the map, in whatever order. -/
theorem Join_rng {kk : Int} {m : List T3} {c : Nat} (hw : WM m c) (hv : ∀ t ∈ m, t.2.1 ≤ 1099511627776) (hml : m.length ≤ 2097152) {H0 J0 : Heap} {kit kA kS km : Nat} (hit : J0[kit]? = some (.iter km c [] c)) (hA : J0[kA]? = some (.cells 0 2 false [])) (hS : J0[kS]? = some (.cells 0 1 false []))
    (hm : J0[km]? = some (.map (m.map E) c)) (d1 : kit ≠ kA) (d2 : kit ≠ kS) (d3 : kit ≠ km) (d4 : kA ≠ kS) (d5 : kA ≠ km) (d6 : kS ≠ km) {Q : LQ}
    (hq : ∀ (J : Heap) (Qs : List T3) (gA gS : Nat), Qs.Perm m → J[kA]? = some (.cells gA 2 false (flat' cenc (Qs.map ctT))) → J[kS]? = some (.cells gS 1 false (ints (Qs.map (·.2.1)))) → (∀ j, j < J0.length → j ≠ kit → j ≠ kA → j ≠ kS → J[j]? = J0[j]?) → J0.length ≤ J.length →
      Q.run (.exit 2) [(0, .int .i64 kk), (11, slv kA 0 gA Qs.length Qs.length), (12, slv kS 0 gS Qs.length Qs.length), (44, .pointer (some ⟨kit, 0, some 1⟩)), (46, .bool false)] J) :
    @loopW (loopK Try.prog f12.n H0) f12l1 Q [(0, .int .i64 kk), (11, slv kA 0 0 0 0), (12, slv kS 0 0 0 0), (44, .pointer (some ⟨kit, 0, some 1⟩))] J0 := by
  have l1 := (List.getElem?_eq_some_iff.1 hit).1
  have l2 := (List.getElem?_eq_some_iff.1 hA).1
  have l3 := (List.getElem?_eq_some_iff.1 hS).1
  have l4 := (List.getElem?_eq_some_iff.1 hm).1
  refine loopW.of (by decide) (fun mm e J => ∃ (Qs : List T3) (gA gS : Nat), e = [(0, .int .i64 kk), (11, slv kA 0 gA Qs.length Qs.length), (12, slv kS 0 gS Qs.length Qs.length), (44, .pointer (some ⟨kit, 0, some 1⟩))] ∧ J[kit]? = some (.iter km c (Qs.map (·.2.2)) c) ∧
    J[kA]? = some (.cells gA 2 false (flat' cenc (Qs.map ctT))) ∧ J[kS]? = some (.cells gS 1 false (ints (Qs.map (·.2.1)))) ∧ J[km]? = some (.map (m.map E) c) ∧ (∀ j, j < J0.length → j ≠ kit → j ≠ kA → j ≠ kS → J[j]? = J0[j]?) ∧ J0.length ≤ J.length ∧ Qs.Nodup ∧ (∀ t ∈ Qs, t ∈ m) ∧ mm = m.length - Qs.length) m.length
    ⟨[], 0, 0, rfl, hit, hA, hS, hm, fun _ _ _ _ _ => rfl, Nat.le_refl _, List.nodup_nil, fun t ht => (by cases ht), by simp⟩ ?_
  rintro mm e J ⟨Qs, gA, gS, rfl, jit, jA, jS, jm, jo, jl, hn, hsub, rfl⟩
  have hQl := nodup_leT hn hsub
  have hiter : iterAt J (.pointer (some ⟨kit, 0, some 1⟩)) = some (kit, km, c, Qs.map (·.2.2), c, m.map E, c) := by simp only [iterAt, jit, jm]
  have hold : ((m.map E).all fun x => decide (x.born < c) && Am.flat x.key) = true := by
    rw [List.all_eq_true]
    intro x hx
    obtain ⟨t, ht, rfl⟩ := List.mem_map.1 hx
    have := hw.lt t ht
    simp [E, Am.flat, this]
  repeat' first | simp (disch := first | with_reducible assumption | omega) only [go_sem, Bool.true_and, Bool.and_true, Bool.and_self, Bool.false_and, Bool.and_false, Bool.true_or, Bool.or_true, Bool.false_or, Bool.or_false, ↓reduceIte, Nat.reduceEqDiff, Nat.reduceAdd, Nat.reduceMul, Nat.reduceSub, Nat.reduceBEq, Nat.reduceLeDiff, Nat.reduceLT, Nat.reduceMod, Nat.reduceDiv, Int.reduceToNat, Int.reducePow, Int.reduceMul, Int.reduceAdd, Int.reduceSub, Int.reduceLE, Int.reduceLT, Int.reduceNeg, Int.reduceDiv, Int.reduceMod, Int.reduceEq, Int.reduceBEq, Int.reduceBNe, f12, f12b, f12r0, f12r1, f12r2, f12r3, f12r4, f12r5, f12r6, f12r7, f12r8, f12r10, f12r11, f12r12, f12r13, f12r14, f12r15, f12r16, f12r17, f12r19, f12r20, f12r21, f12r22, f12r23, f12l1] | (refine BrW.of (fun hb => ?_) (fun hb => ?_) <;> (have hb' := hb; try simp only [decide_eq_true_eq, decide_eq_false_iff_not, beq_iff_eq, bne_iff_ne, beq_eq_false_iff_ne, bne_eq_false_iff_eq, Bool.not_eq_true', Bool.not_eq_false', Bool.not_eq_true, Bool.not_eq_false, Bool.and_eq_true, Bool.or_eq_true, Bool.and_eq_false_iff, Bool.or_eq_false_iff, Int.not_lt, Int.not_le, ne_eq, gt_iff_lt, ge_iff_le] at hb') <;> (try (exfalso; omega))) | (refine altW.of ?_ ?_)
  refine forkW.next (pre := []) rfl ?_
  simp (disch := first | with_reducible assumption | omega) only [go_sem, Bool.true_and, Bool.and_true, Bool.and_self, Bool.false_and, Bool.and_false, Bool.true_or, Bool.or_true, Bool.false_or, Bool.or_false, ↓reduceIte, Nat.reduceEqDiff, Nat.reduceAdd, Nat.reduceMul, Nat.reduceSub, Nat.reduceBEq, Nat.reduceLeDiff, Nat.reduceLT, Nat.reduceMod, Nat.reduceDiv, Int.reduceToNat, Int.reducePow, Int.reduceMul, Int.reduceAdd, Int.reduceSub, Int.reduceLE, Int.reduceLT, Int.reduceNeg, Int.reduceDiv, Int.reduceMod, Int.reduceEq, Int.reduceBEq, Int.reduceBNe]
  refine nextW.of _ kit km c (Qs.map (·.2.2)) c (m.map E) c rfl hiter (Nat.le_refl _) hold (fun h0 => ?_) (fun x hx => ?_)
  · have hall := left_none hw hsub h0
    have hperm : Qs.Perm m := (List.perm_ext_iff_of_nodup hn hw.nodup).2 fun t => ⟨hsub t, hall t⟩
    rw [run_mk]
    repeat' first | simp (disch := first | with_reducible assumption | omega) only [go_sem, Bool.true_and, Bool.and_true, Bool.and_self, Bool.false_and, Bool.and_false, Bool.true_or, Bool.or_true, Bool.false_or, Bool.or_false, ↓reduceIte, Nat.reduceEqDiff, Nat.reduceAdd, Nat.reduceMul, Nat.reduceSub, Nat.reduceBEq, Nat.reduceLeDiff, Nat.reduceLT, Nat.reduceMod, Nat.reduceDiv, Int.reduceToNat, Int.reducePow, Int.reduceMul, Int.reduceAdd, Int.reduceSub, Int.reduceLE, Int.reduceLT, Int.reduceNeg, Int.reduceDiv, Int.reduceMod, Int.reduceEq, Int.reduceBEq, Int.reduceBNe, f12, f12b, f12r0, f12r1, f12r2, f12r3, f12r4, f12r5, f12r6, f12r7, f12r8, f12r10, f12r11, f12r12, f12r13, f12r14, f12r15, f12r16, f12r17, f12r19, f12r20, f12r21, f12r22, f12r23, f12l1] | (refine BrW.of (fun hb => ?_) (fun hb => ?_) <;> (have hb' := hb; try simp only [decide_eq_true_eq, decide_eq_false_iff_not, beq_iff_eq, bne_iff_ne, beq_eq_false_iff_ne, bne_eq_false_iff_eq, Bool.not_eq_true', Bool.not_eq_false', Bool.not_eq_true, Bool.not_eq_false, Bool.and_eq_true, Bool.or_eq_true, Bool.and_eq_false_iff, Bool.or_eq_false_iff, Int.not_lt, Int.not_le, ne_eq, gt_iff_lt, ge_iff_le] at hb') <;> (try (exfalso; omega))) | (refine altW.of ?_ ?_)
    exact hq J Qs gA gS hperm jA jS jo jl
  · obtain ⟨t, ht, rfl, htq⟩ := left_E hx
    have hent : entryOf (Qs.map (·.2.2) ++ [t.2.2]) c (m.map E) c = some (E t) := by
      unfold entryOf
      rw [if_pos rfl, List.getLast?_append]
      simp only [List.getLast?_singleton, Option.some_or, find_E hw t ht]
      rfl
    have hv1 := hv t ht
    have hn2 : (Qs ++ [t]).Nodup := by
      rw [List.nodup_append]
      exact ⟨hn, by simp, fun a ha b hb => by rw [List.mem_singleton] at hb; subst hb; exact fun e => htq (e ▸ ha)⟩
    have hsub2 : ∀ u ∈ Qs ++ [t], u ∈ m := fun u hu => by
      rcases List.mem_append.1 hu with hu | hu
      · exact hsub u hu
      · rw [List.mem_singleton] at hu; subst hu; exact ht
    have hQl2 := nodup_leT hn2 hsub2
    rw [List.length_append, List.length_singleton] at hQl2
    have eb : (Qs ++ [t]).map (fun x : T3 => x.2.2) = Qs.map (fun x : T3 => x.2.2) ++ [t.2.2] := by simp
    have hcl := flC (Qs.map ctT)
    rw [List.length_map] at hcl
    have htk : (flat' cenc (Qs.map ctT)).take (Qs.length * 2) = flat' cenc (Qs.map ctT) := List.take_of_length_le (by omega)
    have eA : flat' cenc ((Qs ++ [t]).map ctT) = flat' cenc (Qs.map ctT) ++ [.int .i64 t.1, .int .i64 t.2.1] := by rw [List.map_append, ← flat'_app]; rfl
    have hil := ints_length (Qs.map fun x : T3 => x.2.1)
    rw [List.length_map] at hil
    have htk1 : (ints (Qs.map fun x : T3 => x.2.1)).take Qs.length = ints (Qs.map fun x : T3 => x.2.1) := List.take_of_length_le (by omega)
    have eS : ints ((Qs ++ [t]).map fun x : T3 => x.2.1) = ints (Qs.map fun x : T3 => x.2.1) ++ [.int .i64 t.2.1] := by rw [List.map_append, ← ints_app]; rfl
    obtain ⟨p, q, b⟩ := t
    rw [run_mk]
    show _
    have eE : E (p, q, b) = ⟨.int .i64 p, .int .i64 q, b⟩ := rfl
    simp only at eb eA eS hv1 hent hQl2
    rw [eE] at hent ⊢
    simp only
    have jl1 := (List.getElem?_eq_some_iff.1 jit).1
    have jl2 := (List.getElem?_eq_some_iff.1 jA).1
    have jl3 := (List.getElem?_eq_some_iff.1 jS).1
    have j2it : (J.set kit (.iter km c (Qs.map (fun x : T3 => x.2.2) ++ [b]) c))[kit]? = some (.iter km c (Qs.map (fun x : T3 => x.2.2) ++ [b]) c) := get_set_hit jit
    have j2A : (J.set kit (.iter km c (Qs.map (fun x : T3 => x.2.2) ++ [b]) c))[kA]? = some (.cells gA 2 false (flat' cenc (Qs.map ctT))) := (get_set_miss d1).trans jA
    have j2S : (J.set kit (.iter km c (Qs.map (fun x : T3 => x.2.2) ++ [b]) c))[kS]? = some (.cells gS 1 false (ints (Qs.map (·.2.1)))) := (get_set_miss d2).trans jS
    have j2m : (J.set kit (.iter km c (Qs.map (fun x : T3 => x.2.2) ++ [b]) c))[km]? = some (.map (m.map E) c) := (get_set_miss d3).trans jm
    have j2o : ∀ j, j < J0.length → j ≠ kit → j ≠ kA → j ≠ kS → (J.set kit (.iter km c (Qs.map (fun x : T3 => x.2.2) ++ [b]) c))[j]? = J0[j]? := fun j h1 h2 h3 h4 => (get_set_miss (Ne.symm h2)).trans (jo j h1 h2 h3 h4)
    have j2l : (J.set kit (.iter km c (Qs.map (fun x : T3 => x.2.2) ++ [b]) c)).length = J.length := List.length_set
    generalize J.set kit (.iter km c (Qs.map (fun x : T3 => x.2.2) ++ [b]) c) = J2 at *
    have hiter2 : iterAt J2 (.pointer (some ⟨kit, 0, some 1⟩)) = some (kit, km, c, Qs.map (fun x : T3 => x.2.2) ++ [b], c, m.map E, c) := by simp only [iterAt, j2it, j2m]
    generalize hFA : flat' cenc (Qs.map ctT) = FA at *
    generalize hFS : ints (Qs.map fun x : T3 => x.2.1) = FsL at *
    generalize m.map E = es at *
    have hni : ¬ Qs.length + 1 ≤ Qs.length := by omega
    have hgS : ∀ X A' Y, ((J2 ++ X).set kA A' ++ Y)[kS]? = some (.cells gS 1 false FsL) := fun X A' Y => by
      rw [List.getElem?_append_left (by simp; omega), List.getElem?_set_ne d4]; exact get_old j2S X
    have hgY : ∀ X A' Y, ((J2 ++ [X]).set kA A' ++ [Y])[J2.length + 1]? = some Y := fun X A' Y => by
      rw [List.getElem?_append_right (by simp)]; simp
    repeat' first | simp (disch := first | with_reducible assumption | omega) only [go_sem, Bool.true_and, Bool.and_true, Bool.and_self, Bool.false_and, Bool.and_false, Bool.true_or, Bool.or_true, Bool.false_or, Bool.or_false, ↓reduceIte, Nat.reduceEqDiff, Nat.reduceAdd, Nat.reduceMul, Nat.reduceSub, Nat.reduceBEq, Nat.reduceLeDiff, Nat.reduceLT, Nat.reduceMod, Nat.reduceDiv, Int.reduceToNat, Int.reducePow, Int.reduceMul, Int.reduceAdd, Int.reduceSub, Int.reduceLE, Int.reduceLT, Int.reduceNeg, Int.reduceDiv, Int.reduceMod, Int.reduceEq, Int.reduceBEq, Int.reduceBNe, f12, f12b, f12r0, f12r1, f12r2, f12r3, f12r4, f12r5, f12r6, f12r7, f12r8, f12r10, f12r11, f12r12, f12r13, f12r14, f12r15, f12r16, f12r17, f12r19, f12r20, f12r21, f12r22, f12r23, f12l1, hiter2, hent, j2A, get_old j2A, hgS, hgY, List.length_set, hcl, hil, htk, htk1, hni] | (refine BrW.of (fun hb => ?_) (fun hb => ?_) <;> (have hb' := hb; try simp only [decide_eq_true_eq, decide_eq_false_iff_not, beq_iff_eq, bne_iff_ne, beq_eq_false_iff_ne, bne_eq_false_iff_eq, Bool.not_eq_true', Bool.not_eq_false', Bool.not_eq_true, Bool.not_eq_false, Bool.and_eq_true, Bool.or_eq_true, Bool.and_eq_false_iff, Bool.or_eq_false_iff, Int.not_lt, Int.not_le, ne_eq, gt_iff_lt, ge_iff_le] at hb') <;> (try (exfalso; omega))) | (refine altW.of ?_ ?_)
    refine RdW.keep [0, 11, 12, 44] (m.length - (Qs.length + 1)) (by omega) ?_
    simp (disch := first | with_reducible assumption | omega) only [go_sem, Bool.true_and, Bool.and_true, Bool.and_self, Bool.false_and, Bool.and_false, Bool.true_or, Bool.or_true, Bool.false_or, Bool.or_false, ↓reduceIte, Nat.reduceEqDiff, Nat.reduceAdd, Nat.reduceMul, Nat.reduceSub, Nat.reduceBEq, Nat.reduceLeDiff, Nat.reduceLT, Nat.reduceMod, Nat.reduceDiv, Int.reduceToNat, Int.reducePow, Int.reduceMul, Int.reduceAdd, Int.reduceSub, Int.reduceLE, Int.reduceLT, Int.reduceNeg, Int.reduceDiv, Int.reduceMod, Int.reduceEq, Int.reduceBEq, Int.reduceBNe]
    have hQ1 : (Qs ++ [((p, q, b) : T3)]).length = Qs.length + 1 := by simp
    refine ⟨Qs ++ [(p, q, b)], gA + 1, gS + 1, by rw [hQ1], ?_, ?_, ?_, ?_, fun j h1 h2 h3 h4 => ?_, by simp; omega, hn2, hsub2, by rw [hQ1]⟩
    · rw [List.getElem?_set_ne (Ne.symm d2), List.getElem?_append_left (by simp; omega), List.getElem?_set_ne (Ne.symm d1), List.getElem?_append_left (by omega), eb]; exact j2it
    · rw [List.getElem?_set_ne (Ne.symm d4), List.getElem?_append_left (by simp; omega), List.getElem?_set_self (by simp; omega), eA]
    · rw [List.getElem?_set_self (by simp; omega), eS]
    · have := (List.getElem?_eq_some_iff.1 j2m).1
      rw [List.getElem?_set_ne d6, List.getElem?_append_left (by simp; omega), List.getElem?_set_ne d5, List.getElem?_append_left (by omega)]; exact j2m
    · rw [List.getElem?_set_ne (Ne.symm h4), List.getElem?_append_left (by simp; omega), List.getElem?_set_ne (Ne.symm h3), List.getElem?_append_left (by omega)]; exact j2o j h1 h2 h3 h4
end Go.Proofs.Ytabcjhpgamhpoaa
