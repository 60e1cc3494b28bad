import Derived.Test.YtddoegbgnmdfhaaSteps
set_option linter.unusedSimpArgs false
set_option linter.unusedVariables false
set_option maxHeartbeats 4000000
set_option maxRecDepth 20000
namespace Go.Proofs.Ytddoegbgnmdfhaa
open Go Go.Am
attribute [local irreducible] opsW Ww loopW callW drawW outW outDW gW cW BrW bothW vW resW DropW RdW dcallW altW Later.run

theorem ints_nil : ints [] = [] := rfl
theorem drop_ints {cs : List Value} {o : Nat} {l : List Int} (hd : cs.drop o = ints l) : (cs.drop o).take l.length = ints l := by rw [hd]; exact ints_take l _ (Nat.le_refl _)
theorem drop_len {cs : List Value} {o : Nat} {l : List Int} (hd : cs.drop o = ints l) (ho : o ≤ cs.length) : o + l.length = cs.length := by
  have := congrArg List.length hd
  rw [List.length_drop, ints_length] at this
  omega
theorem le_of {H J : Heap} (hl : H.length ≤ J.length) (h : ∀ j, j < H.length → J[j]? = H[j]?) : Le H J := by
  refine ⟨J.drop H.length, ?_⟩
  conv => lhs; rw [← List.take_append_drop H.length J]
  congr 1
  refine List.ext_getElem? fun i => ?_
  by_cases hi : i < H.length
  · rw [List.getElem?_take_of_lt hi, h i hi]
  · rw [List.getElem?_eq_none (by simp; omega), List.getElem?_eq_none (by omega)]
/-- What a round of the loop keeps. -/
structure Rd7 (H : Heap) (r : Rn) (ge gt : Nat) (J : Heap) : Prop where
  wf : WF (H.length + 3) H.length r.nd.fl J
  e : J[H.length + 1]? = some (.cells ge 1 false (ints r.errs))
  t : J[H.length + 2]? = some (.cells gt 2 false (flat' S.cells r.sent))
  old : ∀ j, j < H.length → J[j]? = H[j]?
  len : H.length + 3 ≤ J.length
theorem Rd7.app {H : Heap} {r : Rn} {ge gt : Nat} {J : Heap} (h : Rd7 H r ge gt J) (X : Heap) : Rd7 H r ge gt (J ++ X) :=
  ⟨h.wf.app X, get_old h.e X, get_old h.t X, fun j hj => (List.getElem?_append_left (by have := h.len; omega)).trans (h.old j hj), by have := h.len; simp; omega⟩
theorem Rd7.setE {H : Heap} {r : Rn} {ge gt ge' : Nat} {J : Heap} (h : Rd7 H r ge gt J) (l : List Int) : Rd7 H ⟨l, r.sent, r.nd⟩ ge' gt (J.set (H.length + 1) (.cells ge' 1 false (ints l))) :=
  ⟨h.wf.set _ (by omega) (by omega), get_set_hit h.e, (get_set_miss (by omega)).trans h.t, fun j hj => (get_set_miss (by omega)).trans (h.old j hj), by simpa using h.len⟩
theorem Rd7.setT {H : Heap} {r : Rn} {ge gt gt' : Nat} {J : Heap} (h : Rd7 H r ge gt J) (l : List S) : Rd7 H ⟨r.errs, l, r.nd⟩ ge gt' (J.set (H.length + 2) (.cells gt' 2 false (flat' S.cells l))) :=
  ⟨h.wf.set _ (by omega) (by omega), (get_set_miss (by omega)).trans h.e, get_set_hit h.t, fun j hj => (get_set_miss (by omega)).trans (h.old j hj), by simpa using h.len⟩
/-- New flows. -/
theorem Rd7.go {H : Heap} {r : Rn} {ge gt : Nat} {J J' : Heap} {nd' : Nd} (h : Rd7 H r ge gt J) (hw : WF (H.length + 3) H.length nd'.fl J') (hl : J.length ≤ J'.length) (hf : ∀ j, j < H.length + 3 → j ≠ H.length → J'[j]? = J[j]?) : Rd7 H ⟨r.errs, r.sent, nd'⟩ ge gt J' :=
  ⟨hw, (hf _ (by omega) (by omega)).trans h.e, (hf _ (by omega) (by omega)).trans h.t, fun j hj => (hf j (by omega) (by omega)).trans (h.old j hj), Nat.le_trans h.len hl⟩
theorem nils3_flat (n : Nat) : (List.replicate n [Value.slice none 0 0, Value.slice none 0 0, .int .i64 0]).flatten = flat' Rw.cells (List.replicate n r0) := by
  induction n with
  | zero => rfl
  | succ n ih => simp only [List.replicate_succ, List.flatten_cons, ih]; rfl
/-- What has come has its row. -/
theorem WF.step2 {P F : Nat} {fl : List Fq} {J J' : Heap} {rs : List Rw} {q o g : Nat → Nat} {cs : Nat → List Value} (hFP : F < P) (hrl : rs.length = fl.length) (hrs : ∀ k, k < fl.length → (rs.getD k r0).l = (fl.getD k f0).l ∧ ((rs.getD k r0).v = .slice none 0 0 ↔ (rs.getD k r0).u = .slice none 0 0)) (hX : OwnX P (2 * fl.length) (vv rs) (ll fl) J q o g cs)
    {k : Nat} (hk : k < fl.length) {f' : Fq} {q1 q2 o1 o2 g1 g2 : Nat} {cs1 cs2 : List Value} (hF : J'[F]? = some (.cells 0 3 false (flat' Rw.cells (rs.set k ⟨slv q1 o1 g1 f'.b.length f'.b.length, slv q2 o2 g2 f'.t.length f'.t.length, f'.l⟩))))
    (hP1 : P ≤ q1) (hP2 : P ≤ q2) (hJ1 : J'[q1]? = some (.cells g1 1 false cs1)) (hJ2 : J'[q2]? = some (.cells g2 1 false cs2)) (hd1 : cs1.drop o1 = ints f'.b) (hd2 : cs2.drop o2 = ints f'.t) (ho1 : o1 ≤ cs1.length) (ho2 : o2 ≤ cs2.length) (hqq : q1 ≠ q2)
    (hq : ∀ j, j < 2 * fl.length → j ≠ 2 * k → j ≠ 2 * k + 1 → vv rs j ≠ .slice none 0 0 → q j ≠ q1 ∧ q j ≠ q2 ∧ J'[q j]? = J[q j]?) : WF P F (fl.set k f') J' := by
  refine ⟨_, hF, by simp [hrl], fun j hj => ?_, ?_⟩
  · rw [getD_setR _ _ _ _ (by omega), getD_setF]
    by_cases e : k = j
    · rw [if_pos e, if_pos ⟨e, hk⟩]; exact ⟨rfl, fun h => absurd h (slv_ne _ _ _ _ _), fun h => absurd h (slv_ne _ _ _ _ _)⟩
    · rw [if_neg e, if_neg (fun h => e h.1)]; exact hrs j (by simpa using hj)
  · rw [List.length_set]
    exact hX.step2 (f1 := 2 * k) (f2 := 2 * k + 1) (l1 := f'.b) (l2 := f'.t) (by omega) (by rw [vv_b, getD_setR _ _ _ _ (by omega), if_pos rfl]) (by rw [ll_b, getD_setF, if_pos ⟨rfl, hk⟩]) (by rw [vv_t, getD_setR _ _ _ _ (by omega), if_pos rfl]) (by rw [ll_t, getD_setF, if_pos ⟨rfl, hk⟩])
      (fun j hj h1 h2 => vv_o _ _ _ _ (by omega) h1 h2) (fun j hj h1 h2 => ll_o _ _ _ _ h1 h2) hP1 hP2 hJ1 hJ2 hd1 hd2 ho1 ho2 hqq hq
end Go.Proofs.Ytddoegbgnmdfhaa
