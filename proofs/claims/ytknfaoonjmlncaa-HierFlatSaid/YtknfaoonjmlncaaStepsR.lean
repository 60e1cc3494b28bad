import Derived.Test.YtknfaoonjmlncaaStepsO
import Derived.Test.YtknfaoonjmlncaaDiscH
set_option linter.unusedSimpArgs false
set_option linter.unusedVariables false
set_option maxHeartbeats 4000000
set_option maxRecDepth 20000
namespace Go.Proofs.Ytknfaoonjmlncaa
open Go Go.Am
attribute [local irreducible] opsW Ww loopW callW drawW outW outDW gW cW BrW bothW vW resW DropW RdW dcallW altW Later.run

theorem le_of {H J : Heap} (hl : H.length ≤ J.length) (h : ∀ j, j < H.length → J[j]? = H[j]?) : Le H J := by
  refine ⟨J.drop H.length, ?_⟩
  conv => lhs; rw [← List.take_append_drop H.length J]
  congr 1
  refine List.ext_getElem? fun i => ?_
  by_cases hi : i < H.length
  · rw [List.getElem?_take_of_lt hi, h i hi]
  · rw [List.getElem?_eq_none (by simp; omega), List.getElem?_eq_none (by omega)]
theorem cN_snoc (n : Nat) (S : St) (kv wv : Nat → Value) (x : Hn) (u v : Value) : cN n S kv wv ++ Rw.cells ⟨x, u, v⟩ = cN (n + 1) (updS S n x) (updV kv n u) (updV wv n v) := by
  unfold cN
  rw [tabR_snoc, ← flat'_app, updS_same, updV_same, updV_same]
  rw [tabR_cong (S' := updS S n x) (kv' := updV kv n u) (wv' := updV wv n v) fun k hk => ⟨(updS_ne (by omega)).symm, (updV_ne (by omega)).symm, (updV_ne (by omega)).symm⟩]
  simp [flat']
theorem cN_cong {n : Nat} {S S' : St} {kv kv' wv wv' : Nat → Value} (h : ∀ k, k < n → S k = S' k ∧ kv k = kv' k ∧ wv k = wv' k) : cN n S kv wv = cN n S' kv' wv' := by
  unfold cN; rw [tabR_cong h]
theorem sumW_zero {l : List Nd} {u : Int} : ∀ {m : Nat}, (∀ j, j < m → up l j ≠ u) → sumW l u m = 0
  | 0, _ => rfl
  | m + 1, h => by
    simp only [sumW]
    rw [sumW_zero (fun j hj => h j (by omega)), if_neg (h m (by omega))]; rfl
theorem kdN_nil {l : List Nd} {k : Nat} : ∀ {m : Nat}, (∀ j, j < m → up l j ≠ k) → kdN l k m = []
  | 0, _ => rfl
  | m + 1, h => by
    simp only [kdN]
    rw [kdN_nil (fun j hj => h j (by omega)), if_neg (h m (by omega))]; rfl
theorem up_lt' {l : List Nd} (h : okT l) {i : Nat} (hi : i < l.length) : up l i = -1 ∨ ∃ p : Nat, up l i = p ∧ p < i := by
  have := (h.2.2 i hi).2
  by_cases e : i = 0
  · exact .inl (this.1 e)
  · exact .inr ⟨(up l i).toNat, by have := this.2 (by omega); omega, by have := this.2 (by omega); omega⟩
def nilV : Nat → Value := fun _ => .slice none 0 0
/-- The tree as far as it has been built. -/
structure BI (H : Heap) (l : List Nd) (i gF : Nat) (kv : Nat → Value) (J : Heap) : Prop where
  old : ∀ j, j < H.length → J[j]? = H[j]?
  box : J[H.length]? = some (.cells 0 0 false [slv (H.length + 3) 0 gF i i])
  st : J[H.length + 3]? = some (.cells gF 10 false (cN i (startS l i) kv nilV))
  own : Own (H.length + 4) i kv (fun k => kdN l k i) J
  len : H.length + 4 ≤ J.length
theorem Own.ext {P n : Nat} {V : Nat → Value} {L : Nat → List Int} {J : Heap} (h : Own P n V L J) (h1 : V n = .slice none 0 0) (h2 : L n = []) : Own P (n + 1) V L J := by
  obtain ⟨q, o, g, cs, h⟩ := h
  refine ⟨q, o, g, cs, fun k hk => ?_, fun k j hk hj hkj a b => ?_⟩
  · by_cases e : k = n
    · subst e; exact .inl ⟨h1, h2⟩
    · exact h.at' k (by omega)
  · by_cases e : k = n
    · subst e; exact (a h1).elim
    · by_cases e2 : j = n
      · subst e2; exact (b h1).elim
      · exact h.inj k j (by omega) (by omega) hkj a b
/-- One node more. -/
theorem start_step {l : List Nd} (h : okT l) {i p : Nat} (hi : i < l.length) (hu : up l i = p) (hp : p < i) (k : Nat) (hk : k < i + 1) : updS (updS (startS l i) i ⟨p, wt l i, 0, 0, 0, 0, 0, 0⟩) p ⟨up l p, wt l p, sumW l p i + wt l i, 0, 0, 0, 0, 0⟩ k = startS l (i + 1) k := by
  unfold startS
  simp only [sumW, hu]
  by_cases e : k = p
  · subst e; rw [updS_same, if_pos rfl]
  · rw [updS_ne e]
    by_cases e2 : k = i
    · subst e2
      rw [updS_same, if_neg (by omega), sumW_zero (fun j hj => by rcases up_lt' h (show j < l.length by omega) with h1 | ⟨r, h1, h2⟩ <;> omega), hu]; rfl
    · rw [updS_ne e2, if_neg (by omega), Int.add_zero]
theorem WK.app {P B F gF n : Nat} {kd : Nat → List Int} {S : St} {q : Nat → List Int} {kv wv : Nat → Value} {J : Heap} (h : WK P B F gF n kd S q kv wv J) (X : Heap) : WK P B F gF n kd S q kv wv (J ++ X) := by
  refine ⟨h.lt, get_old h.box X, get_old h.st X, fun k hk hne => ?_, h.own.app X⟩
  obtain ⟨kq, ok, gk, ck, e1, e2, e3, e4, e5⟩ := h.kids k hk hne
  exact ⟨kq, ok, gk, ck, e1, e2, e3, get_old e4 X, e5⟩
theorem WK.set {P B F gF n : Nat} {kd : Nat → List Int} {S : St} {q : Nat → List Int} {kv wv : Nat → Value} {J : Heap} (h : WK P B F gF n kd S q kv wv J) {j : Nat} (y : AObj) (h1 : j < P) (h2 : j ≠ B) (h3 : j ≠ F) (hk0 : ∀ k, k < n → ∀ kq ok gk m c, kv k = slv kq ok gk m c → kq ≠ j) : WK P B F gF n kd S q kv wv (J.set j y) := by
  refine ⟨h.lt, (get_set_miss (by omega)).trans h.box, (get_set_miss (by omega)).trans h.st, fun k hk hne => ?_, h.own.agree fun k hk o ho => (get_set_miss (by omega)).trans ho⟩
  obtain ⟨kq, ok, gk, ck, e1, e2, e3, e4, e5⟩ := h.kids k hk hne
  have := hk0 k hk _ _ _ _ _ e1
  exact ⟨kq, ok, gk, ck, e1, e2, e3, (get_set_miss (by omega)).trans e4, e5⟩
/-- What a round of the loop keeps. -/
structure Rd (B F gF n : Nat) (kd : Nat → List Int) (kv : Nat → Value) (G0 : Heap) (r : RnH) (ge gt : Nat) (Z : Heap) : Prop where
  wk : ∃ wv, WK (G0.length + 2) B F gF n kd r.S r.q kv wv Z
  e : Z[G0.length]? = some (.cells ge 1 false (ints r.errs))
  t : Z[G0.length + 1]? = some (.cells gt 2 false (flat' S.cells r.sent))
  old : ∀ j, j < G0.length → j ≠ F → Z[j]? = G0[j]?
  len : G0.length + 2 ≤ Z.length
  lt : B < G0.length ∧ F < G0.length
  kd0 : ∀ k, k < n → ∀ kq ok gk m c, kv k = slv kq ok gk m c → kq < G0.length
theorem Rd.app {B F gF n : Nat} {kd : Nat → List Int} {kv : Nat → Value} {G0 : Heap} {r : RnH} {ge gt : Nat} {Z : Heap} (h : Rd B F gF n kd kv G0 r ge gt Z) (X : Heap) : Rd B F gF n kd kv G0 r ge gt (Z ++ X) := by
  obtain ⟨wv, hw⟩ := h.wk
  exact ⟨⟨wv, hw.app X⟩, get_old h.e X, get_old h.t X, fun j hj hF => (get_app (by have := h.len; omega) X).trans (h.old j hj hF), by have := h.len; simp; omega, h.lt, h.kd0⟩
theorem Rd.setE {B F gF n : Nat} {kd : Nat → List Int} {kv : Nat → Value} {G0 : Heap} {r : RnH} {ge gt ge' : Nat} {Z : Heap} (h : Rd B F gF n kd kv G0 r ge gt Z) (l : List Int) : Rd B F gF n kd kv G0 ⟨l, r.sent, r.S, r.q⟩ ge' gt (Z.set G0.length (.cells ge' 1 false (ints l))) := by
  obtain ⟨wv, hw⟩ := h.wk
  have := h.lt
  exact ⟨⟨wv, hw.set _ (by omega) (by omega) (by omega) fun k hk kq ok gk m c e => by have := h.kd0 k hk _ _ _ _ _ e; omega⟩, get_set_hit h.e, (get_set_miss (by omega)).trans h.t, fun j hj hF => (get_set_miss (by omega)).trans (h.old j hj hF), by simpa using h.len, h.lt, h.kd0⟩
theorem Rd.setT {B F gF n : Nat} {kd : Nat → List Int} {kv : Nat → Value} {G0 : Heap} {r : RnH} {ge gt gt' : Nat} {Z : Heap} (h : Rd B F gF n kd kv G0 r ge gt Z) (l : List S) : Rd B F gF n kd kv G0 ⟨r.errs, l, r.S, r.q⟩ ge gt' (Z.set (G0.length + 1) (.cells gt' 2 false (flat' S.cells l))) := by
  obtain ⟨wv, hw⟩ := h.wk
  have := h.lt
  exact ⟨⟨wv, hw.set _ (by omega) (by omega) (by omega) fun k hk kq ok gk m c e => by have := h.kd0 k hk _ _ _ _ _ e; omega⟩, (get_set_miss (by omega)).trans h.e, get_set_hit h.t, fun j hj hF => (get_set_miss (by omega)).trans (h.old j hj hF), by simpa using h.len, h.lt, h.kd0⟩
theorem Rd.go {B F gF n : Nat} {kd : Nat → List Int} {kv : Nat → Value} {G0 : Heap} {r : RnH} {ge gt : Nat} {Z Z' : Heap} {S' : St} {q' : Nat → List Int} {wv' : Nat → Value} (h : Rd B F gF n kd kv G0 r ge gt Z) (hw : WK (G0.length + 2) B F gF n kd S' q' kv wv' Z') (hf : Fr (G0.length + 2) F Z Z') : Rd B F gF n kd kv G0 ⟨r.errs, r.sent, S', q'⟩ ge gt Z' := by
  have := h.lt
  exact ⟨⟨wv', hw⟩, (hf.2 _ (by omega) (by omega)).trans h.e, (hf.2 _ (by omega) (by omega)).trans h.t, fun j hj hF => (hf.2 j (by omega) hF).trans (h.old j hj hF), Nat.le_trans h.len hf.1, h.lt, h.kd0⟩
theorem any_mem (l : List Int) (y : Int) : (l.any fun x => y == x) = decide (y ∈ l) := by
  rw [Bool.eq_iff_iff]
  simp only [List.any_eq_true, beq_iff_eq, decide_eq_true_eq]
  exact ⟨fun ⟨x, h1, h2⟩ => h2 ▸ h1, fun h => ⟨y, h, rfl⟩⟩
theorem Play_spec (l : List Nd) (ops : List Op) (k o g c : Nat) (wo : Value) (A : Nat → Prop) (H : Heap) (hO : Nodes H k o g l) (hl : l.length ≤ 9223372036854775807) (ho0 : IsO A H wo ops) (hol : ops.length ≤ 9223372036854775807) :
    ACallK Try.prog 7 [slv k o g l.length c, wo] H (fun v H' => ∃ a b d e, v = .tuple #[a, b, d, .int .i64 e] ∧ Le H H' ∧ (e = 0 ↔ okT l ∧ ops.length ≤ 400) ∧ (e ≠ 0 → b = .slice none 0 0) ∧
      (e = 0 → IsN (fun _ => True) H' a (runH l ops).errs ∧ IsS (fun _ => True) H' b (runH l ops).sent ∧ IsN (fun _ => True) H' d ((List.range l.length).map fun k => ((runH l ops).q k).length))) := by
  have hL := Leaves_spec l k o g c H hO hl
  obtain ⟨ro, cs, hk, hcl, hcs⟩ := hO.at'
  obtain ⟨ko, oo, go, co, _, rfl, hso, hco⟩ := ho0
  obtain ⟨roo, cso, hko, q2, q3⟩ := hso.at'
  refine .walkW f7_ok (by simp; decide) (by decide) ?_
  repeat' first | simp (disch := first | with_reducible assumption | omega) only [go_sem, Bool.true_and, Bool.and_true, Bool.and_self, Bool.false_and, Bool.and_false, Bool.true_or, Bool.or_true, Bool.false_or, Bool.or_false, ↓reduceIte, Nat.reduceEqDiff, Nat.reduceAdd, Nat.reduceMul, Nat.reduceSub, Nat.reduceBEq, Nat.reduceLeDiff, Nat.reduceLT, Nat.reduceMod, Nat.reduceDiv, Int.reduceToNat, Int.reducePow, Int.reduceMul, Int.reduceAdd, Int.reduceSub, Int.reduceLE, Int.reduceLT, Int.reduceNeg, Int.reduceDiv, Int.reduceMod, Int.reduceEq, Int.reduceBEq, Int.reduceBNe, f7, f7b, f7r0, f7r1, f7r2, f7r3, f7r4, f7r5, f7r6, f7r7, f7r8, f7r9, f7r10, f7r11, f7r12, f7r13, f7r14, f7r16, f7r17, f7r18, f7r19, f7r20, f7r21, f7r22, f7r23, f7r24, f7r25, f7r26, f7r27, f7r28, f7r29, f7r30, f7r31, f7r32, f7r33, f7r34, f7r35, f7r37, f7r38, f7r39, f7r40, f7r41, f7r42, f7r44] | (refine BrW.of (fun hb => ?_) (fun hb => ?_) <;> (have hb' := hb; try simp only [decide_eq_true_eq, decide_eq_false_iff_not, beq_iff_eq, bne_iff_ne, beq_eq_false_iff_ne, bne_eq_false_iff_eq, Bool.not_eq_true', Bool.not_eq_false', Bool.not_eq_true, Bool.not_eq_false, Bool.and_eq_true, Bool.or_eq_true, Bool.and_eq_false_iff, Bool.or_eq_false_iff, Int.not_lt, Int.not_le, ne_eq, gt_iff_lt, ge_iff_le] at hb') <;> (try (exfalso; omega))) | (refine altW.of ?_ ?_)
  refine .of (hL.mono ?_)
  rintro v H1 ⟨X, u, e, hH1, rfl, he, hbad, hgood⟩
  by_cases h0 : okT l
  · obtain rfl := he.2 h0
    obtain ⟨kx, gx, rfl, hx⟩ := hgood rfl
    have hkH := (List.getElem?_eq_some_iff.1 hk).1
    have hkoH := (List.getElem?_eq_some_iff.1 hko).1
    have hk1 : H1[k]? = some (.cells g 2 ro cs) := by rw [hH1]; exact get_old hk X
    have hko1 : H1[ko]? = some (.cells go 3 roo cso) := by rw [hH1]; exact get_old hko X
    have hx1 : H1[H.length + kx]? = some (.cells gx 1 false (ints (lvs l l.length))) := by
      rw [hH1, List.getElem?_append_right (by omega), Nat.add_sub_cancel_left]; exact hx
    have hHl : H.length ≤ H1.length := by rw [hH1]; simp
    have hH1o : ∀ j, j < H.length → H1[j]? = H[j]? := fun j hj => by rw [hH1]; exact get_app hj X
    have hLe : Le H H1 := ⟨X, hH1⟩
    clear hL hbad hgood he hx hH1
    by_cases h400 : ops.length ≤ 400
    · repeat' first | simp (disch := first | with_reducible assumption | omega) only [go_sem, Bool.true_and, Bool.and_true, Bool.and_self, Bool.false_and, Bool.and_false, Bool.true_or, Bool.or_true, Bool.false_or, Bool.or_false, ↓reduceIte, Nat.reduceEqDiff, Nat.reduceAdd, Nat.reduceMul, Nat.reduceSub, Nat.reduceBEq, Nat.reduceLeDiff, Nat.reduceLT, Nat.reduceMod, Nat.reduceDiv, Int.reduceToNat, Int.reducePow, Int.reduceMul, Int.reduceAdd, Int.reduceSub, Int.reduceLE, Int.reduceLT, Int.reduceNeg, Int.reduceDiv, Int.reduceMod, Int.reduceEq, Int.reduceBEq, Int.reduceBNe, f7, f7b, f7r0, f7r1, f7r2, f7r3, f7r4, f7r5, f7r6, f7r7, f7r8, f7r9, f7r10, f7r11, f7r12, f7r13, f7r14, f7r16, f7r17, f7r18, f7r19, f7r20, f7r21, f7r22, f7r23, f7r24, f7r25, f7r26, f7r27, f7r28, f7r29, f7r30, f7r31, f7r32, f7r33, f7r34, f7r35, f7r37, f7r38, f7r39, f7r40, f7r41, f7r42, f7r44, hk1, hko1, get_old hk1] | (refine BrW.of (fun hb => ?_) (fun hb => ?_) <;> (have hb' := hb; try simp only [decide_eq_true_eq, decide_eq_false_iff_not, beq_iff_eq, bne_iff_ne, beq_eq_false_iff_ne, bne_eq_false_iff_eq, Bool.not_eq_true', Bool.not_eq_false', Bool.not_eq_true, Bool.not_eq_false, Bool.and_eq_true, Bool.or_eq_true, Bool.and_eq_false_iff, Bool.or_eq_false_iff, Int.not_lt, Int.not_le, ne_eq, gt_iff_lt, ge_iff_le] at hb') <;> (try (exfalso; omega))) | (refine altW.of ?_ ?_)
      have h16 := h0.2.1
      have hk1l := (List.getElem?_eq_some_iff.1 hk1).1
      refine loopW.of (by decide) (fun m e J => ∃ (i gF : Nat) (kv : Nat → Value), e = [(1, slv ko oo go ops.length co), (8, slv (H.length + kx) 0 gx (lvs l l.length).length (lvs l l.length).length), (10, .pointer (some ⟨H1.length, 0, some 1⟩)), (37, slv k o g l.length c), (38, .int .i64 l.length), (39, .int .i64 i)] ∧
        ((i = 0 ∧ J = H1 ++ [.cells 0 0 false [.slice none 0 0]]) ∨ (0 < i ∧ BI H1 l i gF kv J)) ∧ i ≤ l.length ∧ m = l.length - i) l.length ⟨0, 0, nilV, rfl, .inl ⟨rfl, rfl⟩, by omega, rfl⟩ ?_
      rintro m e J ⟨i, gF, kv, rfl, hJ, hi, rfl⟩
      by_cases hlt : i < l.length
      · have x0 : cs[o + i * 2]? = some (.int .i64 (up l i)) := hcs i hlt 0 (by omega)
        have x1 : cs[o + i * 2 + 1]? = some (.int .i64 (wt l i)) := hcs i hlt 1 (by omega)
        have xl : ldV cs (o + i * 2) 2 = some [.int .i64 (up l i), .int .i64 (wt l i)] := Tbl.ld (enc := Nd.cells) (s := 2) (fun _ => rfl) hcs i hlt
        have hupl := up_lt' h0 hlt
        rcases hJ with ⟨rfl, rfl⟩ | ⟨hi0, hB⟩
        · have hup0 : up l 0 = -1 := by rcases hupl with h | ⟨p, h, h2⟩ <;> omega
          rw [hup0] at x0
          have y0 : cs[o]? = some (.int .i64 (-1)) := by simpa using x0
          have y1 : cs[o + 1]? = some (.int .i64 (wt l 0)) := by simpa using x1
          have nB : ∀ Y y, ((H1 ++ Y).set H1.length y) = H1 ++ Y.set 0 y := fun Y y => by rw [List.set_append_right _ _ (Nat.le_refl _), Nat.sub_self]
          repeat' first | simp (disch := first | with_reducible assumption | omega) only [go_sem, Bool.true_and, Bool.and_true, Bool.and_self, Bool.false_and, Bool.and_false, Bool.true_or, Bool.or_true, Bool.false_or, Bool.or_false, ↓reduceIte, Nat.reduceEqDiff, Nat.reduceAdd, Nat.reduceMul, Nat.reduceSub, Nat.reduceBEq, Nat.reduceLeDiff, Nat.reduceLT, Nat.reduceMod, Nat.reduceDiv, Int.reduceToNat, Int.reducePow, Int.reduceMul, Int.reduceAdd, Int.reduceSub, Int.reduceLE, Int.reduceLT, Int.reduceNeg, Int.reduceDiv, Int.reduceMod, Int.reduceEq, Int.reduceBEq, Int.reduceBNe, f7, f7b, f7r0, f7r1, f7r2, f7r3, f7r4, f7r5, f7r6, f7r7, f7r8, f7r9, f7r10, f7r11, f7r12, f7r13, f7r14, f7r16, f7r17, f7r18, f7r19, f7r20, f7r21, f7r22, f7r23, f7r24, f7r25, f7r26, f7r27, f7r28, f7r29, f7r30, f7r31, f7r32, f7r33, f7r34, f7r35, f7r37, f7r38, f7r39, f7r40, f7r41, f7r42, f7r44, f7l0, hk1, get_old hk1, y0, y1, nB] | (refine BrW.of (fun hb => ?_) (fun hb => ?_) <;> (have hb' := hb; try simp only [decide_eq_true_eq, decide_eq_false_iff_not, beq_iff_eq, bne_iff_ne, beq_eq_false_iff_ne, bne_eq_false_iff_eq, Bool.not_eq_true', Bool.not_eq_false', Bool.not_eq_true, Bool.not_eq_false, Bool.and_eq_true, Bool.or_eq_true, Bool.and_eq_false_iff, Bool.or_eq_false_iff, Int.not_lt, Int.not_le, ne_eq, gt_iff_lt, ge_iff_le] at hb') <;> (try (exfalso; omega))) | (refine altW.of ?_ ?_)
          refine RdW.keep [1, 8, 10, 37, 38, 39] (l.length - 1) (by omega) ?_
          simp (disch := first | with_reducible assumption | omega) only [go_sem, Bool.true_and, Bool.and_true, Bool.and_self, Bool.false_and, Bool.and_false, Bool.true_or, Bool.or_true, Bool.false_or, Bool.or_false, ↓reduceIte, Nat.reduceEqDiff, Nat.reduceAdd, Nat.reduceMul, Nat.reduceSub, Nat.reduceBEq, Nat.reduceLeDiff, Nat.reduceLT, Nat.reduceMod, Nat.reduceDiv, Int.reduceToNat, Int.reducePow, Int.reduceMul, Int.reduceAdd, Int.reduceSub, Int.reduceLE, Int.reduceLT, Int.reduceNeg, Int.reduceDiv, Int.reduceMod, Int.reduceEq, Int.reduceBEq, Int.reduceBNe]
          refine ⟨1, 0, nilV, rfl, .inr ⟨by omega, fun j hj => get_app hj _, get_new0 _ _ _, ?_, (Own.nil _ _ _ fun _ _ => rfl).cong (fun _ _ => rfl) (fun k hk => kdN_nil fun j hj => ?_), by simp⟩, by omega, rfl⟩
          · rw [get_new]
            simp [cN, tabR, flat', Rw.cells, startS, sumW, hup0, nilV]
          · obtain rfl : j = 0 := by omega
            omega
        · have hkJ : J[k]? = some (.cells g 2 ro cs) := (hB.old k hk1l).trans hk1
          have hJB := hB.box
          have hJF := hB.st
          rcases hupl with hup0 | ⟨p, hup, hpi⟩
          · have := (h0.2.2 i hlt).2.2 hi0; omega
          · rw [hup] at x0 xl
            have hlen := cN_len i (startS l i) kv nilV
            have htk : (cN i (startS l i) kv nilV).take (i * 10) = cN i (startS l i) kv nilV := List.take_of_length_le (by omega)
            have hni : ¬ i + 1 ≤ i := by omega
            have hsn : cN i (startS l i) kv nilV ++ [Value.int IntKind.i64 p, Value.int IntKind.i64 (wt l i), Value.slice none 0 0, Value.int IntKind.i64 0, Value.int IntKind.i64 0, Value.int IntKind.i64 0, Value.int IntKind.i64 0, Value.int IntKind.i64 0, Value.int IntKind.i64 0, Value.slice none 0 0] = cN (i + 1) (updS (startS l i) i ⟨p, wt l i, 0, 0, 0, 0, 0, 0⟩) (updV kv i (.slice none 0 0)) nilV := by
              have := cN_snoc i (startS l i) kv nilV ⟨p, wt l i, 0, 0, 0, 0, 0, 0⟩ (.slice none 0 0) (.slice none 0 0)
              rw [show updV nilV i (.slice none 0 0) = nilV from updV_self nilV i] at this
              exact this
            have hBJ := hB.len
            have nF : ∀ Y y, ((J ++ Y).set (H1.length + 3) y)[H1.length + 3]? = some y := fun Y y => get_set_hit (get_old hJF Y)
            have nB : ∀ Y y, ((J ++ Y).set (H1.length + 3) y)[H1.length]? = _ := fun Y y => (get_set_miss (by omega)).trans (get_old hJB Y)
            repeat' first | simp (disch := first | with_reducible assumption | omega) only [go_sem, Bool.true_and, Bool.and_true, Bool.and_self, Bool.false_and, Bool.and_false, Bool.true_or, Bool.or_true, Bool.false_or, Bool.or_false, ↓reduceIte, Nat.reduceEqDiff, Nat.reduceAdd, Nat.reduceMul, Nat.reduceSub, Nat.reduceBEq, Nat.reduceLeDiff, Nat.reduceLT, Nat.reduceMod, Nat.reduceDiv, Int.reduceToNat, Int.reducePow, Int.reduceMul, Int.reduceAdd, Int.reduceSub, Int.reduceLE, Int.reduceLT, Int.reduceNeg, Int.reduceDiv, Int.reduceMod, Int.reduceEq, Int.reduceBEq, Int.reduceBNe, f7, f7b, f7r0, f7r1, f7r2, f7r3, f7r4, f7r5, f7r6, f7r7, f7r8, f7r9, f7r10, f7r11, f7r12, f7r13, f7r14, f7r16, f7r17, f7r18, f7r19, f7r20, f7r21, f7r22, f7r23, f7r24, f7r25, f7r26, f7r27, f7r28, f7r29, f7r30, f7r31, f7r32, f7r33, f7r34, f7r35, f7r37, f7r38, f7r39, f7r40, f7r41, f7r42, f7r44, f7l0, hkJ, get_old hkJ, x0, x1, hJB, get_old hJB, hJF, get_old hJF, ↓xl, hlen, htk, hni, hsn, nF, nB] | (refine BrW.of (fun hb => ?_) (fun hb => ?_) <;> (have hb' := hb; try simp only [decide_eq_true_eq, decide_eq_false_iff_not, beq_iff_eq, bne_iff_ne, beq_eq_false_iff_ne, bne_eq_false_iff_eq, Bool.not_eq_true', Bool.not_eq_false', Bool.not_eq_true, Bool.not_eq_false, Bool.and_eq_true, Bool.or_eq_true, Bool.and_eq_false_iff, Bool.or_eq_false_iff, Int.not_lt, Int.not_le, ne_eq, gt_iff_lt, ge_iff_le] at hb') <;> (try (exfalso; omega))) | (refine altW.of ?_ ?_)
            have hfin : ∃ G S1 kv1, ((J ++ [AObj.cells 0 0 false [Value.int IntKind.i64 p, Value.int IntKind.i64 (wt l i)], AObj.cells 0 10 false [Value.int IntKind.i64 p, Value.int IntKind.i64 (wt l i), Value.slice none 0 0, Value.int IntKind.i64 0, Value.int IntKind.i64 0, Value.int IntKind.i64 0, Value.int IntKind.i64 0, Value.int IntKind.i64 0, Value.int IntKind.i64 0, Value.slice none 0 0]]).set (H1.length + 3) (AObj.cells (gF + 1) 10 false (cN (i + 1) (updS (startS l i) i ⟨p, wt l i, 0, 0, 0, 0, 0, 0⟩) (updV kv i (Value.slice none 0 0)) nilV))).set H1.length (AObj.cells 0 0 false [Value.slice (some { block := H1.length + 3, off := 0, spot := some (gF + 2) }) (i + 1) (i + 1)]) = G ∧
                updS (startS l i) i ⟨p, wt l i, 0, 0, 0, 0, 0, 0⟩ = S1 ∧ updV kv i (Value.slice none 0 0) = kv1 ∧ (∀ j, j < H1.length → G[j]? = H1[j]?) ∧ G[H1.length]? = some (.cells 0 0 false [slv (H1.length + 3) 0 (gF + 1) (i + 1) (i + 1)]) ∧ G[H1.length + 3]? = some (.cells (gF + 1) 10 false (cN (i + 1) S1 kv1 nilV)) ∧ G[J.length]? = some (.cells 0 0 false [.int .i64 p, .int .i64 (wt l i)]) ∧ Own (H1.length + 4) (i + 1) kv1 (fun k => kdN l k i) G ∧ J.length + 2 ≤ G.length := by
              refine ⟨_, _, _, rfl, rfl, rfl, fun j hj => ?_, get_set_hit (nB _ _), (get_set_miss (by omega)).trans (nF _ _), (get_set_miss (by omega)).trans ((get_set_miss (by omega)).trans (by rw [get_new0])), ?_, by simp⟩
              · rw [List.getElem?_set_ne (by omega), List.getElem?_set_ne (by omega), get_app (by omega)]; exact hB.old j hj
              · refine (Own.ext (V := updV kv i (.slice none 0 0)) (hB.own.cong (fun k hk => updV_ne (by omega)) fun _ _ => rfl) (updV_same _ _ _) (kdN_nil fun j hj => ?_)).agree fun q hq ob ho => (get_set_miss (by omega)).trans ((get_set_miss (by omega)).trans (get_old ho _))
                rcases up_lt' h0 (show j < l.length by omega) with h1 | ⟨r, h1, h2⟩ <;> omega
            obtain ⟨G, S1, kv1, hGe, hSe, hke, hGo, hGB, hGF, hGA, hOwn, hGl⟩ := hfin
            rw [hGe]
            have hS1p : S1 p = startS l i p := by rw [← hSe]; exact updS_ne (by omega)
            clear hGe nF nB hsn hJF hJB
            have hp1 : p < i + 1 := by omega
            have e2 := g2 hp1 S1 kv1 nilV
            have e3 := g3 hp1 S1
            have t2 := s2 hp1 S1 kv1 nilV
            have t3 := s3 hp1 S1
            rw [hS1p] at t3
            obtain ⟨q', o', g', cs', hX⟩ := hOwn
            have hat := hX.at' p hp1
            rw [hS1p] at e3
            have hkl := kdN_len l p i
            have hsb : 0 ≤ (startS l i p).sum ∧ (startS l i p).sum ≤ 12 * i := sumW_bound h0 p i (by omega)
            have hwt := (h0.2.2 i hlt).1
            have hkn : ∀ k, k ≠ p → kdN l k (i + 1) = kdN l k i := fun k hk => by
              simp only [kdN]; rw [if_neg (by omega), List.append_nil]
            have hkp : kdN l p (i + 1) = kdN l p i ++ [(i : Int)] := by
              simp only [kdN]; rw [if_pos hup]
            have hS2 : ∀ kv, cN (i + 1) (updS S1 p ⟨(startS l i p).up, (startS l i p).w, (startS l i p).sum + wt l i, (startS l i p).leaf, (startS l i p).bytes, (startS l i p).bg, (startS l i p).un, (startS l i p).time⟩) kv nilV = cN (i + 1) (startS l (i + 1)) kv nilV := fun kv => by
              refine cN_cong fun k hk => ⟨?_, rfl, rfl⟩
              rw [← hSe]
              exact start_step h0 hlt hup hpi k hk
            clear hSe
            generalize hkd : kdN l p i = kp at *
            rcases hat with ⟨hv, hq⟩ | ⟨hv, hqP, hQ, hd, ho⟩
            · rw [hv] at e2
              have mA : ∀ Y y, ((G ++ Y).set (H1.length + 3) y)[J.length]? = some (.cells 0 0 false [.int .i64 p, .int .i64 (wt l i)]) := fun Y y => (get_set_miss (by omega)).trans (get_old hGA Y)
              have mF : ∀ Y y, ((G ++ Y).set (H1.length + 3) y)[H1.length + 3]? = some y := fun Y y => get_set_hit (get_old hGF Y)
              repeat' first | simp (disch := first | with_reducible assumption | omega) only [go_sem, Bool.true_and, Bool.and_true, Bool.and_self, Bool.false_and, Bool.and_false, Bool.true_or, Bool.or_true, Bool.false_or, Bool.or_false, ↓reduceIte, Nat.reduceEqDiff, Nat.reduceAdd, Nat.reduceMul, Nat.reduceSub, Nat.reduceBEq, Nat.reduceLeDiff, Nat.reduceLT, Nat.reduceMod, Nat.reduceDiv, Int.reduceToNat, Int.reducePow, Int.reduceMul, Int.reduceAdd, Int.reduceSub, Int.reduceLE, Int.reduceLT, Int.reduceNeg, Int.reduceDiv, Int.reduceMod, Int.reduceEq, Int.reduceBEq, Int.reduceBNe, f7, f7b, f7r0, f7r1, f7r2, f7r3, f7r4, f7r5, f7r6, f7r7, f7r8, f7r9, f7r10, f7r11, f7r12, f7r13, f7r14, f7r16, f7r17, f7r18, f7r19, f7r20, f7r21, f7r22, f7r23, f7r24, f7r25, f7r26, f7r27, f7r28, f7r29, f7r30, f7r31, f7r32, f7r33, f7r34, f7r35, f7r37, f7r38, f7r39, f7r40, f7r41, f7r42, f7r44, f7l0, hGA, get_old hGA, hGB, get_old hGB, hGF, get_old hGF, cN_len, e2, e3, mA, mF, t2, t3, hS2] | (refine BrW.of (fun hb => ?_) (fun hb => ?_) <;> (have hb' := hb; try simp only [decide_eq_true_eq, decide_eq_false_iff_not, beq_iff_eq, bne_iff_ne, beq_eq_false_iff_ne, bne_eq_false_iff_eq, Bool.not_eq_true', Bool.not_eq_false', Bool.not_eq_true, Bool.not_eq_false, Bool.and_eq_true, Bool.or_eq_true, Bool.and_eq_false_iff, Bool.or_eq_false_iff, Int.not_lt, Int.not_le, ne_eq, gt_iff_lt, ge_iff_le] at hb') <;> (try (exfalso; omega))) | (refine altW.of ?_ ?_)
              refine RdW.keep [1, 8, 10, 37, 38, 39] (l.length - (i + 1)) (by omega) ?_
              simp (disch := first | with_reducible assumption | omega) only [go_sem, Bool.true_and, Bool.and_true, Bool.and_self, Bool.false_and, Bool.and_false, Bool.true_or, Bool.or_true, Bool.false_or, Bool.or_false, ↓reduceIte, Nat.reduceEqDiff, Nat.reduceAdd, Nat.reduceMul, Nat.reduceSub, Nat.reduceBEq, Nat.reduceLeDiff, Nat.reduceLT, Nat.reduceMod, Nat.reduceDiv, Int.reduceToNat, Int.reducePow, Int.reduceMul, Int.reduceAdd, Int.reduceSub, Int.reduceLE, Int.reduceLT, Int.reduceNeg, Int.reduceDiv, Int.reduceMod, Int.reduceEq, Int.reduceBEq, Int.reduceBNe]
              refine ⟨i + 1, gF + 1, updV kv1 p (slv (G.length + 1) 0 0 1 1), rfl, .inr ⟨by omega, fun j hj => ?_, (get_set_miss (by omega)).trans ((get_set_miss (by omega)).trans (get_old hGB _)), get_set_hit (mF _ _), ?_, by simp; omega⟩, by omega, rfl⟩
              · rw [List.getElem?_set_ne (by omega), List.getElem?_set_ne (by omega), get_app (by omega)]; exact hGo j hj
              · refine hX.step (f := p) (q' := G.length + 1) (o' := 0) (g' := 0) (cs' := [.int .i64 i]) (l' := [(i : Int)]) (updV_same _ _ _) (by rw [hkp, hq]; rfl) (fun k _ h => updV_ne h) (fun k _ h => hkn k h) (by omega) ((get_set_miss (by omega)).trans ((get_set_miss (by omega)).trans (by rw [get_new]; rfl))) rfl (by simp) (fun j hj h1 h2 => by have := hX.lt hj h2; omega) (fun j hj h1 h2 => by have := hX.lt hj h2; have := hX.ge hj h2; rw [List.getElem?_set_ne (by omega), List.getElem?_set_ne (by omega), get_app (by omega)])
            · rw [hv] at e2
              have hql2 := drop_len hd ho
              have hdt := drop_ints hd
              have il := ints_length kp
              have is := ints_snoc kp i
              have hqA : q' p ≠ J.length := fun e => by
                rw [e, hGA] at hQ
                have := congrArg (Option.map fun o : AObj => match o with | .cells _ e _ _ => e | _ => 0) hQ
                simp at this
              have hni2 : ¬ kp.length + 1 ≤ kp.length := by omega
              have mA0 : ∀ Y y, ((G ++ Y).set (q' p) y)[J.length]? = some (.cells 0 0 false [.int .i64 p, .int .i64 (wt l i)]) := fun Y y => (get_set_miss (by omega)).trans (get_old hGA Y)
              have mF0 : ∀ Y y, ((G ++ Y).set (q' p) y)[H1.length + 3]? = some (.cells (gF + 1) 10 false (cN (i + 1) S1 kv1 nilV)) := fun Y y => (get_set_miss (by omega)).trans (get_old hGF Y)
              have mA : ∀ Y y z, (((G ++ Y).set (q' p) y).set (H1.length + 3) z)[J.length]? = some (.cells 0 0 false [.int .i64 p, .int .i64 (wt l i)]) := fun Y y z => (get_set_miss (by omega)).trans (mA0 Y y)
              have mF : ∀ Y y z, (((G ++ Y).set (q' p) y).set (H1.length + 3) z)[H1.length + 3]? = some z := fun Y y z => get_set_hit (mF0 Y y)
              repeat' first | simp (disch := first | with_reducible assumption | omega) only [go_sem, Bool.true_and, Bool.and_true, Bool.and_self, Bool.false_and, Bool.and_false, Bool.true_or, Bool.or_true, Bool.false_or, Bool.or_false, ↓reduceIte, Nat.reduceEqDiff, Nat.reduceAdd, Nat.reduceMul, Nat.reduceSub, Nat.reduceBEq, Nat.reduceLeDiff, Nat.reduceLT, Nat.reduceMod, Nat.reduceDiv, Int.reduceToNat, Int.reducePow, Int.reduceMul, Int.reduceAdd, Int.reduceSub, Int.reduceLE, Int.reduceLT, Int.reduceNeg, Int.reduceDiv, Int.reduceMod, Int.reduceEq, Int.reduceBEq, Int.reduceBNe, f7, f7b, f7r0, f7r1, f7r2, f7r3, f7r4, f7r5, f7r6, f7r7, f7r8, f7r9, f7r10, f7r11, f7r12, f7r13, f7r14, f7r16, f7r17, f7r18, f7r19, f7r20, f7r21, f7r22, f7r23, f7r24, f7r25, f7r26, f7r27, f7r28, f7r29, f7r30, f7r31, f7r32, f7r33, f7r34, f7r35, f7r37, f7r38, f7r39, f7r40, f7r41, f7r42, f7r44, f7l0, hGA, get_old hGA, hGB, get_old hGB, hGF, get_old hGF, cN_len, e2, e3, hQ, get_old hQ, hdt, il, is, hni2, mA, mF, mA0, mF0, t2, t3, hS2] | (refine BrW.of (fun hb => ?_) (fun hb => ?_) <;> (have hb' := hb; try simp only [decide_eq_true_eq, decide_eq_false_iff_not, beq_iff_eq, bne_iff_ne, beq_eq_false_iff_ne, bne_eq_false_iff_eq, Bool.not_eq_true', Bool.not_eq_false', Bool.not_eq_true, Bool.not_eq_false, Bool.and_eq_true, Bool.or_eq_true, Bool.and_eq_false_iff, Bool.or_eq_false_iff, Int.not_lt, Int.not_le, ne_eq, gt_iff_lt, ge_iff_le] at hb') <;> (try (exfalso; omega))) | (refine altW.of ?_ ?_)
              refine RdW.keep [1, 8, 10, 37, 38, 39] (l.length - (i + 1)) (by omega) ?_
              simp (disch := first | with_reducible assumption | omega) only [go_sem, Bool.true_and, Bool.and_true, Bool.and_self, Bool.false_and, Bool.and_false, Bool.true_or, Bool.or_true, Bool.false_or, Bool.or_false, ↓reduceIte, Nat.reduceEqDiff, Nat.reduceAdd, Nat.reduceMul, Nat.reduceSub, Nat.reduceBEq, Nat.reduceLeDiff, Nat.reduceLT, Nat.reduceMod, Nat.reduceDiv, Int.reduceToNat, Int.reducePow, Int.reduceMul, Int.reduceAdd, Int.reduceSub, Int.reduceLE, Int.reduceLT, Int.reduceNeg, Int.reduceDiv, Int.reduceMod, Int.reduceEq, Int.reduceBEq, Int.reduceBNe]
              refine ⟨i + 1, gF + 1, updV kv1 p (slv (q' p) 0 (g' p + 1) (kp.length + 1) (kp.length + 1)), rfl, .inr ⟨by omega, fun j hj => ?_, (get_set_miss (by omega)).trans ((get_set_miss (by omega)).trans ((get_set_miss (by omega)).trans (get_old hGB _))), get_set_hit (mF _ _ _), ?_, by simp; omega⟩, by omega, rfl⟩
              · rw [List.getElem?_set_ne (by omega), List.getElem?_set_ne (by omega), List.getElem?_set_ne (by omega), get_app (by omega)]; exact hGo j hj
              · refine hX.step (f := p) (q' := q' p) (o' := 0) (g' := g' p + 1) (cs' := ints (kp ++ [(i : Int)])) (l' := kp ++ [(i : Int)]) (by rw [updV_same]; simp) hkp (fun k _ h => updV_ne h) (fun k _ h => hkn k h) hqP ((get_set_miss (by omega)).trans ((get_set_miss (by omega)).trans (get_set_hit (get_old hQ _)))) (by rw [List.drop_zero]) (by omega) (fun j hj h1 h2 => hX.inj j p hj hp1 h1 h2 (by rw [hv]; exact slv_ne _ _ _ _ _)) (fun j hj h1 h2 => by
                  have := hX.lt hj h2
                  have := hX.ge hj h2
                  have := hX.inj j p hj hp1 h1 h2 (by rw [hv]; exact slv_ne _ _ _ _ _)
                  rw [List.getElem?_set_ne (by omega), List.getElem?_set_ne (by omega), List.getElem?_set_ne (by omega), get_app (by omega)])
      · obtain rfl : i = l.length := by omega
        have hl1 := h0.1
        have hB : BI H1 l l.length gF kv J := by
          rcases hJ with ⟨h1, _⟩ | ⟨_, h2⟩
          · omega
          · exact h2
        have hBl := hB.len
        have hk0 : ∀ k, k < l.length → ∀ kq ok gk m c, kv k = slv kq ok gk m c → kq < J.length := fun k hk kq ok gk m c e => by
          obtain ⟨q, o, g, cs, hX⟩ := hB.own
          rcases hX.at' k hk with ⟨h1, _⟩ | ⟨h1, _⟩
          · rw [h1] at e; cases e
          · have hlt := hX.lt hk (by rw [h1]; exact slv_ne _ _ _ _ _)
            rw [h1] at e
            have : q k = kq := by cases e; rfl
            omega
        have hWK : WK (J.length + 2) H1.length (H1.length + 3) gF l.length (kdT l) (startS l l.length) (fun _ => []) kv nilV (J ++ [.cells 0 1 false [], .cells 0 2 false []]) := by
          refine ⟨⟨by omega, by omega, by omega⟩, get_old hB.box _, get_old hB.st _, fun k hk hne => ?_, Own.nil _ _ _ fun _ _ => rfl⟩
          obtain ⟨q, o, g, cs, hX⟩ := hB.own
          rcases hX.at' k hk with ⟨_, h1⟩ | ⟨h1, h2, h3, h4, h5⟩
          · exact (hne h1).elim
          · have hlt := hX.lt hk (by rw [h1]; exact slv_ne _ _ _ _ _)
            refine ⟨q k, o k, g k, cs k, h1, by omega, by omega, get_old h3 _, fun i hi => ?_⟩
            have h6 := congrArg (fun l => l[i]?) h4
            simp only [List.getElem?_drop] at h6
            rw [h6]
            exact ints_get _ i hi
        have hR0 : Rd H1.length (H1.length + 3) gF l.length (kdT l) kv J (runH l (ops.take 0)) 0 0 (J ++ [.cells 0 1 false [], .cells 0 2 false []]) :=
          ⟨⟨nilV, hWK⟩, get_new0 _ _ _, by rw [get_new]; rfl, fun j hj _ => get_app hj _, by simp, ⟨by omega, by omega⟩, hk0⟩
        have hko1l := (List.getElem?_eq_some_iff.1 hko1).1
        have hkoJ : J[ko]? = some (.cells go 3 roo cso) := (hB.old ko hko1l).trans hko1
        have hx1l := (List.getElem?_eq_some_iff.1 hx1).1
        have hxJ : J[H.length + kx]? = some (.cells gx 1 false (ints (lvs l l.length))) := (hB.old _ hx1l).trans hx1
        have hJo : ∀ j, j < H1.length → J[j]? = H1[j]? := hB.old
        clear hJ hWK hB hk0
        repeat' first | simp (disch := first | with_reducible assumption | omega) only [go_sem, Bool.true_and, Bool.and_true, Bool.and_self, Bool.false_and, Bool.and_false, Bool.true_or, Bool.or_true, Bool.false_or, Bool.or_false, ↓reduceIte, Nat.reduceEqDiff, Nat.reduceAdd, Nat.reduceMul, Nat.reduceSub, Nat.reduceBEq, Nat.reduceLeDiff, Nat.reduceLT, Nat.reduceMod, Nat.reduceDiv, Int.reduceToNat, Int.reducePow, Int.reduceMul, Int.reduceAdd, Int.reduceSub, Int.reduceLE, Int.reduceLT, Int.reduceNeg, Int.reduceDiv, Int.reduceMod, Int.reduceEq, Int.reduceBEq, Int.reduceBNe, f7, f7b, f7r0, f7r1, f7r2, f7r3, f7r4, f7r5, f7r6, f7r7, f7r8, f7r9, f7r10, f7r11, f7r12, f7r13, f7r14, f7r16, f7r17, f7r18, f7r19, f7r20, f7r21, f7r22, f7r23, f7r24, f7r25, f7r26, f7r27, f7r28, f7r29, f7r30, f7r31, f7r32, f7r33, f7r34, f7r35, f7r37, f7r38, f7r39, f7r40, f7r41, f7r42, f7r44, f7l0, f7, f7b, f7r0, f7r1, f7r2, f7r3, f7r4, f7r5, f7r6, f7r7, f7r8, f7r9, f7r10, f7r11, f7r12, f7r13, f7r14, f7r16, f7r17, f7r18, f7r19, f7r20, f7r21, f7r22, f7r23, f7r24, f7r25, f7r26, f7r27, f7r28, f7r29, f7r30, f7r31, f7r32, f7r33, f7r34, f7r35, f7r37, f7r38, f7r39, f7r40, f7r41, f7r42, f7r44, hkoJ, get_old hkoJ] | (refine BrW.of (fun hb => ?_) (fun hb => ?_) <;> (have hb' := hb; try simp only [decide_eq_true_eq, decide_eq_false_iff_not, beq_iff_eq, bne_iff_ne, beq_eq_false_iff_ne, bne_eq_false_iff_eq, Bool.not_eq_true', Bool.not_eq_false', Bool.not_eq_true, Bool.not_eq_false, Bool.and_eq_true, Bool.or_eq_true, Bool.and_eq_false_iff, Bool.or_eq_false_iff, Int.not_lt, Int.not_le, ne_eq, gt_iff_lt, ge_iff_le] at hb') <;> (try (exfalso; omega))) | (refine altW.of ?_ ?_)
        refine loopW.ghost 14 1 rfl ?_
        simp (disch := first | with_reducible assumption | omega) only [go_sem, Bool.true_and, Bool.and_true, Bool.and_self, Bool.false_and, Bool.and_false, Bool.true_or, Bool.or_true, Bool.false_or, Bool.or_false, ↓reduceIte, Nat.reduceEqDiff, Nat.reduceAdd, Nat.reduceMul, Nat.reduceSub, Nat.reduceBEq, Nat.reduceLeDiff, Nat.reduceLT, Nat.reduceMod, Nat.reduceDiv, Int.reduceToNat, Int.reducePow, Int.reduceMul, Int.reduceAdd, Int.reduceSub, Int.reduceLE, Int.reduceLT, Int.reduceNeg, Int.reduceDiv, Int.reduceMod, Int.reduceEq, Int.reduceBEq, Int.reduceBNe]
        refine loopW.ghost 15 2 rfl ?_
        simp (disch := first | with_reducible assumption | omega) only [go_sem, Bool.true_and, Bool.and_true, Bool.and_self, Bool.false_and, Bool.and_false, Bool.true_or, Bool.or_true, Bool.false_or, Bool.or_false, ↓reduceIte, Nat.reduceEqDiff, Nat.reduceAdd, Nat.reduceMul, Nat.reduceSub, Nat.reduceBEq, Nat.reduceLeDiff, Nat.reduceLT, Nat.reduceMod, Nat.reduceDiv, Int.reduceToNat, Int.reducePow, Int.reduceMul, Int.reduceAdd, Int.reduceSub, Int.reduceLE, Int.reduceLT, Int.reduceNeg, Int.reduceDiv, Int.reduceMod, Int.reduceEq, Int.reduceBEq, Int.reduceBNe]
        have hgF0 : H1.length ≠ H1.length + 3 := by omega
        refine loopW.of (by decide) (fun m e Z => ∃ (i ge gt : Nat), e = [(8, slv (H.length + kx) 0 gx (lvs l l.length).length (lvs l l.length).length), (10, .pointer (some ⟨H1.length, 0, some 1⟩)), (14, slv J.length 0 ge i i), (15, slv (J.length + 1) 0 gt (runH l (ops.take i)).sent.length (runH l (ops.take i)).sent.length), (89, slv ko oo go ops.length co), (90, .int .i64 ops.length), (91, .int .i64 i)] ∧
          Rd H1.length (H1.length + 3) gF l.length (kdT l) kv J (runH l (ops.take i)) ge gt Z ∧ i ≤ ops.length ∧ m = ops.length - i) ops.length ⟨0, 0, 0, rfl, hR0, by omega, rfl⟩ ?_
        clear hR0
        rintro m e Z ⟨i, ge, gt, rfl, hR, hi, rfl⟩
        have hkoZ : Z[ko]? = some (.cells go 3 roo cso) := (hR.old ko (by omega) (by omega)).trans hkoJ
        have hxZ : Z[H.length + kx]? = some (.cells gx 1 false (ints (lvs l l.length))) := (hR.old _ (by omega) (by omega)).trans hxJ
        by_cases hlt : i < ops.length
        · have hri := run_ri h0 ops i hi
          have hsn : runH l (ops.take (i + 1)) = stepH l.length (kdT l) (lvT l) (runH l (ops.take i)) (ops.getD i o0) := by rw [take_snocO ops i hlt, runH_snoc]
          have y0 := q3 i hlt 0 (by omega)
          have y1 := q3 i hlt 1 (by omega)
          have y2 := q3 i hlt 2 (by omega)
          simp only [Op.cells, List.getElem?_cons_zero, List.getElem?_cons_succ, Nat.add_zero, show oo + i * 3 + 2 = oo + i * 3 + 1 + 1 by omega] at y0 y1 y2
          have hMi : 0 ≤ 140000000000 * (i : Int) ∧ 140000000000 * (i : Int) ≤ 100000000000000 := by omega
          have hCo := fun (y : Int) (Z' : Heap) (hz : Z'[H.length + kx]? = some (.cells gx 1 false (ints (lvs l l.length)))) => ContainsI_spec y (lvs l l.length) (H.length + kx) 0 gx (lvs l l.length).length Z' (Ints.new _ _ _ false _ hz) (by have := lvs_len l l.length; omega)
          generalize ops.getD i o0 = o at *
          generalize hr : runH l (ops.take i) = r at *
          clear hr
          have hel := hri.el
          have hsl := hri.sl
          have ic := ints_length r.errs
          have it := ints_take r.errs i (by omega)
          have isn := fun x => ints_snoc r.errs x
          have fl := flatS_len r.sent
          have ft := flatS_take r.sent
          have hni : ¬ i + 1 ≤ i := by omega
          have hni2 : ¬ r.sent.length + 1 ≤ r.sent.length := by omega
          have hZl := hR.len
          rw [hel] at ic
          have hst2 := hsn
          unfold stepH at hst2
          have hR1 := hR.app [.cells 0 0 false [.int .i64 o.k, .int .i64 o.f, .int .i64 o.b]]
          by_cases h2 : o.k = 2
          · rw [if_pos h2] at hst2
            repeat' first | simp (disch := first | with_reducible assumption | omega) only [go_sem, Bool.true_and, Bool.and_true, Bool.and_self, Bool.false_and, Bool.and_false, Bool.true_or, Bool.or_true, Bool.false_or, Bool.or_false, ↓reduceIte, Nat.reduceEqDiff, Nat.reduceAdd, Nat.reduceMul, Nat.reduceSub, Nat.reduceBEq, Nat.reduceLeDiff, Nat.reduceLT, Nat.reduceMod, Nat.reduceDiv, Int.reduceToNat, Int.reducePow, Int.reduceMul, Int.reduceAdd, Int.reduceSub, Int.reduceLE, Int.reduceLT, Int.reduceNeg, Int.reduceDiv, Int.reduceMod, Int.reduceEq, Int.reduceBEq, Int.reduceBNe, f7, f7b, f7r0, f7r1, f7r2, f7r3, f7r4, f7r5, f7r6, f7r7, f7r8, f7r9, f7r10, f7r11, f7r12, f7r13, f7r14, f7r16, f7r17, f7r18, f7r19, f7r20, f7r21, f7r22, f7r23, f7r24, f7r25, f7r26, f7r27, f7r28, f7r29, f7r30, f7r31, f7r32, f7r33, f7r34, f7r35, f7r37, f7r38, f7r39, f7r40, f7r41, f7r42, f7r44, f7l1, hkoZ, get_old hkoZ, y0, y1, y2] | (refine BrW.of (fun hb => ?_) (fun hb => ?_) <;> (have hb' := hb; try simp only [decide_eq_true_eq, decide_eq_false_iff_not, beq_iff_eq, bne_iff_ne, beq_eq_false_iff_ne, bne_eq_false_iff_eq, Bool.not_eq_true', Bool.not_eq_false', Bool.not_eq_true, Bool.not_eq_false, Bool.and_eq_true, Bool.or_eq_true, Bool.and_eq_false_iff, Bool.or_eq_false_iff, Int.not_lt, Int.not_le, ne_eq, gt_iff_lt, ge_iff_le] at hb') <;> (try (exfalso; omega))) | (refine altW.of ?_ ?_)
            obtain ⟨wv, hW1⟩ := hR1.wk
            refine .of ((out_spec _ _ _ _ _ _ _ _ _ _ _ _ hW1 hri.ok hri.tk hMi h16 h0.1 (fun k hk => by have := hri.ql k; omega) hri.inv.qb (by simp; omega) (fun hb => by
              obtain ⟨lf, a1, a2, a3, a4, a5⟩ := hri.inv.reach hri.ok hri.tk l.length 0 (by omega) h0.1 hb
              exact ⟨lf, a1, a2, a4⟩)).mono ?_)
            rintro v Z1 ⟨hF1, (⟨hz, rfl, hW2⟩ | ⟨lf, hnz, hlf, hln, hqn, rfl, wv2, hW2⟩)⟩
            · have hR3 := hR1.go hW2 hF1
              rw [if_pos hz] at hst2
              have p1 := hR3.e
              simp only at p1
              repeat' first | simp (disch := first | with_reducible assumption | omega) only [go_sem, Bool.true_and, Bool.and_true, Bool.and_self, Bool.false_and, Bool.and_false, Bool.true_or, Bool.or_true, Bool.false_or, Bool.or_false, ↓reduceIte, Nat.reduceEqDiff, Nat.reduceAdd, Nat.reduceMul, Nat.reduceSub, Nat.reduceBEq, Nat.reduceLeDiff, Nat.reduceLT, Nat.reduceMod, Nat.reduceDiv, Int.reduceToNat, Int.reducePow, Int.reduceMul, Int.reduceAdd, Int.reduceSub, Int.reduceLE, Int.reduceLT, Int.reduceNeg, Int.reduceDiv, Int.reduceMod, Int.reduceEq, Int.reduceBEq, Int.reduceBNe, f7, f7b, f7r0, f7r1, f7r2, f7r3, f7r4, f7r5, f7r6, f7r7, f7r8, f7r9, f7r10, f7r11, f7r12, f7r13, f7r14, f7r16, f7r17, f7r18, f7r19, f7r20, f7r21, f7r22, f7r23, f7r24, f7r25, f7r26, f7r27, f7r28, f7r29, f7r30, f7r31, f7r32, f7r33, f7r34, f7r35, f7r37, f7r38, f7r39, f7r40, f7r41, f7r42, f7r44, get_old p1, ic, it, isn, hni] | (refine BrW.of (fun hb => ?_) (fun hb => ?_) <;> (have hb' := hb; try simp only [decide_eq_true_eq, decide_eq_false_iff_not, beq_iff_eq, bne_iff_ne, beq_eq_false_iff_ne, bne_eq_false_iff_eq, Bool.not_eq_true', Bool.not_eq_false', Bool.not_eq_true, Bool.not_eq_false, Bool.and_eq_true, Bool.or_eq_true, Bool.and_eq_false_iff, Bool.or_eq_false_iff, Int.not_lt, Int.not_le, ne_eq, gt_iff_lt, ge_iff_le] at hb') <;> (try (exfalso; omega))) | (refine altW.of ?_ ?_)
              refine RdW.keep [8, 10, 14, 15, 89, 90, 91] (ops.length - (i + 1)) (by omega) ?_
              simp (disch := first | with_reducible assumption | omega) only [go_sem, Bool.true_and, Bool.and_true, Bool.and_self, Bool.false_and, Bool.and_false, Bool.true_or, Bool.or_true, Bool.false_or, Bool.or_false, ↓reduceIte, Nat.reduceEqDiff, Nat.reduceAdd, Nat.reduceMul, Nat.reduceSub, Nat.reduceBEq, Nat.reduceLeDiff, Nat.reduceLT, Nat.reduceMod, Nat.reduceDiv, Int.reduceToNat, Int.reducePow, Int.reduceMul, Int.reduceAdd, Int.reduceSub, Int.reduceLE, Int.reduceLT, Int.reduceNeg, Int.reduceDiv, Int.reduceMod, Int.reduceEq, Int.reduceBEq, Int.reduceBNe]
              refine ⟨i + 1, ge + 1, gt, by rw [hst2]; simp, ?_, by omega, rfl⟩
              rw [hst2]
              exact (hR3.app _).setE _
            · have hR3 := hR1.go hW2 hF1
              rw [if_neg hnz, hlf, Int.toNat_natCast] at hst2
              have p1 := hR3.e
              have p2 := hR3.t
              simp only at p1 p2
              generalize (r.S 0).bytes = x at *
              have fs := flatS_snoc r.sent ⟨lf, x⟩
              have nE : ∀ X y Y, ((Z1 ++ X).set (J.length + 1) y ++ Y)[J.length]? = _ := fun X y Y => get_old ((get_set_miss (by omega)).trans (get_old p1 X)) Y
              repeat' first | simp (disch := first | with_reducible assumption | omega) only [go_sem, Bool.true_and, Bool.and_true, Bool.and_self, Bool.false_and, Bool.and_false, Bool.true_or, Bool.or_true, Bool.false_or, Bool.or_false, ↓reduceIte, Nat.reduceEqDiff, Nat.reduceAdd, Nat.reduceMul, Nat.reduceSub, Nat.reduceBEq, Nat.reduceLeDiff, Nat.reduceLT, Nat.reduceMod, Nat.reduceDiv, Int.reduceToNat, Int.reducePow, Int.reduceMul, Int.reduceAdd, Int.reduceSub, Int.reduceLE, Int.reduceLT, Int.reduceNeg, Int.reduceDiv, Int.reduceMod, Int.reduceEq, Int.reduceBEq, Int.reduceBNe, f7, f7b, f7r0, f7r1, f7r2, f7r3, f7r4, f7r5, f7r6, f7r7, f7r8, f7r9, f7r10, f7r11, f7r12, f7r13, f7r14, f7r16, f7r17, f7r18, f7r19, f7r20, f7r21, f7r22, f7r23, f7r24, f7r25, f7r26, f7r27, f7r28, f7r29, f7r30, f7r31, f7r32, f7r33, f7r34, f7r35, f7r37, f7r38, f7r39, f7r40, f7r41, f7r42, f7r44, get_old p1, get_old p2, nE, ic, it, isn, hni, fl, ft, fs, hni2] | (refine BrW.of (fun hb => ?_) (fun hb => ?_) <;> (have hb' := hb; try simp only [decide_eq_true_eq, decide_eq_false_iff_not, beq_iff_eq, bne_iff_ne, beq_eq_false_iff_ne, bne_eq_false_iff_eq, Bool.not_eq_true', Bool.not_eq_false', Bool.not_eq_true, Bool.not_eq_false, Bool.and_eq_true, Bool.or_eq_true, Bool.and_eq_false_iff, Bool.or_eq_false_iff, Int.not_lt, Int.not_le, ne_eq, gt_iff_lt, ge_iff_le] at hb') <;> (try (exfalso; omega))) | (refine altW.of ?_ ?_)
              refine RdW.keep [8, 10, 14, 15, 89, 90, 91] (ops.length - (i + 1)) (by omega) ?_
              simp (disch := first | with_reducible assumption | omega) only [go_sem, Bool.true_and, Bool.and_true, Bool.and_self, Bool.false_and, Bool.and_false, Bool.true_or, Bool.or_true, Bool.false_or, Bool.or_false, ↓reduceIte, Nat.reduceEqDiff, Nat.reduceAdd, Nat.reduceMul, Nat.reduceSub, Nat.reduceBEq, Nat.reduceLeDiff, Nat.reduceLT, Nat.reduceMod, Nat.reduceDiv, Int.reduceToNat, Int.reducePow, Int.reduceMul, Int.reduceAdd, Int.reduceSub, Int.reduceLE, Int.reduceLT, Int.reduceNeg, Int.reduceDiv, Int.reduceMod, Int.reduceEq, Int.reduceBEq, Int.reduceBNe]
              refine ⟨i + 1, ge + 1, gt + 1, by rw [hst2]; simp, ?_, by omega, rfl⟩
              rw [hst2]
              exact (((hR3.app _).setT _).app _).setE _
          · rw [if_neg h2] at hst2
            have he' := hR.e
            by_cases h1 : o.k = 1
            · rw [if_neg (by omega)] at hst2
              repeat' first | simp (disch := first | with_reducible assumption | omega) only [go_sem, Bool.true_and, Bool.and_true, Bool.and_self, Bool.false_and, Bool.and_false, Bool.true_or, Bool.or_true, Bool.false_or, Bool.or_false, ↓reduceIte, Nat.reduceEqDiff, Nat.reduceAdd, Nat.reduceMul, Nat.reduceSub, Nat.reduceBEq, Nat.reduceLeDiff, Nat.reduceLT, Nat.reduceMod, Nat.reduceDiv, Int.reduceToNat, Int.reducePow, Int.reduceMul, Int.reduceAdd, Int.reduceSub, Int.reduceLE, Int.reduceLT, Int.reduceNeg, Int.reduceDiv, Int.reduceMod, Int.reduceEq, Int.reduceBEq, Int.reduceBNe, f7, f7b, f7r0, f7r1, f7r2, f7r3, f7r4, f7r5, f7r6, f7r7, f7r8, f7r9, f7r10, f7r11, f7r12, f7r13, f7r14, f7r16, f7r17, f7r18, f7r19, f7r20, f7r21, f7r22, f7r23, f7r24, f7r25, f7r26, f7r27, f7r28, f7r29, f7r30, f7r31, f7r32, f7r33, f7r34, f7r35, f7r37, f7r38, f7r39, f7r40, f7r41, f7r42, f7r44, f7l1, hkoZ, get_old hkoZ, y0, y1, y2] | (refine BrW.of (fun hb => ?_) (fun hb => ?_) <;> (have hb' := hb; try simp only [decide_eq_true_eq, decide_eq_false_iff_not, beq_iff_eq, bne_iff_ne, beq_eq_false_iff_ne, bne_eq_false_iff_eq, Bool.not_eq_true', Bool.not_eq_false', Bool.not_eq_true, Bool.not_eq_false, Bool.and_eq_true, Bool.or_eq_true, Bool.and_eq_false_iff, Bool.or_eq_false_iff, Int.not_lt, Int.not_le, ne_eq, gt_iff_lt, ge_iff_le] at hb') <;> (try (exfalso; omega))) | (refine altW.of ?_ ?_)
              refine .of ((hCo o.f _ (get_old hxZ _)).mono ?_)
              rintro v Z1 ⟨rfl, rfl⟩
              rw [any_mem]
              by_cases hm : o.f ∈ lvT l
              · have hm2 : o.f ∈ lvs l l.length := hm
                rw [decide_eq_true hm2]
                rw [if_neg (fun h => h hm)] at hst2
                by_cases h4 : o.b < 1 ∨ 1500 < o.b
                · rw [if_pos h4] at hst2
                  repeat' first | simp (disch := first | with_reducible assumption | omega) only [go_sem, Bool.true_and, Bool.and_true, Bool.and_self, Bool.false_and, Bool.and_false, Bool.true_or, Bool.or_true, Bool.false_or, Bool.or_false, ↓reduceIte, Nat.reduceEqDiff, Nat.reduceAdd, Nat.reduceMul, Nat.reduceSub, Nat.reduceBEq, Nat.reduceLeDiff, Nat.reduceLT, Nat.reduceMod, Nat.reduceDiv, Int.reduceToNat, Int.reducePow, Int.reduceMul, Int.reduceAdd, Int.reduceSub, Int.reduceLE, Int.reduceLT, Int.reduceNeg, Int.reduceDiv, Int.reduceMod, Int.reduceEq, Int.reduceBEq, Int.reduceBNe, f7, f7b, f7r0, f7r1, f7r2, f7r3, f7r4, f7r5, f7r6, f7r7, f7r8, f7r9, f7r10, f7r11, f7r12, f7r13, f7r14, f7r16, f7r17, f7r18, f7r19, f7r20, f7r21, f7r22, f7r23, f7r24, f7r25, f7r26, f7r27, f7r28, f7r29, f7r30, f7r31, f7r32, f7r33, f7r34, f7r35, f7r37, f7r38, f7r39, f7r40, f7r41, f7r42, f7r44, get_old he', ic, it, isn, hni] | (refine BrW.of (fun hb => ?_) (fun hb => ?_) <;> (have hb' := hb; try simp only [decide_eq_true_eq, decide_eq_false_iff_not, beq_iff_eq, bne_iff_ne, beq_eq_false_iff_ne, bne_eq_false_iff_eq, Bool.not_eq_true', Bool.not_eq_false', Bool.not_eq_true, Bool.not_eq_false, Bool.and_eq_true, Bool.or_eq_true, Bool.and_eq_false_iff, Bool.or_eq_false_iff, Int.not_lt, Int.not_le, ne_eq, gt_iff_lt, ge_iff_le] at hb') <;> (try (exfalso; omega))) | (refine altW.of ?_ ?_)
                  all_goals (try (exfalso; omega))
                  all_goals
                    refine RdW.keep [8, 10, 14, 15, 89, 90, 91] (ops.length - (i + 1)) (by omega) ?_
                    simp (disch := first | with_reducible assumption | omega) only [go_sem, Bool.true_and, Bool.and_true, Bool.and_self, Bool.false_and, Bool.and_false, Bool.true_or, Bool.or_true, Bool.false_or, Bool.or_false, ↓reduceIte, Nat.reduceEqDiff, Nat.reduceAdd, Nat.reduceMul, Nat.reduceSub, Nat.reduceBEq, Nat.reduceLeDiff, Nat.reduceLT, Nat.reduceMod, Nat.reduceDiv, Int.reduceToNat, Int.reducePow, Int.reduceMul, Int.reduceAdd, Int.reduceSub, Int.reduceLE, Int.reduceLT, Int.reduceNeg, Int.reduceDiv, Int.reduceMod, Int.reduceEq, Int.reduceBEq, Int.reduceBNe]
                    refine ⟨i + 1, ge + 1, gt, by rw [hst2]; simp, ?_, by omega, rfl⟩
                    rw [hst2]
                    exact (hR.app _).setE _
                · rw [if_neg h4] at hst2
                  obtain ⟨kk, b1, b2, b3⟩ := lvT_mem hm
                  rw [b1, Int.toNat_natCast] at hst2
                  repeat' first | simp (disch := first | with_reducible assumption | omega) only [go_sem, Bool.true_and, Bool.and_true, Bool.and_self, Bool.false_and, Bool.and_false, Bool.true_or, Bool.or_true, Bool.false_or, Bool.or_false, ↓reduceIte, Nat.reduceEqDiff, Nat.reduceAdd, Nat.reduceMul, Nat.reduceSub, Nat.reduceBEq, Nat.reduceLeDiff, Nat.reduceLT, Nat.reduceMod, Nat.reduceDiv, Int.reduceToNat, Int.reducePow, Int.reduceMul, Int.reduceAdd, Int.reduceSub, Int.reduceLE, Int.reduceLT, Int.reduceNeg, Int.reduceDiv, Int.reduceMod, Int.reduceEq, Int.reduceBEq, Int.reduceBNe, f7, f7b, f7r0, f7r1, f7r2, f7r3, f7r4, f7r5, f7r6, f7r7, f7r8, f7r9, f7r10, f7r11, f7r12, f7r13, f7r14, f7r16, f7r17, f7r18, f7r19, f7r20, f7r21, f7r22, f7r23, f7r24, f7r25, f7r26, f7r27, f7r28, f7r29, f7r30, f7r31, f7r32, f7r33, f7r34, f7r35, f7r37, f7r38, f7r39, f7r40, f7r41, f7r42, f7r44, get_old he', ic, it, isn, hni] | (refine BrW.of (fun hb => ?_) (fun hb => ?_) <;> (have hb' := hb; try simp only [decide_eq_true_eq, decide_eq_false_iff_not, beq_iff_eq, bne_iff_ne, beq_eq_false_iff_ne, bne_eq_false_iff_eq, Bool.not_eq_true', Bool.not_eq_false', Bool.not_eq_true, Bool.not_eq_false, Bool.and_eq_true, Bool.or_eq_true, Bool.and_eq_false_iff, Bool.or_eq_false_iff, Int.not_lt, Int.not_le, ne_eq, gt_iff_lt, ge_iff_le] at hb') <;> (try (exfalso; omega))) | (refine altW.of ?_ ?_)
                  all_goals (try (exfalso; omega))
                  rw [b1] at hR1 ⊢
                  obtain ⟨wv, hW1⟩ := hR1.wk
                  refine .of ((in_spec _ _ _ _ _ _ _ _ _ _ _ kk o.b _ hW1 hri.ok hri.tk hMi h16 b2 (by omega) (by have := hri.ql kk; omega) (by simp; omega)).mono ?_)
                  rintro v Z1 ⟨rfl, ⟨wv2, hW2⟩, hF1⟩
                  have hR3 := hR1.go hW2 hF1
                  have p1 := hR3.e
                  simp only at p1
                  repeat' first | simp (disch := first | with_reducible assumption | omega) only [go_sem, Bool.true_and, Bool.and_true, Bool.and_self, Bool.false_and, Bool.and_false, Bool.true_or, Bool.or_true, Bool.false_or, Bool.or_false, ↓reduceIte, Nat.reduceEqDiff, Nat.reduceAdd, Nat.reduceMul, Nat.reduceSub, Nat.reduceBEq, Nat.reduceLeDiff, Nat.reduceLT, Nat.reduceMod, Nat.reduceDiv, Int.reduceToNat, Int.reducePow, Int.reduceMul, Int.reduceAdd, Int.reduceSub, Int.reduceLE, Int.reduceLT, Int.reduceNeg, Int.reduceDiv, Int.reduceMod, Int.reduceEq, Int.reduceBEq, Int.reduceBNe, f7, f7b, f7r0, f7r1, f7r2, f7r3, f7r4, f7r5, f7r6, f7r7, f7r8, f7r9, f7r10, f7r11, f7r12, f7r13, f7r14, f7r16, f7r17, f7r18, f7r19, f7r20, f7r21, f7r22, f7r23, f7r24, f7r25, f7r26, f7r27, f7r28, f7r29, f7r30, f7r31, f7r32, f7r33, f7r34, f7r35, f7r37, f7r38, f7r39, f7r40, f7r41, f7r42, f7r44, get_old p1, ic, it, isn, hni] | (refine BrW.of (fun hb => ?_) (fun hb => ?_) <;> (have hb' := hb; try simp only [decide_eq_true_eq, decide_eq_false_iff_not, beq_iff_eq, bne_iff_ne, beq_eq_false_iff_ne, bne_eq_false_iff_eq, Bool.not_eq_true', Bool.not_eq_false', Bool.not_eq_true, Bool.not_eq_false, Bool.and_eq_true, Bool.or_eq_true, Bool.and_eq_false_iff, Bool.or_eq_false_iff, Int.not_lt, Int.not_le, ne_eq, gt_iff_lt, ge_iff_le] at hb') <;> (try (exfalso; omega))) | (refine altW.of ?_ ?_)
                  refine RdW.keep [8, 10, 14, 15, 89, 90, 91] (ops.length - (i + 1)) (by omega) ?_
                  simp (disch := first | with_reducible assumption | omega) only [go_sem, Bool.true_and, Bool.and_true, Bool.and_self, Bool.false_and, Bool.and_false, Bool.true_or, Bool.or_true, Bool.false_or, Bool.or_false, ↓reduceIte, Nat.reduceEqDiff, Nat.reduceAdd, Nat.reduceMul, Nat.reduceSub, Nat.reduceBEq, Nat.reduceLeDiff, Nat.reduceLT, Nat.reduceMod, Nat.reduceDiv, Int.reduceToNat, Int.reducePow, Int.reduceMul, Int.reduceAdd, Int.reduceSub, Int.reduceLE, Int.reduceLT, Int.reduceNeg, Int.reduceDiv, Int.reduceMod, Int.reduceEq, Int.reduceBEq, Int.reduceBNe]
                  refine ⟨i + 1, ge + 1, gt, by rw [hst2]; simp, ?_, by omega, rfl⟩
                  rw [hst2]
                  exact (hR3.app _).setE _
              · have hm2 : ¬ o.f ∈ lvs l l.length := hm
                rw [decide_eq_false hm2]
                rw [if_pos hm] at hst2
                repeat' first | simp (disch := first | with_reducible assumption | omega) only [go_sem, Bool.true_and, Bool.and_true, Bool.and_self, Bool.false_and, Bool.and_false, Bool.true_or, Bool.or_true, Bool.false_or, Bool.or_false, ↓reduceIte, Nat.reduceEqDiff, Nat.reduceAdd, Nat.reduceMul, Nat.reduceSub, Nat.reduceBEq, Nat.reduceLeDiff, Nat.reduceLT, Nat.reduceMod, Nat.reduceDiv, Int.reduceToNat, Int.reducePow, Int.reduceMul, Int.reduceAdd, Int.reduceSub, Int.reduceLE, Int.reduceLT, Int.reduceNeg, Int.reduceDiv, Int.reduceMod, Int.reduceEq, Int.reduceBEq, Int.reduceBNe, f7, f7b, f7r0, f7r1, f7r2, f7r3, f7r4, f7r5, f7r6, f7r7, f7r8, f7r9, f7r10, f7r11, f7r12, f7r13, f7r14, f7r16, f7r17, f7r18, f7r19, f7r20, f7r21, f7r22, f7r23, f7r24, f7r25, f7r26, f7r27, f7r28, f7r29, f7r30, f7r31, f7r32, f7r33, f7r34, f7r35, f7r37, f7r38, f7r39, f7r40, f7r41, f7r42, f7r44, get_old he', ic, it, isn, hni] | (refine BrW.of (fun hb => ?_) (fun hb => ?_) <;> (have hb' := hb; try simp only [decide_eq_true_eq, decide_eq_false_iff_not, beq_iff_eq, bne_iff_ne, beq_eq_false_iff_ne, bne_eq_false_iff_eq, Bool.not_eq_true', Bool.not_eq_false', Bool.not_eq_true, Bool.not_eq_false, Bool.and_eq_true, Bool.or_eq_true, Bool.and_eq_false_iff, Bool.or_eq_false_iff, Int.not_lt, Int.not_le, ne_eq, gt_iff_lt, ge_iff_le] at hb') <;> (try (exfalso; omega))) | (refine altW.of ?_ ?_)
                refine RdW.keep [8, 10, 14, 15, 89, 90, 91] (ops.length - (i + 1)) (by omega) ?_
                simp (disch := first | with_reducible assumption | omega) only [go_sem, Bool.true_and, Bool.and_true, Bool.and_self, Bool.false_and, Bool.and_false, Bool.true_or, Bool.or_true, Bool.false_or, Bool.or_false, ↓reduceIte, Nat.reduceEqDiff, Nat.reduceAdd, Nat.reduceMul, Nat.reduceSub, Nat.reduceBEq, Nat.reduceLeDiff, Nat.reduceLT, Nat.reduceMod, Nat.reduceDiv, Int.reduceToNat, Int.reducePow, Int.reduceMul, Int.reduceAdd, Int.reduceSub, Int.reduceLE, Int.reduceLT, Int.reduceNeg, Int.reduceDiv, Int.reduceMod, Int.reduceEq, Int.reduceBEq, Int.reduceBNe]
                refine ⟨i + 1, ge + 1, gt, by rw [hst2]; simp, ?_, by omega, rfl⟩
                rw [hst2]
                exact (hR.app _).setE _
            · rw [if_pos h1] at hst2
              repeat' first | simp (disch := first | with_reducible assumption | omega) only [go_sem, Bool.true_and, Bool.and_true, Bool.and_self, Bool.false_and, Bool.and_false, Bool.true_or, Bool.or_true, Bool.false_or, Bool.or_false, ↓reduceIte, Nat.reduceEqDiff, Nat.reduceAdd, Nat.reduceMul, Nat.reduceSub, Nat.reduceBEq, Nat.reduceLeDiff, Nat.reduceLT, Nat.reduceMod, Nat.reduceDiv, Int.reduceToNat, Int.reducePow, Int.reduceMul, Int.reduceAdd, Int.reduceSub, Int.reduceLE, Int.reduceLT, Int.reduceNeg, Int.reduceDiv, Int.reduceMod, Int.reduceEq, Int.reduceBEq, Int.reduceBNe, f7, f7b, f7r0, f7r1, f7r2, f7r3, f7r4, f7r5, f7r6, f7r7, f7r8, f7r9, f7r10, f7r11, f7r12, f7r13, f7r14, f7r16, f7r17, f7r18, f7r19, f7r20, f7r21, f7r22, f7r23, f7r24, f7r25, f7r26, f7r27, f7r28, f7r29, f7r30, f7r31, f7r32, f7r33, f7r34, f7r35, f7r37, f7r38, f7r39, f7r40, f7r41, f7r42, f7r44, f7l1, hkoZ, get_old hkoZ, y0, y1, y2, get_old he', ic, it, isn, hni] | (refine BrW.of (fun hb => ?_) (fun hb => ?_) <;> (have hb' := hb; try simp only [decide_eq_true_eq, decide_eq_false_iff_not, beq_iff_eq, bne_iff_ne, beq_eq_false_iff_ne, bne_eq_false_iff_eq, Bool.not_eq_true', Bool.not_eq_false', Bool.not_eq_true, Bool.not_eq_false, Bool.and_eq_true, Bool.or_eq_true, Bool.and_eq_false_iff, Bool.or_eq_false_iff, Int.not_lt, Int.not_le, ne_eq, gt_iff_lt, ge_iff_le] at hb') <;> (try (exfalso; omega))) | (refine altW.of ?_ ?_)
              refine RdW.keep [8, 10, 14, 15, 89, 90, 91] (ops.length - (i + 1)) (by omega) ?_
              simp (disch := first | with_reducible assumption | omega) only [go_sem, Bool.true_and, Bool.and_true, Bool.and_self, Bool.false_and, Bool.and_false, Bool.true_or, Bool.or_true, Bool.false_or, Bool.or_false, ↓reduceIte, Nat.reduceEqDiff, Nat.reduceAdd, Nat.reduceMul, Nat.reduceSub, Nat.reduceBEq, Nat.reduceLeDiff, Nat.reduceLT, Nat.reduceMod, Nat.reduceDiv, Int.reduceToNat, Int.reducePow, Int.reduceMul, Int.reduceAdd, Int.reduceSub, Int.reduceLE, Int.reduceLT, Int.reduceNeg, Int.reduceDiv, Int.reduceMod, Int.reduceEq, Int.reduceBEq, Int.reduceBNe]
              refine ⟨i + 1, ge + 1, gt, by rw [hst2]; simp, ?_, by omega, rfl⟩
              rw [hst2]
              exact (hR.app _).setE _
        · obtain rfl : i = ops.length := by omega
          have hri := run_ri h0 ops ops.length (Nat.le_refl _)
          rw [List.take_length] at hR hri ⊢
          generalize hr : runH l ops = r at *
          obtain ⟨wv, hW⟩ := hR.wk
          have hZB := hW.box
          have hZF := hW.st
          have hel := hri.el
          have hZl := hR.len
          repeat' first | simp (disch := first | with_reducible assumption | omega) only [go_sem, Bool.true_and, Bool.and_true, Bool.and_self, Bool.false_and, Bool.and_false, Bool.true_or, Bool.or_true, Bool.false_or, Bool.or_false, ↓reduceIte, Nat.reduceEqDiff, Nat.reduceAdd, Nat.reduceMul, Nat.reduceSub, Nat.reduceBEq, Nat.reduceLeDiff, Nat.reduceLT, Nat.reduceMod, Nat.reduceDiv, Int.reduceToNat, Int.reducePow, Int.reduceMul, Int.reduceAdd, Int.reduceSub, Int.reduceLE, Int.reduceLT, Int.reduceNeg, Int.reduceDiv, Int.reduceMod, Int.reduceEq, Int.reduceBEq, Int.reduceBNe, f7, f7b, f7r0, f7r1, f7r2, f7r3, f7r4, f7r5, f7r6, f7r7, f7r8, f7r9, f7r10, f7r11, f7r12, f7r13, f7r14, f7r16, f7r17, f7r18, f7r19, f7r20, f7r21, f7r22, f7r23, f7r24, f7r25, f7r26, f7r27, f7r28, f7r29, f7r30, f7r31, f7r32, f7r33, f7r34, f7r35, f7r37, f7r38, f7r39, f7r40, f7r41, f7r42, f7r44, f7l1, f7, f7b, f7r0, f7r1, f7r2, f7r3, f7r4, f7r5, f7r6, f7r7, f7r8, f7r9, f7r10, f7r11, f7r12, f7r13, f7r14, f7r16, f7r17, f7r18, f7r19, f7r20, f7r21, f7r22, f7r23, f7r24, f7r25, f7r26, f7r27, f7r28, f7r29, f7r30, f7r31, f7r32, f7r33, f7r34, f7r35, f7r37, f7r38, f7r39, f7r40, f7r41, f7r42, f7r44, hZB, hZF, cN_len] | (refine BrW.of (fun hb => ?_) (fun hb => ?_) <;> (have hb' := hb; try simp only [decide_eq_true_eq, decide_eq_false_iff_not, beq_iff_eq, bne_iff_ne, beq_eq_false_iff_ne, bne_eq_false_iff_eq, Bool.not_eq_true', Bool.not_eq_false', Bool.not_eq_true, Bool.not_eq_false, Bool.and_eq_true, Bool.or_eq_true, Bool.and_eq_false_iff, Bool.or_eq_false_iff, Int.not_lt, Int.not_le, ne_eq, gt_iff_lt, ge_iff_le] at hb') <;> (try (exfalso; omega))) | (refine altW.of ?_ ?_)
          refine loopW.ghost 21 1 rfl ?_
          simp (disch := first | with_reducible assumption | omega) only [go_sem, Bool.true_and, Bool.and_true, Bool.and_self, Bool.false_and, Bool.and_false, Bool.true_or, Bool.or_true, Bool.false_or, Bool.or_false, ↓reduceIte, Nat.reduceEqDiff, Nat.reduceAdd, Nat.reduceMul, Nat.reduceSub, Nat.reduceBEq, Nat.reduceLeDiff, Nat.reduceLT, Nat.reduceMod, Nat.reduceDiv, Int.reduceToNat, Int.reducePow, Int.reduceMul, Int.reduceAdd, Int.reduceSub, Int.reduceLE, Int.reduceLT, Int.reduceNeg, Int.reduceDiv, Int.reduceMod, Int.reduceEq, Int.reduceBEq, Int.reduceBNe]
          have hqs : ∀ i, i < l.length → ((List.range l.length).map fun k => ((r.q k).length : Int)).take (i + 1) = ((List.range l.length).map fun k => ((r.q k).length : Int)).take i ++ [((r.q i).length : Int)] := fun i hi => by
            rw [take_snoc 0 _ i (by simpa using hi)]
            congr 2
            simp [List.getD_eq_getElem?_getD, hi]
          have hqll : ((List.range l.length).map fun k => ((r.q k).length : Int)).length = l.length := by simp
          generalize hqe : ((List.range l.length).map fun k => ((r.q k).length : Int)) = qs at *
          refine loopW.of (by decide) (fun m e Z' => ∃ (i g : Nat) (x : Heap), e = [(14, slv J.length 0 ge ops.length ops.length), (15, slv (J.length + 1) 0 gt r.sent.length r.sent.length), (21, slv Z.length 0 g i i), (147, slv (H1.length + 3) 0 gF l.length l.length), (148, .int .i64 l.length), (149, .int .i64 i)] ∧
            Z' = Z ++ (.cells g 1 false (ints (qs.take i)) :: x) ∧ i ≤ l.length ∧ m = l.length - i) l.length ⟨0, 0, [], rfl, by simp [ints_nil], by omega, rfl⟩ ?_
          rintro m e Z' ⟨i, g3, x, rfl, rfl, hi2, rfl⟩
          by_cases hlt2 : i < l.length
          · have hql := hri.ql i
            have ld := cN_ld l.length r.S kv wv i hlt2
            have ic := ints_length (qs.take i)
            have it := ints_take (qs.take i) i (by rw [List.length_take]; omega)
            have isn := ints_snoc (qs.take i) ((r.q i).length : Int)
            have hqi := hqs i hlt2
            rw [List.length_take, Nat.min_eq_left (by omega)] at ic
            have hni : ¬ i + 1 ≤ i := by omega
            obtain ⟨q', o', g', cs', hX⟩ := hW.own
            have hat := hX.at' i hlt2
            clear hX hqs
            rw [← hqi] at isn
            generalize hX2 : ints (qs.take (i + 1)) = X2 at *
            clear hqi
            generalize ints (qs.take i) = X1 at *
            simp only [Rw.cells] at ld
            generalize hy : r.q i = y at *
            rcases hat with ⟨hv, rfl⟩ | ⟨hv, hqP, hQ, hd, ho⟩
            · rw [hv] at ld
              have isn2 : X1 ++ [.int .i64 0] = X2 := isn
              repeat' first | simp (disch := first | with_reducible assumption | omega) only [go_sem, Bool.true_and, Bool.and_true, Bool.and_self, Bool.false_and, Bool.and_false, Bool.true_or, Bool.or_true, Bool.false_or, Bool.or_false, ↓reduceIte, Nat.reduceEqDiff, Nat.reduceAdd, Nat.reduceMul, Nat.reduceSub, Nat.reduceBEq, Nat.reduceLeDiff, Nat.reduceLT, Nat.reduceMod, Nat.reduceDiv, Int.reduceToNat, Int.reducePow, Int.reduceMul, Int.reduceAdd, Int.reduceSub, Int.reduceLE, Int.reduceLT, Int.reduceNeg, Int.reduceDiv, Int.reduceMod, Int.reduceEq, Int.reduceBEq, Int.reduceBNe, f7, f7b, f7r0, f7r1, f7r2, f7r3, f7r4, f7r5, f7r6, f7r7, f7r8, f7r9, f7r10, f7r11, f7r12, f7r13, f7r14, f7r16, f7r17, f7r18, f7r19, f7r20, f7r21, f7r22, f7r23, f7r24, f7r25, f7r26, f7r27, f7r28, f7r29, f7r30, f7r31, f7r32, f7r33, f7r34, f7r35, f7r37, f7r38, f7r39, f7r40, f7r41, f7r42, f7r44, f7l2, get_old hZF, ↓ld, ic, it, isn2, hni, cN_len] | (refine BrW.of (fun hb => ?_) (fun hb => ?_) <;> (have hb' := hb; try simp only [decide_eq_true_eq, decide_eq_false_iff_not, beq_iff_eq, bne_iff_ne, beq_eq_false_iff_ne, bne_eq_false_iff_eq, Bool.not_eq_true', Bool.not_eq_false', Bool.not_eq_true, Bool.not_eq_false, Bool.and_eq_true, Bool.or_eq_true, Bool.and_eq_false_iff, Bool.or_eq_false_iff, Int.not_lt, Int.not_le, ne_eq, gt_iff_lt, ge_iff_le] at hb') <;> (try (exfalso; omega))) | (refine altW.of ?_ ?_)
              refine RdW.keep [14, 15, 21, 147, 148, 149] (l.length - (i + 1)) (by omega) ?_
              simp (disch := first | with_reducible assumption | omega) only [go_sem, Bool.true_and, Bool.and_true, Bool.and_self, Bool.false_and, Bool.and_false, Bool.true_or, Bool.or_true, Bool.false_or, Bool.or_false, ↓reduceIte, Nat.reduceEqDiff, Nat.reduceAdd, Nat.reduceMul, Nat.reduceSub, Nat.reduceBEq, Nat.reduceLeDiff, Nat.reduceLT, Nat.reduceMod, Nat.reduceDiv, Int.reduceToNat, Int.reducePow, Int.reduceMul, Int.reduceAdd, Int.reduceSub, Int.reduceLE, Int.reduceLT, Int.reduceNeg, Int.reduceDiv, Int.reduceMod, Int.reduceEq, Int.reduceBEq, Int.reduceBNe]
              exact ⟨i + 1, g3 + 1, _, rfl, by rw [hX2], by omega, rfl⟩
            · rw [hv] at ld
              repeat' first | simp (disch := first | with_reducible assumption | omega) only [go_sem, Bool.true_and, Bool.and_true, Bool.and_self, Bool.false_and, Bool.and_false, Bool.true_or, Bool.or_true, Bool.false_or, Bool.or_false, ↓reduceIte, Nat.reduceEqDiff, Nat.reduceAdd, Nat.reduceMul, Nat.reduceSub, Nat.reduceBEq, Nat.reduceLeDiff, Nat.reduceLT, Nat.reduceMod, Nat.reduceDiv, Int.reduceToNat, Int.reducePow, Int.reduceMul, Int.reduceAdd, Int.reduceSub, Int.reduceLE, Int.reduceLT, Int.reduceNeg, Int.reduceDiv, Int.reduceMod, Int.reduceEq, Int.reduceBEq, Int.reduceBNe, f7, f7b, f7r0, f7r1, f7r2, f7r3, f7r4, f7r5, f7r6, f7r7, f7r8, f7r9, f7r10, f7r11, f7r12, f7r13, f7r14, f7r16, f7r17, f7r18, f7r19, f7r20, f7r21, f7r22, f7r23, f7r24, f7r25, f7r26, f7r27, f7r28, f7r29, f7r30, f7r31, f7r32, f7r33, f7r34, f7r35, f7r37, f7r38, f7r39, f7r40, f7r41, f7r42, f7r44, f7l2, get_old hZF, ↓ld, ic, it, isn, hni, get_old hQ, cN_len] | (refine BrW.of (fun hb => ?_) (fun hb => ?_) <;> (have hb' := hb; try simp only [decide_eq_true_eq, decide_eq_false_iff_not, beq_iff_eq, bne_iff_ne, beq_eq_false_iff_ne, bne_eq_false_iff_eq, Bool.not_eq_true', Bool.not_eq_false', Bool.not_eq_true, Bool.not_eq_false, Bool.and_eq_true, Bool.or_eq_true, Bool.and_eq_false_iff, Bool.or_eq_false_iff, Int.not_lt, Int.not_le, ne_eq, gt_iff_lt, ge_iff_le] at hb') <;> (try (exfalso; omega))) | (refine altW.of ?_ ?_)
              refine RdW.keep [14, 15, 21, 147, 148, 149] (l.length - (i + 1)) (by omega) ?_
              simp (disch := first | with_reducible assumption | omega) only [go_sem, Bool.true_and, Bool.and_true, Bool.and_self, Bool.false_and, Bool.and_false, Bool.true_or, Bool.or_true, Bool.false_or, Bool.or_false, ↓reduceIte, Nat.reduceEqDiff, Nat.reduceAdd, Nat.reduceMul, Nat.reduceSub, Nat.reduceBEq, Nat.reduceLeDiff, Nat.reduceLT, Nat.reduceMod, Nat.reduceDiv, Int.reduceToNat, Int.reducePow, Int.reduceMul, Int.reduceAdd, Int.reduceSub, Int.reduceLE, Int.reduceLT, Int.reduceNeg, Int.reduceDiv, Int.reduceMod, Int.reduceEq, Int.reduceBEq, Int.reduceBNe]
              exact ⟨i + 1, g3 + 1, _, rfl, by rw [hX2], by omega, rfl⟩
          · obtain rfl : i = l.length := by omega
            repeat' first | simp (disch := first | with_reducible assumption | omega) only [go_sem, Bool.true_and, Bool.and_true, Bool.and_self, Bool.false_and, Bool.and_false, Bool.true_or, Bool.or_true, Bool.false_or, Bool.or_false, ↓reduceIte, Nat.reduceEqDiff, Nat.reduceAdd, Nat.reduceMul, Nat.reduceSub, Nat.reduceBEq, Nat.reduceLeDiff, Nat.reduceLT, Nat.reduceMod, Nat.reduceDiv, Int.reduceToNat, Int.reducePow, Int.reduceMul, Int.reduceAdd, Int.reduceSub, Int.reduceLE, Int.reduceLT, Int.reduceNeg, Int.reduceDiv, Int.reduceMod, Int.reduceEq, Int.reduceBEq, Int.reduceBNe, f7, f7b, f7r0, f7r1, f7r2, f7r3, f7r4, f7r5, f7r6, f7r7, f7r8, f7r9, f7r10, f7r11, f7r12, f7r13, f7r14, f7r16, f7r17, f7r18, f7r19, f7r20, f7r21, f7r22, f7r23, f7r24, f7r25, f7r26, f7r27, f7r28, f7r29, f7r30, f7r31, f7r32, f7r33, f7r34, f7r35, f7r37, f7r38, f7r39, f7r40, f7r41, f7r42, f7r44, f7l2, f7, f7b, f7r0, f7r1, f7r2, f7r3, f7r4, f7r5, f7r6, f7r7, f7r8, f7r9, f7r10, f7r11, f7r12, f7r13, f7r14, f7r16, f7r17, f7r18, f7r19, f7r20, f7r21, f7r22, f7r23, f7r24, f7r25, f7r26, f7r27, f7r28, f7r29, f7r30, f7r31, f7r32, f7r33, f7r34, f7r35, f7r37, f7r38, f7r39, f7r40, f7r41, f7r42, f7r44] | (refine BrW.of (fun hb => ?_) (fun hb => ?_) <;> (have hb' := hb; try simp only [decide_eq_true_eq, decide_eq_false_iff_not, beq_iff_eq, bne_iff_ne, beq_eq_false_iff_ne, bne_eq_false_iff_eq, Bool.not_eq_true', Bool.not_eq_false', Bool.not_eq_true, Bool.not_eq_false, Bool.and_eq_true, Bool.or_eq_true, Bool.and_eq_false_iff, Bool.or_eq_false_iff, Int.not_lt, Int.not_le, ne_eq, gt_iff_lt, ge_iff_le] at hb') <;> (try (exfalso; omega))) | (refine altW.of ?_ ?_)
            have hRe := hR.e
            have hRt := hR.t
            have hle : Le H1 (Z ++ .cells g3 1 false (ints (qs.take l.length)) :: x) := le_of (by simp; omega) fun j hj => (get_app (by omega) _).trans ((hR.old j (by omega) (by omega)).trans (hJo j hj))
            rw [List.take_of_length_le (by omega)] at hle ⊢
            rw [← hqll]
            refine .here ⟨_, _, _, 0, rfl, hLe.trans hle, ⟨fun _ => ⟨h0, h400⟩, fun _ => rfl⟩, fun h => absurd rfl h, fun _ => ⟨?_, ?_, ?_⟩⟩
            · have := IsT.of (A := fun _ => True) (c := ops.length) trivial (Tbl.new (enc := ienc) (s := 1) (d := 0) (fun _ => rfl) (Z ++ .cells g3 1 false (ints qs) :: x) J.length ge false r.errs (by rw [flat'_ienc]; exact get_old hRe _)) (by omega)
              rw [hel] at this
              exact this
            · exact IsT.of (A := fun _ => True) trivial (Tbl.new (enc := S.cells) (s := 2) (d := s0) (fun _ => rfl) (Z ++ .cells g3 1 false (ints qs) :: x) (J.length + 1) gt false _ (get_old hRt _)) (Nat.le_refl _)
            · exact IsT.of (A := fun _ => True) trivial (Tbl.new (enc := ienc) (s := 1) (d := 0) (fun _ => rfl) (Z ++ .cells g3 1 false (ints qs) :: x) Z.length g3 false qs (by rw [flat'_ienc, get_new0])) (Nat.le_refl _)
    · repeat' first | simp (disch := first | with_reducible assumption | omega) only [go_sem, Bool.true_and, Bool.and_true, Bool.and_self, Bool.false_and, Bool.and_false, Bool.true_or, Bool.or_true, Bool.false_or, Bool.or_false, ↓reduceIte, Nat.reduceEqDiff, Nat.reduceAdd, Nat.reduceMul, Nat.reduceSub, Nat.reduceBEq, Nat.reduceLeDiff, Nat.reduceLT, Nat.reduceMod, Nat.reduceDiv, Int.reduceToNat, Int.reducePow, Int.reduceMul, Int.reduceAdd, Int.reduceSub, Int.reduceLE, Int.reduceLT, Int.reduceNeg, Int.reduceDiv, Int.reduceMod, Int.reduceEq, Int.reduceBEq, Int.reduceBNe, f7, f7b, f7r0, f7r1, f7r2, f7r3, f7r4, f7r5, f7r6, f7r7, f7r8, f7r9, f7r10, f7r11, f7r12, f7r13, f7r14, f7r16, f7r17, f7r18, f7r19, f7r20, f7r21, f7r22, f7r23, f7r24, f7r25, f7r26, f7r27, f7r28, f7r29, f7r30, f7r31, f7r32, f7r33, f7r34, f7r35, f7r37, f7r38, f7r39, f7r40, f7r41, f7r42, f7r44, hk1, hko1, get_old hk1] | (refine BrW.of (fun hb => ?_) (fun hb => ?_) <;> (have hb' := hb; try simp only [decide_eq_true_eq, decide_eq_false_iff_not, beq_iff_eq, bne_iff_ne, beq_eq_false_iff_ne, bne_eq_false_iff_eq, Bool.not_eq_true', Bool.not_eq_false', Bool.not_eq_true, Bool.not_eq_false, Bool.and_eq_true, Bool.or_eq_true, Bool.and_eq_false_iff, Bool.or_eq_false_iff, Int.not_lt, Int.not_le, ne_eq, gt_iff_lt, ge_iff_le] at hb') <;> (try (exfalso; omega))) | (refine altW.of ?_ ?_)
      all_goals first | (exfalso; omega) | exact .here ⟨_, _, _, 2, rfl, hLe, ⟨fun h => by omega, fun h => absurd h.2 h400⟩, fun _ => rfl, fun h => by omega⟩
  · have hne : ¬ e = 0 := fun h => h0 (he.1 h)
    have hne2 : (e != 0) = true := by simpa using hne
    repeat' first | simp (disch := first | with_reducible assumption | omega) only [go_sem, Bool.true_and, Bool.and_true, Bool.and_self, Bool.false_and, Bool.and_false, Bool.true_or, Bool.or_true, Bool.false_or, Bool.or_false, ↓reduceIte, Nat.reduceEqDiff, Nat.reduceAdd, Nat.reduceMul, Nat.reduceSub, Nat.reduceBEq, Nat.reduceLeDiff, Nat.reduceLT, Nat.reduceMod, Nat.reduceDiv, Int.reduceToNat, Int.reducePow, Int.reduceMul, Int.reduceAdd, Int.reduceSub, Int.reduceLE, Int.reduceLT, Int.reduceNeg, Int.reduceDiv, Int.reduceMod, Int.reduceEq, Int.reduceBEq, Int.reduceBNe, f7, f7b, f7r0, f7r1, f7r2, f7r3, f7r4, f7r5, f7r6, f7r7, f7r8, f7r9, f7r10, f7r11, f7r12, f7r13, f7r14, f7r16, f7r17, f7r18, f7r19, f7r20, f7r21, f7r22, f7r23, f7r24, f7r25, f7r26, f7r27, f7r28, f7r29, f7r30, f7r31, f7r32, f7r33, f7r34, f7r35, f7r37, f7r38, f7r39, f7r40, f7r41, f7r42, f7r44, hk, hko, hne2] | (refine BrW.of (fun hb => ?_) (fun hb => ?_) <;> (have hb' := hb; try simp only [decide_eq_true_eq, decide_eq_false_iff_not, beq_iff_eq, bne_iff_ne, beq_eq_false_iff_ne, bne_eq_false_iff_eq, Bool.not_eq_true', Bool.not_eq_false', Bool.not_eq_true, Bool.not_eq_false, Bool.and_eq_true, Bool.or_eq_true, Bool.and_eq_false_iff, Bool.or_eq_false_iff, Int.not_lt, Int.not_le, ne_eq, gt_iff_lt, ge_iff_le] at hb') <;> (try (exfalso; omega))) | (refine altW.of ?_ ?_)
    exact .here ⟨_, _, _, e, rfl, ⟨X, hH1⟩, ⟨fun h => absurd h hne, fun h => absurd h.1 h0⟩, fun _ => rfl, fun h => absurd h hne⟩
end Go.Proofs.Ytknfaoonjmlncaa
