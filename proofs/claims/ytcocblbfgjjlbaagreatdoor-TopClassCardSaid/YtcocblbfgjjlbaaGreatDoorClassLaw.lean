import Derived.Test.YtcocblbfgjjlbaaGreatDoorTrPlain
import Derived.Test.YtcocblbfgjjlbaaGreatDoorSrF
import Derived.Test.YtcocblbfgjjlbaaGreatDoorHmB
import Derived.Test.YtcocblbfgjjlbaaGreatDoorRuA
import Derived.Test.YtcocblbfgjjlbaaGreatDoorAlive
import Derived.Test.YtcocblbfgjjlbaaGreatDoorBase
/- the plain law: rules by destination, longest first, say what a tree of prefixes says -/
set_option linter.unusedVariables false
namespace Go.Proofs.YtcocblbfgjjlbaaGreatDoor

def ruleP (p : Tr.Px) : Ru.R := ⟨⟨0, 0, 0, 0⟩, p.ad, 0, p.bits, 0, 0, 65535, p.to⟩
theorem fits_ruleP (p : Tr.Px) (x : Ru.D) (hx : 0 ≤ x.dp ∧ x.dp ≤ 65535) : Ru.fits (ruleP p) x = decide (within x.dst p.ad p.bits) := by
  unfold Ru.fits ruleP
  simp only
  have h0 : within x.src ⟨0, 0, 0, 0⟩ 0 := within.zero _ _
  by_cases h : within x.dst p.ad p.bits
  · simp only [h0, h, true_and, decide_true, true_or, decide_eq_true_eq]; omega
  · simp only [h, false_and, and_false]
theorem first_ruleP (x : Ru.D) (hx : 0 ≤ x.dp ∧ x.dp ≤ 65535) (S : List Tr.Px) : Ru.first (S.map ruleP) x = (S.find? fun p => decide (within x.dst p.ad p.bits)).map ruleP := by
  unfold Ru.first
  rw [List.find?_map]
  congr 2
  funext p
  exact fits_ruleP p x hx
theorem wrong_ruleP {S : List Tr.Px} (hl : S.length ≤ 400) (hb : ∀ p ∈ S, okb p) (ht : ∀ p ∈ S, 0 ≤ p.to ∧ p.to < 16) : Ru.wrong (S.map ruleP) = false := by
  unfold Ru.wrong
  rw [Bool.or_eq_false_iff]
  refine ⟨by simpa using hl, ?_⟩
  rw [List.any_eq_false]
  intro r hr
  obtain ⟨p, hp, rfl⟩ := List.mem_map.1 hr
  have h1 := hb p hp
  have h2 := ht p hp
  unfold okb at h1
  unfold Ru.badR ruleP
  simp only [decide_eq_true_eq]
  omega
/-- The first that fits is the longest. -/
theorem first_longest {S : List Tr.Px} (hs : srt Tr.p0 ltB S 0 S.length) {a : A} {p : Tr.Px} (h : (S.find? fun p => decide (within a p.ad p.bits)) = some p) : p ∈ S ∧ within a p.ad p.bits ∧ ∀ y ∈ S, within a y.ad y.bits → y.bits ≤ p.bits := by
  obtain ⟨h1, us, vs, rfl, h2⟩ := List.find?_eq_some_iff_append.1 h
  refine ⟨by simp, by simpa using h1, fun y hy hw => ?_⟩
  rcases List.mem_append.1 hy with hy | hy
  · have := h2 y hy
    simp [hw] at this
  · rcases List.mem_cons.1 hy with rfl | hy
    · exact Int.le_refl _
    · obtain ⟨j, hj, rfl⟩ := List.getElem_of_mem hy
      have := hs us.length (us.length + 1 + j) (by omega) (by omega) (by simp; omega)
      have e1 : (us ++ p :: vs).getD us.length Tr.p0 = p := by simp [List.getD_eq_getElem?_getD]
      have e2 : (us ++ p :: vs).getD (us.length + 1 + j) Tr.p0 = vs[j] := by
        rw [List.getD_eq_getElem?_getD, List.getElem?_append_right (by omega), show us.length + 1 + j - us.length = j + 1 by omega]
        simp [hj]
      rw [e1, e2] at this
      unfold ltB at this
      simp at this
      exact this
theorem class_find {l S : List Tr.Px} (hf : Tr.Fine l) (hok : ∀ x ∈ l, x.ad.ok) (hp : S.Perm l) (hs : srt Tr.p0 ltB S 0 S.length) (ht : ∀ p ∈ S, 0 ≤ p.to ∧ p.to < 16) (x : Ru.D) (hx : 0 ≤ x.dp ∧ x.dp ≤ 65535) :
    Ru.cls (S.map ruleP) x = match Tr.found l x.dst 32 with | some t => (t, 0) | none => (0, 3) := by
  have hb : ∀ p ∈ S, okb p := fun p hp' => by
    have := hf.long p (hp.mem_iff.1 hp')
    unfold Tr.longP at this
    unfold okb
    omega
  have hw := wrong_ruleP (by rw [hp.length_eq]; exact hf.len) hb ht
  unfold Ru.cls
  rw [hw, if_neg (by decide), first_ruleP x hx]
  rcases Tr.found_spec hf hok x.dst 32 (by omega) with ⟨h1, h2⟩ | ⟨q, hq, h1, h2, h3, h4⟩
  · rw [h1]
    have : (S.find? fun p => decide (within x.dst p.ad p.bits)) = none := List.find?_eq_none.2 fun p hp' => by
      have := hb p hp'
      unfold okb at this
      simpa using h2 p (hp.mem_iff.1 hp') (by omega)
    rw [this]; rfl
  · rw [h1]
    cases hfd : S.find? fun p => decide (within x.dst p.ad p.bits) with
    | none =>
      have := List.find?_eq_none.1 hfd q (hp.mem_iff.2 hq)
      simp [h2] at this
    | some p =>
      obtain ⟨g1, g2, g3⟩ := first_longest hs hfd
      have gb := hb p g1
      have qb := hb q (hp.mem_iff.2 hq)
      unfold okb at gb qb
      have k1 := g3 q (hp.mem_iff.2 hq) h2
      have k2 := h4 p (hp.mem_iff.1 g1) (by omega) g2
      have e : p.bits = q.bits := by omega
      have hpq : p.path = q.path := by
        have a1 := (Tr.path_within hf (hp.mem_iff.1 g1) (a := x.dst) (k := p.bits.toNat) (by omega)).2 ⟨by omega, g2⟩
        have a2 := (Tr.path_within hf hq (a := x.dst) (k := p.bits.toNat) (by omega)).2 ⟨by omega, h2⟩
        rw [a1, a2]
      rw [Tr.path_one hf hok (hp.mem_iff.1 g1) hq hpq]
      rfl
end Go.Proofs.YtcocblbfgjjlbaaGreatDoor
set_option linter.unusedSimpArgs false
set_option linter.unusedVariables false
set_option maxHeartbeats 4000000
set_option maxRecDepth 20000
namespace Go.Proofs.YtcocblbfgjjlbaaGreatDoor
open Go Go.Am
attribute [local irreducible] opsW Ww loopW callW drawW outW outDW gW cW BrW bothW vW resW DropW RdW dcallW altW forkW splitW Later.run

theorem u8_range {n : Int} (h : IntKind.u8.min ≤ n ∧ n ≤ IntKind.u8.max) : 0 ≤ n ∧ n ≤ 255 := h
theorem pxOf {B : Nat} {H : Heap} {cs : List Value} (h : RowOk B H [.int .u8, .int .u8, .int .u8, .int .u8, .int .i64, .int .i64] cs) : ∃ r : Tr.Px, cs = r.cells ∧ r.ad.ok := by
  obtain ⟨_, _, rfl, c0, h⟩ := h.cons_inv
  obtain ⟨_, _, rfl, c1, h⟩ := h.cons_inv
  obtain ⟨_, _, rfl, c2, h⟩ := h.cons_inv
  obtain ⟨_, _, rfl, c3, h⟩ := h.cons_inv
  obtain ⟨_, _, rfl, c4, h⟩ := h.cons_inv
  obtain ⟨_, _, rfl, c5, h⟩ := h.cons_inv
  obtain rfl := h.nil_inv
  obtain ⟨n0, rfl, h0⟩ := c0.int_inv
  obtain ⟨n1, rfl, h1⟩ := c1.int_inv
  obtain ⟨n2, rfl, h2⟩ := c2.int_inv
  obtain ⟨n3, rfl, h3⟩ := c3.int_inv
  obtain ⟨n4, rfl, _⟩ := c4.int_inv
  obtain ⟨n5, rfl, _⟩ := c5.int_inv
  exact ⟨⟨⟨n0, n1, n2, n3⟩, n4, n5⟩, rfl, u8_range h0, u8_range h1, u8_range h2, u8_range h3⟩

theorem hdOf {B : Nat} {H : Heap} {v : Value} (h : ArgOk B H (true, [.int .u8, .int .u8, .int .u8, .int .u8, .int .u8, .int .u8, .int .u8, .int .u8, .int .i64, .int .i64, .int .i64, .int .i64, .int .i64]) v) : ∃ r : Hm.Hd, v = r.val ∧ r.ok := by
  obtain ⟨_, rfl, hr⟩ := h.agg
  obtain ⟨_, _, rfl, c0, hr⟩ := hr.cons_inv
  obtain ⟨_, _, rfl, c1, hr⟩ := hr.cons_inv
  obtain ⟨_, _, rfl, c2, hr⟩ := hr.cons_inv
  obtain ⟨_, _, rfl, c3, hr⟩ := hr.cons_inv
  obtain ⟨_, _, rfl, c4, hr⟩ := hr.cons_inv
  obtain ⟨_, _, rfl, c5, hr⟩ := hr.cons_inv
  obtain ⟨_, _, rfl, c6, hr⟩ := hr.cons_inv
  obtain ⟨_, _, rfl, c7, hr⟩ := hr.cons_inv
  obtain ⟨_, _, rfl, c8, hr⟩ := hr.cons_inv
  obtain ⟨_, _, rfl, c9, hr⟩ := hr.cons_inv
  obtain ⟨_, _, rfl, c10, hr⟩ := hr.cons_inv
  obtain ⟨_, _, rfl, c11, hr⟩ := hr.cons_inv
  obtain ⟨_, _, rfl, c12, hr⟩ := hr.cons_inv
  obtain rfl := hr.nil_inv
  obtain ⟨n0, rfl, h0⟩ := c0.int_inv
  obtain ⟨n1, rfl, h1⟩ := c1.int_inv
  obtain ⟨n2, rfl, h2⟩ := c2.int_inv
  obtain ⟨n3, rfl, h3⟩ := c3.int_inv
  obtain ⟨n4, rfl, h4⟩ := c4.int_inv
  obtain ⟨n5, rfl, h5⟩ := c5.int_inv
  obtain ⟨n6, rfl, h6⟩ := c6.int_inv
  obtain ⟨n7, rfl, h7⟩ := c7.int_inv
  obtain ⟨n8, rfl, _⟩ := c8.int_inv
  obtain ⟨n9, rfl, _⟩ := c9.int_inv
  obtain ⟨n10, rfl, _⟩ := c10.int_inv
  obtain ⟨n11, rfl, _⟩ := c11.int_inv
  obtain ⟨n12, rfl, _⟩ := c12.int_inv
  exact ⟨⟨n0, n1, n2, n3, n4, n5, n6, n7, n8, n9, n10, n11, n12⟩, rfl, u8_range h0, u8_range h1, u8_range h2, u8_range h3, u8_range h4, u8_range h5, u8_range h6, u8_range h7⟩
/-- A head, as rules see it. -/
def toD (h : Hm.Hd) : Ru.D := ⟨⟨h.s0, h.s1, h.s2, h.s3⟩, ⟨h.d0, h.d1, h.d2, h.d3⟩, h.proto, h.sp, h.dp, h.len, h.mark⟩
theorem zok : (⟨0, 0, 0, 0⟩ : A).ok := by unfold A.ok; simp
theorem toD_val (h : Hm.Hd) : (toD h).val = h.val := rfl

theorem TopClass_args (H : Heap) (vals : List Value) (h : ArgsOk maxLen H TopClassSh vals) : ACallK Tryz.prog 3 vals H fun v _ => v = .bool true := by
  obtain ⟨_, _, rfl, a1, h⟩ := h.cons
  obtain ⟨_, _, rfl, a2, h⟩ := h.cons
  obtain rfl := h.nil
  obtain ⟨q, rfl, hq⟩ := hdOf a1
  obtain ⟨k, c, l, rfl, hB, hlc, hs, hok⟩ := rows_of (α := Tr.Px) (enc := Tr.Px.cells) (ok := fun p => p.ad.ok) 6 (fun _ => rfl) Tr.p0 rfl (fun cs h => pxOf h) a2
  clear a1 a2 h
  have hm : maxLen ≤ 9223372036854775807 := by decide
  have hW := fun H => Hm.Write_spec q H hq
  refine .walkW f3_ok (by simp; decide) (by decide) ?_
  repeat' first | simp (disch := first | with_reducible assumption | omega) only [go_sem, Bool.true_and, Bool.and_true, Bool.and_self, Bool.false_and, Bool.and_false, Bool.true_or, Bool.or_true, Bool.false_or, Bool.or_false, ↓reduceIte, Nat.reduceEqDiff, Nat.reduceAdd, Nat.reduceMul, Nat.reduceSub, Nat.reduceBEq, Nat.reduceLeDiff, Nat.reduceLT, Nat.reduceMod, Nat.reduceDiv, Int.reduceToNat, Int.reducePow, Int.reduceMul, Int.reduceAdd, Int.reduceSub, Int.reduceLE, Int.reduceLT, Int.reduceNeg, Int.reduceDiv, Int.reduceMod, Int.reduceEq, Int.reduceBEq, Int.reduceBNe, f3, f3b, f3r0, f3r1, f3r2, f3r3, f3r4, f3r5, f3r6, f3r7, f3r8, f3r9, f3r10, f3r11, f3r12, f3r13, f3r14, f3r15, f3r17, f3r18, f3r19, f3r20, f3r21, f3r22] | (refine BrW.of (fun hb => ?_) (fun hb => ?_) <;> (have hb' := hb; try simp only [decide_eq_true_eq, decide_eq_false_iff_not, beq_iff_eq, bne_iff_ne, beq_eq_false_iff_ne, bne_eq_false_iff_eq, Bool.not_eq_true', Bool.not_eq_false', Bool.not_eq_true, Bool.not_eq_false, Bool.and_eq_true, Bool.or_eq_true, Bool.and_eq_false_iff, Bool.or_eq_false_iff, Int.not_lt, Int.not_le, ne_eq, gt_iff_lt, ge_iff_le] at hb') <;> (try (exfalso; omega))) | (refine altW.of ?_ ?_) | (refine .of ((alive _).mono ?_); rintro v J ⟨rfl, hj⟩; obtain rfl := hj.symm)
  obtain ⟨H1, hH1⟩ : ∃ H1, H1 = H ++ [.cells 0 0 false q.cells] := ⟨_, rfl⟩
  have hk1 : H1[H.length]? = some (.cells 0 0 false q.cells) := by rw [hH1]; exact get_new0 _ _ _
  have hs1 : Tr.Ps H1 k 0 0 l := by rw [hH1]; exact hs.app _
  refine .of ((hW _).mono ?_)
  rintro v G ⟨hLe, hbad, hgood⟩
  change Le (H ++ [.cells 0 0 false q.cells]) G at hLe
  rw [← hH1] at hLe
  have hkG := hLe.get hk1
  have hsG : Tr.Ps G k 0 0 l := hs1.le hLe
  have hTW := Tr.Wrong_u l k 0 0 c G hsG hlc (by omega) hok
  by_cases hw : Hm.wrongN q = 0
  · obtain ⟨x, y, hG, rfl⟩ := hgood hw
    have hfq := Hm.Hd.fine hq hw
    have hkb : G[H.length + 1 + 1]? = some (.cells 0 1 false (Hm.bytes (Hm.bytesH q))) := by
      rw [hG, List.append_assoc, show H.length + 1 + 1 = H.length + 2 by omega, get_new]; rfl
    have hl1 : (H ++ [AObj.cells 0 0 false q.cells]).length = H.length + 1 := by simp
    by_cases hf : Tr.Fine l
    · have hl4 := hf.len
      have hO : ∀ x ∈ l, okb x := fun x hx => by have := hf.long x hx; unfold Tr.longP at this; unfold okb; omega
      repeat' first | simp (disch := first | with_reducible assumption | omega) only [go_sem, Bool.true_and, Bool.and_true, Bool.and_self, Bool.false_and, Bool.and_false, Bool.true_or, Bool.or_true, Bool.false_or, Bool.or_false, ↓reduceIte, Nat.reduceEqDiff, Nat.reduceAdd, Nat.reduceMul, Nat.reduceSub, Nat.reduceBEq, Nat.reduceLeDiff, Nat.reduceLT, Nat.reduceMod, Nat.reduceDiv, Int.reduceToNat, Int.reducePow, Int.reduceMul, Int.reduceAdd, Int.reduceSub, Int.reduceLE, Int.reduceLT, Int.reduceNeg, Int.reduceDiv, Int.reduceMod, Int.reduceEq, Int.reduceBEq, Int.reduceBNe, f3, f3b, f3r0, f3r1, f3r2, f3r3, f3r4, f3r5, f3r6, f3r7, f3r8, f3r9, f3r10, f3r11, f3r12, f3r13, f3r14, f3r15, f3r17, f3r18, f3r19, f3r20, f3r21, f3r22] | (refine BrW.of (fun hb => ?_) (fun hb => ?_) <;> (have hb' := hb; try simp only [decide_eq_true_eq, decide_eq_false_iff_not, beq_iff_eq, bne_iff_ne, beq_eq_false_iff_ne, bne_eq_false_iff_eq, Bool.not_eq_true', Bool.not_eq_false', Bool.not_eq_true, Bool.not_eq_false, Bool.and_eq_true, Bool.or_eq_true, Bool.and_eq_false_iff, Bool.or_eq_false_iff, Int.not_lt, Int.not_le, ne_eq, gt_iff_lt, ge_iff_le] at hb') <;> (try (exfalso; omega))) | (refine altW.of ?_ ?_) | (refine .of (hTW.mono ?_); rintro v J ⟨e, rfl, hj, he⟩; obtain rfl := hj.symm; obtain rfl := he.2 hf) | (refine .of ((CloneP_spec l k 0 0 c _ hsG (by omega) hlc).mono ?_); rintro v J ⟨g, rfl, hj⟩; obtain rfl := hj.symm)
      refine .of ((SortS_spec G g l l.length hO (by omega)).mono ?_)
      rintro v J ⟨rfl, S, rfl, hp, hst⟩
      have hsl := hp.length_eq
      repeat' first | simp (disch := first | with_reducible assumption | omega) only [go_sem, Bool.true_and, Bool.and_true, Bool.and_self, Bool.false_and, Bool.and_false, Bool.true_or, Bool.or_true, Bool.false_or, Bool.or_false, ↓reduceIte, Nat.reduceEqDiff, Nat.reduceAdd, Nat.reduceMul, Nat.reduceSub, Nat.reduceBEq, Nat.reduceLeDiff, Nat.reduceLT, Nat.reduceMod, Nat.reduceDiv, Int.reduceToNat, Int.reducePow, Int.reduceMul, Int.reduceAdd, Int.reduceSub, Int.reduceLE, Int.reduceLT, Int.reduceNeg, Int.reduceDiv, Int.reduceMod, Int.reduceEq, Int.reduceBEq, Int.reduceBNe, f3, f3b, f3r0, f3r1, f3r2, f3r3, f3r4, f3r5, f3r6, f3r7, f3r8, f3r9, f3r10, f3r11, f3r12, f3r13, f3r14, f3r15, f3r17, f3r18, f3r19, f3r20, f3r21, f3r22] | (refine BrW.of (fun hb => ?_) (fun hb => ?_) <;> (have hb' := hb; try simp only [decide_eq_true_eq, decide_eq_false_iff_not, beq_iff_eq, bne_iff_ne, beq_eq_false_iff_ne, bne_eq_false_iff_eq, Bool.not_eq_true', Bool.not_eq_false', Bool.not_eq_true, Bool.not_eq_false, Bool.and_eq_true, Bool.or_eq_true, Bool.and_eq_false_iff, Bool.or_eq_false_iff, Int.not_lt, Int.not_le, ne_eq, gt_iff_lt, ge_iff_le] at hb') <;> (try (exfalso; omega))) | (refine altW.of ?_ ?_)
      obtain ⟨G2, hG2⟩ : ∃ G2, G2 = G ++ [.cells g 6 false (flat' Tr.Px.cells S)] := ⟨_, rfl⟩
      rw [← hG2]
      have hSo : G2[G.length]? = some (.cells g 6 false (flat' Tr.Px.cells S)) := by rw [hG2]; exact get_new0 _ _ _
      have hqo : G2[H.length]? = some (.cells 0 0 false q.cells) := by rw [hG2]; exact get_old hkG _
      have hbo : G2[H.length + 1 + 1]? = some (.cells 0 1 false (Hm.bytes (Hm.bytesH q))) := by rw [hG2]; exact get_old hkb _
      have hlo : Tr.Ps G2 k 0 0 l := by rw [hG2]; exact hsG.app _
      refine loopW.ghost 8 14 rfl ?_
      simp (disch := first | with_reducible assumption | omega) only [go_sem, Bool.true_and, Bool.and_true, Bool.and_self, Bool.false_and, Bool.and_false, Bool.true_or, Bool.or_true, Bool.false_or, Bool.or_false, ↓reduceIte, Nat.reduceEqDiff, Nat.reduceAdd, Nat.reduceMul, Nat.reduceSub, Nat.reduceBEq, Nat.reduceLeDiff, Nat.reduceLT, Nat.reduceMod, Nat.reduceDiv, Int.reduceToNat, Int.reducePow, Int.reduceMul, Int.reduceAdd, Int.reduceSub, Int.reduceLE, Int.reduceLT, Int.reduceNeg, Int.reduceDiv, Int.reduceMod, Int.reduceEq, Int.reduceBEq, Int.reduceBNe]
      refine loopW.keep [1, 2, 5, 8, 36, 37, 38] ?_
      simp (disch := first | with_reducible assumption | omega) only [go_sem, Bool.true_and, Bool.and_true, Bool.and_self, Bool.false_and, Bool.and_false, Bool.true_or, Bool.or_true, Bool.false_or, Bool.or_false, ↓reduceIte, Nat.reduceEqDiff, Nat.reduceAdd, Nat.reduceMul, Nat.reduceSub, Nat.reduceBEq, Nat.reduceLeDiff, Nat.reduceLT, Nat.reduceMod, Nat.reduceDiv, Int.reduceToNat, Int.reducePow, Int.reduceMul, Int.reduceAdd, Int.reduceSub, Int.reduceLE, Int.reduceLT, Int.reduceNeg, Int.reduceDiv, Int.reduceMod, Int.reduceEq, Int.reduceBEq, Int.reduceBNe]
      refine loopW.of (by decide) (fun m e J => ∃ (i g' : Nat) (X : Heap), e = [(1, slv k 0 0 l.length c), (2, .pointer (some ⟨H.length, 0, some 1⟩)), (5, slv (H.length + 1 + 1) 0 0 q.len.toNat q.len.toNat), (8, slv G2.length 0 g' i i), (36, slv G.length 0 g l.length l.length), (37, .int .i64 l.length), (38, .int .i64 i)] ∧ J = G2 ++ (.cells g' 14 false (flat' Ru.R.cells ((S.take i).map ruleP)) :: X) ∧ i ≤ l.length ∧ m = l.length - i ∧ ∀ j, j < i → 0 ≤ (S.getD j Tr.p0).to ∧ (S.getD j Tr.p0).to < 16) l.length ⟨0, 0, [], rfl, rfl, by omega, rfl, fun j hj => by omega⟩ ?_
      rintro m e J ⟨i, g', X, rfl, rfl, hi, rfl, hinv⟩
      by_cases hlt : i < l.length
      · have f1 := flat'_ld (enc := Tr.Px.cells) (s := 6) (fun _ => rfl) Tr.p0 S i (by omega)
        have gs := flat'_length (enc := Tr.Px.cells) (s := 6) (fun _ => rfl) S
        have of1 : (flat' Ru.R.cells ((S.take i).map ruleP)).length = i * 14 := by
          rw [flat'_length (enc := Ru.R.cells) (s := 14) (fun _ => rfl)]; simp; omega
        have on1 : flat' Ru.R.cells ((S.take i).map ruleP) ++ Ru.R.cells (ruleP (S.getD i Tr.p0)) = flat' Ru.R.cells ((S.take (i + 1)).map ruleP) := by
          rw [take_snoc Tr.p0 S i (by omega), List.map_append, ← flat'_app]; simp [flat']
        have hn1 : ¬ i + 1 ≤ i := by omega
        have tk1 : (flat' Ru.R.cells ((S.take i).map ruleP)).take (i * 14) = flat' Ru.R.cells ((S.take i).map ruleP) := List.take_of_length_le (by omega)
        have gb : ∀ o b : AObj, ∀ y, (G2 ++ o :: (X ++ b :: y))[G2.length + (X.length + 1)]? = some b := fun o b y => by rw [get_new]; simp
        have gb2 : ∀ o b b' : AObj, (G2 ++ o :: (X ++ [b, b']))[G2.length + (X.length + 2)]? = some b' := fun o b b' => by rw [get_new]; simp
        have gst : ∀ o b z : AObj, (G2 ++ o :: (X ++ [b])).set (G2.length + (X.length + 1)) z = G2 ++ o :: (X ++ [z]) := fun o b z => by rw [set_new]; simp
        generalize hP : S.getD i Tr.p0 = P at *
        have on2 : flat' Ru.R.cells ((S.take i).map ruleP) ++ ([.int .u8 0, .int .u8 0, .int .u8 0, .int .u8 0, .int .u8 P.ad.b0, .int .u8 P.ad.b1, .int .u8 P.ad.b2, .int .u8 P.ad.b3, .int .i64 0, .int .i64 P.bits, .int .i64 0, .int .i64 0, .int .i64 65535, .int .i64 P.to] : List Value) = flat' Ru.R.cells ((S.take (i + 1)).map ruleP) := on1
        clear on1
        by_cases hx : 0 ≤ P.to ∧ P.to < 16
        · repeat' first | simp (disch := first | with_reducible assumption | omega) only [go_sem, Bool.true_and, Bool.and_true, Bool.and_self, Bool.false_and, Bool.and_false, Bool.true_or, Bool.or_true, Bool.false_or, Bool.or_false, ↓reduceIte, Nat.reduceEqDiff, Nat.reduceAdd, Nat.reduceMul, Nat.reduceSub, Nat.reduceBEq, Nat.reduceLeDiff, Nat.reduceLT, Nat.reduceMod, Nat.reduceDiv, Int.reduceToNat, Int.reducePow, Int.reduceMul, Int.reduceAdd, Int.reduceSub, Int.reduceLE, Int.reduceLT, Int.reduceNeg, Int.reduceDiv, Int.reduceMod, Int.reduceEq, Int.reduceBEq, Int.reduceBNe, f3, f3b, f3r0, f3r1, f3r2, f3r3, f3r4, f3r5, f3r6, f3r7, f3r8, f3r9, f3r10, f3r11, f3r12, f3r13, f3r14, f3r15, f3r17, f3r18, f3r19, f3r20, f3r21, f3r22, f3l0, f3, f3b, f3r0, f3r1, f3r2, f3r3, f3r4, f3r5, f3r6, f3r7, f3r8, f3r9, f3r10, f3r11, f3r12, f3r13, f3r14, f3r15, f3r17, f3r18, f3r19, f3r20, f3r21, f3r22, hSo, get_old hSo, ↓f1, gs, hsl, of1, hn1, tk1, gb, gb2, gst, Tr.Px.cells] | (refine BrW.of (fun hb => ?_) (fun hb => ?_) <;> (have hb' := hb; try simp only [decide_eq_true_eq, decide_eq_false_iff_not, beq_iff_eq, bne_iff_ne, beq_eq_false_iff_ne, bne_eq_false_iff_eq, Bool.not_eq_true', Bool.not_eq_false', Bool.not_eq_true, Bool.not_eq_false, Bool.and_eq_true, Bool.or_eq_true, Bool.and_eq_false_iff, Bool.or_eq_false_iff, Int.not_lt, Int.not_le, ne_eq, gt_iff_lt, ge_iff_le] at hb') <;> (try (exfalso; omega))) | (refine altW.of ?_ ?_)
          refine RdW.keep [1, 2, 5, 8, 36, 37, 38] (l.length - (i + 1)) (by omega) ?_
          simp (disch := first | with_reducible assumption | omega) only [go_sem, Bool.true_and, Bool.and_true, Bool.and_self, Bool.false_and, Bool.and_false, Bool.true_or, Bool.or_true, Bool.false_or, Bool.or_false, ↓reduceIte, Nat.reduceEqDiff, Nat.reduceAdd, Nat.reduceMul, Nat.reduceSub, Nat.reduceBEq, Nat.reduceLeDiff, Nat.reduceLT, Nat.reduceMod, Nat.reduceDiv, Int.reduceToNat, Int.reducePow, Int.reduceMul, Int.reduceAdd, Int.reduceSub, Int.reduceLE, Int.reduceLT, Int.reduceNeg, Int.reduceDiv, Int.reduceMod, Int.reduceEq, Int.reduceBEq, Int.reduceBNe]
          refine ⟨i + 1, g' + 1, _, rfl, by rw [on2], by omega, rfl, fun j hj => ?_⟩
          by_cases e : j = i
          · rw [e, hP]; exact hx
          · exact hinv j (by omega)
        · by_cases hx0 : P.to < 0
          · repeat' first | simp (disch := first | with_reducible assumption | omega) only [go_sem, Bool.true_and, Bool.and_true, Bool.and_self, Bool.false_and, Bool.and_false, Bool.true_or, Bool.or_true, Bool.false_or, Bool.or_false, ↓reduceIte, Nat.reduceEqDiff, Nat.reduceAdd, Nat.reduceMul, Nat.reduceSub, Nat.reduceBEq, Nat.reduceLeDiff, Nat.reduceLT, Nat.reduceMod, Nat.reduceDiv, Int.reduceToNat, Int.reducePow, Int.reduceMul, Int.reduceAdd, Int.reduceSub, Int.reduceLE, Int.reduceLT, Int.reduceNeg, Int.reduceDiv, Int.reduceMod, Int.reduceEq, Int.reduceBEq, Int.reduceBNe, f3, f3b, f3r0, f3r1, f3r2, f3r3, f3r4, f3r5, f3r6, f3r7, f3r8, f3r9, f3r10, f3r11, f3r12, f3r13, f3r14, f3r15, f3r17, f3r18, f3r19, f3r20, f3r21, f3r22, f3l0, f3, f3b, f3r0, f3r1, f3r2, f3r3, f3r4, f3r5, f3r6, f3r7, f3r8, f3r9, f3r10, f3r11, f3r12, f3r13, f3r14, f3r15, f3r17, f3r18, f3r19, f3r20, f3r21, f3r22, hSo, get_old hSo, ↓f1, gs, hsl, gb, gst, Tr.Px.cells] | (refine BrW.of (fun hb => ?_) (fun hb => ?_) <;> (have hb' := hb; try simp only [decide_eq_true_eq, decide_eq_false_iff_not, beq_iff_eq, bne_iff_ne, beq_eq_false_iff_ne, bne_eq_false_iff_eq, Bool.not_eq_true', Bool.not_eq_false', Bool.not_eq_true, Bool.not_eq_false, Bool.and_eq_true, Bool.or_eq_true, Bool.and_eq_false_iff, Bool.or_eq_false_iff, Int.not_lt, Int.not_le, ne_eq, gt_iff_lt, ge_iff_le] at hb') <;> (try (exfalso; omega))) | (refine altW.of ?_ ?_)
            all_goals exact .here rfl
          · have hx1 : 16 ≤ P.to := by omega
            repeat' first | simp (disch := first | with_reducible assumption | omega) only [go_sem, Bool.true_and, Bool.and_true, Bool.and_self, Bool.false_and, Bool.and_false, Bool.true_or, Bool.or_true, Bool.false_or, Bool.or_false, ↓reduceIte, Nat.reduceEqDiff, Nat.reduceAdd, Nat.reduceMul, Nat.reduceSub, Nat.reduceBEq, Nat.reduceLeDiff, Nat.reduceLT, Nat.reduceMod, Nat.reduceDiv, Int.reduceToNat, Int.reducePow, Int.reduceMul, Int.reduceAdd, Int.reduceSub, Int.reduceLE, Int.reduceLT, Int.reduceNeg, Int.reduceDiv, Int.reduceMod, Int.reduceEq, Int.reduceBEq, Int.reduceBNe, f3, f3b, f3r0, f3r1, f3r2, f3r3, f3r4, f3r5, f3r6, f3r7, f3r8, f3r9, f3r10, f3r11, f3r12, f3r13, f3r14, f3r15, f3r17, f3r18, f3r19, f3r20, f3r21, f3r22, f3l0, f3, f3b, f3r0, f3r1, f3r2, f3r3, f3r4, f3r5, f3r6, f3r7, f3r8, f3r9, f3r10, f3r11, f3r12, f3r13, f3r14, f3r15, f3r17, f3r18, f3r19, f3r20, f3r21, f3r22, hSo, get_old hSo, ↓f1, gs, hsl, gb, gst, Tr.Px.cells] | (refine BrW.of (fun hb => ?_) (fun hb => ?_) <;> (have hb' := hb; try simp only [decide_eq_true_eq, decide_eq_false_iff_not, beq_iff_eq, bne_iff_ne, beq_eq_false_iff_ne, bne_eq_false_iff_eq, Bool.not_eq_true', Bool.not_eq_false', Bool.not_eq_true, Bool.not_eq_false, Bool.and_eq_true, Bool.or_eq_true, Bool.and_eq_false_iff, Bool.or_eq_false_iff, Int.not_lt, Int.not_le, ne_eq, gt_iff_lt, ge_iff_le] at hb') <;> (try (exfalso; omega))) | (refine altW.of ?_ ?_)
            all_goals exact .here rfl
      · obtain rfl : i = l.length := by omega
        have htS : S.take l.length = S := by rw [← hsl, List.take_length]
        have hto : ∀ p ∈ S, 0 ≤ p.to ∧ p.to < 16 := fun p hp' => by
          obtain ⟨j, hj, e⟩ := List.getElem_of_mem hp'
          have := hinv j (by omega)
          rw [List.getD_eq_getElem?_getD, List.getElem?_eq_getElem hj] at this
          rw [← e]; exact this
        rw [htS]
        obtain ⟨J, hJ⟩ : ∃ J, J = G2 ++ (.cells g' 14 false (flat' Ru.R.cells (S.map ruleP)) :: X) := ⟨_, rfl⟩
        have hqJ : J[H.length]? = some (.cells 0 0 false q.cells) := by rw [hJ]; exact get_old hqo _
        have hbJ : J[H.length + 1 + 1]? = some (.cells 0 1 false (Hm.bytes (Hm.bytesH q))) := by rw [hJ]; exact get_old hbo _
        have hlJ : Tr.Ps J k 0 0 l := by rw [hJ]; exact hlo.app _
        have hrJ : Ru.Rs J G2.length 0 g' (S.map ruleP) := by rw [hJ]; exact Tbl.new (enc := Ru.R.cells) (s := 14) (d := Ru.r0) (fun _ => rfl) _ _ _ false _ (get_new0 _ _ _)
        obtain ⟨r1, r2⟩ := Hm.read_more hfq []
        rw [List.append_nil] at r1 r2
        have hlen := Hm.bytesH_len hfq
        have hql := hfq.len
        have hR := Hm.Read_spec (Hm.bytesH q) (H.length + 1 + 1) 0 0 q.len.toNat J (Hm.bytesH_byte hfq) (Hm.Bys.new _ _ 0 false _ hbJ) (by omega) (by omega)
        rw [r1, r2, hlen] at hR
        have hokS : ∀ p ∈ S, p.ad.ok := fun p hp' => by
          obtain ⟨j, hj, e⟩ := List.getElem_of_mem (hp.mem_iff.1 hp')
          have := hok j hj
          rw [List.getD_eq_getElem?_getD, List.getElem?_eq_getElem hj] at this
          rw [← e]; exact this
        have hdq : (toD q).ok := ⟨⟨hq.1, hq.2.1, hq.2.2.1, hq.2.2.2.1⟩, hq.2.2.2.2.1, hq.2.2.2.2.2.1, hq.2.2.2.2.2.2.1, hq.2.2.2.2.2.2.2⟩
        have hrl : (S.map ruleP).length = l.length := by rw [List.length_map, hsl]
        have hCl := fun (Y : Heap) => Ru.Class_spec (S.map ruleP) (toD q) G2.length 0 g' l.length (J ++ Y) (hrJ.app Y) (by omega) (fun j hj => by
          have hj' : j < S.length := by simpa using hj
          have e : (S.map ruleP).getD j Ru.r0 = ruleP S[j] := by simp [List.getD_eq_getElem?_getD, hj']
          rw [e]
          exact ⟨zok, hokS _ (List.getElem_mem hj')⟩) hdq
        rw [hrl, class_find hf (fun x hx => hokS x (hp.mem_iff.2 hx)) hp (by rw [hsl]; exact hst) hto (toD q) hfq.dp] at hCl
        repeat' first | simp (disch := first | with_reducible assumption | omega) only [go_sem, Bool.true_and, Bool.and_true, Bool.and_self, Bool.false_and, Bool.and_false, Bool.true_or, Bool.or_true, Bool.false_or, Bool.or_false, ↓reduceIte, Nat.reduceEqDiff, Nat.reduceAdd, Nat.reduceMul, Nat.reduceSub, Nat.reduceBEq, Nat.reduceLeDiff, Nat.reduceLT, Nat.reduceMod, Nat.reduceDiv, Int.reduceToNat, Int.reducePow, Int.reduceMul, Int.reduceAdd, Int.reduceSub, Int.reduceLE, Int.reduceLT, Int.reduceNeg, Int.reduceDiv, Int.reduceMod, Int.reduceEq, Int.reduceBEq, Int.reduceBNe, f3, f3b, f3r0, f3r1, f3r2, f3r3, f3r4, f3r5, f3r6, f3r7, f3r8, f3r9, f3r10, f3r11, f3r12, f3r13, f3r14, f3r15, f3r17, f3r18, f3r19, f3r20, f3r21, f3r22, f3l0, f3, f3b, f3r0, f3r1, f3r2, f3r3, f3r4, f3r5, f3r6, f3r7, f3r8, f3r9, f3r10, f3r11, f3r12, f3r13, f3r14, f3r15, f3r17, f3r18, f3r19, f3r20, f3r21, f3r22, hSo, get_old hSo] | (refine BrW.of (fun hb => ?_) (fun hb => ?_) <;> (have hb' := hb; try simp only [decide_eq_true_eq, decide_eq_false_iff_not, beq_iff_eq, bne_iff_ne, beq_eq_false_iff_ne, bne_eq_false_iff_eq, Bool.not_eq_true', Bool.not_eq_false', Bool.not_eq_true, Bool.not_eq_false, Bool.and_eq_true, Bool.or_eq_true, Bool.and_eq_false_iff, Bool.or_eq_false_iff, Int.not_lt, Int.not_le, ne_eq, gt_iff_lt, ge_iff_le] at hb') <;> (try (exfalso; omega))) | (refine altW.of ?_ ?_)
        rw [← hJ]
        refine .of (hR.mono ?_)
        rintro v J2 ⟨rfl, hj2⟩
        obtain rfl := hj2.symm
        clear hR
        repeat' first | simp (disch := first | with_reducible assumption | omega) only [go_sem, Bool.true_and, Bool.and_true, Bool.and_self, Bool.false_and, Bool.and_false, Bool.true_or, Bool.or_true, Bool.false_or, Bool.or_false, ↓reduceIte, Nat.reduceEqDiff, Nat.reduceAdd, Nat.reduceMul, Nat.reduceSub, Nat.reduceBEq, Nat.reduceLeDiff, Nat.reduceLT, Nat.reduceMod, Nat.reduceDiv, Int.reduceToNat, Int.reducePow, Int.reduceMul, Int.reduceAdd, Int.reduceSub, Int.reduceLE, Int.reduceLT, Int.reduceNeg, Int.reduceDiv, Int.reduceMod, Int.reduceEq, Int.reduceBEq, Int.reduceBNe, f3, f3b, f3r0, f3r1, f3r2, f3r3, f3r4, f3r5, f3r6, f3r7, f3r8, f3r9, f3r10, f3r11, f3r12, f3r13, f3r14, f3r15, f3r17, f3r18, f3r19, f3r20, f3r21, f3r22, Hm.Hd.val] | (refine BrW.of (fun hb => ?_) (fun hb => ?_) <;> (have hb' := hb; try simp only [decide_eq_true_eq, decide_eq_false_iff_not, beq_iff_eq, bne_iff_ne, beq_eq_false_iff_ne, bne_eq_false_iff_eq, Bool.not_eq_true', Bool.not_eq_false', Bool.not_eq_true, Bool.not_eq_false, Bool.and_eq_true, Bool.or_eq_true, Bool.and_eq_false_iff, Bool.or_eq_false_iff, Int.not_lt, Int.not_le, ne_eq, gt_iff_lt, ge_iff_le] at hb') <;> (try (exfalso; omega))) | (refine altW.of ?_ ?_)
        refine .of ((hCl _).mono ?_)
        rintro v J3 ⟨rfl, hj3⟩
        obtain rfl := hj3.symm
        repeat' first | simp (disch := first | with_reducible assumption | omega) only [go_sem, Bool.true_and, Bool.and_true, Bool.and_self, Bool.false_and, Bool.and_false, Bool.true_or, Bool.or_true, Bool.false_or, Bool.or_false, ↓reduceIte, Nat.reduceEqDiff, Nat.reduceAdd, Nat.reduceMul, Nat.reduceSub, Nat.reduceBEq, Nat.reduceLeDiff, Nat.reduceLT, Nat.reduceMod, Nat.reduceDiv, Int.reduceToNat, Int.reducePow, Int.reduceMul, Int.reduceAdd, Int.reduceSub, Int.reduceLE, Int.reduceLT, Int.reduceNeg, Int.reduceDiv, Int.reduceMod, Int.reduceEq, Int.reduceBEq, Int.reduceBNe, f3, f3b, f3r0, f3r1, f3r2, f3r3, f3r4, f3r5, f3r6, f3r7, f3r8, f3r9, f3r10, f3r11, f3r12, f3r13, f3r14, f3r15, f3r17, f3r18, f3r19, f3r20, f3r21, f3r22, get_old hqJ, Hm.Hd.cells] | (refine BrW.of (fun hb => ?_) (fun hb => ?_) <;> (have hb' := hb; try simp only [decide_eq_true_eq, decide_eq_false_iff_not, beq_iff_eq, bne_iff_ne, beq_eq_false_iff_ne, bne_eq_false_iff_eq, Bool.not_eq_true', Bool.not_eq_false', Bool.not_eq_true, Bool.not_eq_false, Bool.and_eq_true, Bool.or_eq_true, Bool.and_eq_false_iff, Bool.or_eq_false_iff, Int.not_lt, Int.not_le, ne_eq, gt_iff_lt, ge_iff_le] at hb') <;> (try (exfalso; omega))) | (refine altW.of ?_ ?_)
        have hA1 : Tr.As (J ++ [AObj.cells 0 0 false (Hm.Hd.cells q), AObj.cells 0 4 false (A.cells (toD q).dst)]) (J.length + 1) 0 0 [(toD q).dst] := Tbl.new (enc := A.cells) (s := 4) (d := Tr.a0) (fun _ => rfl) _ _ _ false _ (by rw [get_new]; rfl)
        have hFd := Tr.Find_u l [(toD q).dst] k 0 0 c (J.length + 1) 0 0 1 _ (hlJ.app _) hlc (by omega) (fun x hx => hokS x (hp.mem_iff.2 hx)) hA1 (by simp) (fun a ha => by rw [List.mem_singleton.1 ha]; exact hdq.2)
        refine .of (hFd.mono ?_)
        clear hFd hA1 hCl hrJ hqJ hbJ hlJ
        rintro v J4 ⟨a, b, e, rfl, hle4, he4, -, hg4⟩
        obtain rfl := he4.2 hf
        obtain ⟨q1, p1, q2, p2, rfl, rfl, hI, hB2⟩ := hg4 rfl
        obtain ⟨ro1, cs1, hk1', hl1', hc1⟩ := hI.cell
        obtain ⟨ro2, cs2, hk2', hl2', hc2⟩ := hB2.cell
        have hc1 := hc1 0 (by simp [Tr.vals'])
        have hc2 := hc2 0 (by simp [Tr.oks'])
        simp only [Tr.vals', Tr.oks', List.map_cons, List.map_nil, List.getD_cons_zero, Nat.add_zero] at hc1 hc2
        cases hfo : Tr.found l (toD q).dst 32 with
        | some t =>
          rw [hfo] at hc1 hc2
          simp only [Option.getD_some, Option.isSome_some] at hc1 hc2
          simp only [List.length_cons, List.length_nil, Nat.zero_add]
          repeat' first | simp (disch := first | with_reducible assumption | omega) only [go_sem, Bool.true_and, Bool.and_true, Bool.and_self, Bool.false_and, Bool.and_false, Bool.true_or, Bool.or_true, Bool.false_or, Bool.or_false, ↓reduceIte, Nat.reduceEqDiff, Nat.reduceAdd, Nat.reduceMul, Nat.reduceSub, Nat.reduceBEq, Nat.reduceLeDiff, Nat.reduceLT, Nat.reduceMod, Nat.reduceDiv, Int.reduceToNat, Int.reducePow, Int.reduceMul, Int.reduceAdd, Int.reduceSub, Int.reduceLE, Int.reduceLT, Int.reduceNeg, Int.reduceDiv, Int.reduceMod, Int.reduceEq, Int.reduceBEq, Int.reduceBNe, f3, f3b, f3r0, f3r1, f3r2, f3r3, f3r4, f3r5, f3r6, f3r7, f3r8, f3r9, f3r10, f3r11, f3r12, f3r13, f3r14, f3r15, f3r17, f3r18, f3r19, f3r20, f3r21, f3r22, hk1', hk2', hc1, hc2] | (refine BrW.of (fun hb => ?_) (fun hb => ?_) <;> (have hb' := hb; try simp only [decide_eq_true_eq, decide_eq_false_iff_not, beq_iff_eq, bne_iff_ne, beq_eq_false_iff_ne, bne_eq_false_iff_eq, Bool.not_eq_true', Bool.not_eq_false', Bool.not_eq_true, Bool.not_eq_false, Bool.and_eq_true, Bool.or_eq_true, Bool.and_eq_false_iff, Bool.or_eq_false_iff, Int.not_lt, Int.not_le, ne_eq, gt_iff_lt, ge_iff_le] at hb') <;> (try (exfalso; omega))) | (refine altW.of ?_ ?_)
          all_goals exact .here rfl
        | none =>
          rw [hfo] at hc1 hc2
          simp only [Option.getD_none, Option.isSome_none] at hc1 hc2
          simp only [List.length_cons, List.length_nil, Nat.zero_add]
          repeat' first | simp (disch := first | with_reducible assumption | omega) only [go_sem, Bool.true_and, Bool.and_true, Bool.and_self, Bool.false_and, Bool.and_false, Bool.true_or, Bool.or_true, Bool.false_or, Bool.or_false, ↓reduceIte, Nat.reduceEqDiff, Nat.reduceAdd, Nat.reduceMul, Nat.reduceSub, Nat.reduceBEq, Nat.reduceLeDiff, Nat.reduceLT, Nat.reduceMod, Nat.reduceDiv, Int.reduceToNat, Int.reducePow, Int.reduceMul, Int.reduceAdd, Int.reduceSub, Int.reduceLE, Int.reduceLT, Int.reduceNeg, Int.reduceDiv, Int.reduceMod, Int.reduceEq, Int.reduceBEq, Int.reduceBNe, f3, f3b, f3r0, f3r1, f3r2, f3r3, f3r4, f3r5, f3r6, f3r7, f3r8, f3r9, f3r10, f3r11, f3r12, f3r13, f3r14, f3r15, f3r17, f3r18, f3r19, f3r20, f3r21, f3r22, hk1', hk2', hc1, hc2] | (refine BrW.of (fun hb => ?_) (fun hb => ?_) <;> (have hb' := hb; try simp only [decide_eq_true_eq, decide_eq_false_iff_not, beq_iff_eq, bne_iff_ne, beq_eq_false_iff_ne, bne_eq_false_iff_eq, Bool.not_eq_true', Bool.not_eq_false', Bool.not_eq_true, Bool.not_eq_false, Bool.and_eq_true, Bool.or_eq_true, Bool.and_eq_false_iff, Bool.or_eq_false_iff, Int.not_lt, Int.not_le, ne_eq, gt_iff_lt, ge_iff_le] at hb') <;> (try (exfalso; omega))) | (refine altW.of ?_ ?_)
          all_goals exact .here rfl
    · repeat' first | simp (disch := first | with_reducible assumption | omega) only [go_sem, Bool.true_and, Bool.and_true, Bool.and_self, Bool.false_and, Bool.and_false, Bool.true_or, Bool.or_true, Bool.false_or, Bool.or_false, ↓reduceIte, Nat.reduceEqDiff, Nat.reduceAdd, Nat.reduceMul, Nat.reduceSub, Nat.reduceBEq, Nat.reduceLeDiff, Nat.reduceLT, Nat.reduceMod, Nat.reduceDiv, Int.reduceToNat, Int.reducePow, Int.reduceMul, Int.reduceAdd, Int.reduceSub, Int.reduceLE, Int.reduceLT, Int.reduceNeg, Int.reduceDiv, Int.reduceMod, Int.reduceEq, Int.reduceBEq, Int.reduceBNe, f3, f3b, f3r0, f3r1, f3r2, f3r3, f3r4, f3r5, f3r6, f3r7, f3r8, f3r9, f3r10, f3r11, f3r12, f3r13, f3r14, f3r15, f3r17, f3r18, f3r19, f3r20, f3r21, f3r22] | (refine BrW.of (fun hb => ?_) (fun hb => ?_) <;> (have hb' := hb; try simp only [decide_eq_true_eq, decide_eq_false_iff_not, beq_iff_eq, bne_iff_ne, beq_eq_false_iff_ne, bne_eq_false_iff_eq, Bool.not_eq_true', Bool.not_eq_false', Bool.not_eq_true, Bool.not_eq_false, Bool.and_eq_true, Bool.or_eq_true, Bool.and_eq_false_iff, Bool.or_eq_false_iff, Int.not_lt, Int.not_le, ne_eq, gt_iff_lt, ge_iff_le] at hb') <;> (try (exfalso; omega))) | (refine altW.of ?_ ?_) | (refine .of (hTW.mono ?_); rintro v J ⟨e, rfl, hj, he⟩; obtain rfl := hj.symm; have he' : (e != 0) = true := by simpa using fun e0 => hf (he.1 e0))
      all_goals exact .here rfl
  · obtain rfl := hbad hw
    have hw' : (Hm.wrongN q != 0) = true := by simpa using hw
    repeat' first | simp (disch := first | with_reducible assumption | omega) only [go_sem, Bool.true_and, Bool.and_true, Bool.and_self, Bool.false_and, Bool.and_false, Bool.true_or, Bool.or_true, Bool.false_or, Bool.or_false, ↓reduceIte, Nat.reduceEqDiff, Nat.reduceAdd, Nat.reduceMul, Nat.reduceSub, Nat.reduceBEq, Nat.reduceLeDiff, Nat.reduceLT, Nat.reduceMod, Nat.reduceDiv, Int.reduceToNat, Int.reducePow, Int.reduceMul, Int.reduceAdd, Int.reduceSub, Int.reduceLE, Int.reduceLT, Int.reduceNeg, Int.reduceDiv, Int.reduceMod, Int.reduceEq, Int.reduceBEq, Int.reduceBNe, f3, f3b, f3r0, f3r1, f3r2, f3r3, f3r4, f3r5, f3r6, f3r7, f3r8, f3r9, f3r10, f3r11, f3r12, f3r13, f3r14, f3r15, f3r17, f3r18, f3r19, f3r20, f3r21, f3r22] | (refine BrW.of (fun hb => ?_) (fun hb => ?_) <;> (have hb' := hb; try simp only [decide_eq_true_eq, decide_eq_false_iff_not, beq_iff_eq, bne_iff_ne, beq_eq_false_iff_ne, bne_eq_false_iff_eq, Bool.not_eq_true', Bool.not_eq_false', Bool.not_eq_true, Bool.not_eq_false, Bool.and_eq_true, Bool.or_eq_true, Bool.and_eq_false_iff, Bool.or_eq_false_iff, Int.not_lt, Int.not_le, ne_eq, gt_iff_lt, ge_iff_le] at hb') <;> (try (exfalso; omega))) | (refine altW.of ?_ ?_) | (refine .of (hTW.mono ?_); rintro v _ ⟨e, rfl, rfl, he⟩)
    all_goals exact .here rfl
end Go.Proofs.YtcocblbfgjjlbaaGreatDoor
