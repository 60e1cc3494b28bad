import Derived.Test.YtcocblbfgjjlbaaGreatDoorFns
import Derived.Test.YtcocblbfgjjlbaaGreatDoorLib
import Derived.Test.YtcocblbfgjjlbaaGreatDoorTrPlain
set_option linter.unusedSimpArgs false
set_option linter.unusedVariables false
set_option maxHeartbeats 1000000
set_option maxRecDepth 20000
namespace Go.Proofs.YtcocblbfgjjlbaaGreatDoor
open Go Go.Am
attribute [local irreducible] opsW Ww loopW callW drawW outW outDW gW cW BrW bothW vW resW DropW RdW dcallW altW forkW splitW Later.run
theorem Le.set {H H' : Heap} (h : Le H H') {j : Nat} {x : AObj} (hj : H.length ≤ j) : Le H (H'.set j x) := by
  obtain ⟨X, rfl⟩ := h
  exact ⟨X.set (j - H.length) x, by rw [List.set_append_right _ _ hj]⟩
end Go.Proofs.YtcocblbfgjjlbaaGreatDoor
namespace Go.Proofs.YtcocblbfgjjlbaaGreatDoor.Tr
open Go Go.Am


def Px.cells (p : Px) : List Value := [.int .u8 p.ad.b0, .int .u8 p.ad.b1, .int .u8 p.ad.b2, .int .u8 p.ad.b3, .int .i64 p.bits, .int .i64 p.to]
theorem Px.cells_length (r : Px) : (Px.cells r).length = 6 := rfl
def Px.val (p : Px) : Value := .agg (Px.cells p).toArray
abbrev Ps (H : Heap) (k o g : Nat) (l : List Px) : Prop := Tbl Px Px.cells 6 p0 H k o g l

theorem same_A (x y : A) : sameS [false, false, false, false] [.int .u8 x.b0, .int .u8 x.b1, .int .u8 x.b2, .int .u8 x.b3] [.int .u8 y.b0, .int .u8 y.b1, .int .u8 y.b2, .int .u8 y.b3] = some (decide (x = y)) := by
  obtain ⟨a0, a1, a2, a3⟩ := x
  obtain ⟨d0, d1, d2, d3⟩ := y
  simp only [sameS, if_true, Option.map_some]
  congr 1
  rw [Bool.eq_iff_iff]
  simp only [Bool.and_eq_true, beq_iff_eq, decide_eq_true_eq, A.mk.injEq, and_true, and_assoc]

/-- One prefix, all right so far as bits go, and not there ahead. -/
def heldB (pre : List Px) (p : Px) : Bool := pre.any fun q => decide (q.bits = p.bits ∧ q.ad = p.ad)

theorem Fine.snoc {l : List Px} {i : Nat} (hi : i < l.length) (h4 : l.length ≤ 400) (h : Fine (l.take i)) (h1 : ¬ longP (l.getD i p0)) (h2 : ¬ rawP (l.getD i p0)) (h3 : ∀ j, j < i → ¬ ((l.getD j p0).bits = (l.getD i p0).bits ∧ (l.getD j p0).ad = (l.getD i p0).ad)) : Fine (l.take (i + 1)) := by
  rw [take_snoc p0 l i hi]
  refine ⟨by simp; omega, fun p hp => ?_, fun p hp => ?_, ?_⟩
  · rcases List.mem_append.1 hp with hp | hp
    · exact h.long p hp
    · rw [List.mem_singleton.1 hp]; exact h1
  · rcases List.mem_append.1 hp with hp | hp
    · exact h.raw p hp
    · rw [List.mem_singleton.1 hp]; exact h2
  · rw [List.pairwise_append]
    refine ⟨h.held, List.pairwise_singleton _ _, fun a ha b hb => ?_⟩
    rw [List.mem_singleton.1 hb]
    obtain ⟨j, hj, rfl⟩ := mem_getD (d := p0) ha
    simp at hj
    rw [getD_take p0 l i j (by omega)]
    exact h3 j (by omega)
theorem Wrong_u (l : List Px) (k o g c : Nat) (H : Heap) (hs : Ps H k o g l) (hlc : l.length ≤ c) (hB : l.length ≤ 9223372036854775807) (hok : ∀ i, i < l.length → (l.getD i p0).ad.ok) :
    ACallK Tryz.prog 6 [slv k o g l.length c] H (fun v H' => ∃ e, v = .int .i64 e ∧ H' = H ∧ (e = 0 ↔ Fine l)) := by
  obtain ⟨ro, cs, hk, hcl, hcs⟩ := hs.at'
  have hkl := hs.lt
  refine .walkW f6_ok (by simp; decide) (by decide) ?_
  by_cases h4 : l.length ≤ 400
  · repeat' first | simp (disch := first | with_reducible assumption | omega) only [go_sem, Bool.true_and, Bool.and_true, Bool.and_self, Bool.false_and, Bool.and_false, Bool.true_or, Bool.or_true, Bool.false_or, Bool.or_false, ↓reduceIte, Nat.reduceEqDiff, Nat.reduceAdd, Nat.reduceMul, Nat.reduceSub, Nat.reduceBEq, Nat.reduceLeDiff, Nat.reduceLT, Nat.reduceMod, Nat.reduceDiv, Int.reduceToNat, Int.reducePow, Int.reduceMul, Int.reduceAdd, Int.reduceSub, Int.reduceLE, Int.reduceLT, Int.reduceNeg, Int.reduceDiv, Int.reduceMod, Int.reduceEq, Int.reduceBEq, Int.reduceBNe, f6, f6b, f6r0, f6r1, f6r2, f6r3, f6r4, f6r5, f6r6, f6r7, f6r8, f6r9, f6r10, f6r11, f6r12, f6r14, f6r15, f6r16, f6r17, f6r18, f6r19, f6r21, f6r23, hk, get_old hk] | (refine BrW.of (fun hb => ?_) (fun hb => ?_) <;> (have hb' := hb; try simp only [decide_eq_true_eq, decide_eq_false_iff_not, beq_iff_eq, bne_iff_ne, beq_eq_false_iff_ne, bne_eq_false_iff_eq, Bool.not_eq_true', Bool.not_eq_false', Bool.not_eq_true, Bool.not_eq_false, Bool.and_eq_true, Bool.or_eq_true, Bool.and_eq_false_iff, Bool.or_eq_false_iff, Int.not_lt, Int.not_le, ne_eq, gt_iff_lt, ge_iff_le] at hb') <;> (try (exfalso; omega))) | (refine altW.of ?_ ?_)
    refine loopW.of (by decide) (fun m e H'' => ∃ i : Nat, e = [(0, slv k o g l.length c), (11, slv k o g l.length c), (12, .int .i64 l.length), (13, .int .i64 i)] ∧ H'' = H ∧ i ≤ l.length ∧ m = l.length - i ∧ Fine (l.take i)) l.length ⟨0, rfl, rfl, by omega, rfl, ⟨by simp, by simp, by simp, by simp⟩⟩ ?_
    rintro m e H'' ⟨i, rfl, rfl, hi, rfl, hfi⟩
    by_cases hlt : i < l.length
    · have hld := Tbl.ld (enc := Px.cells) (fun _ => rfl) hcs i hlt
      have hmem := getD_mem (d := p0) hlt
      have hpo := hok i hlt
      have hsn := Fine.snoc hlt h4 hfi
      have hlg : longP (l.getD i p0) → ¬ Fine l := fun h hf => hf.long _ hmem h
      have hrw : rawP (l.getD i p0) → ¬ Fine l := fun h hf => hf.raw _ hmem h
      have hhd : ∀ j, j < i → ((l.getD j p0).bits = (l.getD i p0).bits ∧ (l.getD j p0).ad = (l.getD i p0).ad) → ¬ Fine l := fun j hj h hf => by
        have := List.pairwise_iff_getElem.1 hf.held j i (by omega) hlt hj
        apply this
        simpa [List.getD_eq_getElem?_getD, show j < l.length by omega, hlt] using h
      generalize l.getD i p0 = p at *
      obtain ⟨ad, bits, to⟩ := p
      simp only [Px.cells] at hld
      simp only at hhd hpo
      by_cases hlong : longP ⟨ad, bits, to⟩
      · have hnf := hlg hlong
        unfold longP at hlong
        simp only at hlong
        clear hlg hrw hhd hsn
        repeat' first | simp (disch := first | with_reducible assumption | omega) only [go_sem, Bool.true_and, Bool.and_true, Bool.and_self, Bool.false_and, Bool.and_false, Bool.true_or, Bool.or_true, Bool.false_or, Bool.or_false, ↓reduceIte, Nat.reduceEqDiff, Nat.reduceAdd, Nat.reduceMul, Nat.reduceSub, Nat.reduceBEq, Nat.reduceLeDiff, Nat.reduceLT, Nat.reduceMod, Nat.reduceDiv, Int.reduceToNat, Int.reducePow, Int.reduceMul, Int.reduceAdd, Int.reduceSub, Int.reduceLE, Int.reduceLT, Int.reduceNeg, Int.reduceDiv, Int.reduceMod, Int.reduceEq, Int.reduceBEq, Int.reduceBNe, f6, f6b, f6r0, f6r1, f6r2, f6r3, f6r4, f6r5, f6r6, f6r7, f6r8, f6r9, f6r10, f6r11, f6r12, f6r14, f6r15, f6r16, f6r17, f6r18, f6r19, f6r21, f6r23, f6l2, f6, f6b, f6r0, f6r1, f6r2, f6r3, f6r4, f6r5, f6r6, f6r7, f6r8, f6r9, f6r10, f6r11, f6r12, f6r14, f6r15, f6r16, f6r17, f6r18, f6r19, f6r21, f6r23, hk, get_old hk, ↓hld] | (refine BrW.of (fun hb => ?_) (fun hb => ?_) <;> (have hb' := hb; try simp only [decide_eq_true_eq, decide_eq_false_iff_not, beq_iff_eq, bne_iff_ne, beq_eq_false_iff_ne, bne_eq_false_iff_eq, Bool.not_eq_true', Bool.not_eq_false', Bool.not_eq_true, Bool.not_eq_false, Bool.and_eq_true, Bool.or_eq_true, Bool.and_eq_false_iff, Bool.or_eq_false_iff, Int.not_lt, Int.not_le, ne_eq, gt_iff_lt, ge_iff_le] at hb') <;> (try (exfalso; omega))) | (refine altW.of ?_ ?_)
        all_goals exact .back rfl ⟨2, rfl, rfl, iff_of_false (by decide) hnf⟩
      · have hb : 0 ≤ bits ∧ bits ≤ 32 := by unfold longP at hlong; simp only at hlong; omega
        have hsn2 := hsn hlong
        clear hsn hlong hlg
        obtain ⟨n, rfl⟩ := Int.eq_ofNat_of_zero_le hb.1
        repeat' first | simp (disch := first | with_reducible assumption | omega) only [go_sem, Bool.true_and, Bool.and_true, Bool.and_self, Bool.false_and, Bool.and_false, Bool.true_or, Bool.or_true, Bool.false_or, Bool.or_false, ↓reduceIte, Nat.reduceEqDiff, Nat.reduceAdd, Nat.reduceMul, Nat.reduceSub, Nat.reduceBEq, Nat.reduceLeDiff, Nat.reduceLT, Nat.reduceMod, Nat.reduceDiv, Int.reduceToNat, Int.reducePow, Int.reduceMul, Int.reduceAdd, Int.reduceSub, Int.reduceLE, Int.reduceLT, Int.reduceNeg, Int.reduceDiv, Int.reduceMod, Int.reduceEq, Int.reduceBEq, Int.reduceBNe, f6, f6b, f6r0, f6r1, f6r2, f6r3, f6r4, f6r5, f6r6, f6r7, f6r8, f6r9, f6r10, f6r11, f6r12, f6r14, f6r15, f6r16, f6r17, f6r18, f6r19, f6r21, f6r23, f6l2, hk, get_old hk, ↓hld] | (refine BrW.of (fun hb => ?_) (fun hb => ?_) <;> (have hb' := hb; try simp only [decide_eq_true_eq, decide_eq_false_iff_not, beq_iff_eq, bne_iff_ne, beq_eq_false_iff_ne, bne_eq_false_iff_eq, Bool.not_eq_true', Bool.not_eq_false', Bool.not_eq_true, Bool.not_eq_false, Bool.and_eq_true, Bool.or_eq_true, Bool.and_eq_false_iff, Bool.or_eq_false_iff, Int.not_lt, Int.not_le, ne_eq, gt_iff_lt, ge_iff_le] at hb') <;> (try (exfalso; omega))) | (refine altW.of ?_ ?_)
        refine loopW.of (by decide) (fun m e H2 => ∃ j : Nat, e = [(0, slv k o g l.length c), (3, .int .i64 i), (4, .pointer (some ⟨H''.length, 0, some 1⟩)), (5, .int .i64 j), (11, slv k o g l.length c), (12, .int .i64 l.length), (13, .int .i64 i)] ∧ H2 = H'' ++ [.cells 0 0 false [.int .u8 ad.b0, .int .u8 ad.b1, .int .u8 ad.b2, .int .u8 ad.b3, .int .i64 n, .int .i64 to]] ∧ n ≤ j ∧ j ≤ 32 ∧ m = 32 - j ∧ ∀ q, n ≤ q → q < j → bit ad q ≠ 1) (32 - n) ⟨n, rfl, rfl, by omega, by omega, rfl, fun q h1 h2 => by omega⟩ ?_
        rintro m e H2 ⟨j, rfl, rfl, hj0, hj1, rfl, hin⟩
        by_cases hj : j < 32
        · have hbs := fun H' => bit_spec ad j H' hpo hj
          by_cases hone : bit ad j = 1
          · have hnf := hrw ⟨j, hj, by simpa using hj0, hone⟩
            rw [hone] at hbs
            clear hin hrw hhd hsn2
            repeat' first | simp (disch := first | with_reducible assumption | omega) only [go_sem, Bool.true_and, Bool.and_true, Bool.and_self, Bool.false_and, Bool.and_false, Bool.true_or, Bool.or_true, Bool.false_or, Bool.or_false, ↓reduceIte, Nat.reduceEqDiff, Nat.reduceAdd, Nat.reduceMul, Nat.reduceSub, Nat.reduceBEq, Nat.reduceLeDiff, Nat.reduceLT, Nat.reduceMod, Nat.reduceDiv, Int.reduceToNat, Int.reducePow, Int.reduceMul, Int.reduceAdd, Int.reduceSub, Int.reduceLE, Int.reduceLT, Int.reduceNeg, Int.reduceDiv, Int.reduceMod, Int.reduceEq, Int.reduceBEq, Int.reduceBNe, f6, f6b, f6r0, f6r1, f6r2, f6r3, f6r4, f6r5, f6r6, f6r7, f6r8, f6r9, f6r10, f6r11, f6r12, f6r14, f6r15, f6r16, f6r17, f6r18, f6r19, f6r21, f6r23, f6l0, f6, f6b, f6r0, f6r1, f6r2, f6r3, f6r4, f6r5, f6r6, f6r7, f6r8, f6r9, f6r10, f6r11, f6r12, f6r14, f6r15, f6r16, f6r17, f6r18, f6r19, f6r21, f6r23] | (refine BrW.of (fun hb => ?_) (fun hb => ?_) <;> (have hb' := hb; try simp only [decide_eq_true_eq, decide_eq_false_iff_not, beq_iff_eq, bne_iff_ne, beq_eq_false_iff_ne, bne_eq_false_iff_eq, Bool.not_eq_true', Bool.not_eq_false', Bool.not_eq_true, Bool.not_eq_false, Bool.and_eq_true, Bool.or_eq_true, Bool.and_eq_false_iff, Bool.or_eq_false_iff, Int.not_lt, Int.not_le, ne_eq, gt_iff_lt, ge_iff_le] at hb') <;> (try (exfalso; omega))) | (refine altW.of ?_ ?_) | (refine .of ((hbs _).mono ?_); rintro v _ ⟨rfl, rfl⟩)
            all_goals exact .back rfl ⟨1, rfl, rfl, iff_of_false (by decide) hnf⟩
          · have hz : bit ad j = 0 := by rcases bit_two ad j with h | h; exact h; exact (hone h).elim
            have hnx : ∀ q, n ≤ q → q < j + 1 → bit ad q ≠ 1 := fun q h1 h2 => by
              by_cases e : q = j
              · rw [e]; exact hone
              · exact hin q h1 (by omega)
            rw [hz] at hbs
            clear hin hrw hhd hsn2 hz hone
            repeat' first | simp (disch := first | with_reducible assumption | omega) only [go_sem, Bool.true_and, Bool.and_true, Bool.and_self, Bool.false_and, Bool.and_false, Bool.true_or, Bool.or_true, Bool.false_or, Bool.or_false, ↓reduceIte, Nat.reduceEqDiff, Nat.reduceAdd, Nat.reduceMul, Nat.reduceSub, Nat.reduceBEq, Nat.reduceLeDiff, Nat.reduceLT, Nat.reduceMod, Nat.reduceDiv, Int.reduceToNat, Int.reducePow, Int.reduceMul, Int.reduceAdd, Int.reduceSub, Int.reduceLE, Int.reduceLT, Int.reduceNeg, Int.reduceDiv, Int.reduceMod, Int.reduceEq, Int.reduceBEq, Int.reduceBNe, f6, f6b, f6r0, f6r1, f6r2, f6r3, f6r4, f6r5, f6r6, f6r7, f6r8, f6r9, f6r10, f6r11, f6r12, f6r14, f6r15, f6r16, f6r17, f6r18, f6r19, f6r21, f6r23, f6l0, f6, f6b, f6r0, f6r1, f6r2, f6r3, f6r4, f6r5, f6r6, f6r7, f6r8, f6r9, f6r10, f6r11, f6r12, f6r14, f6r15, f6r16, f6r17, f6r18, f6r19, f6r21, f6r23] | (refine BrW.of (fun hb => ?_) (fun hb => ?_) <;> (have hb' := hb; try simp only [decide_eq_true_eq, decide_eq_false_iff_not, beq_iff_eq, bne_iff_ne, beq_eq_false_iff_ne, bne_eq_false_iff_eq, Bool.not_eq_true', Bool.not_eq_false', Bool.not_eq_true, Bool.not_eq_false, Bool.and_eq_true, Bool.or_eq_true, Bool.and_eq_false_iff, Bool.or_eq_false_iff, Int.not_lt, Int.not_le, ne_eq, gt_iff_lt, ge_iff_le] at hb') <;> (try (exfalso; omega))) | (refine altW.of ?_ ?_) | (refine .of ((hbs _).mono ?_); rintro v _ ⟨rfl, rfl⟩)
            refine RdW.cut1 [0, 3, 4, 5, 11, 12, 13] (32 - (j + 1)) (by omega) rfl ?_ ?_
            · simp (disch := first | with_reducible assumption | omega) only [go_sem, Bool.true_and, Bool.and_true, Bool.and_self, Bool.false_and, Bool.and_false, Bool.true_or, Bool.or_true, Bool.false_or, Bool.or_false, ↓reduceIte, Nat.reduceEqDiff, Nat.reduceAdd, Nat.reduceMul, Nat.reduceSub, Nat.reduceBEq, Nat.reduceLeDiff, Nat.reduceLT, Nat.reduceMod, Nat.reduceDiv, Int.reduceToNat, Int.reducePow, Int.reduceMul, Int.reduceAdd, Int.reduceSub, Int.reduceLE, Int.reduceLT, Int.reduceNeg, Int.reduceDiv, Int.reduceMod, Int.reduceEq, Int.reduceBEq, Int.reduceBNe]
              simp; omega
            · simp (disch := first | with_reducible assumption | omega) only [go_sem, Bool.true_and, Bool.and_true, Bool.and_self, Bool.false_and, Bool.and_false, Bool.true_or, Bool.or_true, Bool.false_or, Bool.or_false, ↓reduceIte, Nat.reduceEqDiff, Nat.reduceAdd, Nat.reduceMul, Nat.reduceSub, Nat.reduceBEq, Nat.reduceLeDiff, Nat.reduceLT, Nat.reduceMod, Nat.reduceDiv, Int.reduceToNat, Int.reducePow, Int.reduceMul, Int.reduceAdd, Int.reduceSub, Int.reduceLE, Int.reduceLT, Int.reduceNeg, Int.reduceDiv, Int.reduceMod, Int.reduceEq, Int.reduceBEq, Int.reduceBNe]
              exact ⟨j + 1, rfl, by omega, by omega, rfl, hnx⟩
        · have hnr : ¬ rawP ⟨ad, (n : Int), to⟩ := fun ⟨q, h1, h2, h3⟩ => hin q (by simpa using h2) (by omega) h3
          have hsn3 := hsn2 hnr
          simp only at hsn3
          clear hin hrw hsn2 hnr
          repeat' first | simp (disch := first | with_reducible assumption | omega) only [go_sem, Bool.true_and, Bool.and_true, Bool.and_self, Bool.false_and, Bool.and_false, Bool.true_or, Bool.or_true, Bool.false_or, Bool.or_false, ↓reduceIte, Nat.reduceEqDiff, Nat.reduceAdd, Nat.reduceMul, Nat.reduceSub, Nat.reduceBEq, Nat.reduceLeDiff, Nat.reduceLT, Nat.reduceMod, Nat.reduceDiv, Int.reduceToNat, Int.reducePow, Int.reduceMul, Int.reduceAdd, Int.reduceSub, Int.reduceLE, Int.reduceLT, Int.reduceNeg, Int.reduceDiv, Int.reduceMod, Int.reduceEq, Int.reduceBEq, Int.reduceBNe, f6, f6b, f6r0, f6r1, f6r2, f6r3, f6r4, f6r5, f6r6, f6r7, f6r8, f6r9, f6r10, f6r11, f6r12, f6r14, f6r15, f6r16, f6r17, f6r18, f6r19, f6r21, f6r23, f6l0, f6, f6b, f6r0, f6r1, f6r2, f6r3, f6r4, f6r5, f6r6, f6r7, f6r8, f6r9, f6r10, f6r11, f6r12, f6r14, f6r15, f6r16, f6r17, f6r18, f6r19, f6r21, f6r23, hk, get_old hk] | (refine BrW.of (fun hb => ?_) (fun hb => ?_) <;> (have hb' := hb; try simp only [decide_eq_true_eq, decide_eq_false_iff_not, beq_iff_eq, bne_iff_ne, beq_eq_false_iff_ne, bne_eq_false_iff_eq, Bool.not_eq_true', Bool.not_eq_false', Bool.not_eq_true, Bool.not_eq_false, Bool.and_eq_true, Bool.or_eq_true, Bool.and_eq_false_iff, Bool.or_eq_false_iff, Int.not_lt, Int.not_le, ne_eq, gt_iff_lt, ge_iff_le] at hb') <;> (try (exfalso; omega))) | (refine altW.of ?_ ?_)
          refine loopW.of (by decide) (fun m e H2 => ∃ j : Nat, e = [(0, slv k o g l.length c), (4, .pointer (some ⟨H''.length, 0, some 1⟩)), (11, slv k o g l.length c), (12, .int .i64 l.length), (13, .int .i64 i), (39, slv k o g i c), (40, .int .i64 i), (41, .int .i64 j)] ∧ H2 = H'' ++ [.cells 0 0 false [.int .u8 ad.b0, .int .u8 ad.b1, .int .u8 ad.b2, .int .u8 ad.b3, .int .i64 n, .int .i64 to]] ∧ j ≤ i ∧ m = i - j ∧ ∀ q, q < j → ¬ ((l.getD q p0).bits = n ∧ (l.getD q p0).ad = ad)) i ⟨0, rfl, rfl, by omega, rfl, fun q h => by omega⟩ ?_
          rintro m e H2 ⟨q, rfl, rfl, hq, rfl, hin⟩
          by_cases hqi : q < i
          · have hldq := Tbl.ld (enc := Px.cells) (fun _ => rfl) hcs q (by omega)
            have hhq := hhd q hqi
            have hnx : ¬ ((l.getD q p0).bits = n ∧ (l.getD q p0).ad = ad) → ∀ j, j < q + 1 → ¬ ((l.getD j p0).bits = n ∧ (l.getD j p0).ad = ad) := fun h j hj => by
              by_cases e : j = q
              · rw [e]; exact h
              · exact hin j (by omega)
            generalize l.getD q p0 = r at *
            simp only [Px.cells] at hldq
            have hsa := same_A r.ad ad
            by_cases hbn : r.bits = (n : Int)
            · by_cases hda : r.ad = ad
              · have hnf := hhq ⟨hbn, hda⟩
                rw [decide_eq_true hda] at hsa
                clear hhq hnx hhd hsn3 hin hda
                repeat' first | simp (disch := first | with_reducible assumption | omega) only [go_sem, Bool.true_and, Bool.and_true, Bool.and_self, Bool.false_and, Bool.and_false, Bool.true_or, Bool.or_true, Bool.false_or, Bool.or_false, ↓reduceIte, Nat.reduceEqDiff, Nat.reduceAdd, Nat.reduceMul, Nat.reduceSub, Nat.reduceBEq, Nat.reduceLeDiff, Nat.reduceLT, Nat.reduceMod, Nat.reduceDiv, Int.reduceToNat, Int.reducePow, Int.reduceMul, Int.reduceAdd, Int.reduceSub, Int.reduceLE, Int.reduceLT, Int.reduceNeg, Int.reduceDiv, Int.reduceMod, Int.reduceEq, Int.reduceBEq, Int.reduceBNe, f6, f6b, f6r0, f6r1, f6r2, f6r3, f6r4, f6r5, f6r6, f6r7, f6r8, f6r9, f6r10, f6r11, f6r12, f6r14, f6r15, f6r16, f6r17, f6r18, f6r19, f6r21, f6r23, f6l1, f6, f6b, f6r0, f6r1, f6r2, f6r3, f6r4, f6r5, f6r6, f6r7, f6r8, f6r9, f6r10, f6r11, f6r12, f6r14, f6r15, f6r16, f6r17, f6r18, f6r19, f6r21, f6r23, hk, get_old hk, ↓hldq, ↓hsa] | (refine BrW.of (fun hb => ?_) (fun hb => ?_) <;> (have hb' := hb; try simp only [decide_eq_true_eq, decide_eq_false_iff_not, beq_iff_eq, bne_iff_ne, beq_eq_false_iff_ne, bne_eq_false_iff_eq, Bool.not_eq_true', Bool.not_eq_false', Bool.not_eq_true, Bool.not_eq_false, Bool.and_eq_true, Bool.or_eq_true, Bool.and_eq_false_iff, Bool.or_eq_false_iff, Int.not_lt, Int.not_le, ne_eq, gt_iff_lt, ge_iff_le] at hb') <;> (try (exfalso; omega))) | (refine altW.of ?_ ?_)
                all_goals exact .back rfl ⟨6, rfl, rfl, iff_of_false (by decide) hnf⟩
              · have hnx' := hnx fun h => hda h.2
                rw [decide_eq_false hda] at hsa
                clear hhq hnx hhd hsn3 hin hda
                repeat' first | simp (disch := first | with_reducible assumption | omega) only [go_sem, Bool.true_and, Bool.and_true, Bool.and_self, Bool.false_and, Bool.and_false, Bool.true_or, Bool.or_true, Bool.false_or, Bool.or_false, ↓reduceIte, Nat.reduceEqDiff, Nat.reduceAdd, Nat.reduceMul, Nat.reduceSub, Nat.reduceBEq, Nat.reduceLeDiff, Nat.reduceLT, Nat.reduceMod, Nat.reduceDiv, Int.reduceToNat, Int.reducePow, Int.reduceMul, Int.reduceAdd, Int.reduceSub, Int.reduceLE, Int.reduceLT, Int.reduceNeg, Int.reduceDiv, Int.reduceMod, Int.reduceEq, Int.reduceBEq, Int.reduceBNe, f6, f6b, f6r0, f6r1, f6r2, f6r3, f6r4, f6r5, f6r6, f6r7, f6r8, f6r9, f6r10, f6r11, f6r12, f6r14, f6r15, f6r16, f6r17, f6r18, f6r19, f6r21, f6r23, f6l1, f6, f6b, f6r0, f6r1, f6r2, f6r3, f6r4, f6r5, f6r6, f6r7, f6r8, f6r9, f6r10, f6r11, f6r12, f6r14, f6r15, f6r16, f6r17, f6r18, f6r19, f6r21, f6r23, hk, get_old hk, ↓hldq, ↓hsa] | (refine BrW.of (fun hb => ?_) (fun hb => ?_) <;> (have hb' := hb; try simp only [decide_eq_true_eq, decide_eq_false_iff_not, beq_iff_eq, bne_iff_ne, beq_eq_false_iff_ne, bne_eq_false_iff_eq, Bool.not_eq_true', Bool.not_eq_false', Bool.not_eq_true, Bool.not_eq_false, Bool.and_eq_true, Bool.or_eq_true, Bool.and_eq_false_iff, Bool.or_eq_false_iff, Int.not_lt, Int.not_le, ne_eq, gt_iff_lt, ge_iff_le] at hb') <;> (try (exfalso; omega))) | (refine altW.of ?_ ?_)
                refine RdW.cut1 [0, 4, 11, 12, 13, 39, 40, 41] (i - (q + 1)) (by omega) rfl ?_ ?_
                · simp (disch := first | with_reducible assumption | omega) only [go_sem, Bool.true_and, Bool.and_true, Bool.and_self, Bool.false_and, Bool.and_false, Bool.true_or, Bool.or_true, Bool.false_or, Bool.or_false, ↓reduceIte, Nat.reduceEqDiff, Nat.reduceAdd, Nat.reduceMul, Nat.reduceSub, Nat.reduceBEq, Nat.reduceLeDiff, Nat.reduceLT, Nat.reduceMod, Nat.reduceDiv, Int.reduceToNat, Int.reducePow, Int.reduceMul, Int.reduceAdd, Int.reduceSub, Int.reduceLE, Int.reduceLT, Int.reduceNeg, Int.reduceDiv, Int.reduceMod, Int.reduceEq, Int.reduceBEq, Int.reduceBNe]
                  simp; omega
                · simp (disch := first | with_reducible assumption | omega) only [go_sem, Bool.true_and, Bool.and_true, Bool.and_self, Bool.false_and, Bool.and_false, Bool.true_or, Bool.or_true, Bool.false_or, Bool.or_false, ↓reduceIte, Nat.reduceEqDiff, Nat.reduceAdd, Nat.reduceMul, Nat.reduceSub, Nat.reduceBEq, Nat.reduceLeDiff, Nat.reduceLT, Nat.reduceMod, Nat.reduceDiv, Int.reduceToNat, Int.reducePow, Int.reduceMul, Int.reduceAdd, Int.reduceSub, Int.reduceLE, Int.reduceLT, Int.reduceNeg, Int.reduceDiv, Int.reduceMod, Int.reduceEq, Int.reduceBEq, Int.reduceBNe]
                  exact ⟨q + 1, rfl, by omega, rfl, hnx'⟩
            · have hnx' := hnx fun h => hbn h.1
              clear hhq hnx hhd hsn3 hin
              repeat' first | simp (disch := first | with_reducible assumption | omega) only [go_sem, Bool.true_and, Bool.and_true, Bool.and_self, Bool.false_and, Bool.and_false, Bool.true_or, Bool.or_true, Bool.false_or, Bool.or_false, ↓reduceIte, Nat.reduceEqDiff, Nat.reduceAdd, Nat.reduceMul, Nat.reduceSub, Nat.reduceBEq, Nat.reduceLeDiff, Nat.reduceLT, Nat.reduceMod, Nat.reduceDiv, Int.reduceToNat, Int.reducePow, Int.reduceMul, Int.reduceAdd, Int.reduceSub, Int.reduceLE, Int.reduceLT, Int.reduceNeg, Int.reduceDiv, Int.reduceMod, Int.reduceEq, Int.reduceBEq, Int.reduceBNe, f6, f6b, f6r0, f6r1, f6r2, f6r3, f6r4, f6r5, f6r6, f6r7, f6r8, f6r9, f6r10, f6r11, f6r12, f6r14, f6r15, f6r16, f6r17, f6r18, f6r19, f6r21, f6r23, f6l1, f6, f6b, f6r0, f6r1, f6r2, f6r3, f6r4, f6r5, f6r6, f6r7, f6r8, f6r9, f6r10, f6r11, f6r12, f6r14, f6r15, f6r16, f6r17, f6r18, f6r19, f6r21, f6r23, hk, get_old hk, ↓hldq, ↓hsa] | (refine BrW.of (fun hb => ?_) (fun hb => ?_) <;> (have hb' := hb; try simp only [decide_eq_true_eq, decide_eq_false_iff_not, beq_iff_eq, bne_iff_ne, beq_eq_false_iff_ne, bne_eq_false_iff_eq, Bool.not_eq_true', Bool.not_eq_false', Bool.not_eq_true, Bool.not_eq_false, Bool.and_eq_true, Bool.or_eq_true, Bool.and_eq_false_iff, Bool.or_eq_false_iff, Int.not_lt, Int.not_le, ne_eq, gt_iff_lt, ge_iff_le] at hb') <;> (try (exfalso; omega))) | (refine altW.of ?_ ?_)
              refine RdW.cut1 [0, 4, 11, 12, 13, 39, 40, 41] (i - (q + 1)) (by omega) rfl ?_ ?_
              · simp (disch := first | with_reducible assumption | omega) only [go_sem, Bool.true_and, Bool.and_true, Bool.and_self, Bool.false_and, Bool.and_false, Bool.true_or, Bool.or_true, Bool.false_or, Bool.or_false, ↓reduceIte, Nat.reduceEqDiff, Nat.reduceAdd, Nat.reduceMul, Nat.reduceSub, Nat.reduceBEq, Nat.reduceLeDiff, Nat.reduceLT, Nat.reduceMod, Nat.reduceDiv, Int.reduceToNat, Int.reducePow, Int.reduceMul, Int.reduceAdd, Int.reduceSub, Int.reduceLE, Int.reduceLT, Int.reduceNeg, Int.reduceDiv, Int.reduceMod, Int.reduceEq, Int.reduceBEq, Int.reduceBNe]
                simp; omega
              · simp (disch := first | with_reducible assumption | omega) only [go_sem, Bool.true_and, Bool.and_true, Bool.and_self, Bool.false_and, Bool.and_false, Bool.true_or, Bool.or_true, Bool.false_or, Bool.or_false, ↓reduceIte, Nat.reduceEqDiff, Nat.reduceAdd, Nat.reduceMul, Nat.reduceSub, Nat.reduceBEq, Nat.reduceLeDiff, Nat.reduceLT, Nat.reduceMod, Nat.reduceDiv, Int.reduceToNat, Int.reducePow, Int.reduceMul, Int.reduceAdd, Int.reduceSub, Int.reduceLE, Int.reduceLT, Int.reduceNeg, Int.reduceDiv, Int.reduceMod, Int.reduceEq, Int.reduceBEq, Int.reduceBNe]
                exact ⟨q + 1, rfl, by omega, rfl, hnx'⟩
          · have hsn4 := hsn3 fun j hj => hin j (by omega)
            clear hin hsn3 hhd
            repeat' first | simp (disch := first | with_reducible assumption | omega) only [go_sem, Bool.true_and, Bool.and_true, Bool.and_self, Bool.false_and, Bool.and_false, Bool.true_or, Bool.or_true, Bool.false_or, Bool.or_false, ↓reduceIte, Nat.reduceEqDiff, Nat.reduceAdd, Nat.reduceMul, Nat.reduceSub, Nat.reduceBEq, Nat.reduceLeDiff, Nat.reduceLT, Nat.reduceMod, Nat.reduceDiv, Int.reduceToNat, Int.reducePow, Int.reduceMul, Int.reduceAdd, Int.reduceSub, Int.reduceLE, Int.reduceLT, Int.reduceNeg, Int.reduceDiv, Int.reduceMod, Int.reduceEq, Int.reduceBEq, Int.reduceBNe, f6, f6b, f6r0, f6r1, f6r2, f6r3, f6r4, f6r5, f6r6, f6r7, f6r8, f6r9, f6r10, f6r11, f6r12, f6r14, f6r15, f6r16, f6r17, f6r18, f6r19, f6r21, f6r23, f6l1, f6, f6b, f6r0, f6r1, f6r2, f6r3, f6r4, f6r5, f6r6, f6r7, f6r8, f6r9, f6r10, f6r11, f6r12, f6r14, f6r15, f6r16, f6r17, f6r18, f6r19, f6r21, f6r23, hk, get_old hk] | (refine BrW.of (fun hb => ?_) (fun hb => ?_) <;> (have hb' := hb; try simp only [decide_eq_true_eq, decide_eq_false_iff_not, beq_iff_eq, bne_iff_ne, beq_eq_false_iff_ne, bne_eq_false_iff_eq, Bool.not_eq_true', Bool.not_eq_false', Bool.not_eq_true, Bool.not_eq_false, Bool.and_eq_true, Bool.or_eq_true, Bool.and_eq_false_iff, Bool.or_eq_false_iff, Int.not_lt, Int.not_le, ne_eq, gt_iff_lt, ge_iff_le] at hb') <;> (try (exfalso; omega))) | (refine altW.of ?_ ?_)
            refine RdW.cut0 [0, 11, 12, 13] (l.length - (i + 1)) (by omega) ?_ ?_
            · simp (disch := first | with_reducible assumption | omega) only [go_sem, Bool.true_and, Bool.and_true, Bool.and_self, Bool.false_and, Bool.and_false, Bool.true_or, Bool.or_true, Bool.false_or, Bool.or_false, ↓reduceIte, Nat.reduceEqDiff, Nat.reduceAdd, Nat.reduceMul, Nat.reduceSub, Nat.reduceBEq, Nat.reduceLeDiff, Nat.reduceLT, Nat.reduceMod, Nat.reduceDiv, Int.reduceToNat, Int.reducePow, Int.reduceMul, Int.reduceAdd, Int.reduceSub, Int.reduceLE, Int.reduceLT, Int.reduceNeg, Int.reduceDiv, Int.reduceMod, Int.reduceEq, Int.reduceBEq, Int.reduceBNe]
              simp; omega
            · simp (disch := first | with_reducible assumption | omega) only [go_sem, Bool.true_and, Bool.and_true, Bool.and_self, Bool.false_and, Bool.and_false, Bool.true_or, Bool.or_true, Bool.false_or, Bool.or_false, ↓reduceIte, Nat.reduceEqDiff, Nat.reduceAdd, Nat.reduceMul, Nat.reduceSub, Nat.reduceBEq, Nat.reduceLeDiff, Nat.reduceLT, Nat.reduceMod, Nat.reduceDiv, Int.reduceToNat, Int.reducePow, Int.reduceMul, Int.reduceAdd, Int.reduceSub, Int.reduceLE, Int.reduceLT, Int.reduceNeg, Int.reduceDiv, Int.reduceMod, Int.reduceEq, Int.reduceBEq, Int.reduceBNe]
              exact ⟨i + 1, rfl, by omega, rfl, hsn4⟩
    · obtain rfl : i = l.length := by omega
      rw [List.take_length] at hfi
      repeat' first | simp (disch := first | with_reducible assumption | omega) only [go_sem, Bool.true_and, Bool.and_true, Bool.and_self, Bool.false_and, Bool.and_false, Bool.true_or, Bool.or_true, Bool.false_or, Bool.or_false, ↓reduceIte, Nat.reduceEqDiff, Nat.reduceAdd, Nat.reduceMul, Nat.reduceSub, Nat.reduceBEq, Nat.reduceLeDiff, Nat.reduceLT, Nat.reduceMod, Nat.reduceDiv, Int.reduceToNat, Int.reducePow, Int.reduceMul, Int.reduceAdd, Int.reduceSub, Int.reduceLE, Int.reduceLT, Int.reduceNeg, Int.reduceDiv, Int.reduceMod, Int.reduceEq, Int.reduceBEq, Int.reduceBNe, f6, f6b, f6r0, f6r1, f6r2, f6r3, f6r4, f6r5, f6r6, f6r7, f6r8, f6r9, f6r10, f6r11, f6r12, f6r14, f6r15, f6r16, f6r17, f6r18, f6r19, f6r21, f6r23, f6l2, f6, f6b, f6r0, f6r1, f6r2, f6r3, f6r4, f6r5, f6r6, f6r7, f6r8, f6r9, f6r10, f6r11, f6r12, f6r14, f6r15, f6r16, f6r17, f6r18, f6r19, f6r21, f6r23, hk] | (refine BrW.of (fun hb => ?_) (fun hb => ?_) <;> (have hb' := hb; try simp only [decide_eq_true_eq, decide_eq_false_iff_not, beq_iff_eq, bne_iff_ne, beq_eq_false_iff_ne, bne_eq_false_iff_eq, Bool.not_eq_true', Bool.not_eq_false', Bool.not_eq_true, Bool.not_eq_false, Bool.and_eq_true, Bool.or_eq_true, Bool.and_eq_false_iff, Bool.or_eq_false_iff, Int.not_lt, Int.not_le, ne_eq, gt_iff_lt, ge_iff_le] at hb') <;> (try (exfalso; omega))) | (refine altW.of ?_ ?_)
      exact .here ⟨0, rfl, rfl, iff_of_true rfl hfi⟩
  · have hnf : ¬ Fine l := fun h => h4 h.len
    repeat' first | simp (disch := first | with_reducible assumption | omega) only [go_sem, Bool.true_and, Bool.and_true, Bool.and_self, Bool.false_and, Bool.and_false, Bool.true_or, Bool.or_true, Bool.false_or, Bool.or_false, ↓reduceIte, Nat.reduceEqDiff, Nat.reduceAdd, Nat.reduceMul, Nat.reduceSub, Nat.reduceBEq, Nat.reduceLeDiff, Nat.reduceLT, Nat.reduceMod, Nat.reduceDiv, Int.reduceToNat, Int.reducePow, Int.reduceMul, Int.reduceAdd, Int.reduceSub, Int.reduceLE, Int.reduceLT, Int.reduceNeg, Int.reduceDiv, Int.reduceMod, Int.reduceEq, Int.reduceBEq, Int.reduceBNe, f6, f6b, f6r0, f6r1, f6r2, f6r3, f6r4, f6r5, f6r6, f6r7, f6r8, f6r9, f6r10, f6r11, f6r12, f6r14, f6r15, f6r16, f6r17, f6r18, f6r19, f6r21, f6r23, hk, get_old hk] | (refine BrW.of (fun hb => ?_) (fun hb => ?_) <;> (have hb' := hb; try simp only [decide_eq_true_eq, decide_eq_false_iff_not, beq_iff_eq, bne_iff_ne, beq_eq_false_iff_ne, bne_eq_false_iff_eq, Bool.not_eq_true', Bool.not_eq_false', Bool.not_eq_true, Bool.not_eq_false, Bool.and_eq_true, Bool.or_eq_true, Bool.and_eq_false_iff, Bool.or_eq_false_iff, Int.not_lt, Int.not_le, ne_eq, gt_iff_lt, ge_iff_le] at hb') <;> (try (exfalso; omega))) | (refine altW.of ?_ ?_)
    all_goals exact .here ⟨2, rfl, rfl, iff_of_false (by decide) hnf⟩


abbrev NMap := List Int → Option Nat
abbrev TMap := List Int → Option (Nat × Int)
def kidV (N : NMap) (p : List Int) (b : Int) : Value := match N (p ++ [b]) with | some j => .pointer (some ⟨j, 0, some 1⟩) | none => .pointer none
def toV (T : TMap) (p : List Int) : Value := match T p with | some (j, _) => .pointer (some ⟨j, 0, some 1⟩) | none => .pointer none
/-- A tree of bits in the heap, its objects from base on: where each path's node lies, and what stands for the path. -/
structure Rep (base : Nat) (H : Heap) (N : NMap) (T : TMap) : Prop where
  node : ∀ p k, N p = some k → base ≤ k ∧ H[k]? = some (.cells 0 0 false [kidV N p 0, kidV N p 1, toV T p])
  leaf : ∀ p j v, T p = some (j, v) → H[j]? = some (.cells 0 0 false [.int .i64 v])
  inj : ∀ p q k, N p = some k → N q = some k → p = q
  up : ∀ p b, N (p ++ [b]) ≠ none → N p ≠ none
  tn : ∀ p, T p ≠ none → N p ≠ none
theorem Rep.le {base : Nat} {H H' : Heap} {N : NMap} {T : TMap} (h : Rep base H N T) (hl : Le H H') : Rep base H' N T :=
  ⟨fun p k hk => ⟨(h.node p k hk).1, hl.get (h.node p k hk).2⟩, fun p j v hj => hl.get (h.leaf p j v hj), h.inj, h.up, h.tn⟩
theorem snoc_ne {p q : List Int} {b c : Int} (h : ¬ (p = q ∧ b = c)) : p ++ [b] ≠ q ++ [c] := fun e => by
  have := List.append_inj' e rfl
  exact h ⟨this.1, by simpa using this.2⟩

/-- A new node for one bit more. -/
theorem Rep.grow {base : Nat} {H : Heap} {N : NMap} {T : TMap} (h : Rep base H N T) (hb : base ≤ H.length) {p : List Int} {j : Nat} {b : Int} (hj : N p = some j) (hn : N (p ++ [b]) = none) {x y : Value}
    (hx : x = kidV (fun q => if q = p ++ [b] then some H.length else N q) p 0) (hy : y = kidV (fun q => if q = p ++ [b] then some H.length else N q) p 1) :
    Rep base ((H ++ [AObj.cells 0 0 false [.pointer none, .pointer none, .pointer none]]).set j (.cells 0 0 false [x, y, toV T p])) (fun q => if q = p ++ [b] then some H.length else N q) T := by
  have hjl : j < H.length := (List.getElem?_eq_some_iff.1 (h.node p j hj).2).1
  have hlt : ∀ q k, N q = some k → k < H.length := fun q k hk => (List.getElem?_eq_some_iff.1 (h.node q k hk).2).1
  have hpp : p ≠ p ++ [b] := fun e => by have := congrArg List.length e; simp at this
  refine ⟨fun q k hk => ?_, fun q i v hi => ?_, fun q r k hq hr => ?_, fun q c hq => ?_, fun q hq => ?_⟩
  · by_cases e : q = p ++ [b]
    · subst e
      rw [if_pos rfl] at hk
      cases hk
      refine ⟨hb, ?_⟩
      rw [List.getElem?_set_ne (by omega), get_new0]
      have k0 : ∀ c, kidV (fun q => if q = p ++ [b] then some H.length else N q) (p ++ [b]) c = .pointer none := fun c => by
        unfold kidV
        simp only
        rw [if_neg (fun e => by have := congrArg List.length e; simp at this)]
        cases hc : N (p ++ [b] ++ [c]) with
        | none => rfl
        | some i => exact (h.up _ _ (by rw [hc]; simp) hn).elim
      have t0 : toV T (p ++ [b]) = .pointer none := by
        unfold toV
        cases ht : T (p ++ [b]) with
        | none => rfl
        | some z => exact (h.tn _ (by rw [ht]; simp) hn).elim
      rw [k0, k0, t0]
    · rw [if_neg e] at hk
      have hk' := h.node q k hk
      refine ⟨hk'.1, ?_⟩
      by_cases ek : k = j
      · subst ek
        obtain rfl := h.inj q p k hk hj
        rw [List.getElem?_set_self (by simp; omega), hx, hy]
      · rw [List.getElem?_set_ne (Ne.symm ek), get_old hk'.2]
        have kk : ∀ c, kidV (fun q => if q = p ++ [b] then some H.length else N q) q c = kidV N q c := fun c => by
          unfold kidV
          simp only
          rw [if_neg]
          intro e2
          have := List.append_inj' e2 rfl
          exact ek (Option.some.inj (hk.symm.trans (this.1 ▸ hj)))
        rw [kk, kk]
  · have := h.leaf q i v hi
    have hne : i ≠ j := fun e => by
      rw [e, (h.node p j hj).2] at this
      simp at this
    rw [List.getElem?_set_ne (Ne.symm hne), get_old this]
  · by_cases e : q = p ++ [b]
    · by_cases e2 : r = p ++ [b]
      · rw [e, e2]
      · rw [if_pos e] at hq; rw [if_neg e2] at hr
        have := hlt r k hr
        cases hq; omega
    · rw [if_neg e] at hq
      by_cases e2 : r = p ++ [b]
      · rw [if_pos e2] at hr
        have := hlt q k hq
        cases hr; omega
      · rw [if_neg e2] at hr; exact h.inj q r k hq hr
  · by_cases e : q = p ++ [b]
    · rw [if_pos e]; simp
    · rw [if_neg e]
      by_cases e2 : q ++ [c] = p ++ [b]
      · have := List.append_inj' e2 rfl
        rw [this.1, hj]; simp
      · rw [if_neg e2] at hq; exact h.up q c hq
  · by_cases e : q = p ++ [b]
    · rw [if_pos e]; simp
    · rw [if_neg e]; exact h.tn q hq

/-- What stands for a path from now on. -/
theorem Rep.put {base : Nat} {H : Heap} {N : NMap} {T : TMap} (h : Rep base H N T) {p : List Int} {j : Nat} {v : Int} (hj : N p = some j) :
    Rep base ((H ++ [AObj.cells 0 0 false [.int .i64 v]]).set j (.cells 0 0 false [kidV N p 0, kidV N p 1, .pointer (some ⟨H.length, 0, some 1⟩)])) N (fun q => if q = p then some (H.length, v) else T q) := by
  have hjl : j < H.length := (List.getElem?_eq_some_iff.1 (h.node p j hj).2).1
  refine ⟨fun q k hk => ?_, fun q i w hi => ?_, h.inj, h.up, fun q hq => ?_⟩
  · have hk' := h.node q k hk
    refine ⟨hk'.1, ?_⟩
    by_cases ek : k = j
    · subst ek
      obtain rfl := h.inj q p k hk hj
      rw [List.getElem?_set_self (by simp; omega)]
      unfold toV
      simp
    · rw [List.getElem?_set_ne (Ne.symm ek), get_old hk'.2]
      unfold toV
      simp only
      rw [if_neg]
      intro e
      subst e
      exact ek (Option.some.inj (hk.symm.trans hj))
  · by_cases e : q = p
    · rw [if_pos e] at hi
      cases hi
      rw [List.getElem?_set_ne (by omega), get_new0]
    · rw [if_neg e] at hi
      have := h.leaf q i w hi
      have hne : i ≠ j := fun e => by
        rw [e, (h.node p j hj).2] at this
        simp at this
      rw [List.getElem?_set_ne (Ne.symm hne), get_old this]
  · by_cases e : q = p
    · rw [e, hj]; simp
    · rw [if_neg e] at hq; exact h.tn q hq

theorem build_spec (l : List Px) (k o g c : Nat) (H : Heap) (hs : Ps H k o g l) (hl : l.length ≤ 400) (hf : ∀ x ∈ l, ¬ longP x) (hok : ∀ x ∈ l, x.ad.ok) :
    ACallK Tryz.prog 27 [slv k o g l.length c] H (fun v H' => ∃ N T r, v = .pointer (some ⟨r, 0, some 1⟩) ∧ Le H H' ∧ Rep H.length H' N T ∧ N [] = some r ∧ ∀ p, (T p).map (·.2) = look l p) := by
  obtain ⟨ro, cs, hk, hcl, hcs⟩ := hs.at'
  have hkl := hs.lt
  refine .walkW f27_ok (by simp; decide) (by decide) ?_
  repeat' first | simp (disch := first | with_reducible assumption | omega) only [go_sem, Bool.true_and, Bool.and_true, Bool.and_self, Bool.false_and, Bool.and_false, Bool.true_or, Bool.or_true, Bool.false_or, Bool.or_false, ↓reduceIte, Nat.reduceEqDiff, Nat.reduceAdd, Nat.reduceMul, Nat.reduceSub, Nat.reduceBEq, Nat.reduceLeDiff, Nat.reduceLT, Nat.reduceMod, Nat.reduceDiv, Int.reduceToNat, Int.reducePow, Int.reduceMul, Int.reduceAdd, Int.reduceSub, Int.reduceLE, Int.reduceLT, Int.reduceNeg, Int.reduceDiv, Int.reduceMod, Int.reduceEq, Int.reduceBEq, Int.reduceBNe, f27, f27b, f27r0, f27r1, f27r2, f27r3, f27r4, f27r5, f27r6, f27r7, f27r8, f27r9, f27r10, f27r11, f27r12, f27r13, f27r15, f27r16, f27r17, f27r19, hk, get_old hk] | (refine BrW.of (fun hb => ?_) (fun hb => ?_) <;> (have hb' := hb; try simp only [decide_eq_true_eq, decide_eq_false_iff_not, beq_iff_eq, bne_iff_ne, beq_eq_false_iff_ne, bne_eq_false_iff_eq, Bool.not_eq_true', Bool.not_eq_false', Bool.not_eq_true, Bool.not_eq_false, Bool.and_eq_true, Bool.or_eq_true, Bool.and_eq_false_iff, Bool.or_eq_false_iff, Int.not_lt, Int.not_le, ne_eq, gt_iff_lt, ge_iff_le] at hb') <;> (try (exfalso; omega))) | (refine altW.of ?_ ?_)
  refine loopW.of (by decide) (fun m e H2 => ∃ (i : Nat) (N : NMap) (T : TMap), e = [(3, .pointer (some ⟨H.length, 0, some 1⟩)), (12, slv k o g l.length c), (13, .int .i64 l.length), (14, .int .i64 i)] ∧ Le H H2 ∧ i ≤ l.length ∧ m = l.length - i ∧ Rep H.length H2 N T ∧ N [] = some H.length ∧ ∀ p, (T p).map (·.2) = look (l.take i) p) l.length
    ⟨0, fun p => if p = [] then some H.length else none, fun _ => none, rfl, .app _ _, by omega, rfl, ⟨fun p k hk => ?_, fun p j v h => (by cases h), fun p q k hp hq => ?_, fun p b hb => ?_, fun p h => (h rfl).elim⟩, rfl, fun p => rfl⟩ ?_
  · by_cases e : p = []
    · rw [if_pos e] at hk
      cases hk
      refine ⟨Nat.le_refl _, ?_⟩
      rw [get_new0, e]; rfl
    · rw [if_neg e] at hk; cases hk
  · by_cases e : p = []
    · by_cases e2 : q = []
      · rw [e, e2]
      · rw [if_neg e2] at hq; cases hq
    · rw [if_neg e] at hp; cases hp
  · rw [if_neg (by simp)] at hb; exact (hb rfl).elim
  rintro m e H2 ⟨i, N, T, rfl, hle, hi, rfl, hR, hN, hT⟩
  have hk2 := hle.get hk
  by_cases hlt : i < l.length
  · have hld := Tbl.ld (enc := Px.cells) (fun _ => rfl) hcs i hlt
    have hmem := getD_mem (d := p0) hlt
    have hlg := hf _ hmem
    have hpo := hok _ hmem
    have htk : ∀ p, ((l.getD i p0).path = p → look (l.take (i + 1)) p = some (l.getD i p0).to) ∧ (¬ (l.getD i p0).path = p → look (l.take (i + 1)) p = look (l.take i) p) := fun p => ⟨fun h => by rw [take_snoc p0 l i hlt, look_snoc, if_pos h], fun h => by rw [take_snoc p0 l i hlt, look_snoc, if_neg h]⟩
    generalize l.getD i p0 = x at *
    obtain ⟨ad, bits, to⟩ := x
    have hb : 0 ≤ bits ∧ bits ≤ 32 := by unfold longP at hlg; simp only at hlg; omega
    obtain ⟨n, rfl⟩ := Int.eq_ofNat_of_zero_le hb.1
    simp only [Px.cells] at hld
    simp only at hpo
    simp only [Px.path, Int.toNat_natCast] at htk
    repeat' first | simp (disch := first | with_reducible assumption | omega) only [go_sem, Bool.true_and, Bool.and_true, Bool.and_self, Bool.false_and, Bool.and_false, Bool.true_or, Bool.or_true, Bool.false_or, Bool.or_false, ↓reduceIte, Nat.reduceEqDiff, Nat.reduceAdd, Nat.reduceMul, Nat.reduceSub, Nat.reduceBEq, Nat.reduceLeDiff, Nat.reduceLT, Nat.reduceMod, Nat.reduceDiv, Int.reduceToNat, Int.reducePow, Int.reduceMul, Int.reduceAdd, Int.reduceSub, Int.reduceLE, Int.reduceLT, Int.reduceNeg, Int.reduceDiv, Int.reduceMod, Int.reduceEq, Int.reduceBEq, Int.reduceBNe, f27, f27b, f27r0, f27r1, f27r2, f27r3, f27r4, f27r5, f27r6, f27r7, f27r8, f27r9, f27r10, f27r11, f27r12, f27r13, f27r15, f27r16, f27r17, f27r19, f27l1, hk2, get_old hk2, ↓hld] | (refine BrW.of (fun hb => ?_) (fun hb => ?_) <;> (have hb' := hb; try simp only [decide_eq_true_eq, decide_eq_false_iff_not, beq_iff_eq, bne_iff_ne, beq_eq_false_iff_ne, bne_eq_false_iff_eq, Bool.not_eq_true', Bool.not_eq_false', Bool.not_eq_true, Bool.not_eq_false, Bool.and_eq_true, Bool.or_eq_true, Bool.and_eq_false_iff, Bool.or_eq_false_iff, Int.not_lt, Int.not_le, ne_eq, gt_iff_lt, ge_iff_le] at hb') <;> (try (exfalso; omega))) | (refine altW.of ?_ ?_)
    have hle3 := hle.trans (.app H2 [.cells 0 0 false [.int .u8 ad.b0, .int .u8 ad.b1, .int .u8 ad.b2, .int .u8 ad.b3, .int .i64 n, .int .i64 to]])
    have hR3 := hR.le (.app H2 [.cells 0 0 false [.int .u8 ad.b0, .int .u8 ad.b1, .int .u8 ad.b2, .int .u8 ad.b3, .int .i64 n, .int .i64 to]])
    have hP3 : (H2 ++ [.cells 0 0 false [.int .u8 ad.b0, .int .u8 ad.b1, .int .u8 ad.b2, .int .u8 ad.b3, .int .i64 n, .int .i64 to]])[H2.length]? = some _ := get_new0 _ _ _
    have hn32 : n ≤ 32 := by omega
    have hPH : H.length ≤ H2.length := by obtain ⟨X, rfl⟩ := hle; simp
    generalize H2 ++ [.cells 0 0 false [.int .u8 ad.b0, .int .u8 ad.b1, .int .u8 ad.b2, .int .u8 ad.b3, .int .i64 n, .int .i64 to]] = J at *
    generalize H2.length = P at *
    clear hle hR hk2
    refine loopW.of (by decide) (fun m e J2 => ∃ (q cur : Nat) (N : NMap), e = [(3, .pointer (some ⟨H.length, 0, some 1⟩)), (5, .pointer (some ⟨P, 0, some 1⟩)), (6, .pointer (some ⟨cur, 0, some 1⟩)), (12, slv k o g l.length c), (13, .int .i64 l.length), (14, .int .i64 i), (20, .int .i64 n), (21, .int .i64 q)] ∧ Le H J2 ∧ q ≤ n ∧ m = n - q ∧ Rep H.length J2 N T ∧ N [] = some H.length ∧ N (pathOf ad q) = some cur ∧ J2[P]? = some (.cells 0 0 false [.int .u8 ad.b0, .int .u8 ad.b1, .int .u8 ad.b2, .int .u8 ad.b3, .int .i64 n, .int .i64 to])) n
      ⟨0, H.length, N, rfl, hle3, by omega, rfl, hR3, hN, hN, hP3⟩ ?_
    clear hle3 hR3 hN hP3
    rintro m e J2 ⟨q, cur, N, rfl, hle, hq, rfl, hR, hN, hcur, hP⟩
    obtain ⟨hcb, hcn⟩ := hR.node _ _ hcur
    have hJl : H.length ≤ J2.length := by obtain ⟨X, rfl⟩ := hle; simp
    by_cases hqn : q < n
    · have hbs := fun H' => bit_spec ad q H' hpo (by omega)
      have hpath : pathOf ad (q + 1) = pathOf ad q ++ [bit ad q] := rfl
      have hPc : P ≠ cur := fun e => by rw [e, hcn] at hP; simp at hP
      cases hk2 : N (pathOf ad q ++ [bit ad q]) with
      | none =>
        have hg := fun x y h1 h2 => hR.grow (x := x) (y := y) hJl hcur hk2 h1 h2
        have hcl : cur < J2.length := (List.getElem?_eq_some_iff.1 hcn).1
        have hkv : ∀ b, kidV (fun p => if p = pathOf ad q ++ [bit ad q] then some J2.length else N p) (pathOf ad q) b = if b = bit ad q then .pointer (some ⟨J2.length, 0, some 1⟩) else kidV N (pathOf ad q) b := fun b => by
          unfold kidV
          simp only
          by_cases e : b = bit ad q
          · rw [if_pos (by rw [e]), if_pos e]
          · rw [if_neg (fun h => e (by simpa using (List.append_inj' h rfl).2)), if_neg e]
        have hN2 : (if ([] : List Int) = pathOf ad q ++ [bit ad q] then some J2.length else N []) = some H.length := by rw [if_neg (by simp)]; exact hN
        have hcur2 : (if pathOf ad (q + 1) = pathOf ad q ++ [bit ad q] then some J2.length else N (pathOf ad (q + 1))) = some J2.length := if_pos hpath
        have hk0 : kidV N (pathOf ad q) (bit ad q) = .pointer none := by unfold kidV; rw [hk2]
        have hcn' := get_old hcn [.cells 0 0 false [.pointer none, .pointer none, .pointer none]]
        rcases bit_two ad q with hz | hz
        · rw [hz] at hbs hk0
          rw [hk0] at hcn hcn'
          have hR2 := hg (.pointer (some ⟨J2.length, 0, some 1⟩)) (kidV N (pathOf ad q) 1) (by rw [hkv, hz]; rfl) (by rw [hkv, hz]; rfl)
          generalize kidV N (pathOf ad q) 1 = kv at *
          generalize toV T (pathOf ad q) = tv at *
          have hset := fun X => get_set_hit (x := X) hcn'
          have hP' : ∀ X, (List.set (J2 ++ [AObj.cells 0 0 false [.pointer none, .pointer none, .pointer none]]) cur X)[P]? = some (.cells 0 0 false [.int .u8 ad.b0, .int .u8 ad.b1, .int .u8 ad.b2, .int .u8 ad.b3, .int .i64 n, .int .i64 to]) := fun X => by rw [List.getElem?_set_ne (Ne.symm hPc)]; exact get_old hP _
          repeat' first | simp (disch := first | with_reducible assumption | omega) only [go_sem, Bool.true_and, Bool.and_true, Bool.and_self, Bool.false_and, Bool.and_false, Bool.true_or, Bool.or_true, Bool.false_or, Bool.or_false, ↓reduceIte, Nat.reduceEqDiff, Nat.reduceAdd, Nat.reduceMul, Nat.reduceSub, Nat.reduceBEq, Nat.reduceLeDiff, Nat.reduceLT, Nat.reduceMod, Nat.reduceDiv, Int.reduceToNat, Int.reducePow, Int.reduceMul, Int.reduceAdd, Int.reduceSub, Int.reduceLE, Int.reduceLT, Int.reduceNeg, Int.reduceDiv, Int.reduceMod, Int.reduceEq, Int.reduceBEq, Int.reduceBNe, f27, f27b, f27r0, f27r1, f27r2, f27r3, f27r4, f27r5, f27r6, f27r7, f27r8, f27r9, f27r10, f27r11, f27r12, f27r13, f27r15, f27r16, f27r17, f27r19, f27l0, hP, hcn, get_old hcn, hset] | (refine BrW.of (fun hb => ?_) (fun hb => ?_) <;> (have hb' := hb; try simp only [decide_eq_true_eq, decide_eq_false_iff_not, beq_iff_eq, bne_iff_ne, beq_eq_false_iff_ne, bne_eq_false_iff_eq, Bool.not_eq_true', Bool.not_eq_false', Bool.not_eq_true, Bool.not_eq_false, Bool.and_eq_true, Bool.or_eq_true, Bool.and_eq_false_iff, Bool.or_eq_false_iff, Int.not_lt, Int.not_le, ne_eq, gt_iff_lt, ge_iff_le] at hb') <;> (try (exfalso; omega))) | (refine altW.of ?_ ?_) | (refine .of ((hbs _).mono ?_); rintro v J2 ⟨rfl, rfl⟩)
          refine RdW.keep [3, 5, 6, 12, 13, 14, 20, 21] (n - (q + 1)) (by omega) ?_
          simp (disch := first | with_reducible assumption | omega) only [go_sem, Bool.true_and, Bool.and_true, Bool.and_self, Bool.false_and, Bool.and_false, Bool.true_or, Bool.or_true, Bool.false_or, Bool.or_false, ↓reduceIte, Nat.reduceEqDiff, Nat.reduceAdd, Nat.reduceMul, Nat.reduceSub, Nat.reduceBEq, Nat.reduceLeDiff, Nat.reduceLT, Nat.reduceMod, Nat.reduceDiv, Int.reduceToNat, Int.reducePow, Int.reduceMul, Int.reduceAdd, Int.reduceSub, Int.reduceLE, Int.reduceLT, Int.reduceNeg, Int.reduceDiv, Int.reduceMod, Int.reduceEq, Int.reduceBEq, Int.reduceBNe]
          exact ⟨q + 1, J2.length, _, rfl, Le.set (hle.trans (.app _ _)) hcb, by omega, rfl, hR2, hN2, hcur2, hP' _⟩
        · rw [hz] at hbs hk0
          rw [hk0] at hcn hcn'
          have hR2 := hg (kidV N (pathOf ad q) 0) (.pointer (some ⟨J2.length, 0, some 1⟩)) (by rw [hkv, hz]; rfl) (by rw [hkv, hz]; rfl)
          generalize kidV N (pathOf ad q) 0 = kv at *
          generalize toV T (pathOf ad q) = tv at *
          have hset := fun X => get_set_hit (x := X) hcn'
          have hP' : ∀ X, (List.set (J2 ++ [AObj.cells 0 0 false [.pointer none, .pointer none, .pointer none]]) cur X)[P]? = some (.cells 0 0 false [.int .u8 ad.b0, .int .u8 ad.b1, .int .u8 ad.b2, .int .u8 ad.b3, .int .i64 n, .int .i64 to]) := fun X => by rw [List.getElem?_set_ne (Ne.symm hPc)]; exact get_old hP _
          repeat' first | simp (disch := first | with_reducible assumption | omega) only [go_sem, Bool.true_and, Bool.and_true, Bool.and_self, Bool.false_and, Bool.and_false, Bool.true_or, Bool.or_true, Bool.false_or, Bool.or_false, ↓reduceIte, Nat.reduceEqDiff, Nat.reduceAdd, Nat.reduceMul, Nat.reduceSub, Nat.reduceBEq, Nat.reduceLeDiff, Nat.reduceLT, Nat.reduceMod, Nat.reduceDiv, Int.reduceToNat, Int.reducePow, Int.reduceMul, Int.reduceAdd, Int.reduceSub, Int.reduceLE, Int.reduceLT, Int.reduceNeg, Int.reduceDiv, Int.reduceMod, Int.reduceEq, Int.reduceBEq, Int.reduceBNe, f27, f27b, f27r0, f27r1, f27r2, f27r3, f27r4, f27r5, f27r6, f27r7, f27r8, f27r9, f27r10, f27r11, f27r12, f27r13, f27r15, f27r16, f27r17, f27r19, f27l0, hP, hcn, get_old hcn, hset] | (refine BrW.of (fun hb => ?_) (fun hb => ?_) <;> (have hb' := hb; try simp only [decide_eq_true_eq, decide_eq_false_iff_not, beq_iff_eq, bne_iff_ne, beq_eq_false_iff_ne, bne_eq_false_iff_eq, Bool.not_eq_true', Bool.not_eq_false', Bool.not_eq_true, Bool.not_eq_false, Bool.and_eq_true, Bool.or_eq_true, Bool.and_eq_false_iff, Bool.or_eq_false_iff, Int.not_lt, Int.not_le, ne_eq, gt_iff_lt, ge_iff_le] at hb') <;> (try (exfalso; omega))) | (refine altW.of ?_ ?_) | (refine .of ((hbs _).mono ?_); rintro v J2 ⟨rfl, rfl⟩)
          refine RdW.keep [3, 5, 6, 12, 13, 14, 20, 21] (n - (q + 1)) (by omega) ?_
          simp (disch := first | with_reducible assumption | omega) only [go_sem, Bool.true_and, Bool.and_true, Bool.and_self, Bool.false_and, Bool.and_false, Bool.true_or, Bool.or_true, Bool.false_or, Bool.or_false, ↓reduceIte, Nat.reduceEqDiff, Nat.reduceAdd, Nat.reduceMul, Nat.reduceSub, Nat.reduceBEq, Nat.reduceLeDiff, Nat.reduceLT, Nat.reduceMod, Nat.reduceDiv, Int.reduceToNat, Int.reducePow, Int.reduceMul, Int.reduceAdd, Int.reduceSub, Int.reduceLE, Int.reduceLT, Int.reduceNeg, Int.reduceDiv, Int.reduceMod, Int.reduceEq, Int.reduceBEq, Int.reduceBNe]
          exact ⟨q + 1, J2.length, _, rfl, Le.set (hle.trans (.app _ _)) hcb, by omega, rfl, hR2, hN2, hcur2, hP' _⟩
      | some nx =>
        have hk0 : kidV N (pathOf ad q) (bit ad q) = .pointer (some ⟨nx, 0, some 1⟩) := by unfold kidV; rw [hk2]
        have hnx := (hR.node _ _ hk2).2
        rcases bit_two ad q with hz | hz
        · rw [hz] at hbs hk0
          rw [hk0] at hcn
          generalize kidV N (pathOf ad q) 1 = kv at *
          generalize toV T (pathOf ad q) = tv at *
          repeat' first | simp (disch := first | with_reducible assumption | omega) only [go_sem, Bool.true_and, Bool.and_true, Bool.and_self, Bool.false_and, Bool.and_false, Bool.true_or, Bool.or_true, Bool.false_or, Bool.or_false, ↓reduceIte, Nat.reduceEqDiff, Nat.reduceAdd, Nat.reduceMul, Nat.reduceSub, Nat.reduceBEq, Nat.reduceLeDiff, Nat.reduceLT, Nat.reduceMod, Nat.reduceDiv, Int.reduceToNat, Int.reducePow, Int.reduceMul, Int.reduceAdd, Int.reduceSub, Int.reduceLE, Int.reduceLT, Int.reduceNeg, Int.reduceDiv, Int.reduceMod, Int.reduceEq, Int.reduceBEq, Int.reduceBNe, f27, f27b, f27r0, f27r1, f27r2, f27r3, f27r4, f27r5, f27r6, f27r7, f27r8, f27r9, f27r10, f27r11, f27r12, f27r13, f27r15, f27r16, f27r17, f27r19, f27l0, hP, hcn, hnx] | (refine BrW.of (fun hb => ?_) (fun hb => ?_) <;> (have hb' := hb; try simp only [decide_eq_true_eq, decide_eq_false_iff_not, beq_iff_eq, bne_iff_ne, beq_eq_false_iff_ne, bne_eq_false_iff_eq, Bool.not_eq_true', Bool.not_eq_false', Bool.not_eq_true, Bool.not_eq_false, Bool.and_eq_true, Bool.or_eq_true, Bool.and_eq_false_iff, Bool.or_eq_false_iff, Int.not_lt, Int.not_le, ne_eq, gt_iff_lt, ge_iff_le] at hb') <;> (try (exfalso; omega))) | (refine altW.of ?_ ?_) | (refine .of ((hbs _).mono ?_); rintro v _ ⟨rfl, rfl⟩)
          refine RdW.keep [3, 5, 6, 12, 13, 14, 20, 21] (n - (q + 1)) (by omega) ?_
          simp (disch := first | with_reducible assumption | omega) only [go_sem, Bool.true_and, Bool.and_true, Bool.and_self, Bool.false_and, Bool.and_false, Bool.true_or, Bool.or_true, Bool.false_or, Bool.or_false, ↓reduceIte, Nat.reduceEqDiff, Nat.reduceAdd, Nat.reduceMul, Nat.reduceSub, Nat.reduceBEq, Nat.reduceLeDiff, Nat.reduceLT, Nat.reduceMod, Nat.reduceDiv, Int.reduceToNat, Int.reducePow, Int.reduceMul, Int.reduceAdd, Int.reduceSub, Int.reduceLE, Int.reduceLT, Int.reduceNeg, Int.reduceDiv, Int.reduceMod, Int.reduceEq, Int.reduceBEq, Int.reduceBNe]
          exact ⟨q + 1, nx, N, rfl, hle, by omega, rfl, hR, hN, by rw [hpath]; exact hk2, hP⟩
        · rw [hz] at hbs hk0
          rw [hk0] at hcn
          generalize kidV N (pathOf ad q) 0 = kv at *
          generalize toV T (pathOf ad q) = tv at *
          repeat' first | simp (disch := first | with_reducible assumption | omega) only [go_sem, Bool.true_and, Bool.and_true, Bool.and_self, Bool.false_and, Bool.and_false, Bool.true_or, Bool.or_true, Bool.false_or, Bool.or_false, ↓reduceIte, Nat.reduceEqDiff, Nat.reduceAdd, Nat.reduceMul, Nat.reduceSub, Nat.reduceBEq, Nat.reduceLeDiff, Nat.reduceLT, Nat.reduceMod, Nat.reduceDiv, Int.reduceToNat, Int.reducePow, Int.reduceMul, Int.reduceAdd, Int.reduceSub, Int.reduceLE, Int.reduceLT, Int.reduceNeg, Int.reduceDiv, Int.reduceMod, Int.reduceEq, Int.reduceBEq, Int.reduceBNe, f27, f27b, f27r0, f27r1, f27r2, f27r3, f27r4, f27r5, f27r6, f27r7, f27r8, f27r9, f27r10, f27r11, f27r12, f27r13, f27r15, f27r16, f27r17, f27r19, f27l0, hP, hcn, hnx] | (refine BrW.of (fun hb => ?_) (fun hb => ?_) <;> (have hb' := hb; try simp only [decide_eq_true_eq, decide_eq_false_iff_not, beq_iff_eq, bne_iff_ne, beq_eq_false_iff_ne, bne_eq_false_iff_eq, Bool.not_eq_true', Bool.not_eq_false', Bool.not_eq_true, Bool.not_eq_false, Bool.and_eq_true, Bool.or_eq_true, Bool.and_eq_false_iff, Bool.or_eq_false_iff, Int.not_lt, Int.not_le, ne_eq, gt_iff_lt, ge_iff_le] at hb') <;> (try (exfalso; omega))) | (refine altW.of ?_ ?_) | (refine .of ((hbs _).mono ?_); rintro v _ ⟨rfl, rfl⟩)
          refine RdW.keep [3, 5, 6, 12, 13, 14, 20, 21] (n - (q + 1)) (by omega) ?_
          simp (disch := first | with_reducible assumption | omega) only [go_sem, Bool.true_and, Bool.and_true, Bool.and_self, Bool.false_and, Bool.and_false, Bool.true_or, Bool.or_true, Bool.false_or, Bool.or_false, ↓reduceIte, Nat.reduceEqDiff, Nat.reduceAdd, Nat.reduceMul, Nat.reduceSub, Nat.reduceBEq, Nat.reduceLeDiff, Nat.reduceLT, Nat.reduceMod, Nat.reduceDiv, Int.reduceToNat, Int.reducePow, Int.reduceMul, Int.reduceAdd, Int.reduceSub, Int.reduceLE, Int.reduceLT, Int.reduceNeg, Int.reduceDiv, Int.reduceMod, Int.reduceEq, Int.reduceBEq, Int.reduceBNe]
          exact ⟨q + 1, nx, N, rfl, hle, by omega, rfl, hR, hN, by rw [hpath]; exact hk2, hP⟩
    · obtain rfl : q = n := by omega
      have hR2 := hR.put (v := to) hcur
      have hT2 : ∀ p, ((fun p => if p = pathOf ad q then some (J2.length, to) else T p) p).map (·.2) = look (l.take (i + 1)) p := fun p => by
        by_cases e : p = pathOf ad q
        · rw [(htk p).1 e.symm]; simp [e]
        · rw [(htk p).2 (fun h => e h.symm)]; simp only [if_neg e]; exact hT p
      have hcn' := get_old hcn [.cells 0 0 false [.int .i64 to]]
      have hP' := get_old hP [.cells 0 0 false [.int .i64 to]]
      have hle2 := hle.trans (.app J2 [.cells 0 0 false [.int .i64 to]])
      generalize kidV N (pathOf ad q) 0 = kv0 at *
      generalize kidV N (pathOf ad q) 1 = kv1 at *
      generalize toV T (pathOf ad q) = tv at *
      repeat' first | simp (disch := first | with_reducible assumption | omega) only [go_sem, Bool.true_and, Bool.and_true, Bool.and_self, Bool.false_and, Bool.and_false, Bool.true_or, Bool.or_true, Bool.false_or, Bool.or_false, ↓reduceIte, Nat.reduceEqDiff, Nat.reduceAdd, Nat.reduceMul, Nat.reduceSub, Nat.reduceBEq, Nat.reduceLeDiff, Nat.reduceLT, Nat.reduceMod, Nat.reduceDiv, Int.reduceToNat, Int.reducePow, Int.reduceMul, Int.reduceAdd, Int.reduceSub, Int.reduceLE, Int.reduceLT, Int.reduceNeg, Int.reduceDiv, Int.reduceMod, Int.reduceEq, Int.reduceBEq, Int.reduceBNe, f27, f27b, f27r0, f27r1, f27r2, f27r3, f27r4, f27r5, f27r6, f27r7, f27r8, f27r9, f27r10, f27r11, f27r12, f27r13, f27r15, f27r16, f27r17, f27r19, f27l0, hP, hP', hcn, hcn'] | (refine BrW.of (fun hb => ?_) (fun hb => ?_) <;> (have hb' := hb; try simp only [decide_eq_true_eq, decide_eq_false_iff_not, beq_iff_eq, bne_iff_ne, beq_eq_false_iff_ne, bne_eq_false_iff_eq, Bool.not_eq_true', Bool.not_eq_false', Bool.not_eq_true, Bool.not_eq_false, Bool.and_eq_true, Bool.or_eq_true, Bool.and_eq_false_iff, Bool.or_eq_false_iff, Int.not_lt, Int.not_le, ne_eq, gt_iff_lt, ge_iff_le] at hb') <;> (try (exfalso; omega))) | (refine altW.of ?_ ?_)
      refine RdW.keep [3, 12, 13, 14] (l.length - (i + 1)) (by omega) ?_
      simp (disch := first | with_reducible assumption | omega) only [go_sem, Bool.true_and, Bool.and_true, Bool.and_self, Bool.false_and, Bool.and_false, Bool.true_or, Bool.or_true, Bool.false_or, Bool.or_false, ↓reduceIte, Nat.reduceEqDiff, Nat.reduceAdd, Nat.reduceMul, Nat.reduceSub, Nat.reduceBEq, Nat.reduceLeDiff, Nat.reduceLT, Nat.reduceMod, Nat.reduceDiv, Int.reduceToNat, Int.reducePow, Int.reduceMul, Int.reduceAdd, Int.reduceSub, Int.reduceLE, Int.reduceLT, Int.reduceNeg, Int.reduceDiv, Int.reduceMod, Int.reduceEq, Int.reduceBEq, Int.reduceBNe]
      exact ⟨i + 1, N, _, rfl, hle2.set hcb, by omega, rfl, hR2, hN, hT2⟩
  · obtain rfl : i = l.length := by omega
    rw [List.take_length] at hT
    repeat' first | simp (disch := first | with_reducible assumption | omega) only [go_sem, Bool.true_and, Bool.and_true, Bool.and_self, Bool.false_and, Bool.and_false, Bool.true_or, Bool.or_true, Bool.false_or, Bool.or_false, ↓reduceIte, Nat.reduceEqDiff, Nat.reduceAdd, Nat.reduceMul, Nat.reduceSub, Nat.reduceBEq, Nat.reduceLeDiff, Nat.reduceLT, Nat.reduceMod, Nat.reduceDiv, Int.reduceToNat, Int.reducePow, Int.reduceMul, Int.reduceAdd, Int.reduceSub, Int.reduceLE, Int.reduceLT, Int.reduceNeg, Int.reduceDiv, Int.reduceMod, Int.reduceEq, Int.reduceBEq, Int.reduceBNe, f27, f27b, f27r0, f27r1, f27r2, f27r3, f27r4, f27r5, f27r6, f27r7, f27r8, f27r9, f27r10, f27r11, f27r12, f27r13, f27r15, f27r16, f27r17, f27r19, f27l1, f27, f27b, f27r0, f27r1, f27r2, f27r3, f27r4, f27r5, f27r6, f27r7, f27r8, f27r9, f27r10, f27r11, f27r12, f27r13, f27r15, f27r16, f27r17, f27r19] | (refine BrW.of (fun hb => ?_) (fun hb => ?_) <;> (have hb' := hb; try simp only [decide_eq_true_eq, decide_eq_false_iff_not, beq_iff_eq, bne_iff_ne, beq_eq_false_iff_ne, bne_eq_false_iff_eq, Bool.not_eq_true', Bool.not_eq_false', Bool.not_eq_true, Bool.not_eq_false, Bool.and_eq_true, Bool.or_eq_true, Bool.and_eq_false_iff, Bool.or_eq_false_iff, Int.not_lt, Int.not_le, ne_eq, gt_iff_lt, ge_iff_le] at hb') <;> (try (exfalso; omega))) | (refine altW.of ?_ ?_)
    exact .here ⟨N, T, _, rfl, hle, hR, hN, hT⟩


def a0 : A := ⟨0, 0, 0, 0⟩
abbrev As (H : Heap) (k o g : Nat) (l : List A) : Prop := Tbl A A.cells 4 a0 H k o g l
/-- What is found by paths shorter than k. -/
def fn (l : List Px) (a : A) : Nat → Option Int
  | 0 => none
  | k + 1 => found l a k
theorem fn_succ (l : List Px) (a : A) (k : Nat) : fn l a (k + 1) = (look l (pathOf a k)).or (fn l a k) := by
  cases k with
  | zero => simp only [fn, found, pathOf, Option.or_none]
  | succ k => rfl
theorem fn_stop (l : List Px) (a : A) (k : Nat) (h : ∀ m, k ≤ m → m ≤ 32 → look l (pathOf a m) = none) : ∀ d, k + d ≤ 33 → fn l a (k + d) = fn l a k
  | 0, _ => rfl
  | d + 1, hd => by
    rw [show k + (d + 1) = (k + d) + 1 from rfl, fn_succ, h (k + d) (by omega) (by omega), Option.none_or]
    exact fn_stop l a k h d (by omega)
def nodeV (N : NMap) (a : A) (k : Nat) : Value := match N (pathOf a k) with | some j => .pointer (some ⟨j, 0, some 1⟩) | none => .pointer none
def vals' (l : List Px) (ls : List A) : List Int := ls.map fun a => (found l a 32).getD 0
def oks' (l : List Px) (ls : List A) : List Bool := ls.map fun a => (found l a 32).isSome

theorem Find_u (l : List Px) (ls : List A) (k1 o1 g1 c1 k2 o2 g2 c2 : Nat) (H : Heap) (hs : Ps H k1 o1 g1 l) (hlc : l.length ≤ c1) (hB : l.length ≤ 9223372036854775807) (hok : ∀ x ∈ l, x.ad.ok) (ha : As H k2 o2 g2 ls) (hA : ls.length ≤ 1048576) (hao : ∀ a ∈ ls, a.ok) :
    ACallK Tryz.prog 12 [slv k1 o1 g1 l.length c1, slv k2 o2 g2 ls.length c2] H (fun v H' => ∃ a b e, v = .tuple #[a, b, .int .i64 e] ∧ Le H H' ∧ (e = 0 ↔ Fine l) ∧ (e ≠ 0 → a = .slice none 0 0 ∧ b = .slice none 0 0) ∧
      (e = 0 → ∃ q1 p1 q2 p2, a = slv q1 0 p1 ls.length ls.length ∧ b = slv q2 0 p2 ls.length ls.length ∧ Ints H' q1 0 p1 (vals' l ls) ∧ Bools H' q2 0 p2 (oks' l ls))) := by
  obtain ⟨ro, cs, hk, hcl, hcs⟩ := ha.at'
  have hW := fun H' hs' => Wrong_u l k1 o1 g1 c1 H' hs' hlc hB (fun i hi => hok _ (getD_mem hi))
  refine .walkW f12_ok (by simp; decide) (by decide) ?_
  simp (disch := first | with_reducible assumption | omega) only [go_sem, Bool.true_and, Bool.and_true, Bool.and_self, Bool.false_and, Bool.and_false, Bool.true_or, Bool.or_true, Bool.false_or, Bool.or_false, ↓reduceIte, Nat.reduceEqDiff, Nat.reduceAdd, Nat.reduceMul, Nat.reduceSub, Nat.reduceBEq, Nat.reduceLeDiff, Nat.reduceLT, Nat.reduceMod, Nat.reduceDiv, Int.reduceToNat, Int.reducePow, Int.reduceMul, Int.reduceAdd, Int.reduceSub, Int.reduceLE, Int.reduceLT, Int.reduceNeg, Int.reduceDiv, Int.reduceMod, Int.reduceEq, Int.reduceBEq, Int.reduceBNe, f12, f12b, f12r0, f12r1, f12r2, f12r3, f12r4, f12r5, f12r6, f12r7, f12r8, f12r9, f12r10, f12r11, f12r12, f12r13, f12r14, f12r15, f12r16, f12r17, f12r18, f12r20, f12r21, f12r23]
  refine .of ((hW _ hs).mono ?_)
  rintro v H ⟨e, rfl, rfl, he⟩
  by_cases z : e = 0
  · have hf := he.1 z
    subst z
    have hbd := build_spec l k1 o1 g1 c1 H hs hf.len hf.long hok
    repeat' first | simp (disch := first | with_reducible assumption | omega) only [go_sem, Bool.true_and, Bool.and_true, Bool.and_self, Bool.false_and, Bool.and_false, Bool.true_or, Bool.or_true, Bool.false_or, Bool.or_false, ↓reduceIte, Nat.reduceEqDiff, Nat.reduceAdd, Nat.reduceMul, Nat.reduceSub, Nat.reduceBEq, Nat.reduceLeDiff, Nat.reduceLT, Nat.reduceMod, Nat.reduceDiv, Int.reduceToNat, Int.reducePow, Int.reduceMul, Int.reduceAdd, Int.reduceSub, Int.reduceLE, Int.reduceLT, Int.reduceNeg, Int.reduceDiv, Int.reduceMod, Int.reduceEq, Int.reduceBEq, Int.reduceBNe, f12, f12b, f12r0, f12r1, f12r2, f12r3, f12r4, f12r5, f12r6, f12r7, f12r8, f12r9, f12r10, f12r11, f12r12, f12r13, f12r14, f12r15, f12r16, f12r17, f12r18, f12r20, f12r21, f12r23] | (refine BrW.of (fun hb => ?_) (fun hb => ?_) <;> (have hb' := hb; try simp only [decide_eq_true_eq, decide_eq_false_iff_not, beq_iff_eq, bne_iff_ne, beq_eq_false_iff_ne, bne_eq_false_iff_eq, Bool.not_eq_true', Bool.not_eq_false', Bool.not_eq_true, Bool.not_eq_false, Bool.and_eq_true, Bool.or_eq_true, Bool.and_eq_false_iff, Bool.or_eq_false_iff, Int.not_lt, Int.not_le, ne_eq, gt_iff_lt, ge_iff_le] at hb') <;> (try (exfalso; omega))) | (refine altW.of ?_ ?_) | (refine .of (hbd.mono ?_); rintro v J ⟨N, T, r, rfl, hle, hR, hN, hT⟩)
    have hkJ := hle.get hk
    repeat' first | simp (disch := first | with_reducible assumption | omega) only [go_sem, Bool.true_and, Bool.and_true, Bool.and_self, Bool.false_and, Bool.and_false, Bool.true_or, Bool.or_true, Bool.false_or, Bool.or_false, ↓reduceIte, Nat.reduceEqDiff, Nat.reduceAdd, Nat.reduceMul, Nat.reduceSub, Nat.reduceBEq, Nat.reduceLeDiff, Nat.reduceLT, Nat.reduceMod, Nat.reduceDiv, Int.reduceToNat, Int.reducePow, Int.reduceMul, Int.reduceAdd, Int.reduceSub, Int.reduceLE, Int.reduceLT, Int.reduceNeg, Int.reduceDiv, Int.reduceMod, Int.reduceEq, Int.reduceBEq, Int.reduceBNe, f12, f12b, f12r0, f12r1, f12r2, f12r3, f12r4, f12r5, f12r6, f12r7, f12r8, f12r9, f12r10, f12r11, f12r12, f12r13, f12r14, f12r15, f12r16, f12r17, f12r18, f12r20, f12r21, f12r23, hkJ] | (refine BrW.of (fun hb => ?_) (fun hb => ?_) <;> (have hb' := hb; try simp only [decide_eq_true_eq, decide_eq_false_iff_not, beq_iff_eq, bne_iff_ne, beq_eq_false_iff_ne, bne_eq_false_iff_eq, Bool.not_eq_true', Bool.not_eq_false', Bool.not_eq_true, Bool.not_eq_false, Bool.and_eq_true, Bool.or_eq_true, Bool.and_eq_false_iff, Bool.or_eq_false_iff, Int.not_lt, Int.not_le, ne_eq, gt_iff_lt, ge_iff_le] at hb') <;> (try (exfalso; omega))) | (refine altW.of ?_ ?_)
    refine loopW.ghost 9 1 rfl ?_
    simp (disch := first | with_reducible assumption | omega) only [go_sem, Bool.true_and, Bool.and_true, Bool.and_self, Bool.false_and, Bool.and_false, Bool.true_or, Bool.or_true, Bool.false_or, Bool.or_false, ↓reduceIte, Nat.reduceEqDiff, Nat.reduceAdd, Nat.reduceMul, Nat.reduceSub, Nat.reduceBEq, Nat.reduceLeDiff, Nat.reduceLT, Nat.reduceMod, Nat.reduceDiv, Int.reduceToNat, Int.reducePow, Int.reduceMul, Int.reduceAdd, Int.reduceSub, Int.reduceLE, Int.reduceLT, Int.reduceNeg, Int.reduceDiv, Int.reduceMod, Int.reduceEq, Int.reduceBEq, Int.reduceBNe]
    refine loopW.ghost 10 1 rfl ?_
    simp (disch := first | with_reducible assumption | omega) only [go_sem, Bool.true_and, Bool.and_true, Bool.and_self, Bool.false_and, Bool.and_false, Bool.true_or, Bool.or_true, Bool.false_or, Bool.or_false, ↓reduceIte, Nat.reduceEqDiff, Nat.reduceAdd, Nat.reduceMul, Nat.reduceSub, Nat.reduceBEq, Nat.reduceLeDiff, Nat.reduceLT, Nat.reduceMod, Nat.reduceDiv, Int.reduceToNat, Int.reducePow, Int.reduceMul, Int.reduceAdd, Int.reduceSub, Int.reduceLE, Int.reduceLT, Int.reduceNeg, Int.reduceDiv, Int.reduceMod, Int.reduceEq, Int.reduceBEq, Int.reduceBNe]
    have hlk : ∀ p, N p = none → look l p = none := fun p hp => by
      rw [← hT p]
      cases h : T p with
      | none => rfl
      | some z => exact (hR.tn p (by rw [h]; simp) hp).elim
    have hdone : ∀ a k, k ≤ 33 → N (pathOf a k) = none → fn l a k = found l a 32 := fun a k hk33 hn => by
      have hall : ∀ d, N (pathOf a (k + d)) = none := by
        intro d
        induction d with
        | zero => exact hn
        | succ d ih =>
          cases h : N (pathOf a (k + (d + 1))) with
          | none => rfl
          | some j => exact (hR.up (pathOf a (k + d)) (bit a (k + d)) (by rw [show pathOf a (k + d) ++ [bit a (k + d)] = pathOf a (k + (d + 1)) from rfl, h]; simp) ih).elim
      have := fn_stop l a k (fun m h1 h2 => hlk _ (by have := hall (m - k); rwa [show k + (m - k) = m by omega] at this)) (33 - k) (by omega)
      rw [show k + (33 - k) = 33 by omega] at this
      exact this.symm
    refine loopW.of (by decide) (fun m e J2 => ∃ (i p1 p2 : Nat) (x : Heap), e = [(8, .pointer (some ⟨r, 0, some 1⟩)), (9, slv J.length 0 p1 i i), (10, slv (J.length + 1) 0 p2 i i), (24, slv k2 o2 g2 ls.length c2), (25, .int .i64 ls.length), (26, .int .i64 i)] ∧
      J2 = J ++ (.cells p1 1 false (ints (vals' l (ls.take i))) :: .cells p2 1 false (bools (oks' l (ls.take i))) :: x) ∧ i ≤ ls.length ∧ m = ls.length - i) ls.length ⟨0, 0, 0, [], rfl, rfl, by omega, rfl⟩ ?_
    rintro m e J2 ⟨i, p1, p2, x, rfl, rfl, hi, rfl⟩
    by_cases hlt : i < ls.length
    · have hld := Tbl.ld (enc := A.cells) (fun _ => rfl) hcs i hlt
      have hao' := hao _ (getD_mem (d := a0) hlt)
      have v1 : vals' l (ls.take (i + 1)) = vals' l (ls.take i) ++ [(found l (ls.getD i a0) 32).getD 0] := by unfold vals'; rw [take_snoc a0 ls i hlt]; simp
      have v2 : oks' l (ls.take (i + 1)) = oks' l (ls.take i) ++ [(found l (ls.getD i a0) 32).isSome] := by unfold oks'; rw [take_snoc a0 ls i hlt]; simp
      have il1 : (ints (vals' l (ls.take i))).length = i := by rw [ints_length]; simp [vals']; omega
      have il2 : (bools (oks' l (ls.take i))).length = i := by rw [bools_length]; simp [oks']; omega
      generalize ls.getD i a0 = a at *
      generalize vals' l (ls.take i) = V1 at *
      generalize oks' l (ls.take i) = V2 at *
      simp only [A.cells] at hld
      repeat' first | simp (disch := first | with_reducible assumption | omega) only [go_sem, Bool.true_and, Bool.and_true, Bool.and_self, Bool.false_and, Bool.and_false, Bool.true_or, Bool.or_true, Bool.false_or, Bool.or_false, ↓reduceIte, Nat.reduceEqDiff, Nat.reduceAdd, Nat.reduceMul, Nat.reduceSub, Nat.reduceBEq, Nat.reduceLeDiff, Nat.reduceLT, Nat.reduceMod, Nat.reduceDiv, Int.reduceToNat, Int.reducePow, Int.reduceMul, Int.reduceAdd, Int.reduceSub, Int.reduceLE, Int.reduceLT, Int.reduceNeg, Int.reduceDiv, Int.reduceMod, Int.reduceEq, Int.reduceBEq, Int.reduceBNe, f12, f12b, f12r0, f12r1, f12r2, f12r3, f12r4, f12r5, f12r6, f12r7, f12r8, f12r9, f12r10, f12r11, f12r12, f12r13, f12r14, f12r15, f12r16, f12r17, f12r18, f12r20, f12r21, f12r23, f12l1, hkJ, get_old hkJ, ↓hld] | (refine BrW.of (fun hb => ?_) (fun hb => ?_) <;> (have hb' := hb; try simp only [decide_eq_true_eq, decide_eq_false_iff_not, beq_iff_eq, bne_iff_ne, beq_eq_false_iff_ne, bne_eq_false_iff_eq, Bool.not_eq_true', Bool.not_eq_false', Bool.not_eq_true, Bool.not_eq_false, Bool.and_eq_true, Bool.or_eq_true, Bool.and_eq_false_iff, Bool.or_eq_false_iff, Int.not_lt, Int.not_le, ne_eq, gt_iff_lt, ge_iff_le] at hb') <;> (try (exfalso; omega))) | (refine altW.of ?_ ?_)
      have hR2 := hR.le (.app J (.cells p1 1 false (ints V1) :: .cells p2 1 false (bools V2) :: (x ++ [.cells 0 0 false [.int .u8 a.b0, .int .u8 a.b1, .int .u8 a.b2, .int .u8 a.b3]])))
      have hP : (J ++ (AObj.cells p1 1 false (ints V1) :: .cells p2 1 false (bools V2) :: (x ++ [.cells 0 0 false [.int .u8 a.b0, .int .u8 a.b1, .int .u8 a.b2, .int .u8 a.b3]])))[J.length + (x.length + 1 + 1)]? = some (.cells 0 0 false [.int .u8 a.b0, .int .u8 a.b1, .int .u8 a.b2, .int .u8 a.b3]) := by
        rw [get_new]
        simp
      generalize hG : J ++ (AObj.cells p1 1 false (ints V1) :: .cells p2 1 false (bools V2) :: (x ++ [.cells 0 0 false [.int .u8 a.b0, .int .u8 a.b1, .int .u8 a.b2, .int .u8 a.b3]])) = G at *
      generalize J.length + (x.length + 1 + 1) = P at *
      refine loopW.of (by decide) (fun m e J2 => ∃ (k : Nat), e = [(8, .pointer (some ⟨r, 0, some 1⟩)), (9, slv J.length 0 p1 i i), (10, slv (J.length + 1) 0 p2 i i), (12, .pointer (some ⟨P, 0, some 1⟩)), (13, .int .i64 ((fn l a k).getD 0)), (14, .bool (fn l a k).isSome), (15, nodeV N a k), (16, .int .i64 k), (24, slv k2 o2 g2 ls.length c2), (25, .int .i64 ls.length), (26, .int .i64 i)] ∧
        J2 = G ∧ k ≤ 32 ∧ m = 33 - k) 33 ⟨0, by unfold nodeV; rw [show pathOf a 0 = [] from rfl, hN]; rfl, rfl, by omega, rfl⟩ ?_
      rintro m e G ⟨k, rfl, rfl, hk32, rfl⟩
      have hfs := fn_succ l a k
      cases hnk : N (pathOf a k) with
      | none =>
        have hd := hdone a k (by omega) hnk
        have hv : nodeV N a k = .pointer none := by unfold nodeV; rw [hnk]
        rw [hv, hd]
        have hni : ¬ i + 1 ≤ i := by omega
        have htk1 : (ints V1).take i = ints V1 := by rw [List.take_of_length_le (by omega)]
        have htk2 : (bools V2).take i = bools V2 := by rw [List.take_of_length_le (by omega)]
        subst hG
        repeat' first | simp (disch := first | with_reducible assumption | omega) only [go_sem, Bool.true_and, Bool.and_true, Bool.and_self, Bool.false_and, Bool.and_false, Bool.true_or, Bool.or_true, Bool.false_or, Bool.or_false, ↓reduceIte, Nat.reduceEqDiff, Nat.reduceAdd, Nat.reduceMul, Nat.reduceSub, Nat.reduceBEq, Nat.reduceLeDiff, Nat.reduceLT, Nat.reduceMod, Nat.reduceDiv, Int.reduceToNat, Int.reducePow, Int.reduceMul, Int.reduceAdd, Int.reduceSub, Int.reduceLE, Int.reduceLT, Int.reduceNeg, Int.reduceDiv, Int.reduceMod, Int.reduceEq, Int.reduceBEq, Int.reduceBNe, f12, f12b, f12r0, f12r1, f12r2, f12r3, f12r4, f12r5, f12r6, f12r7, f12r8, f12r9, f12r10, f12r11, f12r12, f12r13, f12r14, f12r15, f12r16, f12r17, f12r18, f12r20, f12r21, f12r23, f12l0, f12, f12b, f12r0, f12r1, f12r2, f12r3, f12r4, f12r5, f12r6, f12r7, f12r8, f12r9, f12r10, f12r11, f12r12, f12r13, f12r14, f12r15, f12r16, f12r17, f12r18, f12r20, f12r21, f12r23, hP, il1, il2, hni, htk1, htk2] | (refine BrW.of (fun hb => ?_) (fun hb => ?_) <;> (have hb' := hb; try simp only [decide_eq_true_eq, decide_eq_false_iff_not, beq_iff_eq, bne_iff_ne, beq_eq_false_iff_ne, bne_eq_false_iff_eq, Bool.not_eq_true', Bool.not_eq_false', Bool.not_eq_true, Bool.not_eq_false, Bool.and_eq_true, Bool.or_eq_true, Bool.and_eq_false_iff, Bool.or_eq_false_iff, Int.not_lt, Int.not_le, ne_eq, gt_iff_lt, ge_iff_le] at hb') <;> (try (exfalso; omega))) | (refine altW.of ?_ ?_)
        refine RdW.keep [8, 9, 10, 24, 25, 26] (ls.length - (i + 1)) (by omega) ?_
        simp (disch := first | with_reducible assumption | omega) only [go_sem, Bool.true_and, Bool.and_true, Bool.and_self, Bool.false_and, Bool.and_false, Bool.true_or, Bool.or_true, Bool.false_or, Bool.or_false, ↓reduceIte, Nat.reduceEqDiff, Nat.reduceAdd, Nat.reduceMul, Nat.reduceSub, Nat.reduceBEq, Nat.reduceLeDiff, Nat.reduceLT, Nat.reduceMod, Nat.reduceDiv, Int.reduceToNat, Int.reducePow, Int.reduceMul, Int.reduceAdd, Int.reduceSub, Int.reduceLE, Int.reduceLT, Int.reduceNeg, Int.reduceDiv, Int.reduceMod, Int.reduceEq, Int.reduceBEq, Int.reduceBNe]
        exact ⟨i + 1, p1 + 1, p2 + 1, _, rfl, by rw [v1, v2, ← ints_app, ← bools_app]; rfl, by omega, rfl⟩
      | some cur =>
        have hv : nodeV N a k = .pointer (some ⟨cur, 0, some 1⟩) := by unfold nodeV; rw [hnk]
        have hnode := (hR2.node _ _ hnk).2
        have hkv : kidV N (pathOf a k) (bit a k) = nodeV N a (k + 1) := rfl
        rw [hv]
        cases ht : T (pathOf a k) with
        | none =>
          have htv : toV T (pathOf a k) = .pointer none := by unfold toV; rw [ht]
          have hlo : look l (pathOf a k) = none := by rw [← hT, ht]; rfl
          rw [hlo, Option.none_or] at hfs
          rw [htv] at hnode
          by_cases hk : k = 32
          · subst hk
            rw [← hfs, show fn l a (32 + 1) = found l a 32 from rfl]
            have hni : ¬ i + 1 ≤ i := by omega
            have htk1 : (ints V1).take i = ints V1 := by rw [List.take_of_length_le (by omega)]
            have htk2 : (bools V2).take i = bools V2 := by rw [List.take_of_length_le (by omega)]
            subst hG
            repeat' first | simp (disch := first | with_reducible assumption | omega) only [go_sem, Bool.true_and, Bool.and_true, Bool.and_self, Bool.false_and, Bool.and_false, Bool.true_or, Bool.or_true, Bool.false_or, Bool.or_false, ↓reduceIte, Nat.reduceEqDiff, Nat.reduceAdd, Nat.reduceMul, Nat.reduceSub, Nat.reduceBEq, Nat.reduceLeDiff, Nat.reduceLT, Nat.reduceMod, Nat.reduceDiv, Int.reduceToNat, Int.reducePow, Int.reduceMul, Int.reduceAdd, Int.reduceSub, Int.reduceLE, Int.reduceLT, Int.reduceNeg, Int.reduceDiv, Int.reduceMod, Int.reduceEq, Int.reduceBEq, Int.reduceBNe, f12, f12b, f12r0, f12r1, f12r2, f12r3, f12r4, f12r5, f12r6, f12r7, f12r8, f12r9, f12r10, f12r11, f12r12, f12r13, f12r14, f12r15, f12r16, f12r17, f12r18, f12r20, f12r21, f12r23, f12l0, f12, f12b, f12r0, f12r1, f12r2, f12r3, f12r4, f12r5, f12r6, f12r7, f12r8, f12r9, f12r10, f12r11, f12r12, f12r13, f12r14, f12r15, f12r16, f12r17, f12r18, f12r20, f12r21, f12r23, hP, hnode, il1, il2, hni, htk1, htk2] | (refine BrW.of (fun hb => ?_) (fun hb => ?_) <;> (have hb' := hb; try simp only [decide_eq_true_eq, decide_eq_false_iff_not, beq_iff_eq, bne_iff_ne, beq_eq_false_iff_ne, bne_eq_false_iff_eq, Bool.not_eq_true', Bool.not_eq_false', Bool.not_eq_true, Bool.not_eq_false, Bool.and_eq_true, Bool.or_eq_true, Bool.and_eq_false_iff, Bool.or_eq_false_iff, Int.not_lt, Int.not_le, ne_eq, gt_iff_lt, ge_iff_le] at hb') <;> (try (exfalso; omega))) | (refine altW.of ?_ ?_)
            refine RdW.keep [8, 9, 10, 24, 25, 26] (ls.length - (i + 1)) (by omega) ?_
            simp (disch := first | with_reducible assumption | omega) only [go_sem, Bool.true_and, Bool.and_true, Bool.and_self, Bool.false_and, Bool.and_false, Bool.true_or, Bool.or_true, Bool.false_or, Bool.or_false, ↓reduceIte, Nat.reduceEqDiff, Nat.reduceAdd, Nat.reduceMul, Nat.reduceSub, Nat.reduceBEq, Nat.reduceLeDiff, Nat.reduceLT, Nat.reduceMod, Nat.reduceDiv, Int.reduceToNat, Int.reducePow, Int.reduceMul, Int.reduceAdd, Int.reduceSub, Int.reduceLE, Int.reduceLT, Int.reduceNeg, Int.reduceDiv, Int.reduceMod, Int.reduceEq, Int.reduceBEq, Int.reduceBNe]
            exact ⟨i + 1, p1 + 1, p2 + 1, _, rfl, by rw [v1, v2, ← ints_app, ← bools_app]; rfl, by omega, rfl⟩
          · rcases bit_two a k with hz | hz
            · have hbs := fun H' => bit_spec a k H' hao' (by omega)
              rw [hz] at hbs hkv
              repeat' first | simp (disch := first | with_reducible assumption | omega) only [go_sem, Bool.true_and, Bool.and_true, Bool.and_self, Bool.false_and, Bool.and_false, Bool.true_or, Bool.or_true, Bool.false_or, Bool.or_false, ↓reduceIte, Nat.reduceEqDiff, Nat.reduceAdd, Nat.reduceMul, Nat.reduceSub, Nat.reduceBEq, Nat.reduceLeDiff, Nat.reduceLT, Nat.reduceMod, Nat.reduceDiv, Int.reduceToNat, Int.reducePow, Int.reduceMul, Int.reduceAdd, Int.reduceSub, Int.reduceLE, Int.reduceLT, Int.reduceNeg, Int.reduceDiv, Int.reduceMod, Int.reduceEq, Int.reduceBEq, Int.reduceBNe, f12, f12b, f12r0, f12r1, f12r2, f12r3, f12r4, f12r5, f12r6, f12r7, f12r8, f12r9, f12r10, f12r11, f12r12, f12r13, f12r14, f12r15, f12r16, f12r17, f12r18, f12r20, f12r21, f12r23, f12l0, hP, hnode, hkv, hP] | (refine BrW.of (fun hb => ?_) (fun hb => ?_) <;> (have hb' := hb; try simp only [decide_eq_true_eq, decide_eq_false_iff_not, beq_iff_eq, bne_iff_ne, beq_eq_false_iff_ne, bne_eq_false_iff_eq, Bool.not_eq_true', Bool.not_eq_false', Bool.not_eq_true, Bool.not_eq_false, Bool.and_eq_true, Bool.or_eq_true, Bool.and_eq_false_iff, Bool.or_eq_false_iff, Int.not_lt, Int.not_le, ne_eq, gt_iff_lt, ge_iff_le] at hb') <;> (try (exfalso; omega))) | (refine altW.of ?_ ?_) | (refine dcallW.of _ _ (hbs _) ?_) | (refine callW.ex _ _ (hbs _) ?_)
              refine RdW.keep [8, 9, 10, 12, 13, 14, 15, 16, 24, 25, 26] (33 - (k + 1)) (by omega) ?_
              simp (disch := first | with_reducible assumption | omega) only [go_sem, Bool.true_and, Bool.and_true, Bool.and_self, Bool.false_and, Bool.and_false, Bool.true_or, Bool.or_true, Bool.false_or, Bool.or_false, ↓reduceIte, Nat.reduceEqDiff, Nat.reduceAdd, Nat.reduceMul, Nat.reduceSub, Nat.reduceBEq, Nat.reduceLeDiff, Nat.reduceLT, Nat.reduceMod, Nat.reduceDiv, Int.reduceToNat, Int.reducePow, Int.reduceMul, Int.reduceAdd, Int.reduceSub, Int.reduceLE, Int.reduceLT, Int.reduceNeg, Int.reduceDiv, Int.reduceMod, Int.reduceEq, Int.reduceBEq, Int.reduceBNe]
              exact ⟨k + 1, by rw [hfs]; rfl, by omega, rfl⟩
            · have hbs := fun H' => bit_spec a k H' hao' (by omega)
              rw [hz] at hbs hkv
              repeat' first | simp (disch := first | with_reducible assumption | omega) only [go_sem, Bool.true_and, Bool.and_true, Bool.and_self, Bool.false_and, Bool.and_false, Bool.true_or, Bool.or_true, Bool.false_or, Bool.or_false, ↓reduceIte, Nat.reduceEqDiff, Nat.reduceAdd, Nat.reduceMul, Nat.reduceSub, Nat.reduceBEq, Nat.reduceLeDiff, Nat.reduceLT, Nat.reduceMod, Nat.reduceDiv, Int.reduceToNat, Int.reducePow, Int.reduceMul, Int.reduceAdd, Int.reduceSub, Int.reduceLE, Int.reduceLT, Int.reduceNeg, Int.reduceDiv, Int.reduceMod, Int.reduceEq, Int.reduceBEq, Int.reduceBNe, f12, f12b, f12r0, f12r1, f12r2, f12r3, f12r4, f12r5, f12r6, f12r7, f12r8, f12r9, f12r10, f12r11, f12r12, f12r13, f12r14, f12r15, f12r16, f12r17, f12r18, f12r20, f12r21, f12r23, f12l0, hP, hnode, hkv, hP] | (refine BrW.of (fun hb => ?_) (fun hb => ?_) <;> (have hb' := hb; try simp only [decide_eq_true_eq, decide_eq_false_iff_not, beq_iff_eq, bne_iff_ne, beq_eq_false_iff_ne, bne_eq_false_iff_eq, Bool.not_eq_true', Bool.not_eq_false', Bool.not_eq_true, Bool.not_eq_false, Bool.and_eq_true, Bool.or_eq_true, Bool.and_eq_false_iff, Bool.or_eq_false_iff, Int.not_lt, Int.not_le, ne_eq, gt_iff_lt, ge_iff_le] at hb') <;> (try (exfalso; omega))) | (refine altW.of ?_ ?_) | (refine dcallW.of _ _ (hbs _) ?_) | (refine callW.ex _ _ (hbs _) ?_)
              refine RdW.keep [8, 9, 10, 12, 13, 14, 15, 16, 24, 25, 26] (33 - (k + 1)) (by omega) ?_
              simp (disch := first | with_reducible assumption | omega) only [go_sem, Bool.true_and, Bool.and_true, Bool.and_self, Bool.false_and, Bool.and_false, Bool.true_or, Bool.or_true, Bool.false_or, Bool.or_false, ↓reduceIte, Nat.reduceEqDiff, Nat.reduceAdd, Nat.reduceMul, Nat.reduceSub, Nat.reduceBEq, Nat.reduceLeDiff, Nat.reduceLT, Nat.reduceMod, Nat.reduceDiv, Int.reduceToNat, Int.reducePow, Int.reduceMul, Int.reduceAdd, Int.reduceSub, Int.reduceLE, Int.reduceLT, Int.reduceNeg, Int.reduceDiv, Int.reduceMod, Int.reduceEq, Int.reduceBEq, Int.reduceBNe]
              exact ⟨k + 1, by rw [hfs]; rfl, by omega, rfl⟩
        | some jv =>
          obtain ⟨j, v⟩ := jv
          have htv : toV T (pathOf a k) = .pointer (some ⟨j, 0, some 1⟩) := by unfold toV; rw [ht]
          have hlo : look l (pathOf a k) = some v := by rw [← hT, ht]; rfl
          have hleaf := hR2.leaf _ _ _ ht
          rw [hlo, Option.some_or] at hfs
          rw [htv] at hnode
          by_cases hk : k = 32
          · subst hk
            have hfv : found l a 32 = some v := hfs
            rw [hfv] at v1 v2
            simp only [Option.getD_some, Option.isSome_some] at v1 v2
            have hni : ¬ i + 1 ≤ i := by omega
            have htk1 : (ints V1).take i = ints V1 := by rw [List.take_of_length_le (by omega)]
            have htk2 : (bools V2).take i = bools V2 := by rw [List.take_of_length_le (by omega)]
            subst hG
            repeat' first | simp (disch := first | with_reducible assumption | omega) only [go_sem, Bool.true_and, Bool.and_true, Bool.and_self, Bool.false_and, Bool.and_false, Bool.true_or, Bool.or_true, Bool.false_or, Bool.or_false, ↓reduceIte, Nat.reduceEqDiff, Nat.reduceAdd, Nat.reduceMul, Nat.reduceSub, Nat.reduceBEq, Nat.reduceLeDiff, Nat.reduceLT, Nat.reduceMod, Nat.reduceDiv, Int.reduceToNat, Int.reducePow, Int.reduceMul, Int.reduceAdd, Int.reduceSub, Int.reduceLE, Int.reduceLT, Int.reduceNeg, Int.reduceDiv, Int.reduceMod, Int.reduceEq, Int.reduceBEq, Int.reduceBNe, f12, f12b, f12r0, f12r1, f12r2, f12r3, f12r4, f12r5, f12r6, f12r7, f12r8, f12r9, f12r10, f12r11, f12r12, f12r13, f12r14, f12r15, f12r16, f12r17, f12r18, f12r20, f12r21, f12r23, f12l0, f12, f12b, f12r0, f12r1, f12r2, f12r3, f12r4, f12r5, f12r6, f12r7, f12r8, f12r9, f12r10, f12r11, f12r12, f12r13, f12r14, f12r15, f12r16, f12r17, f12r18, f12r20, f12r21, f12r23, hP, hnode, hleaf, il1, il2, hni, htk1, htk2] | (refine BrW.of (fun hb => ?_) (fun hb => ?_) <;> (have hb' := hb; try simp only [decide_eq_true_eq, decide_eq_false_iff_not, beq_iff_eq, bne_iff_ne, beq_eq_false_iff_ne, bne_eq_false_iff_eq, Bool.not_eq_true', Bool.not_eq_false', Bool.not_eq_true, Bool.not_eq_false, Bool.and_eq_true, Bool.or_eq_true, Bool.and_eq_false_iff, Bool.or_eq_false_iff, Int.not_lt, Int.not_le, ne_eq, gt_iff_lt, ge_iff_le] at hb') <;> (try (exfalso; omega))) | (refine altW.of ?_ ?_)
            refine RdW.keep [8, 9, 10, 24, 25, 26] (ls.length - (i + 1)) (by omega) ?_
            simp (disch := first | with_reducible assumption | omega) only [go_sem, Bool.true_and, Bool.and_true, Bool.and_self, Bool.false_and, Bool.and_false, Bool.true_or, Bool.or_true, Bool.false_or, Bool.or_false, ↓reduceIte, Nat.reduceEqDiff, Nat.reduceAdd, Nat.reduceMul, Nat.reduceSub, Nat.reduceBEq, Nat.reduceLeDiff, Nat.reduceLT, Nat.reduceMod, Nat.reduceDiv, Int.reduceToNat, Int.reducePow, Int.reduceMul, Int.reduceAdd, Int.reduceSub, Int.reduceLE, Int.reduceLT, Int.reduceNeg, Int.reduceDiv, Int.reduceMod, Int.reduceEq, Int.reduceBEq, Int.reduceBNe]
            exact ⟨i + 1, p1 + 1, p2 + 1, _, rfl, by rw [v1, v2, ← ints_app, ← bools_app]; rfl, by omega, rfl⟩
          · rcases bit_two a k with hz | hz
            · have hbs := fun H' => bit_spec a k H' hao' (by omega)
              rw [hz] at hbs hkv
              repeat' first | simp (disch := first | with_reducible assumption | omega) only [go_sem, Bool.true_and, Bool.and_true, Bool.and_self, Bool.false_and, Bool.and_false, Bool.true_or, Bool.or_true, Bool.false_or, Bool.or_false, ↓reduceIte, Nat.reduceEqDiff, Nat.reduceAdd, Nat.reduceMul, Nat.reduceSub, Nat.reduceBEq, Nat.reduceLeDiff, Nat.reduceLT, Nat.reduceMod, Nat.reduceDiv, Int.reduceToNat, Int.reducePow, Int.reduceMul, Int.reduceAdd, Int.reduceSub, Int.reduceLE, Int.reduceLT, Int.reduceNeg, Int.reduceDiv, Int.reduceMod, Int.reduceEq, Int.reduceBEq, Int.reduceBNe, f12, f12b, f12r0, f12r1, f12r2, f12r3, f12r4, f12r5, f12r6, f12r7, f12r8, f12r9, f12r10, f12r11, f12r12, f12r13, f12r14, f12r15, f12r16, f12r17, f12r18, f12r20, f12r21, f12r23, f12l0, hP, hnode, hkv, hleaf] | (refine BrW.of (fun hb => ?_) (fun hb => ?_) <;> (have hb' := hb; try simp only [decide_eq_true_eq, decide_eq_false_iff_not, beq_iff_eq, bne_iff_ne, beq_eq_false_iff_ne, bne_eq_false_iff_eq, Bool.not_eq_true', Bool.not_eq_false', Bool.not_eq_true, Bool.not_eq_false, Bool.and_eq_true, Bool.or_eq_true, Bool.and_eq_false_iff, Bool.or_eq_false_iff, Int.not_lt, Int.not_le, ne_eq, gt_iff_lt, ge_iff_le] at hb') <;> (try (exfalso; omega))) | (refine altW.of ?_ ?_) | (refine dcallW.of _ _ (hbs _) ?_) | (refine callW.ex _ _ (hbs _) ?_)
              refine RdW.keep [8, 9, 10, 12, 13, 14, 15, 16, 24, 25, 26] (33 - (k + 1)) (by omega) ?_
              simp (disch := first | with_reducible assumption | omega) only [go_sem, Bool.true_and, Bool.and_true, Bool.and_self, Bool.false_and, Bool.and_false, Bool.true_or, Bool.or_true, Bool.false_or, Bool.or_false, ↓reduceIte, Nat.reduceEqDiff, Nat.reduceAdd, Nat.reduceMul, Nat.reduceSub, Nat.reduceBEq, Nat.reduceLeDiff, Nat.reduceLT, Nat.reduceMod, Nat.reduceDiv, Int.reduceToNat, Int.reducePow, Int.reduceMul, Int.reduceAdd, Int.reduceSub, Int.reduceLE, Int.reduceLT, Int.reduceNeg, Int.reduceDiv, Int.reduceMod, Int.reduceEq, Int.reduceBEq, Int.reduceBNe]
              exact ⟨k + 1, by rw [hfs]; rfl, by omega, rfl⟩
            · have hbs := fun H' => bit_spec a k H' hao' (by omega)
              rw [hz] at hbs hkv
              repeat' first | simp (disch := first | with_reducible assumption | omega) only [go_sem, Bool.true_and, Bool.and_true, Bool.and_self, Bool.false_and, Bool.and_false, Bool.true_or, Bool.or_true, Bool.false_or, Bool.or_false, ↓reduceIte, Nat.reduceEqDiff, Nat.reduceAdd, Nat.reduceMul, Nat.reduceSub, Nat.reduceBEq, Nat.reduceLeDiff, Nat.reduceLT, Nat.reduceMod, Nat.reduceDiv, Int.reduceToNat, Int.reducePow, Int.reduceMul, Int.reduceAdd, Int.reduceSub, Int.reduceLE, Int.reduceLT, Int.reduceNeg, Int.reduceDiv, Int.reduceMod, Int.reduceEq, Int.reduceBEq, Int.reduceBNe, f12, f12b, f12r0, f12r1, f12r2, f12r3, f12r4, f12r5, f12r6, f12r7, f12r8, f12r9, f12r10, f12r11, f12r12, f12r13, f12r14, f12r15, f12r16, f12r17, f12r18, f12r20, f12r21, f12r23, f12l0, hP, hnode, hkv, hleaf] | (refine BrW.of (fun hb => ?_) (fun hb => ?_) <;> (have hb' := hb; try simp only [decide_eq_true_eq, decide_eq_false_iff_not, beq_iff_eq, bne_iff_ne, beq_eq_false_iff_ne, bne_eq_false_iff_eq, Bool.not_eq_true', Bool.not_eq_false', Bool.not_eq_true, Bool.not_eq_false, Bool.and_eq_true, Bool.or_eq_true, Bool.and_eq_false_iff, Bool.or_eq_false_iff, Int.not_lt, Int.not_le, ne_eq, gt_iff_lt, ge_iff_le] at hb') <;> (try (exfalso; omega))) | (refine altW.of ?_ ?_) | (refine dcallW.of _ _ (hbs _) ?_) | (refine callW.ex _ _ (hbs _) ?_)
              refine RdW.keep [8, 9, 10, 12, 13, 14, 15, 16, 24, 25, 26] (33 - (k + 1)) (by omega) ?_
              simp (disch := first | with_reducible assumption | omega) only [go_sem, Bool.true_and, Bool.and_true, Bool.and_self, Bool.false_and, Bool.and_false, Bool.true_or, Bool.or_true, Bool.false_or, Bool.or_false, ↓reduceIte, Nat.reduceEqDiff, Nat.reduceAdd, Nat.reduceMul, Nat.reduceSub, Nat.reduceBEq, Nat.reduceLeDiff, Nat.reduceLT, Nat.reduceMod, Nat.reduceDiv, Int.reduceToNat, Int.reducePow, Int.reduceMul, Int.reduceAdd, Int.reduceSub, Int.reduceLE, Int.reduceLT, Int.reduceNeg, Int.reduceDiv, Int.reduceMod, Int.reduceEq, Int.reduceBEq, Int.reduceBNe]
              exact ⟨k + 1, by rw [hfs]; rfl, by omega, rfl⟩
    · obtain rfl : i = ls.length := by omega
      rw [List.take_length]
      repeat' first | simp (disch := first | with_reducible assumption | omega) only [go_sem, Bool.true_and, Bool.and_true, Bool.and_self, Bool.false_and, Bool.and_false, Bool.true_or, Bool.or_true, Bool.false_or, Bool.or_false, ↓reduceIte, Nat.reduceEqDiff, Nat.reduceAdd, Nat.reduceMul, Nat.reduceSub, Nat.reduceBEq, Nat.reduceLeDiff, Nat.reduceLT, Nat.reduceMod, Nat.reduceDiv, Int.reduceToNat, Int.reducePow, Int.reduceMul, Int.reduceAdd, Int.reduceSub, Int.reduceLE, Int.reduceLT, Int.reduceNeg, Int.reduceDiv, Int.reduceMod, Int.reduceEq, Int.reduceBEq, Int.reduceBNe, f12, f12b, f12r0, f12r1, f12r2, f12r3, f12r4, f12r5, f12r6, f12r7, f12r8, f12r9, f12r10, f12r11, f12r12, f12r13, f12r14, f12r15, f12r16, f12r17, f12r18, f12r20, f12r21, f12r23, f12l1, f12, f12b, f12r0, f12r1, f12r2, f12r3, f12r4, f12r5, f12r6, f12r7, f12r8, f12r9, f12r10, f12r11, f12r12, f12r13, f12r14, f12r15, f12r16, f12r17, f12r18, f12r20, f12r21, f12r23] | (refine BrW.of (fun hb => ?_) (fun hb => ?_) <;> (have hb' := hb; try simp only [decide_eq_true_eq, decide_eq_false_iff_not, beq_iff_eq, bne_iff_ne, beq_eq_false_iff_ne, bne_eq_false_iff_eq, Bool.not_eq_true', Bool.not_eq_false', Bool.not_eq_true, Bool.not_eq_false, Bool.and_eq_true, Bool.or_eq_true, Bool.and_eq_false_iff, Bool.or_eq_false_iff, Int.not_lt, Int.not_le, ne_eq, gt_iff_lt, ge_iff_le] at hb') <;> (try (exfalso; omega))) | (refine altW.of ?_ ?_)
      exact .here ⟨_, _, 0, rfl, hle.trans (.app _ _), iff_of_true rfl hf, fun h => (h rfl).elim, fun _ => ⟨_, p1, _, p2, rfl, rfl, Ints.new _ _ _ false _ (get_new0 _ _ _), Bools.new _ _ _ false _ (by rw [get_new]; rfl)⟩⟩
  · have z' : (e != 0) = true := by simpa using z
    repeat' first | simp (disch := first | with_reducible assumption | omega) only [go_sem, Bool.true_and, Bool.and_true, Bool.and_self, Bool.false_and, Bool.and_false, Bool.true_or, Bool.or_true, Bool.false_or, Bool.or_false, ↓reduceIte, Nat.reduceEqDiff, Nat.reduceAdd, Nat.reduceMul, Nat.reduceSub, Nat.reduceBEq, Nat.reduceLeDiff, Nat.reduceLT, Nat.reduceMod, Nat.reduceDiv, Int.reduceToNat, Int.reducePow, Int.reduceMul, Int.reduceAdd, Int.reduceSub, Int.reduceLE, Int.reduceLT, Int.reduceNeg, Int.reduceDiv, Int.reduceMod, Int.reduceEq, Int.reduceBEq, Int.reduceBNe, f12, f12b, f12r0, f12r1, f12r2, f12r3, f12r4, f12r5, f12r6, f12r7, f12r8, f12r9, f12r10, f12r11, f12r12, f12r13, f12r14, f12r15, f12r16, f12r17, f12r18, f12r20, f12r21, f12r23, z'] | (refine BrW.of (fun hb => ?_) (fun hb => ?_) <;> (have hb' := hb; try simp only [decide_eq_true_eq, decide_eq_false_iff_not, beq_iff_eq, bne_iff_ne, beq_eq_false_iff_ne, bne_eq_false_iff_eq, Bool.not_eq_true', Bool.not_eq_false', Bool.not_eq_true, Bool.not_eq_false, Bool.and_eq_true, Bool.or_eq_true, Bool.and_eq_false_iff, Bool.or_eq_false_iff, Int.not_lt, Int.not_le, ne_eq, gt_iff_lt, ge_iff_le] at hb') <;> (try (exfalso; omega))) | (refine altW.of ?_ ?_)
    exact .here ⟨_, _, e, rfl, .refl _, iff_of_false z (fun h => z (he.2 h)), fun _ => ⟨rfl, rfl⟩, fun h => (z h).elim⟩

end Go.Proofs.YtcocblbfgjjlbaaGreatDoor.Tr
