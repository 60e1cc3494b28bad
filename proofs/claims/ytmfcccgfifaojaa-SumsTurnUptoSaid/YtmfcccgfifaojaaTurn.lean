import Derived.Test.YtmfcccgfifaojaaSteps
import Derived.Test.YtmfcccgfifaojaaBase
set_option linter.unusedSimpArgs false
set_option linter.unusedVariables false
set_option maxHeartbeats 1000000
namespace Go.Proofs.Ytmfcccgfifaojaa
open Go Go.Am
attribute [local irreducible] opsW Ww loopW callW drawW outW outDW gW cW BrW bothW vW resW DropW RdW dcallW Later.run

theorem conv8 (a : Int) : iconv .u8 a = a % 256 := by
  unfold iconv; rw [IntKind.wrap_u8]
theorem bcells_length (b : List Int) : (bcells b).length = b.length := by simp [bcells]
theorem bcells_bytes (b : List Int) (i : Nat) (h : i < b.length) : (bcells b)[i]? = some (.int .u8 (b.getD i 0)) := by simp [bcells, h]
theorem bcells_set (b : List Int) (i : Nat) (x : Int) : (bcells b).set i (.int .u8 x) = bcells (b.set i x) := by simp [bcells]
theorem sumP_set : ∀ (B : List Int) (i : Nat) (X : Int), i < B.length → sumP (B.set i X) = sumP B + (X - B.getD i 0) * (if i % 2 = 0 then 256 else 1)
  | [], i, X, h => by simp at h
  | [a], i, X, h => by
    have : i = 0 := by simpa using h
    subst this
    simp [sumP]; omega
  | a :: b :: r, 0, X, h => by simp [sumP]; omega
  | a :: b :: r, 1, X, h => by simp [sumP]; omega
  | a :: b :: r, i + 2, X, h => by
    have := sumP_set r i X (by simpa using h)
    have e : (i + 2) % 2 = i % 2 := by omega
    simp only [List.set_cons_succ, sumP, this, List.getD_cons_succ, e]
    omega
theorem or16 (x y : Int) (hx : 0 ≤ x ∧ x ≤ 255) (hy : 0 ≤ y ∧ y ≤ 255) : ior .u16 (x * 256) y = x * 256 + y := by
  obtain ⟨n, rfl⟩ := Int.eq_ofNat_of_zero_le hx.1
  obtain ⟨m, rfl⟩ := Int.eq_ofNat_of_zero_le hy.1
  unfold ior
  have e : IntKind.u16.bits = 16 := rfl
  rw [e, show ((n : Int) * 256) = ((2 ^ 8 * n : Nat) : Int) by omega]
  simp only [BitVec.ofInt_natCast, BitVec.toNat_or, BitVec.toNat_ofNat]
  rw [Nat.mod_eq_of_lt (by omega), Nat.mod_eq_of_lt (by omega), ← Nat.two_pow_add_eq_or_of_lt (by omega : m < 2 ^ 8)]
  rw [wrap_u16 _ (by omega)]
  omega

abbrev slb (k o g n c : Nat) : Value := .slice (some ⟨k, o, some (g + 1)⟩) n c
/-- Bytes that came in. -/
theorem bytes_of {B : Nat} {H : Heap} {v : Value} (h : ArgOk B H (false, [.slice [.int .u8]]) v) : ∃ k c, ∃ b : List Int, v = slb k 0 0 b.length c ∧ b.length ≤ B ∧ b.length ≤ c ∧ byteL b ∧ Bytes H k 0 0 b := by
  obtain ⟨k, n, zs, rfl, hn, hB, hk, hz⟩ := h.cell.ints
  have hl : (zs.take n).length = n := by simp; omega
  refine ⟨k, zs.length, zs.take n, by rw [hl], by omega, by omega, fun x hx => hz x (List.mem_of_mem_take hx), ⟨true, _, hk, by simp; omega, fun i hi => ?_⟩⟩
  rw [hl] at hi
  rw [Nat.zero_add, List.getElem?_map, List.getElem?_eq_getElem (by omega : i < zs.length)]
  simp [List.getD_eq_getElem?_getD, hi, List.getElem?_eq_getElem (by omega : i < zs.length)]

theorem fold_cong (n : Int) : ∃ k, foldZ n = n + 65535 * k := by
  unfold foldZ
  split
  · exact ⟨0, by omega⟩
  · exact ⟨-((n - 1) / 65535), by omega⟩

theorem sumP_pair (b : List Int) (i : Nat) (hb : byteL b) (h : i + 1 < b.length) (he : i % 2 = 0) : b.getD i 0 * 256 + b.getD (i + 1) 0 ≤ sumP b := by
  have h1 := sumP_app (b.take i) (b.drop i) (by simp; omega)
  rw [List.take_append_drop] at h1
  have h2 := sumP_drop b i (by omega)
  rw [if_pos h] at h2
  have h3 := sumP_range (b.take i) (fun x hx => hb x (List.mem_of_mem_take hx))
  have h4 := sumP_range (b.drop (i + 2)) (fun x hx => hb x (List.mem_of_mem_drop hx))
  omega
theorem turn_law (S W now : Int) (hS : 0 ≤ S) (hW : 0 ≤ W ∧ W ≤ 65535 ∧ W ≤ S) (hn : 0 ≤ now ∧ now ≤ 65535) :
    (65535 - foldZ (foldZ (65535 - (65535 - foldZ S) + (65535 - W)) + now) = 65535 - foldZ (S - W + now)) ∨ ((65535 - foldZ (foldZ (65535 - (65535 - foldZ S) + (65535 - W)) + now)) % 65535 = 0 ∧ (65535 - foldZ (S - W + now)) % 65535 = 0) := by
  obtain ⟨k1, e1⟩ := fold_cong S
  obtain ⟨k2, e2⟩ := fold_cong (65535 - (65535 - foldZ S) + (65535 - W))
  obtain ⟨k3, e3⟩ := fold_cong (foldZ (65535 - (65535 - foldZ S) + (65535 - W)) + now)
  obtain ⟨k4, e4⟩ := fold_cong (S - W + now)
  have r3 := foldZ_range (foldZ (65535 - (65535 - foldZ S) + (65535 - W)) + now)
  have r4 := foldZ_range (S - W + now)
  generalize foldZ (foldZ (65535 - (65535 - foldZ S) + (65535 - W)) + now) = q at *
  generalize foldZ (65535 - (65535 - foldZ S) + (65535 - W)) = p at *
  generalize foldZ (S - W + now) = r at *
  generalize foldZ S = f at *
  have hq : q = S - W + now + 65535 * (1 + k1 + k2 + k3) := by omega
  generalize 1 + k1 + k2 + k3 = K at hq
  clear e1 e2 e3
  have hd : q - r = 65535 * (K - k4) := by omega
  generalize K - k4 = d at hd
  clear hq e4
  have : d = 0 ∨ d = 1 ∨ d = -1 := by omega
  rcases this with rfl | rfl | rfl
  · left; omega
  · right; have : q = 65535 := by omega
    have : r = 0 := by omega
    subst r; subst q; decide
  · right; have : r = 65535 := by omega
    have : q = 0 := by omega
    subst r; subst q; decide

theorem SumsTurn_args (H : Heap) (vals : List Value) (h : ArgsOk 1048576 H SumsTurnSh vals) : ACallK Try.prog 4 vals H fun v _ => v = .bool true := by
  obtain ⟨_, _, rfl, a1, h⟩ := h.cons
  obtain ⟨_, _, rfl, a2, h⟩ := h.cons
  obtain ⟨_, _, rfl, a3, h⟩ := h.cons
  obtain rfl := h.nil
  obtain ⟨k, c, b, rfl, hB, hlc, hb, hs⟩ := bytes_of a1
  obtain ⟨t, rfl, ht⟩ := a2.cell.int_inv
  obtain ⟨now, rfl, hn⟩ := a3.cell.int_inv
  have ht' : -9223372036854775808 ≤ t ∧ t ≤ 9223372036854775807 := ht
  have hn' : 0 ≤ now ∧ now ≤ 65535 := hn
  clear ht hn a1 a2 a3 h
  have hs' := hs
  obtain ⟨ro, cs, hk, hle, hcs⟩ := hs'
  simp only [Nat.zero_add] at hcs hle
  refine .walkW f4_ok (by simp; decide) (by decide) ?_
  by_cases c1 : t < 0
  · repeat' first | simp (disch := first | with_reducible assumption | omega) only [go_sem, Bool.true_and, Bool.and_true, Bool.and_self, Bool.false_and, Bool.and_false, Bool.true_or, Bool.or_true, Bool.false_or, Bool.or_false, ↓reduceIte, Nat.reduceEqDiff, Nat.reduceAdd, Nat.reduceMul, Nat.reduceSub, Nat.reduceBEq, Nat.reduceLeDiff, Nat.reduceLT, Nat.reduceMod, Nat.reduceDiv, Int.reduceToNat, Int.reducePow, Int.reduceMul, Int.reduceAdd, Int.reduceSub, Int.reduceLE, Int.reduceLT, Int.reduceNeg, Int.reduceDiv, Int.reduceMod, Int.reduceEq, Int.reduceBEq, Int.reduceBNe, f4, f4b, f4r0, f4r1, f4r2, f4r3, f4r4, f4r5, f4r6, f4r7, f4r8, hk] | (refine BrW.of (fun hb => ?_) (fun hb => ?_) <;> (have hb' := hb; try simp only [decide_eq_true_eq, decide_eq_false_iff_not, beq_iff_eq, bne_iff_ne, beq_eq_false_iff_ne, bne_eq_false_iff_eq, Bool.not_eq_true', Bool.not_eq_false', Bool.not_eq_true, Bool.not_eq_false, Bool.and_eq_true, Bool.or_eq_true, Bool.and_eq_false_iff, Bool.or_eq_false_iff, Int.not_lt, Int.not_le, ne_eq, gt_iff_lt, ge_iff_le] at hb') <;> (try (exfalso; omega))) | (refine .of ((alive _).mono ?_); rintro v H ⟨rfl, rfl⟩)
    all_goals exact .here rfl
  by_cases c2 : (b.length : Int) < t
  · repeat' first | simp (disch := first | with_reducible assumption | omega) only [go_sem, Bool.true_and, Bool.and_true, Bool.and_self, Bool.false_and, Bool.and_false, Bool.true_or, Bool.or_true, Bool.false_or, Bool.or_false, ↓reduceIte, Nat.reduceEqDiff, Nat.reduceAdd, Nat.reduceMul, Nat.reduceSub, Nat.reduceBEq, Nat.reduceLeDiff, Nat.reduceLT, Nat.reduceMod, Nat.reduceDiv, Int.reduceToNat, Int.reducePow, Int.reduceMul, Int.reduceAdd, Int.reduceSub, Int.reduceLE, Int.reduceLT, Int.reduceNeg, Int.reduceDiv, Int.reduceMod, Int.reduceEq, Int.reduceBEq, Int.reduceBNe, f4, f4b, f4r0, f4r1, f4r2, f4r3, f4r4, f4r5, f4r6, f4r7, f4r8, hk] | (refine BrW.of (fun hb => ?_) (fun hb => ?_) <;> (have hb' := hb; try simp only [decide_eq_true_eq, decide_eq_false_iff_not, beq_iff_eq, bne_iff_ne, beq_eq_false_iff_ne, bne_eq_false_iff_eq, Bool.not_eq_true', Bool.not_eq_false', Bool.not_eq_true, Bool.not_eq_false, Bool.and_eq_true, Bool.or_eq_true, Bool.and_eq_false_iff, Bool.or_eq_false_iff, Int.not_lt, Int.not_le, ne_eq, gt_iff_lt, ge_iff_le] at hb') <;> (try (exfalso; omega))) | (refine .of ((alive _).mono ?_); rintro v H ⟨rfl, rfl⟩)
    all_goals exact .here rfl
  by_cases c3 : (b.length : Int) ≤ 2 * t + 1
  · repeat' first | simp (disch := first | with_reducible assumption | omega) only [go_sem, Bool.true_and, Bool.and_true, Bool.and_self, Bool.false_and, Bool.and_false, Bool.true_or, Bool.or_true, Bool.false_or, Bool.or_false, ↓reduceIte, Nat.reduceEqDiff, Nat.reduceAdd, Nat.reduceMul, Nat.reduceSub, Nat.reduceBEq, Nat.reduceLeDiff, Nat.reduceLT, Nat.reduceMod, Nat.reduceDiv, Int.reduceToNat, Int.reducePow, Int.reduceMul, Int.reduceAdd, Int.reduceSub, Int.reduceLE, Int.reduceLT, Int.reduceNeg, Int.reduceDiv, Int.reduceMod, Int.reduceEq, Int.reduceBEq, Int.reduceBNe, f4, f4b, f4r0, f4r1, f4r2, f4r3, f4r4, f4r5, f4r6, f4r7, f4r8, hk] | (refine BrW.of (fun hb => ?_) (fun hb => ?_) <;> (have hb' := hb; try simp only [decide_eq_true_eq, decide_eq_false_iff_not, beq_iff_eq, bne_iff_ne, beq_eq_false_iff_ne, bne_eq_false_iff_eq, Bool.not_eq_true', Bool.not_eq_false', Bool.not_eq_true, Bool.not_eq_false, Bool.and_eq_true, Bool.or_eq_true, Bool.and_eq_false_iff, Bool.or_eq_false_iff, Int.not_lt, Int.not_le, ne_eq, gt_iff_lt, ge_iff_le] at hb') <;> (try (exfalso; omega))) | (refine .of ((alive _).mono ?_); rintro v H ⟨rfl, rfl⟩)
    all_goals exact .here rfl
  obtain ⟨i, rfl⟩ := Int.eq_ofNat_of_zero_le (show 0 ≤ t by omega)
  have hx0 := hcs (2 * i) (by omega)
  have hx1 := hcs (2 * i + 1) (by omega)
  have n0 : (2 * (i : Int)).toNat = 2 * i := by omega
  have n1 : (2 * (i : Int) + 1).toNat = 2 * i + 1 := by omega
  have b0 := hb.getD (2 * i)
  have b1 := hb.getD (2 * i + 1)
  have ho := or16 (b.getD (2 * i) 0) (b.getD (2 * i + 1) 0) b0 b1
  have hbl : (bcells b).length = b.length := bcells_length b
  have hS := sumP_range b hb
  have hc := Clone_spec b k 0 0 c H hs (by omega) hlc
  have hch := Check_spec b k 0 0 c
  simp only [Nat.zero_add] at hc hch
  simp (disch := first | with_reducible assumption | omega) only [go_sem, Bool.true_and, Bool.and_true, Bool.and_self, Bool.false_and, Bool.and_false, Bool.true_or, Bool.or_true, Bool.false_or, Bool.or_false, ↓reduceIte, Nat.reduceEqDiff, Nat.reduceAdd, Nat.reduceMul, Nat.reduceSub, Nat.reduceBEq, Nat.reduceLeDiff, Nat.reduceLT, Nat.reduceMod, Nat.reduceDiv, Int.reduceToNat, Int.reducePow, Int.reduceMul, Int.reduceAdd, Int.reduceSub, Int.reduceLE, Int.reduceLT, Int.reduceNeg, Int.reduceDiv, Int.reduceMod, Int.reduceEq, Int.reduceBEq, Int.reduceBNe, f4, f4b, f4r0, f4r1, f4r2, f4r3, f4r4, f4r5, f4r6, f4r7, f4r8]
  refine .of ((alive _).mono ?_)
  rintro v H1 ⟨rfl, rfl⟩
  simp (disch := first | with_reducible assumption | omega) only [go_sem, Bool.true_and, Bool.and_true, Bool.and_self, Bool.false_and, Bool.and_false, Bool.true_or, Bool.or_true, Bool.false_or, Bool.or_false, ↓reduceIte, Nat.reduceEqDiff, Nat.reduceAdd, Nat.reduceMul, Nat.reduceSub, Nat.reduceBEq, Nat.reduceLeDiff, Nat.reduceLT, Nat.reduceMod, Nat.reduceDiv, Int.reduceToNat, Int.reducePow, Int.reduceMul, Int.reduceAdd, Int.reduceSub, Int.reduceLE, Int.reduceLT, Int.reduceNeg, Int.reduceDiv, Int.reduceMod, Int.reduceEq, Int.reduceBEq, Int.reduceBNe, f4, f4b, f4r0, f4r1, f4r2, f4r3, f4r4, f4r5, f4r6, f4r7, f4r8, c1, hk, c2]
  refine .of (fun hq => ?_) (fun hq => ?_)
  · simp only [decide_eq_true_eq] at hq
    exact (c3 hq).elim
  simp (disch := first | with_reducible assumption | omega) only [go_sem, Bool.true_and, Bool.and_true, Bool.and_self, Bool.false_and, Bool.and_false, Bool.true_or, Bool.or_true, Bool.false_or, Bool.or_false, ↓reduceIte, Nat.reduceEqDiff, Nat.reduceAdd, Nat.reduceMul, Nat.reduceSub, Nat.reduceBEq, Nat.reduceLeDiff, Nat.reduceLT, Nat.reduceMod, Nat.reduceDiv, Int.reduceToNat, Int.reducePow, Int.reduceMul, Int.reduceAdd, Int.reduceSub, Int.reduceLE, Int.reduceLT, Int.reduceNeg, Int.reduceDiv, Int.reduceMod, Int.reduceEq, Int.reduceBEq, Int.reduceBNe, f4, f4b, f4r0, f4r1, f4r2, f4r3, f4r4, f4r5, f4r6, f4r7, f4r8, c1, hk, n0, n1, hx0, hx1, ho, c2]
  refine .of (hc.mono ?_)
  rintro v H ⟨g', rfl, rfl⟩
  simp (disch := first | with_reducible assumption | omega) only [go_sem, Bool.true_and, Bool.and_true, Bool.and_self, Bool.false_and, Bool.and_false, Bool.true_or, Bool.or_true, Bool.false_or, Bool.or_false, ↓reduceIte, Nat.reduceEqDiff, Nat.reduceAdd, Nat.reduceMul, Nat.reduceSub, Nat.reduceBEq, Nat.reduceLeDiff, Nat.reduceLT, Nat.reduceMod, Nat.reduceDiv, Int.reduceToNat, Int.reducePow, Int.reduceMul, Int.reduceAdd, Int.reduceSub, Int.reduceLE, Int.reduceLT, Int.reduceNeg, Int.reduceDiv, Int.reduceMod, Int.reduceEq, Int.reduceBEq, Int.reduceBNe, f4, f4b, f4r0, f4r1, f4r2, f4r3, f4r4, f4r5, f4r6, f4r7, f4r8, n0, n1, hbl, conv8, List.length_set]
  rw [bcells_set, bcells_set]
  have hm0 : 0 ≤ now / 256 % 256 ∧ now / 256 % 256 ≤ 255 := by omega
  have hm1 : 0 ≤ now % 256 ∧ now % 256 ≤ 255 := by omega
  have hB2l : ((b.set (2 * i) (now / 256 % 256)).set (2 * i + 1) (now % 256)).length = b.length := by simp
  have hsum : sumP ((b.set (2 * i) (now / 256 % 256)).set (2 * i + 1) (now % 256)) = sumP b - (b.getD (2 * i) 0 * 256 + b.getD (2 * i + 1) 0) + now := by
    rw [sumP_set _ _ _ (by simp; omega), sumP_set _ _ _ (by omega)]
    have e0 : (2 * i) % 2 = 0 := by omega
    have e1 : (2 * i + 1) % 2 = 1 := by omega
    have e2 : (b.set (2 * i) (now / 256 % 256)).getD (2 * i + 1) 0 = b.getD (2 * i + 1) 0 := by
      simp only [List.getD_eq_getElem?_getD, List.getElem?_set]
      rw [if_neg (by omega)]
    rw [e2, e0, e1]
    simp
    omega
  have hW := sumP_pair b (2 * i) hb (by omega) (by omega)
  have hbs : byteL ((b.set (2 * i) (now / 256 % 256)).set (2 * i + 1) (now % 256)) := by
    intro x hx
    rcases List.mem_or_eq_of_mem_set hx with h | rfl
    · rcases List.mem_or_eq_of_mem_set h with h | rfl
      · exact hb x h
      · exact hm0
    · exact hm1
  generalize (b.set (2 * i) (now / 256 % 256)).set (2 * i + 1) (now % 256) = B2 at *
  have hl0 := turn_law (sumP b) (b.getD (2 * i) 0 * 256 + b.getD (2 * i + 1) 0) now hS.1 (by omega) hn'
  have hf0 := foldZ_range (sumP b)
  have hf1 := foldZ_range (sumP B2)
  refine .of ((hch _ hb ⟨ro, cs, get_old hk _, by omega, by simpa using hcs⟩ (by omega)).mono ?_)
  rintro v H ⟨rfl, rfl⟩
  simp (disch := first | with_reducible assumption | omega) only [go_sem, Bool.true_and, Bool.and_true, Bool.and_self, Bool.false_and, Bool.and_false, Bool.true_or, Bool.or_true, Bool.false_or, Bool.or_false, ↓reduceIte, Nat.reduceEqDiff, Nat.reduceAdd, Nat.reduceMul, Nat.reduceSub, Nat.reduceBEq, Nat.reduceLeDiff, Nat.reduceLT, Nat.reduceMod, Nat.reduceDiv, Int.reduceToNat, Int.reducePow, Int.reduceMul, Int.reduceAdd, Int.reduceSub, Int.reduceLE, Int.reduceLT, Int.reduceNeg, Int.reduceDiv, Int.reduceMod, Int.reduceEq, Int.reduceBEq, Int.reduceBNe, f4, f4b, f4r0, f4r1, f4r2, f4r3, f4r4, f4r5, f4r6, f4r7, f4r8, ho]
  have hf2 := foldZ_range (foldZ (65535 - (65535 - foldZ (sumP b)) + (65535 - (b.getD (2 * i) 0 * 256 + b.getD (2 * i + 1) 0))) + now)
  refine .of ((Turn_spec _ _ _ _ (by omega) (by omega) hn').mono ?_)
  rintro v H ⟨rfl, rfl⟩
  simp (disch := first | with_reducible assumption | omega) only [go_sem, Bool.true_and, Bool.and_true, Bool.and_self, Bool.false_and, Bool.and_false, Bool.true_or, Bool.or_true, Bool.false_or, Bool.or_false, ↓reduceIte, Nat.reduceEqDiff, Nat.reduceAdd, Nat.reduceMul, Nat.reduceSub, Nat.reduceBEq, Nat.reduceLeDiff, Nat.reduceLT, Nat.reduceMod, Nat.reduceDiv, Int.reduceToNat, Int.reducePow, Int.reduceMul, Int.reduceAdd, Int.reduceSub, Int.reduceLE, Int.reduceLT, Int.reduceNeg, Int.reduceDiv, Int.reduceMod, Int.reduceEq, Int.reduceBEq, Int.reduceBNe, f4, f4b, f4r0, f4r1, f4r2, f4r3, f4r4, f4r5, f4r6, f4r7, f4r8, hB2l]
  rw [← hB2l]
  refine .of ((Check_spec B2 H1.length 0 g' B2.length _ hbs ⟨false, _, get_new0 _ _ _, by simp [bcells_length], fun i hi => by rw [Nat.zero_add]; exact bcells_bytes B2 i hi⟩ (by omega)).mono ?_)
  rintro v H ⟨rfl, rfl⟩
  simp (disch := first | with_reducible assumption | omega) only [go_sem, Bool.true_and, Bool.and_true, Bool.and_self, Bool.false_and, Bool.and_false, Bool.true_or, Bool.or_true, Bool.false_or, Bool.or_false, ↓reduceIte, Nat.reduceEqDiff, Nat.reduceAdd, Nat.reduceMul, Nat.reduceSub, Nat.reduceBEq, Nat.reduceLeDiff, Nat.reduceLT, Nat.reduceMod, Nat.reduceDiv, Int.reduceToNat, Int.reducePow, Int.reduceMul, Int.reduceAdd, Int.reduceSub, Int.reduceLE, Int.reduceLT, Int.reduceNeg, Int.reduceDiv, Int.reduceMod, Int.reduceEq, Int.reduceBEq, Int.reduceBNe, f4, f4b, f4r0, f4r1, f4r2, f4r3, f4r4, f4r5, f4r6, f4r7, f4r8]
  refine .of ((Same_spec _ _ _ (by omega) (by omega)).mono ?_)
  rintro v H ⟨rfl, rfl⟩
  simp (disch := first | with_reducible assumption | omega) only [go_sem, Bool.true_and, Bool.and_true, Bool.and_self, Bool.false_and, Bool.and_false, Bool.true_or, Bool.or_true, Bool.false_or, Bool.or_false, ↓reduceIte, Nat.reduceEqDiff, Nat.reduceAdd, Nat.reduceMul, Nat.reduceSub, Nat.reduceBEq, Nat.reduceLeDiff, Nat.reduceLT, Nat.reduceMod, Nat.reduceDiv, Int.reduceToNat, Int.reducePow, Int.reduceMul, Int.reduceAdd, Int.reduceSub, Int.reduceLE, Int.reduceLT, Int.reduceNeg, Int.reduceDiv, Int.reduceMod, Int.reduceEq, Int.reduceBEq, Int.reduceBNe, f4, f4b, f4r0, f4r1, f4r2, f4r3, f4r4, f4r5, f4r6, f4r7, f4r8]
  rw [← hsum] at hl0
  have hl1 := decide_eq_true hl0
  exact .back rfl (by rw [hl1])
end Go.Proofs.Ytmfcccgfifaojaa
