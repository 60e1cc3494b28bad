import Derived.Test.YtadogoahnpakbaaTab
import Derived.Test.YtadogoahnpakbaaPlain
import Derived.Test.YtadogoahnpakbaaLib
set_option linter.unusedSimpArgs false
set_option linter.unusedVariables false
set_option maxHeartbeats 1000000
set_option maxRecDepth 20000
namespace Go.Proofs.Ytadogoahnpakbaa
open Go Go.Am
attribute [local irreducible] opsW Ww loopW callW drawW outW outDW gW cW BrW bothW vW resW DropW RdW dcallW Later.run

theorem wrap_u64_mod (n : Int) : IntKind.u64.wrap n = n % 18446744073709551616 := by
  simp [IntKind.wrap, IntKind.signed, IntKind.bits]
theorem imul_range (a b : Int) : 0 ≤ imul .u64 a b ∧ imul .u64 a b ≤ 18446744073709551615 := by
  unfold imul
  rw [wrap_u64_mod]
  omega
theorem iconv_range (a : Int) : 0 ≤ iconv .u64 a ∧ iconv .u64 a ≤ 18446744073709551615 := by
  unfold iconv
  rw [wrap_u64_mod]
  omega
/-- Where one is counted in a row. -/
def hash (r : Nat) (x : Int) : Int := imul .u64 (ixor .u64 (imul .u64 x (2 * (r : Int) + 11400714819323198485)) (imul .u64 x (2 * (r : Int) + 11400714819323198485) / 536870912)) 13787848793156543929 / 8589934592
theorem hash_range (r : Nat) (x : Int) : 0 ≤ hash r x ∧ hash r x ≤ 2147483647 := by
  unfold hash
  have := imul_range (ixor .u64 (imul .u64 x (2 * (r : Int) + 11400714819323198485)) (imul .u64 x (2 * (r : Int) + 11400714819323198485) / 536870912)) 13787848793156543929
  omega
def pl (w r : Nat) (x : Int) : Nat := (hash r x % w).toNat
theorem pl_lt {w : Nat} (hw : 1 ≤ w) (r : Nat) (x : Int) : pl w r x < w := by
  unfold pl
  have h1 := Int.emod_nonneg (hash r x) (show (w : Int) ≠ 0 by omega)
  have h2 := Int.emod_lt_of_pos (hash r x) (show (0 : Int) < w by omega)
  omega
theorem pl_eq {w : Nat} (hw : 1 ≤ w) (r : Nat) (x : Int) : irem (iconv .i64 (hash r x)) w = (pl w r x : Nat) := by
  have := hash_range r x
  rw [iconv_i64 _ (by omega), irem_pos _ _ this.1]
  unfold pl
  have h1 := Int.emod_nonneg (hash r x) (show (w : Int) ≠ 0 by omega)
  omega
theorem Place_spec (r w : Nat) (x : Int) (H : Heap) (hr : r ≤ 7) (hw : 1 ≤ w ∧ w ≤ 64) (hx : 0 ≤ x ∧ x ≤ 18446744073709551615) : ACallK Try.prog 10 [.int .i64 r, .int .i64 w, .int .u64 x] H (fun v H' => v = .tuple #[.int .i64 (pl w r x : Nat), .int .i64 0] ∧ H' = H) := by
  refine .walkW f10_ok (by simp; decide) (by decide) ?_
  have e := pl_eq hw.1 r x
  unfold hash at e
  repeat' first | simp (disch := first | with_reducible assumption | omega) only [go_sem, Bool.true_and, Bool.and_true, Bool.and_self, Bool.false_and, Bool.and_false, Bool.true_or, Bool.or_true, Bool.false_or, Bool.or_false, ↓reduceIte, Nat.reduceEqDiff, Nat.reduceAdd, Nat.reduceMul, Nat.reduceSub, Nat.reduceBEq, Nat.reduceLeDiff, Nat.reduceLT, Nat.reduceMod, Nat.reduceDiv, Int.reduceToNat, Int.reducePow, Int.reduceMul, Int.reduceAdd, Int.reduceSub, Int.reduceLE, Int.reduceLT, Int.reduceNeg, Int.reduceDiv, Int.reduceMod, Int.reduceEq, Int.reduceBEq, Int.reduceBNe, f10, f10b, f10r0, f10r1, f10r2, f10r3, f10r4, f10r5, f10r6] | (refine BrW.of (fun hb => ?_) (fun hb => ?_) <;> (have hb' := hb; try simp only [decide_eq_true_eq, decide_eq_false_iff_not, beq_iff_eq, bne_iff_ne, beq_eq_false_iff_ne, bne_eq_false_iff_eq, Bool.not_eq_true', Bool.not_eq_false', Bool.not_eq_true, Bool.not_eq_false, Bool.and_eq_true, Bool.or_eq_true, Bool.and_eq_false_iff, Bool.or_eq_false_iff, Int.not_lt, Int.not_le, ne_eq, gt_iff_lt, ge_iff_le] at hb') <;> (try (exfalso; omega)))
  all_goals (rw [e]; exact .here ⟨rfl, rfl⟩)

structure S where
  rows : Int
  w : Int
  l : List Int
def S.right (s : S) : Prop := 1 ≤ s.rows ∧ s.rows ≤ 8 ∧ 1 ≤ s.w ∧ s.w ≤ 64 ∧ (s.l.length : Int) = s.rows * s.w ∧ ∀ x ∈ s.l, 0 ≤ x ∧ x ≤ 1099511627776
instance (s : S) : Decidable s.right := by unfold S.right; infer_instance
def S.val (s : S) (v : Value) : Value := .agg #[.int .i64 s.rows, .int .i64 s.w, v]
def S.cells (s : S) (v : Value) : List Value := [.int .i64 s.rows, .int .i64 s.w, v]
def s0 : S := ⟨0, 0, []⟩

/-- A slice of whole numbers, or none at all. -/
def IsI (H : Heap) (w : Value) (l : List Int) : Prop := (w = .slice none 0 0 ∧ l = []) ∨ ∃ k o g c, w = slv k o g l.length c ∧ Ints H k o g l ∧ l.length ≤ c
theorem IsI.app {H : Heap} {w : Value} {l : List Int} (h : IsI H w l) (X : Heap) : IsI (H ++ X) w l := by
  rcases h with h | ⟨k, o, g, c, h1, h2, h3⟩
  · exact .inl h
  · exact .inr ⟨k, o, g, c, h1, h2.app X, h3⟩
theorem IsI.le {H H' : Heap} {w : Value} {l : List Int} (h : IsI H w l) (hl : Le H H') : IsI H' w l := by
  obtain ⟨X, rfl⟩ := hl
  exact h.app X

theorem IndexF_spec (p : Int → Bool) (fc : FuncId) (caps : List Value) (l : List Int) (k o g c : Nat) (H : Heap) (hs : Tbl Int ienc 1 0 H k o g l) (hl : l.length ≤ 9223372036854775807)
    (hf : ∀ i, i < l.length → ACallK Try.prog fc (Value.int .i64 (l.getD i 0) :: caps) H (fun v H' => v = .bool (p (l.getD i 0)) ∧ H' = H)) :
    ACallK Try.prog 20 [slv k o g l.length c, .func (.func fc) #[] caps.toArray] H (fun v H' => v = .int .i64 (idx p l) ∧ H' = H) := by
  obtain ⟨ro, cs, hk, hle, hcs⟩ := hs.at'
  refine .walkW f20_ok (by simp; decide) (by decide) ?_
  repeat' first | simp (disch := first | with_reducible assumption | omega) only [go_sem, Bool.true_and, Bool.and_true, Bool.and_self, Bool.false_and, Bool.and_false, Bool.true_or, Bool.or_true, Bool.false_or, Bool.or_false, ↓reduceIte, Nat.reduceEqDiff, Nat.reduceAdd, Nat.reduceMul, Nat.reduceSub, Nat.reduceBEq, Nat.reduceLeDiff, Nat.reduceLT, Nat.reduceMod, Nat.reduceDiv, Int.reduceToNat, Int.reducePow, Int.reduceMul, Int.reduceAdd, Int.reduceSub, Int.reduceLE, Int.reduceLT, Int.reduceNeg, Int.reduceDiv, Int.reduceMod, Int.reduceEq, Int.reduceBEq, Int.reduceBNe, f20, f20b, f20r0, f20r1, f20r2, f20r3, f20r4, f20r5, f20r6, f20r8, hk] | (refine BrW.of (fun hb => ?_) (fun hb => ?_) <;> (have hb' := hb; try simp only [decide_eq_true_eq, decide_eq_false_iff_not, beq_iff_eq, bne_iff_ne, beq_eq_false_iff_ne, bne_eq_false_iff_eq, Bool.not_eq_true', Bool.not_eq_false', Bool.not_eq_true, Bool.not_eq_false, Bool.and_eq_true, Bool.or_eq_true, Bool.and_eq_false_iff, Bool.or_eq_false_iff, Int.not_lt, Int.not_le, ne_eq, gt_iff_lt, ge_iff_le] at hb') <;> (try (exfalso; omega)))
  refine loopW.of (by decide) (fun m e H'' => ∃ i : Nat, e = [(0, slv k o g l.length c), (1, .func (.func fc) #[] caps.toArray), (7, .int .i64 l.length), (8, .int .i64 i)] ∧ H'' = H ∧ i ≤ l.length ∧ m = l.length - i ∧ idxGo p i (l.drop i) = idx p l) l.length ⟨0, rfl, rfl, by omega, rfl, rfl⟩ ?_
  rintro m e H'' ⟨i, rfl, rfl, hi, rfl, hinv⟩
  by_cases hlt : i < l.length
  · have hc := hf i hlt
    have e0 : cs[o + i]? = some (Value.int .i64 (l.getD i 0)) := by have := hcs i hlt 0 (by omega); simpa [ienc] using this
    rw [drop_cons 0 l i hlt] at hinv
    unfold idxGo at hinv
    clear hf hcs
    generalize l.getD i 0 = x at *
    cases hp : p x with
    | true =>
      rw [if_pos hp] at hinv
      rw [← hinv]
      rw [hp] at hc
      repeat' first | simp (disch := first | with_reducible assumption | omega) only [go_sem, Bool.true_and, Bool.and_true, Bool.and_self, Bool.false_and, Bool.and_false, Bool.true_or, Bool.or_true, Bool.false_or, Bool.or_false, ↓reduceIte, Nat.reduceEqDiff, Nat.reduceAdd, Nat.reduceMul, Nat.reduceSub, Nat.reduceBEq, Nat.reduceLeDiff, Nat.reduceLT, Nat.reduceMod, Nat.reduceDiv, Int.reduceToNat, Int.reducePow, Int.reduceMul, Int.reduceAdd, Int.reduceSub, Int.reduceLE, Int.reduceLT, Int.reduceNeg, Int.reduceDiv, Int.reduceMod, Int.reduceEq, Int.reduceBEq, Int.reduceBNe, f20, f20b, f20r0, f20r1, f20r2, f20r3, f20r4, f20r5, f20r6, f20r8, f20l0, f20, f20b, f20r0, f20r1, f20r2, f20r3, f20r4, f20r5, f20r6, f20r8, hk, e0] | (refine BrW.of (fun hb => ?_) (fun hb => ?_) <;> (have hb' := hb; try simp only [decide_eq_true_eq, decide_eq_false_iff_not, beq_iff_eq, bne_iff_ne, beq_eq_false_iff_ne, bne_eq_false_iff_eq, Bool.not_eq_true', Bool.not_eq_false', Bool.not_eq_true, Bool.not_eq_false, Bool.and_eq_true, Bool.or_eq_true, Bool.and_eq_false_iff, Bool.or_eq_false_iff, Int.not_lt, Int.not_le, ne_eq, gt_iff_lt, ge_iff_le] at hb') <;> (try (exfalso; omega))) | (refine .of (hc.mono ?_); rintro v _ ⟨rfl, rfl⟩)
      exact .here ⟨rfl, rfl⟩
    | false =>
      rw [if_neg (by simp [hp])] at hinv
      rw [hp] at hc
      repeat' first | simp (disch := first | with_reducible assumption | omega) only [go_sem, Bool.true_and, Bool.and_true, Bool.and_self, Bool.false_and, Bool.and_false, Bool.true_or, Bool.or_true, Bool.false_or, Bool.or_false, ↓reduceIte, Nat.reduceEqDiff, Nat.reduceAdd, Nat.reduceMul, Nat.reduceSub, Nat.reduceBEq, Nat.reduceLeDiff, Nat.reduceLT, Nat.reduceMod, Nat.reduceDiv, Int.reduceToNat, Int.reducePow, Int.reduceMul, Int.reduceAdd, Int.reduceSub, Int.reduceLE, Int.reduceLT, Int.reduceNeg, Int.reduceDiv, Int.reduceMod, Int.reduceEq, Int.reduceBEq, Int.reduceBNe, f20, f20b, f20r0, f20r1, f20r2, f20r3, f20r4, f20r5, f20r6, f20r8, f20l0, f20, f20b, f20r0, f20r1, f20r2, f20r3, f20r4, f20r5, f20r6, f20r8, hk, e0] | (refine BrW.of (fun hb => ?_) (fun hb => ?_) <;> (have hb' := hb; try simp only [decide_eq_true_eq, decide_eq_false_iff_not, beq_iff_eq, bne_iff_ne, beq_eq_false_iff_ne, bne_eq_false_iff_eq, Bool.not_eq_true', Bool.not_eq_false', Bool.not_eq_true, Bool.not_eq_false, Bool.and_eq_true, Bool.or_eq_true, Bool.and_eq_false_iff, Bool.or_eq_false_iff, Int.not_lt, Int.not_le, ne_eq, gt_iff_lt, ge_iff_le] at hb') <;> (try (exfalso; omega))) | (refine .of (hc.mono ?_); rintro v _ ⟨rfl, rfl⟩)
      refine RdW.keep [0, 1, 7, 8] (l.length - (i + 1)) (by omega) ?_
      simp (disch := first | with_reducible assumption | omega) only [go_sem, Bool.true_and, Bool.and_true, Bool.and_self, Bool.false_and, Bool.and_false, Bool.true_or, Bool.or_true, Bool.false_or, Bool.or_false, ↓reduceIte, Nat.reduceEqDiff, Nat.reduceAdd, Nat.reduceMul, Nat.reduceSub, Nat.reduceBEq, Nat.reduceLeDiff, Nat.reduceLT, Nat.reduceMod, Nat.reduceDiv, Int.reduceToNat, Int.reducePow, Int.reduceMul, Int.reduceAdd, Int.reduceSub, Int.reduceLE, Int.reduceLT, Int.reduceNeg, Int.reduceDiv, Int.reduceMod, Int.reduceEq, Int.reduceBEq, Int.reduceBNe]
      exact ⟨i + 1, rfl, by omega, rfl, hinv⟩
  · obtain rfl : i = l.length := by omega
    rw [List.drop_eq_nil_of_le (by omega)] at hinv
    have hx : idx p l = -1 := by rw [← hinv]; rfl
    repeat' first | simp (disch := first | with_reducible assumption | omega) only [go_sem, Bool.true_and, Bool.and_true, Bool.and_self, Bool.false_and, Bool.and_false, Bool.true_or, Bool.or_true, Bool.false_or, Bool.or_false, ↓reduceIte, Nat.reduceEqDiff, Nat.reduceAdd, Nat.reduceMul, Nat.reduceSub, Nat.reduceBEq, Nat.reduceLeDiff, Nat.reduceLT, Nat.reduceMod, Nat.reduceDiv, Int.reduceToNat, Int.reducePow, Int.reduceMul, Int.reduceAdd, Int.reduceSub, Int.reduceLE, Int.reduceLT, Int.reduceNeg, Int.reduceDiv, Int.reduceMod, Int.reduceEq, Int.reduceBEq, Int.reduceBNe, f20, f20b, f20r0, f20r1, f20r2, f20r3, f20r4, f20r5, f20r6, f20r8, f20l0, f20, f20b, f20r0, f20r1, f20r2, f20r3, f20r4, f20r5, f20r6, f20r8, hk] | (refine BrW.of (fun hb => ?_) (fun hb => ?_) <;> (have hb' := hb; try simp only [decide_eq_true_eq, decide_eq_false_iff_not, beq_iff_eq, bne_iff_ne, beq_eq_false_iff_ne, bne_eq_false_iff_eq, Bool.not_eq_true', Bool.not_eq_false', Bool.not_eq_true, Bool.not_eq_false, Bool.and_eq_true, Bool.or_eq_true, Bool.and_eq_false_iff, Bool.or_eq_false_iff, Int.not_lt, Int.not_le, ne_eq, gt_iff_lt, ge_iff_le] at hb') <;> (try (exfalso; omega)))
    exact .here ⟨by rw [hx], rfl⟩

theorem ContainsF_spec (p : Int → Bool) (fc : FuncId) (caps : List Value) (l : List Int) (k o g c : Nat) (H : Heap) (hs : Tbl Int ienc 1 0 H k o g l) (hl : l.length ≤ 9223372036854775807)
    (hf : ∀ i, i < l.length → ACallK Try.prog fc (Value.int .i64 (l.getD i 0) :: caps) H (fun v H' => v = .bool (p (l.getD i 0)) ∧ H' = H)) :
    ACallK Try.prog 18 [slv k o g l.length c, .func (.func fc) #[] caps.toArray] H (fun v H' => v = .bool (l.any p) ∧ H' = H) := by
  refine .walkW f18_ok (by simp; decide) (by decide) ?_
  repeat' first | simp (disch := first | with_reducible assumption | omega) only [go_sem, Bool.true_and, Bool.and_true, Bool.and_self, Bool.false_and, Bool.and_false, Bool.true_or, Bool.or_true, Bool.false_or, Bool.or_false, ↓reduceIte, Nat.reduceEqDiff, Nat.reduceAdd, Nat.reduceMul, Nat.reduceSub, Nat.reduceBEq, Nat.reduceLeDiff, Nat.reduceLT, Nat.reduceMod, Nat.reduceDiv, Int.reduceToNat, Int.reducePow, Int.reduceMul, Int.reduceAdd, Int.reduceSub, Int.reduceLE, Int.reduceLT, Int.reduceNeg, Int.reduceDiv, Int.reduceMod, Int.reduceEq, Int.reduceBEq, Int.reduceBNe, f18, f18b, f18r0, f18r1] | (refine BrW.of (fun hb => ?_) (fun hb => ?_) <;> (have hb' := hb; try simp only [decide_eq_true_eq, decide_eq_false_iff_not, beq_iff_eq, bne_iff_ne, beq_eq_false_iff_ne, bne_eq_false_iff_eq, Bool.not_eq_true', Bool.not_eq_false', Bool.not_eq_true, Bool.not_eq_false, Bool.and_eq_true, Bool.or_eq_true, Bool.and_eq_false_iff, Bool.or_eq_false_iff, Int.not_lt, Int.not_le, ne_eq, gt_iff_lt, ge_iff_le] at hb') <;> (try (exfalso; omega))) | (refine .of ((IndexF_spec p fc caps l k o g c H hs hl hf).mono ?_); rintro v _ ⟨rfl, rfl⟩)
  exact .here ⟨by rw [← idx_any], rfl⟩

theorem CloneI_spec (l : List Int) (k o g c : Nat) (H : Heap) (hs : Tbl Int ienc 1 0 H k o g l) (hl : l.length ≤ 1099511627776) (hc : l.length ≤ c) :
    ACallK Try.prog 17 [slv k o g l.length c] H (fun v H' => ∃ g', v = slv H.length 0 g' l.length l.length ∧ H' = H ++ [.cells g' 1 false (flat' ienc l)]) := by
  obtain ⟨ro, cs, hk, hle, hcs⟩ := hs.at'
  have ht := Tbl.cells (enc := ienc) (fun _ => rfl) hle hcs
  try simp only [Nat.mul_one] at ht
  refine .walkW f17_ok (by simp; decide) (by decide) ?_
  have hkn := get_old hk
  simp (disch := first | with_reducible assumption | omega) only [go_sem, Bool.true_and, Bool.and_true, Bool.and_self, Bool.false_and, Bool.and_false, Bool.true_or, Bool.or_true, Bool.false_or, Bool.or_false, ↓reduceIte, Nat.reduceEqDiff, Nat.reduceAdd, Nat.reduceMul, Nat.reduceSub, Nat.reduceBEq, Nat.reduceLeDiff, Nat.reduceLT, Nat.reduceMod, Nat.reduceDiv, Int.reduceToNat, Int.reducePow, Int.reduceMul, Int.reduceAdd, Int.reduceSub, Int.reduceLE, Int.reduceLT, Int.reduceNeg, Int.reduceDiv, Int.reduceMod, Int.reduceEq, Int.reduceBEq, Int.reduceBNe, f17, f17b, f17r0, f17r1, f17r2, f17r3, hk]
  refine .of ?_ (fun hn => ?_)
  · by_cases hz : l.length = 0
    · have hb : flat' ienc l = [] := by rw [List.length_eq_zero_iff.1 hz]; rfl
      simp (disch := first | with_reducible assumption | omega) only [go_sem, Bool.true_and, Bool.and_true, Bool.and_self, Bool.false_and, Bool.and_false, Bool.true_or, Bool.or_true, Bool.false_or, Bool.or_false, ↓reduceIte, Nat.reduceEqDiff, Nat.reduceAdd, Nat.reduceMul, Nat.reduceSub, Nat.reduceBEq, Nat.reduceLeDiff, Nat.reduceLT, Nat.reduceMod, Nat.reduceDiv, Int.reduceToNat, Int.reducePow, Int.reduceMul, Int.reduceAdd, Int.reduceSub, Int.reduceLE, Int.reduceLT, Int.reduceNeg, Int.reduceDiv, Int.reduceMod, Int.reduceEq, Int.reduceBEq, Int.reduceBNe, f17, f17b, f17r0, f17r1, f17r2, f17r3, hk, hkn, hz]
      exact .here ⟨0, by rw [hz], by rw [hb]⟩
    · have hz' : ¬ l.length ≤ 0 := by omega
      simp (disch := first | with_reducible assumption | omega) only [go_sem, Bool.true_and, Bool.and_true, Bool.and_self, Bool.false_and, Bool.and_false, Bool.true_or, Bool.or_true, Bool.false_or, Bool.or_false, ↓reduceIte, Nat.reduceEqDiff, Nat.reduceAdd, Nat.reduceMul, Nat.reduceSub, Nat.reduceBEq, Nat.reduceLeDiff, Nat.reduceLT, Nat.reduceMod, Nat.reduceDiv, Int.reduceToNat, Int.reducePow, Int.reduceMul, Int.reduceAdd, Int.reduceSub, Int.reduceLE, Int.reduceLT, Int.reduceNeg, Int.reduceDiv, Int.reduceMod, Int.reduceEq, Int.reduceBEq, Int.reduceBNe, f17, f17b, f17r0, f17r1, f17r2, f17r3, hk, hkn, hz, hz', ht, List.take_zero, List.drop_nil]
      exact .here ⟨1, rfl, rfl⟩
  · have hz : l.length = 0 := by have : c = 0 := by simpa using hn
                                 omega
    have hb : flat' ienc l = [] := by rw [List.length_eq_zero_iff.1 hz]; rfl
    simp (disch := first | with_reducible assumption | omega) only [go_sem, Bool.true_and, Bool.and_true, Bool.and_self, Bool.false_and, Bool.and_false, Bool.true_or, Bool.or_true, Bool.false_or, Bool.or_false, ↓reduceIte, Nat.reduceEqDiff, Nat.reduceAdd, Nat.reduceMul, Nat.reduceSub, Nat.reduceBEq, Nat.reduceLeDiff, Nat.reduceLT, Nat.reduceMod, Nat.reduceDiv, Int.reduceToNat, Int.reducePow, Int.reduceMul, Int.reduceAdd, Int.reduceSub, Int.reduceLE, Int.reduceLT, Int.reduceNeg, Int.reduceDiv, Int.reduceMod, Int.reduceEq, Int.reduceBEq, Int.reduceBNe, f17, f17b, f17r0, f17r1, f17r2, f17r3, hk]
    refine .ghost 1 false ⟨0, by rw [hz], by rw [hb]⟩


def outC (x : Int) : Bool := decide (x < 0 ∨ 1099511627776 < x)
theorem out_spec (x : Int) (H : Heap) : ACallK Try.prog 19 [.int .i64 x] H (fun v H' => v = .bool (outC x) ∧ H' = H) := by
  refine .walkW f19_ok (by simp; decide) (by decide) ?_
  by_cases h : x < 0 ∨ 1099511627776 < x
  · rw [show outC x = true by simp [outC]; exact h]
    repeat' first | simp (disch := first | with_reducible assumption | omega) only [go_sem, Bool.true_and, Bool.and_true, Bool.and_self, Bool.false_and, Bool.and_false, Bool.true_or, Bool.or_true, Bool.false_or, Bool.or_false, ↓reduceIte, Nat.reduceEqDiff, Nat.reduceAdd, Nat.reduceMul, Nat.reduceSub, Nat.reduceBEq, Nat.reduceLeDiff, Nat.reduceLT, Nat.reduceMod, Nat.reduceDiv, Int.reduceToNat, Int.reducePow, Int.reduceMul, Int.reduceAdd, Int.reduceSub, Int.reduceLE, Int.reduceLT, Int.reduceNeg, Int.reduceDiv, Int.reduceMod, Int.reduceEq, Int.reduceBEq, Int.reduceBNe, f19, f19b, f19r0, f19r1] | (refine BrW.of (fun hb => ?_) (fun hb => ?_) <;> (have hb' := hb; try simp only [decide_eq_true_eq, decide_eq_false_iff_not, beq_iff_eq, bne_iff_ne, beq_eq_false_iff_ne, bne_eq_false_iff_eq, Bool.not_eq_true', Bool.not_eq_false', Bool.not_eq_true, Bool.not_eq_false, Bool.and_eq_true, Bool.or_eq_true, Bool.and_eq_false_iff, Bool.or_eq_false_iff, Int.not_lt, Int.not_le, ne_eq, gt_iff_lt, ge_iff_le] at hb') <;> (try (exfalso; omega)))
    all_goals exact .here ⟨by first | rfl | (simp; omega), rfl⟩
  · rw [show outC x = false by simp [outC]; omega]
    repeat' first | simp (disch := first | with_reducible assumption | omega) only [go_sem, Bool.true_and, Bool.and_true, Bool.and_self, Bool.false_and, Bool.and_false, Bool.true_or, Bool.or_true, Bool.false_or, Bool.or_false, ↓reduceIte, Nat.reduceEqDiff, Nat.reduceAdd, Nat.reduceMul, Nat.reduceSub, Nat.reduceBEq, Nat.reduceLeDiff, Nat.reduceLT, Nat.reduceMod, Nat.reduceDiv, Int.reduceToNat, Int.reducePow, Int.reduceMul, Int.reduceAdd, Int.reduceSub, Int.reduceLE, Int.reduceLT, Int.reduceNeg, Int.reduceDiv, Int.reduceMod, Int.reduceEq, Int.reduceBEq, Int.reduceBNe, f19, f19b, f19r0, f19r1] | (refine BrW.of (fun hb => ?_) (fun hb => ?_) <;> (have hb' := hb; try simp only [decide_eq_true_eq, decide_eq_false_iff_not, beq_iff_eq, bne_iff_ne, beq_eq_false_iff_ne, bne_eq_false_iff_eq, Bool.not_eq_true', Bool.not_eq_false', Bool.not_eq_true, Bool.not_eq_false, Bool.and_eq_true, Bool.or_eq_true, Bool.and_eq_false_iff, Bool.or_eq_false_iff, Int.not_lt, Int.not_le, ne_eq, gt_iff_lt, ge_iff_le] at hb') <;> (try (exfalso; omega)))
    all_goals exact .here ⟨by first | rfl | (simp; omega), rfl⟩

theorem Right_spec (s : S) (v : Value) (H : Heap) (hI : IsI H v s.l) (hB : s.l.length ≤ 9223372036854775807) : ACallK Try.prog 15 [s.val v] H (fun v H' => v = .bool (decide s.right) ∧ H' = H) := by
  obtain ⟨rows, w, l⟩ := s
  simp only at hI hB
  refine .walkW f15_ok (by simp; decide) (by decide) ?_
  by_cases hr : 1 ≤ rows ∧ rows ≤ 8 ∧ 1 ≤ w ∧ w ≤ 64
  · have hp : 1 ≤ rows * w ∧ rows * w ≤ 512 := by
      have h1 := Int.mul_le_mul hr.2.1 hr.2.2.2 (by omega) (by omega)
      have h2 := Int.mul_le_mul hr.1 hr.2.2.1 (by omega) (by omega)
      omega
    generalize hP : rows * w = P at *
    rcases hI with ⟨rfl, rfl⟩ | ⟨k, o, g, c, rfl, hi, hc⟩
    · have hf : decide (S.right ⟨rows, w, []⟩) = false := decide_eq_false fun h => by have := h.2.2.2.2.1; simp only [List.length_nil] at this; omega
      rw [hf]
      repeat' first | simp (disch := first | with_reducible assumption | omega) only [go_sem, Bool.true_and, Bool.and_true, Bool.and_self, Bool.false_and, Bool.and_false, Bool.true_or, Bool.or_true, Bool.false_or, Bool.or_false, ↓reduceIte, Nat.reduceEqDiff, Nat.reduceAdd, Nat.reduceMul, Nat.reduceSub, Nat.reduceBEq, Nat.reduceLeDiff, Nat.reduceLT, Nat.reduceMod, Nat.reduceDiv, Int.reduceToNat, Int.reducePow, Int.reduceMul, Int.reduceAdd, Int.reduceSub, Int.reduceLE, Int.reduceLT, Int.reduceNeg, Int.reduceDiv, Int.reduceMod, Int.reduceEq, Int.reduceBEq, Int.reduceBNe, f15, f15b, f15r0, f15r1, S.val, hP] | (refine BrW.of (fun hb => ?_) (fun hb => ?_) <;> (have hb' := hb; try simp only [decide_eq_true_eq, decide_eq_false_iff_not, beq_iff_eq, bne_iff_ne, beq_eq_false_iff_ne, bne_eq_false_iff_eq, Bool.not_eq_true', Bool.not_eq_false', Bool.not_eq_true, Bool.not_eq_false, Bool.and_eq_true, Bool.or_eq_true, Bool.and_eq_false_iff, Bool.or_eq_false_iff, Int.not_lt, Int.not_le, ne_eq, gt_iff_lt, ge_iff_le] at hb') <;> (try (exfalso; omega)))
      all_goals exact .back rfl ⟨rfl, rfl⟩
    · obtain ⟨ro, cs, hk, _, _⟩ := hi.cell
      by_cases hl : (l.length : Int) = P
      · have hC := ContainsF_spec outC 19 [] l k o g c (H ++ [.cells 0 0 false [.int .i64 rows, .int .i64 w, slv k o g l.length c]]) (hi.app _) hB (fun i hi => out_spec _ _)
        have hd : decide (S.right ⟨rows, w, l⟩) = !(l.any outC) := by
          rw [Bool.eq_iff_iff]
          simp only [decide_eq_true_eq, Bool.not_eq_true', List.any_eq_false]
          refine ⟨fun h x hx => ?_, fun h => ⟨hr.1, hr.2.1, hr.2.2.1, hr.2.2.2, by rw [hP]; exact hl, fun x hx => ?_⟩⟩
          · have := h.2.2.2.2.2 x hx; simp [outC]; omega
          · have := h x hx; simp [outC] at this; omega
        rw [hd]
        generalize l.any outC = t at *
        repeat' first | simp (disch := first | with_reducible assumption | omega) only [go_sem, Bool.true_and, Bool.and_true, Bool.and_self, Bool.false_and, Bool.and_false, Bool.true_or, Bool.or_true, Bool.false_or, Bool.or_false, ↓reduceIte, Nat.reduceEqDiff, Nat.reduceAdd, Nat.reduceMul, Nat.reduceSub, Nat.reduceBEq, Nat.reduceLeDiff, Nat.reduceLT, Nat.reduceMod, Nat.reduceDiv, Int.reduceToNat, Int.reducePow, Int.reduceMul, Int.reduceAdd, Int.reduceSub, Int.reduceLE, Int.reduceLT, Int.reduceNeg, Int.reduceDiv, Int.reduceMod, Int.reduceEq, Int.reduceBEq, Int.reduceBNe, f15, f15b, f15r0, f15r1, S.val, hP, hk, get_old hk] | (refine BrW.of (fun hb => ?_) (fun hb => ?_) <;> (have hb' := hb; try simp only [decide_eq_true_eq, decide_eq_false_iff_not, beq_iff_eq, bne_iff_ne, beq_eq_false_iff_ne, bne_eq_false_iff_eq, Bool.not_eq_true', Bool.not_eq_false', Bool.not_eq_true, Bool.not_eq_false, Bool.and_eq_true, Bool.or_eq_true, Bool.and_eq_false_iff, Bool.or_eq_false_iff, Int.not_lt, Int.not_le, ne_eq, gt_iff_lt, ge_iff_le] at hb') <;> (try (exfalso; omega))) | (refine .of (hC.mono ?_); rintro v _ ⟨rfl, rfl⟩)
        all_goals exact .back rfl ⟨rfl, rfl⟩
      · have hf : decide (S.right ⟨rows, w, l⟩) = false := decide_eq_false fun h => hl (by have := h.2.2.2.2.1; rw [hP] at this; exact this)
        rw [hf]
        repeat' first | simp (disch := first | with_reducible assumption | omega) only [go_sem, Bool.true_and, Bool.and_true, Bool.and_self, Bool.false_and, Bool.and_false, Bool.true_or, Bool.or_true, Bool.false_or, Bool.or_false, ↓reduceIte, Nat.reduceEqDiff, Nat.reduceAdd, Nat.reduceMul, Nat.reduceSub, Nat.reduceBEq, Nat.reduceLeDiff, Nat.reduceLT, Nat.reduceMod, Nat.reduceDiv, Int.reduceToNat, Int.reducePow, Int.reduceMul, Int.reduceAdd, Int.reduceSub, Int.reduceLE, Int.reduceLT, Int.reduceNeg, Int.reduceDiv, Int.reduceMod, Int.reduceEq, Int.reduceBEq, Int.reduceBNe, f15, f15b, f15r0, f15r1, S.val, hP, hk, get_old hk] | (refine BrW.of (fun hb => ?_) (fun hb => ?_) <;> (have hb' := hb; try simp only [decide_eq_true_eq, decide_eq_false_iff_not, beq_iff_eq, bne_iff_ne, beq_eq_false_iff_ne, bne_eq_false_iff_eq, Bool.not_eq_true', Bool.not_eq_false', Bool.not_eq_true, Bool.not_eq_false, Bool.and_eq_true, Bool.or_eq_true, Bool.and_eq_false_iff, Bool.or_eq_false_iff, Int.not_lt, Int.not_le, ne_eq, gt_iff_lt, ge_iff_le] at hb') <;> (try (exfalso; omega)))
        all_goals exact .back rfl ⟨rfl, rfl⟩
  · have hf : decide (S.right ⟨rows, w, l⟩) = false := decide_eq_false fun h => hr ⟨h.1, h.2.1, h.2.2.1, h.2.2.2.1⟩
    rw [hf]
    rcases hI with ⟨rfl, rfl⟩ | ⟨k, o, g, c, rfl, hi, hc⟩
    · repeat' first | simp (disch := first | with_reducible assumption | omega) only [go_sem, Bool.true_and, Bool.and_true, Bool.and_self, Bool.false_and, Bool.and_false, Bool.true_or, Bool.or_true, Bool.false_or, Bool.or_false, ↓reduceIte, Nat.reduceEqDiff, Nat.reduceAdd, Nat.reduceMul, Nat.reduceSub, Nat.reduceBEq, Nat.reduceLeDiff, Nat.reduceLT, Nat.reduceMod, Nat.reduceDiv, Int.reduceToNat, Int.reducePow, Int.reduceMul, Int.reduceAdd, Int.reduceSub, Int.reduceLE, Int.reduceLT, Int.reduceNeg, Int.reduceDiv, Int.reduceMod, Int.reduceEq, Int.reduceBEq, Int.reduceBNe, f15, f15b, f15r0, f15r1, S.val] | (refine BrW.of (fun hb => ?_) (fun hb => ?_) <;> (have hb' := hb; try simp only [decide_eq_true_eq, decide_eq_false_iff_not, beq_iff_eq, bne_iff_ne, beq_eq_false_iff_ne, bne_eq_false_iff_eq, Bool.not_eq_true', Bool.not_eq_false', Bool.not_eq_true, Bool.not_eq_false, Bool.and_eq_true, Bool.or_eq_true, Bool.and_eq_false_iff, Bool.or_eq_false_iff, Int.not_lt, Int.not_le, ne_eq, gt_iff_lt, ge_iff_le] at hb') <;> (try (exfalso; omega)))
      all_goals exact .back rfl ⟨rfl, rfl⟩
    · repeat' first | simp (disch := first | with_reducible assumption | omega) only [go_sem, Bool.true_and, Bool.and_true, Bool.and_self, Bool.false_and, Bool.and_false, Bool.true_or, Bool.or_true, Bool.false_or, Bool.or_false, ↓reduceIte, Nat.reduceEqDiff, Nat.reduceAdd, Nat.reduceMul, Nat.reduceSub, Nat.reduceBEq, Nat.reduceLeDiff, Nat.reduceLT, Nat.reduceMod, Nat.reduceDiv, Int.reduceToNat, Int.reducePow, Int.reduceMul, Int.reduceAdd, Int.reduceSub, Int.reduceLE, Int.reduceLT, Int.reduceNeg, Int.reduceDiv, Int.reduceMod, Int.reduceEq, Int.reduceBEq, Int.reduceBNe, f15, f15b, f15r0, f15r1, S.val] | (refine BrW.of (fun hb => ?_) (fun hb => ?_) <;> (have hb' := hb; try simp only [decide_eq_true_eq, decide_eq_false_iff_not, beq_iff_eq, bne_iff_ne, beq_eq_false_iff_ne, bne_eq_false_iff_eq, Bool.not_eq_true', Bool.not_eq_false', Bool.not_eq_true, Bool.not_eq_false, Bool.and_eq_true, Bool.or_eq_true, Bool.and_eq_false_iff, Bool.or_eq_false_iff, Int.not_lt, Int.not_le, ne_eq, gt_iff_lt, ge_iff_le] at hb') <;> (try (exfalso; omega)))
      all_goals exact .back rfl ⟨rfl, rfl⟩
end Go.Proofs.Ytadogoahnpakbaa
