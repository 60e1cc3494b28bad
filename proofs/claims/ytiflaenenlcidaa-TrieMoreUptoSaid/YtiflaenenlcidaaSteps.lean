import Derived.Test.YtiflaenenlcidaaTab
import Derived.Test.YtiflaenenlcidaaPlain
import Derived.Test.YtiflaenenlcidaaLib
set_option linter.unusedSimpArgs false
set_option linter.unusedVariables false
set_option maxHeartbeats 1000000
set_option maxRecDepth 20000
namespace Go.Proofs.Ytiflaenenlcidaa
open Go Go.Am
attribute [local irreducible] opsW Ww loopW callW drawW outW outDW gW cW BrW bothW vW resW DropW RdW dcallW altW Later.run

def A.cells (a : A) : List Value := [.int .u8 a.b0, .int .u8 a.b1, .int .u8 a.b2, .int .u8 a.b3]
abbrev A.val (a : A) : Value := .agg #[.int .u8 a.b0, .int .u8 a.b1, .int .u8 a.b2, .int .u8 a.b3]
abbrev pval (a : A) (bits to : Int) : Value := .agg #[.int .u8 a.b0, .int .u8 a.b1, .int .u8 a.b2, .int .u8 a.b3, .int .i64 bits, .int .i64 to]
theorem A.cell (a : A) (k : Nat) (h : k < 4) : A.cells a = [.int .u8 a.b0, .int .u8 a.b1, .int .u8 a.b2, .int .u8 a.b3] ∧ [Value.int .u8 a.b0, .int .u8 a.b1, .int .u8 a.b2, .int .u8 a.b3][k]? = some (.int .u8 (a.byte k)) := by
  refine ⟨rfl, ?_⟩
  match k, h with
  | 0, _ => rfl
  | 1, _ => rfl
  | 2, _ => rfl
  | 3, _ => rfl
theorem iand1 (x : Int) (h : 0 ≤ x ∧ x ≤ 255) : iand .u8 x 1 = x % 2 := by
  have := iand_mask (k := .u8) (b := 8) rfl x 1 h.1 (by omega) (by decide)
  simp only [Int.pow_one] at this
  rw [show (2 : Int) - 1 = 1 from rfl] at this
  rw [this]
  exact wrap_u8 _ (by omega)
theorem bit_spec (a : A) (k : Nat) (H : Heap) (ha : a.ok) (hk : k < 32) : ACallK Try.prog 19 [a.val, .int .i64 k] H (fun v H' => v = .int .u8 (bit a k) ∧ H' = H) := by
  refine .walkW f19_ok (by simp; decide) (by decide) ?_
  have hb := ha.byte (k / 8)
  have he := (A.cell a (k / 8) (by omega)).2
  have ht : ((k : Int) / 8).toNat = k / 8 := by omega
  have hs : (7 - (k : Int) % 8).toNat = 7 - k % 8 := by omega
  have hq0 : 0 ≤ a.byte (k / 8) / 2 ^ (7 - k % 8) := Int.ediv_nonneg hb.1 (Int.le_of_lt (Int.pow_pos (by decide)))
  have hq1 : a.byte (k / 8) / 2 ^ (7 - k % 8) ≤ 255 := Int.le_trans (Int.ediv_le_self _ hb.1) hb.2
  have hbit : bit a k = a.byte (k / 8) / 2 ^ (7 - k % 8) % 2 := rfl
  generalize hQ : a.byte (k / 8) / 2 ^ (7 - k % 8) = Q at *
  repeat' first | simp (disch := first | with_reducible assumption | omega) only [go_sem, Bool.true_and, Bool.and_true, Bool.and_self, Bool.false_and, Bool.and_false, Bool.true_or, Bool.or_true, Bool.false_or, Bool.or_false, ↓reduceIte, Nat.reduceEqDiff, Nat.reduceAdd, Nat.reduceMul, Nat.reduceSub, Nat.reduceBEq, Nat.reduceLeDiff, Nat.reduceLT, Nat.reduceMod, Nat.reduceDiv, Int.reduceToNat, Int.reducePow, Int.reduceMul, Int.reduceAdd, Int.reduceSub, Int.reduceLE, Int.reduceLT, Int.reduceNeg, Int.reduceDiv, Int.reduceMod, Int.reduceEq, Int.reduceBEq, Int.reduceBNe, f19, f19b, f19r0, f19r1, he, ht, hs, hQ, iand1] | (refine BrW.of (fun hb => ?_) (fun hb => ?_) <;> (have hb' := hb; try simp only [decide_eq_true_eq, decide_eq_false_iff_not, beq_iff_eq, bne_iff_ne, beq_eq_false_iff_ne, bne_eq_false_iff_eq, Bool.not_eq_true', Bool.not_eq_false', Bool.not_eq_true, Bool.not_eq_false, Bool.and_eq_true, Bool.or_eq_true, Bool.and_eq_false_iff, Bool.or_eq_false_iff, Int.not_lt, Int.not_le, ne_eq, gt_iff_lt, ge_iff_le] at hb') <;> (try (exfalso; omega))) | (refine altW.of ?_ ?_)
  exact .back rfl ⟨by rw [hbit], rfl⟩
theorem Within_spec (a p : A) (bits to : Int) (H : Heap) (ha : a.ok) (hp : p.ok) : ACallK Try.prog 12 [a.val, pval p bits to] H (fun v H' => v = .bool (decide (within a p bits)) ∧ H' = H) := by
  refine .walkW f12_ok (by simp; decide) (by decide) ?_
  by_cases h : 0 ≤ bits ∧ bits ≤ 32
  · obtain ⟨h0, h1⟩ := h
    obtain ⟨n, rfl⟩ := Int.eq_ofNat_of_zero_le h0
    repeat' first | simp (disch := first | with_reducible assumption | omega) only [go_sem, Bool.true_and, Bool.and_true, Bool.and_self, Bool.false_and, Bool.and_false, Bool.true_or, Bool.or_true, Bool.false_or, Bool.or_false, ↓reduceIte, Nat.reduceEqDiff, Nat.reduceAdd, Nat.reduceMul, Nat.reduceSub, Nat.reduceBEq, Nat.reduceLeDiff, Nat.reduceLT, Nat.reduceMod, Nat.reduceDiv, Int.reduceToNat, Int.reducePow, Int.reduceMul, Int.reduceAdd, Int.reduceSub, Int.reduceLE, Int.reduceLT, Int.reduceNeg, Int.reduceDiv, Int.reduceMod, Int.reduceEq, Int.reduceBEq, Int.reduceBNe, f12, f12b, f12r0, f12r1, f12r2, f12r3, f12r4, f12r5, f12r6, f12r7, f12r8, f12r10] | (refine BrW.of (fun hb => ?_) (fun hb => ?_) <;> (have hb' := hb; try simp only [decide_eq_true_eq, decide_eq_false_iff_not, beq_iff_eq, bne_iff_ne, beq_eq_false_iff_ne, bne_eq_false_iff_eq, Bool.not_eq_true', Bool.not_eq_false', Bool.not_eq_true, Bool.not_eq_false, Bool.and_eq_true, Bool.or_eq_true, Bool.and_eq_false_iff, Bool.or_eq_false_iff, Int.not_lt, Int.not_le, ne_eq, gt_iff_lt, ge_iff_le] at hb') <;> (try (exfalso; omega))) | (refine altW.of ?_ ?_)
    refine loopW.of (by decide) (fun m e H'' => ∃ i : Nat, e = [(2, .pointer (some ⟨H.length, 0, some 1⟩)), (3, .pointer (some ⟨H.length + 1, 0, some 1⟩)), (15, .int .i64 n), (16, .int .i64 i)] ∧ H'' = H ++ [.cells 0 0 false [.int .u8 a.b0, .int .u8 a.b1, .int .u8 a.b2, .int .u8 a.b3], .cells 0 0 false [.int .u8 p.b0, .int .u8 p.b1, .int .u8 p.b2, .int .u8 p.b3, .int .i64 n, .int .i64 to]] ∧ i ≤ n ∧ m = n - i ∧ ∀ j, j < i → bit a j = bit p j) n ⟨0, rfl, rfl, by omega, rfl, fun j hj => by omega⟩ ?_
    rintro m e H'' ⟨i, rfl, rfl, hi, rfl, hinv⟩
    by_cases hlt : i < n
    · have s1 := fun H' => bit_spec a i H' ha (by omega)
      have s2 := fun H' => bit_spec p i H' hp (by omega)
      by_cases hb : bit a i = bit p i
      · have hb' : (bit a i != bit p i) = false := by rw [hb]; simp
        have hnext : ∀ j, j < i + 1 → bit a j = bit p j := fun j hj => by
          by_cases e : j = i
          · rw [e]; exact hb
          · exact hinv j (by omega)
        clear hinv hb
        generalize bit a i = x at *
        generalize bit p i = y at *
        repeat' first | simp (disch := first | with_reducible assumption | omega) only [go_sem, Bool.true_and, Bool.and_true, Bool.and_self, Bool.false_and, Bool.and_false, Bool.true_or, Bool.or_true, Bool.false_or, Bool.or_false, ↓reduceIte, Nat.reduceEqDiff, Nat.reduceAdd, Nat.reduceMul, Nat.reduceSub, Nat.reduceBEq, Nat.reduceLeDiff, Nat.reduceLT, Nat.reduceMod, Nat.reduceDiv, Int.reduceToNat, Int.reducePow, Int.reduceMul, Int.reduceAdd, Int.reduceSub, Int.reduceLE, Int.reduceLT, Int.reduceNeg, Int.reduceDiv, Int.reduceMod, Int.reduceEq, Int.reduceBEq, Int.reduceBNe, f12, f12b, f12r0, f12r1, f12r2, f12r3, f12r4, f12r5, f12r6, f12r7, f12r8, f12r10, f12l0, hb'] | (refine BrW.of (fun hb => ?_) (fun hb => ?_) <;> (have hb' := hb; try simp only [decide_eq_true_eq, decide_eq_false_iff_not, beq_iff_eq, bne_iff_ne, beq_eq_false_iff_ne, bne_eq_false_iff_eq, Bool.not_eq_true', Bool.not_eq_false', Bool.not_eq_true, Bool.not_eq_false, Bool.and_eq_true, Bool.or_eq_true, Bool.and_eq_false_iff, Bool.or_eq_false_iff, Int.not_lt, Int.not_le, ne_eq, gt_iff_lt, ge_iff_le] at hb') <;> (try (exfalso; omega))) | (refine altW.of ?_ ?_) | (refine dcallW.of _ _ (s1 _) ?_) | (refine callW.ex _ _ (s1 _) ?_) | (refine dcallW.of _ _ (s2 _) ?_) | (refine callW.ex _ _ (s2 _) ?_)
        refine RdW.cut2 [2, 3, 15, 16] (n - (i + 1)) (by omega) rfl rfl ?_ ?_
        · simp (disch := first | with_reducible assumption | omega) only [go_sem, Bool.true_and, Bool.and_true, Bool.and_self, Bool.false_and, Bool.and_false, Bool.true_or, Bool.or_true, Bool.false_or, Bool.or_false, ↓reduceIte, Nat.reduceEqDiff, Nat.reduceAdd, Nat.reduceMul, Nat.reduceSub, Nat.reduceBEq, Nat.reduceLeDiff, Nat.reduceLT, Nat.reduceMod, Nat.reduceDiv, Int.reduceToNat, Int.reducePow, Int.reduceMul, Int.reduceAdd, Int.reduceSub, Int.reduceLE, Int.reduceLT, Int.reduceNeg, Int.reduceDiv, Int.reduceMod, Int.reduceEq, Int.reduceBEq, Int.reduceBNe]
          simp
        · simp (disch := first | with_reducible assumption | omega) only [go_sem, Bool.true_and, Bool.and_true, Bool.and_self, Bool.false_and, Bool.and_false, Bool.true_or, Bool.or_true, Bool.false_or, Bool.or_false, ↓reduceIte, Nat.reduceEqDiff, Nat.reduceAdd, Nat.reduceMul, Nat.reduceSub, Nat.reduceBEq, Nat.reduceLeDiff, Nat.reduceLT, Nat.reduceMod, Nat.reduceDiv, Int.reduceToNat, Int.reducePow, Int.reduceMul, Int.reduceAdd, Int.reduceSub, Int.reduceLE, Int.reduceLT, Int.reduceNeg, Int.reduceDiv, Int.reduceMod, Int.reduceEq, Int.reduceBEq, Int.reduceBNe]
          exact ⟨i + 1, rfl, by omega, rfl, hnext⟩
      · have hb' : (bit a i != bit p i) = true := by simpa using hb
        have hw : decide (within a p n) = false := by simp only [decide_eq_false_iff_not]; exact fun h => hb (h.2.2 i (by omega))
        clear hinv hb
        generalize bit a i = x at *
        generalize bit p i = y at *
        repeat' first | simp (disch := first | with_reducible assumption | omega) only [go_sem, Bool.true_and, Bool.and_true, Bool.and_self, Bool.false_and, Bool.and_false, Bool.true_or, Bool.or_true, Bool.false_or, Bool.or_false, ↓reduceIte, Nat.reduceEqDiff, Nat.reduceAdd, Nat.reduceMul, Nat.reduceSub, Nat.reduceBEq, Nat.reduceLeDiff, Nat.reduceLT, Nat.reduceMod, Nat.reduceDiv, Int.reduceToNat, Int.reducePow, Int.reduceMul, Int.reduceAdd, Int.reduceSub, Int.reduceLE, Int.reduceLT, Int.reduceNeg, Int.reduceDiv, Int.reduceMod, Int.reduceEq, Int.reduceBEq, Int.reduceBNe, f12, f12b, f12r0, f12r1, f12r2, f12r3, f12r4, f12r5, f12r6, f12r7, f12r8, f12r10, f12l0, f12, f12b, f12r0, f12r1, f12r2, f12r3, f12r4, f12r5, f12r6, f12r7, f12r8, f12r10, hb'] | (refine BrW.of (fun hb => ?_) (fun hb => ?_) <;> (have hb' := hb; try simp only [decide_eq_true_eq, decide_eq_false_iff_not, beq_iff_eq, bne_iff_ne, beq_eq_false_iff_ne, bne_eq_false_iff_eq, Bool.not_eq_true', Bool.not_eq_false', Bool.not_eq_true, Bool.not_eq_false, Bool.and_eq_true, Bool.or_eq_true, Bool.and_eq_false_iff, Bool.or_eq_false_iff, Int.not_lt, Int.not_le, ne_eq, gt_iff_lt, ge_iff_le] at hb') <;> (try (exfalso; omega))) | (refine altW.of ?_ ?_) | (refine dcallW.of _ _ (s1 _) ?_) | (refine callW.ex _ _ (s1 _) ?_) | (refine dcallW.of _ _ (s2 _) ?_) | (refine callW.ex _ _ (s2 _) ?_)
        exact .back rfl ⟨by rw [hw], rfl⟩
    · obtain rfl : i = n := by omega
      have hw : decide (within a p i) = true := by simp only [decide_eq_true_eq]; exact ⟨h0, h1, fun k hk => hinv k (by omega)⟩
      repeat' first | simp (disch := first | with_reducible assumption | omega) only [go_sem, Bool.true_and, Bool.and_true, Bool.and_self, Bool.false_and, Bool.and_false, Bool.true_or, Bool.or_true, Bool.false_or, Bool.or_false, ↓reduceIte, Nat.reduceEqDiff, Nat.reduceAdd, Nat.reduceMul, Nat.reduceSub, Nat.reduceBEq, Nat.reduceLeDiff, Nat.reduceLT, Nat.reduceMod, Nat.reduceDiv, Int.reduceToNat, Int.reducePow, Int.reduceMul, Int.reduceAdd, Int.reduceSub, Int.reduceLE, Int.reduceLT, Int.reduceNeg, Int.reduceDiv, Int.reduceMod, Int.reduceEq, Int.reduceBEq, Int.reduceBNe, f12, f12b, f12r0, f12r1, f12r2, f12r3, f12r4, f12r5, f12r6, f12r7, f12r8, f12r10, f12l0, f12, f12b, f12r0, f12r1, f12r2, f12r3, f12r4, f12r5, f12r6, f12r7, f12r8, f12r10] | (refine BrW.of (fun hb => ?_) (fun hb => ?_) <;> (have hb' := hb; try simp only [decide_eq_true_eq, decide_eq_false_iff_not, beq_iff_eq, bne_iff_ne, beq_eq_false_iff_ne, bne_eq_false_iff_eq, Bool.not_eq_true', Bool.not_eq_false', Bool.not_eq_true, Bool.not_eq_false, Bool.and_eq_true, Bool.or_eq_true, Bool.and_eq_false_iff, Bool.or_eq_false_iff, Int.not_lt, Int.not_le, ne_eq, gt_iff_lt, ge_iff_le] at hb') <;> (try (exfalso; omega))) | (refine altW.of ?_ ?_)
      exact .back rfl ⟨by rw [hw], rfl⟩
  · have hw : decide (within a p bits) = false := by simp only [decide_eq_false_iff_not]; exact fun hw => h ⟨hw.1, hw.2.1⟩
    by_cases h0 : bits < 0
    · clear h
      repeat' first | simp (disch := first | with_reducible assumption | omega) only [go_sem, Bool.true_and, Bool.and_true, Bool.and_self, Bool.false_and, Bool.and_false, Bool.true_or, Bool.or_true, Bool.false_or, Bool.or_false, ↓reduceIte, Nat.reduceEqDiff, Nat.reduceAdd, Nat.reduceMul, Nat.reduceSub, Nat.reduceBEq, Nat.reduceLeDiff, Nat.reduceLT, Nat.reduceMod, Nat.reduceDiv, Int.reduceToNat, Int.reducePow, Int.reduceMul, Int.reduceAdd, Int.reduceSub, Int.reduceLE, Int.reduceLT, Int.reduceNeg, Int.reduceDiv, Int.reduceMod, Int.reduceEq, Int.reduceBEq, Int.reduceBNe, f12, f12b, f12r0, f12r1, f12r2, f12r3, f12r4, f12r5, f12r6, f12r7, f12r8, f12r10] | (refine BrW.of (fun hb => ?_) (fun hb => ?_) <;> (have hb' := hb; try simp only [decide_eq_true_eq, decide_eq_false_iff_not, beq_iff_eq, bne_iff_ne, beq_eq_false_iff_ne, bne_eq_false_iff_eq, Bool.not_eq_true', Bool.not_eq_false', Bool.not_eq_true, Bool.not_eq_false, Bool.and_eq_true, Bool.or_eq_true, Bool.and_eq_false_iff, Bool.or_eq_false_iff, Int.not_lt, Int.not_le, ne_eq, gt_iff_lt, ge_iff_le] at hb') <;> (try (exfalso; omega))) | (refine altW.of ?_ ?_)
      all_goals exact .back rfl ⟨by rw [hw], rfl⟩
    · have h1 : 32 < bits := by omega
      clear h
      repeat' first | simp (disch := first | with_reducible assumption | omega) only [go_sem, Bool.true_and, Bool.and_true, Bool.and_self, Bool.false_and, Bool.and_false, Bool.true_or, Bool.or_true, Bool.false_or, Bool.or_false, ↓reduceIte, Nat.reduceEqDiff, Nat.reduceAdd, Nat.reduceMul, Nat.reduceSub, Nat.reduceBEq, Nat.reduceLeDiff, Nat.reduceLT, Nat.reduceMod, Nat.reduceDiv, Int.reduceToNat, Int.reducePow, Int.reduceMul, Int.reduceAdd, Int.reduceSub, Int.reduceLE, Int.reduceLT, Int.reduceNeg, Int.reduceDiv, Int.reduceMod, Int.reduceEq, Int.reduceBEq, Int.reduceBNe, f12, f12b, f12r0, f12r1, f12r2, f12r3, f12r4, f12r5, f12r6, f12r7, f12r8, f12r10] | (refine BrW.of (fun hb => ?_) (fun hb => ?_) <;> (have hb' := hb; try simp only [decide_eq_true_eq, decide_eq_false_iff_not, beq_iff_eq, bne_iff_ne, beq_eq_false_iff_ne, bne_eq_false_iff_eq, Bool.not_eq_true', Bool.not_eq_false', Bool.not_eq_true, Bool.not_eq_false, Bool.and_eq_true, Bool.or_eq_true, Bool.and_eq_false_iff, Bool.or_eq_false_iff, Int.not_lt, Int.not_le, ne_eq, gt_iff_lt, ge_iff_le] at hb') <;> (try (exfalso; omega))) | (refine altW.of ?_ ?_)
      all_goals exact .back rfl ⟨by rw [hw], rfl⟩


def Px.cells (p : Px) : List Value := [.int .u8 p.ad.b0, .int .u8 p.ad.b1, .int .u8 p.ad.b2, .int .u8 p.ad.b3, .int .i64 p.bits, .int .i64 p.to]
theorem Px.cells_length (r : Px) : (Px.cells r).length = 6 := rfl
def Px.val (p : Px) : Value := .agg (Px.cells p).toArray
abbrev Ps (H : Heap) (k o g : Nat) (l : List Px) : Prop := Tbl Px Px.cells 6 p0 H k o g l

theorem same_A (x y : A) : sameS [false, false, false, false] [.int .u8 x.b0, .int .u8 x.b1, .int .u8 x.b2, .int .u8 x.b3] [.int .u8 y.b0, .int .u8 y.b1, .int .u8 y.b2, .int .u8 y.b3] = some (decide (x = y)) := by
  obtain ⟨a0, a1, a2, a3⟩ := x
  obtain ⟨d0, d1, d2, d3⟩ := y
  simp only [sameS, if_true, Option.map_some]
  congr 1
  rw [Bool.eq_iff_iff]
  simp only [Bool.and_eq_true, beq_iff_eq, decide_eq_true_eq, A.mk.injEq, and_true, and_assoc]

/-- One prefix, all right so far as bits go, and not there ahead. -/
def heldB (pre : List Px) (p : Px) : Bool := pre.any fun q => decide (q.bits = p.bits ∧ q.ad = p.ad)

theorem Fine.snoc {l : List Px} {i : Nat} (hi : i < l.length) (h4 : l.length ≤ 400) (h : Fine (l.take i)) (h1 : ¬ longP (l.getD i p0)) (h2 : ¬ rawP (l.getD i p0)) (h3 : ∀ j, j < i → ¬ ((l.getD j p0).bits = (l.getD i p0).bits ∧ (l.getD j p0).ad = (l.getD i p0).ad)) : Fine (l.take (i + 1)) := by
  rw [take_snoc p0 l i hi]
  refine ⟨by simp; omega, fun p hp => ?_, fun p hp => ?_, ?_⟩
  · rcases List.mem_append.1 hp with hp | hp
    · exact h.long p hp
    · rw [List.mem_singleton.1 hp]; exact h1
  · rcases List.mem_append.1 hp with hp | hp
    · exact h.raw p hp
    · rw [List.mem_singleton.1 hp]; exact h2
  · rw [List.pairwise_append]
    refine ⟨h.held, List.pairwise_singleton _ _, fun a ha b hb => ?_⟩
    rw [List.mem_singleton.1 hb]
    obtain ⟨j, hj, rfl⟩ := mem_getD (d := p0) ha
    simp at hj
    rw [getD_take p0 l i j (by omega)]
    exact h3 j (by omega)
theorem Wrong_u (l : List Px) (k o g c : Nat) (H : Heap) (hs : Ps H k o g l) (hlc : l.length ≤ c) (hB : l.length ≤ 9223372036854775807) (hok : ∀ i, i < l.length → (l.getD i p0).ad.ok) :
    ACallK Try.prog 11 [slv k o g l.length c] H (fun v H' => ∃ e, v = .int .i64 e ∧ H' = H ∧ (e = 0 ↔ Fine l)) := by
  obtain ⟨ro, cs, hk, hcl, hcs⟩ := hs.at'
  have hkl := hs.lt
  refine .walkW f11_ok (by simp; decide) (by decide) ?_
  by_cases h4 : l.length ≤ 400
  · repeat' first | simp (disch := first | with_reducible assumption | omega) only [go_sem, Bool.true_and, Bool.and_true, Bool.and_self, Bool.false_and, Bool.and_false, Bool.true_or, Bool.or_true, Bool.false_or, Bool.or_false, ↓reduceIte, Nat.reduceEqDiff, Nat.reduceAdd, Nat.reduceMul, Nat.reduceSub, Nat.reduceBEq, Nat.reduceLeDiff, Nat.reduceLT, Nat.reduceMod, Nat.reduceDiv, Int.reduceToNat, Int.reducePow, Int.reduceMul, Int.reduceAdd, Int.reduceSub, Int.reduceLE, Int.reduceLT, Int.reduceNeg, Int.reduceDiv, Int.reduceMod, Int.reduceEq, Int.reduceBEq, Int.reduceBNe, f11, f11b, f11r0, f11r1, f11r2, f11r3, f11r4, f11r5, f11r6, f11r7, f11r8, f11r9, f11r10, f11r11, f11r12, f11r14, f11r15, f11r16, f11r17, f11r18, f11r19, f11r21, f11r23, hk, get_old hk] | (refine BrW.of (fun hb => ?_) (fun hb => ?_) <;> (have hb' := hb; try simp only [decide_eq_true_eq, decide_eq_false_iff_not, beq_iff_eq, bne_iff_ne, beq_eq_false_iff_ne, bne_eq_false_iff_eq, Bool.not_eq_true', Bool.not_eq_false', Bool.not_eq_true, Bool.not_eq_false, Bool.and_eq_true, Bool.or_eq_true, Bool.and_eq_false_iff, Bool.or_eq_false_iff, Int.not_lt, Int.not_le, ne_eq, gt_iff_lt, ge_iff_le] at hb') <;> (try (exfalso; omega))) | (refine altW.of ?_ ?_)
    refine loopW.of (by decide) (fun m e H'' => ∃ i : Nat, e = [(0, slv k o g l.length c), (11, slv k o g l.length c), (12, .int .i64 l.length), (13, .int .i64 i)] ∧ H'' = H ∧ i ≤ l.length ∧ m = l.length - i ∧ Fine (l.take i)) l.length ⟨0, rfl, rfl, by omega, rfl, ⟨by simp, by simp, by simp, by simp⟩⟩ ?_
    rintro m e H'' ⟨i, rfl, rfl, hi, rfl, hfi⟩
    by_cases hlt : i < l.length
    · have hld := Tbl.ld (enc := Px.cells) (fun _ => rfl) hcs i hlt
      have hmem := getD_mem (d := p0) hlt
      have hpo := hok i hlt
      have hsn := Fine.snoc hlt h4 hfi
      have hlg : longP (l.getD i p0) → ¬ Fine l := fun h hf => hf.long _ hmem h
      have hrw : rawP (l.getD i p0) → ¬ Fine l := fun h hf => hf.raw _ hmem h
      have hhd : ∀ j, j < i → ((l.getD j p0).bits = (l.getD i p0).bits ∧ (l.getD j p0).ad = (l.getD i p0).ad) → ¬ Fine l := fun j hj h hf => by
        have := List.pairwise_iff_getElem.1 hf.held j i (by omega) hlt hj
        apply this
        simpa [List.getD_eq_getElem?_getD, show j < l.length by omega, hlt] using h
      generalize l.getD i p0 = p at *
      obtain ⟨ad, bits, to⟩ := p
      simp only [Px.cells] at hld
      simp only at hhd hpo
      by_cases hlong : longP ⟨ad, bits, to⟩
      · have hnf := hlg hlong
        unfold longP at hlong
        simp only at hlong
        clear hlg hrw hhd hsn
        repeat' first | simp (disch := first | with_reducible assumption | omega) only [go_sem, Bool.true_and, Bool.and_true, Bool.and_self, Bool.false_and, Bool.and_false, Bool.true_or, Bool.or_true, Bool.false_or, Bool.or_false, ↓reduceIte, Nat.reduceEqDiff, Nat.reduceAdd, Nat.reduceMul, Nat.reduceSub, Nat.reduceBEq, Nat.reduceLeDiff, Nat.reduceLT, Nat.reduceMod, Nat.reduceDiv, Int.reduceToNat, Int.reducePow, Int.reduceMul, Int.reduceAdd, Int.reduceSub, Int.reduceLE, Int.reduceLT, Int.reduceNeg, Int.reduceDiv, Int.reduceMod, Int.reduceEq, Int.reduceBEq, Int.reduceBNe, f11, f11b, f11r0, f11r1, f11r2, f11r3, f11r4, f11r5, f11r6, f11r7, f11r8, f11r9, f11r10, f11r11, f11r12, f11r14, f11r15, f11r16, f11r17, f11r18, f11r19, f11r21, f11r23, f11l2, f11, f11b, f11r0, f11r1, f11r2, f11r3, f11r4, f11r5, f11r6, f11r7, f11r8, f11r9, f11r10, f11r11, f11r12, f11r14, f11r15, f11r16, f11r17, f11r18, f11r19, f11r21, f11r23, hk, get_old hk, ↓hld] | (refine BrW.of (fun hb => ?_) (fun hb => ?_) <;> (have hb' := hb; try simp only [decide_eq_true_eq, decide_eq_false_iff_not, beq_iff_eq, bne_iff_ne, beq_eq_false_iff_ne, bne_eq_false_iff_eq, Bool.not_eq_true', Bool.not_eq_false', Bool.not_eq_true, Bool.not_eq_false, Bool.and_eq_true, Bool.or_eq_true, Bool.and_eq_false_iff, Bool.or_eq_false_iff, Int.not_lt, Int.not_le, ne_eq, gt_iff_lt, ge_iff_le] at hb') <;> (try (exfalso; omega))) | (refine altW.of ?_ ?_)
        all_goals exact .back rfl ⟨2, rfl, rfl, iff_of_false (by decide) hnf⟩
      · have hb : 0 ≤ bits ∧ bits ≤ 32 := by unfold longP at hlong; simp only at hlong; omega
        have hsn2 := hsn hlong
        clear hsn hlong hlg
        obtain ⟨n, rfl⟩ := Int.eq_ofNat_of_zero_le hb.1
        repeat' first | simp (disch := first | with_reducible assumption | omega) only [go_sem, Bool.true_and, Bool.and_true, Bool.and_self, Bool.false_and, Bool.and_false, Bool.true_or, Bool.or_true, Bool.false_or, Bool.or_false, ↓reduceIte, Nat.reduceEqDiff, Nat.reduceAdd, Nat.reduceMul, Nat.reduceSub, Nat.reduceBEq, Nat.reduceLeDiff, Nat.reduceLT, Nat.reduceMod, Nat.reduceDiv, Int.reduceToNat, Int.reducePow, Int.reduceMul, Int.reduceAdd, Int.reduceSub, Int.reduceLE, Int.reduceLT, Int.reduceNeg, Int.reduceDiv, Int.reduceMod, Int.reduceEq, Int.reduceBEq, Int.reduceBNe, f11, f11b, f11r0, f11r1, f11r2, f11r3, f11r4, f11r5, f11r6, f11r7, f11r8, f11r9, f11r10, f11r11, f11r12, f11r14, f11r15, f11r16, f11r17, f11r18, f11r19, f11r21, f11r23, f11l2, hk, get_old hk, ↓hld] | (refine BrW.of (fun hb => ?_) (fun hb => ?_) <;> (have hb' := hb; try simp only [decide_eq_true_eq, decide_eq_false_iff_not, beq_iff_eq, bne_iff_ne, beq_eq_false_iff_ne, bne_eq_false_iff_eq, Bool.not_eq_true', Bool.not_eq_false', Bool.not_eq_true, Bool.not_eq_false, Bool.and_eq_true, Bool.or_eq_true, Bool.and_eq_false_iff, Bool.or_eq_false_iff, Int.not_lt, Int.not_le, ne_eq, gt_iff_lt, ge_iff_le] at hb') <;> (try (exfalso; omega))) | (refine altW.of ?_ ?_)
        refine loopW.of (by decide) (fun m e H2 => ∃ j : Nat, e = [(0, slv k o g l.length c), (3, .int .i64 i), (4, .pointer (some ⟨H''.length, 0, some 1⟩)), (5, .int .i64 j), (11, slv k o g l.length c), (12, .int .i64 l.length), (13, .int .i64 i)] ∧ H2 = H'' ++ [.cells 0 0 false [.int .u8 ad.b0, .int .u8 ad.b1, .int .u8 ad.b2, .int .u8 ad.b3, .int .i64 n, .int .i64 to]] ∧ n ≤ j ∧ j ≤ 32 ∧ m = 32 - j ∧ ∀ q, n ≤ q → q < j → bit ad q ≠ 1) (32 - n) ⟨n, rfl, rfl, by omega, by omega, rfl, fun q h1 h2 => by omega⟩ ?_
        rintro m e H2 ⟨j, rfl, rfl, hj0, hj1, rfl, hin⟩
        by_cases hj : j < 32
        · have hbs := fun H' => bit_spec ad j H' hpo hj
          by_cases hone : bit ad j = 1
          · have hnf := hrw ⟨j, hj, by simpa using hj0, hone⟩
            rw [hone] at hbs
            clear hin hrw hhd hsn2
            repeat' first | simp (disch := first | with_reducible assumption | omega) only [go_sem, Bool.true_and, Bool.and_true, Bool.and_self, Bool.false_and, Bool.and_false, Bool.true_or, Bool.or_true, Bool.false_or, Bool.or_false, ↓reduceIte, Nat.reduceEqDiff, Nat.reduceAdd, Nat.reduceMul, Nat.reduceSub, Nat.reduceBEq, Nat.reduceLeDiff, Nat.reduceLT, Nat.reduceMod, Nat.reduceDiv, Int.reduceToNat, Int.reducePow, Int.reduceMul, Int.reduceAdd, Int.reduceSub, Int.reduceLE, Int.reduceLT, Int.reduceNeg, Int.reduceDiv, Int.reduceMod, Int.reduceEq, Int.reduceBEq, Int.reduceBNe, f11, f11b, f11r0, f11r1, f11r2, f11r3, f11r4, f11r5, f11r6, f11r7, f11r8, f11r9, f11r10, f11r11, f11r12, f11r14, f11r15, f11r16, f11r17, f11r18, f11r19, f11r21, f11r23, f11l0, f11, f11b, f11r0, f11r1, f11r2, f11r3, f11r4, f11r5, f11r6, f11r7, f11r8, f11r9, f11r10, f11r11, f11r12, f11r14, f11r15, f11r16, f11r17, f11r18, f11r19, f11r21, f11r23] | (refine BrW.of (fun hb => ?_) (fun hb => ?_) <;> (have hb' := hb; try simp only [decide_eq_true_eq, decide_eq_false_iff_not, beq_iff_eq, bne_iff_ne, beq_eq_false_iff_ne, bne_eq_false_iff_eq, Bool.not_eq_true', Bool.not_eq_false', Bool.not_eq_true, Bool.not_eq_false, Bool.and_eq_true, Bool.or_eq_true, Bool.and_eq_false_iff, Bool.or_eq_false_iff, Int.not_lt, Int.not_le, ne_eq, gt_iff_lt, ge_iff_le] at hb') <;> (try (exfalso; omega))) | (refine altW.of ?_ ?_) | (refine .of ((hbs _).mono ?_); rintro v _ ⟨rfl, rfl⟩)
            all_goals exact .back rfl ⟨1, rfl, rfl, iff_of_false (by decide) hnf⟩
          · have hz : bit ad j = 0 := by rcases bit_two ad j with h | h; exact h; exact (hone h).elim
            have hnx : ∀ q, n ≤ q → q < j + 1 → bit ad q ≠ 1 := fun q h1 h2 => by
              by_cases e : q = j
              · rw [e]; exact hone
              · exact hin q h1 (by omega)
            rw [hz] at hbs
            clear hin hrw hhd hsn2 hz hone
            repeat' first | simp (disch := first | with_reducible assumption | omega) only [go_sem, Bool.true_and, Bool.and_true, Bool.and_self, Bool.false_and, Bool.and_false, Bool.true_or, Bool.or_true, Bool.false_or, Bool.or_false, ↓reduceIte, Nat.reduceEqDiff, Nat.reduceAdd, Nat.reduceMul, Nat.reduceSub, Nat.reduceBEq, Nat.reduceLeDiff, Nat.reduceLT, Nat.reduceMod, Nat.reduceDiv, Int.reduceToNat, Int.reducePow, Int.reduceMul, Int.reduceAdd, Int.reduceSub, Int.reduceLE, Int.reduceLT, Int.reduceNeg, Int.reduceDiv, Int.reduceMod, Int.reduceEq, Int.reduceBEq, Int.reduceBNe, f11, f11b, f11r0, f11r1, f11r2, f11r3, f11r4, f11r5, f11r6, f11r7, f11r8, f11r9, f11r10, f11r11, f11r12, f11r14, f11r15, f11r16, f11r17, f11r18, f11r19, f11r21, f11r23, f11l0, f11, f11b, f11r0, f11r1, f11r2, f11r3, f11r4, f11r5, f11r6, f11r7, f11r8, f11r9, f11r10, f11r11, f11r12, f11r14, f11r15, f11r16, f11r17, f11r18, f11r19, f11r21, f11r23] | (refine BrW.of (fun hb => ?_) (fun hb => ?_) <;> (have hb' := hb; try simp only [decide_eq_true_eq, decide_eq_false_iff_not, beq_iff_eq, bne_iff_ne, beq_eq_false_iff_ne, bne_eq_false_iff_eq, Bool.not_eq_true', Bool.not_eq_false', Bool.not_eq_true, Bool.not_eq_false, Bool.and_eq_true, Bool.or_eq_true, Bool.and_eq_false_iff, Bool.or_eq_false_iff, Int.not_lt, Int.not_le, ne_eq, gt_iff_lt, ge_iff_le] at hb') <;> (try (exfalso; omega))) | (refine altW.of ?_ ?_) | (refine .of ((hbs _).mono ?_); rintro v _ ⟨rfl, rfl⟩)
            refine RdW.cut1 [0, 3, 4, 5, 11, 12, 13] (32 - (j + 1)) (by omega) rfl ?_ ?_
            · simp (disch := first | with_reducible assumption | omega) only [go_sem, Bool.true_and, Bool.and_true, Bool.and_self, Bool.false_and, Bool.and_false, Bool.true_or, Bool.or_true, Bool.false_or, Bool.or_false, ↓reduceIte, Nat.reduceEqDiff, Nat.reduceAdd, Nat.reduceMul, Nat.reduceSub, Nat.reduceBEq, Nat.reduceLeDiff, Nat.reduceLT, Nat.reduceMod, Nat.reduceDiv, Int.reduceToNat, Int.reducePow, Int.reduceMul, Int.reduceAdd, Int.reduceSub, Int.reduceLE, Int.reduceLT, Int.reduceNeg, Int.reduceDiv, Int.reduceMod, Int.reduceEq, Int.reduceBEq, Int.reduceBNe]
              simp; omega
            · simp (disch := first | with_reducible assumption | omega) only [go_sem, Bool.true_and, Bool.and_true, Bool.and_self, Bool.false_and, Bool.and_false, Bool.true_or, Bool.or_true, Bool.false_or, Bool.or_false, ↓reduceIte, Nat.reduceEqDiff, Nat.reduceAdd, Nat.reduceMul, Nat.reduceSub, Nat.reduceBEq, Nat.reduceLeDiff, Nat.reduceLT, Nat.reduceMod, Nat.reduceDiv, Int.reduceToNat, Int.reducePow, Int.reduceMul, Int.reduceAdd, Int.reduceSub, Int.reduceLE, Int.reduceLT, Int.reduceNeg, Int.reduceDiv, Int.reduceMod, Int.reduceEq, Int.reduceBEq, Int.reduceBNe]
              exact ⟨j + 1, rfl, by omega, by omega, rfl, hnx⟩
        · have hnr : ¬ rawP ⟨ad, (n : Int), to⟩ := fun ⟨q, h1, h2, h3⟩ => hin q (by simpa using h2) (by omega) h3
          have hsn3 := hsn2 hnr
          simp only at hsn3
          clear hin hrw hsn2 hnr
          repeat' first | simp (disch := first | with_reducible assumption | omega) only [go_sem, Bool.true_and, Bool.and_true, Bool.and_self, Bool.false_and, Bool.and_false, Bool.true_or, Bool.or_true, Bool.false_or, Bool.or_false, ↓reduceIte, Nat.reduceEqDiff, Nat.reduceAdd, Nat.reduceMul, Nat.reduceSub, Nat.reduceBEq, Nat.reduceLeDiff, Nat.reduceLT, Nat.reduceMod, Nat.reduceDiv, Int.reduceToNat, Int.reducePow, Int.reduceMul, Int.reduceAdd, Int.reduceSub, Int.reduceLE, Int.reduceLT, Int.reduceNeg, Int.reduceDiv, Int.reduceMod, Int.reduceEq, Int.reduceBEq, Int.reduceBNe, f11, f11b, f11r0, f11r1, f11r2, f11r3, f11r4, f11r5, f11r6, f11r7, f11r8, f11r9, f11r10, f11r11, f11r12, f11r14, f11r15, f11r16, f11r17, f11r18, f11r19, f11r21, f11r23, f11l0, f11, f11b, f11r0, f11r1, f11r2, f11r3, f11r4, f11r5, f11r6, f11r7, f11r8, f11r9, f11r10, f11r11, f11r12, f11r14, f11r15, f11r16, f11r17, f11r18, f11r19, f11r21, f11r23, hk, get_old hk] | (refine BrW.of (fun hb => ?_) (fun hb => ?_) <;> (have hb' := hb; try simp only [decide_eq_true_eq, decide_eq_false_iff_not, beq_iff_eq, bne_iff_ne, beq_eq_false_iff_ne, bne_eq_false_iff_eq, Bool.not_eq_true', Bool.not_eq_false', Bool.not_eq_true, Bool.not_eq_false, Bool.and_eq_true, Bool.or_eq_true, Bool.and_eq_false_iff, Bool.or_eq_false_iff, Int.not_lt, Int.not_le, ne_eq, gt_iff_lt, ge_iff_le] at hb') <;> (try (exfalso; omega))) | (refine altW.of ?_ ?_)
          refine loopW.of (by decide) (fun m e H2 => ∃ j : Nat, e = [(0, slv k o g l.length c), (4, .pointer (some ⟨H''.length, 0, some 1⟩)), (11, slv k o g l.length c), (12, .int .i64 l.length), (13, .int .i64 i), (39, slv k o g i c), (40, .int .i64 i), (41, .int .i64 j)] ∧ H2 = H'' ++ [.cells 0 0 false [.int .u8 ad.b0, .int .u8 ad.b1, .int .u8 ad.b2, .int .u8 ad.b3, .int .i64 n, .int .i64 to]] ∧ j ≤ i ∧ m = i - j ∧ ∀ q, q < j → ¬ ((l.getD q p0).bits = n ∧ (l.getD q p0).ad = ad)) i ⟨0, rfl, rfl, by omega, rfl, fun q h => by omega⟩ ?_
          rintro m e H2 ⟨q, rfl, rfl, hq, rfl, hin⟩
          by_cases hqi : q < i
          · have hldq := Tbl.ld (enc := Px.cells) (fun _ => rfl) hcs q (by omega)
            have hhq := hhd q hqi
            have hnx : ¬ ((l.getD q p0).bits = n ∧ (l.getD q p0).ad = ad) → ∀ j, j < q + 1 → ¬ ((l.getD j p0).bits = n ∧ (l.getD j p0).ad = ad) := fun h j hj => by
              by_cases e : j = q
              · rw [e]; exact h
              · exact hin j (by omega)
            generalize l.getD q p0 = r at *
            simp only [Px.cells] at hldq
            have hsa := same_A r.ad ad
            by_cases hbn : r.bits = (n : Int)
            · by_cases hda : r.ad = ad
              · have hnf := hhq ⟨hbn, hda⟩
                rw [decide_eq_true hda] at hsa
                clear hhq hnx hhd hsn3 hin hda
                repeat' first | simp (disch := first | with_reducible assumption | omega) only [go_sem, Bool.true_and, Bool.and_true, Bool.and_self, Bool.false_and, Bool.and_false, Bool.true_or, Bool.or_true, Bool.false_or, Bool.or_false, ↓reduceIte, Nat.reduceEqDiff, Nat.reduceAdd, Nat.reduceMul, Nat.reduceSub, Nat.reduceBEq, Nat.reduceLeDiff, Nat.reduceLT, Nat.reduceMod, Nat.reduceDiv, Int.reduceToNat, Int.reducePow, Int.reduceMul, Int.reduceAdd, Int.reduceSub, Int.reduceLE, Int.reduceLT, Int.reduceNeg, Int.reduceDiv, Int.reduceMod, Int.reduceEq, Int.reduceBEq, Int.reduceBNe, f11, f11b, f11r0, f11r1, f11r2, f11r3, f11r4, f11r5, f11r6, f11r7, f11r8, f11r9, f11r10, f11r11, f11r12, f11r14, f11r15, f11r16, f11r17, f11r18, f11r19, f11r21, f11r23, f11l1, f11, f11b, f11r0, f11r1, f11r2, f11r3, f11r4, f11r5, f11r6, f11r7, f11r8, f11r9, f11r10, f11r11, f11r12, f11r14, f11r15, f11r16, f11r17, f11r18, f11r19, f11r21, f11r23, hk, get_old hk, ↓hldq, ↓hsa] | (refine BrW.of (fun hb => ?_) (fun hb => ?_) <;> (have hb' := hb; try simp only [decide_eq_true_eq, decide_eq_false_iff_not, beq_iff_eq, bne_iff_ne, beq_eq_false_iff_ne, bne_eq_false_iff_eq, Bool.not_eq_true', Bool.not_eq_false', Bool.not_eq_true, Bool.not_eq_false, Bool.and_eq_true, Bool.or_eq_true, Bool.and_eq_false_iff, Bool.or_eq_false_iff, Int.not_lt, Int.not_le, ne_eq, gt_iff_lt, ge_iff_le] at hb') <;> (try (exfalso; omega))) | (refine altW.of ?_ ?_)
                all_goals exact .back rfl ⟨6, rfl, rfl, iff_of_false (by decide) hnf⟩
              · have hnx' := hnx fun h => hda h.2
                rw [decide_eq_false hda] at hsa
                clear hhq hnx hhd hsn3 hin hda
                repeat' first | simp (disch := first | with_reducible assumption | omega) only [go_sem, Bool.true_and, Bool.and_true, Bool.and_self, Bool.false_and, Bool.and_false, Bool.true_or, Bool.or_true, Bool.false_or, Bool.or_false, ↓reduceIte, Nat.reduceEqDiff, Nat.reduceAdd, Nat.reduceMul, Nat.reduceSub, Nat.reduceBEq, Nat.reduceLeDiff, Nat.reduceLT, Nat.reduceMod, Nat.reduceDiv, Int.reduceToNat, Int.reducePow, Int.reduceMul, Int.reduceAdd, Int.reduceSub, Int.reduceLE, Int.reduceLT, Int.reduceNeg, Int.reduceDiv, Int.reduceMod, Int.reduceEq, Int.reduceBEq, Int.reduceBNe, f11, f11b, f11r0, f11r1, f11r2, f11r3, f11r4, f11r5, f11r6, f11r7, f11r8, f11r9, f11r10, f11r11, f11r12, f11r14, f11r15, f11r16, f11r17, f11r18, f11r19, f11r21, f11r23, f11l1, f11, f11b, f11r0, f11r1, f11r2, f11r3, f11r4, f11r5, f11r6, f11r7, f11r8, f11r9, f11r10, f11r11, f11r12, f11r14, f11r15, f11r16, f11r17, f11r18, f11r19, f11r21, f11r23, hk, get_old hk, ↓hldq, ↓hsa] | (refine BrW.of (fun hb => ?_) (fun hb => ?_) <;> (have hb' := hb; try simp only [decide_eq_true_eq, decide_eq_false_iff_not, beq_iff_eq, bne_iff_ne, beq_eq_false_iff_ne, bne_eq_false_iff_eq, Bool.not_eq_true', Bool.not_eq_false', Bool.not_eq_true, Bool.not_eq_false, Bool.and_eq_true, Bool.or_eq_true, Bool.and_eq_false_iff, Bool.or_eq_false_iff, Int.not_lt, Int.not_le, ne_eq, gt_iff_lt, ge_iff_le] at hb') <;> (try (exfalso; omega))) | (refine altW.of ?_ ?_)
                refine RdW.cut1 [0, 4, 11, 12, 13, 39, 40, 41] (i - (q + 1)) (by omega) rfl ?_ ?_
                · simp (disch := first | with_reducible assumption | omega) only [go_sem, Bool.true_and, Bool.and_true, Bool.and_self, Bool.false_and, Bool.and_false, Bool.true_or, Bool.or_true, Bool.false_or, Bool.or_false, ↓reduceIte, Nat.reduceEqDiff, Nat.reduceAdd, Nat.reduceMul, Nat.reduceSub, Nat.reduceBEq, Nat.reduceLeDiff, Nat.reduceLT, Nat.reduceMod, Nat.reduceDiv, Int.reduceToNat, Int.reducePow, Int.reduceMul, Int.reduceAdd, Int.reduceSub, Int.reduceLE, Int.reduceLT, Int.reduceNeg, Int.reduceDiv, Int.reduceMod, Int.reduceEq, Int.reduceBEq, Int.reduceBNe]
                  simp; omega
                · simp (disch := first | with_reducible assumption | omega) only [go_sem, Bool.true_and, Bool.and_true, Bool.and_self, Bool.false_and, Bool.and_false, Bool.true_or, Bool.or_true, Bool.false_or, Bool.or_false, ↓reduceIte, Nat.reduceEqDiff, Nat.reduceAdd, Nat.reduceMul, Nat.reduceSub, Nat.reduceBEq, Nat.reduceLeDiff, Nat.reduceLT, Nat.reduceMod, Nat.reduceDiv, Int.reduceToNat, Int.reducePow, Int.reduceMul, Int.reduceAdd, Int.reduceSub, Int.reduceLE, Int.reduceLT, Int.reduceNeg, Int.reduceDiv, Int.reduceMod, Int.reduceEq, Int.reduceBEq, Int.reduceBNe]
                  exact ⟨q + 1, rfl, by omega, rfl, hnx'⟩
            · have hnx' := hnx fun h => hbn h.1
              clear hhq hnx hhd hsn3 hin
              repeat' first | simp (disch := first | with_reducible assumption | omega) only [go_sem, Bool.true_and, Bool.and_true, Bool.and_self, Bool.false_and, Bool.and_false, Bool.true_or, Bool.or_true, Bool.false_or, Bool.or_false, ↓reduceIte, Nat.reduceEqDiff, Nat.reduceAdd, Nat.reduceMul, Nat.reduceSub, Nat.reduceBEq, Nat.reduceLeDiff, Nat.reduceLT, Nat.reduceMod, Nat.reduceDiv, Int.reduceToNat, Int.reducePow, Int.reduceMul, Int.reduceAdd, Int.reduceSub, Int.reduceLE, Int.reduceLT, Int.reduceNeg, Int.reduceDiv, Int.reduceMod, Int.reduceEq, Int.reduceBEq, Int.reduceBNe, f11, f11b, f11r0, f11r1, f11r2, f11r3, f11r4, f11r5, f11r6, f11r7, f11r8, f11r9, f11r10, f11r11, f11r12, f11r14, f11r15, f11r16, f11r17, f11r18, f11r19, f11r21, f11r23, f11l1, f11, f11b, f11r0, f11r1, f11r2, f11r3, f11r4, f11r5, f11r6, f11r7, f11r8, f11r9, f11r10, f11r11, f11r12, f11r14, f11r15, f11r16, f11r17, f11r18, f11r19, f11r21, f11r23, hk, get_old hk, ↓hldq, ↓hsa] | (refine BrW.of (fun hb => ?_) (fun hb => ?_) <;> (have hb' := hb; try simp only [decide_eq_true_eq, decide_eq_false_iff_not, beq_iff_eq, bne_iff_ne, beq_eq_false_iff_ne, bne_eq_false_iff_eq, Bool.not_eq_true', Bool.not_eq_false', Bool.not_eq_true, Bool.not_eq_false, Bool.and_eq_true, Bool.or_eq_true, Bool.and_eq_false_iff, Bool.or_eq_false_iff, Int.not_lt, Int.not_le, ne_eq, gt_iff_lt, ge_iff_le] at hb') <;> (try (exfalso; omega))) | (refine altW.of ?_ ?_)
              refine RdW.cut1 [0, 4, 11, 12, 13, 39, 40, 41] (i - (q + 1)) (by omega) rfl ?_ ?_
              · simp (disch := first | with_reducible assumption | omega) only [go_sem, Bool.true_and, Bool.and_true, Bool.and_self, Bool.false_and, Bool.and_false, Bool.true_or, Bool.or_true, Bool.false_or, Bool.or_false, ↓reduceIte, Nat.reduceEqDiff, Nat.reduceAdd, Nat.reduceMul, Nat.reduceSub, Nat.reduceBEq, Nat.reduceLeDiff, Nat.reduceLT, Nat.reduceMod, Nat.reduceDiv, Int.reduceToNat, Int.reducePow, Int.reduceMul, Int.reduceAdd, Int.reduceSub, Int.reduceLE, Int.reduceLT, Int.reduceNeg, Int.reduceDiv, Int.reduceMod, Int.reduceEq, Int.reduceBEq, Int.reduceBNe]
                simp; omega
              · simp (disch := first | with_reducible assumption | omega) only [go_sem, Bool.true_and, Bool.and_true, Bool.and_self, Bool.false_and, Bool.and_false, Bool.true_or, Bool.or_true, Bool.false_or, Bool.or_false, ↓reduceIte, Nat.reduceEqDiff, Nat.reduceAdd, Nat.reduceMul, Nat.reduceSub, Nat.reduceBEq, Nat.reduceLeDiff, Nat.reduceLT, Nat.reduceMod, Nat.reduceDiv, Int.reduceToNat, Int.reducePow, Int.reduceMul, Int.reduceAdd, Int.reduceSub, Int.reduceLE, Int.reduceLT, Int.reduceNeg, Int.reduceDiv, Int.reduceMod, Int.reduceEq, Int.reduceBEq, Int.reduceBNe]
                exact ⟨q + 1, rfl, by omega, rfl, hnx'⟩
          · have hsn4 := hsn3 fun j hj => hin j (by omega)
            clear hin hsn3 hhd
            repeat' first | simp (disch := first | with_reducible assumption | omega) only [go_sem, Bool.true_and, Bool.and_true, Bool.and_self, Bool.false_and, Bool.and_false, Bool.true_or, Bool.or_true, Bool.false_or, Bool.or_false, ↓reduceIte, Nat.reduceEqDiff, Nat.reduceAdd, Nat.reduceMul, Nat.reduceSub, Nat.reduceBEq, Nat.reduceLeDiff, Nat.reduceLT, Nat.reduceMod, Nat.reduceDiv, Int.reduceToNat, Int.reducePow, Int.reduceMul, Int.reduceAdd, Int.reduceSub, Int.reduceLE, Int.reduceLT, Int.reduceNeg, Int.reduceDiv, Int.reduceMod, Int.reduceEq, Int.reduceBEq, Int.reduceBNe, f11, f11b, f11r0, f11r1, f11r2, f11r3, f11r4, f11r5, f11r6, f11r7, f11r8, f11r9, f11r10, f11r11, f11r12, f11r14, f11r15, f11r16, f11r17, f11r18, f11r19, f11r21, f11r23, f11l1, f11, f11b, f11r0, f11r1, f11r2, f11r3, f11r4, f11r5, f11r6, f11r7, f11r8, f11r9, f11r10, f11r11, f11r12, f11r14, f11r15, f11r16, f11r17, f11r18, f11r19, f11r21, f11r23, hk, get_old hk] | (refine BrW.of (fun hb => ?_) (fun hb => ?_) <;> (have hb' := hb; try simp only [decide_eq_true_eq, decide_eq_false_iff_not, beq_iff_eq, bne_iff_ne, beq_eq_false_iff_ne, bne_eq_false_iff_eq, Bool.not_eq_true', Bool.not_eq_false', Bool.not_eq_true, Bool.not_eq_false, Bool.and_eq_true, Bool.or_eq_true, Bool.and_eq_false_iff, Bool.or_eq_false_iff, Int.not_lt, Int.not_le, ne_eq, gt_iff_lt, ge_iff_le] at hb') <;> (try (exfalso; omega))) | (refine altW.of ?_ ?_)
            refine RdW.cut0 [0, 11, 12, 13] (l.length - (i + 1)) (by omega) ?_ ?_
            · simp (disch := first | with_reducible assumption | omega) only [go_sem, Bool.true_and, Bool.and_true, Bool.and_self, Bool.false_and, Bool.and_false, Bool.true_or, Bool.or_true, Bool.false_or, Bool.or_false, ↓reduceIte, Nat.reduceEqDiff, Nat.reduceAdd, Nat.reduceMul, Nat.reduceSub, Nat.reduceBEq, Nat.reduceLeDiff, Nat.reduceLT, Nat.reduceMod, Nat.reduceDiv, Int.reduceToNat, Int.reducePow, Int.reduceMul, Int.reduceAdd, Int.reduceSub, Int.reduceLE, Int.reduceLT, Int.reduceNeg, Int.reduceDiv, Int.reduceMod, Int.reduceEq, Int.reduceBEq, Int.reduceBNe]
              simp; omega
            · simp (disch := first | with_reducible assumption | omega) only [go_sem, Bool.true_and, Bool.and_true, Bool.and_self, Bool.false_and, Bool.and_false, Bool.true_or, Bool.or_true, Bool.false_or, Bool.or_false, ↓reduceIte, Nat.reduceEqDiff, Nat.reduceAdd, Nat.reduceMul, Nat.reduceSub, Nat.reduceBEq, Nat.reduceLeDiff, Nat.reduceLT, Nat.reduceMod, Nat.reduceDiv, Int.reduceToNat, Int.reducePow, Int.reduceMul, Int.reduceAdd, Int.reduceSub, Int.reduceLE, Int.reduceLT, Int.reduceNeg, Int.reduceDiv, Int.reduceMod, Int.reduceEq, Int.reduceBEq, Int.reduceBNe]
              exact ⟨i + 1, rfl, by omega, rfl, hsn4⟩
    · obtain rfl : i = l.length := by omega
      rw [List.take_length] at hfi
      repeat' first | simp (disch := first | with_reducible assumption | omega) only [go_sem, Bool.true_and, Bool.and_true, Bool.and_self, Bool.false_and, Bool.and_false, Bool.true_or, Bool.or_true, Bool.false_or, Bool.or_false, ↓reduceIte, Nat.reduceEqDiff, Nat.reduceAdd, Nat.reduceMul, Nat.reduceSub, Nat.reduceBEq, Nat.reduceLeDiff, Nat.reduceLT, Nat.reduceMod, Nat.reduceDiv, Int.reduceToNat, Int.reducePow, Int.reduceMul, Int.reduceAdd, Int.reduceSub, Int.reduceLE, Int.reduceLT, Int.reduceNeg, Int.reduceDiv, Int.reduceMod, Int.reduceEq, Int.reduceBEq, Int.reduceBNe, f11, f11b, f11r0, f11r1, f11r2, f11r3, f11r4, f11r5, f11r6, f11r7, f11r8, f11r9, f11r10, f11r11, f11r12, f11r14, f11r15, f11r16, f11r17, f11r18, f11r19, f11r21, f11r23, f11l2, f11, f11b, f11r0, f11r1, f11r2, f11r3, f11r4, f11r5, f11r6, f11r7, f11r8, f11r9, f11r10, f11r11, f11r12, f11r14, f11r15, f11r16, f11r17, f11r18, f11r19, f11r21, f11r23, hk] | (refine BrW.of (fun hb => ?_) (fun hb => ?_) <;> (have hb' := hb; try simp only [decide_eq_true_eq, decide_eq_false_iff_not, beq_iff_eq, bne_iff_ne, beq_eq_false_iff_ne, bne_eq_false_iff_eq, Bool.not_eq_true', Bool.not_eq_false', Bool.not_eq_true, Bool.not_eq_false, Bool.and_eq_true, Bool.or_eq_true, Bool.and_eq_false_iff, Bool.or_eq_false_iff, Int.not_lt, Int.not_le, ne_eq, gt_iff_lt, ge_iff_le] at hb') <;> (try (exfalso; omega))) | (refine altW.of ?_ ?_)
      exact .here ⟨0, rfl, rfl, iff_of_true rfl hfi⟩
  · have hnf : ¬ Fine l := fun h => h4 h.len
    repeat' first | simp (disch := first | with_reducible assumption | omega) only [go_sem, Bool.true_and, Bool.and_true, Bool.and_self, Bool.false_and, Bool.and_false, Bool.true_or, Bool.or_true, Bool.false_or, Bool.or_false, ↓reduceIte, Nat.reduceEqDiff, Nat.reduceAdd, Nat.reduceMul, Nat.reduceSub, Nat.reduceBEq, Nat.reduceLeDiff, Nat.reduceLT, Nat.reduceMod, Nat.reduceDiv, Int.reduceToNat, Int.reducePow, Int.reduceMul, Int.reduceAdd, Int.reduceSub, Int.reduceLE, Int.reduceLT, Int.reduceNeg, Int.reduceDiv, Int.reduceMod, Int.reduceEq, Int.reduceBEq, Int.reduceBNe, f11, f11b, f11r0, f11r1, f11r2, f11r3, f11r4, f11r5, f11r6, f11r7, f11r8, f11r9, f11r10, f11r11, f11r12, f11r14, f11r15, f11r16, f11r17, f11r18, f11r19, f11r21, f11r23, hk, get_old hk] | (refine BrW.of (fun hb => ?_) (fun hb => ?_) <;> (have hb' := hb; try simp only [decide_eq_true_eq, decide_eq_false_iff_not, beq_iff_eq, bne_iff_ne, beq_eq_false_iff_ne, bne_eq_false_iff_eq, Bool.not_eq_true', Bool.not_eq_false', Bool.not_eq_true, Bool.not_eq_false, Bool.and_eq_true, Bool.or_eq_true, Bool.and_eq_false_iff, Bool.or_eq_false_iff, Int.not_lt, Int.not_le, ne_eq, gt_iff_lt, ge_iff_le] at hb') <;> (try (exfalso; omega))) | (refine altW.of ?_ ?_)
    all_goals exact .here ⟨2, rfl, rfl, iff_of_false (by decide) hnf⟩
end Go.Proofs.Ytiflaenenlcidaa
