import Derived.Test.YtjdmpkaiijcchaaSteps6
set_option linter.unusedSimpArgs false
set_option linter.unusedVariables false
set_option maxHeartbeats 2000000
set_option maxRecDepth 20000
namespace Go.Proofs.Ytjdmpkaiijcchaa
open Go Go.Am
attribute [local irreducible] opsW Ww loopW callW drawW outW outDW gW cW BrW bothW vW resW DropW RdW dcallW altW forkW splitW Later.run

theorem flI_key {L : List It} {k : Nat} (h l : Int) (hk : k < L.length) : (((flat' It.cells L).set (k * 3 + 1) (.int .u64 h)).set (k * 3 + 1 + 1) (.int .u64 l)) = flat' It.cells (L.set k ⟨(L.getD k i0).i, h, l⟩) := by
  have h1 := flat'_set (enc := It.cells) (s := 3) (fun _ => rfl) i0 (a' := ⟨(L.getD k i0).i, h, (L.getD k i0).l⟩) (v := .int .u64 h) L k 1 hk (by omega) rfl
  have h2 := flat'_set (enc := It.cells) (s := 3) (fun _ => rfl) i0 (a' := ⟨(L.getD k i0).i, h, l⟩) (v := .int .u64 l) (L.set k ⟨(L.getD k i0).i, h, (L.getD k i0).l⟩) k 2 (by simpa using hk) (by omega) (by rw [getI_set _ _ _ _ hk, if_pos rfl]; rfl)
  rw [h1, show k * 3 + 1 + 1 = k * 3 + 2 by omega, h2, List.set_set]
/-- One gets a new key. -/
theorem do_upd (B r P : Nat) (J : Heap) (s : List It) (n : Nat) (o : Op) (ho : o.ok) (h : HP B r P J s n) (hB : B < P) (hr : r < P) (hP : P ≤ J.length) (hn : n ≤ 10000000000) (hk : o.k = 4) (hhas : hasI s o.i = true) :
    ACallK Try.prog 21 [.pointer (some ⟨B, 0, some 1⟩), o.val] J (fun v J' => v = .tuple #[.int .i64 0, .int .i64 0] ∧ (∃ n', HP B r P J' (insS ⟨o.i, o.h, o.l⟩ (outI s o.i)) n' ∧ n' ≤ n + 1) ∧ Fr B r P J J') := by
  obtain ⟨L, m, c, hS, hM, hA⟩ := h
  have hm := hM.has hA o.i
  rcases hm with ⟨h1, _⟩ | ⟨_, k, hkn, hlk, hki⟩
  · rw [hhas] at h1; cases h1
  obtain ⟨q, g, hPq, hQ⟩ := hS.full (by omega)
  have hnL := hQ.nL
  have hl0 := look_E m o.i
  rw [hlk] at hl0
  obtain ⟨ok, oi, oh, ol⟩ := o
  simp only [Op.val, Op.ok] at *
  subst hk
  have hq1 := hQ.hB
  have hq2 := hQ.hq
  have hq3 := hQ.hr
  obtain ⟨e1, e2, e3⟩ := hQ.ne
  have fl := flI_len L
  have hset := flI_key (L := L) (k := k) oh ol (by omega)
  rw [hki] at hset
  have hg : ∀ j, (L.set k ⟨oi, oh, ol⟩).getD j i0 = if j = k then ⟨oi, oh, ol⟩ else L.getD j i0 := fun j => getI_set L k j _ (by omega)
  have hid : ∀ j, ((L.set k ⟨oi, oh, ol⟩).getD j i0).i = (L.getD j i0).i := fun j => by
    rw [hg]; split
    · rename_i e; rw [e, hki]
    · rfl
  have hM1 : MI (L.set k ⟨oi, oh, ol⟩) n m := ⟨fun i hi => by rw [hid]; exact hM.at' i hi, fun id u hu => by
    obtain ⟨i, h1, h2, h3⟩ := hM.fr id u hu
    exact ⟨i, h1, h2, by rw [hid]; exact h3⟩⟩
  have hO1 : OkL (L.set k ⟨oi, oh, ol⟩) n := fun i hi => by
    rw [hg]; split
    · exact ho
    · exact hA.ok i hi
  have hU1 : UpI (fun m => rk ((L.set k ⟨oi, oh, ol⟩).getD m i0)) n k := hA.hp.turn (fun j hj hne => by
    show rk ((L.set k ⟨oi, oh, ol⟩).getD j i0) = rk (L.getD j i0)
    rw [hg, if_neg hne]) hkn
  have hmm : ∀ y, (∃ i, i < n ∧ (L.set k ⟨oi, oh, ol⟩).getD i i0 = y) ↔ y = ⟨oi, oh, ol⟩ ∨ (∃ i, i < n ∧ itF L i = y) ∧ y ≠ itF L k := fun y => by
    constructor
    · rintro ⟨i, h1, h2⟩
      rw [hg] at h2
      by_cases e : i = k
      · rw [if_pos e] at h2; exact .inl h2.symm
      · rw [if_neg e] at h2
        refine .inr ⟨⟨i, h1, h2⟩, fun e2 => e ?_⟩
        exact hA.one i k h1 hkn (by show (L.getD i i0).i = _; rw [h2, e2])
    · rintro (h1 | ⟨⟨i, h1, h2⟩, h3⟩)
      · exact ⟨k, hkn, by rw [hg, if_pos rfl, h1]⟩
      · refine ⟨i, h1, ?_⟩
        rw [hg, if_neg (fun e => h3 (by rw [← h2, e]))]
        exact h2
  have kq : ∀ X Y, ((J ++ X).set q Y)[q]? = some Y := fun X Y => get_set_hit (get_old hq2 X)
  have kB : ∀ X Y, ((J ++ X).set q Y)[B]? = _ := fun X Y => (get_set_miss (by omega)).trans (get_old hq1 X)
  have kr : ∀ X Y, ((J ++ X).set q Y)[r]? = _ := fun X Y => (get_set_miss (by omega)).trans (get_old hq3 X)
  have hQ1 : HQ B r q ((J ++ [AObj.cells 0 0 false [.int .i64 4, .int .i64 oi, .int .u64 oh, .int .u64 ol]]).set q (.cells g 3 false (flat' It.cells (L.set k ⟨oi, oh, ol⟩)))) (L.set k ⟨oi, oh, ol⟩) n g m c :=
    ⟨by rw [List.length_set]; exact kB _ _, kr _ _, kq _ _, by rw [List.length_set]; exact hnL, ⟨e1, e2, e3⟩, hQ.wm⟩
  refine .walkW f21_ok (by simp; decide) (by decide) ?_
  repeat' first | simp (disch := first | with_reducible assumption | omega) only [go_sem, Bool.true_and, Bool.and_true, Bool.and_self, Bool.false_and, Bool.and_false, Bool.true_or, Bool.or_true, Bool.false_or, Bool.or_false, ↓reduceIte, Nat.reduceEqDiff, Nat.reduceAdd, Nat.reduceMul, Nat.reduceSub, Nat.reduceBEq, Nat.reduceLeDiff, Nat.reduceLT, Nat.reduceMod, Nat.reduceDiv, Int.reduceToNat, Int.reducePow, Int.reduceMul, Int.reduceAdd, Int.reduceSub, Int.reduceLE, Int.reduceLT, Int.reduceNeg, Int.reduceDiv, Int.reduceMod, Int.reduceEq, Int.reduceBEq, Int.reduceBNe, f21, f21b, f21r0, f21r1, f21r2, f21r3, f21r4, f21r5, f21r6, f21r7, f21r8, f21r9, f21r10, f21r11, f21r12, f21r13, f21r14, f21r15, f21r16, f21r17, f21r18, f21r19, f21r20, f21r21, f21r22, hq1, hq3, get_old hq1, get_old hq3, get_old hq2, fl, mapAt, hl0, hset] | (refine BrW.of (fun hb => ?_) (fun hb => ?_) <;> (have hb' := hb; try simp only [decide_eq_true_eq, decide_eq_false_iff_not, beq_iff_eq, bne_iff_ne, beq_eq_false_iff_ne, bne_eq_false_iff_eq, Bool.not_eq_true', Bool.not_eq_false', Bool.not_eq_true, Bool.not_eq_false, Bool.and_eq_true, Bool.or_eq_true, Bool.and_eq_false_iff, Bool.or_eq_false_iff, Int.not_lt, Int.not_le, ne_eq, gt_iff_lt, ge_iff_le] at hb') <;> (try (exfalso; omega))) | (refine altW.of ?_ ?_)
  all_goals first | (exfalso; omega) | skip
  refine .of ((fix_spec B r q _ (L.set k ⟨oi, oh, ol⟩) n g m c hQ1 hM1 hO1 (by omega) k hkn hU1).mono ?_)
  rintro v J' ⟨rfl, L', m', g1, g2⟩
  repeat' first | simp (disch := first | with_reducible assumption | omega) only [go_sem, Bool.true_and, Bool.and_true, Bool.and_self, Bool.false_and, Bool.and_false, Bool.true_or, Bool.or_true, Bool.false_or, Bool.or_false, ↓reduceIte, Nat.reduceEqDiff, Nat.reduceAdd, Nat.reduceMul, Nat.reduceSub, Nat.reduceBEq, Nat.reduceLeDiff, Nat.reduceLT, Nat.reduceMod, Nat.reduceDiv, Int.reduceToNat, Int.reducePow, Int.reduceMul, Int.reduceAdd, Int.reduceSub, Int.reduceLE, Int.reduceLT, Int.reduceNeg, Int.reduceDiv, Int.reduceMod, Int.reduceEq, Int.reduceBEq, Int.reduceBNe, f21, f21b, f21r0, f21r1, f21r2, f21r3, f21r4, f21r5, f21r6, f21r7, f21r8, f21r9, f21r10, f21r11, f21r12, f21r13, f21r14, f21r15, f21r16, f21r17, f21r18, f21r19, f21r20, f21r21, f21r22] | (refine BrW.of (fun hb => ?_) (fun hb => ?_) <;> (have hb' := hb; try simp only [decide_eq_true_eq, decide_eq_false_iff_not, beq_iff_eq, bne_iff_ne, beq_eq_false_iff_ne, bne_eq_false_iff_eq, Bool.not_eq_true', Bool.not_eq_false', Bool.not_eq_true, Bool.not_eq_false, Bool.and_eq_true, Bool.or_eq_true, Bool.and_eq_false_iff, Bool.or_eq_false_iff, Int.not_lt, Int.not_le, ne_eq, gt_iff_lt, ge_iff_le] at hb') <;> (try (exfalso; omega))) | (refine altW.of ?_ ?_)
  refine .here ⟨rfl, ⟨n, ⟨L', m', c, .inl ⟨q, g, hPq, g1.hq⟩, g1.mi, ?_⟩, by omega⟩, by rw [g1.jl]; simp, fun j h1 hN h2 h3 => ?_⟩
  · exact hA.turn (x := ⟨oi, oh, ol⟩) ho hkn hki.symm (fun y => (g1.mem y).trans (hmm y)) g2 fun i j hi hj e => g1.mi.one hi hj e
  · have hjq : j ≠ q := fun e => hN (by omega) _ _ (by rw [e]; exact hq2)
    rw [g1.old j hjq h3, List.getElem?_set_ne (by omega), List.getElem?_append_left (by omega)]
theorem flI_tk {L : List It} {n : Nat} (h : n = L.length) : (flat' It.cells L).take (n * 3) = flat' It.cells L := List.take_of_length_le (by rw [flI_len]; omega)
theorem flI_sn (L : List It) (x : It) : flat' It.cells L ++ [.int .i64 x.i, .int .u64 x.h, .int .u64 x.l] = flat' It.cells (L ++ [x]) := by rw [← flat'_app]; rfl
/-- The end of a push. -/
theorem push_fin (B r P q : Nat) (J J3 : Heap) (L L' : List It) (s : List It) (n g : Nat) (m : List T3) (c : Nat) (x : It) (hx : x.ok) (hM : MI L n m) (hA : Abs s (itF L) n) (hhas : hasI s x.i = false) (hlk : lk m x.i = none) (hn : n ≤ 10000000000) (hPq : P ≤ q)
    (h3 : HQ B r q J3 L' (n + 1) g (m ++ [(x.i, (n : Int), c)]) (c + 1)) (hj : ∀ j, j < n → L'.getD j i0 = L.getD j i0) (hl : L'.getD n i0 = x) (hJ : J.length ≤ J3.length) (hold : ∀ j, j < J.length → (P ≤ j → ∀ g cs, J[j]? = some (.cells g 3 false cs) → False) → j ≠ B → j ≠ r → j ≠ q ∧ J3[j]? = J[j]?) :
    ACallK Try.prog 32 [.pointer (some ⟨B, 0, some 1⟩), .int .i64 n] J3 (fun v J' => v = .tuple #[] ∧ (∃ n', HP B r P J' (insS x s) n' ∧ n' ≤ n + 1) ∧ Fr B r P J J') := by
  have happ := fun y => lk_app x.i (n : Int) c m y hlk
  have hno : ∀ i, i < n → (L.getD i i0).i ≠ x.i := fun i hi e => by
    have := hM.at' i hi
    rw [e, hlk] at this; cases this
  have hM' : MI L' (n + 1) (m ++ [(x.i, (n : Int), c)]) := by
    refine ⟨fun i hi => ?_, fun id u hu => ?_⟩
    · rw [happ]
      by_cases e : i = n
      · rw [e, hl, if_pos rfl]
      · rw [hj i (by omega), if_neg (hno i (by omega))]
        exact hM.at' i (by omega)
    · rw [happ] at hu
      by_cases e : id = x.i
      · rw [if_pos e] at hu
        exact ⟨n, by omega, (Option.some.inj hu).symm, by rw [hl, e]⟩
      · rw [if_neg e] at hu
        obtain ⟨i, h1, h2, h4⟩ := hM.fr id u hu
        exact ⟨i, by omega, h2, by rw [hj i h1]; exact h4⟩
  have hO' : OkL L' (n + 1) := fun i hi => by
    by_cases e : i = n
    · rw [e, hl]; exact hx
    · rw [hj i (by omega)]; exact hA.ok i (by omega)
  have hU : UpI (fun m => rk (L'.getD m i0)) (n + 1) n := hA.hp.push fun j hj' => by
    show rk (L'.getD j i0) = rk (L.getD j i0)
    rw [hj j hj']
  refine (fix_spec B r q _ L' (n + 1) g _ (c + 1) h3 hM' hO' (by omega) n (by omega) hU).mono ?_
  rintro v J' ⟨rfl, L4, m4, g1, g2⟩
  refine ⟨rfl, ⟨n + 1, ⟨L4, m4, c + 1, .inl ⟨q, g, hPq, g1.hq⟩, g1.mi, ?_⟩, Nat.le_refl _⟩, by rw [g1.jl]; exact hJ, fun j h1 hN h2 h4 => ?_⟩
  · refine hA.push hx hhas (fun y => (g1.mem y).trans ?_) g2 fun i j hi hj e => g1.mi.one hi hj e
    constructor
    · rintro ⟨i, h1, h2⟩
      by_cases e : i = n
      · rw [e, hl] at h2; exact .inl h2.symm
      · rw [hj i (by omega)] at h2; exact .inr ⟨i, by omega, h2⟩
    · rintro (h1 | ⟨i, h1, h2⟩)
      · exact ⟨n, by omega, by rw [hl, h1]⟩
      · exact ⟨i, by omega, by rw [hj i h1]; exact h2⟩
  · rw [g1.old j (hold j h1 hN h2 h4).1 h4, (hold j h1 hN h2 h4).2]
/-- One is pushed. -/
theorem do_push (B r P : Nat) (J : Heap) (s : List It) (n : Nat) (o : Op) (ho : o.ok) (h : HP B r P J s n) (hB : B < P) (hr : r < P) (hP : P ≤ J.length) (hn : n ≤ 10000000000) (hk : o.k = 1) (hhas : hasI s o.i = false) :
    ACallK Try.prog 21 [.pointer (some ⟨B, 0, some 1⟩), o.val] J (fun v J' => v = .tuple #[.int .i64 0, .int .i64 0] ∧ (∃ n', HP B r P J' (insS ⟨o.i, o.h, o.l⟩ s) n' ∧ n' ≤ n + 1) ∧ Fr B r P J J') := by
  obtain ⟨L, m, c, hS, hM, hA⟩ := h
  have hm := hM.has hA o.i
  rcases hm with ⟨_, hlk⟩ | ⟨h1, _⟩
  rotate_left
  · rw [hhas] at h1; cases h1
  have hl0 := look_E m o.i
  rw [hlk] at hl0
  have hput := put_E m c o.i (n : Int) hlk
  have hwm := hS.hr.2
  have hwput := WM.put o.i (n : Int) hwm hlk
  have happ := fun x => lk_app o.i (n : Int) c m x hlk
  obtain ⟨ok, oi, oh, ol⟩ := o
  simp only [Op.val, Op.ok] at *
  subst hk
  have hcn : ((n + 1 : Nat) : Int) - 1 = (n : Int) := by omega
  refine .walkW f21_ok (by simp; decide) (by decide) ?_
  rcases hS with ⟨q, g, hPq, hQ⟩ | ⟨rfl, hB0, hr0, _⟩
  · have hnL := hQ.nL
    have hq1 := hQ.hB
    have hq2 := hQ.hq
    have hq3 := hQ.hr
    obtain ⟨e1, e2, e3⟩ := hQ.ne
    have fl := flI_len L
    have kq : ∀ X Y, ((J ++ X).set q Y)[q]? = some Y := fun X Y => get_set_hit (get_old hq2 X)
    have kB : ∀ X Y, ((J ++ X).set q Y)[B]? = _ := fun X Y => (get_set_miss (by omega)).trans (get_old hq1 X)
    have kr : ∀ X Y, ((J ++ X).set q Y)[r]? = _ := fun X Y => (get_set_miss (by omega)).trans (get_old hq3 X)
    have kJ : ∀ X Y Z, ((J ++ X :: Z).set q Y)[J.length]? = some X := fun X Y Z => (get_set_miss (by have := hQ.lt; omega)).trans (get_new0 J X Z)
    have lq : ∀ X Y Z, (((J ++ X).set q Y).set B Z)[q]? = some Y := fun X Y Z => (get_set_miss (by omega)).trans (kq X Y)
    have lB : ∀ X Y Z, (((J ++ X).set q Y).set B Z)[B]? = some Z := fun X Y Z => get_set_hit (kB X Y)
    have lr : ∀ X Y Z, (((J ++ X).set q Y).set B Z)[r]? = _ := fun X Y Z => (get_set_miss (by omega)).trans (kr X Y)
    have lJ : ∀ X Y Z W, (((J ++ X :: Z).set q Y).set B W)[J.length]? = some X := fun X Y Z W => (get_set_miss (by have := hQ.lt; omega)).trans (kJ X Y Z)
    have mB : ∀ X Y Z W, ((((J ++ X).set q Y).set B Z).set r W)[B]? = some Z := fun X Y Z W => (get_set_miss (by omega)).trans (lB X Y Z)
    have mq : ∀ X Y Z W, ((((J ++ X).set q Y).set B Z).set r W)[q]? = some Y := fun X Y Z W => (get_set_miss (by omega)).trans (lq X Y Z)
    have mr : ∀ X Y Z W, ((((J ++ X).set q Y).set B Z).set r W)[r]? = some W := fun X Y Z W => get_set_hit (lr X Y Z)
    have hold : ∀ X Y Z W, ∀ j, j < J.length → (P ≤ j → ∀ g cs, J[j]? = some (.cells g 3 false cs) → False) → j ≠ B → j ≠ r → j ≠ q ∧ ((((J ++ X).set q Y).set B Z).set r W)[j]? = J[j]? := fun X Y Z W j h1 hN h2 h3 => by
      have hjq : j ≠ q := fun e => hN (by omega) _ _ (by rw [e]; exact hq2)
      refine ⟨hjq, ?_⟩
      rw [List.getElem?_set_ne (by omega), List.getElem?_set_ne (by omega), List.getElem?_set_ne (by omega), List.getElem?_append_left (by omega)]
    have hlen : ∀ X Y Z W, J.length ≤ ((((J ++ X).set q Y).set B Z).set r W).length := fun X Y Z W => by simp
    by_cases hg : n + 1 ≤ L.length
    · have w1 := flI_wr (L := L) (i := n) ⟨oi, oh, ol⟩ (by omega)
      have fl2 := flI_len (L.set n ⟨oi, oh, ol⟩)
      rw [List.length_set] at fl2
      have hgd := fun j => getI_set L n j ⟨oi, oh, ol⟩ (by omega)
      have hfin := fun (J3 : Heap) h3 hJ hold => push_fin B r P q J J3 L (L.set n ⟨oi, oh, ol⟩) s n g m c ⟨oi, oh, ol⟩ ho hM hA hhas hlk hn hPq h3 (fun j hj => by rw [hgd, if_neg (by omega)]) (by rw [hgd, if_pos rfl]) hJ hold
      repeat' first | simp (disch := first | with_reducible assumption | omega) only [go_sem, Bool.true_and, Bool.and_true, Bool.and_self, Bool.false_and, Bool.and_false, Bool.true_or, Bool.or_true, Bool.false_or, Bool.or_false, ↓reduceIte, Nat.reduceEqDiff, Nat.reduceAdd, Nat.reduceMul, Nat.reduceSub, Nat.reduceBEq, Nat.reduceLeDiff, Nat.reduceLT, Nat.reduceMod, Nat.reduceDiv, Int.reduceToNat, Int.reducePow, Int.reduceMul, Int.reduceAdd, Int.reduceSub, Int.reduceLE, Int.reduceLT, Int.reduceNeg, Int.reduceDiv, Int.reduceMod, Int.reduceEq, Int.reduceBEq, Int.reduceBNe, f21, f21b, f21r0, f21r1, f21r2, f21r3, f21r4, f21r5, f21r6, f21r7, f21r8, f21r9, f21r10, f21r11, f21r12, f21r13, f21r14, f21r15, f21r16, f21r17, f21r18, f21r19, f21r20, f21r21, f21r22, hq1, hq3, get_old hq1, get_old hq3, get_old hq2, fl, fl2, mapAt, hl0, hput, w1, kq, kB, kr, kJ, lq, lB, lr, lJ, mB, mq, mr, hcn, hg] | (refine BrW.of (fun hb => ?_) (fun hb => ?_) <;> (have hb' := hb; try simp only [decide_eq_true_eq, decide_eq_false_iff_not, beq_iff_eq, bne_iff_ne, beq_eq_false_iff_ne, bne_eq_false_iff_eq, Bool.not_eq_true', Bool.not_eq_false', Bool.not_eq_true, Bool.not_eq_false, Bool.and_eq_true, Bool.or_eq_true, Bool.and_eq_false_iff, Bool.or_eq_false_iff, Int.not_lt, Int.not_le, ne_eq, gt_iff_lt, ge_iff_le] at hb') <;> (try (exfalso; omega))) | (refine altW.of ?_ ?_)
      all_goals first | (exfalso; omega) | skip
      refine .of ((hfin _ ⟨by rw [List.length_set]; exact mB _ _ _ _, mr _ _ _ _, mq _ _ _ _, by rw [List.length_set]; omega, ⟨e1, e2, e3⟩, hwput⟩ (hlen _ _ _ _) (hold _ _ _ _)).mono ?_)
      rintro v J' ⟨rfl, g1, g2⟩
      repeat' first | simp (disch := first | with_reducible assumption | omega) only [go_sem, Bool.true_and, Bool.and_true, Bool.and_self, Bool.false_and, Bool.and_false, Bool.true_or, Bool.or_true, Bool.false_or, Bool.or_false, ↓reduceIte, Nat.reduceEqDiff, Nat.reduceAdd, Nat.reduceMul, Nat.reduceSub, Nat.reduceBEq, Nat.reduceLeDiff, Nat.reduceLT, Nat.reduceMod, Nat.reduceDiv, Int.reduceToNat, Int.reducePow, Int.reduceMul, Int.reduceAdd, Int.reduceSub, Int.reduceLE, Int.reduceLT, Int.reduceNeg, Int.reduceDiv, Int.reduceMod, Int.reduceEq, Int.reduceBEq, Int.reduceBNe, f21, f21b, f21r0, f21r1, f21r2, f21r3, f21r4, f21r5, f21r6, f21r7, f21r8, f21r9, f21r10, f21r11, f21r12, f21r13, f21r14, f21r15, f21r16, f21r17, f21r18, f21r19, f21r20, f21r21, f21r22] | (refine BrW.of (fun hb => ?_) (fun hb => ?_) <;> (have hb' := hb; try simp only [decide_eq_true_eq, decide_eq_false_iff_not, beq_iff_eq, bne_iff_ne, beq_eq_false_iff_ne, bne_eq_false_iff_eq, Bool.not_eq_true', Bool.not_eq_false', Bool.not_eq_true, Bool.not_eq_false, Bool.and_eq_true, Bool.or_eq_true, Bool.and_eq_false_iff, Bool.or_eq_false_iff, Int.not_lt, Int.not_le, ne_eq, gt_iff_lt, ge_iff_le] at hb') <;> (try (exfalso; omega))) | (refine altW.of ?_ ?_)
      exact .here ⟨rfl, g1, g2⟩
    · have hnn : n = L.length := by omega
      have w1 := flI_tk (L := L) hnn
      have w2 := flI_sn L ⟨oi, oh, ol⟩
      simp only at w2
      have fl2 := flI_len (L ++ [(⟨oi, oh, ol⟩ : It)])
      rw [List.length_append, List.length_singleton, ← hnn] at fl2
      rw [← hnn] at fl hq1
      have hgd : ∀ j, j < n → (L ++ [(⟨oi, oh, ol⟩ : It)]).getD j i0 = L.getD j i0 := fun j hj => by
        simp only [List.getD_eq_getElem?_getD]; rw [List.getElem?_append_left (by omega)]
      have hgl : (L ++ [(⟨oi, oh, ol⟩ : It)]).getD n i0 = ⟨oi, oh, ol⟩ := by
        simp only [List.getD_eq_getElem?_getD]; rw [List.getElem?_append_right (by omega), hnn, Nat.sub_self]; rfl
      have hfin := fun (J3 : Heap) h3 hJ hold => push_fin B r P q J J3 L (L ++ [(⟨oi, oh, ol⟩ : It)]) s n (g + 1) m c ⟨oi, oh, ol⟩ ho hM hA hhas hlk hn hPq h3 hgd hgl hJ hold
      have hll : (L ++ [(⟨oi, oh, ol⟩ : It)]).length = n + 1 := by simp [hnn]
      have hni : ¬ n + 1 ≤ n := by omega
      clear hg
      repeat' first | simp (disch := first | with_reducible assumption | omega) only [go_sem, Bool.true_and, Bool.and_true, Bool.and_self, Bool.false_and, Bool.and_false, Bool.true_or, Bool.or_true, Bool.false_or, Bool.or_false, ↓reduceIte, Nat.reduceEqDiff, Nat.reduceAdd, Nat.reduceMul, Nat.reduceSub, Nat.reduceBEq, Nat.reduceLeDiff, Nat.reduceLT, Nat.reduceMod, Nat.reduceDiv, Int.reduceToNat, Int.reducePow, Int.reduceMul, Int.reduceAdd, Int.reduceSub, Int.reduceLE, Int.reduceLT, Int.reduceNeg, Int.reduceDiv, Int.reduceMod, Int.reduceEq, Int.reduceBEq, Int.reduceBNe, f21, f21b, f21r0, f21r1, f21r2, f21r3, f21r4, f21r5, f21r6, f21r7, f21r8, f21r9, f21r10, f21r11, f21r12, f21r13, f21r14, f21r15, f21r16, f21r17, f21r18, f21r19, f21r20, f21r21, f21r22, hq1, hq3, get_old hq1, get_old hq3, get_old hq2, fl, fl2, mapAt, hl0, hput, w1, w2, kq, kB, kr, kJ, lq, lB, lr, lJ, mB, mq, mr, hcn, hni] | (refine BrW.of (fun hb => ?_) (fun hb => ?_) <;> (have hb' := hb; try simp only [decide_eq_true_eq, decide_eq_false_iff_not, beq_iff_eq, bne_iff_ne, beq_eq_false_iff_ne, bne_eq_false_iff_eq, Bool.not_eq_true', Bool.not_eq_false', Bool.not_eq_true, Bool.not_eq_false, Bool.and_eq_true, Bool.or_eq_true, Bool.and_eq_false_iff, Bool.or_eq_false_iff, Int.not_lt, Int.not_le, ne_eq, gt_iff_lt, ge_iff_le] at hb') <;> (try (exfalso; omega))) | (refine altW.of ?_ ?_)
      all_goals first | (exfalso; omega) | skip
      refine .of ((hfin _ ⟨by rw [hll]; exact mB _ _ _ _, mr _ _ _ _, mq _ _ _ _, by omega, ⟨e1, e2, e3⟩, hwput⟩ (hlen _ _ _ _) (hold _ _ _ _)).mono ?_)
      rintro v J' ⟨rfl, g1, g2⟩
      repeat' first | simp (disch := first | with_reducible assumption | omega) only [go_sem, Bool.true_and, Bool.and_true, Bool.and_self, Bool.false_and, Bool.and_false, Bool.true_or, Bool.or_true, Bool.false_or, Bool.or_false, ↓reduceIte, Nat.reduceEqDiff, Nat.reduceAdd, Nat.reduceMul, Nat.reduceSub, Nat.reduceBEq, Nat.reduceLeDiff, Nat.reduceLT, Nat.reduceMod, Nat.reduceDiv, Int.reduceToNat, Int.reducePow, Int.reduceMul, Int.reduceAdd, Int.reduceSub, Int.reduceLE, Int.reduceLT, Int.reduceNeg, Int.reduceDiv, Int.reduceMod, Int.reduceEq, Int.reduceBEq, Int.reduceBNe, f21, f21b, f21r0, f21r1, f21r2, f21r3, f21r4, f21r5, f21r6, f21r7, f21r8, f21r9, f21r10, f21r11, f21r12, f21r13, f21r14, f21r15, f21r16, f21r17, f21r18, f21r19, f21r20, f21r21, f21r22] | (refine BrW.of (fun hb => ?_) (fun hb => ?_) <;> (have hb' := hb; try simp only [decide_eq_true_eq, decide_eq_false_iff_not, beq_iff_eq, bne_iff_ne, beq_eq_false_iff_ne, bne_eq_false_iff_eq, Bool.not_eq_true', Bool.not_eq_false', Bool.not_eq_true, Bool.not_eq_false, Bool.and_eq_true, Bool.or_eq_true, Bool.and_eq_false_iff, Bool.or_eq_false_iff, Int.not_lt, Int.not_le, ne_eq, gt_iff_lt, ge_iff_le] at hb') <;> (try (exfalso; omega))) | (refine altW.of ?_ ?_)
      exact .here ⟨rfl, g1, g2⟩
  · have lB := (List.getElem?_eq_some_iff.1 hB0).1
    have lr := (List.getElem?_eq_some_iff.1 hr0).1
    have e1 : B ≠ r := fun e => by subst e; rw [hB0] at hr0; cases hr0
    have kq : ∀ X Y Z W, ((J ++ [X, Y, Z]).set B W)[J.length + (1 + 1)]? = some Z := fun X Y Z W => (get_set_miss (by omega)).trans (by rw [get_new]; rfl)
    have kq' : ∀ X Y Z W, ((J ++ [X, Y, Z]).set B W)[J.length + 2]? = some Z := kq
    have kB : ∀ X W, ((J ++ X).set B W)[B]? = some W := fun X W => get_set_hit (get_old hB0 X)
    have kr : ∀ X W, ((J ++ X).set B W)[r]? = _ := fun X W => (get_set_miss (by omega)).trans (get_old hr0 X)
    have kJ : ∀ X Z W, ((J ++ X :: Z).set B W)[J.length]? = some X := fun X Z W => (get_set_miss (by omega)).trans (get_new0 J X Z)
    have mB : ∀ X W V, (((J ++ X).set B W).set r V)[B]? = some W := fun X W V => (get_set_miss (by omega)).trans (kB X W)
    have mq : ∀ X Y Z W V, (((J ++ [X, Y, Z]).set B W).set r V)[J.length + 2]? = some Z := fun X Y Z W V => (get_set_miss (by omega)).trans (kq X Y Z W)
    have mq' : ∀ X Y Z W V, (((J ++ [X, Y, Z]).set B W).set r V)[J.length + (1 + 1)]? = some Z := mq
    have mr : ∀ X W V, (((J ++ X).set B W).set r V)[r]? = some V := fun X W V => get_set_hit (kr X W)
    have hold : ∀ X W V, ∀ j, j < J.length → (P ≤ j → ∀ g cs, J[j]? = some (.cells g 3 false cs) → False) → j ≠ B → j ≠ r → j ≠ J.length + 2 ∧ (((J ++ X).set B W).set r V)[j]? = J[j]? := fun X W V j h1 hN h2 h3 => by
      refine ⟨by omega, ?_⟩
      rw [List.getElem?_set_ne (by omega), List.getElem?_set_ne (by omega), List.getElem?_append_left (by omega)]
    have hlen : ∀ X W V, J.length ≤ (((J ++ X).set B W).set r V).length := fun X W V => by simp
    have hfin := fun (J3 : Heap) h3 hJ hold => push_fin B r P (J.length + 2) J J3 L [(⟨oi, oh, ol⟩ : It)] s 0 0 m c ⟨oi, oh, ol⟩ ho hM hA hhas hlk (by omega) (by omega) h3 (fun j hj => by omega) rfl hJ hold
    have z0 : ((1 : Nat) : Int) - 1 = ((0 : Nat) : Int) := rfl
    repeat' first | simp (disch := first | with_reducible assumption | omega) only [go_sem, Bool.true_and, Bool.and_true, Bool.and_self, Bool.false_and, Bool.and_false, Bool.true_or, Bool.or_true, Bool.false_or, Bool.or_false, ↓reduceIte, Nat.reduceEqDiff, Nat.reduceAdd, Nat.reduceMul, Nat.reduceSub, Nat.reduceBEq, Nat.reduceLeDiff, Nat.reduceLT, Nat.reduceMod, Nat.reduceDiv, Int.reduceToNat, Int.reducePow, Int.reduceMul, Int.reduceAdd, Int.reduceSub, Int.reduceLE, Int.reduceLT, Int.reduceNeg, Int.reduceDiv, Int.reduceMod, Int.reduceEq, Int.reduceBEq, Int.reduceBNe, f21, f21b, f21r0, f21r1, f21r2, f21r3, f21r4, f21r5, f21r6, f21r7, f21r8, f21r9, f21r10, f21r11, f21r12, f21r13, f21r14, f21r15, f21r16, f21r17, f21r18, f21r19, f21r20, f21r21, f21r22, hB0, hr0, get_old hB0, get_old hr0, mapAt, hl0, hput, kq, kq', kB, kr, kJ, mB, mq, mq', mr, z0] | (refine BrW.of (fun hb => ?_) (fun hb => ?_) <;> (have hb' := hb; try simp only [decide_eq_true_eq, decide_eq_false_iff_not, beq_iff_eq, bne_iff_ne, beq_eq_false_iff_ne, bne_eq_false_iff_eq, Bool.not_eq_true', Bool.not_eq_false', Bool.not_eq_true, Bool.not_eq_false, Bool.and_eq_true, Bool.or_eq_true, Bool.and_eq_false_iff, Bool.or_eq_false_iff, Int.not_lt, Int.not_le, ne_eq, gt_iff_lt, ge_iff_le] at hb') <;> (try (exfalso; omega))) | (refine altW.of ?_ ?_)
    all_goals first | (exfalso; omega) | skip
    refine .of ((hfin _ ⟨mB _ _ _, mr _ _ _, mq _ _ _ _ _, Nat.le_refl _, ⟨e1, by omega, by omega⟩, hwput⟩ (hlen _ _ _) (hold _ _ _)).mono ?_)
    rintro v J' ⟨rfl, g1, g2⟩
    repeat' first | simp (disch := first | with_reducible assumption | omega) only [go_sem, Bool.true_and, Bool.and_true, Bool.and_self, Bool.false_and, Bool.and_false, Bool.true_or, Bool.or_true, Bool.false_or, Bool.or_false, ↓reduceIte, Nat.reduceEqDiff, Nat.reduceAdd, Nat.reduceMul, Nat.reduceSub, Nat.reduceBEq, Nat.reduceLeDiff, Nat.reduceLT, Nat.reduceMod, Nat.reduceDiv, Int.reduceToNat, Int.reducePow, Int.reduceMul, Int.reduceAdd, Int.reduceSub, Int.reduceLE, Int.reduceLT, Int.reduceNeg, Int.reduceDiv, Int.reduceMod, Int.reduceEq, Int.reduceBEq, Int.reduceBNe, f21, f21b, f21r0, f21r1, f21r2, f21r3, f21r4, f21r5, f21r6, f21r7, f21r8, f21r9, f21r10, f21r11, f21r12, f21r13, f21r14, f21r15, f21r16, f21r17, f21r18, f21r19, f21r20, f21r21, f21r22] | (refine BrW.of (fun hb => ?_) (fun hb => ?_) <;> (have hb' := hb; try simp only [decide_eq_true_eq, decide_eq_false_iff_not, beq_iff_eq, bne_iff_ne, beq_eq_false_iff_ne, bne_eq_false_iff_eq, Bool.not_eq_true', Bool.not_eq_false', Bool.not_eq_true, Bool.not_eq_false, Bool.and_eq_true, Bool.or_eq_true, Bool.and_eq_false_iff, Bool.or_eq_false_iff, Int.not_lt, Int.not_le, ne_eq, gt_iff_lt, ge_iff_le] at hb') <;> (try (exfalso; omega))) | (refine altW.of ?_ ?_)
    exact .here ⟨rfl, g1, g2⟩
/-- One thing is done. -/
theorem do_spec (B r P : Nat) (J : Heap) (s : List It) (n : Nat) (o : Op) (ho : o.ok) (h : HP B r P J s n) (hB : B < P) (hr : r < P) (hP : P ≤ J.length) (hn : n ≤ 10000000000) :
    ACallK Try.prog 21 [.pointer (some ⟨B, 0, some 1⟩), o.val] J (fun v J' => v = .tuple #[.int .i64 (doP s o).2.1, .int .i64 (doP s o).1] ∧ (∃ n', HP B r P J' (doP s o).2.2 n' ∧ n' ≤ n + 1) ∧ Fr B r P J J') := by
  by_cases h1 : o.k = 1
  · cases hh : hasI s o.i with
    | true => exact do_not B r P J s n o h hB hr hP hn (.inl ⟨h1, hh⟩)
    | false =>
      have hd : doP s o = (0, 0, insS ⟨o.i, o.h, o.l⟩ s) := by unfold doP; rw [if_pos h1, if_neg (by rw [hh]; decide)]
      rw [hd]; exact do_push B r P J s n o ho h hB hr hP hn h1 hh
  · by_cases h2 : o.k = 2
    · cases hs : s with
      | nil => rw [← hs]; exact do_not B r P J s n o h hB hr hP hn (.inr (.inl ⟨h2, hs⟩))
      | cons x t =>
        have hd : doP (x :: t) o = (0, x.i, t) := by unfold doP; rw [if_neg h1, if_pos h2]
        rw [hd]; subst hs; exact do_pop B r P J x t n o h hB hr hP hn h2
    · by_cases h3 : o.k = 3
      · cases hh : hasI s o.i with
        | false => exact do_not B r P J s n o h hB hr hP hn (.inr (.inr (.inl ⟨.inl h3, hh⟩)))
        | true =>
          have hd : doP s o = (0, 0, outI s o.i) := by unfold doP; rw [if_neg h1, if_neg h2, if_pos h3, if_pos hh]
          rw [hd]; exact do_rem B r P J s n o h hB hr hP hn h3 hh
      · by_cases h4 : o.k = 4
        · cases hh : hasI s o.i with
          | false => exact do_not B r P J s n o h hB hr hP hn (.inr (.inr (.inl ⟨.inr h4, hh⟩)))
          | true =>
            have hd : doP s o = (0, 0, insS ⟨o.i, o.h, o.l⟩ (outI s o.i)) := by unfold doP; rw [if_neg h1, if_neg h2, if_neg h3, if_pos h4, if_pos hh]
            rw [hd]; exact do_upd B r P J s n o ho h hB hr hP hn h4 hh
        · exact do_not B r P J s n o h hB hr hP hn (.inr (.inr (.inr (by omega))))
end Go.Proofs.Ytjdmpkaiijcchaa
