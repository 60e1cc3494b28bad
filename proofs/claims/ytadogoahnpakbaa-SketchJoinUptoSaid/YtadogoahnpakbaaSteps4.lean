import Derived.Test.YtadogoahnpakbaaSteps3
set_option linter.unusedSimpArgs false
set_option linter.unusedVariables false
set_option maxHeartbeats 1000000
set_option maxRecDepth 20000
namespace Go.Proofs.Ytadogoahnpakbaa
open Go Go.Am
attribute [local irreducible] opsW Ww loopW callW drawW outW outDW gW cW BrW bothW vW resW DropW RdW dcallW Later.run

def zeros (n : Nat) : List Int := List.replicate n 0
theorem zeros_flat (n : Nat) : (List.replicate n [Value.int .i64 0]).flatten = ints (zeros n) := by simp [zeros, ints]
theorem zeros_length (n : Nat) : (zeros n).length = n := by simp [zeros]
theorem zeros_get (n j : Nat) : (zeros n).getD j 0 = 0 := by
  simp only [zeros, List.getD_eq_getElem?_getD, List.getElem?_replicate]
  split <;> rfl
theorem zeros_right {R W : Nat} (hR : 1 ≤ R ∧ R ≤ 8) (hW : 1 ≤ W ∧ W ≤ 64) : S.right ⟨R, W, zeros (R * W)⟩ := by
  refine ⟨by show (1 : Int) ≤ R; omega, by show (R : Int) ≤ 8; omega, by show (1 : Int) ≤ W; omega, by show (W : Int) ≤ 64; omega, by show ((zeros (R * W)).length : Int) = (R : Int) * W; rw [zeros_length]; simp, ?_⟩
  exact fits_mem fun j => by rw [zeros_get]; omega

theorem New_u (rows w : Int) (H : Heap) : ACallK Try.prog 13 [.int .i64 rows, .int .i64 w] H (fun v H' => ∃ (X : Heap) (s : S) (u : Value) (e : Int), H' = H ++ X ∧ v = .tuple #[s.val u, .int .i64 e] ∧ IsX H.length X u s.l ∧ (e ≠ 0 → s = s0) ∧
    (e = 0 → ∃ R W : Nat, rows = R ∧ w = W ∧ (1 ≤ R ∧ R ≤ 8) ∧ (1 ≤ W ∧ W ≤ 64) ∧ s = ⟨R, W, zeros (R * W)⟩)) := by
  refine .walkW f13_ok (by simp; decide) (by decide) ?_
  by_cases h : 1 ≤ rows ∧ rows ≤ 8 ∧ 1 ≤ w ∧ w ≤ 64
  · obtain ⟨R, rfl⟩ := Int.eq_ofNat_of_zero_le (show 0 ≤ rows by omega)
    obtain ⟨W, rfl⟩ := Int.eq_ofNat_of_zero_le (show 0 ≤ w by omega)
    have e1 : (R : Int) * (W : Int) = ((R * W : Nat) : Int) := by simp
    have hp : R * W ≤ 512 := Nat.mul_le_mul (show R ≤ 8 by omega) (show W ≤ 64 by omega)
    have ez := zeros_flat (R * W)
    generalize hT : R * W = T at *
    repeat' first | simp (disch := first | with_reducible assumption | omega) only [go_sem, Bool.true_and, Bool.and_true, Bool.and_self, Bool.false_and, Bool.and_false, Bool.true_or, Bool.or_true, Bool.false_or, Bool.or_false, ↓reduceIte, Nat.reduceEqDiff, Nat.reduceAdd, Nat.reduceMul, Nat.reduceSub, Nat.reduceBEq, Nat.reduceLeDiff, Nat.reduceLT, Nat.reduceMod, Nat.reduceDiv, Int.reduceToNat, Int.reducePow, Int.reduceMul, Int.reduceAdd, Int.reduceSub, Int.reduceLE, Int.reduceLT, Int.reduceNeg, Int.reduceDiv, Int.reduceMod, Int.reduceEq, Int.reduceBEq, Int.reduceBNe, f13, f13b, f13r0, f13r1, f13r2, f13r3, e1, ez] | (refine BrW.of (fun hb => ?_) (fun hb => ?_) <;> (have hb' := hb; try simp only [decide_eq_true_eq, decide_eq_false_iff_not, beq_iff_eq, bne_iff_ne, beq_eq_false_iff_ne, bne_eq_false_iff_eq, Bool.not_eq_true', Bool.not_eq_false', Bool.not_eq_true, Bool.not_eq_false, Bool.and_eq_true, Bool.or_eq_true, Bool.and_eq_false_iff, Bool.or_eq_false_iff, Int.not_lt, Int.not_le, ne_eq, gt_iff_lt, ge_iff_le] at hb') <;> (try (exfalso; omega)))
    exact .here ⟨_, ⟨R, W, zeros T⟩, slv (H.length + 1) 0 0 T T, 0, rfl, rfl, .inr ⟨1, 0, by simp only [zeros_length], rfl⟩, fun h => (h rfl).elim, fun _ => ⟨R, W, rfl, rfl, by omega, by omega, by rw [hT]⟩⟩
  · repeat' first | simp (disch := first | with_reducible assumption | omega) only [go_sem, Bool.true_and, Bool.and_true, Bool.and_self, Bool.false_and, Bool.and_false, Bool.true_or, Bool.or_true, Bool.false_or, Bool.or_false, ↓reduceIte, Nat.reduceEqDiff, Nat.reduceAdd, Nat.reduceMul, Nat.reduceSub, Nat.reduceBEq, Nat.reduceLeDiff, Nat.reduceLT, Nat.reduceMod, Nat.reduceDiv, Int.reduceToNat, Int.reducePow, Int.reduceMul, Int.reduceAdd, Int.reduceSub, Int.reduceLE, Int.reduceLT, Int.reduceNeg, Int.reduceDiv, Int.reduceMod, Int.reduceEq, Int.reduceBEq, Int.reduceBNe, f13, f13b, f13r0, f13r1, f13r2, f13r3] | (refine BrW.of (fun hb => ?_) (fun hb => ?_) <;> (have hb' := hb; try simp only [decide_eq_true_eq, decide_eq_false_iff_not, beq_iff_eq, bne_iff_ne, beq_eq_false_iff_ne, bne_eq_false_iff_eq, Bool.not_eq_true', Bool.not_eq_false', Bool.not_eq_true, Bool.not_eq_false, Bool.and_eq_true, Bool.or_eq_true, Bool.and_eq_false_iff, Bool.or_eq_false_iff, Int.not_lt, Int.not_le, ne_eq, gt_iff_lt, ge_iff_le] at hb') <;> (try (exfalso; omega)))
    all_goals exact .here ⟨_, s0, _, 2, rfl, rfl, .inl ⟨rfl, rfl⟩, fun _ => rfl, fun h => by cases h⟩
def C.cells (c : C) : List Value := [.int .i64 c.id, .int .i64 c.n]
abbrev CTb (H : Heap) (k o g : Nat) (l : List C) : Prop := Tbl C C.cells 2 c0 H k o g l
def uid (x : Int) : Int := iconv .u64 x
def cnt (b : Bool) (R W : Nat) (l : List C) : List Int := l.foldl (fun L c => addL b L (pls W R (uid c.id)) c.n) (zeros (R * W))
theorem cnt_snoc (b : Bool) (R W : Nat) (l : List C) (c : C) : cnt b R W (l ++ [c]) = addL b (cnt b R W l) (pls W R (uid c.id)) c.n := by simp [cnt]
/-- What was counted, when all went well. -/
def Good (b : Bool) (rows w : Int) (l : List C) (s : S) : Prop := ∃ R W : Nat, rows = R ∧ w = W ∧ (1 ≤ R ∧ R ≤ 8) ∧ (1 ≤ W ∧ W ≤ 64) ∧ s = ⟨R, W, cnt b R W l⟩ ∧ s.right ∧ ∀ c ∈ l, 0 ≤ c.n ∧ c.n ≤ 1073741824
theorem Good.nil {b : Bool} {R W : Nat} (hR : 1 ≤ R ∧ R ≤ 8) (hW : 1 ≤ W ∧ W ≤ 64) : Good b R W [] ⟨R, W, zeros (R * W)⟩ :=
  ⟨R, W, rfl, rfl, hR, hW, rfl, zeros_right hR hW, fun c hc => by simp at hc⟩
theorem Good.snoc {b : Bool} {rows w : Int} {l : List C} {s s' : S} {c : C} (h : Good b rows w l s) (hn : 0 ≤ c.n ∧ c.n ≤ 1073741824) (hr : s'.right) (hs : s' = ⟨s.rows, s.w, addL b s.l (pls s.w.toNat s.rows.toNat (uid c.id)) c.n⟩) : Good b rows w (l ++ [c]) s' := by
  obtain ⟨R, W, h1, h2, h3, h4, h5, h6, h7⟩ := h
  refine ⟨R, W, h1, h2, h3, h4, ?_, hr, fun x hx => ?_⟩
  · rw [hs, h5, cnt_snoc]; simp only [Int.toNat_natCast]
  · rcases List.mem_append.1 hx with hx | hx
    · exact h7 x hx
    · rw [List.mem_singleton.1 hx]; exact hn

theorem IsI.more {H1 y Z : Heap} {A : AObj} {u : Value} {l : List Int} (h : IsI (H1 ++ A :: y) u l) : IsI (H1 ++ A :: (y ++ Z)) u l := by
  have := h.app Z
  rwa [List.append_assoc, List.cons_append] at this
theorem uid_range (x : Int) : 0 ≤ uid x ∧ uid x ≤ 18446744073709551615 := iconv_range x
theorem Good.len {b : Bool} {rows w : Int} {l : List C} {s : S} (h : s.right) : s.l.length ≤ 512 := by
  obtain ⟨R, W, _, _, _, _, h3, _, h5, _⟩ := right_cases h
  omega
theorem IsI.set {G : Heap} {P g0 : Nat} {cs0 : List Value} {Z : AObj} {u : Value} {l : List Int} (h : IsI G u l) (hP : G[P]? = some (.cells g0 0 false cs0)) : IsI (G.set P Z) u l := by
  rcases h with h | ⟨k, o, g, c, h1, h2, h3⟩
  · exact .inl h
  · refine .inr ⟨k, o, g, c, h1, ?_, h3⟩
    obtain ⟨ro, cs, h4, h5, h6⟩ := h2.at'
    have hne : P ≠ k := fun e => by rw [e, h4] at hP; cases hP
    exact ⟨ro, cs, by rw [List.getElem?_set_ne hne]; exact h4, h5, h6⟩
theorem counted_u (rows w : Int) (l : List C) (k o g c : Nat) (b : Bool) (H : Heap) (hs : CTb H k o g l) (hl : l.length ≤ 9223372036854775807) :
    ACallK Try.prog 8 [.int .i64 rows, .int .i64 w, slv k o g l.length c, .bool b] H (fun v H' => ∃ (s : S) (u : Value) (ok : Bool), v = .tuple #[s.val u, .bool ok] ∧ Le H H' ∧ IsI H' u s.l ∧ s.l.length ≤ 512 ∧ (ok = true → Good b rows w l s)) := by
  obtain ⟨ro, cs, hk, hcl, hcs⟩ := hs.at'
  have hld := fun i hi => Tbl.ld (enc := C.cells) (s := 2) (fun _ => rfl) hcs i hi
  refine .walkW f8_ok (by simp; decide) (by decide) ?_
  repeat' first | simp (disch := first | with_reducible assumption | omega) only [go_sem, Bool.true_and, Bool.and_true, Bool.and_self, Bool.false_and, Bool.and_false, Bool.true_or, Bool.or_true, Bool.false_or, Bool.or_false, ↓reduceIte, Nat.reduceEqDiff, Nat.reduceAdd, Nat.reduceMul, Nat.reduceSub, Nat.reduceBEq, Nat.reduceLeDiff, Nat.reduceLT, Nat.reduceMod, Nat.reduceDiv, Int.reduceToNat, Int.reducePow, Int.reduceMul, Int.reduceAdd, Int.reduceSub, Int.reduceLE, Int.reduceLT, Int.reduceNeg, Int.reduceDiv, Int.reduceMod, Int.reduceEq, Int.reduceBEq, Int.reduceBNe, f8, f8b, f8r0, f8r1, f8r2, f8r3, f8r4, f8r5, f8r6, f8r7, f8r8, f8r9, f8r10, f8r12] | (refine BrW.of (fun hb => ?_) (fun hb => ?_) <;> (have hb' := hb; try simp only [decide_eq_true_eq, decide_eq_false_iff_not, beq_iff_eq, bne_iff_ne, beq_eq_false_iff_ne, bne_eq_false_iff_eq, Bool.not_eq_true', Bool.not_eq_false', Bool.not_eq_true, Bool.not_eq_false, Bool.and_eq_true, Bool.or_eq_true, Bool.and_eq_false_iff, Bool.or_eq_false_iff, Int.not_lt, Int.not_le, ne_eq, gt_iff_lt, ge_iff_le] at hb') <;> (try (exfalso; omega)))
  refine .of ((New_u rows w _).mono ?_)
  rintro v _ ⟨X, s, u, e, rfl, rfl, hX, he1, he2⟩
  have hH1 : H ++ [AObj.cells 0 0 false [.int .i64 0, .int .i64 0, .slice none 0 0]] ++ X = H ++ (AObj.cells 0 0 false [.int .i64 0, .int .i64 0, .slice none 0 0] :: X) := by rw [List.append_assoc]; rfl
  have hIs := hX.is
  have hkl := (List.getElem?_eq_some_iff.1 hk).1
  have hg8 : ∀ A y, (H ++ [AObj.cells 0 0 false [.int .i64 0, .int .i64 0, .slice none 0 0]] ++ X ++ A :: y)[H.length]? = some (AObj.cells 0 0 false [.int .i64 0, .int .i64 0, .slice none 0 0]) := fun A y => by rw [hH1, List.append_assoc, List.cons_append]; exact get_new0 _ _ _
  have hs8 : ∀ A y Z, (H ++ [AObj.cells 0 0 false [.int .i64 0, .int .i64 0, .slice none 0 0]] ++ X ++ A :: y).set H.length Z = H ++ (Z :: (X ++ A :: y)) := fun A y Z => by rw [hH1, List.append_assoc, List.cons_append, List.set_append_right _ _ (Nat.le_refl _), Nat.sub_self]; rfl
  have hkG : ∀ A y, (H ++ [AObj.cells 0 0 false [.int .i64 0, .int .i64 0, .slice none 0 0]] ++ X ++ A :: y)[k]? = some (.cells g 2 ro cs) := fun A y => get_old (get_old (get_old hk _) _) _
  generalize H ++ [AObj.cells 0 0 false [.int .i64 0, .int .i64 0, .slice none 0 0]] ++ X = H1 at *
  clear hX hH1 hcs hk
  repeat' first | simp (disch := first | with_reducible assumption | omega) only [go_sem, Bool.true_and, Bool.and_true, Bool.and_self, Bool.false_and, Bool.and_false, Bool.true_or, Bool.or_true, Bool.false_or, Bool.or_false, ↓reduceIte, Nat.reduceEqDiff, Nat.reduceAdd, Nat.reduceMul, Nat.reduceSub, Nat.reduceBEq, Nat.reduceLeDiff, Nat.reduceLT, Nat.reduceMod, Nat.reduceDiv, Int.reduceToNat, Int.reducePow, Int.reduceMul, Int.reduceAdd, Int.reduceSub, Int.reduceLE, Int.reduceLT, Int.reduceNeg, Int.reduceDiv, Int.reduceMod, Int.reduceEq, Int.reduceBEq, Int.reduceBNe, f8, f8b, f8r0, f8r1, f8r2, f8r3, f8r4, f8r5, f8r6, f8r7, f8r8, f8r9, f8r10, f8r12, S.val, hkG] | (refine BrW.of (fun hb => ?_) (fun hb => ?_) <;> (have hb' := hb; try simp only [decide_eq_true_eq, decide_eq_false_iff_not, beq_iff_eq, bne_iff_ne, beq_eq_false_iff_ne, bne_eq_false_iff_eq, Bool.not_eq_true', Bool.not_eq_false', Bool.not_eq_true, Bool.not_eq_false, Bool.and_eq_true, Bool.or_eq_true, Bool.and_eq_false_iff, Bool.or_eq_false_iff, Int.not_lt, Int.not_le, ne_eq, gt_iff_lt, ge_iff_le] at hb') <;> (try (exfalso; omega)))
  refine loopW.of (by decide) (fun m E J => ∃ (i : Nat) (s : S) (u : Value) (ok : Bool) (y : Heap), E = [(3, .bool b), (8, .pointer (some ⟨H.length, 0, some 1⟩)), (10, .pointer (some ⟨H1.length, 0, some 1⟩)), (12, .bool ok), (25, slv k o g l.length c), (26, .int .i64 l.length), (27, .int .i64 i)] ∧
    J = H1 ++ (.cells 0 0 false [.int .i64 s.rows, .int .i64 s.w, u] :: y) ∧ i ≤ l.length ∧ m = l.length - i ∧ (∀ A, IsI (H1 ++ A :: y) u s.l) ∧ s.l.length ≤ 512 ∧ (ok = true → Good b rows w (l.take i) s)) l.length ⟨0, s, u, (e == 0), [], rfl, rfl, by omega, rfl, fun A => hIs.app [A], ?_, ?_⟩ ?_
  · by_cases z : e = 0
    · obtain ⟨R, W, _, _, h3, h4, rfl⟩ := he2 z
      exact Good.len (b := b) (rows := 0) (w := 0) (l := []) (zeros_right h3 h4)
    · rw [he1 z]; decide
  · intro hok
    obtain ⟨R, W, rfl, rfl, h3, h4, rfl⟩ := he2 (by simpa using hok)
    exact Good.nil h3 h4
  clear he1 he2 hIs s u
  rintro m E J ⟨i, s, u, ok, y, rfl, rfl, hi, rfl, hI, hsl, hG⟩
  by_cases hlt : i < l.length
  · have h0 := hld i hlt
    have htk := take_snoc c0 l i hlt
    generalize l.getD i c0 = cc at *
    obtain ⟨id, n⟩ := cc
    simp only [C.cells] at h0
    have hA := Add_u s u (uid id) n b (H1 ++ (.cells 0 0 false [.int .i64 s.rows, .int .i64 s.w, u] :: (y ++ [AObj.cells 0 0 false [.int .i64 id, .int .i64 n]]))) (IsI.more (hI _)) (by omega) (uid_range id)
    unfold uid at hA
    simp only [S.val] at hA
    repeat' first | simp (disch := first | with_reducible assumption | omega) only [go_sem, Bool.true_and, Bool.and_true, Bool.and_self, Bool.false_and, Bool.and_false, Bool.true_or, Bool.or_true, Bool.false_or, Bool.or_false, ↓reduceIte, Nat.reduceEqDiff, Nat.reduceAdd, Nat.reduceMul, Nat.reduceSub, Nat.reduceBEq, Nat.reduceLeDiff, Nat.reduceLT, Nat.reduceMod, Nat.reduceDiv, Int.reduceToNat, Int.reducePow, Int.reduceMul, Int.reduceAdd, Int.reduceSub, Int.reduceLE, Int.reduceLT, Int.reduceNeg, Int.reduceDiv, Int.reduceMod, Int.reduceEq, Int.reduceBEq, Int.reduceBNe, f8, f8b, f8r0, f8r1, f8r2, f8r3, f8r4, f8r5, f8r6, f8r7, f8r8, f8r9, f8r10, f8r12, f8l0, S.val, hkG, ↓h0] | (refine BrW.of (fun hb => ?_) (fun hb => ?_) <;> (have hb' := hb; try simp only [decide_eq_true_eq, decide_eq_false_iff_not, beq_iff_eq, bne_iff_ne, beq_eq_false_iff_ne, bne_eq_false_iff_eq, Bool.not_eq_true', Bool.not_eq_false', Bool.not_eq_true, Bool.not_eq_false, Bool.and_eq_true, Bool.or_eq_true, Bool.and_eq_false_iff, Bool.or_eq_false_iff, Int.not_lt, Int.not_le, ne_eq, gt_iff_lt, ge_iff_le] at hb') <;> (try (exfalso; omega)))
    refine .of (hA.mono ?_)
    rintro v _ ⟨X2, s', w', e2, rfl, rfl, hX2, he⟩
    rw [List.append_assoc, List.cons_append]
    have hlen : ∀ A : AObj, (H1 ++ (.cells 0 0 false [.int .i64 s.rows, .int .i64 s.w, u] :: (y ++ [AObj.cells 0 0 false [.int .i64 id, .int .i64 n]]))).length = (H1 ++ (A :: (y ++ [AObj.cells 0 0 false [.int .i64 id, .int .i64 n]]))).length := fun A => by simp
    have hIo : ∀ A, IsI (H1 ++ A :: (y ++ [AObj.cells 0 0 false [.int .i64 id, .int .i64 n]] ++ X2)) u s.l := fun A => by
      rw [List.append_assoc]; exact IsI.more (hI A)
    have hIn : ∀ A, IsI (H1 ++ A :: (y ++ [AObj.cells 0 0 false [.int .i64 id, .int .i64 n]] ++ X2)) w' s'.l := fun A => by
      have := hX2
      rw [hlen A] at this
      have := this.is
      rwa [List.append_assoc, List.cons_append] at this
    clear hX2 hlen hA hI hs hld
    generalize y ++ [AObj.cells 0 0 false [.int .i64 id, .int .i64 n]] ++ X2 = y2 at *
    by_cases z : e2 = 0
    · obtain ⟨hr1, hn1, hr2, hs2⟩ := he z
      clear he
      subst z
      have hl2 := Good.len (b := b) (rows := 0) (w := 0) (l := []) hr2
      have hG2 : ok = true → Good b rows w (l.take (i + 1)) s' := fun h => by
        rw [htk]; exact Good.snoc (hG h) hn1 hr2 hs2
      clear hG hs2 htk
      cases ok with
      | true =>
        repeat' first | simp (disch := first | with_reducible assumption | omega) only [go_sem, Bool.true_and, Bool.and_true, Bool.and_self, Bool.false_and, Bool.and_false, Bool.true_or, Bool.or_true, Bool.false_or, Bool.or_false, ↓reduceIte, Nat.reduceEqDiff, Nat.reduceAdd, Nat.reduceMul, Nat.reduceSub, Nat.reduceBEq, Nat.reduceLeDiff, Nat.reduceLT, Nat.reduceMod, Nat.reduceDiv, Int.reduceToNat, Int.reducePow, Int.reduceMul, Int.reduceAdd, Int.reduceSub, Int.reduceLE, Int.reduceLT, Int.reduceNeg, Int.reduceDiv, Int.reduceMod, Int.reduceEq, Int.reduceBEq, Int.reduceBNe, f8, f8b, f8r0, f8r1, f8r2, f8r3, f8r4, f8r5, f8r6, f8r7, f8r8, f8r9, f8r10, f8r12, f8l0, S.val] | (refine BrW.of (fun hb => ?_) (fun hb => ?_) <;> (have hb' := hb; try simp only [decide_eq_true_eq, decide_eq_false_iff_not, beq_iff_eq, bne_iff_ne, beq_eq_false_iff_ne, bne_eq_false_iff_eq, Bool.not_eq_true', Bool.not_eq_false', Bool.not_eq_true, Bool.not_eq_false, Bool.and_eq_true, Bool.or_eq_true, Bool.and_eq_false_iff, Bool.or_eq_false_iff, Int.not_lt, Int.not_le, ne_eq, gt_iff_lt, ge_iff_le] at hb') <;> (try (exfalso; omega)))
        refine RdW.keep [3, 8, 10, 12, 25, 26, 27] (l.length - (i + 1)) (by omega) ?_
        simp (disch := first | with_reducible assumption | omega) only [go_sem, Bool.true_and, Bool.and_true, Bool.and_self, Bool.false_and, Bool.and_false, Bool.true_or, Bool.or_true, Bool.false_or, Bool.or_false, ↓reduceIte, Nat.reduceEqDiff, Nat.reduceAdd, Nat.reduceMul, Nat.reduceSub, Nat.reduceBEq, Nat.reduceLeDiff, Nat.reduceLT, Nat.reduceMod, Nat.reduceDiv, Int.reduceToNat, Int.reducePow, Int.reduceMul, Int.reduceAdd, Int.reduceSub, Int.reduceLE, Int.reduceLT, Int.reduceNeg, Int.reduceDiv, Int.reduceMod, Int.reduceEq, Int.reduceBEq, Int.reduceBNe]
        exact ⟨i + 1, s', w', _, _, rfl, rfl, by omega, rfl, fun A => IsI.more (hIn A), hl2, fun _ => hG2 rfl⟩
      | false =>
        repeat' first | simp (disch := first | with_reducible assumption | omega) only [go_sem, Bool.true_and, Bool.and_true, Bool.and_self, Bool.false_and, Bool.and_false, Bool.true_or, Bool.or_true, Bool.false_or, Bool.or_false, ↓reduceIte, Nat.reduceEqDiff, Nat.reduceAdd, Nat.reduceMul, Nat.reduceSub, Nat.reduceBEq, Nat.reduceLeDiff, Nat.reduceLT, Nat.reduceMod, Nat.reduceDiv, Int.reduceToNat, Int.reducePow, Int.reduceMul, Int.reduceAdd, Int.reduceSub, Int.reduceLE, Int.reduceLT, Int.reduceNeg, Int.reduceDiv, Int.reduceMod, Int.reduceEq, Int.reduceBEq, Int.reduceBNe, f8, f8b, f8r0, f8r1, f8r2, f8r3, f8r4, f8r5, f8r6, f8r7, f8r8, f8r9, f8r10, f8r12, f8l0, S.val] | (refine BrW.of (fun hb => ?_) (fun hb => ?_) <;> (have hb' := hb; try simp only [decide_eq_true_eq, decide_eq_false_iff_not, beq_iff_eq, bne_iff_ne, beq_eq_false_iff_ne, bne_eq_false_iff_eq, Bool.not_eq_true', Bool.not_eq_false', Bool.not_eq_true, Bool.not_eq_false, Bool.and_eq_true, Bool.or_eq_true, Bool.and_eq_false_iff, Bool.or_eq_false_iff, Int.not_lt, Int.not_le, ne_eq, gt_iff_lt, ge_iff_le] at hb') <;> (try (exfalso; omega)))
        refine RdW.keep [3, 8, 10, 12, 25, 26, 27] (l.length - (i + 1)) (by omega) ?_
        simp (disch := first | with_reducible assumption | omega) only [go_sem, Bool.true_and, Bool.and_true, Bool.and_self, Bool.false_and, Bool.and_false, Bool.true_or, Bool.or_true, Bool.false_or, Bool.or_false, ↓reduceIte, Nat.reduceEqDiff, Nat.reduceAdd, Nat.reduceMul, Nat.reduceSub, Nat.reduceBEq, Nat.reduceLeDiff, Nat.reduceLT, Nat.reduceMod, Nat.reduceDiv, Int.reduceToNat, Int.reducePow, Int.reduceMul, Int.reduceAdd, Int.reduceSub, Int.reduceLE, Int.reduceLT, Int.reduceNeg, Int.reduceDiv, Int.reduceMod, Int.reduceEq, Int.reduceBEq, Int.reduceBNe]
        exact ⟨i + 1, s', w', _, _, rfl, rfl, by omega, rfl, fun A => IsI.more (hIn A), hl2, fun h => by cases h⟩
    · have z' : (e2 == 0) = false := by simpa using z
      clear he hG htk
      cases ok with
      | true =>
        repeat' first | simp (disch := first | with_reducible assumption | omega) only [go_sem, Bool.true_and, Bool.and_true, Bool.and_self, Bool.false_and, Bool.and_false, Bool.true_or, Bool.or_true, Bool.false_or, Bool.or_false, ↓reduceIte, Nat.reduceEqDiff, Nat.reduceAdd, Nat.reduceMul, Nat.reduceSub, Nat.reduceBEq, Nat.reduceLeDiff, Nat.reduceLT, Nat.reduceMod, Nat.reduceDiv, Int.reduceToNat, Int.reducePow, Int.reduceMul, Int.reduceAdd, Int.reduceSub, Int.reduceLE, Int.reduceLT, Int.reduceNeg, Int.reduceDiv, Int.reduceMod, Int.reduceEq, Int.reduceBEq, Int.reduceBNe, f8, f8b, f8r0, f8r1, f8r2, f8r3, f8r4, f8r5, f8r6, f8r7, f8r8, f8r9, f8r10, f8r12, f8l0, S.val, z'] | (refine BrW.of (fun hb => ?_) (fun hb => ?_) <;> (have hb' := hb; try simp only [decide_eq_true_eq, decide_eq_false_iff_not, beq_iff_eq, bne_iff_ne, beq_eq_false_iff_ne, bne_eq_false_iff_eq, Bool.not_eq_true', Bool.not_eq_false', Bool.not_eq_true, Bool.not_eq_false, Bool.and_eq_true, Bool.or_eq_true, Bool.and_eq_false_iff, Bool.or_eq_false_iff, Int.not_lt, Int.not_le, ne_eq, gt_iff_lt, ge_iff_le] at hb') <;> (try (exfalso; omega)))
        refine RdW.keep [3, 8, 10, 12, 25, 26, 27] (l.length - (i + 1)) (by omega) ?_
        simp (disch := first | with_reducible assumption | omega) only [go_sem, Bool.true_and, Bool.and_true, Bool.and_self, Bool.false_and, Bool.and_false, Bool.true_or, Bool.or_true, Bool.false_or, Bool.or_false, ↓reduceIte, Nat.reduceEqDiff, Nat.reduceAdd, Nat.reduceMul, Nat.reduceSub, Nat.reduceBEq, Nat.reduceLeDiff, Nat.reduceLT, Nat.reduceMod, Nat.reduceDiv, Int.reduceToNat, Int.reducePow, Int.reduceMul, Int.reduceAdd, Int.reduceSub, Int.reduceLE, Int.reduceLT, Int.reduceNeg, Int.reduceDiv, Int.reduceMod, Int.reduceEq, Int.reduceBEq, Int.reduceBNe]
        exact ⟨i + 1, s, u, _, _, rfl, rfl, by omega, rfl, fun A => IsI.more (hIo A), hsl, fun h => by cases h⟩
      | false =>
        repeat' first | simp (disch := first | with_reducible assumption | omega) only [go_sem, Bool.true_and, Bool.and_true, Bool.and_self, Bool.false_and, Bool.and_false, Bool.true_or, Bool.or_true, Bool.false_or, Bool.or_false, ↓reduceIte, Nat.reduceEqDiff, Nat.reduceAdd, Nat.reduceMul, Nat.reduceSub, Nat.reduceBEq, Nat.reduceLeDiff, Nat.reduceLT, Nat.reduceMod, Nat.reduceDiv, Int.reduceToNat, Int.reducePow, Int.reduceMul, Int.reduceAdd, Int.reduceSub, Int.reduceLE, Int.reduceLT, Int.reduceNeg, Int.reduceDiv, Int.reduceMod, Int.reduceEq, Int.reduceBEq, Int.reduceBNe, f8, f8b, f8r0, f8r1, f8r2, f8r3, f8r4, f8r5, f8r6, f8r7, f8r8, f8r9, f8r10, f8r12, f8l0, S.val, z'] | (refine BrW.of (fun hb => ?_) (fun hb => ?_) <;> (have hb' := hb; try simp only [decide_eq_true_eq, decide_eq_false_iff_not, beq_iff_eq, bne_iff_ne, beq_eq_false_iff_ne, bne_eq_false_iff_eq, Bool.not_eq_true', Bool.not_eq_false', Bool.not_eq_true, Bool.not_eq_false, Bool.and_eq_true, Bool.or_eq_true, Bool.and_eq_false_iff, Bool.or_eq_false_iff, Int.not_lt, Int.not_le, ne_eq, gt_iff_lt, ge_iff_le] at hb') <;> (try (exfalso; omega)))
        refine RdW.keep [3, 8, 10, 12, 25, 26, 27] (l.length - (i + 1)) (by omega) ?_
        simp (disch := first | with_reducible assumption | omega) only [go_sem, Bool.true_and, Bool.and_true, Bool.and_self, Bool.false_and, Bool.and_false, Bool.true_or, Bool.or_true, Bool.false_or, Bool.or_false, ↓reduceIte, Nat.reduceEqDiff, Nat.reduceAdd, Nat.reduceMul, Nat.reduceSub, Nat.reduceBEq, Nat.reduceLeDiff, Nat.reduceLT, Nat.reduceMod, Nat.reduceDiv, Int.reduceToNat, Int.reducePow, Int.reduceMul, Int.reduceAdd, Int.reduceSub, Int.reduceLE, Int.reduceLT, Int.reduceNeg, Int.reduceDiv, Int.reduceMod, Int.reduceEq, Int.reduceBEq, Int.reduceBNe]
        exact ⟨i + 1, s, u, _, _, rfl, rfl, by omega, rfl, fun A => IsI.more (hIo A), hsl, fun h => by cases h⟩
  · obtain rfl : i = l.length := by omega
    rw [List.take_length] at hG
    have hfin := fun Z => IsI.set (Z := Z) (hI (.cells 0 0 false [.int .i64 s.rows, .int .i64 s.w, u])) (hg8 _ _)
    simp only [hs8] at hfin
    repeat' first | simp (disch := first | with_reducible assumption | omega) only [go_sem, Bool.true_and, Bool.and_true, Bool.and_self, Bool.false_and, Bool.and_false, Bool.true_or, Bool.or_true, Bool.false_or, Bool.or_false, ↓reduceIte, Nat.reduceEqDiff, Nat.reduceAdd, Nat.reduceMul, Nat.reduceSub, Nat.reduceBEq, Nat.reduceLeDiff, Nat.reduceLT, Nat.reduceMod, Nat.reduceDiv, Int.reduceToNat, Int.reducePow, Int.reduceMul, Int.reduceAdd, Int.reduceSub, Int.reduceLE, Int.reduceLT, Int.reduceNeg, Int.reduceDiv, Int.reduceMod, Int.reduceEq, Int.reduceBEq, Int.reduceBNe, f8, f8b, f8r0, f8r1, f8r2, f8r3, f8r4, f8r5, f8r6, f8r7, f8r8, f8r9, f8r10, f8r12, f8l0, f8, f8b, f8r0, f8r1, f8r2, f8r3, f8r4, f8r5, f8r6, f8r7, f8r8, f8r9, f8r10, f8r12, S.val, hkG, hg8, hs8] | (refine BrW.of (fun hb => ?_) (fun hb => ?_) <;> (have hb' := hb; try simp only [decide_eq_true_eq, decide_eq_false_iff_not, beq_iff_eq, bne_iff_ne, beq_eq_false_iff_ne, bne_eq_false_iff_eq, Bool.not_eq_true', Bool.not_eq_false', Bool.not_eq_true, Bool.not_eq_false, Bool.and_eq_true, Bool.or_eq_true, Bool.and_eq_false_iff, Bool.or_eq_false_iff, Int.not_lt, Int.not_le, ne_eq, gt_iff_lt, ge_iff_le] at hb') <;> (try (exfalso; omega)))
    exact .here ⟨s, u, ok, rfl, .app _ _, hfin _, hsl, hG⟩
end Go.Proofs.Ytadogoahnpakbaa
