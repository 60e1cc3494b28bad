import Derived.Test.YtnogdnfjhaejgaaLaws
set_option linter.unusedSimpArgs false
set_option linter.unusedVariables false
set_option maxHeartbeats 4000000
set_option maxRecDepth 20000
namespace Go.Proofs.Ytnogdnfjhaejgaa
open Go Go.Am
attribute [local irreducible] opsW Ww loopW callW drawW outW outDW gW cW BrW bothW vW resW DropW RdW dcallW altW Later.run

theorem xor8 (x t : Int) (hx : 0 ≤ x ∧ x ≤ 255) (ht : 0 ≤ t ∧ t ≤ 255) (h0 : t ≠ 0) : (0 ≤ ixor .u8 x t ∧ ixor .u8 x t ≤ 255) ∧ ixor .u8 x t ≠ x := by
  obtain ⟨n, rfl⟩ := Int.eq_ofNat_of_zero_le hx.1
  obtain ⟨m, rfl⟩ := Int.eq_ofNat_of_zero_le ht.1
  unfold ixor
  have e : IntKind.u8.bits = 8 := rfl
  rw [e]
  simp only [BitVec.ofInt_natCast]
  have hlt := (BitVec.ofNat 8 n ^^^ BitVec.ofNat 8 m).isLt
  rw [wrap_u8 _ (by omega)]
  refine ⟨by omega, fun he => h0 ?_⟩
  have h1 : (BitVec.ofNat 8 n ^^^ BitVec.ofNat 8 m).toNat = (BitVec.ofNat 8 n).toNat := by
    rw [BitVec.toNat_ofNat, Nat.mod_eq_of_lt (by omega)]; omega
  have h2 := BitVec.eq_of_toNat_eq h1
  have h3 : BitVec.ofNat 8 m = 0#8 := by
    have : BitVec.ofNat 8 n ^^^ (BitVec.ofNat 8 n ^^^ BitVec.ofNat 8 m) = BitVec.ofNat 8 n ^^^ BitVec.ofNat 8 n := by rw [h2]
    rwa [← BitVec.xor_assoc, BitVec.xor_self, BitVec.zero_xor] at this
  have h4 := congrArg BitVec.toNat h3
  rw [BitVec.toNat_ofNat, Nat.mod_eq_of_lt (by omega)] at h4
  simp at h4
  omega

theorem HeadSpoilt_args (H : Heap) (vals : List Value) (h : ArgsOk maxLen H HeadSpoiltSh vals) : ACallK Try.prog 4 vals H fun v _ => v = .bool true := by
  obtain ⟨_, _, rfl, a1, h⟩ := h.cons
  obtain ⟨_, _, rfl, a2, h⟩ := h.cons
  obtain ⟨_, _, rfl, a3, h⟩ := h.cons
  obtain rfl := h.nil
  obtain ⟨q, rfl, ho⟩ := Hd.of a1
  obtain ⟨at', rfl, _⟩ := a2.cell.int_inv
  obtain ⟨t, rfl, ht⟩ := a3.cell.int_inv
  have ht := u8_range ht
  clear a1 a2 a3
  have hWr := fun H => Write_spec q H ho
  refine .walkW f4_ok (by simp; decide) (by decide) ?_
  repeat' first | simp (disch := first | with_reducible assumption | omega) only [go_sem, Bool.true_and, Bool.and_true, Bool.and_self, Bool.false_and, Bool.and_false, Bool.true_or, Bool.or_true, Bool.false_or, Bool.or_false, ↓reduceIte, Nat.reduceEqDiff, Nat.reduceAdd, Nat.reduceMul, Nat.reduceSub, Nat.reduceBEq, Nat.reduceLeDiff, Nat.reduceLT, Nat.reduceMod, Nat.reduceDiv, Int.reduceToNat, Int.reducePow, Int.reduceMul, Int.reduceAdd, Int.reduceSub, Int.reduceLE, Int.reduceLT, Int.reduceNeg, Int.reduceDiv, Int.reduceMod, Int.reduceEq, Int.reduceBEq, Int.reduceBNe, f4, f4b, f4r0, f4r1, f4r2, f4r3, f4r4, f4r5, f4r6, f4r7, f4r8] | (refine BrW.of (fun hb => ?_) (fun hb => ?_) <;> (have hb' := hb; try simp only [decide_eq_true_eq, decide_eq_false_iff_not, beq_iff_eq, bne_iff_ne, beq_eq_false_iff_ne, bne_eq_false_iff_eq, Bool.not_eq_true', Bool.not_eq_false', Bool.not_eq_true, Bool.not_eq_false, Bool.and_eq_true, Bool.or_eq_true, Bool.and_eq_false_iff, Bool.or_eq_false_iff, Int.not_lt, Int.not_le, ne_eq, gt_iff_lt, ge_iff_le] at hb') <;> (try (exfalso; omega))) | (refine altW.of ?_ ?_) | (refine .of ((alive _).mono ?_); rintro v H ⟨rfl, rfl⟩)
  refine .of ((hWr _).mono ?_)
  rintro v G ⟨hLe, hbad, hgood⟩
  have hb1 := hLe.get (get_new0 H (.cells 0 0 false q.cells) [])
  by_cases hw : wrongN q = 0
  · obtain ⟨x, y, hG, rfl⟩ := hgood hw
    have hl : (H ++ [AObj.cells 0 0 false q.cells]).length = H.length + 1 := by simp
    rw [hl]
    by_cases hat : 1 ≤ at' ∧ at' < 20 ∧ t ≠ 0
    · obtain ⟨k, rfl⟩ := Int.eq_ofNat_of_zero_le (show 0 ≤ at' by omega)
      have hf := Hd.fine ho hw
      have hlen := bytesH_len hf
      have f5 := hf.len
      have hby := bytesH_byte hf
      obtain ⟨x1, x2⟩ := xor8 ((bytesH q).getD k 0) t (hby.getD k) ht hat.2.2
      have hsp := read_spoilt hf (k := k) (by omega) x1 x2
      have hby2 : byteL ((bytesH q).set k (ixor .u8 ((bytesH q).getD k 0) t)) := fun z hz => by
        rcases List.mem_or_eq_of_mem_set hz with hz | rfl
        · exact hby z hz
        · exact x1
      have hk : G[H.length + 1 + 1]? = some (.cells 0 1 false (bytes (bytesH q))) := by
        rw [hG, List.append_assoc, show H.length + 1 + 1 = H.length + 2 by omega, get_new]; rfl
      have hkl := (List.getElem?_eq_some_iff.1 hk).1
      have g0 := bytes_get (bytesH q) k (by omega)
      have s0 := bytes_set (bytesH q) k (ixor .u8 ((bytesH q).getD k 0) t)
      have bl := bytes_length (bytesH q)
      have hR := fun J hs => Read_spec ((bytesH q).set k (ixor .u8 ((bytesH q).getD k 0) t)) (H.length + 1 + 1) 0 0 q.len.toNat J hby2 hs (by rw [List.length_set]; omega) (by rw [List.length_set]; omega)
      rw [List.length_set, hlen] at hR
      have hB := Bys.new (G.set (H.length + 1 + 1) (.cells 0 1 false (bytes ((bytesH q).set k (ixor .u8 ((bytesH q).getD k 0) t))))) (H.length + 1 + 1) 0 false _ (List.getElem?_set_self hkl)
      have hne : (readE ((bytesH q).set k (ixor .u8 ((bytesH q).getD k 0) t)) != 0) = true := by simpa using hsp
      have zk : (k : Int).toNat = k := by omega
      rw [hlen] at bl
      clear hsp hby hby2 x1 x2 hWr hbad hgood hf ho hG
      generalize (bytesH q).getD k 0 = X at *
      generalize (bytesH q).set k (ixor .u8 X t) = L at *
      generalize readH L = RH at *
      generalize readE L = RE at *
      generalize bytes (bytesH q) = BB at *
      have t0 : (t == 0) = false := by simpa using hat.2.2
      obtain ⟨k1, k2, _⟩ := hat
      repeat' first | simp (disch := first | with_reducible assumption | omega) only [go_sem, Bool.true_and, Bool.and_true, Bool.and_self, Bool.false_and, Bool.and_false, Bool.true_or, Bool.or_true, Bool.false_or, Bool.or_false, ↓reduceIte, Nat.reduceEqDiff, Nat.reduceAdd, Nat.reduceMul, Nat.reduceSub, Nat.reduceBEq, Nat.reduceLeDiff, Nat.reduceLT, Nat.reduceMod, Nat.reduceDiv, Int.reduceToNat, Int.reducePow, Int.reduceMul, Int.reduceAdd, Int.reduceSub, Int.reduceLE, Int.reduceLT, Int.reduceNeg, Int.reduceDiv, Int.reduceMod, Int.reduceEq, Int.reduceBEq, Int.reduceBNe, f4, f4b, f4r0, f4r1, f4r2, f4r3, f4r4, f4r5, f4r6, f4r7, f4r8, hb1, hk, g0, s0, zk, bl, t0] | (refine BrW.of (fun hb => ?_) (fun hb => ?_) <;> (have hb' := hb; try simp only [decide_eq_true_eq, decide_eq_false_iff_not, beq_iff_eq, bne_iff_ne, beq_eq_false_iff_ne, bne_eq_false_iff_eq, Bool.not_eq_true', Bool.not_eq_false', Bool.not_eq_true, Bool.not_eq_false, Bool.and_eq_true, Bool.or_eq_true, Bool.and_eq_false_iff, Bool.or_eq_false_iff, Int.not_lt, Int.not_le, ne_eq, gt_iff_lt, ge_iff_le] at hb') <;> (try (exfalso; omega))) | (refine altW.of ?_ ?_) | (refine .of ((hR _ hB).mono ?_); rintro v _ ⟨rfl, rfl⟩)
      exact .here (by rw [hne])
    · by_cases h1 : 1 ≤ at'
      · by_cases h2 : at' < 20
        · have t0 : (t == 0) = true := by
            have : t = 0 := Classical.byContradiction fun hn => hat ⟨h1, h2, hn⟩
            rw [this]; rfl
          clear hat
          repeat' first | simp (disch := first | with_reducible assumption | omega) only [go_sem, Bool.true_and, Bool.and_true, Bool.and_self, Bool.false_and, Bool.and_false, Bool.true_or, Bool.or_true, Bool.false_or, Bool.or_false, ↓reduceIte, Nat.reduceEqDiff, Nat.reduceAdd, Nat.reduceMul, Nat.reduceSub, Nat.reduceBEq, Nat.reduceLeDiff, Nat.reduceLT, Nat.reduceMod, Nat.reduceDiv, Int.reduceToNat, Int.reducePow, Int.reduceMul, Int.reduceAdd, Int.reduceSub, Int.reduceLE, Int.reduceLT, Int.reduceNeg, Int.reduceDiv, Int.reduceMod, Int.reduceEq, Int.reduceBEq, Int.reduceBNe, f4, f4b, f4r0, f4r1, f4r2, f4r3, f4r4, f4r5, f4r6, f4r7, f4r8, hb1, t0] | (refine BrW.of (fun hb => ?_) (fun hb => ?_) <;> (have hb' := hb; try simp only [decide_eq_true_eq, decide_eq_false_iff_not, beq_iff_eq, bne_iff_ne, beq_eq_false_iff_ne, bne_eq_false_iff_eq, Bool.not_eq_true', Bool.not_eq_false', Bool.not_eq_true, Bool.not_eq_false, Bool.and_eq_true, Bool.or_eq_true, Bool.and_eq_false_iff, Bool.or_eq_false_iff, Int.not_lt, Int.not_le, ne_eq, gt_iff_lt, ge_iff_le] at hb') <;> (try (exfalso; omega))) | (refine altW.of ?_ ?_)
          exact .here rfl
        · clear hat
          repeat' first | simp (disch := first | with_reducible assumption | omega) only [go_sem, Bool.true_and, Bool.and_true, Bool.and_self, Bool.false_and, Bool.and_false, Bool.true_or, Bool.or_true, Bool.false_or, Bool.or_false, ↓reduceIte, Nat.reduceEqDiff, Nat.reduceAdd, Nat.reduceMul, Nat.reduceSub, Nat.reduceBEq, Nat.reduceLeDiff, Nat.reduceLT, Nat.reduceMod, Nat.reduceDiv, Int.reduceToNat, Int.reducePow, Int.reduceMul, Int.reduceAdd, Int.reduceSub, Int.reduceLE, Int.reduceLT, Int.reduceNeg, Int.reduceDiv, Int.reduceMod, Int.reduceEq, Int.reduceBEq, Int.reduceBNe, f4, f4b, f4r0, f4r1, f4r2, f4r3, f4r4, f4r5, f4r6, f4r7, f4r8, hb1] | (refine BrW.of (fun hb => ?_) (fun hb => ?_) <;> (have hb' := hb; try simp only [decide_eq_true_eq, decide_eq_false_iff_not, beq_iff_eq, bne_iff_ne, beq_eq_false_iff_ne, bne_eq_false_iff_eq, Bool.not_eq_true', Bool.not_eq_false', Bool.not_eq_true, Bool.not_eq_false, Bool.and_eq_true, Bool.or_eq_true, Bool.and_eq_false_iff, Bool.or_eq_false_iff, Int.not_lt, Int.not_le, ne_eq, gt_iff_lt, ge_iff_le] at hb') <;> (try (exfalso; omega))) | (refine altW.of ?_ ?_)
          exact .here rfl
      · clear hat
        repeat' first | simp (disch := first | with_reducible assumption | omega) only [go_sem, Bool.true_and, Bool.and_true, Bool.and_self, Bool.false_and, Bool.and_false, Bool.true_or, Bool.or_true, Bool.false_or, Bool.or_false, ↓reduceIte, Nat.reduceEqDiff, Nat.reduceAdd, Nat.reduceMul, Nat.reduceSub, Nat.reduceBEq, Nat.reduceLeDiff, Nat.reduceLT, Nat.reduceMod, Nat.reduceDiv, Int.reduceToNat, Int.reducePow, Int.reduceMul, Int.reduceAdd, Int.reduceSub, Int.reduceLE, Int.reduceLT, Int.reduceNeg, Int.reduceDiv, Int.reduceMod, Int.reduceEq, Int.reduceBEq, Int.reduceBNe, f4, f4b, f4r0, f4r1, f4r2, f4r3, f4r4, f4r5, f4r6, f4r7, f4r8, hb1] | (refine BrW.of (fun hb => ?_) (fun hb => ?_) <;> (have hb' := hb; try simp only [decide_eq_true_eq, decide_eq_false_iff_not, beq_iff_eq, bne_iff_ne, beq_eq_false_iff_ne, bne_eq_false_iff_eq, Bool.not_eq_true', Bool.not_eq_false', Bool.not_eq_true, Bool.not_eq_false, Bool.and_eq_true, Bool.or_eq_true, Bool.and_eq_false_iff, Bool.or_eq_false_iff, Int.not_lt, Int.not_le, ne_eq, gt_iff_lt, ge_iff_le] at hb') <;> (try (exfalso; omega))) | (refine altW.of ?_ ?_)
        exact .here rfl
  · obtain rfl := hbad hw
    have hnn : (wrongN q != 0) = true := by simpa using hw
    repeat' first | simp (disch := first | with_reducible assumption | omega) only [go_sem, Bool.true_and, Bool.and_true, Bool.and_self, Bool.false_and, Bool.and_false, Bool.true_or, Bool.or_true, Bool.false_or, Bool.or_false, ↓reduceIte, Nat.reduceEqDiff, Nat.reduceAdd, Nat.reduceMul, Nat.reduceSub, Nat.reduceBEq, Nat.reduceLeDiff, Nat.reduceLT, Nat.reduceMod, Nat.reduceDiv, Int.reduceToNat, Int.reducePow, Int.reduceMul, Int.reduceAdd, Int.reduceSub, Int.reduceLE, Int.reduceLT, Int.reduceNeg, Int.reduceDiv, Int.reduceMod, Int.reduceEq, Int.reduceBEq, Int.reduceBNe, f4, f4b, f4r0, f4r1, f4r2, f4r3, f4r4, f4r5, f4r6, f4r7, f4r8, hb1, hnn] | (refine BrW.of (fun hb => ?_) (fun hb => ?_) <;> (have hb' := hb; try simp only [decide_eq_true_eq, decide_eq_false_iff_not, beq_iff_eq, bne_iff_ne, beq_eq_false_iff_ne, bne_eq_false_iff_eq, Bool.not_eq_true', Bool.not_eq_false', Bool.not_eq_true, Bool.not_eq_false, Bool.and_eq_true, Bool.or_eq_true, Bool.and_eq_false_iff, Bool.or_eq_false_iff, Int.not_lt, Int.not_le, ne_eq, gt_iff_lt, ge_iff_le] at hb') <;> (try (exfalso; omega))) | (refine altW.of ?_ ?_)
    exact .here rfl
theorem HeadRead_args (H : Heap) (vals : List Value) (h : ArgsOk maxLen H HeadReadSh vals) : ACallK Try.prog 6 vals H fun v _ => v = .bool true := by
  obtain ⟨_, _, rfl, a1, h⟩ := h.cons
  obtain rfl := h.nil
  obtain ⟨k, c, b, rfl, hB, hlc, hs, hok⟩ := rows_of (enc := uenc) (ok := fun x => 0 ≤ x ∧ x ≤ 255) 1 (fun _ => rfl) 0 rfl (fun cs h => by
    obtain ⟨v, rfl, hv⟩ := h.one
    obtain ⟨n, rfl, hn⟩ := hv.int_inv
    exact ⟨n, rfl, u8_range hn⟩) a1
  have hby : byteL b := fun x hx => by obtain ⟨j, hj, rfl⟩ := mem_getD (d := 0) hx; exact hok j hj
  clear a1 h hok
  have hm : maxLen ≤ 9223372036854775807 := by decide
  have hR := fun J hJ => Read_spec b k 0 0 c J hby hJ hlc (by omega)
  refine .walkW f6_ok (by simp; decide) (by decide) ?_
  repeat' first | simp (disch := first | with_reducible assumption | omega) only [go_sem, Bool.true_and, Bool.and_true, Bool.and_self, Bool.false_and, Bool.and_false, Bool.true_or, Bool.or_true, Bool.false_or, Bool.or_false, ↓reduceIte, Nat.reduceEqDiff, Nat.reduceAdd, Nat.reduceMul, Nat.reduceSub, Nat.reduceBEq, Nat.reduceLeDiff, Nat.reduceLT, Nat.reduceMod, Nat.reduceDiv, Int.reduceToNat, Int.reducePow, Int.reduceMul, Int.reduceAdd, Int.reduceSub, Int.reduceLE, Int.reduceLT, Int.reduceNeg, Int.reduceDiv, Int.reduceMod, Int.reduceEq, Int.reduceBEq, Int.reduceBNe, f6, f6b, f6r0, f6r1, f6r2, f6r3, f6r4, f6r5, f6r6, f6r7, f6r8, f6r9, f6r10] | (refine BrW.of (fun hb => ?_) (fun hb => ?_) <;> (have hb' := hb; try simp only [decide_eq_true_eq, decide_eq_false_iff_not, beq_iff_eq, bne_iff_ne, beq_eq_false_iff_ne, bne_eq_false_iff_eq, Bool.not_eq_true', Bool.not_eq_false', Bool.not_eq_true, Bool.not_eq_false, Bool.and_eq_true, Bool.or_eq_true, Bool.and_eq_false_iff, Bool.or_eq_false_iff, Int.not_lt, Int.not_le, ne_eq, gt_iff_lt, ge_iff_le] at hb') <;> (try (exfalso; omega))) | (refine altW.of ?_ ?_) | (refine .of ((alive _).mono ?_); rintro v H ⟨rfl, rfl⟩)
  by_cases hE : readE b = 0
  · obtain ⟨ho, hw24⟩ := read_fine hby hE
    rw [hE] at hR
    generalize readH b = q at *
    have hWr := fun H => Write_spec q H ho
    have hW := fun H => Wrong_spec q H
    have e1 := same13n q
    refine .of ((hR _ hs).mono ?_)
    rintro v _ ⟨rfl, rfl⟩
    by_cases hw : wrongN q = 0
    · have hnn : (wrongN q != 0) = false := by rw [hw]; rfl
      repeat' first | simp (disch := first | with_reducible assumption | omega) only [go_sem, Bool.true_and, Bool.and_true, Bool.and_self, Bool.false_and, Bool.and_false, Bool.true_or, Bool.or_true, Bool.false_or, Bool.or_false, ↓reduceIte, Nat.reduceEqDiff, Nat.reduceAdd, Nat.reduceMul, Nat.reduceSub, Nat.reduceBEq, Nat.reduceLeDiff, Nat.reduceLT, Nat.reduceMod, Nat.reduceDiv, Int.reduceToNat, Int.reducePow, Int.reduceMul, Int.reduceAdd, Int.reduceSub, Int.reduceLE, Int.reduceLT, Int.reduceNeg, Int.reduceDiv, Int.reduceMod, Int.reduceEq, Int.reduceBEq, Int.reduceBNe, f6, f6b, f6r0, f6r1, f6r2, f6r3, f6r4, f6r5, f6r6, f6r7, f6r8, f6r9, f6r10, hnn] | (refine BrW.of (fun hb => ?_) (fun hb => ?_) <;> (have hb' := hb; try simp only [decide_eq_true_eq, decide_eq_false_iff_not, beq_iff_eq, bne_iff_ne, beq_eq_false_iff_ne, bne_eq_false_iff_eq, Bool.not_eq_true', Bool.not_eq_false', Bool.not_eq_true, Bool.not_eq_false, Bool.and_eq_true, Bool.or_eq_true, Bool.and_eq_false_iff, Bool.or_eq_false_iff, Int.not_lt, Int.not_le, ne_eq, gt_iff_lt, ge_iff_le] at hb') <;> (try (exfalso; omega))) | (refine altW.of ?_ ?_) | (refine .of ((hW _).mono ?_); rintro v _ ⟨rfl, rfl⟩)
      refine .of ((hWr _).mono ?_)
      rintro v G ⟨hLe, hbad, hgood⟩
      obtain ⟨x, y, hG, rfl⟩ := hgood hw
      have hb1 := hLe.get (get_new0 _ (.cells 0 0 false q.cells) [])
      have hf := Hd.fine ho hw
      have hlen := bytesH_len hf
      have f5 := hf.len
      obtain ⟨r1, r2⟩ := read_more hf []
      rw [List.append_nil] at r1 r2
      have hl : ∀ (H : Heap) (o : AObj), (H ++ [o]).length = H.length + 1 := fun H o => by simp
      rw [hl] at *
      have hR2 := fun kk J hs => Read_spec (bytesH q) kk 0 0 q.len.toNat J (bytesH_byte hf) hs (by omega) (by omega)
      rw [r1, r2, hlen] at hR2
      have hk := (congrArg (fun (J : Heap) => J[_ + 1 + 1]?) hG).trans (by rw [List.append_assoc, Nat.add_assoc, get_new]; rfl : _ = some (AObj.cells 0 1 false (bytes (bytesH q))))
      have hB2 := Bys.new _ _ 0 false _ hk
      clear hWr hW hbad hgood hLe ho hf hG
      repeat' first | simp (disch := first | with_reducible assumption | omega) only [go_sem, Bool.true_and, Bool.and_true, Bool.and_self, Bool.false_and, Bool.and_false, Bool.true_or, Bool.or_true, Bool.false_or, Bool.or_false, ↓reduceIte, Nat.reduceEqDiff, Nat.reduceAdd, Nat.reduceMul, Nat.reduceSub, Nat.reduceBEq, Nat.reduceLeDiff, Nat.reduceLT, Nat.reduceMod, Nat.reduceDiv, Int.reduceToNat, Int.reducePow, Int.reduceMul, Int.reduceAdd, Int.reduceSub, Int.reduceLE, Int.reduceLT, Int.reduceNeg, Int.reduceDiv, Int.reduceMod, Int.reduceEq, Int.reduceBEq, Int.reduceBNe, f6, f6b, f6r0, f6r1, f6r2, f6r3, f6r4, f6r5, f6r6, f6r7, f6r8, f6r9, f6r10, hb1, get_old hb1, hk, get_old hk, e1] | (refine BrW.of (fun hb => ?_) (fun hb => ?_) <;> (have hb' := hb; try simp only [decide_eq_true_eq, decide_eq_false_iff_not, beq_iff_eq, bne_iff_ne, beq_eq_false_iff_ne, bne_eq_false_iff_eq, Bool.not_eq_true', Bool.not_eq_false', Bool.not_eq_true, Bool.not_eq_false, Bool.and_eq_true, Bool.or_eq_true, Bool.and_eq_false_iff, Bool.or_eq_false_iff, Int.not_lt, Int.not_le, ne_eq, gt_iff_lt, ge_iff_le] at hb') <;> (try (exfalso; omega))) | (refine altW.of ?_ ?_) | (refine .of ((hR2 _ _ hB2).mono ?_); rintro v _ ⟨rfl, rfl⟩)
      all_goals exact .here rfl
    · have h24 := hw24 hw
      have hnn : (wrongN q != 0) = true := by simpa using hw
      clear hw24 hw
      generalize wrongN q = e at *
      repeat' first | simp (disch := first | with_reducible assumption | omega) only [go_sem, Bool.true_and, Bool.and_true, Bool.and_self, Bool.false_and, Bool.and_false, Bool.true_or, Bool.or_true, Bool.false_or, Bool.or_false, ↓reduceIte, Nat.reduceEqDiff, Nat.reduceAdd, Nat.reduceMul, Nat.reduceSub, Nat.reduceBEq, Nat.reduceLeDiff, Nat.reduceLT, Nat.reduceMod, Nat.reduceDiv, Int.reduceToNat, Int.reducePow, Int.reduceMul, Int.reduceAdd, Int.reduceSub, Int.reduceLE, Int.reduceLT, Int.reduceNeg, Int.reduceDiv, Int.reduceMod, Int.reduceEq, Int.reduceBEq, Int.reduceBNe, f6, f6b, f6r0, f6r1, f6r2, f6r3, f6r4, f6r5, f6r6, f6r7, f6r8, f6r9, f6r10, hnn] | (refine BrW.of (fun hb => ?_) (fun hb => ?_) <;> (have hb' := hb; try simp only [decide_eq_true_eq, decide_eq_false_iff_not, beq_iff_eq, bne_iff_ne, beq_eq_false_iff_ne, bne_eq_false_iff_eq, Bool.not_eq_true', Bool.not_eq_false', Bool.not_eq_true, Bool.not_eq_false, Bool.and_eq_true, Bool.or_eq_true, Bool.and_eq_false_iff, Bool.or_eq_false_iff, Int.not_lt, Int.not_le, ne_eq, gt_iff_lt, ge_iff_le] at hb') <;> (try (exfalso; omega))) | (refine altW.of ?_ ?_) | (refine .of ((hW _).mono ?_); rintro v _ ⟨rfl, rfl⟩)
      all_goals exact .here (by simp [h24])
  · have hz := readH_err hE
    have hzv : (readH b).val = .agg #[.int .u8 0, .int .u8 0, .int .u8 0, .int .u8 0, .int .u8 0, .int .u8 0, .int .u8 0, .int .u8 0, .int .i64 0, .int .i64 0, .int .i64 0, .int .i64 0, .int .i64 0] := by rw [hz]; rfl
    rw [hzv] at hR
    have e1 := same13n Hd.zero
    simp only [Hd.zero] at e1
    have hnn : (readE b != 0) = true := by simpa using hE
    clear hz hzv hE
    generalize readE b = e at *
    repeat' first | simp (disch := first | with_reducible assumption | omega) only [go_sem, Bool.true_and, Bool.and_true, Bool.and_self, Bool.false_and, Bool.and_false, Bool.true_or, Bool.or_true, Bool.false_or, Bool.or_false, ↓reduceIte, Nat.reduceEqDiff, Nat.reduceAdd, Nat.reduceMul, Nat.reduceSub, Nat.reduceBEq, Nat.reduceLeDiff, Nat.reduceLT, Nat.reduceMod, Nat.reduceDiv, Int.reduceToNat, Int.reducePow, Int.reduceMul, Int.reduceAdd, Int.reduceSub, Int.reduceLE, Int.reduceLT, Int.reduceNeg, Int.reduceDiv, Int.reduceMod, Int.reduceEq, Int.reduceBEq, Int.reduceBNe, f6, f6b, f6r0, f6r1, f6r2, f6r3, f6r4, f6r5, f6r6, f6r7, f6r8, f6r9, f6r10, hnn, e1] | (refine BrW.of (fun hb => ?_) (fun hb => ?_) <;> (have hb' := hb; try simp only [decide_eq_true_eq, decide_eq_false_iff_not, beq_iff_eq, bne_iff_ne, beq_eq_false_iff_ne, bne_eq_false_iff_eq, Bool.not_eq_true', Bool.not_eq_false', Bool.not_eq_true, Bool.not_eq_false, Bool.and_eq_true, Bool.or_eq_true, Bool.and_eq_false_iff, Bool.or_eq_false_iff, Int.not_lt, Int.not_le, ne_eq, gt_iff_lt, ge_iff_le] at hb') <;> (try (exfalso; omega))) | (refine altW.of ?_ ?_) | (refine .of ((hR _ hs).mono ?_); rintro v _ ⟨rfl, rfl⟩)
    all_goals exact .here rfl
end Go.Proofs.Ytnogdnfjhaejgaa
