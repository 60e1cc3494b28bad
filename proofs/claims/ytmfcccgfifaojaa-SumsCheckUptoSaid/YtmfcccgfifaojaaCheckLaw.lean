import Derived.Test.YtmfcccgfifaojaaSteps
set_option linter.unusedSimpArgs false
namespace Go.Proofs.Ytmfcccgfifaojaa
open Go Go.Am

theorem conv8 (a : Int) : iconv .u8 a = a % 256 := by
  unfold iconv; rw [IntKind.wrap_u8]
theorem bcells_length (b : List Int) : (bcells b).length = b.length := by simp [bcells]
theorem bcells_take (b : List Int) : (bcells b).take b.length = bcells b := by rw [← bcells_length, List.take_length]
theorem bcells_app (b c : List Int) : bcells b ++ bcells c = bcells (b ++ c) := by simp [bcells]
theorem bcells_bytes (b : List Int) (i : Nat) (h : i < b.length) : (bcells b)[i]? = some (.int .u8 (b.getD i 0)) := by simp [bcells, h]

theorem xor8 (a t : Int) (ha : 0 ≤ a ∧ a ≤ 255) (ht : 0 ≤ t ∧ t ≤ 255) (h : t ≠ 0) : (0 ≤ ixor .u8 a t ∧ ixor .u8 a t ≤ 255) ∧ ixor .u8 a t ≠ a := by
  unfold ixor
  have e : IntKind.u8.bits = 8 := rfl
  rw [e]
  obtain ⟨n, rfl⟩ := Int.eq_ofNat_of_zero_le ha.1
  obtain ⟨m, rfl⟩ := Int.eq_ofNat_of_zero_le ht.1
  have hn : n < 2 ^ 8 := by omega
  have hm : m < 2 ^ 8 := by omega
  simp only [BitVec.ofInt_natCast, BitVec.toNat_xor, BitVec.toNat_ofNat]
  rw [Nat.mod_eq_of_lt hn, Nat.mod_eq_of_lt hm]
  have hx := Nat.xor_lt_two_pow hn hm
  rw [wrap_u8 _ (by omega)]
  refine ⟨by omega, fun h' => h ?_⟩
  have h2 : n ^^^ m = n := by exact_mod_cast h'
  have h3 : n ^^^ (n ^^^ m) = 0 := by rw [h2, Nat.xor_self]
  rw [← Nat.xor_assoc, Nat.xor_self, Nat.zero_xor] at h3
  omega

theorem sumP_set : ∀ (B : List Int) (i : Nat) (X : Int), i < B.length → sumP (B.set i X) = sumP B + (X - B.getD i 0) * (if i % 2 = 0 then 256 else 1)
  | [], i, X, h => by simp at h
  | [a], i, X, h => by
    have : i = 0 := by simpa using h
    subst this
    simp [sumP]; omega
  | a :: b :: r, 0, X, h => by simp [sumP]; omega
  | a :: b :: r, 1, X, h => by simp [sumP]; omega
  | a :: b :: r, i + 2, X, h => by
    have := sumP_set r i X (by simpa using h)
    have e : (i + 2) % 2 = i % 2 := by omega
    simp only [List.set_cons_succ, sumP, this, List.getD_cons_succ, e]
    omega

theorem Check_law (b : List Int) (k o g c : Nat) (at' turn : Int) (H : Heap) (hb : byteL b) (hs : Bytes H k o g b) (hl : b.length ≤ 1048576) (hc : b.length ≤ c) (ht : 0 ≤ turn ∧ turn ≤ 255) (hat : -9223372036854775808 ≤ at' ∧ at' ≤ 9223372036854775807) :
    ACallK Try.prog 3 [.slice (some ⟨k, o, some (g + 1)⟩) b.length c, .int .i64 at', .int .u8 turn] H (fun v H' => v = .bool true ∧ H' = H) := by
  have hs' := hs
  obtain ⟨ro, cs, hk, hle, hcs⟩ := hs'
  refine .walkW f3_ok (by simp; decide) (by decide) ?_
  simp (disch := omega) only [go_sem, ↓reduceIte, Nat.reduceEqDiff, Nat.reduceAdd, Nat.reduceMul, Nat.reduceSub, Nat.reduceBEq, Nat.reduceLeDiff, Int.reduceToNat, Int.reducePow, Int.reduceMul, Int.reduceAdd, Int.reduceSub, Int.reduceLE, Int.reduceLT, Int.reduceNeg, Int.reduceDiv, Int.reduceMod, Int.reduceEq, Int.reduceBEq, Int.reduceBNe, f3, f3b, f3r0, f3r1]
  refine .of ((alive_spec _).mono ?_)
  rintro v H' ⟨rfl, rfl⟩
  simp (disch := omega) only [go_sem, ↓reduceIte, Nat.reduceEqDiff, Nat.reduceAdd, Nat.reduceMul, Nat.reduceSub, Nat.reduceBEq, Nat.reduceLeDiff, Int.reduceToNat, Int.reducePow, Int.reduceMul, Int.reduceAdd, Int.reduceSub, Int.reduceLE, Int.reduceLT, Int.reduceNeg, Int.reduceDiv, Int.reduceMod, Int.reduceEq, Int.reduceBEq, Int.reduceBNe, f3, f3r2, f3r3, hk]
  refine .of (fun h => ?_) (fun h => ?_)
  · simp (disch := omega) only [go_sem, ↓reduceIte, Nat.reduceEqDiff, Nat.reduceAdd, Nat.reduceMul, Nat.reduceSub, Nat.reduceBEq, Nat.reduceLeDiff, Int.reduceToNat, Int.reducePow, Int.reduceMul, Int.reduceAdd, Int.reduceSub, Int.reduceLE, Int.reduceLT, Int.reduceNeg, Int.reduceDiv, Int.reduceMod, Int.reduceEq, Int.reduceBEq, Int.reduceBNe, f3, f3r4]
    exact .here ⟨rfl, rfl⟩
  · simp (disch := omega) only [go_sem, ↓reduceIte, Nat.reduceEqDiff, Nat.reduceAdd, Nat.reduceMul, Nat.reduceSub, Nat.reduceBEq, Nat.reduceLeDiff, Int.reduceToNat, Int.reducePow, Int.reduceMul, Int.reduceAdd, Int.reduceSub, Int.reduceLE, Int.reduceLT, Int.reduceNeg, Int.reduceDiv, Int.reduceMod, Int.reduceEq, Int.reduceBEq, Int.reduceBNe, f3, f3r5]
    refine .of ((Check_spec b k o g c H' hb hs (by omega)).mono ?_)
    rintro v H ⟨rfl, rfl⟩
    simp (disch := omega) only [go_sem, ↓reduceIte, Nat.reduceEqDiff, Nat.reduceAdd, Nat.reduceMul, Nat.reduceSub, Nat.reduceBEq, Nat.reduceLeDiff, Int.reduceToNat, Int.reducePow, Int.reduceMul, Int.reduceAdd, Int.reduceSub, Int.reduceLE, Int.reduceLT, Int.reduceNeg, Int.reduceDiv, Int.reduceMod, Int.reduceEq, Int.reduceBEq, Int.reduceBNe, f3, f3r6]
    refine .of ((Clone_spec b k o g c H hs (by omega) hc).mono ?_)
    rintro v H' ⟨g', rfl, rfl⟩
    have hr := foldZ_range (sumP b)
    have hnb : ¬ b.length + 2 ≤ b.length := by omega
    simp (disch := omega) only [go_sem, ↓reduceIte, Nat.reduceEqDiff, Nat.reduceAdd, Nat.reduceMul, Nat.reduceSub, Nat.reduceBEq, Nat.reduceLeDiff, Int.reduceToNat, Int.reducePow, Int.reduceMul, Int.reduceAdd, Int.reduceSub, Int.reduceLE, Int.reduceLT, Int.reduceNeg, Int.reduceDiv, Int.reduceMod, Int.reduceEq, Int.reduceBEq, Int.reduceBNe, f3, f3r6, hnb, bcells_length, bcells_take, conv8 (65535 - foldZ (sumP b)), List.take_succ_cons]
    generalize hC : 65535 - foldZ (sumP b) = C
    have e1 : bcells b ++ [Value.int .u8 (C / 256), Value.int .u8 (C % 256)] = bcells (b ++ [C / 256, C % 256]) := bcells_app b [C / 256, C % 256]
    have e2 : (b ++ [C / 256, C % 256]).length = b.length + 2 := by simp
    have hb2 : byteL (b ++ [C / 256, C % 256]) := by
      intro x hx
      simp at hx
      rcases hx with hx | hx | hx
      · exact hb x hx
      · omega
      · omega
    rw [e1]
    generalize hB : b ++ [C / 256, C % 256] = B at e2 hb2
    rw [← e2]
    simp (disch := omega) only [go_sem, ↓reduceIte, Nat.reduceEqDiff, Nat.reduceAdd, Nat.reduceMul, Nat.reduceSub, Nat.reduceBEq, Nat.reduceLeDiff, Int.reduceToNat, Int.reducePow, Int.reduceMul, Int.reduceAdd, Int.reduceSub, Int.reduceLE, Int.reduceLT, Int.reduceNeg, Int.reduceDiv, Int.reduceMod, Int.reduceEq, Int.reduceBEq, Int.reduceBNe, f3, f3r7]
    refine .of ((Of_spec B H.length 0 (g' + 1) B.length _ hb2 ⟨false, _, get_new0 _ _ _, by simp [bcells_length], fun i hi => by rw [Nat.zero_add]; exact bcells_bytes B i hi⟩ (by omega)).mono ?_)
    rintro v H1 ⟨rfl, rfl⟩
    have hS : foldZ (sumP B) = 65535 := by
      have h5 : ¬ (0 : Int) < (b.length : Int) % 2 := by simpa using h
      have hs0 := sumP_range b hb
      rw [← hB, sumP_app _ _ (by omega)]
      have e6 : sumP [C / 256, C % 256] = C := by simp [sumP]; omega
      rw [e6, ← hC]
      unfold foldZ
      (repeat' split) <;> omega
    rw [hS]
    simp (disch := omega) only [go_sem, ↓reduceIte, Nat.reduceEqDiff, Nat.reduceAdd, Nat.reduceMul, Nat.reduceSub, Nat.reduceBEq, Nat.reduceLeDiff, Int.reduceToNat, Int.reducePow, Int.reduceMul, Int.reduceAdd, Int.reduceSub, Int.reduceLE, Int.reduceLT, Int.reduceNeg, Int.reduceDiv, Int.reduceMod, Int.reduceEq, Int.reduceBEq, Int.reduceBNe, f3, f3r9]
    by_cases c1 : at' < 0
    · simp (disch := omega) only [go_sem, ↓reduceIte, Nat.reduceEqDiff, Nat.reduceAdd, Nat.reduceMul, Nat.reduceSub, Nat.reduceBEq, Nat.reduceLeDiff, Int.reduceToNat, Int.reducePow, Int.reduceMul, Int.reduceAdd, Int.reduceSub, Int.reduceLE, Int.reduceLT, Int.reduceNeg, Int.reduceDiv, Int.reduceMod, Int.reduceEq, Int.reduceBEq, Int.reduceBNe, f3, f3r10, c1]
      exact .back rfl ⟨rfl, rfl⟩
    by_cases c2 : (B.length : Int) ≤ at'
    · simp (disch := omega) only [go_sem, ↓reduceIte, Nat.reduceEqDiff, Nat.reduceAdd, Nat.reduceMul, Nat.reduceSub, Nat.reduceBEq, Nat.reduceLeDiff, Int.reduceToNat, Int.reducePow, Int.reduceMul, Int.reduceAdd, Int.reduceSub, Int.reduceLE, Int.reduceLT, Int.reduceNeg, Int.reduceDiv, Int.reduceMod, Int.reduceEq, Int.reduceBEq, Int.reduceBNe, f3, f3r9, f3r10, c1, c2]
      exact .back rfl ⟨rfl, rfl⟩
    by_cases c3 : turn = 0
    · simp (disch := omega) only [go_sem, ↓reduceIte, Nat.reduceEqDiff, Nat.reduceAdd, Nat.reduceMul, Nat.reduceSub, Nat.reduceBEq, Nat.reduceLeDiff, Int.reduceToNat, Int.reducePow, Int.reduceMul, Int.reduceAdd, Int.reduceSub, Int.reduceLE, Int.reduceLT, Int.reduceNeg, Int.reduceDiv, Int.reduceMod, Int.reduceEq, Int.reduceBEq, Int.reduceBNe, f3, f3r9, f3r10, c1, c2, c3]
      exact .back rfl ⟨rfl, rfl⟩
    have c4 : (turn == 0) = false := by simpa using c3
    obtain ⟨i, rfl⟩ := Int.eq_ofNat_of_zero_le (show 0 ≤ at' by omega)
    have hi : i < B.length := by omega
    have hBi := bcells_bytes B i hi
    simp (disch := omega) only [go_sem, ↓reduceIte, Nat.reduceEqDiff, Nat.reduceAdd, Nat.reduceMul, Nat.reduceSub, Nat.reduceBEq, Nat.reduceLeDiff, Int.reduceToNat, Int.reducePow, Int.reduceMul, Int.reduceAdd, Int.reduceSub, Int.reduceLE, Int.reduceLT, Int.reduceNeg, Int.reduceDiv, Int.reduceMod, Int.reduceEq, Int.reduceBEq, Int.reduceBNe, f3, f3r9, f3r10, f3r11, f3r12, c1, c2, c4, hBi, bcells_length]
    have hx := xor8 (B.getD i 0) turn (hb2.getD i) ht c3
    generalize hX : ixor .u8 (B.getD i 0) turn = X at hx
    have e3 : (bcells B).set i (.int .u8 X) = bcells (B.set i X) := by simp [bcells]
    have e4 : (B.set i X).length = B.length := by simp
    have hb3 : byteL (B.set i X) := fun x hx' => by
      rcases List.mem_or_eq_of_mem_set hx' with h | rfl
      · exact hb2 x h
      · exact hx.1
    have hS2 : foldZ (sumP (B.set i X)) ≠ 65535 := by
      rw [sumP_set B i X hi]
      have hs0 := sumP_range B hb2
      have hg := hb2.getD i
      have hd := hx.2
      have h6 := hS
      unfold foldZ at h6 ⊢
      (repeat' split at h6) <;> (repeat' split) <;> omega
    rw [e3]
    generalize hB3 : B.set i X = B3 at e4 hb3 hS2
    rw [← e4]
    refine .of ((Of_spec B3 H.length 0 (g' + 1) B3.length _ hb3 ⟨false, _, get_new0 _ _ _, by simp [bcells_length], fun i hi => by rw [Nat.zero_add]; exact bcells_bytes B3 i hi⟩ (by omega)).mono ?_)
    rintro v H1 ⟨rfl, rfl⟩
    have h7 : (foldZ (sumP B3) != 65535) = true := by simpa using hS2
    simp (disch := omega) only [go_sem, ↓reduceIte, Nat.reduceEqDiff, Nat.reduceAdd, Nat.reduceMul, Nat.reduceSub, Nat.reduceBEq, Nat.reduceLeDiff, Int.reduceToNat, Int.reducePow, Int.reduceMul, Int.reduceAdd, Int.reduceSub, Int.reduceLE, Int.reduceLT, Int.reduceNeg, Int.reduceDiv, Int.reduceMod, Int.reduceEq, Int.reduceBEq, Int.reduceBNe, f3, h7]
    exact .back rfl ⟨rfl, rfl⟩
end Go.Proofs.Ytmfcccgfifaojaa
