import Derived.Test.YtdcodafidefloaaPlain
import Derived.Test.YtdcodafidefloaaDisc
/- flows served by when they should begin, and end: one thing behind the other -/
set_option linter.unusedVariables false
namespace Go.Proofs.Ytdcodafidefloaa

structure Rn where
  errs : List Int
  sent : List S
  nd : Nd
def stepR (ws : List Int) (Sm : Int) (r : Rn) (o : Op) : Rn :=
  if o.k = 2 then
    if pickK r.nd < 0 then ⟨r.errs ++ [3], r.sent, ⟨r.nd.fl, pickT r.nd⟩⟩
    else ⟨r.errs ++ [0], r.sent ++ [⟨pickK r.nd, headQ (r.nd.fl.getD (pickK r.nd).toNat f0).q⟩], outN ws Sm r.nd (pickK r.nd).toNat⟩
  else if o.k ≠ 1 then ⟨r.errs ++ [5], r.sent, r.nd⟩
  else if o.f < 0 ∨ (ws.length : Int) ≤ o.f then ⟨r.errs ++ [3], r.sent, r.nd⟩
  else if o.b < 1 ∨ 1500 < o.b then ⟨r.errs ++ [2], r.sent, r.nd⟩
  else ⟨r.errs ++ [0], r.sent, inN ws Sm r.nd o.f.toNat o.b⟩
def startR (ws : List Int) : Rn := ⟨[], [], ⟨List.replicate ws.length f0, 0⟩⟩
def runR (ws : List Int) (Sm : Int) (ops : List Op) : Rn := ops.foldl (stepR ws Sm) (startR ws)
theorem runR_snoc (ws : List Int) (Sm : Int) (l : List Op) (o : Op) : runR ws Sm (l ++ [o]) = stepR ws Sm (runR ws Sm l) o := by simp [runR, List.foldl_append]
theorem step_lens {ws : List Int} {Sm : Int} {r : Rn} {o : Op} (h : r.nd.fl.length = ws.length) : (stepR ws Sm r o).errs.length = r.errs.length + 1 ∧ (stepR ws Sm r o).sent.length ≤ r.sent.length + 1 ∧ (stepR ws Sm r o).nd.fl.length = ws.length := by
  unfold stepR
  split
  · split
    · simpa using h
    · simp [outN, h]
  · split
    · simpa using h
    · split
      · simpa using h
      · split
        · simpa using h
        · simp [inN, h]
theorem run_lens (ws : List Int) (Sm : Int) (l : List Op) : (runR ws Sm l).errs.length = l.length ∧ (runR ws Sm l).sent.length ≤ l.length ∧ (runR ws Sm l).nd.fl.length = ws.length := by
  have : ∀ n, n ≤ l.length → (runR ws Sm (l.take n)).errs.length = n ∧ (runR ws Sm (l.take n)).sent.length ≤ n ∧ (runR ws Sm (l.take n)).nd.fl.length = ws.length := fun n => by
    induction n with
    | zero => intro _; simp [runR, startR]
    | succ n ih =>
      intro hn
      obtain ⟨h1, h2, h3⟩ := ih (by omega)
      have e : l.take (n + 1) = l.take n ++ [l.getD n o0] := by
        rw [List.take_add_one, List.getD_eq_getElem?_getD, List.getElem?_eq_getElem (by omega)]; rfl
      rw [e, runR_snoc]
      have := step_lens (ws := ws) (Sm := Sm) (o := l.getD n o0) h3
      omega
  have := this l.length (Nat.le_refl _)
  rwa [List.take_length] at this
theorem step_ok {ws : List Int} {Sm M : Int} {r : Rn} {o : Op} (hw : okW ws Sm) (hl : r.nd.fl.length = ws.length) (h : OkN M r.nd) (hM : 0 ≤ M) : OkN (M + 8000000000) (stepR ws Sm r o).nd := by
  have hmono : OkN (M + 8000000000) r.nd := ⟨by have := h.t; omega, fun k => by have := h.f k; exact ⟨by omega, by omega, this.2.2⟩⟩
  unfold stepR
  split
  · split
    · refine ⟨?_, hmono.f⟩
      have := pickT_bound h
      simp only; omega
    · rename_i hk
      refine out_ok hw h ?_
      unfold pickK at hk ⊢
      split at hk
      · omega
      · rename_i hL
        rw [if_neg hL]
        rcases bestN_cases r.nd.fl (pickT r.nd) r.nd.fl.length with ⟨h1, _⟩ | ⟨k, h1, _, _, h4⟩
        · omega
        · omega
  · split
    · exact hmono
    · split
      · exact hmono
      · split
        · exact hmono
        · exact in_ok hw h (by omega) (by omega)
theorem run_okN {ws : List Int} {Sm : Int} (hw : okW ws Sm) (l : List Op) : ∀ n : Nat, OkN (8000000000 * (n : Int)) (runR ws Sm (l.take n)).nd
  | 0 => by
    refine ⟨by simp [runR, startR], fun k => ?_⟩
    have : (startR ws).nd.fl.getD k f0 = f0 := by
      simp only [startR, List.getD_eq_getElem?_getD, List.getElem?_replicate]
      split <;> rfl
    simp only [List.take_zero, runR, List.foldl_nil]
    rw [this]; simp [f0]
  | n + 1 => by
    have ih := run_okN hw l n
    by_cases hn : n < l.length
    · have e : l.take (n + 1) = l.take n ++ [l.getD n o0] := by
        rw [List.take_add_one, List.getD_eq_getElem?_getD, List.getElem?_eq_getElem hn]; rfl
      rw [e, runR_snoc]
      have := step_ok (o := l.getD n o0) hw (run_lens ws Sm _).2.2 ih (by omega)
      rwa [show 8000000000 * (n : Int) + 8000000000 = 8000000000 * ((n + 1 : Nat) : Int) by omega] at this
    · rw [List.take_of_length_le (by omega)]
      rw [List.take_of_length_le (by omega)] at ih
      exact ⟨by have := ih.t; omega, fun k => by have := ih.f k; exact ⟨by omega, by omega, this.2.2⟩⟩
theorem step_qlen {ws : List Int} {Sm : Int} {r : Rn} {o : Op} {b : Nat} (h : ∀ k, (r.nd.fl.getD k f0).q.length ≤ b) : ∀ k, ((stepR ws Sm r o).nd.fl.getD k f0).q.length ≤ b + 1 := fun k => by
  have h0 := h k
  unfold stepR
  split
  · split
    · simp only; omega
    · simp only [outN]
      rw [getD_setF]
      split
      · have h1 := h (pickK r.nd).toNat
        unfold tailF headF
        split
        · simp
        · simp only [List.length_tail]; omega
      · omega
  · split
    · simp only; omega
    · split
      · simp only; omega
      · split
        · simp only; omega
        · simp only [inN]
          rw [getD_setF]
          split
          · have h1 := h o.f.toNat
            split
            · simp [headF]
            · simp only [List.length_append, List.length_singleton]; omega
          · omega
theorem run_qlen (ws : List Int) (Sm : Int) (l : List Op) : ∀ (n k : Nat), ((runR ws Sm (l.take n)).nd.fl.getD k f0).q.length ≤ n
  | 0, k => by
    have : (startR ws).nd.fl.getD k f0 = f0 := by
      simp only [startR, List.getD_eq_getElem?_getD, List.getElem?_replicate]
      split <;> rfl
    simp only [List.take_zero, runR, List.foldl_nil]
    rw [this]; simp [f0]
  | n + 1, k => by
    by_cases hn : n < l.length
    · have e : l.take (n + 1) = l.take n ++ [l.getD n o0] := by
        rw [List.take_add_one, List.getD_eq_getElem?_getD, List.getElem?_eq_getElem hn]; rfl
      rw [e, runR_snoc]
      exact step_qlen (run_qlen ws Sm l n) k
    · have := run_qlen ws Sm l n k
      rw [List.take_of_length_le (by omega)] at this ⊢
      omega
end Go.Proofs.Ytdcodafidefloaa
