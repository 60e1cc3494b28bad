import Derived.Test.YtdcodafidefloaaPlain2
/- flows served by when they should begin, and end: each flow's packets go in their order -/
set_option linter.unusedVariables false
namespace Go.Proofs.Ytdcodafidefloaa

def qN (nd : Nd) : Nat → List Int := fun k => (nd.fl.getD k f0).q
theorem inN_q {ws : List Int} {Sm : Int} {nd : Nd} {k : Nat} {x : Int} (hk : k < nd.fl.length) (j : Nat) : qN (inN ws Sm nd k x) j = updQ (qN nd) k (qN nd k ++ [x]) j := by
  simp only [qN, inN, updQ]
  rw [getD_setF]
  by_cases e : j = k
  · subst e
    rw [if_pos ⟨rfl, hk⟩, if_pos rfl]
    split
    · rename_i h; show [x] = _; rw [h]; rfl
    · rfl
  · rw [if_neg (fun h => e h.1.symm), if_neg e]
theorem outN_q {ws : List Int} {Sm : Int} {nd : Nd} {k : Nat} (hk : k < nd.fl.length) (j : Nat) : qN (outN ws Sm nd k) j = updQ (qN nd) k (qN nd k).tail j := by
  simp only [qN, outN, updQ]
  rw [getD_setF]
  by_cases e : j = k
  · subst e
    rw [if_pos ⟨rfl, hk⟩, if_pos rfl]
    unfold tailF
    split
    · rename_i h; exact h.symm
    · rfl
  · rw [if_neg (fun h => e h.1.symm), if_neg e]
theorem pickK_neg {M : Int} {nd : Nd} (hok : OkN M nd) (h : pickK nd < 0) : ∀ k, k < nd.fl.length → qN nd k = [] := fun k hk => by
  refine Classical.byContradiction fun hq => ?_
  have h1 := leastN_le nd.fl nd.fl.length (fun k => (hok.f k).1.1) k hk hq
  unfold pickK at h
  rw [if_neg (by omega)] at h
  rcases bestN_cases nd.fl (pickT nd) nd.fl.length with ⟨_, h2⟩ | ⟨k', _, _, _, h4⟩
  · rcases leastN_cases nd.fl nd.fl.length with ⟨h3, _⟩ | ⟨k', h3, h4, h5⟩
    · omega
    · rcases h2 k' h3 with h6 | h6
      · exact h4 h6
      · unfold pickT at h6; rw [if_neg (by omega)] at h6; omega
  · omega
theorem pickK_pos {nd : Nd} (h : ¬ pickK nd < 0) : ∃ k : Nat, k < nd.fl.length ∧ pickK nd = k ∧ qN nd k ≠ [] := by
  unfold pickK at h ⊢
  split at h
  · omega
  · rename_i hL
    rw [if_neg hL]
    rcases bestN_cases nd.fl (pickT nd) nd.fl.length with ⟨h1, _⟩ | ⟨k, h1, h2, _, h4⟩
    · omega
    · exact ⟨k, h1, h4, h2⟩
theorem run_disc {ws : List Int} {Sm : Int} (hw : okW ws Sm) (l : List Op) : ∀ n : Nat, n ≤ l.length → ∃ w, Disc ws.length (l.take n) (runR ws Sm (l.take n)).errs (runR ws Sm (l.take n)).sent (qN (runR ws Sm (l.take n)).nd) w
  | 0, _ => ⟨0, (Disc.start).cong fun k => by
      simp only [List.take_zero, runR, List.foldl_nil, startR, qN, List.getD_eq_getElem?_getD, List.getElem?_replicate]
      split <;> rfl⟩
  | n + 1, hn => by
    obtain ⟨w, ih⟩ := run_disc hw l n (by omega)
    have e : l.take (n + 1) = l.take n ++ [l.getD n o0] := by
      rw [List.take_add_one, List.getD_eq_getElem?_getD, List.getElem?_eq_getElem (by omega)]; rfl
    have hok := run_okN hw l n
    have hl := (run_lens ws Sm (l.take n)).2.2
    rw [e, runR_snoc]
    generalize l.getD n o0 = o at *
    generalize l.take n = ops at *
    generalize runR ws Sm ops = r at *
    unfold stepR
    split
    · rename_i h2
      split
      · rename_i hk
        have := pickK_neg hok hk
        exact ⟨w, Disc.bad o 3 ih (by decide) (fun _ k hk => this k (by omega))⟩
      · rename_i hk
        obtain ⟨k, h3, h4, h5⟩ := pickK_pos hk
        rw [h4, Int.toNat_natCast]
        cases hq : qN r.nd k with
        | nil => exact (h5 hq).elim
        | cons x t =>
          have hx : headQ (r.nd.fl.getD k f0).q = x := by have : (r.nd.fl.getD k f0).q = x :: t := hq; rw [this]; rfl
          rw [hx]
          exact ⟨w - 1, (Disc.leave o k x t ih h2 (by omega) hq).cong fun j => by simp only; rw [outN_q h3, hq]; rfl⟩
    · rename_i h2
      split
      · exact ⟨w, Disc.bad o 5 ih (by decide) (fun h => (h2 h).elim)⟩
      · split
        · exact ⟨w, Disc.bad o 3 ih (by decide) (fun h => (h2 h).elim)⟩
        · split
          · exact ⟨w, Disc.bad o 2 ih (by decide) (fun h => (h2 h).elim)⟩
          · exact ⟨w + 1, (Disc.enter o o.f.toNat ih (by omega) (by omega) (by omega)).cong fun j => by simp only; rw [inN_q (by omega)]⟩
theorem run_kept {ws : List Int} {Sm : Int} (hw : okW ws Sm) (l : List Op) : ∃ w, Kept ws.length l (runR ws Sm l).errs (runR ws Sm l).sent (qN (runR ws Sm l).nd) w := by
  obtain ⟨w, h⟩ := run_disc hw l l.length (Nat.le_refl _)
  rw [List.take_length] at h
  exact ⟨w, h.kept⟩
end Go.Proofs.Ytdcodafidefloaa
