import Derived.Test.YtdcodafidefloaaPlain4
/- a flow that waits has its part: how far ahead it is -/
set_option linter.unusedVariables false
namespace Go.Proofs.Ytdcodafidefloaa

structure Ah (ws : List Int) (S : Int) (who : Nat) (nd : Nd) (ahead best : Int) : Prop where
  bt : (nd.fl.getD who f0).q ≠ [] → (nd.fl.getD who f0).b ≤ nd.t + 1500 * (27720 / ws.getD who 0) * S
  ut : (nd.fl.getD who f0).q = [] → (nd.fl.getD who f0).u ≤ nd.t + 1500 * (27720 / ws.getD who 0) * S
  hi : (nd.fl.getD who f0).q ≠ [] → (27720 / ws.getD who 0) * best ≤ (27720 / ws.getD who 0) * ahead - (nd.fl.getD who f0).b + nd.t + 1500 * (27720 / ws.getD who 0) * S
theorem Ah.inn {ws : List Int} {S M : Int} {nd : Nd} {who k : Nat} {x ahead best : Int} (hw : okW ws S) (hl : nd.fl.length = ws.length) (hok : OkN M nd) (h : Ah ws S who nd ahead best) (hwho : who < ws.length) (hk : k < ws.length) :
    Ah ws S who (inN ws S nd k x) ahead (if k = who ∧ (nd.fl.getD who f0).q = [] then ahead else best) := by
  have hg := inN_getD (ws := ws) (S := S) (nd := nd) (x := x) (k := k) (by omega) who
  have ht : (inN ws S nd k x).t = nd.t := rfl
  have hB := (tag_bound hw.2.2 (hw.2.1 who hwho) (x := 1500) (by omega)).2.2.1
  obtain ⟨h1, h2, h3⟩ := h
  by_cases e : k = who
  · subst e
    rw [if_pos rfl] at hg
    by_cases hq : (nd.fl.getD k f0).q = []
    · rw [if_pos hq] at hg
      rw [if_pos ⟨rfl, hq⟩]
      have h2 := h2 hq
      refine ⟨fun _ => ?_, fun h => ?_, fun _ => ?_⟩
      · rw [hg, ht]; simp only [headF]; omega
      · rw [hg] at h; cases h
      · rw [hg, ht]; simp only [headF]; omega
    · rw [if_neg hq] at hg
      rw [if_neg (fun h => hq h.2)]
      refine ⟨fun _ => ?_, fun h => ?_, fun _ => ?_⟩
      · rw [hg, ht]; exact h1 hq
      · rw [hg] at h; simp at h
      · rw [hg, ht]; exact h3 hq
  · rw [if_neg e] at hg
    rw [if_neg (fun h => e h.1)]
    refine ⟨fun h => ?_, fun h => ?_, fun h => ?_⟩
    · rw [hg] at h ⊢; exact h1 h
    · rw [hg] at h ⊢; exact h2 h
    · rw [hg] at h ⊢; exact h3 h
theorem mul_max_le {c a b y : Int} (h1 : c * a ≤ y) (h2 : c * b ≤ y) : c * max a b ≤ y := by
  rcases Int.le_total a b with h | h
  · rw [Int.max_eq_right h]; exact h2
  · rw [Int.max_eq_left h]; exact h1
theorem Ah.out {ws : List Int} {S M : Int} {nd : Nd} {who k : Nat} {ahead best : Int} (hw : okW ws S) (hl : nd.fl.length = ws.length) (hok : OkN M nd) (hsh : Sh ws S nd) (h : Ah ws S who nd ahead best) (hwho : who < ws.length) (hk : k < ws.length) (hp : Pk nd ws.length k) :
    Ah ws S who (outN ws S nd k) (ahead - headQ (nd.fl.getD k f0).q * ws.getD who 0 + (if k = who then headQ (nd.fl.getD k f0).q * S else 0)) (max best (ahead - headQ (nd.fl.getD k f0).q * ws.getD who 0 + (if k = who then headQ (nd.fl.getD k f0).q * S else 0))) := by
  have hg := outN_getD (ws := ws) (S := S) (nd := nd) (k := k) (by omega) who
  have ht : (outN ws S nd k).t = pickT nd + headQ (nd.fl.getD k f0).q * 27720 := rfl
  have hx := headQ_bound (hok.f k).2.2
  have hkq := hsh.tag k hk hp.q
  have hpt := hp.t
  have hpb := hp.b
  obtain ⟨h1, h2, h3⟩ := h
  have hcw := w_div (hw.2.1 who hwho)
  have hc1 := tag_bound hw.2.2 (hw.2.1 who hwho) (x := headQ (nd.fl.getD k f0).q) (by omega)
  have hB := (tag_bound hw.2.2 (hw.2.1 who hwho) (x := 1500) (by omega)).2.2.1
  have hBx := Int.mul_le_mul_of_nonneg_right (Int.mul_le_mul_of_nonneg_right hx.2 hc1.1.1) hw.2.2.1
  generalize headQ (nd.fl.getD k f0).q = x at *
  have hcx : (27720 / ws.getD who 0) * (x * ws.getD who 0) = x * 27720 := by rw [Int.mul_left_comm, Int.mul_comm (27720 / _), hcw]
  by_cases e : k = who
  · subst e
    rw [if_pos rfl] at hg
    rw [if_pos rfl]
    have hca : (27720 / ws.getD k 0) * (ahead - x * ws.getD k 0 + x * S) = (27720 / ws.getD k 0) * ahead - x * 27720 + x * (27720 / ws.getD k 0) * S := by
      rw [Int.mul_add, Int.mul_sub, hcx, Int.mul_assoc x, Int.mul_left_comm x]
    generalize ahead - x * ws.getD k 0 + x * S = a' at *
    have h3 := h3 hp.q
    have hft : (tailF ws S k (nd.fl.getD k f0)).q = (nd.fl.getD k f0).q.tail := by
      unfold tailF; split
      · rename_i e; rw [e]
      · rfl
    refine ⟨fun h => ?_, fun h => ?_, fun h => ?_⟩
    · rw [hg, hft] at h
      rw [ht, hg]; unfold tailF; rw [if_neg h]; simp only [headF]; omega
    · rw [hg, hft] at h
      rw [ht, hg]; unfold tailF; rw [if_pos h]; simp only; omega
    · rw [hg, hft] at h
      rw [ht, hg]; unfold tailF; rw [if_neg h]; simp only [headF]
      exact mul_max_le (by omega) (by omega)
  · rw [if_neg e] at hg
    rw [if_neg e, Int.add_zero]
    have hca : (27720 / ws.getD who 0) * (ahead - x * ws.getD who 0) = (27720 / ws.getD who 0) * ahead - x * 27720 := by
      rw [Int.mul_sub, hcx]
    generalize ahead - x * ws.getD who 0 = a' at *
    refine ⟨fun h => ?_, fun h => ?_, fun h => ?_⟩
    · rw [hg] at h
      have := h1 h
      rw [ht, hg]; omega
    · rw [hg] at h
      have := h2 h
      rw [ht, hg]; omega
    · rw [hg] at h
      have := h3 h
      have := h1 h
      rw [ht, hg]
      exact mul_max_le (by omega) (by omega)
theorem Ah.fin {ws : List Int} {S M : Int} {nd : Nd} {who : Nat} {ahead best : Int} (hw : okW ws S) (hS : ws.sum = S) (hok : OkN M nd) (hsh : Sh ws S nd) (h : Ah ws S who nd ahead best) (hwho : who < ws.length) (hq : (nd.fl.getD who f0).q ≠ []) : best - ahead ≤ 4500 * S := by
  have h1 := h.hi hq
  have h2 := hsh.late hw hS hok hwho hq
  have h3 := (hsh.bu hw hok who hwho hq).2
  have hwk := hw.2.1 who hwho
  have hcw := w_div hwk
  have hc : 0 < 27720 / ws.getD who 0 := by
    refine Classical.byContradiction fun hn => ?_
    have := Int.mul_nonpos_of_nonneg_of_nonpos (a := ws.getD who 0) (b := 27720 / ws.getD who 0) (by omega) (by omega)
    omega
  have hwS : ws.getD who 0 ≤ S := by
    have := sumN_one (f := fun k => ws.getD k 0) hwho (fun j hj => by have := hw.2.1 j hj; show 0 ≤ ws.getD j 0; omega)
    rwa [sumN_ws, hS] at this
  have hL : 41580000 ≤ 1500 * (27720 / ws.getD who 0) * S := by
    have := Int.mul_le_mul_of_nonneg_left hwS (show 0 ≤ 1500 * (27720 / ws.getD who 0) by omega)
    rw [Int.mul_assoc 1500, Int.mul_comm _ (ws.getD who 0), hcw] at this
    omega
  have e3 : 3 * (1500 * (27720 / ws.getD who 0) * S) = (27720 / ws.getD who 0) * (4500 * S) := by
    rw [show (4500 : Int) = 3 * 1500 by rfl]
    generalize 27720 / ws.getD who 0 = c
    rw [Int.mul_assoc 3 1500 S, Int.mul_left_comm c, Int.mul_comm 1500 c, Int.mul_assoc]
  refine Int.le_of_mul_le_mul_left (a := 27720 / ws.getD who 0) ?_ hc
  rw [Int.mul_sub, ← e3]
  omega
theorem pickT_none {M : Int} {nd : Nd} (hok : OkN M nd) (h : pickK nd < 0) : pickT nd = nd.t := by
  have hn := pickK_neg hok h
  unfold pickT
  split
  · rfl
  · rename_i hL
    rcases leastN_cases nd.fl nd.fl.length with ⟨h1, _⟩ | ⟨k, h1, h2, _⟩
    · omega
    · exact (h2 (hn k h1)).elim
theorem step_cases {ws : List Int} {S M : Int} {r : Rn} (o : Op) (hw : okW ws S) (hl : r.nd.fl.length = ws.length) (hok : OkN M r.nd) :
    (∃ e, e ≠ 0 ∧ stepR ws S r o = ⟨r.errs ++ [e], r.sent, r.nd⟩) ∨ (o.k = 1 ∧ ∃ k : Nat, k < ws.length ∧ o.f = k ∧ 1 ≤ o.b ∧ o.b ≤ 1500 ∧ stepR ws S r o = ⟨r.errs ++ [0], r.sent, inN ws S r.nd k o.b⟩) ∨
    (o.k = 2 ∧ ∃ k : Nat, k < ws.length ∧ Pk r.nd ws.length k ∧ stepR ws S r o = ⟨r.errs ++ [0], r.sent ++ [⟨k, headQ (r.nd.fl.getD k f0).q⟩], outN ws S r.nd k⟩) := by
  unfold stepR
  split
  · rename_i h2
    split
    · rename_i hk
      refine .inl ⟨3, by decide, ?_⟩
      rw [pickT_none hok hk]
    · rename_i hk
      obtain ⟨k, h3, h4, h5⟩ := pickK_pos hk
      refine .inr (.inr ⟨h2, k, by omega, hl ▸ pk_of hok h4, ?_⟩)
      rw [h4, Int.toNat_natCast]
  · split
    · exact .inl ⟨5, by decide, rfl⟩
    · split
      · exact .inl ⟨3, by decide, rfl⟩
      · split
        · exact .inl ⟨2, by decide, rfl⟩
        · exact .inr (.inl ⟨by omega, o.f.toNat, by omega, by omega, by omega, by omega, rfl⟩)
theorem run_snoc_at (ws : List Int) (S : Int) (l : List Op) (i : Nat) (h : i < l.length) : runR ws S (l.take (i + 1)) = stepR ws S (runR ws S (l.take i)) (l.getD i o0) := by
  have e : l.take (i + 1) = l.take i ++ [l.getD i o0] := by
    rw [List.take_add_one, List.getD_eq_getElem?_getD, List.getElem?_eq_getElem (by omega)]; rfl
  rw [e, runR_snoc]
theorem run_sh {ws : List Int} {S : Int} (hw : okW ws S) (hS : ws.sum = S) (l : List Op) : ∀ n, n ≤ l.length → Sh ws S (runR ws S (l.take n)).nd
  | 0, _ => by
    have hf : ∀ k, ((runR ws S (l.take 0)).nd.fl.getD k f0).q = [] := fun k => by
      simp only [List.take_zero, runR, List.foldl_nil, startR, List.getD_eq_getElem?_getD, List.getElem?_replicate]
      split <;> rfl
    exact ⟨fun k _ h => (h (hf k)).elim, fun D k _ h => (h (hf k)).elim⟩
  | n + 1, hn => by
    have ih := run_sh hw hS l n (by omega)
    have hok := run_okN hw l n
    have hl := (run_lens ws S (l.take n)).2.2
    rw [run_snoc_at ws S l n (by omega)]
    rcases step_cases (l.getD n o0) hw hl hok with ⟨e, _, h⟩ | ⟨_, k, hk, _, h1, h2, h⟩ | ⟨_, k, hk, hp, h⟩
    · rw [h]; exact ih
    · rw [h]; exact ih.inn hw hS hl hok hk ⟨h1, h2⟩
    · rw [h]; exact ih.out hw hS hl hok hk hp
theorem step_pre (ws : List Int) (S : Int) (r : Rn) (o : Op) : ∃ e s, (stepR ws S r o).errs = r.errs ++ e ∧ (stepR ws S r o).sent = r.sent ++ s := by
  unfold stepR
  split
  · split
    · exact ⟨_, [], rfl, by simp⟩
    · exact ⟨_, _, rfl, rfl⟩
  · split
    · exact ⟨_, [], rfl, by simp⟩
    · split
      · exact ⟨_, [], rfl, by simp⟩
      · split
        · exact ⟨_, [], rfl, by simp⟩
        · exact ⟨_, [], rfl, by simp⟩
theorem run_pre (ws : List Int) (S : Int) (l : List Op) (i : Nat) : ∀ j, i + j ≤ l.length → ∃ e s, (runR ws S (l.take (i + j))).errs = (runR ws S (l.take i)).errs ++ e ∧ (runR ws S (l.take (i + j))).sent = (runR ws S (l.take i)).sent ++ s
  | 0, _ => ⟨[], [], by simp, by simp⟩
  | j + 1, h => by
    obtain ⟨e, s, h1, h2⟩ := run_pre ws S l i j (by omega)
    obtain ⟨e', s', h3, h4⟩ := step_pre ws S (runR ws S (l.take (i + j))) (l.getD (i + j) o0)
    rw [← Nat.add_assoc, run_snoc_at ws S l (i + j) (by omega), h3, h4, h1, h2]
    exact ⟨e ++ e', s ++ s', by simp, by simp⟩
/-- What the law meets in its i-th round. -/
theorem run_at {ws : List Int} {S : Int} (hw : okW ws S) (l : List Op) (i : Nat) (hi : i < l.length) :
    (∃ e, e ≠ 0 ∧ (runR ws S l).errs.getD i 0 = e ∧ (runR ws S (l.take (i + 1))).nd = (runR ws S (l.take i)).nd ∧ (runR ws S (l.take (i + 1))).sent = (runR ws S (l.take i)).sent) ∨
    (∃ k : Nat, (l.getD i o0).k = 1 ∧ k < ws.length ∧ (l.getD i o0).f = k ∧ 1 ≤ (l.getD i o0).b ∧ (l.getD i o0).b ≤ 1500 ∧ (runR ws S l).errs.getD i 0 = 0 ∧ (runR ws S (l.take (i + 1))).nd = inN ws S (runR ws S (l.take i)).nd k (l.getD i o0).b ∧ (runR ws S (l.take (i + 1))).sent = (runR ws S (l.take i)).sent) ∨
    (∃ k : Nat, (l.getD i o0).k = 2 ∧ k < ws.length ∧ Pk (runR ws S (l.take i)).nd ws.length k ∧ (runR ws S l).errs.getD i 0 = 0 ∧ (runR ws S (l.take (i + 1))).nd = outN ws S (runR ws S (l.take i)).nd k ∧ (runR ws S (l.take (i + 1))).sent = (runR ws S (l.take i)).sent ++ [⟨k, headQ ((runR ws S (l.take i)).nd.fl.getD k f0).q⟩] ∧
      (runR ws S (l.take i)).sent.length < (runR ws S l).sent.length ∧ (runR ws S l).sent.getD (runR ws S (l.take i)).sent.length s0 = ⟨k, headQ ((runR ws S (l.take i)).nd.fl.getD k f0).q⟩) := by
  have hok := run_okN hw l i
  have hl := run_lens ws S (l.take i)
  have hli : (runR ws S (l.take i)).errs.length = i := by rw [hl.1, List.length_take]; omega
  obtain ⟨e1, s1, hp1, hp2⟩ := run_pre ws S l (i + 1) (l.length - (i + 1)) (by omega)
  rw [show i + 1 + (l.length - (i + 1)) = l.length by omega, List.take_length] at hp1 hp2
  rw [hp1, hp2]
  have hs := run_snoc_at ws S l i hi
  rw [hs]
  have hge : ∀ e, ((runR ws S (l.take i)).errs ++ [e] ++ e1).getD i 0 = e := fun e => by
    rw [List.getD_eq_getElem?_getD, List.getElem?_append_left (by simp; omega), List.getElem?_append_right (by omega), hli]; simp
  have hgs : ∀ s, ((runR ws S (l.take i)).sent ++ [s] ++ s1).getD (runR ws S (l.take i)).sent.length s0 = s := fun s => by
    rw [List.getD_eq_getElem?_getD, List.getElem?_append_left (by simp), List.getElem?_append_right (by omega), Nat.sub_self]; rfl
  rcases step_cases (l.getD i o0) hw hl.2.2 hok with ⟨e, he, h⟩ | ⟨ho, k, hk, hf, h1, h2, h⟩ | ⟨ho, k, hk, hp, h⟩
  · rw [h]; exact .inl ⟨e, he, hge e, rfl, rfl⟩
  · rw [h]; exact .inr (.inl ⟨k, ho, hk, hf, h1, h2, hge 0, rfl, rfl⟩)
  · rw [h]; exact .inr (.inr ⟨k, ho, hk, hp, hge 0, rfl, rfl, by simp, hgs _⟩)
end Go.Proofs.Ytdcodafidefloaa
