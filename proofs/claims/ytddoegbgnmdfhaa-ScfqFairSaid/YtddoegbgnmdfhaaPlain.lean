import Derived.Test.YtddoegbgnmdfhaaDisc
/- flows served by the tags of what is sent: what the code reckons -/
set_option linter.unusedVariables false
namespace Go.Proofs.Ytddoegbgnmdfhaa

/-- A flow: its packets, their tags, and the last tag. -/
structure Fq where
  b : List Int
  t : List Int
  l : Int
  deriving DecidableEq
def f0 : Fq := ⟨[], [], 0⟩
structure Nd where
  fl : List Fq
  t : Int
def headQ : List Int → Int
  | [] => 0
  | x :: _ => x
def tagN (w t x : Int) (f : Fq) : Int := max f.l t + x * (27720 / w)
def inF (w t x : Int) (f : Fq) : Fq := ⟨f.b ++ [x], f.t ++ [tagN w t x f], tagN w t x f⟩
def inN (ws : List Int) (nd : Nd) (k : Nat) (x : Int) : Nd := ⟨nd.fl.set k (inF (ws.getD k 0) nd.t x (nd.fl.getD k f0)), nd.t⟩
/-- Of the first i flows the one that goes next. -/
def bestN (fl : List Fq) : Nat → Int
  | 0 => -1
  | i + 1 => if (fl.getD i f0).t ≠ [] ∧ (bestN fl i < 0 ∨ headQ (fl.getD i f0).t < headQ (fl.getD (bestN fl i).toNat f0).t) then (i : Int) else bestN fl i
def pickK (nd : Nd) : Int := bestN nd.fl nd.fl.length
def outF (f : Fq) : Fq := ⟨f.b.tail, f.t.tail, f.l⟩
def outN (nd : Nd) (k : Nat) : Nd := ⟨nd.fl.set k (outF (nd.fl.getD k f0)), headQ (nd.fl.getD k f0).t⟩
theorem bestN_yes {fl : List Fq} {i : Nat} (h : (fl.getD i f0).t ≠ [] ∧ (bestN fl i < 0 ∨ headQ (fl.getD i f0).t < headQ (fl.getD (bestN fl i).toNat f0).t)) : bestN fl (i + 1) = i := if_pos h
theorem bestN_no {fl : List Fq} {i : Nat} (h : ¬ ((fl.getD i f0).t ≠ [] ∧ (bestN fl i < 0 ∨ headQ (fl.getD i f0).t < headQ (fl.getD (bestN fl i).toNat f0).t))) : bestN fl (i + 1) = bestN fl i := if_neg h
theorem bestN_cases (fl : List Fq) : ∀ i, (bestN fl i = -1 ∧ ∀ k, k < i → (fl.getD k f0).t = []) ∨ ∃ k : Nat, k < i ∧ (fl.getD k f0).t ≠ [] ∧ bestN fl i = k ∧ ∀ j, j < i → (fl.getD j f0).t ≠ [] → headQ (fl.getD k f0).t ≤ headQ (fl.getD j f0).t
  | 0 => .inl ⟨rfl, fun k hk => by omega⟩
  | i + 1 => by
    have ih := bestN_cases fl i
    by_cases h : (fl.getD i f0).t ≠ [] ∧ (bestN fl i < 0 ∨ headQ (fl.getD i f0).t < headQ (fl.getD (bestN fl i).toNat f0).t)
    · rw [bestN_yes h]
      refine .inr ⟨i, by omega, h.1, rfl, fun j hj hq => ?_⟩
      by_cases e : j = i
      · rw [e]; exact Int.le_refl _
      · rcases ih with ⟨h1, h2⟩ | ⟨k, h1, h2, h3, h4⟩
        · exact (hq (h2 j (by omega))).elim
        · have := h4 j (by omega) hq
          have h5 := h.2
          rw [h3, Int.toNat_natCast] at h5
          omega
    · rw [bestN_no h]
      rcases ih with ⟨h1, h2⟩ | ⟨k, h1, h2, h3, h4⟩
      · refine .inl ⟨h1, fun k hk => ?_⟩
        by_cases e : k = i
        · subst e
          refine Classical.byContradiction fun hn => h ⟨hn, .inl (by omega)⟩
        · exact h2 k (by omega)
      · refine .inr ⟨k, by omega, h2, h3, fun j hj hq => ?_⟩
        by_cases e : j = i
        · subst e
          have h5 : ¬ (bestN fl j < 0 ∨ headQ (fl.getD j f0).t < headQ (fl.getD (bestN fl j).toNat f0).t) := fun hh => h ⟨hq, hh⟩
          rw [h3, Int.toNat_natCast] at h5
          omega
        · exact h4 j (by omega) hq
/-- What is in bounds. -/
structure OkN (M : Int) (nd : Nd) : Prop where
  t : 0 ≤ nd.t ∧ nd.t ≤ M
  f : ∀ k, (0 ≤ (nd.fl.getD k f0).l ∧ (nd.fl.getD k f0).l ≤ M) ∧ (∀ x ∈ (nd.fl.getD k f0).t, 0 ≤ x ∧ x ≤ M) ∧ (∀ x ∈ (nd.fl.getD k f0).b, 1 ≤ x ∧ x ≤ 1500) ∧ (nd.fl.getD k f0).b.length = (nd.fl.getD k f0).t.length
def okW (ws : List Int) : Prop := ws.length ≤ 16 ∧ ∀ k, k < ws.length → 1 ≤ ws.getD k 0 ∧ ws.getD k 0 ≤ 12
theorem tag_bound {w x : Int} (hw : 1 ≤ w ∧ w ≤ 12) (hx : 0 ≤ x ∧ x ≤ 1500) : (0 ≤ 27720 / w ∧ 27720 / w ≤ 27720) ∧ 0 ≤ x * (27720 / w) ∧ x * (27720 / w) ≤ 41580000 := by
  have h1 := Int.ediv_nonneg (a := 27720) (b := w) (by omega) (by omega)
  have h2 := Int.ediv_le_self (a := 27720) w (by omega)
  have h3 := Int.mul_nonneg hx.1 h1
  have h4 := Int.mul_le_mul hx.2 h2 h1 (by omega)
  omega
theorem getD_setF (l : List Fq) (i k : Nat) (x : Fq) : (l.set i x).getD k f0 = if i = k ∧ i < l.length then x else l.getD k f0 := by
  simp only [List.getD_eq_getElem?_getD]
  by_cases e : i = k
  · subst e
    by_cases h : i < l.length
    · rw [if_pos ⟨rfl, h⟩, List.getElem?_set_self h]; rfl
    · rw [if_neg (fun hh => h hh.2), List.set_eq_of_length_le (by omega)]
  · rw [if_neg (fun hh => e hh.1), List.getElem?_set_ne e]
theorem headQ_mem {l : List Int} (h : l ≠ []) : headQ l ∈ l := by
  cases l with
  | nil => exact (h rfl).elim
  | cons x r => simp [headQ]
theorem headQ_bound {l : List Int} (h : ∀ x ∈ l, 1 ≤ x ∧ x ≤ 1500) : 0 ≤ headQ l ∧ headQ l ≤ 1500 := by
  cases l with
  | nil => simp [headQ]
  | cons x r => have := h x (by simp); simp only [headQ]; omega
theorem headQ_boundM {l : List Int} {M : Int} (hM : 0 ≤ M) (h : ∀ x ∈ l, 0 ≤ x ∧ x ≤ M) : 0 ≤ headQ l ∧ headQ l ≤ M := by
  cases l with
  | nil => simp [headQ, hM]
  | cons x r => have := h x (by simp); simp only [headQ]; omega
theorem OkN.mono {M M' : Int} {nd : Nd} (h : OkN M nd) (hM : M ≤ M') : OkN M' nd :=
  ⟨by have := h.t; omega, fun k => by
    have := h.f k
    exact ⟨by omega, fun x hx => by have := this.2.1 x hx; omega, this.2.2⟩⟩
theorem in_ok {ws : List Int} {M : Int} {nd : Nd} {k : Nat} {x : Int} (hw : okW ws) (h : OkN M nd) (hk : k < ws.length) (hx : 1 ≤ x ∧ x ≤ 1500) : OkN (M + 50000000) (inN ws nd k x) := by
  have hf := h.f k
  have ht := h.t
  have hb := tag_bound (x := x) (hw.2 k hk) (by omega)
  refine ⟨by simp only [inN]; omega, fun j => ?_⟩
  simp only [inN]
  rw [getD_setF]
  split
  · simp only [inF]
    have ht : 0 ≤ tagN (ws.getD k 0) nd.t x (nd.fl.getD k f0) ∧ tagN (ws.getD k 0) nd.t x (nd.fl.getD k f0) ≤ M + 50000000 := by unfold tagN; omega
    refine ⟨ht, fun y hy => ?_, fun y hy => ?_, by have := hf.2.2.2; simp only [List.length_append, List.length_singleton]; omega⟩
    · rcases List.mem_append.1 hy with hy | hy
      · have := hf.2.1 y hy; omega
      · rw [List.mem_singleton.1 hy]; exact ht
    · rcases List.mem_append.1 hy with hy | hy
      · exact hf.2.2.1 y hy
      · rw [List.mem_singleton.1 hy]; exact hx
  · exact (h.mono (by omega)).f j
theorem out_ok {M : Int} {nd : Nd} {k : Nat} (h : OkN M nd) : OkN M (outN nd k) := by
  have hf := h.f k
  have ht := h.t
  refine ⟨headQ_boundM (by omega) hf.2.1, fun j => ?_⟩
  simp only [outN]
  rw [getD_setF]
  split
  · simp only [outF]
    exact ⟨hf.1, fun y hy => hf.2.1 y (List.mem_of_mem_tail hy), fun y hy => hf.2.2.1 y (List.mem_of_mem_tail hy), by have := hf.2.2.2; simp only [List.length_tail]; omega⟩
  · exact h.f j
structure Rn where
  errs : List Int
  sent : List S
  nd : Nd
def stepR (ws : List Int) (r : Rn) (o : Op) : Rn :=
  if o.k = 1 then
    if o.f < 0 ∨ (ws.length : Int) ≤ o.f then ⟨r.errs ++ [3], r.sent, r.nd⟩
    else if o.b < 1 ∨ 1500 < o.b then ⟨r.errs ++ [2], r.sent, r.nd⟩
    else ⟨r.errs ++ [0], r.sent, inN ws r.nd o.f.toNat o.b⟩
  else if o.k = 2 then
    if pickK r.nd < 0 then ⟨r.errs ++ [3], r.sent, r.nd⟩
    else ⟨r.errs ++ [0], r.sent ++ [⟨pickK r.nd, headQ (r.nd.fl.getD (pickK r.nd).toNat f0).b⟩], outN r.nd (pickK r.nd).toNat⟩
  else ⟨r.errs ++ [5], r.sent, r.nd⟩
def startR (ws : List Int) : Rn := ⟨[], [], ⟨List.replicate ws.length f0, 0⟩⟩
def runR (ws : List Int) (ops : List Op) : Rn := ops.foldl (stepR ws) (startR ws)
theorem start_f0 (ws : List Int) (k : Nat) : (startR ws).nd.fl.getD k f0 = f0 := by
  simp only [startR, List.getD_eq_getElem?_getD, List.getElem?_replicate]
  split <;> rfl
theorem runR_snoc (ws : List Int) (l : List Op) (o : Op) : runR ws (l ++ [o]) = stepR ws (runR ws l) o := by simp [runR, List.foldl_append]
theorem run_snoc_at (ws : List Int) (l : List Op) (i : Nat) (h : i < l.length) : runR ws (l.take (i + 1)) = stepR ws (runR ws (l.take i)) (l.getD i o0) := by
  have e : l.take (i + 1) = l.take i ++ [l.getD i o0] := by
    rw [List.take_add_one, List.getD_eq_getElem?_getD, List.getElem?_eq_getElem (by omega)]; rfl
  rw [e, runR_snoc]
structure Pk (nd : Nd) (n k : Nat) : Prop where
  q : (nd.fl.getD k f0).t ≠ []
  m : ∀ j, j < n → (nd.fl.getD j f0).t ≠ [] → headQ (nd.fl.getD k f0).t ≤ headQ (nd.fl.getD j f0).t
/-- What a step does. -/
theorem step_cases {ws : List Int} {r : Rn} (o : Op) (hl : r.nd.fl.length = ws.length) :
    (∃ e, e ≠ 0 ∧ stepR ws r o = ⟨r.errs ++ [e], r.sent, r.nd⟩ ∧ (o.k = 2 → ∀ k, k < ws.length → (r.nd.fl.getD k f0).t = [])) ∨ (o.k = 1 ∧ ∃ k : Nat, k < ws.length ∧ o.f = k ∧ 1 ≤ o.b ∧ o.b ≤ 1500 ∧ stepR ws r o = ⟨r.errs ++ [0], r.sent, inN ws r.nd k o.b⟩) ∨
    (o.k = 2 ∧ ∃ k : Nat, k < ws.length ∧ pickK r.nd = k ∧ Pk r.nd ws.length k ∧ stepR ws r o = ⟨r.errs ++ [0], r.sent ++ [⟨k, headQ (r.nd.fl.getD k f0).b⟩], outN r.nd k⟩) := by
  unfold stepR
  by_cases h1 : o.k = 1
  · rw [if_pos h1]
    by_cases h2 : o.f < 0 ∨ (ws.length : Int) ≤ o.f
    · rw [if_pos h2]; exact .inl ⟨3, by decide, rfl, fun h => by omega⟩
    · rw [if_neg h2]
      by_cases h3 : o.b < 1 ∨ 1500 < o.b
      · rw [if_pos h3]; exact .inl ⟨2, by decide, rfl, fun h => by omega⟩
      · rw [if_neg h3]; exact .inr (.inl ⟨h1, o.f.toNat, by omega, by omega, by omega, by omega, rfl⟩)
  · rw [if_neg h1]
    by_cases h2 : o.k = 2
    · rw [if_pos h2]
      rcases bestN_cases r.nd.fl r.nd.fl.length with ⟨h3, h4⟩ | ⟨k, h3, h4, h5, h6⟩
      · have hk : pickK r.nd = -1 := h3
        rw [hk, if_pos (by decide)]
        exact .inl ⟨3, by decide, rfl, fun _ k hk => h4 k (by omega)⟩
      · have hk : pickK r.nd = k := h5
        rw [hk, if_neg (by omega), Int.toNat_natCast]
        exact .inr (.inr ⟨h2, k, by omega, rfl, ⟨h4, fun j hj => h6 j (by omega)⟩, rfl⟩)
    · rw [if_neg h2]; exact .inl ⟨5, by decide, rfl, fun h => (h2 h).elim⟩
theorem step_len {ws : List Int} {r : Rn} (o : Op) (hl : r.nd.fl.length = ws.length) : (stepR ws r o).errs.length = r.errs.length + 1 ∧ (stepR ws r o).sent.length ≤ r.sent.length + 1 ∧ (stepR ws r o).nd.fl.length = ws.length := by
  rcases step_cases o hl with ⟨e, _, h, _⟩ | ⟨_, k, _, _, _, _, h⟩ | ⟨_, k, _, _, _, h⟩
  · rw [h]; simpa using hl
  · rw [h]; simpa [inN] using hl
  · rw [h]; simpa [outN] using hl
theorem run_lens (ws : List Int) (l : List Op) : (runR ws l).errs.length = l.length ∧ (runR ws l).sent.length ≤ l.length ∧ (runR ws l).nd.fl.length = ws.length := by
  have : ∀ n, n ≤ l.length → (runR ws (l.take n)).errs.length = n ∧ (runR ws (l.take n)).sent.length ≤ n ∧ (runR ws (l.take n)).nd.fl.length = ws.length := fun n => by
    induction n with
    | zero => intro _; simp [runR, startR]
    | succ n ih =>
      intro hn
      obtain ⟨h1, h2, h3⟩ := ih (by omega)
      rw [run_snoc_at ws l n (by omega)]
      have := step_len (ws := ws) (l.getD n o0) h3
      omega
  have := this l.length (Nat.le_refl _)
  rwa [List.take_length] at this
theorem run_okN {ws : List Int} (hw : okW ws) (l : List Op) : ∀ n : Nat, n ≤ l.length → OkN (50000000 * (n : Int)) (runR ws (l.take n)).nd
  | 0, _ => by
    refine ⟨by simp [runR, startR], fun k => ?_⟩
    simp only [List.take_zero, runR, List.foldl_nil]
    rw [start_f0]; simp [f0]
  | n + 1, hn => by
    have ih := run_okN hw l n (by omega)
    rw [run_snoc_at ws l n (by omega)]
    rcases step_cases (ws := ws) (l.getD n o0) (run_lens ws (l.take n)).2.2 with ⟨e, _, h, _⟩ | ⟨_, k, hk, _, h1, h2, h⟩ | ⟨_, k, hk, _, _, h⟩
    · rw [h]; exact ih.mono (by omega)
    · rw [h]; have := in_ok hw ih hk ⟨h1, h2⟩; exact this.mono (by omega)
    · rw [h]; exact (out_ok ih).mono (by omega)
theorem run_qlen (ws : List Int) (l : List Op) : ∀ (n : Nat), n ≤ l.length → ∀ k, ((runR ws (l.take n)).nd.fl.getD k f0).b.length ≤ n ∧ ((runR ws (l.take n)).nd.fl.getD k f0).t.length ≤ n
  | 0, _, k => by
    simp only [List.take_zero, runR, List.foldl_nil]
    rw [start_f0]; simp [f0]
  | n + 1, hn, k => by
    have ih := run_qlen ws l n (by omega)
    rw [run_snoc_at ws l n (by omega)]
    rcases step_cases (ws := ws) (l.getD n o0) (run_lens ws (l.take n)).2.2 with ⟨e, _, h, _⟩ | ⟨_, k', hk, _, h1, h2, h⟩ | ⟨_, k', hk, _, _, h⟩
    · rw [h]; have := ih k; simp only; omega
    · rw [h]; simp only [inN]; rw [getD_setF]
      split
      · have := ih k'; simp only [inF, List.length_append, List.length_singleton]; omega
      · have := ih k; omega
    · rw [h]; simp only [outN]; rw [getD_setF]
      split
      · have := ih k'; simp only [outF, List.length_tail]; omega
      · have := ih k; omega
def qN (nd : Nd) : Nat → List Int := fun k => (nd.fl.getD k f0).b
theorem run_disc {ws : List Int} (hw : okW ws) (l : List Op) : ∀ n : Nat, n ≤ l.length → ∃ w, Disc ws.length (l.take n) (runR ws (l.take n)).errs (runR ws (l.take n)).sent (qN (runR ws (l.take n)).nd) w
  | 0, _ => ⟨0, (Disc.start).cong fun k => by
      simp only [List.take_zero, runR, List.foldl_nil, qN, start_f0]; rfl⟩
  | n + 1, hn => by
    obtain ⟨w, ih⟩ := run_disc hw l n (by omega)
    have e : l.take (n + 1) = l.take n ++ [l.getD n o0] := by
      rw [List.take_add_one, List.getD_eq_getElem?_getD, List.getElem?_eq_getElem (by omega)]; rfl
    have hok := run_okN hw l n (by omega)
    have hl := (run_lens ws (l.take n)).2.2
    rw [e, runR_snoc]
    generalize l.getD n o0 = o at *
    generalize l.take n = ops at *
    generalize runR ws ops = r at *
    have hbt : ∀ k, (r.nd.fl.getD k f0).t = [] ↔ qN r.nd k = [] := fun k => by
      have := (hok.f k).2.2.2
      unfold qN
      constructor
      · intro h; rw [h] at this; exact List.eq_nil_of_length_eq_zero this
      · intro h; rw [h] at this; exact List.eq_nil_of_length_eq_zero this.symm
    rcases step_cases (ws := ws) o hl with ⟨e, he, h, hn⟩ | ⟨h1, k, hk, hf, _, _, h⟩ | ⟨h2, k, hk, _, hp, h⟩
    · rw [h]; exact ⟨w, Disc.bad o e ih he (fun h2 k hk => (hbt k).1 (hn h2 k hk))⟩
    · rw [h]
      refine ⟨w + 1, (Disc.enter o k ih h1 hk hf).cong fun j => ?_⟩
      simp only [qN, inN, updQ]
      rw [getD_setF]
      by_cases e : j = k
      · rw [if_pos e, if_pos ⟨e.symm, by omega⟩]; rfl
      · rw [if_neg e, if_neg (fun h => e h.1.symm)]
    · rw [h]
      cases hq : qN r.nd k with
      | nil => exact (hp.q ((hbt k).2 hq)).elim
      | cons x t =>
        have hx : headQ (r.nd.fl.getD k f0).b = x := by have : (r.nd.fl.getD k f0).b = x :: t := hq; rw [this]; rfl
        rw [hx]
        refine ⟨w - 1, (Disc.leave o k x t ih h2 hk hq).cong fun j => ?_⟩
        simp only [qN, outN, updQ]
        rw [getD_setF]
        by_cases e : j = k
        · rw [if_pos e, if_pos ⟨e.symm, by omega⟩]
          show t = (r.nd.fl.getD k f0).b.tail
          have : (r.nd.fl.getD k f0).b = x :: t := hq
          rw [this]; rfl
        · rw [if_neg e, if_neg (fun h => e h.1.symm)]
theorem run_kept {ws : List Int} (hw : okW ws) (l : List Op) : ∃ w, Kept ws.length l (runR ws l).errs (runR ws l).sent (qN (runR ws l).nd) w := by
  obtain ⟨w, h⟩ := run_disc hw l l.length (Nat.le_refl _)
  rw [List.take_length] at h
  exact ⟨w, h.kept⟩
end Go.Proofs.Ytddoegbgnmdfhaa
