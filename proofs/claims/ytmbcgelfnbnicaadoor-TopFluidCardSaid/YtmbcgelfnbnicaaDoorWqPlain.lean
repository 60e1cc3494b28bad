import Derived.Test.YtmbcgelfnbnicaaDoorBase
import Derived.Test.YtmbcgelfnbnicaaDoorLib
import Derived.Test.YtmbcgelfnbnicaaDoorDisc
set_option linter.unusedVariables false
namespace Go.Proofs.YtmbcgelfnbnicaaDoor.Wq
/- flows served by when they should begin, and end: what the code reckons -/

/-- A flow: its packets, and when the first one should begin, and end. -/
structure Fq where
  q : List Int
  b : Int
  u : Int
  deriving DecidableEq
def f0 : Fq := ⟨[], 0, 0⟩
structure Nd where
  fl : List Fq
  t : Int
def headQ : List Int → Int
  | [] => 0
  | x :: _ => x
def headF (S w fr : Int) (f : Fq) : Fq := ⟨f.q, fr, fr + headQ f.q * (27720 / w) * S⟩
def inN (ws : List Int) (S : Int) (nd : Nd) (k : Nat) (x : Int) : Nd :=
  ⟨nd.fl.set k (if (nd.fl.getD k f0).q = [] then headF S (ws.getD k 0) (max (nd.fl.getD k f0).u nd.t) ⟨[x], (nd.fl.getD k f0).b, (nd.fl.getD k f0).u⟩ else ⟨(nd.fl.getD k f0).q ++ [x], (nd.fl.getD k f0).b, (nd.fl.getD k f0).u⟩), nd.t⟩
/-- The least begin of the first i flows that have packets; below 0: none has. -/
def leastN (fl : List Fq) : Nat → Int
  | 0 => -1
  | i + 1 => if (fl.getD i f0).q ≠ [] ∧ (leastN fl i < 0 ∨ (fl.getD i f0).b < leastN fl i) then (fl.getD i f0).b else leastN fl i
/-- Of the first i flows the one that goes next at a time. -/
def bestN (fl : List Fq) (t : Int) : Nat → Int
  | 0 => -1
  | i + 1 => if ((fl.getD i f0).q ≠ [] ∧ (fl.getD i f0).b ≤ t) ∧ (bestN fl t i < 0 ∨ (fl.getD i f0).u < (fl.getD (bestN fl t i).toNat f0).u) then (i : Int) else bestN fl t i
def pickT (nd : Nd) : Int := if leastN nd.fl nd.fl.length < 0 then nd.t else max nd.t (leastN nd.fl nd.fl.length)
def pickK (nd : Nd) : Int := if leastN nd.fl nd.fl.length < 0 then -1 else bestN nd.fl (pickT nd) nd.fl.length
def tailF (ws : List Int) (S : Int) (k : Nat) (f : Fq) : Fq := if f.q.tail = [] then ⟨[], f.b, f.u⟩ else headF S (ws.getD k 0) f.u ⟨f.q.tail, f.b, f.u⟩
def outN (ws : List Int) (S : Int) (nd : Nd) (k : Nat) : Nd := ⟨nd.fl.set k (tailF ws S k (nd.fl.getD k f0)), pickT nd + headQ (nd.fl.getD k f0).q * 27720⟩
theorem leastN_cases (fl : List Fq) : ∀ i, (leastN fl i = -1 ∧ ∀ k, k < i → (fl.getD k f0).q = [] ∨ (fl.getD k f0).b < 0) ∨ ∃ k, k < i ∧ (fl.getD k f0).q ≠ [] ∧ leastN fl i = (fl.getD k f0).b
  | 0 => .inl ⟨rfl, fun k hk => by omega⟩
  | i + 1 => by
    unfold leastN
    split
    · rename_i h; exact .inr ⟨i, by omega, h.1, rfl⟩
    · rename_i h
      rcases leastN_cases fl i with ⟨h1, h2⟩ | ⟨k, h1, h2, h3⟩
      · refine .inl ⟨h1, fun k hk => ?_⟩
        by_cases e : k = i
        · subst e
          refine Classical.byContradiction fun hn => h ⟨fun hq => hn (.inl hq), .inl (by omega)⟩
        · exact h2 k (by omega)
      · exact .inr ⟨k, by omega, h2, h3⟩
theorem leastN_le (fl : List Fq) : ∀ i, (∀ k, 0 ≤ (fl.getD k f0).b) → ∀ k, k < i → (fl.getD k f0).q ≠ [] → 0 ≤ leastN fl i ∧ leastN fl i ≤ (fl.getD k f0).b
  | 0, _, k, hk, _ => by omega
  | i + 1, h0, k, hk, hq => by
    unfold leastN
    have hb := h0 i
    by_cases e : k = i
    · subst e
      split
      · omega
      · rename_i hn
        have : ¬ (leastN fl k < 0 ∨ (fl.getD k f0).b < leastN fl k) := fun h => hn ⟨hq, h⟩
        omega
    · have := leastN_le fl i h0 k (by omega) hq
      split <;> omega
theorem bestN_cases (fl : List Fq) (t : Int) : ∀ i, (bestN fl t i = -1 ∧ ∀ k, k < i → (fl.getD k f0).q = [] ∨ t < (fl.getD k f0).b) ∨ ∃ k : Nat, k < i ∧ (fl.getD k f0).q ≠ [] ∧ (fl.getD k f0).b ≤ t ∧ bestN fl t i = k
  | 0 => .inl ⟨rfl, fun k hk => by omega⟩
  | i + 1 => by
    unfold bestN
    split
    · rename_i h; exact .inr ⟨i, by omega, h.1.1, h.1.2, rfl⟩
    · rename_i h
      rcases bestN_cases fl t i with ⟨h1, h2⟩ | ⟨k, h1, h2, h3, h4⟩
      · refine .inl ⟨h1, fun k hk => ?_⟩
        by_cases e : k = i
        · subst e
          refine Classical.byContradiction fun hn => h ⟨⟨fun hq => hn (.inl hq), by omega⟩, .inl (by omega)⟩
        · exact h2 k (by omega)
      · exact .inr ⟨k, by omega, h2, h3, h4⟩
/-- What is in bounds. -/
structure OkN (M : Int) (nd : Nd) : Prop where
  t : 0 ≤ nd.t ∧ nd.t ≤ M
  f : ∀ k, (0 ≤ (nd.fl.getD k f0).b ∧ (nd.fl.getD k f0).b ≤ M) ∧ (0 ≤ (nd.fl.getD k f0).u ∧ (nd.fl.getD k f0).u ≤ M) ∧ ∀ x ∈ (nd.fl.getD k f0).q, 1 ≤ x ∧ x ≤ 1500
def okW (ws : List Int) (S : Int) : Prop := ws.length ≤ 16 ∧ (∀ k, k < ws.length → 1 ≤ ws.getD k 0 ∧ ws.getD k 0 ≤ 12) ∧ 0 ≤ S ∧ S ≤ 192
theorem tag_bound {S w x : Int} (hS : 0 ≤ S ∧ S ≤ 192) (hw : 1 ≤ w ∧ w ≤ 12) (hx : 0 ≤ x ∧ x ≤ 1500) : (0 ≤ 27720 / w ∧ 27720 / w ≤ 27720) ∧ (0 ≤ x * (27720 / w) ∧ x * (27720 / w) ≤ 41580000) ∧ 0 ≤ x * (27720 / w) * S ∧ x * (27720 / w) * S ≤ 7983360000 := by
  have h1 := Int.ediv_nonneg (a := 27720) (b := w) (by omega) (by omega)
  have h2 := Int.ediv_le_self (a := 27720) w (by omega)
  have h3 := Int.mul_nonneg hx.1 h1
  have h4 := Int.mul_le_mul hx.2 h2 h1 (by omega)
  have h5 := Int.mul_nonneg h3 hS.1
  have h6 := Int.mul_le_mul (show x * (27720 / w) ≤ 41580000 by omega) hS.2 hS.1 (by omega)
  omega
theorem getD_setF (l : List Fq) (i k : Nat) (x : Fq) : (l.set i x).getD k f0 = if i = k ∧ i < l.length then x else l.getD k f0 := by
  simp only [List.getD_eq_getElem?_getD]
  by_cases e : i = k
  · subst e
    by_cases h : i < l.length
    · rw [if_pos ⟨rfl, h⟩, List.getElem?_set_self h]; rfl
    · rw [if_neg (fun hh => h hh.2), List.set_eq_of_length_le (by omega)]
  · rw [if_neg (fun hh => e hh.1), List.getElem?_set_ne e]
theorem headQ_mem {l : List Int} (h : l ≠ []) : headQ l ∈ l := by
  cases l with
  | nil => exact (h rfl).elim
  | cons x r => simp [headQ]
theorem headQ_bound {l : List Int} (h : ∀ x ∈ l, 1 ≤ x ∧ x ≤ 1500) : 0 ≤ headQ l ∧ headQ l ≤ 1500 := by
  cases l with
  | nil => simp [headQ]
  | cons x r => have := h x (by simp); simp only [headQ]; omega
theorem in_ok {ws : List Int} {S M : Int} {nd : Nd} {k : Nat} {x : Int} (hw : okW ws S) (h : OkN M nd) (hk : k < ws.length) (hx : 1 ≤ x ∧ x ≤ 1500) : OkN (M + 8000000000) (inN ws S nd k x) := by
  have hf := h.f k
  have ht := h.t
  have hwk := hw.2.1 k hk
  refine ⟨by simp only [inN]; omega, fun j => ?_⟩
  simp only [inN]
  rw [getD_setF]
  split
  · split
    · have := tag_bound (x := x) hw.2.2 hwk (by omega)
      simp only [headF, headQ]
      refine ⟨by omega, by omega, fun y hy => ?_⟩
      rw [List.mem_singleton.1 hy]; exact hx
    · refine ⟨by simp only; omega, by simp only; omega, fun y hy => ?_⟩
      rcases List.mem_append.1 hy with hy | hy
      · exact hf.2.2 y hy
      · rw [List.mem_singleton.1 hy]; exact hx
  · have := h.f j
    exact ⟨by omega, by omega, this.2.2⟩
theorem pickT_bound {M : Int} {nd : Nd} (h : OkN M nd) : nd.t ≤ pickT nd ∧ 0 ≤ pickT nd ∧ pickT nd ≤ M := by
  have ht := h.t
  unfold pickT
  split
  · omega
  · rcases leastN_cases nd.fl nd.fl.length with ⟨h1, _⟩ | ⟨k, _, _, h3⟩
    · omega
    · have := h.f k
      omega
theorem out_ok {ws : List Int} {S M : Int} {nd : Nd} {k : Nat} (hw : okW ws S) (h : OkN M nd) (hk : k < ws.length) : OkN (M + 8000000000) (outN ws S nd k) := by
  have hf := h.f k
  have ht := pickT_bound h
  have hwk := hw.2.1 k hk
  have hq := headQ_bound hf.2.2
  refine ⟨by simp only [outN]; omega, fun j => ?_⟩
  simp only [outN]
  rw [getD_setF]
  have htl : ∀ y ∈ (nd.fl.getD k f0).q.tail, 1 ≤ y ∧ y ≤ 1500 := fun y hy => hf.2.2 y (List.mem_of_mem_tail hy)
  split
  · unfold tailF
    split
    · exact ⟨by simp only; omega, by simp only; omega, fun y hy => by cases hy⟩
    · have := tag_bound hw.2.2 hwk (headQ_bound htl)
      simp only [headF]
      exact ⟨by omega, by omega, htl⟩
  · have := h.f j
    exact ⟨by omega, by omega, this.2.2⟩

/- flows served by when they should begin, and end: one thing behind the other -/

structure Rn where
  errs : List Int
  sent : List S
  nd : Nd
def stepR (ws : List Int) (Sm : Int) (r : Rn) (o : Op) : Rn :=
  if o.k = 2 then
    if pickK r.nd < 0 then ⟨r.errs ++ [3], r.sent, ⟨r.nd.fl, pickT r.nd⟩⟩
    else ⟨r.errs ++ [0], r.sent ++ [⟨pickK r.nd, headQ (r.nd.fl.getD (pickK r.nd).toNat f0).q⟩], outN ws Sm r.nd (pickK r.nd).toNat⟩
  else if o.k ≠ 1 then ⟨r.errs ++ [5], r.sent, r.nd⟩
  else if o.f < 0 ∨ (ws.length : Int) ≤ o.f then ⟨r.errs ++ [3], r.sent, r.nd⟩
  else if o.b < 1 ∨ 1500 < o.b then ⟨r.errs ++ [2], r.sent, r.nd⟩
  else ⟨r.errs ++ [0], r.sent, inN ws Sm r.nd o.f.toNat o.b⟩
def startR (ws : List Int) : Rn := ⟨[], [], ⟨List.replicate ws.length f0, 0⟩⟩
def runR (ws : List Int) (Sm : Int) (ops : List Op) : Rn := ops.foldl (stepR ws Sm) (startR ws)
theorem runR_snoc (ws : List Int) (Sm : Int) (l : List Op) (o : Op) : runR ws Sm (l ++ [o]) = stepR ws Sm (runR ws Sm l) o := by simp [runR, List.foldl_append]
theorem step_lens {ws : List Int} {Sm : Int} {r : Rn} {o : Op} (h : r.nd.fl.length = ws.length) : (stepR ws Sm r o).errs.length = r.errs.length + 1 ∧ (stepR ws Sm r o).sent.length ≤ r.sent.length + 1 ∧ (stepR ws Sm r o).nd.fl.length = ws.length := by
  unfold stepR
  split
  · split
    · simpa using h
    · simp [outN, h]
  · split
    · simpa using h
    · split
      · simpa using h
      · split
        · simpa using h
        · simp [inN, h]
theorem run_lens (ws : List Int) (Sm : Int) (l : List Op) : (runR ws Sm l).errs.length = l.length ∧ (runR ws Sm l).sent.length ≤ l.length ∧ (runR ws Sm l).nd.fl.length = ws.length := by
  have : ∀ n, n ≤ l.length → (runR ws Sm (l.take n)).errs.length = n ∧ (runR ws Sm (l.take n)).sent.length ≤ n ∧ (runR ws Sm (l.take n)).nd.fl.length = ws.length := fun n => by
    induction n with
    | zero => intro _; simp [runR, startR]
    | succ n ih =>
      intro hn
      obtain ⟨h1, h2, h3⟩ := ih (by omega)
      have e : l.take (n + 1) = l.take n ++ [l.getD n o0] := by
        rw [List.take_add_one, List.getD_eq_getElem?_getD, List.getElem?_eq_getElem (by omega)]; rfl
      rw [e, runR_snoc]
      have := step_lens (ws := ws) (Sm := Sm) (o := l.getD n o0) h3
      omega
  have := this l.length (Nat.le_refl _)
  rwa [List.take_length] at this
theorem step_ok {ws : List Int} {Sm M : Int} {r : Rn} {o : Op} (hw : okW ws Sm) (hl : r.nd.fl.length = ws.length) (h : OkN M r.nd) (hM : 0 ≤ M) : OkN (M + 8000000000) (stepR ws Sm r o).nd := by
  have hmono : OkN (M + 8000000000) r.nd := ⟨by have := h.t; omega, fun k => by have := h.f k; exact ⟨by omega, by omega, this.2.2⟩⟩
  unfold stepR
  split
  · split
    · refine ⟨?_, hmono.f⟩
      have := pickT_bound h
      simp only; omega
    · rename_i hk
      refine out_ok hw h ?_
      unfold pickK at hk ⊢
      split at hk
      · omega
      · rename_i hL
        rw [if_neg hL]
        rcases bestN_cases r.nd.fl (pickT r.nd) r.nd.fl.length with ⟨h1, _⟩ | ⟨k, h1, _, _, h4⟩
        · omega
        · omega
  · split
    · exact hmono
    · split
      · exact hmono
      · split
        · exact hmono
        · exact in_ok hw h (by omega) (by omega)
theorem run_okN {ws : List Int} {Sm : Int} (hw : okW ws Sm) (l : List Op) : ∀ n : Nat, OkN (8000000000 * (n : Int)) (runR ws Sm (l.take n)).nd
  | 0 => by
    refine ⟨by simp [runR, startR], fun k => ?_⟩
    have : (startR ws).nd.fl.getD k f0 = f0 := by
      simp only [startR, List.getD_eq_getElem?_getD, List.getElem?_replicate]
      split <;> rfl
    simp only [List.take_zero, runR, List.foldl_nil]
    rw [this]; simp [f0]
  | n + 1 => by
    have ih := run_okN hw l n
    by_cases hn : n < l.length
    · have e : l.take (n + 1) = l.take n ++ [l.getD n o0] := by
        rw [List.take_add_one, List.getD_eq_getElem?_getD, List.getElem?_eq_getElem hn]; rfl
      rw [e, runR_snoc]
      have := step_ok (o := l.getD n o0) hw (run_lens ws Sm _).2.2 ih (by omega)
      rwa [show 8000000000 * (n : Int) + 8000000000 = 8000000000 * ((n + 1 : Nat) : Int) by omega] at this
    · rw [List.take_of_length_le (by omega)]
      rw [List.take_of_length_le (by omega)] at ih
      exact ⟨by have := ih.t; omega, fun k => by have := ih.f k; exact ⟨by omega, by omega, this.2.2⟩⟩
theorem step_qlen {ws : List Int} {Sm : Int} {r : Rn} {o : Op} {b : Nat} (h : ∀ k, (r.nd.fl.getD k f0).q.length ≤ b) : ∀ k, ((stepR ws Sm r o).nd.fl.getD k f0).q.length ≤ b + 1 := fun k => by
  have h0 := h k
  unfold stepR
  split
  · split
    · simp only; omega
    · simp only [outN]
      rw [getD_setF]
      split
      · have h1 := h (pickK r.nd).toNat
        unfold tailF headF
        split
        · simp
        · simp only [List.length_tail]; omega
      · omega
  · split
    · simp only; omega
    · split
      · simp only; omega
      · split
        · simp only; omega
        · simp only [inN]
          rw [getD_setF]
          split
          · have h1 := h o.f.toNat
            split
            · simp [headF]
            · simp only [List.length_append, List.length_singleton]; omega
          · omega
theorem run_qlen (ws : List Int) (Sm : Int) (l : List Op) : ∀ (n k : Nat), ((runR ws Sm (l.take n)).nd.fl.getD k f0).q.length ≤ n
  | 0, k => by
    have : (startR ws).nd.fl.getD k f0 = f0 := by
      simp only [startR, List.getD_eq_getElem?_getD, List.getElem?_replicate]
      split <;> rfl
    simp only [List.take_zero, runR, List.foldl_nil]
    rw [this]; simp [f0]
  | n + 1, k => by
    by_cases hn : n < l.length
    · have e : l.take (n + 1) = l.take n ++ [l.getD n o0] := by
        rw [List.take_add_one, List.getD_eq_getElem?_getD, List.getElem?_eq_getElem hn]; rfl
      rw [e, runR_snoc]
      exact step_qlen (run_qlen ws Sm l n) k
    · have := run_qlen ws Sm l n k
      rw [List.take_of_length_le (by omega)] at this ⊢
      omega

/- flows served by when they should begin, and end: each flow's packets go in their order -/

def qN (nd : Nd) : Nat → List Int := fun k => (nd.fl.getD k f0).q
theorem inN_q {ws : List Int} {Sm : Int} {nd : Nd} {k : Nat} {x : Int} (hk : k < nd.fl.length) (j : Nat) : qN (inN ws Sm nd k x) j = updQ (qN nd) k (qN nd k ++ [x]) j := by
  simp only [qN, inN, updQ]
  rw [getD_setF]
  by_cases e : j = k
  · subst e
    rw [if_pos ⟨rfl, hk⟩, if_pos rfl]
    split
    · rename_i h; show [x] = _; rw [h]; rfl
    · rfl
  · rw [if_neg (fun h => e h.1.symm), if_neg e]
theorem outN_q {ws : List Int} {Sm : Int} {nd : Nd} {k : Nat} (hk : k < nd.fl.length) (j : Nat) : qN (outN ws Sm nd k) j = updQ (qN nd) k (qN nd k).tail j := by
  simp only [qN, outN, updQ]
  rw [getD_setF]
  by_cases e : j = k
  · subst e
    rw [if_pos ⟨rfl, hk⟩, if_pos rfl]
    unfold tailF
    split
    · rename_i h; exact h.symm
    · rfl
  · rw [if_neg (fun h => e h.1.symm), if_neg e]
theorem pickK_neg {M : Int} {nd : Nd} (hok : OkN M nd) (h : pickK nd < 0) : ∀ k, k < nd.fl.length → qN nd k = [] := fun k hk => by
  refine Classical.byContradiction fun hq => ?_
  have h1 := leastN_le nd.fl nd.fl.length (fun k => (hok.f k).1.1) k hk hq
  unfold pickK at h
  rw [if_neg (by omega)] at h
  rcases bestN_cases nd.fl (pickT nd) nd.fl.length with ⟨_, h2⟩ | ⟨k', _, _, _, h4⟩
  · rcases leastN_cases nd.fl nd.fl.length with ⟨h3, _⟩ | ⟨k', h3, h4, h5⟩
    · omega
    · rcases h2 k' h3 with h6 | h6
      · exact h4 h6
      · unfold pickT at h6; rw [if_neg (by omega)] at h6; omega
  · omega
theorem pickK_pos {nd : Nd} (h : ¬ pickK nd < 0) : ∃ k : Nat, k < nd.fl.length ∧ pickK nd = k ∧ qN nd k ≠ [] := by
  unfold pickK at h ⊢
  split at h
  · omega
  · rename_i hL
    rw [if_neg hL]
    rcases bestN_cases nd.fl (pickT nd) nd.fl.length with ⟨h1, _⟩ | ⟨k, h1, h2, _, h4⟩
    · omega
    · exact ⟨k, h1, h4, h2⟩
theorem run_disc {ws : List Int} {Sm : Int} (hw : okW ws Sm) (l : List Op) : ∀ n : Nat, n ≤ l.length → ∃ w, Disc ws.length (l.take n) (runR ws Sm (l.take n)).errs (runR ws Sm (l.take n)).sent (qN (runR ws Sm (l.take n)).nd) w
  | 0, _ => ⟨0, (Disc.start).cong fun k => by
      simp only [List.take_zero, runR, List.foldl_nil, startR, qN, List.getD_eq_getElem?_getD, List.getElem?_replicate]
      split <;> rfl⟩
  | n + 1, hn => by
    obtain ⟨w, ih⟩ := run_disc hw l n (by omega)
    have e : l.take (n + 1) = l.take n ++ [l.getD n o0] := by
      rw [List.take_add_one, List.getD_eq_getElem?_getD, List.getElem?_eq_getElem (by omega)]; rfl
    have hok := run_okN hw l n
    have hl := (run_lens ws Sm (l.take n)).2.2
    rw [e, runR_snoc]
    generalize l.getD n o0 = o at *
    generalize l.take n = ops at *
    generalize runR ws Sm ops = r at *
    unfold stepR
    split
    · rename_i h2
      split
      · rename_i hk
        have := pickK_neg hok hk
        exact ⟨w, Disc.bad o 3 ih (by decide) (fun _ k hk => this k (by omega))⟩
      · rename_i hk
        obtain ⟨k, h3, h4, h5⟩ := pickK_pos hk
        rw [h4, Int.toNat_natCast]
        cases hq : qN r.nd k with
        | nil => exact (h5 hq).elim
        | cons x t =>
          have hx : headQ (r.nd.fl.getD k f0).q = x := by have : (r.nd.fl.getD k f0).q = x :: t := hq; rw [this]; rfl
          rw [hx]
          exact ⟨w - 1, (Disc.leave o k x t ih h2 (by omega) hq).cong fun j => by simp only; rw [outN_q h3, hq]; rfl⟩
    · rename_i h2
      split
      · exact ⟨w, Disc.bad o 5 ih (by decide) (fun h => (h2 h).elim)⟩
      · split
        · exact ⟨w, Disc.bad o 3 ih (by decide) (fun h => (h2 h).elim)⟩
        · split
          · exact ⟨w, Disc.bad o 2 ih (by decide) (fun h => (h2 h).elim)⟩
          · exact ⟨w + 1, (Disc.enter o o.f.toNat ih (by omega) (by omega) (by omega)).cong fun j => by simp only; rw [inN_q (by omega)]⟩
theorem run_kept {ws : List Int} {Sm : Int} (hw : okW ws Sm) (l : List Op) : ∃ w, Kept ws.length l (runR ws Sm l).errs (runR ws Sm l).sent (qN (runR ws Sm l).nd) w := by
  obtain ⟨w, h⟩ := run_disc hw l l.length (Nat.le_refl _)
  rw [List.take_length] at h
  exact ⟨w, h.kept⟩

theorem step_none {ws : List Int} {S : Int} {r : Rn} {o : Op} (h1 : o.k = 2) (h2 : pickK r.nd < 0) : stepR ws S r o = ⟨r.errs ++ [3], r.sent, ⟨r.nd.fl, pickT r.nd⟩⟩ := by
  unfold stepR; rw [if_pos h1, if_pos h2]
theorem step_out {ws : List Int} {S : Int} {r : Rn} {o : Op} (h1 : o.k = 2) (h2 : ¬ pickK r.nd < 0) : stepR ws S r o = ⟨r.errs ++ [0], r.sent ++ [⟨pickK r.nd, headQ (r.nd.fl.getD (pickK r.nd).toNat f0).q⟩], outN ws S r.nd (pickK r.nd).toNat⟩ := by
  unfold stepR; rw [if_pos h1, if_neg h2]
theorem step_kind {ws : List Int} {S : Int} {r : Rn} {o : Op} (h1 : o.k ≠ 2) (h2 : o.k ≠ 1) : stepR ws S r o = ⟨r.errs ++ [5], r.sent, r.nd⟩ := by
  unfold stepR; rw [if_neg h1, if_pos h2]
theorem step_flow {ws : List Int} {S : Int} {r : Rn} {o : Op} (h1 : o.k = 1) (h2 : o.f < 0 ∨ (ws.length : Int) ≤ o.f) : stepR ws S r o = ⟨r.errs ++ [3], r.sent, r.nd⟩ := by
  unfold stepR; rw [if_neg (by omega), if_neg (by omega), if_pos h2]
theorem step_in {ws : List Int} {S : Int} {r : Rn} {o : Op} (h1 : o.k = 1) (h2 : ¬ (o.f < 0 ∨ (ws.length : Int) ≤ o.f)) (h3 : ¬ (o.b < 1 ∨ 1500 < o.b)) : stepR ws S r o = ⟨r.errs ++ [0], r.sent, inN ws S r.nd o.f.toNat o.b⟩ := by
  unfold stepR; rw [if_neg (by omega), if_neg (by omega), if_neg h2, if_neg h3]

end Go.Proofs.YtmbcgelfnbnicaaDoor.Wq
