/- flows served by when they should begin, and end: what the code reckons -/
set_option linter.unusedVariables false
namespace Go.Proofs.Ytdcodafidefloaa

/-- A flow: its packets, and when the first one should begin, and end. -/
structure Fq where
  q : List Int
  b : Int
  u : Int
  deriving DecidableEq
def f0 : Fq := ⟨[], 0, 0⟩
structure Nd where
  fl : List Fq
  t : Int
def headQ : List Int → Int
  | [] => 0
  | x :: _ => x
def headF (S w fr : Int) (f : Fq) : Fq := ⟨f.q, fr, fr + headQ f.q * (27720 / w) * S⟩
def inN (ws : List Int) (S : Int) (nd : Nd) (k : Nat) (x : Int) : Nd :=
  ⟨nd.fl.set k (if (nd.fl.getD k f0).q = [] then headF S (ws.getD k 0) (max (nd.fl.getD k f0).u nd.t) ⟨[x], (nd.fl.getD k f0).b, (nd.fl.getD k f0).u⟩ else ⟨(nd.fl.getD k f0).q ++ [x], (nd.fl.getD k f0).b, (nd.fl.getD k f0).u⟩), nd.t⟩
/-- The least begin of the first i flows that have packets; below 0: none has. -/
def leastN (fl : List Fq) : Nat → Int
  | 0 => -1
  | i + 1 => if (fl.getD i f0).q ≠ [] ∧ (leastN fl i < 0 ∨ (fl.getD i f0).b < leastN fl i) then (fl.getD i f0).b else leastN fl i
/-- Of the first i flows the one that goes next at a time. -/
def bestN (fl : List Fq) (t : Int) : Nat → Int
  | 0 => -1
  | i + 1 => if ((fl.getD i f0).q ≠ [] ∧ (fl.getD i f0).b ≤ t) ∧ (bestN fl t i < 0 ∨ (fl.getD i f0).u < (fl.getD (bestN fl t i).toNat f0).u) then (i : Int) else bestN fl t i
def pickT (nd : Nd) : Int := if leastN nd.fl nd.fl.length < 0 then nd.t else max nd.t (leastN nd.fl nd.fl.length)
def pickK (nd : Nd) : Int := if leastN nd.fl nd.fl.length < 0 then -1 else bestN nd.fl (pickT nd) nd.fl.length
def tailF (ws : List Int) (S : Int) (k : Nat) (f : Fq) : Fq := if f.q.tail = [] then ⟨[], f.b, f.u⟩ else headF S (ws.getD k 0) f.u ⟨f.q.tail, f.b, f.u⟩
def outN (ws : List Int) (S : Int) (nd : Nd) (k : Nat) : Nd := ⟨nd.fl.set k (tailF ws S k (nd.fl.getD k f0)), pickT nd + headQ (nd.fl.getD k f0).q * 27720⟩
theorem leastN_cases (fl : List Fq) : ∀ i, (leastN fl i = -1 ∧ ∀ k, k < i → (fl.getD k f0).q = [] ∨ (fl.getD k f0).b < 0) ∨ ∃ k, k < i ∧ (fl.getD k f0).q ≠ [] ∧ leastN fl i = (fl.getD k f0).b
  | 0 => .inl ⟨rfl, fun k hk => by omega⟩
  | i + 1 => by
    unfold leastN
    split
    · rename_i h; exact .inr ⟨i, by omega, h.1, rfl⟩
    · rename_i h
      rcases leastN_cases fl i with ⟨h1, h2⟩ | ⟨k, h1, h2, h3⟩
      · refine .inl ⟨h1, fun k hk => ?_⟩
        by_cases e : k = i
        · subst e
          refine Classical.byContradiction fun hn => h ⟨fun hq => hn (.inl hq), .inl (by omega)⟩
        · exact h2 k (by omega)
      · exact .inr ⟨k, by omega, h2, h3⟩
theorem leastN_le (fl : List Fq) : ∀ i, (∀ k, 0 ≤ (fl.getD k f0).b) → ∀ k, k < i → (fl.getD k f0).q ≠ [] → 0 ≤ leastN fl i ∧ leastN fl i ≤ (fl.getD k f0).b
  | 0, _, k, hk, _ => by omega
  | i + 1, h0, k, hk, hq => by
    unfold leastN
    have hb := h0 i
    by_cases e : k = i
    · subst e
      split
      · omega
      · rename_i hn
        have : ¬ (leastN fl k < 0 ∨ (fl.getD k f0).b < leastN fl k) := fun h => hn ⟨hq, h⟩
        omega
    · have := leastN_le fl i h0 k (by omega) hq
      split <;> omega
theorem bestN_cases (fl : List Fq) (t : Int) : ∀ i, (bestN fl t i = -1 ∧ ∀ k, k < i → (fl.getD k f0).q = [] ∨ t < (fl.getD k f0).b) ∨ ∃ k : Nat, k < i ∧ (fl.getD k f0).q ≠ [] ∧ (fl.getD k f0).b ≤ t ∧ bestN fl t i = k
  | 0 => .inl ⟨rfl, fun k hk => by omega⟩
  | i + 1 => by
    unfold bestN
    split
    · rename_i h; exact .inr ⟨i, by omega, h.1.1, h.1.2, rfl⟩
    · rename_i h
      rcases bestN_cases fl t i with ⟨h1, h2⟩ | ⟨k, h1, h2, h3, h4⟩
      · refine .inl ⟨h1, fun k hk => ?_⟩
        by_cases e : k = i
        · subst e
          refine Classical.byContradiction fun hn => h ⟨⟨fun hq => hn (.inl hq), by omega⟩, .inl (by omega)⟩
        · exact h2 k (by omega)
      · exact .inr ⟨k, by omega, h2, h3, h4⟩
/-- What is in bounds. -/
structure OkN (M : Int) (nd : Nd) : Prop where
  t : 0 ≤ nd.t ∧ nd.t ≤ M
  f : ∀ k, (0 ≤ (nd.fl.getD k f0).b ∧ (nd.fl.getD k f0).b ≤ M) ∧ (0 ≤ (nd.fl.getD k f0).u ∧ (nd.fl.getD k f0).u ≤ M) ∧ ∀ x ∈ (nd.fl.getD k f0).q, 1 ≤ x ∧ x ≤ 1500
def okW (ws : List Int) (S : Int) : Prop := ws.length ≤ 16 ∧ (∀ k, k < ws.length → 1 ≤ ws.getD k 0 ∧ ws.getD k 0 ≤ 12) ∧ 0 ≤ S ∧ S ≤ 192
theorem tag_bound {S w x : Int} (hS : 0 ≤ S ∧ S ≤ 192) (hw : 1 ≤ w ∧ w ≤ 12) (hx : 0 ≤ x ∧ x ≤ 1500) : (0 ≤ 27720 / w ∧ 27720 / w ≤ 27720) ∧ (0 ≤ x * (27720 / w) ∧ x * (27720 / w) ≤ 41580000) ∧ 0 ≤ x * (27720 / w) * S ∧ x * (27720 / w) * S ≤ 7983360000 := by
  have h1 := Int.ediv_nonneg (a := 27720) (b := w) (by omega) (by omega)
  have h2 := Int.ediv_le_self (a := 27720) w (by omega)
  have h3 := Int.mul_nonneg hx.1 h1
  have h4 := Int.mul_le_mul hx.2 h2 h1 (by omega)
  have h5 := Int.mul_nonneg h3 hS.1
  have h6 := Int.mul_le_mul (show x * (27720 / w) ≤ 41580000 by omega) hS.2 hS.1 (by omega)
  omega
theorem getD_setF (l : List Fq) (i k : Nat) (x : Fq) : (l.set i x).getD k f0 = if i = k ∧ i < l.length then x else l.getD k f0 := by
  simp only [List.getD_eq_getElem?_getD]
  by_cases e : i = k
  · subst e
    by_cases h : i < l.length
    · rw [if_pos ⟨rfl, h⟩, List.getElem?_set_self h]; rfl
    · rw [if_neg (fun hh => h hh.2), List.set_eq_of_length_le (by omega)]
  · rw [if_neg (fun hh => e hh.1), List.getElem?_set_ne e]
theorem headQ_mem {l : List Int} (h : l ≠ []) : headQ l ∈ l := by
  cases l with
  | nil => exact (h rfl).elim
  | cons x r => simp [headQ]
theorem headQ_bound {l : List Int} (h : ∀ x ∈ l, 1 ≤ x ∧ x ≤ 1500) : 0 ≤ headQ l ∧ headQ l ≤ 1500 := by
  cases l with
  | nil => simp [headQ]
  | cons x r => have := h x (by simp); simp only [headQ]; omega
theorem in_ok {ws : List Int} {S M : Int} {nd : Nd} {k : Nat} {x : Int} (hw : okW ws S) (h : OkN M nd) (hk : k < ws.length) (hx : 1 ≤ x ∧ x ≤ 1500) : OkN (M + 8000000000) (inN ws S nd k x) := by
  have hf := h.f k
  have ht := h.t
  have hwk := hw.2.1 k hk
  refine ⟨by simp only [inN]; omega, fun j => ?_⟩
  simp only [inN]
  rw [getD_setF]
  split
  · split
    · have := tag_bound (x := x) hw.2.2 hwk (by omega)
      simp only [headF, headQ]
      refine ⟨by omega, by omega, fun y hy => ?_⟩
      rw [List.mem_singleton.1 hy]; exact hx
    · refine ⟨by simp only; omega, by simp only; omega, fun y hy => ?_⟩
      rcases List.mem_append.1 hy with hy | hy
      · exact hf.2.2 y hy
      · rw [List.mem_singleton.1 hy]; exact hx
  · have := h.f j
    exact ⟨by omega, by omega, this.2.2⟩
theorem pickT_bound {M : Int} {nd : Nd} (h : OkN M nd) : nd.t ≤ pickT nd ∧ 0 ≤ pickT nd ∧ pickT nd ≤ M := by
  have ht := h.t
  unfold pickT
  split
  · omega
  · rcases leastN_cases nd.fl nd.fl.length with ⟨h1, _⟩ | ⟨k, _, _, h3⟩
    · omega
    · have := h.f k
      omega
theorem out_ok {ws : List Int} {S M : Int} {nd : Nd} {k : Nat} (hw : okW ws S) (h : OkN M nd) (hk : k < ws.length) : OkN (M + 8000000000) (outN ws S nd k) := by
  have hf := h.f k
  have ht := pickT_bound h
  have hwk := hw.2.1 k hk
  have hq := headQ_bound hf.2.2
  refine ⟨by simp only [outN]; omega, fun j => ?_⟩
  simp only [outN]
  rw [getD_setF]
  have htl : ∀ y ∈ (nd.fl.getD k f0).q.tail, 1 ≤ y ∧ y ≤ 1500 := fun y hy => hf.2.2 y (List.mem_of_mem_tail hy)
  split
  · unfold tailF
    split
    · exact ⟨by simp only; omega, by simp only; omega, fun y hy => by cases hy⟩
    · have := tag_bound hw.2.2 hwk (headQ_bound htl)
      simp only [headF]
      exact ⟨by omega, by omega, htl⟩
  · have := h.f j
    exact ⟨by omega, by omega, this.2.2⟩
end Go.Proofs.Ytdcodafidefloaa
