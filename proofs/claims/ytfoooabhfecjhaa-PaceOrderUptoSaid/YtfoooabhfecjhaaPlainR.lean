/- a queue of few packets: the plain laws -/
set_option linter.unusedVariables false
namespace Go.Proofs.Ytfoooabhfecjhaa

structure Q where
  l : List Int
  mo : Int
  mb : Int
  dr : Int
structure O where
  k : Int
  n : Int
def o0 : O := ⟨0, 0⟩
def q0 : Q := ⟨[], 0, 0, 0⟩
def Q.right (q : Q) : Prop := 0 ≤ q.mo ∧ q.mo ≤ 400 ∧ 0 ≤ q.mb ∧ q.mb ≤ 1073741824 ∧ 0 ≤ q.dr ∧ q.dr ≤ 1099511627776 ∧ (q.l.length : Int) ≤ q.mo ∧ (∀ x ∈ q.l, 1 ≤ x ∧ x ≤ 1500) ∧ q.l.sum ≤ q.mb
instance decR1 (q : Q) : Decidable q.right := by unfold Q.right; infer_instance
def Q.fit (q : Q) (n : Int) : Prop := (q.l.length : Int) < q.mo ∧ q.l.sum + n ≤ q.mb
instance decR2 (q : Q) (n : Int) : Decidable (q.fit n) := by unfold Q.fit; infer_instance
def stepO (q : Q) (o : O) : Option (Q × Int) :=
  if q.right then
    if o.k = 1 then
      if 1 ≤ o.n ∧ o.n ≤ 1500 then
        if q.fit o.n then some (⟨q.l ++ [o.n], q.mo, q.mb, q.dr⟩, 1)
        else if q.dr = 1099511627776 then none else some (⟨q.l, q.mo, q.mb, q.dr + 1⟩, 0)
      else none
    else if o.k = 2 then
      match q.l with
      | [] => none
      | x :: r => some (⟨r, q.mo, q.mb, q.dr⟩, x)
    else none
  else none
theorem sum_bound : ∀ (l : List Int), (∀ x ∈ l, 1 ≤ x ∧ x ≤ 1500) → 0 ≤ l.sum ∧ l.sum ≤ 1500 * l.length
  | [], _ => by simp
  | x :: l, h => by
    have := sum_bound l fun y hy => h y (by simp [hy])
    have := h x (by simp)
    simp only [List.sum_cons, List.length_cons]
    omega
theorem Q.right.sum {q : Q} (h : q.right) : 0 ≤ q.l.sum ∧ q.l.sum ≤ 600000 := by
  obtain ⟨h1, h2, h3, h4, h5, h6, h7, h8, h9⟩ := h
  have := sum_bound q.l h8
  omega
theorem Q.right.len {q : Q} (h : q.right) : q.l.length ≤ 400 := by
  obtain ⟨h1, h2, h3, h4, h5, h6, h7, h8, h9⟩ := h
  omega
theorem right_push {q : Q} {n : Int} (h : q.right) (hf : q.fit n) (hn : 1 ≤ n ∧ n ≤ 1500) : (⟨q.l ++ [n], q.mo, q.mb, q.dr⟩ : Q).right := by
  obtain ⟨h1, h2, h3, h4, h5, h6, h7, h8, h9⟩ := h
  obtain ⟨f1, f2⟩ := hf
  refine ⟨h1, h2, h3, h4, h5, h6, by simp; omega, fun x hx => ?_, by simp; omega⟩
  rcases List.mem_append.1 hx with hx | hx
  · exact h8 x hx
  · rw [List.mem_singleton.1 hx]; exact hn
theorem right_drop {q : Q} (h : q.right) (hd : q.dr ≠ 1099511627776) : (⟨q.l, q.mo, q.mb, q.dr + 1⟩ : Q).right := by
  obtain ⟨h1, h2, h3, h4, h5, h6, h7, h8, h9⟩ := h
  exact ⟨h1, h2, h3, h4, by show 0 ≤ q.dr + 1; omega, by show q.dr + 1 ≤ _; omega, h7, h8, h9⟩
theorem right_pop {q : Q} {x : Int} {r : List Int} (h : q.right) (hl : q.l = x :: r) : (⟨r, q.mo, q.mb, q.dr⟩ : Q).right := by
  obtain ⟨h1, h2, h3, h4, h5, h6, h7, h8, h9⟩ := h
  rw [hl] at h7 h8 h9
  have := h8 x (by simp)
  simp at h7 h9
  exact ⟨h1, h2, h3, h4, h5, h6, by show (r.length : Int) ≤ q.mo; omega, fun y hy => h8 y (by simp [hy]), by show r.sum ≤ q.mb; omega⟩

/-- One step of a whole play: what is no step is left out. -/
def stepF (s : Q × List Int) (o : O) : Q × List Int :=
  match stepO s.1 o with
  | none => s
  | some (q, r) => (q, if o.k = 2 then s.2 ++ [r] else s.2)
def run (s : Q × List Int) (l : List O) : Q × List Int := l.foldl stepF s
theorem run_snoc (s : Q × List Int) (l : List O) (o : O) : run s (l ++ [o]) = stepF (run s l) o := by simp [run]
def good (o : O) : Prop := o.k = 1 ∧ 1 ≤ o.n ∧ o.n ≤ 1500
instance decR3 (o : O) : Decidable (good o) := by unfold good; infer_instance
def came (l : List O) : List Int := (l.filter fun o => decide (good o)).map O.n
theorem came_snoc (l : List O) (o : O) : came (l ++ [o]) = if good o then came l ++ [o.n] else came l := by
  by_cases h : good o <;> simp [came, h]
theorem came_cons (l : List O) (o : O) : came (o :: l) = if good o then o.n :: came l else came l := by
  by_cases h : good o <;> simp [came, h]
theorem stepF_right {s : Q × List Int} (o : O) (h : s.1.right) : (stepF s o).1.right := by
  obtain ⟨q, out⟩ := s
  simp only at h
  unfold stepF stepO
  simp only [if_pos h]
  by_cases h1 : o.k = 1
  · rw [if_pos h1]
    by_cases h2 : 1 ≤ o.n ∧ o.n ≤ 1500
    · rw [if_pos h2]
      by_cases h3 : q.fit o.n
      · rw [if_pos h3]; exact right_push h h3 h2
      · rw [if_neg h3]
        by_cases h4 : q.dr = 1099511627776
        · rw [if_pos h4]; exact h
        · rw [if_neg h4]; exact right_drop h h4
    · rw [if_neg h2]; exact h
  · rw [if_neg h1]
    by_cases h2 : o.k = 2
    · rw [if_pos h2]
      cases hl : q.l with
      | nil => exact h
      | cons x r => exact right_pop h hl
    · rw [if_neg h2]; exact h
theorem run_right {s : Q × List Int} (h : s.1.right) : ∀ l : List O, (run s l).1.right := by
  intro l
  induction l generalizing s with
  | nil => exact h
  | cons o l ih => exact ih (stepF_right o h)
/-- What went out and what is held came in that order; and all others are counted. -/
def Order (a : List Int) (s : Q × List Int) : Prop := (s.2 ++ s.1.l).Sublist a ∧ (a.length : Int) = (s.2 ++ s.1.l).length + s.1.dr
theorem order_step {a : List Int} {s : Q × List Int} (o : O) (h : s.1.right) (hO : Order a s) (hd : s.1.dr < 1099511627776) : Order (if good o then a ++ [o.n] else a) (stepF s o) := by
  obtain ⟨q, out⟩ := s
  obtain ⟨g1, g2⟩ := hO
  simp only at h g1 g2 hd
  unfold stepF stepO
  simp only [if_pos h]
  by_cases h1 : o.k = 1
  · rw [if_pos h1]
    have h1' : o.k ≠ 2 := by omega
    by_cases h2 : 1 ≤ o.n ∧ o.n ≤ 1500
    · rw [if_pos h2, if_pos (show good o from ⟨h1, h2⟩)]
      by_cases h3 : q.fit o.n
      · rw [if_pos h3]
        simp only [if_neg h1']
        refine ⟨?_, ?_⟩
        · show (out ++ (q.l ++ [o.n])).Sublist _
          rw [← List.append_assoc]
          exact List.Sublist.append g1 (List.Sublist.refl _)
        · show ((a ++ [o.n]).length : Int) = (out ++ (q.l ++ [o.n])).length + q.dr
          simp at g2 ⊢; omega
      · rw [if_neg h3, if_neg (by omega)]
        simp only [if_neg h1']
        refine ⟨g1.trans (List.sublist_append_left _ _), ?_⟩
        show ((a ++ [o.n]).length : Int) = (out ++ q.l).length + (q.dr + 1)
        simp at g2 ⊢; omega
    · rw [if_neg h2, if_neg (fun hg : good o => h2 hg.2)]; exact ⟨g1, g2⟩
  · rw [if_neg h1, if_neg (fun hg : good o => h1 hg.1)]
    by_cases h2 : o.k = 2
    · rw [if_pos h2]
      cases hl : q.l with
      | nil => exact ⟨g1, g2⟩
      | cons x r =>
        simp only [if_pos h2]
        rw [hl] at g1 g2
        refine ⟨?_, ?_⟩
        · show (out ++ [x] ++ r).Sublist a
          rw [List.append_assoc]; exact g1
        · show (a.length : Int) = (out ++ [x] ++ r).length + q.dr
          rw [g2]; simp
    · rw [if_neg h2]; exact ⟨g1, g2⟩
theorem order_run (q : Q) (hq : q.right) (hl : q.l = []) (hd : q.dr = 0) (l : List O) (hn : l.length ≤ 1048576) : ∀ i, i ≤ l.length → Order (came (l.take i)) (run (q, []) (l.take i)) := by
  intro i
  induction i with
  | zero => intro _; exact ⟨by show ([] ++ q.l).Sublist _; rw [hl]; exact List.nil_sublist _, by show _ = ((([] ++ q.l : List Int).length : Nat) : Int) + q.dr; rw [hl, hd]; rfl⟩
  | succ i ih =>
    intro hi
    have ho := ih (by omega)
    have e : l.take (i + 1) = l.take i ++ [l.getD i o0] := by
      rw [List.take_add_one, List.getElem?_eq_getElem (by omega : i < l.length), List.getD_eq_getElem?_getD, List.getElem?_eq_getElem (by omega : i < l.length)]; rfl
    rw [e, run_snoc, came_snoc]
    refine order_step _ (run_right hq _) ho ?_
    have h2 := ho.2
    have h3 : (came (l.take i)).length ≤ i := by
      have := List.length_filter_le (fun o => decide (good o)) (l.take i)
      simp only [came, List.length_map]
      simp at this
      omega
    omega

/-- Two queues, of which the second has one place more, and none goes out. -/
def Pair (a b : Q) : Prop := a.right ∧ b.right ∧ b.mo = a.mo + 1 ∧ a.mb = 1073741824 ∧ b.mb = 1073741824 ∧ b.dr ≤ a.dr ∧ (b.l = a.l ∨ ((a.l.length : Int) = a.mo ∧ ∃ x, b.l = a.l ++ [x]))
theorem pair_step {a b : Q} {n : Int} {u v : List Int} (h : Pair a b) : Pair (stepF (a, u) ⟨1, n⟩).1 (stepF (b, v) ⟨1, n⟩).1 := by
  obtain ⟨ra, rb, h1, h2, h3, h4, h5⟩ := h
  have sa := ra.sum
  have sb := rb.sum
  have la := ra
  have lb := rb
  unfold Q.right at la lb
  unfold stepF stepO
  simp only [if_pos ra, if_pos rb, if_true]
  by_cases hn : 1 ≤ n ∧ n ≤ 1500
  · rw [if_pos hn, if_pos hn]
    rcases h5 with h5 | ⟨h5, x, h6⟩
    · by_cases fa : a.fit n
      · have fb : b.fit n := by unfold Q.fit at fa ⊢; rw [h5]; omega
        rw [if_pos fa, if_pos fb]
        exact ⟨right_push ra fa hn, right_push rb fb hn, h1, h2, h3, h4, .inl (by simp [h5])⟩
      · have hfull : (a.l.length : Int) = a.mo := by unfold Q.fit at fa; omega
        have fb : b.fit n := by unfold Q.fit; rw [h5]; omega
        rw [if_neg fa, if_pos fb]
        by_cases hd : a.dr = 1099511627776
        · rw [if_pos hd]
          exact ⟨ra, right_push rb fb hn, h1, h2, h3, h4, .inr ⟨hfull, n, by simp [h5]⟩⟩
        · rw [if_neg hd]
          exact ⟨right_drop ra hd, right_push rb fb hn, h1, h2, h3, by show b.dr ≤ a.dr + 1; omega, .inr ⟨hfull, n, by simp [h5]⟩⟩
    · have fa : ¬ a.fit n := by unfold Q.fit; omega
      have fb : ¬ b.fit n := by unfold Q.fit; rw [h6]; simp; omega
      rw [if_neg fa, if_neg fb]
      by_cases hd : a.dr = 1099511627776
      · rw [if_pos hd]
        by_cases hd2 : b.dr = 1099511627776
        · rw [if_pos hd2]; exact ⟨ra, rb, h1, h2, h3, h4, .inr ⟨h5, x, h6⟩⟩
        · rw [if_neg hd2]; exact ⟨ra, right_drop rb hd2, h1, h2, h3, by show b.dr + 1 ≤ a.dr; omega, .inr ⟨h5, x, h6⟩⟩
      · rw [if_neg hd, if_neg (by omega)]
        exact ⟨right_drop ra hd, right_drop rb (by omega), h1, h2, h3, by show b.dr + 1 ≤ a.dr + 1; omega, .inr ⟨h5, x, h6⟩⟩
  · rw [if_neg hn, if_neg hn]
    exact ⟨ra, rb, h1, h2, h3, h4, h5⟩
theorem pair_run {a b : Q} {u v : List Int} (h : Pair a b) : ∀ l : List Int, Pair (run (a, u) (l.map fun n => ⟨1, n⟩)).1 (run (b, v) (l.map fun n => ⟨1, n⟩)).1 := by
  intro l
  induction l generalizing a b u v with
  | nil => exact h
  | cons n l ih =>
    have := pair_step (n := n) (u := u) (v := v) h
    show Pair (run (stepF (a, u) ⟨1, n⟩) _).1 (run (stepF (b, v) ⟨1, n⟩) _).1
    generalize stepF (a, u) ⟨1, n⟩ = s at *
    generalize stepF (b, v) ⟨1, n⟩ = t at *
    exact ih this
end Go.Proofs.Ytfoooabhfecjhaa
