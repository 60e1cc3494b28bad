import Derived.Test.YtmbcgelfnbnicaaDoorBase
import Derived.Test.YtmbcgelfnbnicaaDoorLib
set_option linter.unusedVariables false
namespace Go.Proofs.YtmbcgelfnbnicaaDoor.Pc
/- the plain law of buckets -/

structure Bk where
  num : Int
  den : Int
  bu : Int
  lv : Int
  at' : Int
  deriving DecidableEq
structure S where
  at' : Int
  by' : Int
  deriving DecidableEq

def Bk.zero : Bk := ⟨0, 0, 0, 0, 0⟩
def Bk.right (b : Bk) : Prop := 0 ≤ b.num ∧ b.num ≤ 1048576 ∧ 1 ≤ b.den ∧ b.den ≤ 1048576 ∧ 0 ≤ b.bu ∧ b.bu ≤ 1048576 ∧ 0 ≤ b.lv ∧ b.lv ≤ b.bu * b.den ∧ 0 ≤ b.at' ∧ b.at' ≤ 1099511627776
instance (b : Bk) : Decidable b.right := by unfold Bk.right; infer_instance

/-- As it is at t. -/
def filled (b : Bk) (t : Int) : Bk := ⟨b.num, b.den, b.bu, b.lv + min ((t - b.at') * b.num) (b.bu * b.den - b.lv), t⟩
def okT (b : Bk) (t : Int) : Prop := b.at' ≤ t ∧ t ≤ 1099511627776
instance (b : Bk) (t : Int) : Decidable (okT b t) := by unfold okT; infer_instance
def okB (n : Int) : Prop := 0 ≤ n ∧ n ≤ 1048576
instance (n : Int) : Decidable (okB n) := by unfold okB; infer_instance
def fillB (b : Bk) (t : Int) : Bk × Int := if b.right then (if okT b t then (filled b t, 0) else (Bk.zero, 2)) else (Bk.zero, 1)
def takeB (b : Bk) (s : S) : Bk × Bool × Int :=
  if (fillB b s.at').2 = 0 then
    if okB s.by' then
      if s.by' * b.den ≤ (filled b s.at').lv then ({ filled b s.at' with lv := (filled b s.at').lv - s.by' * b.den }, true, 0) else (filled b s.at', false, 0)
    else (Bk.zero, false, 2)
  else (Bk.zero, false, (fillB b s.at').2)
def readyT (b : Bk) (n : Int) : Int := b.at' + (n * b.den - b.lv + b.num - 1) / b.num
def readyB (b : Bk) (n : Int) : Int × Bool × Int :=
  if b.right then
    if okB n then
      if n * b.den - b.lv ≤ 0 then (b.at', true, 0)
      else if b.bu < n ∨ b.num = 0 then (0, false, 0)
      else if 1099511627776 < readyT b n then (0, false, 0) else (readyT b n, true, 0)
    else (0, false, 2)
  else (0, false, 1)

theorem Bk.right.prod {b : Bk} (h : b.right) : 0 ≤ b.bu * b.den ∧ b.bu * b.den ≤ 1099511627776 := by
  obtain ⟨_, _, h3, h4, h5, h6, _⟩ := h
  refine ⟨Int.mul_nonneg h5 (by omega), ?_⟩
  have := Int.mul_le_mul h6 h4 (by omega) (by omega)
  omega
theorem Bk.right.gone {b : Bk} {t : Int} (h : b.right) (ht : okT b t) : 0 ≤ (t - b.at') * b.num ∧ (t - b.at') * b.num ≤ 1152921504606846976 := by
  obtain ⟨h1, h2, _, _, _, _, _, _, h9, h10⟩ := h
  unfold okT at ht
  refine ⟨Int.mul_nonneg (by omega) h1, ?_⟩
  have := Int.mul_le_mul (show t - b.at' ≤ 1099511627776 by omega) h2 h1 (by omega)
  omega
theorem Bk.right.cost {b : Bk} {n : Int} (h : b.right) (hn : okB n) : 0 ≤ n * b.den ∧ n * b.den ≤ 1099511627776 := by
  obtain ⟨_, _, h3, h4, _⟩ := h
  unfold okB at hn
  refine ⟨Int.mul_nonneg hn.1 (by omega), ?_⟩
  have := Int.mul_le_mul hn.2 h4 (by omega) (by omega)
  omega
/-- room through num tells whether all the room is filled -/
theorem Bk.right.less {b : Bk} {t : Int} (h : b.right) (hn : 0 < b.num) : (b.bu * b.den - b.lv) / b.num < t - b.at' → b.bu * b.den - b.lv ≤ (t - b.at') * b.num := fun hq => by
  have := (Int.ediv_lt_iff_lt_mul hn).1 hq
  omega
theorem Bk.right.more {b : Bk} {t : Int} (h : b.right) (hn : 0 < b.num) : t - b.at' ≤ (b.bu * b.den - b.lv) / b.num → (t - b.at') * b.num ≤ b.bu * b.den - b.lv := fun hq => (Int.le_ediv_iff_mul_le hn).1 hq

theorem filled_right {b : Bk} {t : Int} (h : b.right) (ht : okT b t) : (filled b t).right := by
  have h1 := h.gone ht
  unfold Bk.right okT at *
  unfold filled
  simp only
  omega

theorem filled_twice {b : Bk} {x y : Int} (h : b.right) (hx : okT b x) (hy : okT (filled b x) y) : okT b y ∧ filled (filled b x) y = filled b y := by
  have hy' : x ≤ y ∧ y ≤ 1099511627776 := hy
  have hyb : okT b y := ⟨by unfold okT at hx; omega, hy'.2⟩
  refine ⟨hyb, ?_⟩
  have h1 := h.gone hx
  have h2 := (filled_right h hx).gone hy
  have h2' : 0 ≤ (y - x) * b.num := h2.1
  have p : (y - b.at') * b.num = (x - b.at') * b.num + (y - x) * b.num := by rw [← Int.add_mul]; congr 1; omega
  have e1 : filled (filled b x) y = ⟨b.num, b.den, b.bu, b.lv + min ((x - b.at') * b.num) (b.bu * b.den - b.lv) + min ((y - x) * b.num) (b.bu * b.den - (b.lv + min ((x - b.at') * b.num) (b.bu * b.den - b.lv))), y⟩ := rfl
  rw [e1]
  unfold filled
  rw [p]
  simp only [Bk.mk.injEq, true_and, and_true]
  have h7 := h.2.2.2.2.2.2.2.1
  omega

/- a queue of few packets: the plain laws -/

structure Q where
  l : List Int
  mo : Int
  mb : Int
  dr : Int
structure O where
  k : Int
  n : Int
def o0 : O := ⟨0, 0⟩
def q0 : Q := ⟨[], 0, 0, 0⟩
def Q.right (q : Q) : Prop := 0 ≤ q.mo ∧ q.mo ≤ 400 ∧ 0 ≤ q.mb ∧ q.mb ≤ 1073741824 ∧ 0 ≤ q.dr ∧ q.dr ≤ 1099511627776 ∧ (q.l.length : Int) ≤ q.mo ∧ (∀ x ∈ q.l, 1 ≤ x ∧ x ≤ 1500) ∧ q.l.sum ≤ q.mb
instance decR1 (q : Q) : Decidable q.right := by unfold Q.right; infer_instance
def Q.fit (q : Q) (n : Int) : Prop := (q.l.length : Int) < q.mo ∧ q.l.sum + n ≤ q.mb
instance decR2 (q : Q) (n : Int) : Decidable (q.fit n) := by unfold Q.fit; infer_instance
def stepO (q : Q) (o : O) : Option (Q × Int) :=
  if q.right then
    if o.k = 1 then
      if 1 ≤ o.n ∧ o.n ≤ 1500 then
        if q.fit o.n then some (⟨q.l ++ [o.n], q.mo, q.mb, q.dr⟩, 1)
        else if q.dr = 1099511627776 then none else some (⟨q.l, q.mo, q.mb, q.dr + 1⟩, 0)
      else none
    else if o.k = 2 then
      match q.l with
      | [] => none
      | x :: r => some (⟨r, q.mo, q.mb, q.dr⟩, x)
    else none
  else none
theorem sum_bound : ∀ (l : List Int), (∀ x ∈ l, 1 ≤ x ∧ x ≤ 1500) → 0 ≤ l.sum ∧ l.sum ≤ 1500 * l.length
  | [], _ => by simp
  | x :: l, h => by
    have := sum_bound l fun y hy => h y (by simp [hy])
    have := h x (by simp)
    simp only [List.sum_cons, List.length_cons]
    omega
theorem Q.right.sum {q : Q} (h : q.right) : 0 ≤ q.l.sum ∧ q.l.sum ≤ 600000 := by
  obtain ⟨h1, h2, h3, h4, h5, h6, h7, h8, h9⟩ := h
  have := sum_bound q.l h8
  omega
theorem Q.right.len {q : Q} (h : q.right) : q.l.length ≤ 400 := by
  obtain ⟨h1, h2, h3, h4, h5, h6, h7, h8, h9⟩ := h
  omega
theorem right_push {q : Q} {n : Int} (h : q.right) (hf : q.fit n) (hn : 1 ≤ n ∧ n ≤ 1500) : (⟨q.l ++ [n], q.mo, q.mb, q.dr⟩ : Q).right := by
  obtain ⟨h1, h2, h3, h4, h5, h6, h7, h8, h9⟩ := h
  obtain ⟨f1, f2⟩ := hf
  refine ⟨h1, h2, h3, h4, h5, h6, by simp; omega, fun x hx => ?_, by simp; omega⟩
  rcases List.mem_append.1 hx with hx | hx
  · exact h8 x hx
  · rw [List.mem_singleton.1 hx]; exact hn
theorem right_drop {q : Q} (h : q.right) (hd : q.dr ≠ 1099511627776) : (⟨q.l, q.mo, q.mb, q.dr + 1⟩ : Q).right := by
  obtain ⟨h1, h2, h3, h4, h5, h6, h7, h8, h9⟩ := h
  exact ⟨h1, h2, h3, h4, by show 0 ≤ q.dr + 1; omega, by show q.dr + 1 ≤ _; omega, h7, h8, h9⟩
theorem right_pop {q : Q} {x : Int} {r : List Int} (h : q.right) (hl : q.l = x :: r) : (⟨r, q.mo, q.mb, q.dr⟩ : Q).right := by
  obtain ⟨h1, h2, h3, h4, h5, h6, h7, h8, h9⟩ := h
  rw [hl] at h7 h8 h9
  have := h8 x (by simp)
  simp at h7 h9
  exact ⟨h1, h2, h3, h4, h5, h6, by show (r.length : Int) ≤ q.mo; omega, fun y hy => h8 y (by simp [hy]), by show r.sum ≤ q.mb; omega⟩

/-- One step of a whole play: what is no step is left out. -/
def stepF (s : Q × List Int) (o : O) : Q × List Int :=
  match stepO s.1 o with
  | none => s
  | some (q, r) => (q, if o.k = 2 then s.2 ++ [r] else s.2)
def run (s : Q × List Int) (l : List O) : Q × List Int := l.foldl stepF s
theorem run_snoc (s : Q × List Int) (l : List O) (o : O) : run s (l ++ [o]) = stepF (run s l) o := by simp [run]
def good (o : O) : Prop := o.k = 1 ∧ 1 ≤ o.n ∧ o.n ≤ 1500
instance decR3 (o : O) : Decidable (good o) := by unfold good; infer_instance
def came (l : List O) : List Int := (l.filter fun o => decide (good o)).map O.n
theorem came_snoc (l : List O) (o : O) : came (l ++ [o]) = if good o then came l ++ [o.n] else came l := by
  by_cases h : good o <;> simp [came, h]
theorem came_cons (l : List O) (o : O) : came (o :: l) = if good o then o.n :: came l else came l := by
  by_cases h : good o <;> simp [came, h]
theorem stepF_right {s : Q × List Int} (o : O) (h : s.1.right) : (stepF s o).1.right := by
  obtain ⟨q, out⟩ := s
  simp only at h
  unfold stepF stepO
  simp only [if_pos h]
  by_cases h1 : o.k = 1
  · rw [if_pos h1]
    by_cases h2 : 1 ≤ o.n ∧ o.n ≤ 1500
    · rw [if_pos h2]
      by_cases h3 : q.fit o.n
      · rw [if_pos h3]; exact right_push h h3 h2
      · rw [if_neg h3]
        by_cases h4 : q.dr = 1099511627776
        · rw [if_pos h4]; exact h
        · rw [if_neg h4]; exact right_drop h h4
    · rw [if_neg h2]; exact h
  · rw [if_neg h1]
    by_cases h2 : o.k = 2
    · rw [if_pos h2]
      cases hl : q.l with
      | nil => exact h
      | cons x r => exact right_pop h hl
    · rw [if_neg h2]; exact h
theorem run_right {s : Q × List Int} (h : s.1.right) : ∀ l : List O, (run s l).1.right := by
  intro l
  induction l generalizing s with
  | nil => exact h
  | cons o l ih => exact ih (stepF_right o h)
/-- What went out and what is held came in that order; and all others are counted. -/
def Order (a : List Int) (s : Q × List Int) : Prop := (s.2 ++ s.1.l).Sublist a ∧ (a.length : Int) = (s.2 ++ s.1.l).length + s.1.dr
theorem order_step {a : List Int} {s : Q × List Int} (o : O) (h : s.1.right) (hO : Order a s) (hd : s.1.dr < 1099511627776) : Order (if good o then a ++ [o.n] else a) (stepF s o) := by
  obtain ⟨q, out⟩ := s
  obtain ⟨g1, g2⟩ := hO
  simp only at h g1 g2 hd
  unfold stepF stepO
  simp only [if_pos h]
  by_cases h1 : o.k = 1
  · rw [if_pos h1]
    have h1' : o.k ≠ 2 := by omega
    by_cases h2 : 1 ≤ o.n ∧ o.n ≤ 1500
    · rw [if_pos h2, if_pos (show good o from ⟨h1, h2⟩)]
      by_cases h3 : q.fit o.n
      · rw [if_pos h3]
        simp only [if_neg h1']
        refine ⟨?_, ?_⟩
        · show (out ++ (q.l ++ [o.n])).Sublist _
          rw [← List.append_assoc]
          exact List.Sublist.append g1 (List.Sublist.refl _)
        · show ((a ++ [o.n]).length : Int) = (out ++ (q.l ++ [o.n])).length + q.dr
          simp at g2 ⊢; omega
      · rw [if_neg h3, if_neg (by omega)]
        simp only [if_neg h1']
        refine ⟨g1.trans (List.sublist_append_left _ _), ?_⟩
        show ((a ++ [o.n]).length : Int) = (out ++ q.l).length + (q.dr + 1)
        simp at g2 ⊢; omega
    · rw [if_neg h2, if_neg (fun hg : good o => h2 hg.2)]; exact ⟨g1, g2⟩
  · rw [if_neg h1, if_neg (fun hg : good o => h1 hg.1)]
    by_cases h2 : o.k = 2
    · rw [if_pos h2]
      cases hl : q.l with
      | nil => exact ⟨g1, g2⟩
      | cons x r =>
        simp only [if_pos h2]
        rw [hl] at g1 g2
        refine ⟨?_, ?_⟩
        · show (out ++ [x] ++ r).Sublist a
          rw [List.append_assoc]; exact g1
        · show (a.length : Int) = (out ++ [x] ++ r).length + q.dr
          rw [g2]; simp
    · rw [if_neg h2]; exact ⟨g1, g2⟩
theorem order_run (q : Q) (hq : q.right) (hl : q.l = []) (hd : q.dr = 0) (l : List O) (hn : l.length ≤ 1048576) : ∀ i, i ≤ l.length → Order (came (l.take i)) (run (q, []) (l.take i)) := by
  intro i
  induction i with
  | zero => intro _; exact ⟨by show ([] ++ q.l).Sublist _; rw [hl]; exact List.nil_sublist _, by show _ = ((([] ++ q.l : List Int).length : Nat) : Int) + q.dr; rw [hl, hd]; rfl⟩
  | succ i ih =>
    intro hi
    have ho := ih (by omega)
    have e : l.take (i + 1) = l.take i ++ [l.getD i o0] := by
      rw [List.take_add_one, List.getElem?_eq_getElem (by omega : i < l.length), List.getD_eq_getElem?_getD, List.getElem?_eq_getElem (by omega : i < l.length)]; rfl
    rw [e, run_snoc, came_snoc]
    refine order_step _ (run_right hq _) ho ?_
    have h2 := ho.2
    have h3 : (came (l.take i)).length ≤ i := by
      have := List.length_filter_le (fun o => decide (good o)) (l.take i)
      simp only [came, List.length_map]
      simp at this
      omega
    omega

/-- Two queues, of which the second has one place more, and none goes out. -/
def Pair (a b : Q) : Prop := a.right ∧ b.right ∧ b.mo = a.mo + 1 ∧ a.mb = 1073741824 ∧ b.mb = 1073741824 ∧ b.dr ≤ a.dr ∧ (b.l = a.l ∨ ((a.l.length : Int) = a.mo ∧ ∃ x, b.l = a.l ++ [x]))
theorem pair_step {a b : Q} {n : Int} {u v : List Int} (h : Pair a b) : Pair (stepF (a, u) ⟨1, n⟩).1 (stepF (b, v) ⟨1, n⟩).1 := by
  obtain ⟨ra, rb, h1, h2, h3, h4, h5⟩ := h
  have sa := ra.sum
  have sb := rb.sum
  have la := ra
  have lb := rb
  unfold Q.right at la lb
  unfold stepF stepO
  simp only [if_pos ra, if_pos rb, if_true]
  by_cases hn : 1 ≤ n ∧ n ≤ 1500
  · rw [if_pos hn, if_pos hn]
    rcases h5 with h5 | ⟨h5, x, h6⟩
    · by_cases fa : a.fit n
      · have fb : b.fit n := by unfold Q.fit at fa ⊢; rw [h5]; omega
        rw [if_pos fa, if_pos fb]
        exact ⟨right_push ra fa hn, right_push rb fb hn, h1, h2, h3, h4, .inl (by simp [h5])⟩
      · have hfull : (a.l.length : Int) = a.mo := by unfold Q.fit at fa; omega
        have fb : b.fit n := by unfold Q.fit; rw [h5]; omega
        rw [if_neg fa, if_pos fb]
        by_cases hd : a.dr = 1099511627776
        · rw [if_pos hd]
          exact ⟨ra, right_push rb fb hn, h1, h2, h3, h4, .inr ⟨hfull, n, by simp [h5]⟩⟩
        · rw [if_neg hd]
          exact ⟨right_drop ra hd, right_push rb fb hn, h1, h2, h3, by show b.dr ≤ a.dr + 1; omega, .inr ⟨hfull, n, by simp [h5]⟩⟩
    · have fa : ¬ a.fit n := by unfold Q.fit; omega
      have fb : ¬ b.fit n := by unfold Q.fit; rw [h6]; simp; omega
      rw [if_neg fa, if_neg fb]
      by_cases hd : a.dr = 1099511627776
      · rw [if_pos hd]
        by_cases hd2 : b.dr = 1099511627776
        · rw [if_pos hd2]; exact ⟨ra, rb, h1, h2, h3, h4, .inr ⟨h5, x, h6⟩⟩
        · rw [if_neg hd2]; exact ⟨ra, right_drop rb hd2, h1, h2, h3, by show b.dr + 1 ≤ a.dr; omega, .inr ⟨h5, x, h6⟩⟩
      · rw [if_neg hd, if_neg (by omega)]
        exact ⟨right_drop ra hd, right_drop rb (by omega), h1, h2, h3, by show b.dr + 1 ≤ a.dr + 1; omega, .inr ⟨h5, x, h6⟩⟩
  · rw [if_neg hn, if_neg hn]
    exact ⟨ra, rb, h1, h2, h3, h4, h5⟩
theorem pair_run {a b : Q} {u v : List Int} (h : Pair a b) : ∀ l : List Int, Pair (run (a, u) (l.map fun n => ⟨1, n⟩)).1 (run (b, v) (l.map fun n => ⟨1, n⟩)).1 := by
  intro l
  induction l generalizing a b u v with
  | nil => exact h
  | cons n l ih =>
    have := pair_step (n := n) (u := u) (v := v) h
    show Pair (run (stepF (a, u) ⟨1, n⟩) _).1 (run (stepF (b, v) ⟨1, n⟩) _).1
    generalize stepF (a, u) ⟨1, n⟩ = s at *
    generalize stepF (b, v) ⟨1, n⟩ = t at *
    exact ih this

/- Packets no faster than they may, in plain Lean: one thing that happens. -/

/-- What waits, how many were dropped, the bucket, how many bytes were sent. -/
structure P where
  l : List Int
  dr : Int
  b : Bk
  se : Int
def P.q (p : P) : Q := ⟨p.l, 100, 60000, p.dr⟩
/-- What a poll sends, what still waits, what is left of the tokens. -/
def pollL (den : Int) : List Int → Int → Int → List Int × List Int × Int
  | [], lv, _ => ([], [], lv)
  | n :: r, lv, room => if room < n ∨ lv < n * den then ([], n :: r, lv) else (n :: (pollL den r (lv - n * den) (room - n)).1, (pollL den r (lv - n * den) (room - n)).2)
theorem pollL_app (den : Int) : ∀ (l : List Int) (lv room : Int), (pollL den l lv room).1 ++ (pollL den l lv room).2.1 = l
  | [], _, _ => rfl
  | n :: r, lv, room => by
    have ih := pollL_app den r (lv - n * den) (room - n)
    unfold pollL
    split
    · rfl
    · simp only [List.cons_append, ih]
theorem pollL_lv (den : Int) : ∀ (l : List Int) (lv room : Int), (pollL den l lv room).2.2 = lv - (pollL den l lv room).1.sum * den
  | [], _, _ => by simp [pollL]
  | n :: r, lv, room => by
    have ih := pollL_lv den r (lv - n * den) (room - n)
    unfold pollL
    split
    · simp
    · simp only [List.sum_cons, Int.add_mul, ih]
      omega
theorem pollL_le (den : Int) : ∀ (l : List Int) (lv room : Int), 0 ≤ lv → 0 ≤ room → 0 ≤ (pollL den l lv room).2.2 ∧ (pollL den l lv room).1.sum ≤ room
  | [], _, _, h1, h2 => by simpa [pollL] using ⟨h1, h2⟩
  | n :: r, lv, room, h1, h2 => by
    have ih := pollL_le den r (lv - n * den) (room - n)
    unfold pollL
    split
    · simpa using ⟨h1, h2⟩
    · have := ih (by omega) (by omega)
      simp only [List.sum_cons]
      omega
/-- Behind a poll nothing waits, or the first packet has no room or no tokens. -/
theorem pollL_stop (den : Int) : ∀ (l : List Int) (lv room : Int), (pollL den l lv room).2.1 = [] ∨ ∃ n r, (pollL den l lv room).2.1 = n :: r ∧ (room - (pollL den l lv room).1.sum < n ∨ (pollL den l lv room).2.2 < n * den)
  | [], _, _ => Or.inl rfl
  | n :: r, lv, room => by
    have ih := pollL_stop den r (lv - n * den) (room - n)
    unfold pollL
    split
    · rename_i h
      exact Or.inr ⟨n, r, rfl, by simpa using h⟩
    · rcases ih with h | ⟨m, t, h, h2⟩
      · exact Or.inl h
      · refine Or.inr ⟨m, t, h, ?_⟩
        simp only [List.sum_cons]
        omega

def tickT (b : Bk) (n : Int) : Int := min (b.at' + n) 1099511627776
def pollP (p : P) (room : Int) : P := ⟨(pollL p.b.den p.l p.b.lv room).2.1, p.dr, { p.b with lv := (pollL p.b.den p.l p.b.lv room).2.2 }, p.se + (pollL p.b.den p.l p.b.lv room).1.sum⟩
/-- One thing happens: what is then, what is wrong, what was sent. -/
def doP (p : P) (o : O) : P × Int × List Int :=
  if o.k = 1 then
    if 1 ≤ o.n ∧ o.n ≤ 1500 then
      if p.q.fit o.n then ({ p with l := p.l ++ [o.n] }, 0, [])
      else if p.dr = 1099511627776 then (p, 4, [])
      else ({ p with dr := p.dr + 1 }, 4, [])
    else (p, 2, [])
  else if o.k = 2 then
    if 0 ≤ o.n ∧ o.n ≤ 1099511627776 then ({ p with b := filled p.b (tickT p.b o.n) }, 0, []) else (p, 2, [])
  else if o.k = 3 then
    if 0 ≤ o.n ∧ o.n ≤ 1073741824 then (pollP p o.n, 0, (pollL p.b.den p.l p.b.lv o.n).1) else (p, 2, [])
  else (p, 5, [])
def runP (p : P) : List O → P
  | [] => p
  | o :: r => runP (doP p o).1 r
def ansP (p : P) : List O → List (Int × List Int)
  | [] => []
  | o :: r => (doP p o).2 :: ansP (doP p o).1 r
structure Ok (p : P) (i : Nat) : Prop where
  q : p.q.right
  b : p.b.right
  pos : 0 ≤ p.se
  all : p.se + p.l.sum ≤ 1500 * i

theorem okT_tick {b : Bk} (h : b.right) {n : Int} (hn : 0 ≤ n) : okT b (tickT b n) := by
  obtain ⟨_, _, _, _, _, _, _, _, h1, h2⟩ := h
  unfold okT tickT
  omega
theorem poll_right {b : Bk} (h : b.right) (l : List Int) {room : Int} (hr : 0 ≤ room) (hs : 0 ≤ (pollL b.den l b.lv room).1.sum) : ({ b with lv := (pollL b.den l b.lv room).2.2 } : Bk).right := by
  have h0 := h
  obtain ⟨h1, h2, h3, h4, h5, h6, h7, h8, h9, h10⟩ := h
  have h11 := pollL_le b.den l b.lv room h7 hr
  have h12 := pollL_lv b.den l b.lv room
  have h13 := Int.mul_nonneg hs (show 0 ≤ b.den by omega)
  exact ⟨h1, h2, h3, h4, h5, h6, h11.1, by show (pollL b.den l b.lv room).2.2 ≤ b.bu * b.den; omega, h9, h10⟩
theorem sum_app (a b : List Int) : (a ++ b).sum = a.sum + b.sum := by simp
theorem doP_ok {p : P} {i : Nat} (h : Ok p i) (o : O) : Ok (doP p o).1 (i + 1) := by
  obtain ⟨hq, hb, h1, h2⟩ := h
  have same : Ok p (i + 1) := ⟨hq, hb, h1, by omega⟩
  unfold doP
  split
  · split
    · rename_i hn
      split
      · rename_i hf
        exact ⟨right_push hq hf hn, hb, h1, by simp only [sum_app, List.sum_cons, List.sum_nil]; omega⟩
      · split
        · exact same
        · rename_i hd
          exact ⟨right_drop hq hd, hb, h1, by show p.se + p.l.sum ≤ _; omega⟩
    · exact same
  · split
    · split
      · rename_i hn
        exact ⟨hq, filled_right hb (okT_tick hb hn.1), h1, by show p.se + p.l.sum ≤ _; omega⟩
      · exact same
    · split
      · split
        · rename_i hn
          have ha := pollL_app p.b.den p.l p.b.lv o.n
          have hsum : (pollL p.b.den p.l p.b.lv o.n).1.sum + (pollL p.b.den p.l p.b.lv o.n).2.1.sum = p.l.sum := by rw [← sum_app, ha]
          obtain ⟨g1, g2, g3, g4, g5, g6, g7, g8, g9⟩ := hq
          have hx : ∀ x ∈ (pollL p.b.den p.l p.b.lv o.n).1, 1 ≤ x ∧ x ≤ 1500 := fun x hx => g8 x (by show x ∈ p.l; rw [← ha]; exact List.mem_append_left _ hx)
          have hy : ∀ x ∈ (pollL p.b.den p.l p.b.lv o.n).2.1, 1 ≤ x ∧ x ≤ 1500 := fun x hx => g8 x (by show x ∈ p.l; rw [← ha]; exact List.mem_append_right _ hx)
          have hs := (sum_bound _ hx).1
          have hlen : (pollL p.b.den p.l p.b.lv o.n).1.length + (pollL p.b.den p.l p.b.lv o.n).2.1.length = p.l.length := by rw [← List.length_append, ha]
          refine ⟨⟨g1, g2, g3, g4, g5, g6, ?_, hy, ?_⟩, poll_right hb p.l hn.1 hs, ?_, ?_⟩
          · show ((pollL p.b.den p.l p.b.lv o.n).2.1.length : Int) ≤ 100
            have : (p.l.length : Int) ≤ 100 := g7
            omega
          · show (pollL p.b.den p.l p.b.lv o.n).2.1.sum ≤ 60000
            have : p.l.sum ≤ 60000 := g9
            omega
          · show 0 ≤ p.se + (pollL p.b.den p.l p.b.lv o.n).1.sum
            omega
          · show p.se + (pollL p.b.den p.l p.b.lv o.n).1.sum + (pollL p.b.den p.l p.b.lv o.n).2.1.sum ≤ _
            omega
        · exact same
      · exact same

/- Packets no faster than they may, in plain Lean: all that happens. -/

theorem runP_app (p : P) (a b : List O) : runP p (a ++ b) = runP (runP p a) b := by
  induction a generalizing p with
  | nil => rfl
  | cons o r ih => exact ih _
theorem runP_snoc (p : P) (l : List O) (o : O) : runP p (l ++ [o]) = (doP (runP p l) o).1 := by rw [runP_app]; rfl
theorem ansP_app (p : P) (a b : List O) : ansP p (a ++ b) = ansP p a ++ ansP (runP p a) b := by
  induction a generalizing p with
  | nil => rfl
  | cons o r ih =>
    have := ih (doP p o).1
    simp only [ansP, runP, List.cons_append, this]
theorem ansP_snoc (p : P) (l : List O) (o : O) : ansP p (l ++ [o]) = ansP p l ++ [(doP (runP p l) o).2] := by rw [ansP_app]; rfl
theorem ansP_length (p : P) (l : List O) : (ansP p l).length = l.length := by
  induction l generalizing p with
  | nil => rfl
  | cons o r ih => simp [ansP, ih]
theorem runP_ok {p : P} {i : Nat} (h : Ok p i) : ∀ (l : List O), Ok (runP p l) (i + l.length)
  | [] => h
  | o :: r => by
    have := runP_ok (doP_ok h o) r
    rw [show i + (o :: r).length = i + 1 + r.length by simp; omega]
    exact this
/-- How it begins. -/
def p0 (n d b : Int) : P := ⟨[], 0, ⟨n, d, b, b * d, 0⟩, 0⟩
theorem p0_ok {n d b : Int} (h : (⟨n, d, b, b * d, 0⟩ : Bk).right) : Ok (p0 n d b) 0 :=
  ⟨⟨by show (0 : Int) ≤ 100; omega, by show (100 : Int) ≤ 400; omega, by show (0 : Int) ≤ 60000; omega, by show (60000 : Int) ≤ 1073741824; omega, by show (0 : Int) ≤ 0; omega, by show (0 : Int) ≤ 1099511627776; omega, by show (0 : Int) ≤ 100; omega, fun x hx => (by cases hx), by show (0 : Int) ≤ 60000; omega⟩, h, by show (0 : Int) ≤ 0; omega, by show (0 : Int) + 0 ≤ _; omega⟩

end Go.Proofs.YtmbcgelfnbnicaaDoor.Pc
