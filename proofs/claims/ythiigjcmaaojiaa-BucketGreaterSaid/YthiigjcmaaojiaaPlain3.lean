import Derived.Test.YthiigjcmaaojiaaPlain2
/- the plain law of a row of shots: no more is taken than the burst, and what comes with time -/
set_option linter.unusedVariables false
namespace Go.Proofs.Ythiigjcmaaojiaa

def s0 : S := ⟨0, 0⟩
/-- All is right with a shot. -/
def good (b : Bk) (s : S) : Prop := b.right ∧ okT b s.at' ∧ okB s.by'
instance (b : Bk) (s : S) : Decidable (good b s) := by unfold good; infer_instance
theorem take_bad {b : Bk} {s : S} (h : ¬ good b s) : (takeB b s).1 = Bk.zero ∧ (takeB b s).2.1 = false ∧ (takeB b s).2.2 ≠ 0 := by
  unfold takeB fillB
  by_cases h1 : b.right
  · by_cases h2 : okT b s.at'
    · by_cases h3 : okB s.by'
      · exact (h ⟨h1, h2, h3⟩).elim
      · simp [h1, h2, h3]
    · simp [h1, h2]
  · simp [h1]
theorem take_good {b : Bk} {s : S} (h : good b s) : (takeB b s).2.2 = 0 ∧ (takeB b s).1.right ∧ (takeB b s).1.num = b.num ∧ (takeB b s).1.den = b.den ∧ (takeB b s).1.bu = b.bu ∧ (takeB b s).1.at' = s.at' ∧
    (if (takeB b s).2.1 then s.by' else 0) * b.den + (takeB b s).1.lv = (filled b s.at').lv := by
  obtain ⟨h1, h2, h3⟩ := h
  have hf := filled_right h1 h2
  have hc := h1.cost h3
  by_cases hl : s.by' * b.den ≤ (filled b s.at').lv
  · rw [take_yes h1 h2 h3 hl]
    refine ⟨rfl, ?_, rfl, rfl, rfl, rfl, ?_⟩
    · obtain ⟨f1, f2, f3, f4, f5, f6, f7, f8, f9, f10⟩ := hf
      exact ⟨f1, f2, f3, f4, f5, f6, by simp only; omega, by simp only; omega, f9, f10⟩
    · simp only [if_true]; omega
  · rw [take_no h1 h2 h3 hl]
    refine ⟨rfl, hf, rfl, rfl, rfl, rfl, ?_⟩
    simp
theorem filled_lv {b : Bk} {t : Int} (h : b.right) (ht : okT b t) : (filled b t).lv ≤ b.bu * b.den ∧ (filled b t).lv ≤ b.lv + b.num * (t - b.at') := by
  unfold filled
  simp only
  rw [Int.mul_comm b.num]
  omega

/-- The run. -/
def run : Bk → List S → Option (List Bool × Bk)
  | b, [] => some ([], b)
  | b, s :: r => if good b s then (run (takeB b s).1 r).map fun p => ((takeB b s).2.1 :: p.1, p.2) else none
theorem run_cons (b : Bk) (s : S) (r : List S) : run b (s :: r) = if good b s then (run (takeB b s).1 r).map fun p => ((takeB b s).2.1 :: p.1, p.2) else none := rfl
theorem run_length {m : Bk} {l : List S} {out : List Bool} {m' : Bk} (hr : run m l = some (out, m')) : out.length = l.length := by
  induction l generalizing m out m' with
  | nil => simp [run] at hr; simp [← hr.1]
  | cons s r ih =>
    rw [run_cons] at hr
    by_cases hg : good m s
    · rw [if_pos hg] at hr
      obtain ⟨⟨o, m2⟩, h1, h2⟩ := Option.map_eq_some_iff.1 hr
      simp only [Prod.mk.injEq] at h2
      obtain ⟨rfl, rfl⟩ := h2
      simp [ih h1]
    · rw [if_neg hg] at hr; cases hr

def sums : List Bool → List S → Int
  | c :: cs, s :: l => (if c then s.by' else 0) + sums cs l
  | _, _ => 0
theorem sums_snoc (c : Bool) (s : S) : ∀ (cs : List Bool) (l : List S), cs.length = l.length → sums (cs ++ [c]) (l ++ [s]) = sums cs l + (if c then s.by' else 0)
  | [], [], _ => by simp [sums]
  | a :: cs, b :: l, h => by simp only [List.cons_append, sums, sums_snoc c s cs l (by simpa using h)]; omega
  | [], _ :: _, h => by simp at h
  | _ :: _, [], h => by simp at h

theorem run_from {m : Bk} {l : List S} {out : List Bool} {m' : Bk} (hr : run m l = some (out, m')) : ∀ (n : Nat), n < l.length →
    sums (out.take (n + 1)) (l.take (n + 1)) * m.den ≤ m.lv + m.num * ((l.getD n s0).at' - m.at') := by
  induction l generalizing m out m' with
  | nil => intro n hn; simp at hn
  | cons s r ih =>
    intro n hn
    rw [run_cons] at hr
    by_cases hg : good m s
    · rw [if_pos hg] at hr
      obtain ⟨⟨o, m2⟩, h1, h2⟩ := Option.map_eq_some_iff.1 hr
      simp only [Prod.mk.injEq] at h2
      obtain ⟨rfl, rfl⟩ := h2
      obtain ⟨a1, a2, a3, a4, a5, a6, a7⟩ := take_good hg
      obtain ⟨f1, f2⟩ := filled_lv hg.1 hg.2.1
      have hlv : 0 ≤ (takeB m s).1.lv := a2.2.2.2.2.2.2.1
      cases n with
      | zero => simp only [List.take_succ_cons, List.take_zero, sums, List.getD_cons_zero, Int.add_zero]; omega
      | succ n =>
        have b1 := ih h1 n (by simpa using hn)
        simp only [List.take_succ_cons, sums, List.getD_cons_succ]
        rw [a3, a4, a6] at b1
        generalize (r.getD n s0).at' = T at *
        have e : m.num * (T - m.at') = m.num * (s.at' - m.at') + m.num * (T - s.at') := by rw [← Int.mul_add]; congr 1; omega
        rw [e, Int.add_mul]
        generalize m.num * (s.at' - m.at') = P at *
        generalize m.num * (T - s.at') = Q at *
        omega
    · rw [if_neg hg] at hr; cases hr

theorem run_drop {m : Bk} {l : List S} {out : List Bool} {m' : Bk} (hr : run m l = some (out, m')) : ∀ (i : Nat), i ≤ l.length → ∃ x : Bk, x.num = m.num ∧ x.den = m.den ∧ x.bu = m.bu ∧ run x (l.drop i) = some (out.drop i, m') := by
  induction l generalizing m out m' with
  | nil => intro i hi; exact ⟨m, rfl, rfl, rfl, by simp at hi; subst hi; simpa using hr⟩
  | cons s r ih =>
    intro i hi
    cases i with
    | zero => exact ⟨m, rfl, rfl, rfl, hr⟩
    | succ i =>
      rw [run_cons] at hr
      by_cases hg : good m s
      · rw [if_pos hg] at hr
        obtain ⟨⟨o, m2⟩, h1, h2⟩ := Option.map_eq_some_iff.1 hr
        simp only [Prod.mk.injEq] at h2
        obtain ⟨rfl, rfl⟩ := h2
        obtain ⟨a1, a2, a3, a4, a5, a6, a7⟩ := take_good hg
        obtain ⟨x, b1, b2, b3, b5⟩ := ih h1 i (by simpa using hi)
        exact ⟨x, by omega, by omega, by omega, by simpa using b5⟩
      · rw [if_neg hg] at hr; cases hr

def part {α : Type} (l : List α) (i n : Nat) : List α := (l.drop i).take n
theorem bound {m : Bk} {l : List S} {out : List Bool} {m' : Bk} (hr : run m l = some (out, m')) (i j : Nat) (hij : i ≤ j) (hj : j < l.length) :
    sums (part out i (j + 1 - i)) (part l i (j + 1 - i)) * m.den ≤ m.bu * m.den + m.num * ((l.getD j s0).at' - (l.getD i s0).at') := by
  obtain ⟨x, e1, e2, e3, hrx⟩ := run_drop hr i (by omega)
  have hi : i < l.length := by omega
  have hd : l.drop i = l.getD i s0 :: l.drop (i + 1) := by
    rw [List.drop_eq_getElem_cons hi]; simp [List.getD_eq_getElem?_getD, hi]
  have hs : (l.getD j s0) = (l.drop i).getD (j - i) s0 := by simp [List.getD_eq_getElem?_getD, show i + (j - i) = j by omega]
  rw [hs]
  unfold part
  rw [hd] at hrx ⊢
  generalize l.getD i s0 = s at *
  generalize hR : l.drop (i + 1) = R at *
  have hlen : j - i < (s :: R).length := by have := congrArg List.length hd; simp at this ⊢; omega
  rw [run_cons] at hrx
  by_cases hg : good x s
  · rw [if_pos hg] at hrx
    obtain ⟨⟨o, m2⟩, h1, h2⟩ := Option.map_eq_some_iff.1 hrx
    simp only [Prod.mk.injEq] at h2
    obtain ⟨h2, rfl⟩ := h2
    rw [← h2]
    obtain ⟨a1, a2, a3, a4, a5, a6, a7⟩ := take_good hg
    obtain ⟨f1, f2⟩ := filled_lv hg.1 hg.2.1
    have hlv : 0 ≤ (takeB x s).1.lv := a2.2.2.2.2.2.2.1
    rw [show j + 1 - i = (j - i) + 1 by omega]
    generalize j - i = n at *
    simp only [List.take_succ_cons, sums]
    rw [← e1, ← e2, ← e3]
    cases n with
    | zero =>
      simp only [List.take_zero, sums, List.getD_cons_zero, Int.add_zero, Int.sub_self, Int.mul_zero]
      omega
    | succ n =>
      have b1 := run_from h1 n (by simpa using hlen)
      simp only [List.getD_cons_succ]
      rw [a3, a4, a6] at b1
      rw [Int.add_mul]
      generalize (R.getD n s0).at' = T at *
      omega
  · rw [if_neg hg] at hrx; cases hrx
/-- What a run tells of each shot. -/
theorem run_get {m : Bk} {l : List S} {out : List Bool} {m' : Bk} (hr : run m l = some (out, m')) (i : Nat) (hi : i < l.length) : 0 ≤ (l.getD i s0).at' ∧ (l.getD i s0).at' ≤ 1099511627776 ∧ 0 ≤ (l.getD i s0).by' ∧ (l.getD i s0).by' ≤ 1048576 := by
  obtain ⟨x, e1, e2, e3, hrx⟩ := run_drop hr i (by omega)
  have hd : l.drop i = l.getD i s0 :: l.drop (i + 1) := by
    rw [List.drop_eq_getElem_cons hi]; simp [List.getD_eq_getElem?_getD, hi]
  rw [hd, run_cons] at hrx
  by_cases hg : good x (l.getD i s0)
  · obtain ⟨⟨_, _, _, _, _, _, _, _, g9, _⟩, ⟨g1, g2⟩, g3, g4⟩ := hg
    exact ⟨by omega, g2, g3, g4⟩
  · rw [if_neg hg] at hrx; cases hrx
end Go.Proofs.Ythiigjcmaaojiaa
