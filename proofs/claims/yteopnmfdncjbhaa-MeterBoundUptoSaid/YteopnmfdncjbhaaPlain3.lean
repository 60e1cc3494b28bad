import Derived.Test.YteopnmfdncjbhaaPlain2
/- the plain law of a run of packets: no more is green than was committed -/
set_option linter.unusedVariables false
namespace Go.Proofs.Yteopnmfdncjbhaa

theorem come_most {m : M} {s : S} {had : Int} (h : good m s had) : come m s ≤ (s.at' - m.at') * m.co := by
  rw [come_eq h]; omega

/-- The meter and the colour behind one packet. -/
def next (m : M) (s : S) : M × Int := taken (filled m s) s 1
/-- The run. -/
def run : M → List S → Option (List Int × M)
  | m, [] => some ([], m)
  | m, s :: r => if good m s 1 then (run (next m s).1 r).map fun p => ((next m s).2 :: p.1, p.2) else none
theorem run_cons (m : M) (s : S) (r : List S) : run m (s :: r) = if good m s 1 then (run (next m s).1 r).map fun p => ((next m s).2 :: p.1, p.2) else none := rfl

def greenOf (c b : Int) : Int := if c = 1 then b else 0
def bothOf (c b : Int) : Int := if c ≠ 3 then b else 0

theorem next_step {m : M} {s : S} (h : good m s 1) :
    (next m s).1.at' = s.at' ∧ (next m s).1.co = m.co ∧ (next m s).1.bu = m.bu ∧ (next m s).1.ex = m.ex ∧
    greenOf (next m s).2 s.by' + (next m s).1.fi ≤ m.bu ∧ greenOf (next m s).2 s.by' + (next m s).1.fi ≤ m.fi + m.co * (s.at' - m.at') ∧
    bothOf (next m s).2 s.by' + (next m s).1.fi + (next m s).1.se ≤ m.bu + m.ex ∧ bothOf (next m s).2 s.by' + (next m s).1.fi + (next m s).1.se ≤ m.fi + m.se + m.co * (s.at' - m.at') ∧
    0 ≤ (next m s).1.fi ∧ 0 ≤ (next m s).1.se ∧ ((next m s).2 = 1 ∨ (next m s).2 = 2 ∨ (next m s).2 = 3) := by
  have h1 := come_range h
  have h2 := come_most h
  rw [Int.mul_comm] at h2
  generalize m.co * (s.at' - m.at') = P at *
  obtain ⟨⟨g1, g2, g3, g4, g5, g6, g7, g8, g9, g10, g11, g12⟩, _, _, g15, g16, g17, g18⟩ := h
  unfold next taken filled greenOf bothOf
  have hf : min (come m s) (m.bu - m.fi) ≤ come m s ∧ min (come m s) (m.bu - m.fi) ≤ m.bu - m.fi ∧ 0 ≤ min (come m s) (m.bu - m.fi) ∧ (come m s ≤ m.bu - m.fi → min (come m s) (m.bu - m.fi) = come m s) := by omega
  generalize min (come m s) (m.bu - m.fi) = f at *
  generalize come m s = k at *
  obtain ⟨f1, f2, f3, f4⟩ := hf
  have c1 : ¬ (m.co = 0 ∧ m.co = 1) := by omega
  by_cases d1 : s.by' ≤ m.fi + f
  · simp [d1]; omega
  · by_cases d2 : s.by' ≤ m.se + (k - f)
    · simp [d1, d2]; omega
    · simp [d1, d2]; omega

theorem next_good {m : M} {s : S} (h : good m s 1) : (next m s).1.right := taken_right (filled_right h) (by have := h.2; omega)

/-- Sums of a row, from the i-th packet on, of colours and bytes. -/
def greens : List Int → List S → Int
  | c :: cs, s :: l => greenOf c s.by' + greens cs l
  | _, _ => 0
def boths : List Int → List S → Int
  | c :: cs, s :: l => bothOf c s.by' + boths cs l
  | _, _ => 0

/-- Behind any first part of a run that is at hand. -/
theorem run_from {m : M} {l : List S} {out : List Int} {m' : M} (hr : run m l = some (out, m')) : ∀ (n : Nat) (hn : n < l.length),
    greens (out.take (n + 1)) (l.take (n + 1)) ≤ m.fi + m.co * ((l.getD n ⟨0, 0⟩).at' - m.at') ∧ boths (out.take (n + 1)) (l.take (n + 1)) ≤ m.fi + m.se + m.co * ((l.getD n ⟨0, 0⟩).at' - m.at') ∧ m.at' ≤ (l.getD n ⟨0, 0⟩).at' := by
  induction l generalizing m out m' with
  | nil => intro n hn; simp at hn
  | cons s r ih =>
    intro n hn
    rw [run_cons] at hr
    by_cases hg : good m s 1
    · rw [if_pos hg] at hr
      obtain ⟨⟨o, m2⟩, h1, h2⟩ := Option.map_eq_some_iff.1 hr
      simp only [Prod.mk.injEq] at h2
      obtain ⟨rfl, rfl⟩ := h2
      obtain ⟨a1, a2, a3, a4, a5, a6, a7, a8, a9, a10, _⟩ := next_step hg
      have hat := hg.2.2.2.1
      cases n with
      | zero => simp [greens, boths]; omega
      | succ n =>
        obtain ⟨b1, b2, b3⟩ := ih h1 n (by simpa using hn)
        simp only [List.take_succ_cons, greens, boths, List.getD_cons_succ]
        rw [a1, a2] at b1 b2
        rw [a1] at b3
        generalize (r.getD n ⟨0, 0⟩).at' = T at *
        have e : m.co * (T - m.at') = m.co * (s.at' - m.at') + m.co * (T - s.at') := by rw [← Int.mul_add]; congr 1; omega
        rw [e]
        generalize m.co * (s.at' - m.at') = P at *
        generalize m.co * (T - s.at') = Q at *
        omega
    · rw [if_neg hg] at hr; cases hr

theorem run_length {m : M} {l : List S} {out : List Int} {m' : M} (hr : run m l = some (out, m')) : out.length = l.length := by
  induction l generalizing m out m' with
  | nil => simp [run] at hr; simp [← hr.1]
  | cons s r ih =>
    rw [run_cons] at hr
    by_cases hg : good m s 1
    · rw [if_pos hg] at hr
      obtain ⟨⟨o, m2⟩, h1, h2⟩ := Option.map_eq_some_iff.1 hr
      simp only [Prod.mk.injEq] at h2
      obtain ⟨rfl, rfl⟩ := h2
      simp [ih h1]
    · rw [if_neg hg] at hr; cases hr

/-- From the i-th packet on. -/
theorem run_drop {m : M} {l : List S} {out : List Int} {m' : M} (hr : run m l = some (out, m')) (hm : m.right) : ∀ (i : Nat), i ≤ l.length → ∃ x : M, x.co = m.co ∧ x.bu = m.bu ∧ x.ex = m.ex ∧ x.right ∧ run x (l.drop i) = some (out.drop i, m') := by
  induction l generalizing m out m' with
  | nil => intro i hi; exact ⟨m, rfl, rfl, rfl, hm, by simp at hi; subst hi; simpa using hr⟩
  | cons s r ih =>
    intro i hi
    cases i with
    | zero => exact ⟨m, rfl, rfl, rfl, hm, hr⟩
    | succ i =>
      rw [run_cons] at hr
      by_cases hg : good m s 1
      · rw [if_pos hg] at hr
        obtain ⟨⟨o, m2⟩, h1, h2⟩ := Option.map_eq_some_iff.1 hr
        simp only [Prod.mk.injEq] at h2
        obtain ⟨rfl, rfl⟩ := h2
        obtain ⟨a1, a2, a3, a4, _⟩ := next_step hg
        obtain ⟨x, b1, b2, b3, b4, b5⟩ := ih h1 (next_good hg) i (by simpa using hi)
        exact ⟨x, by omega, by omega, by omega, b4, by simpa using b5⟩
      · rw [if_neg hg] at hr; cases hr

def part {α : Type} (l : List α) (i n : Nat) : List α := (l.drop i).take n

theorem bound {m : M} {l : List S} {out : List Int} {m' : M} (hm : m.right) (hr : run m l = some (out, m')) (i j : Nat) (hij : i ≤ j) (hj : j < l.length) :
    greens (part out i (j + 1 - i)) (part l i (j + 1 - i)) ≤ m.bu + m.co * ((l.getD j ⟨0, 0⟩).at' - (l.getD i ⟨0, 0⟩).at') ∧
    boths (part out i (j + 1 - i)) (part l i (j + 1 - i)) ≤ m.bu + m.ex + m.co * ((l.getD j ⟨0, 0⟩).at' - (l.getD i ⟨0, 0⟩).at') := by
  obtain ⟨x, e1, e2, e3, hx, hrx⟩ := run_drop hr hm i (by omega)
  have hi : i < l.length := by omega
  have hd : l.drop i = l.getD i ⟨0, 0⟩ :: l.drop (i + 1) := by
    rw [List.drop_eq_getElem_cons hi]; simp [List.getD_eq_getElem?_getD, hi]
  have hs : (l.getD j ⟨0, 0⟩) = (l.drop i).getD (j - i) ⟨0, 0⟩ := by simp [List.getD_eq_getElem?_getD, show i + (j - i) = j by omega]
  rw [hs]
  unfold part
  rw [hd] at hrx ⊢
  generalize l.getD i ⟨0, 0⟩ = s at *
  generalize hR : l.drop (i + 1) = R at *
  have hlen : j - i < (s :: R).length := by have := congrArg List.length hd; simp at this ⊢; omega
  rw [run_cons] at hrx
  by_cases hg : good x s 1
  · rw [if_pos hg] at hrx
    obtain ⟨⟨o, m2⟩, h1, h2⟩ := Option.map_eq_some_iff.1 hrx
    simp only [Prod.mk.injEq] at h2
    obtain ⟨h2, rfl⟩ := h2
    rw [← h2]
    obtain ⟨a1, a2, a3, a4, a5, a6, a7, a8, a9, a10, _⟩ := next_step hg
    rw [show j + 1 - i = (j - i) + 1 by omega]
    generalize j - i = n at *
    simp only [List.take_succ_cons, greens, boths]
    cases n with
    | zero => simp [greens, boths]; omega
    | succ n =>
      obtain ⟨b1, b2, b3⟩ := run_from h1 n (by simpa using hlen)
      simp only [List.getD_cons_succ]
      rw [a1, a2] at b1 b2
      generalize (R.getD n ⟨0, 0⟩).at' = T at *
      rw [e1] at b1 b2
      generalize m.co * (T - s.at') = Q at *
      omega
  · rw [if_neg hg] at hrx; cases hrx

theorem greens_snoc (c : Int) (s : S) : ∀ (cs : List Int) (l : List S), cs.length = l.length → greens (cs ++ [c]) (l ++ [s]) = greens cs l + greenOf c s.by'
  | [], [], _ => by simp [greens]
  | a :: cs, b :: l, h => by simp only [List.cons_append, greens, greens_snoc c s cs l (by simpa using h)]; omega
  | [], _ :: _, h => by simp at h
  | _ :: _, [], h => by simp at h
theorem boths_snoc (c : Int) (s : S) : ∀ (cs : List Int) (l : List S), cs.length = l.length → boths (cs ++ [c]) (l ++ [s]) = boths cs l + bothOf c s.by'
  | [], [], _ => by simp [boths]
  | a :: cs, b :: l, h => by simp only [List.cons_append, boths, boths_snoc c s cs l (by simpa using h)]; omega
  | [], _ :: _, h => by simp at h
  | _ :: _, [], h => by simp at h

end Go.Proofs.Yteopnmfdncjbhaa
