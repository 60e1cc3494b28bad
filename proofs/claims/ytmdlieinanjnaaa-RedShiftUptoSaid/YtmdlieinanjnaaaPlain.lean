/- the plain laws of drops -/
set_option linter.unusedVariables false
namespace Go.Proofs.Ytmdlieinanjnaaa

def isRoot (r n : Int) : Prop := 0 ≤ r ∧ r * r ≤ n ∧ n < (r + 1) * (r + 1)
theorem sq_le {a b : Int} (h0 : 0 ≤ a) (h : a ≤ b) : a * a ≤ b * b := Int.mul_le_mul h h h0 (by omega)
theorem isRoot.mono {r n s m : Int} (h : isRoot r n) (h' : isRoot s m) (hn : n ≤ m) : r ≤ s := by
  obtain ⟨a, b, c⟩ := h
  obtain ⟨d, e, f⟩ := h'
  by_cases hs : r ≤ s
  · exact hs
  · have := sq_le (show 0 ≤ s + 1 by omega) (show s + 1 ≤ r by omega)
    omega
theorem isRoot.eq {r n s : Int} (h : isRoot r n) (h' : isRoot s n) : r = s := by
  have := h.mono h' (by omega); have := h'.mono h (by omega); omega
/-- The root of a whole number. -/
def rootN : Nat → Int
  | 0 => 0
  | n + 1 => if (rootN n + 1) * (rootN n + 1) ≤ ((n + 1 : Nat) : Int) then rootN n + 1 else rootN n
theorem rootN_is : ∀ n : Nat, isRoot (rootN n) n
  | 0 => by unfold isRoot rootN; omega
  | n + 1 => by
    obtain ⟨h0, h1, h2⟩ := rootN_is n
    unfold rootN
    by_cases h : (rootN n + 1) * (rootN n + 1) ≤ ((n + 1 : Nat) : Int)
    · rw [if_pos h]
      refine ⟨by omega, h, ?_⟩
      have h3 := sq_le (show 0 ≤ rootN n + 1 by omega) (show rootN n + 1 ≤ rootN n + 1 by omega)
      rw [show (rootN n + 1 + 1) * (rootN n + 1 + 1) = (rootN n + 1) * (rootN n + 1) + (rootN n + 1) + (rootN n + 1) + 1 by rw [Int.add_mul (rootN n + 1) 1, Int.mul_add, Int.one_mul, Int.mul_one]; omega]
      omega
    · rw [if_neg h]
      exact ⟨h0, by omega, by omega⟩
/-- The root of n times 2 ^ 20. -/
def root (n : Int) : Int := rootN (n * 1048576).toNat
theorem root_is (n : Int) (h : 0 ≤ n) : isRoot (root n) (n * 1048576) := by
  have := rootN_is (n * 1048576).toNat
  rwa [show (((n * 1048576).toNat : Nat) : Int) = n * 1048576 by omega] at this
theorem root_mono {n m : Int} (h0 : 0 ≤ n) (h : n ≤ m) : root n ≤ root m := (root_is n h0).mono (root_is m (by omega)) (by omega)
theorem root_low {n : Int} (h : 1 ≤ n) : 1024 ≤ root n := by
  have h1 : isRoot 1024 1048576 := by unfold isRoot; omega
  exact h1.mono (root_is n (by omega)) (by omega)
theorem root_high {n : Int} (h0 : 0 ≤ n) (h : n ≤ 400) : root n ≤ 20480 := by
  have h1 : isRoot 20480 (20480 * 20480) := by unfold isRoot; omega
  exact (root_is n h0).mono h1 (by omega)
theorem root_four {n : Int} (h : 1 ≤ n) : 2 * root n ≤ root (4 * n) ∧ root (4 * n) ≤ 2 * root n + 1 := by
  obtain ⟨a, b, c⟩ := root_is n (by omega)
  have h4 := root_is (4 * n) (by omega)
  generalize root n = r at *
  have e1 : (2 * r) * (2 * r) = 4 * (r * r) := by rw [Int.mul_assoc, Int.mul_left_comm r 2 r]; omega
  have e2 : (2 * r + 2) * (2 * r + 2) = 4 * ((r + 1) * (r + 1)) := by
    rw [show 2 * r + 2 = 2 * (r + 1) by omega, Int.mul_assoc, Int.mul_left_comm (r + 1) 2 (r + 1)]; omega
  obtain ⟨d, e, f⟩ := h4
  generalize root (4 * n) = s at *
  constructor
  · by_cases hc : 2 * r ≤ s
    · exact hc
    · have := sq_le (show 0 ≤ s + 1 by omega) (show s + 1 ≤ 2 * r by omega)
      omega
  · by_cases hc : s ≤ 2 * r + 1
    · exact hc
    · have := sq_le (show 0 ≤ 2 * r + 2 by omega) (show 2 * r + 2 ≤ s by omega)
      omega

/-- How long it is from the n-th drop to the next one. -/
def gap (iv n : Int) : Int := iv * 1024 / root n
theorem gap_range {iv n : Int} (h : 1 ≤ iv) (hn : 1 ≤ n) : 0 ≤ gap iv n ∧ gap iv n ≤ iv := by
  have hr := root_low hn
  unfold gap
  refine ⟨Int.ediv_nonneg (by omega) (by omega), ?_⟩
  have : iv * 1024 / root n < iv + 1 := by
    rw [Int.ediv_lt_iff_lt_mul (by omega)]
    have := Int.mul_le_mul_of_nonneg_left hr (show 0 ≤ iv + 1 by omega)
    omega
  omega
theorem gap_mono {iv n : Int} (h : 1 ≤ iv) (hn : 1 ≤ n) : gap iv (n + 1) ≤ gap iv n := by
  have hr := root_low hn
  have hm := root_mono (n := n) (m := n + 1) (by omega) (by omega)
  unfold gap
  rw [Int.le_ediv_iff_mul_le (by omega)]
  have h1 : iv * 1024 / root (n + 1) * root (n + 1) ≤ iv * 1024 := Int.ediv_mul_le _ (by omega)
  have h0 : 0 ≤ iv * 1024 / root (n + 1) := Int.ediv_nonneg (by omega) (by omega)
  have := Int.mul_le_mul_of_nonneg_left hm h0
  omega
theorem gap_four {iv n : Int} (h : 1 ≤ iv) (hn : 1 ≤ n) : 2 * gap iv (4 * n) ≤ gap iv n ∧ gap iv n ≤ 2 * gap iv (4 * n) + 2 + gap iv n / 1024 := by
  have hr := root_low hn
  obtain ⟨f1, f2⟩ := root_four hn
  unfold gap
  generalize root n = r at *
  generalize root (4 * n) = s at *
  have hX : 0 ≤ iv * 1024 := by omega
  generalize iv * 1024 = X at *
  have a1 : X / r * r ≤ X := Int.ediv_mul_le _ (by omega)
  have a2 : X < (X / r + 1) * r := Int.lt_ediv_add_one_mul_self _ (by omega)
  have c1 : X / s * s ≤ X := Int.ediv_mul_le _ (by omega)
  have c2 : X < (X / s + 1) * s := Int.lt_ediv_add_one_mul_self _ (by omega)
  have a0 : 0 ≤ X / r := Int.ediv_nonneg hX (by omega)
  have c0 : 0 ≤ X / s := Int.ediv_nonneg hX (by omega)
  constructor
  · rw [Int.le_ediv_iff_mul_le (by omega)]
    have := Int.mul_le_mul_of_nonneg_left f1 c0
    rw [show 2 * (X / s) * r = X / s * (2 * r) by rw [Int.mul_comm 2, Int.mul_assoc]]
    omega
  · generalize X / r = A at *
    generalize X / s = C at *
    -- A r ≤ X < (C + 1) s ≤ (C + 1) (2 r + 1)
    have h1 := Int.mul_le_mul_of_nonneg_left f2 (show 0 ≤ C + 1 by omega)
    have h2 : A * r < (C + 1) * (2 * r + 1) := by omega
    rw [Int.mul_add, Int.mul_one, show (C + 1) * (2 * r) = (2 * C + 2) * r by rw [← Int.mul_assoc, Int.mul_comm (C + 1) 2, Int.mul_add, Int.mul_one]] at h2
    by_cases ht : A ≤ 2 * C + 2
    · have := Int.ediv_nonneg a0 (show (0 : Int) ≤ 1024 by omega)
      omega
    · have h3 : (A - (2 * C + 2)) * r < C + 1 := by rw [Int.sub_mul]; omega
      have h4 := Int.mul_le_mul_of_nonneg_left hr (show 0 ≤ A - (2 * C + 2) by omega)
      have h5 : A - (2 * C + 2) ≤ A / 1024 := by
        rw [Int.le_ediv_iff_mul_le (by omega)]
        omega
      omega

structure X where
  at' : Int
  wa : Int
  deriving DecidableEq
structure St where
  since : Int
  drop : Bool
  next : Int
  many : Int
  deriving DecidableEq
def St.zero : St := ⟨-1, false, 0, 0⟩

def due (iv : Int) (s : St) (x : X) : Prop := (s.drop = false ∧ iv ≤ x.at' - s.since) ∨ (s.drop = true ∧ s.next ≤ x.at')
instance (iv : Int) (s : St) (x : X) : Decidable (due iv s x) := by unfold due; infer_instance
def step (tg iv : Int) (s : St) (x : X) : St × Bool :=
  if x.wa < tg then (.zero, false)
  else if s.since < 0 then ({ s with since := x.at' }, false)
  else if due iv s x then (⟨s.since, true, (if s.drop then s.next else x.at') + gap iv (s.many + 1), s.many + 1⟩, true)
  else (s, false)
def okX (last : Int) (x : X) : Prop := last ≤ x.at' ∧ x.at' ≤ 1099511627776 ∧ 0 ≤ x.wa ∧ x.wa ≤ 1099511627776
instance (last : Int) (x : X) : Decidable (okX last x) := by unfold okX; infer_instance
def run (tg iv : Int) : Int → St → List X → Option (List Bool)
  | _, _, [] => some []
  | last, s, x :: r => if okX last x then (run tg iv x.at' (step tg iv s x).1 r).map fun l => (step tg iv s x).2 :: l else none
theorem run_cons (tg iv last : Int) (s : St) (x : X) (r : List X) : run tg iv last s (x :: r) = if okX last x then (run tg iv x.at' (step tg iv s x).1 r).map fun l => (step tg iv s x).2 :: l else none := rfl

theorem run_length {tg iv : Int} : ∀ {l : List X} {last : Int} {s : St} {out : List Bool}, run tg iv last s l = some out → out.length = l.length
  | [], last, s, out, h => by simp [run] at h; simp [← h]
  | x :: r, last, s, out, h => by
    rw [run_cons] at h
    by_cases hg : okX last x
    · rw [if_pos hg] at h
      obtain ⟨o, h1, rfl⟩ := Option.map_eq_some_iff.1 h
      simp [run_length h1]
    · rw [if_neg hg] at h; cases h
theorem run_take {tg iv : Int} : ∀ {l : List X} {last : Int} {s : St} {out : List Bool} (n : Nat), run tg iv last s l = some out → run tg iv last s (l.take n) = some (out.take n)
  | [], last, s, out, n, h => by
    obtain rfl : out = [] := by simpa [run, eq_comm] using h
    simp [run]
  | x :: r, last, s, out, 0, h => by simp [run]
  | x :: r, last, s, out, n + 1, h => by
    rw [run_cons] at h
    by_cases hg : okX last x
    · rw [if_pos hg] at h
      obtain ⟨o, h1, rfl⟩ := Option.map_eq_some_iff.1 h
      rw [List.take_succ_cons, run_cons, if_pos hg, run_take n h1]; simp
    · rw [if_neg hg] at h; cases h

/-- The state's invariant: behind so many packets, at this time. -/
structure Inv (iv : Int) (last : Int) (n : Nat) (s : St) : Prop where
  l0 : 0 ≤ last
  l1 : last ≤ 1099511627776
  s0 : -1 ≤ s.since
  s1 : s.since ≤ last
  m0 : 0 ≤ s.many
  m1 : s.many ≤ n
  n0 : 0 ≤ s.next
  n1 : s.next ≤ 1099511627776 + s.many * 1048576
  d : s.drop = true → 0 ≤ s.since ∧ iv ≤ last - s.since ∧ 1 ≤ s.many
theorem Inv.zero {iv last : Int} (n : Nat) (h0 : 0 ≤ last) (h1 : last ≤ 1099511627776) : Inv iv last n .zero :=
  ⟨h0, h1, by decide, by simp only [St.zero]; omega, by decide, by simp only [St.zero]; omega, by decide, by simp only [St.zero]; omega, fun h => by cases h⟩
theorem Inv.after {tg iv last : Int} {n : Nat} {s : St} {x : X} (hiv : 1 ≤ iv ∧ iv ≤ 1048576) (h : Inv iv last n s) (hx : okX last x) : Inv iv x.at' (n + 1) (step tg iv s x).1 := by
  obtain ⟨l0, l1, s0, s1, m0, m1, n0, n1, d⟩ := h
  obtain ⟨x0, x1, x2, x3⟩ := hx
  have hg := gap_range hiv.1 (show 1 ≤ s.many + 1 by omega)
  unfold step
  by_cases h1 : x.wa < tg
  · rw [if_pos h1]; exact .zero _ (by omega) x1
  · rw [if_neg h1]
    by_cases h2 : s.since < 0
    · rw [if_pos h2]
      have hd : s.drop = false := by
        cases hs : s.drop with
        | false => rfl
        | true => have := d hs; omega
      exact ⟨by omega, x1, by simp only; omega, by simp only; omega, m0, by simp only; omega, n0, n1, fun h => by simp only at h; rw [hd] at h; cases h⟩
    · rw [if_neg h2]
      by_cases h3 : due iv s x
      · rw [if_pos h3]
        have hiv' : iv ≤ x.at' - s.since := by
          rcases h3 with ⟨_, h3⟩ | ⟨h3, _⟩
          · exact h3
          · have := d h3; omega
        refine ⟨by omega, x1, s0, by simp only; omega, by simp only; omega, by simp only; omega, ?_, ?_, fun _ => ⟨by simp only; omega, hiv', by simp only; omega⟩⟩
        · simp only; split <;> omega
        · simp only; split <;> omega
      · rw [if_neg h3]
        refine ⟨by omega, x1, s0, by simp only; omega, m0, by simp only; omega, n0, n1, fun h => ?_⟩
        have := d h
        exact ⟨this.1, by simp only; omega, this.2.2⟩

/-- What the law's own eye keeps: from when on it has been too long. -/
theorem step_since {tg iv last : Int} {n : Nat} {s : St} {x : X} (h : Inv iv last n s) (hx : okX last x) :
    (step tg iv s x).1.since = (if x.wa < tg then -1 else if s.since < 0 then x.at' else s.since) ∧ ((step tg iv s x).2 = true → tg ≤ x.wa ∧ iv ≤ x.at' - (step tg iv s x).1.since) := by
  obtain ⟨l0, l1, s0, s1, m0, m1, n0, n1, d⟩ := h
  obtain ⟨x0, x1, x2, x3⟩ := hx
  unfold step
  by_cases h1 : x.wa < tg
  · simp only [if_pos h1]; exact ⟨rfl, fun h => by cases h⟩
  · simp only [if_neg h1]
    by_cases h2 : s.since < 0
    · simp only [if_pos h2]; exact ⟨trivial, fun h => by cases h⟩
    · simp only [if_neg h2]
      by_cases h3 : due iv s x
      · simp only [if_pos h3]
        refine ⟨trivial, fun _ => ⟨by omega, ?_⟩⟩
        rcases h3 with ⟨_, h3⟩ | ⟨h3, _⟩
        · exact h3
        · have := d h3; omega
      · simp only [if_neg h3]; exact ⟨trivial, fun h => by cases h⟩

/-- So much later. -/
structure Later (b : Int) (s s' : St) : Prop where
  since : s'.since = if s.since < 0 then s.since else s.since + b
  drop : s'.drop = s.drop
  many : s'.many = s.many
  next : s.drop = true → s'.next = s.next + b
theorem later_step {tg iv last b : Int} {n : Nat} {s s' : St} {x : X} (hb : 0 ≤ b) (h : Inv iv last n s) (hx : okX last x) (hs : Later b s s') :
    Later b (step tg iv s x).1 (step tg iv s' ⟨x.at' + b, x.wa⟩).1 ∧ (step tg iv s' ⟨x.at' + b, x.wa⟩).2 = (step tg iv s x).2 := by
  obtain ⟨l0, l1, s0, s1, m0, m1, n0, n1, d⟩ := h
  obtain ⟨x0, x1, x2, x3⟩ := hx
  obtain ⟨e1, e2, e3, e4⟩ := hs
  unfold step
  by_cases h1 : x.wa < tg
  · simp only [if_pos h1]; exact ⟨⟨by simp [St.zero], rfl, rfl, fun h => by cases h⟩, trivial⟩
  · simp only [if_neg h1]
    by_cases h2 : s.since < 0
    · rw [if_pos h2] at e1
      simp only [if_pos h2, show s'.since < 0 by omega, if_true]
      refine ⟨⟨?_, e2, e3, e4⟩, trivial⟩
      simp only
      rw [if_neg (by omega)]
    · rw [if_neg h2] at e1
      simp only [if_neg h2, if_neg (show ¬ s'.since < 0 by omega)]
      have hdue : due iv s' ⟨x.at' + b, x.wa⟩ ↔ due iv s x := by
        unfold due
        rw [e2]
        cases hd : s.drop with
        | false => simp; omega
        | true => have := e4 hd; simp; omega
      by_cases h3 : due iv s x
      · simp only [if_pos h3, if_pos (hdue.2 h3)]
        refine ⟨⟨?_, rfl, by simp only; omega, fun _ => ?_⟩, trivial⟩
        · simp only; rw [if_neg h2]; exact e1
        · simp only
          rw [e2, e3]
          cases hd : s.drop with
          | false => simp; omega
          | true => have := e4 hd; simp; omega
      · simp only [if_neg h3, if_neg (fun h => h3 (hdue.1 h))]
        exact ⟨⟨by rw [if_neg h2]; exact e1, e2, e3, e4⟩, trivial⟩
theorem run_later {tg iv b : Int} (hiv : 1 ≤ iv ∧ iv ≤ 1048576) (hb : 0 ≤ b) : ∀ {l : List X} {last last' : Int} {n : Nat} {s s' : St} {out out' : List Bool}, Inv iv last n s → Later b s s' →
    run tg iv last s l = some out → run tg iv last' s' (l.map fun x => ⟨x.at' + b, x.wa⟩) = some out' → out' = out
  | [], last, last', n, s, s', out, out', _, _, h, h' => by
    obtain rfl : out = [] := by simpa [run, eq_comm] using h
    simpa [run, eq_comm] using h'
  | x :: r, last, last', n, s, s', out, out', hi, hl, h, h' => by
    rw [List.map_cons] at h'
    rw [run_cons] at h h'
    by_cases hg : okX last x
    · rw [if_pos hg] at h
      by_cases hg' : okX last' ⟨x.at' + b, x.wa⟩
      · rw [if_pos hg'] at h'
        obtain ⟨o, h1, rfl⟩ := Option.map_eq_some_iff.1 h
        obtain ⟨o', h1', rfl⟩ := Option.map_eq_some_iff.1 h'
        obtain ⟨k1, k2⟩ := later_step (tg := tg) hb hi hg hl
        rw [k2, run_later hiv hb (hi.after (tg := tg) hiv hg) k1 h1 h1']
      · rw [if_neg hg'] at h'; cases h'
    · rw [if_neg hg] at h; cases h

/-- The run from a place on. -/
theorem run_drop {tg iv : Int} (hiv : 1 ≤ iv ∧ iv ≤ 1048576) : ∀ {l : List X} {last : Int} {n : Nat} {s : St} {out : List Bool} (i : Nat), run tg iv last s l = some out → Inv iv last n s → i ≤ l.length → ∃ last' s', run tg iv last' s' (l.drop i) = some (out.drop i) ∧ Inv iv last' (n + i) s'
  | l, last, n, s, out, 0, h, hi, _ => ⟨last, s, h, hi⟩
  | [], last, n, s, out, i + 1, h, hi, hl => by simp at hl
  | x :: r, last, n, s, out, i + 1, h, hi, hl => by
    rw [run_cons] at h
    by_cases hg : okX last x
    · rw [if_pos hg] at h
      obtain ⟨o, h1, rfl⟩ := Option.map_eq_some_iff.1 h
      obtain ⟨a, b, c, d⟩ := run_drop hiv i h1 (hi.after (tg := tg) hiv hg) (by simpa using hl)
      exact ⟨a, b, by simpa using c, by rw [show n + (i + 1) = n + 1 + i by omega]; exact d⟩
    · rw [if_neg hg] at h; cases h
end Go.Proofs.Ytmdlieinanjnaaa
