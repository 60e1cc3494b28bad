import Derived.Test.YtbgfplljfiahmaaPlain
/- what waits, how much room there is, and what goes -/
set_option linter.unusedVariables false
namespace Go.Proofs.Ytbgfplljfiahmaa

/-- What goes in a unit. -/
def goes (s : Pr) (w g n : Int) : Int := if 0 < w + n ∧ s.x ≤ g then min (w + n) s.y else 0
def since (w' g : Int) : Int := if w' = 0 then 0 else g + 1
/-- What waits, and since when: ahead of the i-th unit. -/
def st (s : Pr) (l : List Int) : Nat → Int × Int
  | 0 => (0, 0)
  | i + 1 => ((st s l i).1 + l.getD i 0 - goes s (st s l i).1 (st s l i).2 (l.getD i 0), since ((st s l i).1 + l.getD i 0 - goes s (st s l i).1 (st s l i).2 (l.getD i 0)) (st s l i).2)
def out (s : Pr) (l : List Int) (i : Nat) : Int := goes s (st s l i).1 (st s l i).2 (l.getD i 0)
/-- How much room there is. -/
def room (c : Pr) (l : List Int) : Nat → Int
  | 0 => c.x
  | i + 1 => min (room c l i) c.x + c.y - l.getD i 0
def keeps (c : Pr) (l : List Int) : Prop := ∀ i, i < l.length → 0 ≤ room c l (i + 1)
instance (c : Pr) (l : List Int) : Decidable (keeps c l) := by unfold keeps; infer_instance
def okL (l : List Int) : Prop := l.length ≤ 400 ∧ ∀ i, i < l.length → 0 ≤ l.getD i 0 ∧ l.getD i 0 ≤ 1048576
instance (l : List Int) : Decidable (okL l) := by unfold okL; infer_instance

theorem st_w (s : Pr) (l : List Int) (i : Nat) : (st s l (i + 1)).1 = (st s l i).1 + l.getD i 0 - out s l i := rfl
theorem st_s (s : Pr) (l : List Int) (i : Nat) : (st s l (i + 1)).2 = since (st s l (i + 1)).1 (st s l i).2 := rfl
theorem room_succ (c : Pr) (l : List Int) (i : Nat) : room c l (i + 1) = min (room c l i) c.x + c.y - l.getD i 0 := rfl

theorem goes_range {s : Pr} {w g n : Int} (hs : s.small) (hw : 0 ≤ w) (hn : 0 ≤ n) : 0 ≤ goes s w g n ∧ goes s w g n ≤ w + n ∧ goes s w g n ≤ s.y := by
  obtain ⟨_, _, h3, _⟩ := hs
  unfold goes
  split <;> omega
theorem st_range {s : Pr} {l : List Int} (hs : s.small) (hl : okL l) : ∀ i, i ≤ l.length → 0 ≤ (st s l i).1 ∧ (st s l i).1 ≤ i * 1048576 ∧ 0 ≤ (st s l i).2 ∧ (st s l i).2 ≤ i
  | 0, _ => by simp [st]
  | i + 1, h => by
    obtain ⟨a, b, c, d⟩ := st_range hs hl i (by omega)
    obtain ⟨e, f⟩ := hl.2 i (by omega)
    have hg := goes_range (g := (st s l i).2) hs a e
    rw [st_s, st_w]
    unfold since out
    split <;> omega
theorem out_range {s : Pr} {l : List Int} (hs : s.small) (hl : okL l) (i : Nat) (hi : i < l.length) : 0 ≤ out s l i ∧ out s l i ≤ 1048576 := by
  obtain ⟨a, b, c, d⟩ := st_range hs hl i (by omega)
  obtain ⟨e, f⟩ := hl.2 i hi
  have hg := goes_range (g := (st s l i).2) hs a e
  have := hs.2.2.2
  unfold out
  omega
theorem room_range {c : Pr} {l : List Int} (hc : c.small) (hl : okL l) (hk : keeps c l) : ∀ i, i ≤ l.length → 0 ≤ room c l i ∧ room c l i ≤ 2097152
  | 0, _ => by have := hc.1; have := hc.2.1; simp only [room]; omega
  | i + 1, h => by
    have h1 := hk i (by omega)
    have h2 := hl.2 i (by omega)
    have := hc.2.1
    have := hc.2.2.2
    refine ⟨h1, ?_⟩
    rw [room_succ]; omega

/-- How many units of a busy time are served. -/
def ex (s : Pr) (g : Int) : Int := max (g - s.x) 0

/-- No more waits than came in a busy time. -/
theorem busy {c s : Pr} {l : List Int} (hc : c.small) (hs : s.small) (hl : okL l) (hk : keeps c l) : ∀ i, i ≤ l.length → ((st s l i).1 = 0 ∧ (st s l i).2 = 0) ∨ (0 < (st s l i).1 ∧ 0 < (st s l i).2 ∧ (st s l i).1 + room c l i ≤ c.x + c.y * (st s l i).2 - s.y * ex s (st s l i).2)
  | 0, _ => .inl ⟨rfl, rfl⟩
  | i + 1, h => by
    have ih := busy hc hs hl hk i (by omega)
    obtain ⟨r1, r2, r3, r4⟩ := st_range hs hl i (by omega)
    obtain ⟨q1, q2⟩ := hl.2 i (by omega)
    have hs1 := hs.1
    rw [st_s, st_w, room_succ]
    unfold out
    generalize hw : (st s l i).1 = w at *
    generalize hg : (st s l i).2 = g at *
    generalize l.getD i 0 = n at *
    generalize room c l i = r at *
    by_cases h0 : w + n - goes s w g n = 0
    · left; rw [h0]; exact ⟨rfl, by simp [since]⟩
    · right
      have hgo := goes_range (g := g) hs r1 q1
      have e1 : since (w + n - goes s w g n) g = g + 1 := by unfold since; rw [if_neg h0]
      rw [e1]
      refine ⟨by omega, by omega, ?_⟩
      -- what goes is the rate, or nothing
      have hgoes : goes s w g n = s.y * (ex s (g + 1) - ex s g) := by
        unfold goes at h0 ⊢
        by_cases hx : s.x ≤ g
        · rw [show ex s (g + 1) - ex s g = 1 by unfold ex; omega, Int.mul_one]
          by_cases hp : 0 < w + n
          · rw [if_pos ⟨hp, hx⟩] at h0 ⊢; omega
          · rw [if_neg (by omega)] at h0; omega
        · rw [if_neg (by omega), show ex s (g + 1) - ex s g = 0 by unfold ex; omega, Int.mul_zero]
      have e2 : c.y * (g + 1) = c.y * g + c.y := by rw [Int.mul_add, Int.mul_one]
      rw [Int.mul_sub] at hgoes
      rw [e2]
      rcases ih with ⟨h1, h2⟩ | ⟨h1, h2, h3⟩
      · subst h1 h2
        have e3 : ex s 0 = 0 := by unfold ex; omega
        rw [e3, Int.mul_zero] at hgoes
        rw [Int.mul_zero]
        generalize s.y * ex s (0 + 1) = X at *
        omega
      · generalize s.y * ex s (g + 1) = X at *
        generalize s.y * ex s g = Y at *
        generalize c.y * g = Z at *
        omega

theorem backlog {c s : Pr} {l : List Int} (hc : c.small) (hs : s.small) (hl : okL l) (hk : keeps c l) (hr : c.y ≤ s.y) (i : Nat) (hi : i ≤ l.length) :
    (st s l i).1 + min (room c l i) c.x ≤ c.x + c.y * s.x ∧ (st s l i).1 ≤ c.x + c.y * s.x := by
  obtain ⟨r1, r2, r3, r4⟩ := st_range hs hl i hi
  have hrm := room_range hc hl hk i hi
  have hp : 0 ≤ c.y * s.x := Int.mul_nonneg hc.2.2.1 hs.1
  rcases busy (s := s) hc hs hl hk i hi with ⟨h1, h2⟩ | ⟨h1, h2, h3⟩
  · have := hc.1; omega
  · have key : c.y * (st s l i).2 - s.y * ex s (st s l i).2 ≤ c.y * s.x := by
      generalize (st s l i).2 = g at *
      by_cases hx : g ≤ s.x
      · rw [show ex s g = 0 by unfold ex; omega, Int.mul_zero]
        have := Int.mul_le_mul_of_nonneg_left hx hc.2.2.1
        omega
      · rw [show ex s g = g - s.x by unfold ex; omega]
        have := Int.mul_le_mul_of_nonneg_right hr (show 0 ≤ g - s.x by omega)
        rw [Int.mul_sub] at this
        omega
    omega

/-- What goes keeps a curve, too. -/
theorem out_keeps {c s : Pr} {l m : List Int} (hc : c.small) (hs : s.small) (hl : okL l) (hk : keeps c l) (hr : c.y ≤ s.y) (hml : m.length = l.length) (hm : ∀ i, i < l.length → m.getD i 0 = out s l i) :
    ∀ i, i ≤ l.length → (st s l i).1 + min (room c l i) c.x ≤ min (room ⟨c.x + c.y * s.x, c.y⟩ m i) (c.x + c.y * s.x)
  | 0, _ => by
    have hp : 0 ≤ c.y * s.x := Int.mul_nonneg hc.2.2.1 hs.1
    simp only [st, room]; omega
  | i + 1, h => by
    have ih := out_keeps hc hs hl hk hr hml hm i (by omega)
    have hb := backlog (s := s) hc hs hl hk hr (i + 1) h
    have e1 := room_succ c l i
    have e2 := room_succ ⟨c.x + c.y * s.x, c.y⟩ m i
    have e3 := st_w s l i
    rw [hm i (by omega)] at e2
    simp only at e2
    omega
theorem out_law {c s : Pr} {l m : List Int} (hc : c.small) (hs : s.small) (hl : okL l) (hk : keeps c l) (hr : c.y ≤ s.y) (hml : m.length = l.length) (hm : ∀ i, i < l.length → m.getD i 0 = out s l i) : keeps ⟨c.x + c.y * s.x, c.y⟩ m := by
  intro i hi
  have h1 := out_keeps hc hs hl hk hr hml hm (i + 1) (by omega)
  have h2 := st_range hs hl (i + 1) (by omega)
  have h3 := room_range hc hl hk (i + 1) (by omega)
  have := hc.1
  omega

/-- Sums. -/
def psum (f : Nat → Int) : Nat → Int
  | 0 => 0
  | n + 1 => psum f n + f n
theorem st_sum (s : Pr) (l : List Int) : ∀ i, (st s l i).1 = psum (fun j => l.getD j 0) i - psum (out s l) i
  | 0 => rfl
  | i + 1 => by rw [st_w, st_sum s l i]; simp only [psum]; omega

/-- What had come by the end of unit i: how much of it is there yet, t units later. -/
theorem later {s : Pr} {l : List Int} (hs : s.small) (hl : okL l) (K : Int) (i : Nat) (h0 : (st s l i).1 ≤ 0 ∨ (st s l i).1 ≤ K - s.y * ex s (st s l i).2) : ∀ t, i + t ≤ l.length →
    psum (fun j => l.getD j 0) i - psum (out s l) (i + t) ≤ 0 ∨ (psum (fun j => l.getD j 0) i - psum (out s l) (i + t) ≤ K - s.y * ex s ((st s l i).2 + t) ∧ (st s l (i + t)).2 = (st s l i).2 + t ∧ psum (fun j => l.getD j 0) i - psum (out s l) (i + t) ≤ (st s l (i + t)).1)
  | 0, _ => by
    have e := st_sum s l i
    simp only [Nat.add_zero, Int.natCast_zero, Int.add_zero]
    rw [← e]
    rcases h0 with h | h
    · exact .inl h
    · exact .inr ⟨h, trivial, Int.le_refl _⟩
  | t + 1, h => by
    have ih := later hs hl K i h0 t (by omega)
    obtain ⟨r1, r2, r3, r4⟩ := st_range hs hl (i + t) (by omega)
    obtain ⟨q1, q2⟩ := hl.2 (i + t) (by omega)
    have ho := out_range hs hl (i + t) (by omega)
    have e1 : psum (out s l) (i + (t + 1)) = psum (out s l) (i + t) + out s l (i + t) := rfl
    have e2 := st_w s l (i + t)
    have e3 := st_s s l (i + t)
    rw [show i + (t + 1) = i + t + 1 from rfl] at *
    rw [e1]
    generalize psum (fun j => l.getD j 0) i = A at *
    generalize psum (out s l) (i + t) = D at *
    rcases ih with h1 | ⟨h1, h2, h3⟩
    · left; omega
    · by_cases hq : A - (D + out s l (i + t)) ≤ 0
      · exact .inl hq
      · right
        have hw' : (st s l (i + t + 1)).1 ≠ 0 := by omega
        have hgo : out s l (i + t) = s.y * (ex s ((st s l i).2 + t + 1) - ex s ((st s l i).2 + t)) := by
          rw [e2] at hw'
          unfold out at hw' ⊢
          rw [← h2]
          generalize (st s l (i + t)).1 = w at *
          generalize (st s l (i + t)).2 = g at *
          generalize l.getD (i + t) 0 = n at *
          unfold goes at hw' ⊢
          by_cases hx : s.x ≤ g
          · rw [show ex s (g + 1) - ex s g = 1 by unfold ex; omega, Int.mul_one]
            by_cases hp : 0 < w + n
            · rw [if_pos ⟨hp, hx⟩] at hw' ⊢; omega
            · rw [if_neg (by omega)] at hw'; omega
          · rw [if_neg (by omega), show ex s (g + 1) - ex s g = 0 by unfold ex; have := hs.1; omega, Int.mul_zero]
        rw [e3]
        unfold since
        rw [if_neg hw', h2]
        rw [Int.mul_sub] at hgo
        refine ⟨?_, by omega, by omega⟩
        rw [show (((t + 1 : Nat) : Int)) = (t : Int) + 1 by omega, ← Int.add_assoc]
        omega

theorem delay_law {c s : Pr} {l : List Int} (hk : keeps c l) (hl : okL l) (h : (delayF c s).2 = 0) (i : Nat) (hi : (i : Int) + (delayF c s).1 < l.length) (h0 : 0 ≤ (delayF c s).1) : psum (fun j => l.getD j 0) (i + 1) ≤ psum (out s l) (i + 1 + (delayF c s).1.toNat) := by
  obtain ⟨⟨hc, hs⟩, hd⟩ := delay_ok h
  have hi' : i + 1 ≤ l.length := by omega
  have hb := busy (s := s) hc hs hl hk (i + 1) hi'
  have hrm := room_range hc hl hk (i + 1) hi'
  obtain ⟨r1, r2, r3, r4⟩ := st_range hs hl (i + 1) hi'
  have hL := later hs hl (c.x + c.y * (st s l (i + 1)).2) (i + 1) (by
    rcases hb with ⟨h1, _⟩ | ⟨h1, h2, h3⟩
    · exact .inl (by omega)
    · exact .inr (by omega)) (delayF c s).1.toNat (by omega)
  rcases hL with h1 | ⟨h1, h2, h3⟩
  · omega
  · rcases hb with ⟨b1, b2⟩ | ⟨b1, b2, b3⟩
    · -- nothing waits
      have := st_sum s l (i + 1)
      have hmono : ∀ t, i + 1 + t ≤ l.length → psum (out s l) (i + 1) ≤ psum (out s l) (i + 1 + t) := by
        intro t
        induction t with
        | zero => intro _; exact Int.le_refl _
        | succ t ih =>
          intro h
          have h1 := ih (by omega)
          have h2 := out_range hs hl (i + 1 + t) (by omega)
          have e : psum (out s l) (i + 1 + (t + 1)) = psum (out s l) (i + 1 + t) + out s l (i + 1 + t) := rfl
          omega
      have := hmono _ (show i + 1 + (delayF c s).1.toNat ≤ l.length by omega)
      omega
    · rcases hd with ⟨d1, d2⟩ | ⟨d1, d2, d3, d4⟩
      · -- nothing comes at all
        have hx := hc.1
        have hy := hc.2.2.1
        have hcx : c.x = 0 := by omega
        have hcy : c.y = 0 := by omega
        rw [hcx, hcy, Int.zero_mul] at b3
        have : 0 ≤ s.y * ex s (st s l (i + 1)).2 := Int.mul_nonneg hs.2.2.1 (by unfold ex; omega)
        omega
      · have hC : c.x + c.y ≤ ceilD (c.x + c.y) s.y * s.y := by
          unfold ceilD
          have := Int.lt_ediv_add_one_mul_self (c.x + c.y + s.y - 1) d3
          rw [Int.add_mul, Int.one_mul] at this
          omega
        rw [Int.toNat_of_nonneg h0] at h1
        rw [d4] at h1 ⊢
        have hcd : 1 ≤ ceilD (c.x + c.y) s.y := (ceil_range d3 d1 (by have := hc.2.1; have := hc.2.2.2; omega)).1
        have hsx := hs.1
        generalize ceilD (c.x + c.y) s.y = C at *
        generalize hG : (st s l (i + 1)).2 = g at *
        have e1 : ex s (g + (s.x + C - 1)) = g - 1 + C := by unfold ex; omega
        have h5 : s.y * (g - 1 + C) = s.y * (g - 1) + s.y * C := Int.mul_add _ _ _
        have h6 : c.y * (g - 1) ≤ s.y * (g - 1) := Int.mul_le_mul_of_nonneg_right d2 (by omega)
        have h7 : c.y * g = c.y * (g - 1) + c.y := by rw [Int.mul_sub, Int.mul_one]; omega
        rw [Int.mul_comm C s.y] at hC
        rw [e1, h5, h7] at h1
        omega
end Go.Proofs.Ytbgfplljfiahmaa
