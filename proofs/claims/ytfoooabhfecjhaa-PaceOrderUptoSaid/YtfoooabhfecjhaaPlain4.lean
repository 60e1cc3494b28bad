import Derived.Test.YtfoooabhfecjhaaPlain3
/- Packets no faster than they may: the laws, in plain Lean. -/
namespace Go.Proofs.Ytfoooabhfecjhaa

theorem do_same (p : P) (o : O) : (doP p o).1.b.num = p.b.num ∧ (doP p o).1.b.den = p.b.den ∧ (doP p o).1.b.bu = p.b.bu := by
  unfold doP
  repeat' split
  all_goals exact ⟨rfl, rfl, rfl⟩
theorem run_same (p : P) (l : List O) : (runP p l).b.num = p.b.num ∧ (runP p l).b.den = p.b.den ∧ (runP p l).b.bu = p.b.bu := by
  induction l generalizing p with
  | nil => exact ⟨rfl, rfl, rfl⟩
  | cons o r ih =>
    have h := do_same p o
    have := ih (doP p o).1
    rw [h.1, h.2.1, h.2.2] at this
    exact this
/-- What is sent adds to what was sent. -/
theorem do_se (p : P) (o : O) : (doP p o).1.se = p.se + (doP p o).2.2.sum := by
  unfold doP
  repeat' split
  all_goals first | rfl | simp
/-- What comes and goes. -/
def tk (o : O) : Int := if o.k = 2 ∧ 0 ≤ o.n ∧ o.n ≤ 1099511627776 then o.n else 0
theorem tk_err (p : P) (o : O) (h : o.k = 2) : ((doP p o).2.1 = 0 → tk o = o.n) ∧ (¬ (doP p o).2.1 = 0 → tk o = 0) := by
  unfold doP tk
  rw [if_neg (by omega), if_pos h]
  split
  · rename_i h2
    rw [if_pos ⟨h, h2⟩]
    exact ⟨fun _ => rfl, fun hn => absurd rfl hn⟩
  · rename_i h2
    rw [if_neg (by omega)]
    exact ⟨fun hn => by simp at hn, fun _ => rfl⟩
theorem tk_other (o : O) (h : ¬ o.k = 2) : tk o = 0 := by
  unfold tk
  rw [if_neg (by omega)]
theorem tk_pos (o : O) : 0 ≤ tk o ∧ tk o ≤ 1099511627776 := by
  unfold tk
  split <;> omega
theorem do_lv {p : P} {i : Nat} (h : Ok p i) (o : O) : (doP p o).1.b.lv + (doP p o).2.2.sum * p.b.den ≤ p.b.lv + p.b.num * tk o := by
  have hb := h.b
  obtain ⟨b1, b2, b3, b4, b5, b6, b7, b8, b9, b10⟩ := hb
  have htk : 0 ≤ p.b.num * tk o := Int.mul_nonneg b1 (tk_pos o).1
  have h0 : ([] : List Int).sum * p.b.den = 0 := by simp
  unfold doP
  split
  · repeat' split
    all_goals (show p.b.lv + ([] : List Int).sum * p.b.den ≤ _; omega)
  · split
    · rename_i hk
      split
      · rename_i hn
        have ht : tk o = o.n := by unfold tk; rw [if_pos ⟨hk, hn⟩]
        rw [ht] at htk ⊢
        show p.b.lv + min ((tickT p.b o.n - p.b.at') * p.b.num) (p.b.bu * p.b.den - p.b.lv) + ([] : List Int).sum * p.b.den ≤ _
        have hle : tickT p.b o.n - p.b.at' ≤ o.n := by unfold tickT; omega
        have := Int.mul_le_mul_of_nonneg_right hle b1
        rw [Int.mul_comm p.b.num o.n]
        omega
      · show p.b.lv + ([] : List Int).sum * p.b.den ≤ _
        omega
    · split
      · split
        · rename_i hn
          show (pollL p.b.den p.l p.b.lv o.n).2.2 + (pollL p.b.den p.l p.b.lv o.n).1.sum * p.b.den ≤ _
          have := pollL_lv p.b.den p.l p.b.lv o.n
          omega
        · show p.b.lv + ([] : List Int).sum * p.b.den ≤ _
          omega
      · show p.b.lv + ([] : List Int).sum * p.b.den ≤ _
        omega
/-- All that ticked. -/
def gone (l : List O) : Int := (l.map tk).sum
theorem gone_snoc (l : List O) (o : O) : gone (l ++ [o]) = gone l + tk o := by simp [gone]
theorem run_lv {p : P} {i : Nat} (h : Ok p i) (l : List O) : (runP p l).b.lv + ((runP p l).se - p.se) * p.b.den ≤ p.b.lv + p.b.num * gone l := by
  induction l generalizing p i with
  | nil => simp [runP, gone]
  | cons o r ih =>
    have h1 := ih (doP_ok h o)
    have h2 := do_lv h o
    have h3 := do_same p o
    have h4 := do_se p o
    rw [h3.1, h3.2.1] at h1
    have e : (runP (doP p o).1 r).se - p.se = ((runP (doP p o).1 r).se - (doP p o).1.se) + (doP p o).2.2.sum := by omega
    show (runP (doP p o).1 r).b.lv + ((runP (doP p o).1 r).se - p.se) * p.b.den ≤ p.b.lv + p.b.num * (tk o + gone r)
    rw [e, Int.add_mul, Int.mul_add]
    omega
/-- From any moment on no more is sent than the burst and what comes with time. -/
theorem bound {p : P} {i : Nat} (h : Ok p i) (l : List O) : ((runP p l).se - p.se) * p.b.den ≤ p.b.bu * p.b.den + p.b.num * gone l := by
  have h1 := run_lv h l
  have h2 := (runP_ok h l).b
  obtain ⟨b1, b2, b3, b4, b5, b6, b7, b8, b9, b10⟩ := h.b
  obtain ⟨_, _, _, _, _, _, c7, _⟩ := h2
  omega
/-- What is sent by one thing that happens. -/
theorem do_sent {p : P} {i : Nat} (h : Ok p i) (o : O) : (∀ x ∈ (doP p o).2.2, 1 ≤ x ∧ x ≤ 1500) ∧ (doP p o).2.2.length ≤ 400 := by
  have hn : (∀ x ∈ ([] : List Int), 1 ≤ x ∧ x ≤ 1500) ∧ ([] : List Int).length ≤ 400 := ⟨fun x hx => (by cases hx), by simp⟩
  have hq := h.q.2.2.2.2.2.2.2.1
  have hl := h.q.len
  unfold doP
  repeat' split
  all_goals first | exact hn | skip
  have ha := pollL_app p.b.den p.l p.b.lv o.n
  refine ⟨fun x hx => hq x (by show x ∈ p.l; rw [← ha]; exact List.mem_append_left _ hx), ?_⟩
  have h1 := congrArg List.length ha
  rw [List.length_append] at h1
  have h2 : p.l.length ≤ 400 := hl
  show (pollL p.b.den p.l p.b.lv o.n).1.length ≤ 400
  omega

def cm (o : O) (e : Int) : List Int := if o.k = 1 ∧ e = 0 then [o.n] else []
def dm (o : O) (e : Int) : Int := if o.k = 1 ∧ e = 4 then 1 else 0
/-- What came, what went, what was dropped. -/
def comeP (p : P) : List O → List Int
  | [] => []
  | o :: r => cm o (doP p o).2.1 ++ comeP (doP p o).1 r
def outP (p : P) : List O → List Int
  | [] => []
  | o :: r => (doP p o).2.2 ++ outP (doP p o).1 r
def dropP (p : P) : List O → Int
  | [] => 0
  | o :: r => dm o (doP p o).2.1 + dropP (doP p o).1 r
theorem comeP_snoc (p : P) (l : List O) (o : O) : comeP p (l ++ [o]) = comeP p l ++ cm o (doP (runP p l) o).2.1 := by
  induction l generalizing p with
  | nil => simp [comeP, runP]
  | cons a r ih => simp only [List.cons_append, comeP, runP, ih, List.append_assoc]
theorem outP_snoc (p : P) (l : List O) (o : O) : outP p (l ++ [o]) = outP p l ++ (doP (runP p l) o).2.2 := by
  induction l generalizing p with
  | nil => simp [outP, runP]
  | cons a r ih => simp only [List.cons_append, outP, runP, ih, List.append_assoc]
theorem dropP_snoc (p : P) (l : List O) (o : O) : dropP p (l ++ [o]) = dropP p l + dm o (doP (runP p l) o).2.1 := by
  induction l generalizing p with
  | nil => simp [dropP, runP]
  | cons a r ih => simp only [List.cons_append, dropP, runP, ih, Int.add_assoc]
theorem do_order (p : P) (o : O) : p.l ++ cm o (doP p o).2.1 = (doP p o).2.2 ++ (doP p o).1.l := by
  unfold doP cm
  split
  · rename_i hk
    repeat' split
    all_goals simp_all
  · rename_i hk
    rw [if_neg (fun h => hk h.1), List.append_nil]
    repeat' split
    all_goals first | rfl | exact (pollL_app _ _ _ _).symm
theorem run_order (p : P) (l : List O) : p.l ++ comeP p l = outP p l ++ (runP p l).l := by
  induction l generalizing p with
  | nil => simp [comeP, outP, runP]
  | cons o r ih =>
    have h := do_order p o
    show p.l ++ (cm o (doP p o).2.1 ++ comeP (doP p o).1 r) = (doP p o).2.2 ++ outP (doP p o).1 r ++ (runP (doP p o).1 r).l
    rw [← List.append_assoc, h, List.append_assoc, ih, List.append_assoc]
theorem dm_le (o : O) (e : Int) : 0 ≤ dm o e ∧ dm o e ≤ 1 := by unfold dm; split <;> omega
theorem dm_no {o : O} (e : Int) (h : ¬ o.k = 1) : dm o e = 0 := by unfold dm; rw [if_neg (fun hk => h hk.1)]
theorem do_drop (p : P) (o : O) (h : p.dr < 1099511627776) : (doP p o).1.dr = p.dr + dm o (doP p o).2.1 := by
  by_cases hk : o.k = 1
  · unfold doP dm
    rw [if_pos hk]
    repeat' split
    all_goals first | omega | (simp_all; done) | (exfalso; simp_all; done) | (simp_all; omega)
  · rw [dm_no _ hk, Int.add_zero]
    unfold doP
    repeat' split
    all_goals first | rfl | omega
theorem run_drop (p : P) (l : List O) (h : p.dr + l.length ≤ 1099511627776) : (runP p l).dr = p.dr + dropP p l := by
  induction l generalizing p with
  | nil => simp [dropP, runP]
  | cons o r ih =>
    simp only [List.length_cons] at h
    have h1 := do_drop p o (by omega)
    have h2 := ih (doP p o).1 (by have := dm_le o (doP p o).2.1; omega)
    show (runP (doP p o).1 r).dr = p.dr + (_ + dropP (doP p o).1 r)
    rw [h2, h1]
    omega
theorem run_se (p : P) (l : List O) : (runP p l).se = p.se + (outP p l).sum := by
  induction l generalizing p with
  | nil => simp [outP, runP]
  | cons o r ih =>
    show (runP (doP p o).1 r).se = p.se + ((doP p o).2.2 ++ outP (doP p o).1 r).sum
    rw [ih, do_se, List.sum_append]
    omega
theorem come_len (p : P) (l : List O) : (comeP p l).length ≤ l.length := by
  induction l generalizing p with
  | nil => simp [comeP]
  | cons o r ih =>
    have := ih (doP p o).1
    have hc : (cm o (doP p o).2.1).length ≤ 1 := by unfold cm; split <;> simp
    simp only [comeP, List.length_append, List.length_cons]
    omega

/-- Behind a poll nothing waits, or there are no tokens for the first, or no room. -/
theorem busy {p : P} {i : Nat} (h : Ok p i) (room : Int) (hr : 0 ≤ room) : (pollL p.b.den p.l p.b.lv room).1.sum ≤ room ∧ ((pollP p room).l = [] ∨ ∃ n r, (pollP p room).l = n :: r ∧ (room - (pollL p.b.den p.l p.b.lv room).1.sum < n ∨ (pollP p room).b.lv < n * p.b.den)) :=
  ⟨(pollL_le _ _ _ _ h.b.2.2.2.2.2.2.1 hr).2, pollL_stop _ _ _ _⟩

/-- One round: so much time that one packet may go, and a poll with all room. -/
def rnd (den : Int) : List O := [⟨2, 1500 * den⟩, ⟨3, 1073741824⟩]
def rnds (den : Int) : Nat → List O
  | 0 => []
  | n + 1 => rnds den n ++ rnd den
theorem rnds_length (den : Int) (n : Nat) : (rnds den n).length = 2 * n := by
  induction n with
  | zero => rfl
  | succ n ih => simp [rnds, rnd, ih]; omega
theorem rnd_go {p : P} {i : Nat} (h : Ok p i) (hb : 1500 ≤ p.b.bu) (hn : 1 ≤ p.b.num) (ht : p.b.at' + 1500 * p.b.den ≤ 1099511627776) : (runP p (rnd p.b.den)).b.at' = p.b.at' + 1500 * p.b.den ∧ ((runP p (rnd p.b.den)).l = [] ∨ (runP p (rnd p.b.den)).l.length < p.l.length) := by
  obtain ⟨b1, b2, b3, b4, b5, b6, b7, b8, b9, b10⟩ := h.b
  have e1 : doP p ⟨2, 1500 * p.b.den⟩ = ({ p with b := filled p.b (p.b.at' + 1500 * p.b.den) }, 0, []) := by
    unfold doP
    rw [if_neg (by show ¬ (2 : Int) = 1; decide), if_pos rfl, if_pos (by show 0 ≤ 1500 * p.b.den ∧ 1500 * p.b.den ≤ _; omega)]
    have : tickT p.b (1500 * p.b.den) = p.b.at' + 1500 * p.b.den := by unfold tickT; omega
    rw [this]
  have e2 : runP p (rnd p.b.den) = pollP { p with b := filled p.b (p.b.at' + 1500 * p.b.den) } 1073741824 := by
    show (doP (doP p ⟨2, 1500 * p.b.den⟩).1 ⟨3, 1073741824⟩).1 = _
    rw [e1]; rfl
  rw [e2]
  refine ⟨rfl, ?_⟩
  have hlv : 1500 * p.b.den ≤ (filled p.b (p.b.at' + 1500 * p.b.den)).lv := by
    show 1500 * p.b.den ≤ p.b.lv + min ((p.b.at' + 1500 * p.b.den - p.b.at') * p.b.num) (p.b.bu * p.b.den - p.b.lv)
    rw [show p.b.at' + 1500 * p.b.den - p.b.at' = 1500 * p.b.den by omega]
    have h1 := Int.mul_le_mul_of_nonneg_left hn (show 0 ≤ 1500 * p.b.den by omega)
    have h2 := Int.mul_le_mul_of_nonneg_right hb (show 0 ≤ p.b.den by omega)
    omega
  show (pollL p.b.den p.l (filled p.b (p.b.at' + 1500 * p.b.den)).lv 1073741824).2.1 = [] ∨ (pollL p.b.den p.l (filled p.b (p.b.at' + 1500 * p.b.den)).lv 1073741824).2.1.length < p.l.length
  generalize (filled p.b (p.b.at' + 1500 * p.b.den)).lv = lv at *
  have hx := h.q.2.2.2.2.2.2.2.1
  cases hl : p.l with
  | nil => exact Or.inl rfl
  | cons n r =>
    have h1 := hx n (by show n ∈ p.l; rw [hl]; simp)
    have h2 := Int.mul_le_mul_of_nonneg_right h1.2 (show 0 ≤ p.b.den by omega)
    right
    unfold pollL
    rw [if_neg (by omega)]
    have h3 := congrArg List.length (pollL_app p.b.den r (lv - n * p.b.den) (1073741824 - n))
    rw [List.length_append] at h3
    simp only [List.length_cons]
    omega
theorem rnds_go {p : P} {i : Nat} (h : Ok p i) (hb : 1500 ≤ p.b.bu) (hn : 1 ≤ p.b.num) : ∀ n : Nat, p.b.at' + n * (1500 * p.b.den) ≤ 1099511627776 → (runP p (rnds p.b.den n)).b.at' = p.b.at' + n * (1500 * p.b.den) ∧ ((runP p (rnds p.b.den n)).l = [] ∨ (runP p (rnds p.b.den n)).l.length + n ≤ p.l.length)
  | 0, _ => ⟨by simp [rnds, runP], Or.inr (by simp [rnds, runP])⟩
  | n + 1, ht => by
    have hd := h.b.2.2.1
    have e : ((n + 1 : Nat) : Int) * (1500 * p.b.den) = n * (1500 * p.b.den) + 1500 * p.b.den := by rw [Int.natCast_add, Int.add_mul]; simp
    rw [e] at ht ⊢
    obtain ⟨h1, h2⟩ := rnds_go h hb hn n (by omega)
    have hs := run_same p (rnds p.b.den n)
    have h3 := rnd_go (runP_ok h (rnds p.b.den n)) (by rw [hs.2.2]; exact hb) (by rw [hs.1]; exact hn) (by rw [h1, hs.2.1]; omega)
    rw [hs.2.1, h1] at h3
    show (runP p (rnds p.b.den n ++ rnd p.b.den)).b.at' = _ ∧ ((runP p (rnds p.b.den n ++ rnd p.b.den)).l = [] ∨ (runP p (rnds p.b.den n ++ rnd p.b.den)).l.length + (n + 1) ≤ p.l.length)
    rw [runP_app]
    refine ⟨by rw [h3.1]; omega, ?_⟩
    rcases h3.2 with h4 | h4
    · exact Or.inl h4
    · rcases h2 with h5 | h5
      · rw [h5] at h4; simp at h4
      · right; omega
theorem all_go {p : P} {i : Nat} (h : Ok p i) (hb : 1500 ≤ p.b.bu) (hn : 1 ≤ p.b.num) (ht : p.b.at' ≤ 1099511627776 - 101 * 1500 * p.b.den) : (runP p (rnds p.b.den 101)).l = [] := by
  obtain ⟨_, h2⟩ := rnds_go h hb hn 101 (by show p.b.at' + 101 * (1500 * p.b.den) ≤ _; omega)
  rcases h2 with h2 | h2
  · exact h2
  · have := h.q.2.2.2.2.2.2.1
    have h3 : (p.l.length : Int) ≤ 100 := this
    omega

/-- What a poll sends is the longest that it may. -/
theorem pollL_most (den : Int) (hd : 0 ≤ den) : ∀ (s t : List Int) (lv room : Int), (∀ x ∈ s, 1 ≤ x) → (∀ x ∈ t, 1 ≤ x) → s.sum ≤ room → s.sum * den ≤ lv → s.sum ≤ (pollL den (s ++ t) lv room).1.sum
  | [], t, lv, room, _, h2, _, _ => by
    show 0 ≤ _
    have ha := pollL_app den ([] ++ t) lv room
    have : ∀ l : List Int, (∀ x ∈ l, 1 ≤ x) → 0 ≤ l.sum := fun l => by
      induction l with
      | nil => intro _; simp
      | cons a r ih => intro h; have := ih (fun x hx => h x (by simp [hx])); have := h a (by simp); simp only [List.sum_cons]; omega
    exact this _ fun x hx => h2 x (by rw [List.nil_append] at ha; rw [← ha]; exact List.mem_append_left _ hx)
  | n :: s, t, lv, room, h1, h2, h3, h4 => by
    have hs : ∀ x ∈ s, 1 ≤ x := fun x hx => h1 x (by simp [hx])
    have hn := h1 n (by simp)
    have h0 : 0 ≤ s.sum := by
      clear h3 h4 h1
      induction s with
      | nil => simp
      | cons a r ih => have := ih (fun x hx => hs x (by simp [hx])); have := hs a (by simp); simp only [List.sum_cons]; omega
    have h5 := Int.mul_nonneg h0 hd
    simp only [List.sum_cons, Int.add_mul] at h3 h4
    have ih := pollL_most den hd s t (lv - n * den) (room - n) hs h2 (by omega) (by omega)
    rw [List.cons_append]
    unfold pollL
    rw [if_neg (by omega)]
    simp only [List.sum_cons]
    omega
theorem parts {p : P} {i : Nat} (h : Ok p i) (a b : Int) (ha : 0 ≤ a) (hb : 0 ≤ b) : (pollP (pollP p a) b).se ≤ (pollP p (a + b)).se := by
  obtain ⟨b1, b2, b3, b4, b5, b6, b7, b8, b9, b10⟩ := h.b
  have hx := h.q.2.2.2.2.2.2.2.1
  have h1 := pollL_app p.b.den p.l p.b.lv a
  have h2 := pollL_lv p.b.den p.l p.b.lv a
  have h3 := pollL_le p.b.den p.l p.b.lv a b7 ha
  show p.se + (pollL p.b.den p.l p.b.lv a).1.sum + (pollL p.b.den (pollL p.b.den p.l p.b.lv a).2.1 (pollL p.b.den p.l p.b.lv a).2.2 b).1.sum ≤ p.se + (pollL p.b.den p.l p.b.lv (a + b)).1.sum
  generalize pollL p.b.den p.l p.b.lv a = A at *
  have h4 := pollL_app p.b.den A.2.1 A.2.2 b
  have h5 := pollL_lv p.b.den A.2.1 A.2.2 b
  have h6 := pollL_le p.b.den A.2.1 A.2.2 b h3.1 hb
  generalize pollL p.b.den A.2.1 A.2.2 b = B at *
  have h7 : A.1 ++ B.1 ++ B.2.1 = p.l := by rw [List.append_assoc, h4, h1]
  have h8 := pollL_most p.b.den (by omega) (A.1 ++ B.1) B.2.1 p.b.lv (a + b) (fun x hm => (hx x (by show x ∈ p.l; rw [← h7]; exact List.mem_append_left _ hm)).1) (fun x hm => (hx x (by show x ∈ p.l; rw [← h7]; exact List.mem_append_right _ hm)).1) (by rw [sum_app]; omega) (by rw [sum_app, Int.add_mul]; omega)
  rw [h7, sum_app] at h8
  omega
theorem more {p : P} {i : Nat} (h : Ok p i) (a b : Int) (ha : 0 ≤ a) (hab : a ≤ b) : (pollP p a).se ≤ (pollP p b).se := by
  obtain ⟨b1, b2, b3, b4, b5, b6, b7, b8, b9, b10⟩ := h.b
  have hx := h.q.2.2.2.2.2.2.2.1
  have h1 := pollL_app p.b.den p.l p.b.lv a
  have h2 := pollL_lv p.b.den p.l p.b.lv a
  have h3 := pollL_le p.b.den p.l p.b.lv a b7 ha
  show p.se + (pollL p.b.den p.l p.b.lv a).1.sum ≤ p.se + (pollL p.b.den p.l p.b.lv b).1.sum
  generalize pollL p.b.den p.l p.b.lv a = A at *
  have h8 := pollL_most p.b.den (by omega) A.1 A.2.1 p.b.lv b (fun x hm => (hx x (by show x ∈ p.l; rw [← h1]; exact List.mem_append_left _ hm)).1) (fun x hm => (hx x (by show x ∈ p.l; rw [← h1]; exact List.mem_append_right _ hm)).1) (by omega) (by omega)
  rw [h1] at h8
  omega
theorem pollL_none {den : Int} {l : List Int} {lv room : Int} (h : l = [] ∨ ∃ n r, l = n :: r ∧ lv < n * den) : pollL den l lv room = ([], l, lv) := by
  rcases h with rfl | ⟨n, r, rfl, h⟩
  · rfl
  · unfold pollL
    rw [if_pos (Or.inr h)]
/-- Polled again nothing goes. -/
theorem again {p : P} {i : Nat} (h : Ok p i) (a : Int) : pollP (pollP p 1073741824) a = pollP p 1073741824 := by
  have hx := h.q.2.2.2.2.2.2.2.1
  have hs := h.q.2.2.2.2.2.2.2.2
  have h1 := pollL_app p.b.den p.l p.b.lv 1073741824
  have h2 := pollL_stop p.b.den p.l p.b.lv 1073741824
  have h3 : (pollL p.b.den p.l p.b.lv 1073741824).1.sum + (pollL p.b.den p.l p.b.lv 1073741824).2.1.sum = p.l.sum := by rw [← sum_app, h1]
  have hs' : p.l.sum ≤ 60000 := hs
  have hmem : ∀ x ∈ (pollL p.b.den p.l p.b.lv 1073741824).2.1, 1 ≤ x ∧ x ≤ 1500 := fun x hm => hx x (by show x ∈ p.l; rw [← h1]; exact List.mem_append_right _ hm)
  have h4 := pollL_none (den := p.b.den) (room := a) (l := (pollL p.b.den p.l p.b.lv 1073741824).2.1) (lv := (pollL p.b.den p.l p.b.lv 1073741824).2.2) (by
    rcases h2 with h2 | ⟨n, r, h2, h5 | h5⟩
    · exact Or.inl h2
    · exfalso
      rw [h2] at h3 hmem
      have h6 := (sum_bound r fun x hm => hmem x (by simp [hm])).1
      have h7 : (pollL p.b.den p.l p.b.lv 1073741824).1.sum + (n + r.sum) = p.l.sum := by rw [← h3, List.sum_cons]
      omega
    · exact Or.inr ⟨n, r, h2, h5⟩)
  show (⟨(pollL p.b.den (pollL p.b.den p.l p.b.lv 1073741824).2.1 (pollL p.b.den p.l p.b.lv 1073741824).2.2 a).2.1, p.dr, { p.b with lv := (pollL p.b.den (pollL p.b.den p.l p.b.lv 1073741824).2.1 (pollL p.b.den p.l p.b.lv 1073741824).2.2 a).2.2 }, p.se + (pollL p.b.den p.l p.b.lv 1073741824).1.sum + (pollL p.b.den (pollL p.b.den p.l p.b.lv 1073741824).2.1 (pollL p.b.den p.l p.b.lv 1073741824).2.2 a).1.sum⟩ : P) = _
  rw [h4]
  show (⟨_, _, _, _ + 0⟩ : P) = _
  rw [Int.add_zero]
  rfl
end Go.Proofs.Ytfoooabhfecjhaa
