import Derived.Test.YtfoooabhfecjhaaPlainB
import Derived.Test.YtfoooabhfecjhaaPlainR
/- Packets no faster than they may, in plain Lean: one thing that happens. -/
namespace Go.Proofs.Ytfoooabhfecjhaa

/-- What waits, how many were dropped, the bucket, how many bytes were sent. -/
structure P where
  l : List Int
  dr : Int
  b : Bk
  se : Int
def P.q (p : P) : Q := ⟨p.l, 100, 60000, p.dr⟩
/-- What a poll sends, what still waits, what is left of the tokens. -/
def pollL (den : Int) : List Int → Int → Int → List Int × List Int × Int
  | [], lv, _ => ([], [], lv)
  | n :: r, lv, room => if room < n ∨ lv < n * den then ([], n :: r, lv) else (n :: (pollL den r (lv - n * den) (room - n)).1, (pollL den r (lv - n * den) (room - n)).2)
theorem pollL_app (den : Int) : ∀ (l : List Int) (lv room : Int), (pollL den l lv room).1 ++ (pollL den l lv room).2.1 = l
  | [], _, _ => rfl
  | n :: r, lv, room => by
    have ih := pollL_app den r (lv - n * den) (room - n)
    unfold pollL
    split
    · rfl
    · simp only [List.cons_append, ih]
theorem pollL_lv (den : Int) : ∀ (l : List Int) (lv room : Int), (pollL den l lv room).2.2 = lv - (pollL den l lv room).1.sum * den
  | [], _, _ => by simp [pollL]
  | n :: r, lv, room => by
    have ih := pollL_lv den r (lv - n * den) (room - n)
    unfold pollL
    split
    · simp
    · simp only [List.sum_cons, Int.add_mul, ih]
      omega
theorem pollL_le (den : Int) : ∀ (l : List Int) (lv room : Int), 0 ≤ lv → 0 ≤ room → 0 ≤ (pollL den l lv room).2.2 ∧ (pollL den l lv room).1.sum ≤ room
  | [], _, _, h1, h2 => by simpa [pollL] using ⟨h1, h2⟩
  | n :: r, lv, room, h1, h2 => by
    have ih := pollL_le den r (lv - n * den) (room - n)
    unfold pollL
    split
    · simpa using ⟨h1, h2⟩
    · have := ih (by omega) (by omega)
      simp only [List.sum_cons]
      omega
/-- Behind a poll nothing waits, or the first packet has no room or no tokens. -/
theorem pollL_stop (den : Int) : ∀ (l : List Int) (lv room : Int), (pollL den l lv room).2.1 = [] ∨ ∃ n r, (pollL den l lv room).2.1 = n :: r ∧ (room - (pollL den l lv room).1.sum < n ∨ (pollL den l lv room).2.2 < n * den)
  | [], _, _ => Or.inl rfl
  | n :: r, lv, room => by
    have ih := pollL_stop den r (lv - n * den) (room - n)
    unfold pollL
    split
    · rename_i h
      exact Or.inr ⟨n, r, rfl, by simpa using h⟩
    · rcases ih with h | ⟨m, t, h, h2⟩
      · exact Or.inl h
      · refine Or.inr ⟨m, t, h, ?_⟩
        simp only [List.sum_cons]
        omega

def tickT (b : Bk) (n : Int) : Int := min (b.at' + n) 1099511627776
def pollP (p : P) (room : Int) : P := ⟨(pollL p.b.den p.l p.b.lv room).2.1, p.dr, { p.b with lv := (pollL p.b.den p.l p.b.lv room).2.2 }, p.se + (pollL p.b.den p.l p.b.lv room).1.sum⟩
/-- One thing happens: what is then, what is wrong, what was sent. -/
def doP (p : P) (o : O) : P × Int × List Int :=
  if o.k = 1 then
    if 1 ≤ o.n ∧ o.n ≤ 1500 then
      if p.q.fit o.n then ({ p with l := p.l ++ [o.n] }, 0, [])
      else if p.dr = 1099511627776 then (p, 4, [])
      else ({ p with dr := p.dr + 1 }, 4, [])
    else (p, 2, [])
  else if o.k = 2 then
    if 0 ≤ o.n ∧ o.n ≤ 1099511627776 then ({ p with b := filled p.b (tickT p.b o.n) }, 0, []) else (p, 2, [])
  else if o.k = 3 then
    if 0 ≤ o.n ∧ o.n ≤ 1073741824 then (pollP p o.n, 0, (pollL p.b.den p.l p.b.lv o.n).1) else (p, 2, [])
  else (p, 5, [])
def runP (p : P) : List O → P
  | [] => p
  | o :: r => runP (doP p o).1 r
def ansP (p : P) : List O → List (Int × List Int)
  | [] => []
  | o :: r => (doP p o).2 :: ansP (doP p o).1 r
structure Ok (p : P) (i : Nat) : Prop where
  q : p.q.right
  b : p.b.right
  pos : 0 ≤ p.se
  all : p.se + p.l.sum ≤ 1500 * i

theorem okT_tick {b : Bk} (h : b.right) {n : Int} (hn : 0 ≤ n) : okT b (tickT b n) := by
  obtain ⟨_, _, _, _, _, _, _, _, h1, h2⟩ := h
  unfold okT tickT
  omega
theorem poll_right {b : Bk} (h : b.right) (l : List Int) {room : Int} (hr : 0 ≤ room) (hs : 0 ≤ (pollL b.den l b.lv room).1.sum) : ({ b with lv := (pollL b.den l b.lv room).2.2 } : Bk).right := by
  have h0 := h
  obtain ⟨h1, h2, h3, h4, h5, h6, h7, h8, h9, h10⟩ := h
  have h11 := pollL_le b.den l b.lv room h7 hr
  have h12 := pollL_lv b.den l b.lv room
  have h13 := Int.mul_nonneg hs (show 0 ≤ b.den by omega)
  exact ⟨h1, h2, h3, h4, h5, h6, h11.1, by show (pollL b.den l b.lv room).2.2 ≤ b.bu * b.den; omega, h9, h10⟩
theorem sum_app (a b : List Int) : (a ++ b).sum = a.sum + b.sum := by simp
theorem doP_ok {p : P} {i : Nat} (h : Ok p i) (o : O) : Ok (doP p o).1 (i + 1) := by
  obtain ⟨hq, hb, h1, h2⟩ := h
  have same : Ok p (i + 1) := ⟨hq, hb, h1, by omega⟩
  unfold doP
  split
  · split
    · rename_i hn
      split
      · rename_i hf
        exact ⟨right_push hq hf hn, hb, h1, by simp only [sum_app, List.sum_cons, List.sum_nil]; omega⟩
      · split
        · exact same
        · rename_i hd
          exact ⟨right_drop hq hd, hb, h1, by show p.se + p.l.sum ≤ _; omega⟩
    · exact same
  · split
    · split
      · rename_i hn
        exact ⟨hq, filled_right hb (okT_tick hb hn.1), h1, by show p.se + p.l.sum ≤ _; omega⟩
      · exact same
    · split
      · split
        · rename_i hn
          have ha := pollL_app p.b.den p.l p.b.lv o.n
          have hsum : (pollL p.b.den p.l p.b.lv o.n).1.sum + (pollL p.b.den p.l p.b.lv o.n).2.1.sum = p.l.sum := by rw [← sum_app, ha]
          obtain ⟨g1, g2, g3, g4, g5, g6, g7, g8, g9⟩ := hq
          have hx : ∀ x ∈ (pollL p.b.den p.l p.b.lv o.n).1, 1 ≤ x ∧ x ≤ 1500 := fun x hx => g8 x (by show x ∈ p.l; rw [← ha]; exact List.mem_append_left _ hx)
          have hy : ∀ x ∈ (pollL p.b.den p.l p.b.lv o.n).2.1, 1 ≤ x ∧ x ≤ 1500 := fun x hx => g8 x (by show x ∈ p.l; rw [← ha]; exact List.mem_append_right _ hx)
          have hs := (sum_bound _ hx).1
          have hlen : (pollL p.b.den p.l p.b.lv o.n).1.length + (pollL p.b.den p.l p.b.lv o.n).2.1.length = p.l.length := by rw [← List.length_append, ha]
          refine ⟨⟨g1, g2, g3, g4, g5, g6, ?_, hy, ?_⟩, poll_right hb p.l hn.1 hs, ?_, ?_⟩
          · show ((pollL p.b.den p.l p.b.lv o.n).2.1.length : Int) ≤ 100
            have : (p.l.length : Int) ≤ 100 := g7
            omega
          · show (pollL p.b.den p.l p.b.lv o.n).2.1.sum ≤ 60000
            have : p.l.sum ≤ 60000 := g9
            omega
          · show 0 ≤ p.se + (pollL p.b.den p.l p.b.lv o.n).1.sum
            omega
          · show p.se + (pollL p.b.den p.l p.b.lv o.n).1.sum + (pollL p.b.den p.l p.b.lv o.n).2.1.sum ≤ _
            omega
        · exact same
      · exact same
end Go.Proofs.Ytfoooabhfecjhaa
