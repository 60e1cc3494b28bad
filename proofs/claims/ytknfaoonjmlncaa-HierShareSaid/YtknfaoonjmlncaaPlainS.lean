import Derived.Test.YtknfaoonjmlncaaPlainR
/- Leaves of a tree of classes served, in plain Lean: a class that waits has its part of the one above. -/
set_option linter.unusedVariables false
set_option linter.unusedSimpArgs false
namespace Go.Proofs.Ytknfaoonjmlncaa

def sumN (f : Nat → Int) : Nat → Int
  | 0 => 0
  | n + 1 => sumN f n + f n
theorem sumN_le {f g : Nat → Int} : ∀ {n : Nat}, (∀ k, k < n → f k ≤ g k) → sumN f n ≤ sumN g n
  | 0, _ => Int.le_refl _
  | n + 1, h => by
    have := sumN_le (n := n) (fun k hk => h k (by omega))
    have := h n (by omega)
    simp only [sumN]; omega
theorem sumN_upd {f g : Nat → Int} {j : Nat} {d : Int} : ∀ {n : Nat}, j < n → (∀ k, k < n → k ≠ j → f k ≤ g k) → f j ≤ g j + d → sumN f n ≤ sumN g n + d
  | 0, h, _, _ => by omega
  | n + 1, hj, h, hd => by
    simp only [sumN]
    by_cases e : j = n
    · subst e
      have := sumN_le (n := j) (f := f) (g := g) (fun k hk => h k (by omega) (by omega))
      omega
    · have := sumN_upd (n := n) (by omega) (fun k hk => h k (by omega)) hd
      have := h n (by omega) (Ne.symm e)
      omega
theorem sumN_mul (f : Nat → Int) (c : Int) : ∀ n, sumN (fun k => f k * c) n = sumN f n * c
  | 0 => by simp [sumN]
  | n + 1 => by simp only [sumN, sumN_mul f c n, Int.add_mul]
theorem sumN_nonneg {f : Nat → Int} : ∀ {n : Nat}, (∀ k, k < n → 0 ≤ f k) → 0 ≤ sumN f n
  | 0, _ => Int.le_refl _
  | n + 1, h => by
    have := sumN_nonneg (n := n) (fun k hk => h k (by omega))
    have := h n (by omega)
    simp only [sumN]; omega
theorem sumN_one {f : Nat → Int} {j : Nat} : ∀ {n : Nat}, j < n → (∀ k, k < n → 0 ≤ f k) → f j ≤ sumN f n
  | 0, h, _ => by omega
  | n + 1, hj, h => by
    simp only [sumN]
    by_cases e : j = n
    · subst e
      have := sumN_nonneg (n := j) (f := f) (fun k hk => h k (by omega))
      omega
    · have := sumN_one (n := n) (j := j) (by omega) (fun k hk => h k (by omega))
      have := h n (by omega)
      omega
theorem w_div {w : Int} (h : 1 ≤ w ∧ w ≤ 12) : w * (27720 / w) = 27720 := by
  rcases (by omega : w = 1 ∨ w = 2 ∨ w = 3 ∨ w = 4 ∨ w = 5 ∨ w = 6 ∨ w = 7 ∨ w = 8 ∨ w = 9 ∨ w = 10 ∨ w = 11 ∨ w = 12) with rfl | rfl | rfl | rfl | rfl | rfl | rfl | rfl | rfl | rfl | rfl | rfl <;> rfl
theorem sumN_ext {f g : Nat → Int} : ∀ {n : Nat}, (∀ k, k < n → f k = g k) → sumN f n = sumN g n
  | 0, _ => rfl
  | n + 1, h => by simp only [sumN]; rw [sumN_ext (fun k hk => h k (by omega)), h n (by omega)]
/-- What of a node may still come until a deadline: pend: what it has is chosen already. -/
def potJ (t D : Int) (f : Hn) (pend : Bool) : Int :=
  if pend = true then (if f.un ≤ D then f.w * (D - f.un) else 0)
  else if f.bytes = 0 then (if max f.un t ≤ D then f.w * (D - max f.un t) else 0)
  else if f.un ≤ D then f.w * (D - f.bg) else 0
theorem potJ_pend (t D : Int) (f : Hn) : potJ t D f true = if f.un ≤ D then f.w * (D - f.un) else 0 := by unfold potJ; rw [if_pos rfl]
theorem potJ_none {t D : Int} {f : Hn} (h : f.bytes = 0) : potJ t D f false = if max f.un t ≤ D then f.w * (D - max f.un t) else 0 := by unfold potJ; rw [if_neg (by decide), if_pos h]
theorem potJ_some {t D : Int} {f : Hn} (h : f.bytes ≠ 0) : potJ t D f false = if f.un ≤ D then f.w * (D - f.bg) else 0 := by unfold potJ; rw [if_neg (by decide), if_neg h]
def potH (n : Nat) (S : St) (p : Nat) (x t D : Int) : Int := sumN (fun j => if (S j).up = p then potJ t D (S j) (decide ((j : Int) = x)) else 0) n
theorem potJ_nonneg {t D : Int} {f : Hn} {b : Bool} (hw : 0 ≤ f.w) (hb : f.bytes ≠ 0 → f.bg ≤ f.un) : 0 ≤ potJ t D f b := by
  unfold potJ
  split
  · split
    · exact Int.mul_nonneg hw (by omega)
    · exact Int.le_refl _
  · split
    · split
      · exact Int.mul_nonneg hw (by omega)
      · exact Int.le_refl _
    · rename_i h1 h2
      have := hb h2
      split
      · exact Int.mul_nonneg hw (by omega)
      · exact Int.le_refl _
theorem potJ_time {t t' D : Int} {f : Hn} {b : Bool} (hw : 0 ≤ f.w) (ht : t ≤ t') : potJ t' D f b ≤ potJ t D f b := by
  unfold potJ
  split
  · exact Int.le_refl _
  · split
    · split
      · rename_i h; rw [if_pos (by omega)]; exact Int.mul_le_mul_of_nonneg_left (by omega) hw
      · split
        · exact Int.mul_nonneg hw (by omega)
        · omega
    · exact Int.le_refl _
theorem ite_later {w a y D : Int} (hw : 0 ≤ w) (hy : 0 ≤ y) : (if a + y ≤ D then w * (D - a) else 0) ≤ if a ≤ D then w * (D - a) else 0 := by
  split
  · rw [if_pos (by omega)]; exact Int.le_refl _
  · split
    · exact Int.mul_nonneg (by omega) (by omega)
    · exact Int.le_refl _
/-- What holds at a node p, of which x is chosen (below 0: none). -/
structure ShH (n : Nat) (S : St) (p : Nat) (x : Int) : Prop where
  wsum : sumN (fun j => if (S j).up = p then (S j).w else 0) n = (S p).sum
  tag : ∀ k, k < n → (S k).up = p → 0 < (S k).bytes → (S k).un = (S k).bg + (S k).bytes * (27720 / (S k).w) * (S p).sum
  pend : 0 ≤ x → ∃ k : Nat, x = k ∧ k < n ∧ (S k).up = p ∧ 0 < (S k).bytes ∧ (S k).bg ≤ (S p).time
  main : ∀ D k, k < n → (S k).up = p → 0 < (S k).bytes → (S k).un ≤ D → (S k).bg ≤ (S p).time → (S p).sum * (S p).time + potH n S p x (S p).time D ≤ (S p).sum * (D + 41580000)
theorem ShH.bu {n : Nat} {S : St} {p : Nat} {x M : Int} (hok : OkS n M S) (hp : p < n) (h : ShH n S p x) {k : Nat} (hk : k < n) (hu : (S k).up = p) (hb : 0 < (S k).bytes) : (S k).bg ≤ (S k).un ∧ (S k).un ≤ (S k).bg + 1500 * (27720 / (S k).w) * (S p).sum := by
  have h1 := h.tag k hk hu hb
  have h2 := hok.b k hk
  have hs := hok.sum p hp
  have h3 := tag_bound hs (hok.w k hk) h2
  have h4 := Int.mul_le_mul_of_nonneg_right (Int.mul_le_mul_of_nonneg_right h2.2 h3.1.1) hs.1
  omega
theorem ShH.congr {n : Nat} {S S' : St} {p : Nat} {x : Int} (h : ShH n S p x) (hu : ∀ j, (S' j).up = (S j).up) (hp : S' p = S p) (hk : ∀ j, j < n → (S j).up = p → S' j = S j) : ShH n S' p x := by
  have hpot : ∀ t D, potH n S' p x t D = potH n S p x t D := fun t D => sumN_ext fun j hj => by
    rw [hu j]
    by_cases e : (S j).up = p
    · rw [if_pos e, if_pos e, hk j hj e]
    · rw [if_neg e, if_neg e]
  refine ⟨?_, fun k hkn hku hb => ?_, fun hx => ?_, fun D k hkn hku hb h1 h2 => ?_⟩
  · rw [hp, ← h.wsum]
    refine sumN_ext fun j hj => ?_
    rw [hu j]
    by_cases e : (S j).up = p
    · rw [if_pos e, if_pos e, hk j hj e]
    · rw [if_neg e, if_neg e]
  · rw [hu k] at hku
    rw [hk k hkn hku] at hb ⊢
    rw [hp]; exact h.tag k hkn hku hb
  · obtain ⟨k, h1, h2, h3, h4, h5⟩ := h.pend hx
    exact ⟨k, h1, h2, by rw [hu k]; exact h3, by rw [hk k h2 h3]; exact h4, by rw [hk k h2 h3, hp]; exact h5⟩
  · rw [hu k] at hku
    rw [hk k hkn hku] at hb h1 h2
    rw [hp] at h2 ⊢
    rw [hpot]
    exact h.main D k hkn hku hb h1 h2
theorem pot_auto {n : Nat} {S : St} {p : Nat} {x t D M : Int} (hok : OkS n M S) (hw : sumN (fun j => if (S j).up = p then (S j).w else 0) n = (S p).sum) (htD : t ≤ D) (h : ∀ k, k < n → (S k).up = p → 0 < (S k).bytes → (k : Int) ≠ x → (S k).un ≤ D → t ≤ (S k).bg) (hx : ∀ k, k < n → (S k).up = p → (k : Int) = x → (S k).un ≤ D → t ≤ (S k).un) :
    (S p).sum * t + potH n S p x t D ≤ (S p).sum * D := by
  have h1 : potH n S p x t D ≤ sumN (fun j => (if (S j).up = p then (S j).w else 0) * (D - t)) n := sumN_le fun k hk => by
    have hwk := (hok.w k hk).1
    have hbk := (hok.b k hk).1
    by_cases e : (S k).up = p
    · simp only [if_pos e]
      unfold potJ
      by_cases ex : (k : Int) = x
      · rw [if_pos (decide_eq_true ex)]
        have := hx k hk e ex
        split
        · exact Int.mul_le_mul_of_nonneg_left (by omega) (by omega)
        · exact Int.mul_nonneg (by omega) (by omega)
      · rw [if_neg (by simpa using ex)]
        split
        · split
          · exact Int.mul_le_mul_of_nonneg_left (by omega) (by omega)
          · exact Int.mul_nonneg (by omega) (by omega)
        · rename_i hb
          have := h k hk e (by omega) ex
          split
          · exact Int.mul_le_mul_of_nonneg_left (by omega) (by omega)
          · exact Int.mul_nonneg (by omega) (by omega)
    · simp only [if_neg e]; omega
  rw [sumN_mul, hw, Int.mul_sub] at h1
  omega
/-- One node's record put in place of the old one. -/
theorem pot_upd {n : Nat} {S : St} {p k : Nat} {x x' t D d : Int} {y : Hn} (hk : k < n) (hku : (S k).up = p) (hy : y.up = (S k).up) (hx : ∀ j : Nat, j ≠ k → ((j : Int) = x' ↔ (j : Int) = x)) (h : potJ t D y (decide ((k : Int) = x')) ≤ potJ t D (S k) (decide ((k : Int) = x)) + d) : potH n (updS S k y) p x' t D ≤ potH n S p x t D + d := by
  refine sumN_upd (j := k) hk (fun j hj hjk => ?_) ?_
  · simp only [updS_ne hjk]
    split
    · have : decide ((j : Int) = x') = decide ((j : Int) = x) := by
        have := hx j hjk
        by_cases e : (j : Int) = x
        · rw [decide_eq_true e, decide_eq_true (this.2 e)]
        · rw [decide_eq_false e, decide_eq_false (fun h => e (this.1 h))]
      rw [this]; exact Int.le_refl _
    · exact Int.le_refl _
  · simp only [updS_same, hy, if_pos hku]
    exact h
/-- A node that had nothing has something. -/
theorem ShH.inn {n : Nat} {S : St} {p k : Nat} {x M : Int} {y : Hn} (hok : OkS n M S) (hp : p < n) (h : ShH n S p x) (hk : k < n) (hku : (S k).up = p) (hkp : k ≠ p) (hb0 : (S k).bytes = 0) (hs : Same y (S k)) (hyb : 0 < y.bytes ∧ y.bytes ≤ 1500) (hbg : y.bg = max (S k).un (S p).time) (hun : y.un = y.bg + y.bytes * (27720 / (S k).w) * (S p).sum) : ShH n (updS S k y) p x := by
  obtain ⟨s1, s2, s3⟩ := hs
  have hw := hok.w k hk
  have htb := tag_bound (hok.sum p hp) hw (x := y.bytes) (by omega)
  have ep : updS S k y p = S p := updS_ne (Ne.symm hkp)
  have hxk : (k : Int) ≠ x := fun e => by
    obtain ⟨i, h1, _, _, h4, _⟩ := h.pend (by omega)
    obtain rfl : k = i := by omega
    omega
  have hpot : ∀ D, potH n (updS S k y) p x (S p).time D ≤ potH n S p x (S p).time D := fun D => by
    have := pot_upd (n := n) (S := S) (p := p) (x := x) (x' := x) (t := (S p).time) (D := D) (d := 0) (y := y) hk hku s1 (fun j _ => Iff.rfl) (by
      rw [decide_eq_false hxk]
      rw [potJ_some (by omega), potJ_none hb0, s2, hun, hbg, Int.add_zero]
      exact ite_later (by omega) (by omega))
    omega
  have hup : ∀ j, (updS S k y j).up = (S j).up := fun j => by
    by_cases e : j = k
    · subst e; rw [updS_same]; exact s1
    · rw [updS_ne e]
  refine ⟨?_, fun j hj hju hb => ?_, fun hx => ?_, fun D j hj hju hb h1 h2 => ?_⟩
  · rw [ep, ← h.wsum]
    refine sumN_ext fun j hj => ?_
    rw [hup j]
    by_cases e : j = k
    · subst e; rw [updS_same, s2]
    · rw [updS_ne e]
  · rw [ep]
    by_cases e : j = k
    · subst e; rw [updS_same] at hb ⊢; rw [s2]; exact hun
    · rw [updS_ne e] at hb hju ⊢; exact h.tag j hj hju hb
  · obtain ⟨i, h1, h2, h3, h4, h5⟩ := h.pend hx
    have e : i ≠ k := fun e => hxk (by omega)
    exact ⟨i, h1, h2, by rw [updS_ne e]; exact h3, by rw [updS_ne e]; exact h4, by rw [updS_ne e, ep]; exact h5⟩
  · rw [ep] at h2 ⊢
    have hpo := hpot D
    by_cases hex : ∃ i, i < n ∧ (S i).up = p ∧ 0 < (S i).bytes ∧ (S i).un ≤ D ∧ (S i).bg ≤ (S p).time
    · obtain ⟨i, a1, a2, a3, a4, a5⟩ := hex
      have := h.main D i a1 a2 a3 a4 a5
      omega
    · by_cases e : j = k
      · subst e
        rw [updS_same] at h1 h2
        have htD : (S p).time ≤ D := by omega
        have h3 := pot_auto (x := x) (t := (S p).time) (D := D) hok h.wsum htD (fun i hi hiu hib hix hiD => Classical.byContradiction fun hn => hex ⟨i, hi, hiu, hib, hiD, by omega⟩) (fun i hi hiu hix hiD => by
          obtain ⟨i', b1, b2, b3, b4, b5⟩ := h.pend (by omega)
          obtain rfl : i = i' := by omega
          exact (hex ⟨i, hi, hiu, b4, hiD, b5⟩).elim)
        have h4 := hok.sum p hp
        rw [Int.mul_add]
        omega
      · rw [updS_ne e] at hju hb h1 h2
        exact (hex ⟨j, hj, hju, hb, h1, h2⟩).elim
/-- The chosen one's packet goes. -/
theorem ShH.send {n : Nat} {S : St} {p k : Nat} {M : Int} {y : Hn} (hok : OkS n M S) (hp : p < n) (h : ShH n S p k) (hkp : k ≠ p) (hs : Same y (S k)) (hy : (y.bytes = 0 ∧ y.un = (S k).un) ∨ ((0 < y.bytes ∧ y.bytes ≤ 1500) ∧ y.bg = (S k).un ∧ y.un = y.bg + y.bytes * (27720 / (S k).w) * (S p).sum)) : ShH n (updS S k y) p (-1) := by
  obtain ⟨s1, s2, s3⟩ := hs
  obtain ⟨k', e1, hk, hku, hkb, hkt⟩ := h.pend (by omega)
  obtain rfl : k = k' := by omega
  have hw := hok.w k hk
  have ep : updS S k y p = S p := updS_ne (Ne.symm hkp)
  have hbu := h.bu hok hp hk hku hkb
  have hpot : ∀ D, potH n (updS S k y) p (-1) (S p).time D ≤ potH n S p k (S p).time D := fun D => by
    have := pot_upd (n := n) (S := S) (p := p) (x := k) (x' := -1) (t := (S p).time) (D := D) (d := 0) (y := y) hk hku s1 (fun j _ => by omega) (by
      rw [decide_eq_true (rfl : (k : Int) = k), decide_eq_false (show ¬ (k : Int) = -1 by omega)]
      rw [potJ_pend, Int.add_zero]
      rcases hy with ⟨h1, h2⟩ | ⟨h1, h2, h3⟩
      · rw [potJ_none h1, h2, s2]
        split
        · rw [if_pos (by omega)]; exact Int.mul_le_mul_of_nonneg_left (by omega) (by omega)
        · split
          · exact Int.mul_nonneg (by omega) (by omega)
          · exact Int.le_refl _
      · have htb := tag_bound (hok.sum p hp) hw (x := y.bytes) (by omega)
        rw [potJ_some (by omega), h3, h2, s2]
        exact ite_later (by omega) (by omega))
    omega
  have hup : ∀ j, (updS S k y j).up = (S j).up := fun j => by
    by_cases e : j = k
    · subst e; rw [updS_same]; exact s1
    · rw [updS_ne e]
  refine ⟨?_, fun j hj hju hb => ?_, fun hx => by omega, fun D j hj hju hb h1 h2 => ?_⟩
  · rw [ep, ← h.wsum]
    refine sumN_ext fun j hj => ?_
    rw [hup j]
    by_cases e : j = k
    · subst e; rw [updS_same, s2]
    · rw [updS_ne e]
  · rw [ep]
    by_cases e : j = k
    · subst e; rw [updS_same] at hb ⊢; rw [s2]
      rcases hy with ⟨h1, h2⟩ | ⟨h1, h2, h3⟩
      · omega
      · exact h3
    · rw [updS_ne e] at hb hju ⊢; exact h.tag j hj hju hb
  · rw [ep] at h2 ⊢
    have hpo := hpot D
    by_cases e : j = k
    · subst e
      rw [updS_same] at hb h1 h2
      rcases hy with ⟨g1, g2⟩ | ⟨g1, g2, g3⟩
      · omega
      · have htb := tag_bound (hok.sum p hp) hw (x := y.bytes) (by omega)
        have := h.main D j hj hku hkb (by omega) hkt
        omega
    · rw [updS_ne e] at hju hb h1 h2
      have := h.main D j hj hju hb h1 h2
      omega
theorem leastK_le {S : St} {l : List Int} : ∀ i, i ≤ l.length → (∀ c ∈ l, 0 ≤ (S c.toNat).bg) → ∀ c ∈ l.take i, 0 < (S c.toNat).bytes → leastK S l i ≤ (S c.toNat).bg
  | 0, _, _, c, hc, _ => by simp at hc
  | i + 1, hi, h0, c, hc, hb => by
    have e : l.take (i + 1) = l.take i ++ [l.getD i 0] := by
      rw [List.take_add_one, List.getD_eq_getElem?_getD, List.getElem?_eq_getElem (by omega)]; rfl
    have ih := leastK_le (S := S) (l := l) i (by omega) h0
    rw [e] at hc
    simp only [leastK]
    rcases List.mem_append.1 hc with hc | hc
    · have h1 := ih c hc hb
      have h2 := h0 c (List.mem_of_mem_take hc)
      split
      · rename_i h
        rcases h.2 with h3 | h3
        · rcases leastK_cases S l i (by omega) with ⟨_, h5⟩ | ⟨c', h5, _, h6⟩ | h5
          · exact (h5 c hc hb).elim
          · have := h0 c' (List.mem_of_mem_take h5); omega
          · exact h5.elim
        · omega
      · exact h1
    · rw [List.mem_singleton.1 hc] at hb ⊢
      split
      · exact Int.le_refl _
      · rename_i h
        exact Classical.byContradiction fun hn => h ⟨hb, .inr (by omega)⟩
/-- A node chooses. -/
theorem ShH.pick {n : Nat} {kd : Nat → List Int} {S : St} {p : Nat} {M : Int} (hok : OkS n M S) (hT : Tk n kd S) (hp : p < n) (h : ShH n S p (-1)) (a : Bool) :
    ((pickH S (kd p) p a p).bytes = 0 ∧ ShH n (pickH S (kd p) p a) p (-1) ∧ (pickH S (kd p) p a p).time = (S p).time) ∨ ∃ k : Nat, k < n ∧ (S k).up = p ∧ 0 < (S k).bytes ∧ ShH n (pickH S (kd p) p a) p k ∧ (pickH S (kd p) p a p).leaf = (S k).leaf ∧ (pickH S (kd p) p a p).bytes = (S k).bytes ∧ (S p).time ≤ (pickH S (kd p) p a p).time - (S k).bytes * 27720 := by
  have hin := hT.in_n hp
  have hne := hT.ne hok hp
  have hst : ∀ j, Same (pickH S (kd p) p a j) (S j) := pickH_stat S (kd p) p a
  have hkid : ∀ j, j < n → (S j).up = p → pickH S (kd p) p a j = S j := fun j hj hu => pickH_ne (fun e => by
    subst e
    rcases hok.up_lt hj with h1 | ⟨r, h1, h2⟩ <;> omega)
  have hmem : ∀ j, j < n → (S j).up = p → (j : Int) ∈ kd p := fun j hj hu => (hT.mem p hp _).2 ⟨j, rfl, hj, hu⟩
  have hsum : (pickH S (kd p) p a p).sum = (S p).sum := (hst p).2.2
  have hwsum : sumN (fun j => if (pickH S (kd p) p a j).up = p then (pickH S (kd p) p a j).w else 0) n = (pickH S (kd p) p a p).sum := by
    rw [hsum, ← h.wsum]
    exact sumN_ext fun j hj => by rw [(hst j).1, (hst j).2.1]
  have hpot : ∀ x t D, potH n (pickH S (kd p) p a) p x t D = potH n S p x t D := fun x t D => sumN_ext fun j hj => by
    rw [(hst j).1]
    by_cases e : (S j).up = p
    · rw [if_pos e, if_pos e, hkid j hj e]
    · rw [if_neg e, if_neg e]
  rcases pick_best hok hin p with ⟨h1, h2⟩ | ⟨h1, h1M, _, h3, h4, h5, h6, h7⟩
  · left
    have e : pickH S (kd p) p a p = { S p with bytes := 0 } := by unfold pickH; rw [if_pos h1, updS_same]
    have hno : ∀ j, j < n → (S j).up = p → ¬ 0 < (S j).bytes := fun j hj hu => by have := h2 _ (hmem j hj hu); rwa [Int.toNat_natCast] at this
    refine ⟨by rw [e], ⟨hwsum, fun j hj hu hb => ?_, fun hx => by omega, fun D j hj hu hb _ _ => ?_⟩, by rw [e]⟩
    · rw [(hst j).1] at hu; rw [hkid j hj hu] at hb; exact (hno j hj hu hb).elim
    · rw [(hst j).1] at hu; rw [hkid j hj hu] at hb; exact (hno j hj hu hb).elim
  · right
    obtain ⟨i, hi1, hk, hku⟩ := (hT.mem p hp _).1 h3
    obtain rfl : bestN S (kd p) p = i := by omega
    generalize hkk : bestN S (kd p) p = k at *
    have e : pickH S (kd p) p a p = offH (setT S p (timeK S (kd p) p + (S k).bytes * 27720)) p (S k).leaf (S k).bytes a := by
      unfold pickH; rw [if_neg (by omega), updS_same, hkk]
    have st := offH_stat (setT S p (timeK S (kd p) p + (S k).bytes * 27720)) p (S k).leaf (S k).bytes a
    rw [← e] at st
    have htime : (pickH S (kd p) p a p).time = timeK S (kd p) p + (S k).bytes * 27720 := by rw [st.2.2.2.2.2]; unfold setT; rw [updS_same]
    have hTt : (S p).time ≤ timeK S (kd p) p := by unfold timeK; omega
    have hleast : ∀ j, j < n → (S j).up = p → 0 < (S j).bytes → leastK S (kd p) (kd p).length ≤ (S j).bg := fun j hj hu hb => by
      have := leastK_le (S := S) (l := kd p) (kd p).length (Nat.le_refl _) (fun c hc => (hok.t c.toNat (by have := hin c hc; omega)).1.1) (j : Int) (by rw [List.take_length]; exact hmem j hj hu) (by rw [Int.toNat_natCast]; exact hb)
      rwa [Int.toNat_natCast] at this
    have hbest : ∀ j, j < n → (S j).up = p → 0 < (S j).bytes → (S j).bg ≤ timeK S (kd p) p → (S k).un ≤ (S j).un := fun j hj hu hb hg => by
      have := h7 (j : Int) (hmem j hj hu) (by rw [Int.toNat_natCast]; exact hb) (by rw [Int.toNat_natCast]; exact hg)
      rwa [Int.toNat_natCast] at this
    have hTc : timeK S (kd p) p = (S p).time ∨ ∀ j, j < n → (S j).up = p → 0 < (S j).bytes → timeK S (kd p) p ≤ (S j).bg := by
      by_cases hc : leastK S (kd p) (kd p).length ≤ (S p).time
      · left; unfold timeK; omega
      · right; intro j hj hu hb
        have := hleast j hj hu hb
        unfold timeK; omega
    have hL := hok.b k hk
    have hs := hok.sum p hp
    have hwk := hok.w k hk
    generalize hTT : timeK S (kd p) p = T at *
    have hm1 : ∀ D j, j < n → (S j).up = p → 0 < (S j).bytes → (S j).un ≤ D → (S j).bg ≤ T → (S p).sum * T + potH n S p (-1) T D ≤ (S p).sum * (D + 41580000) := fun D j hj hu hb hd hg => by
      rcases hTc with e | e
      · rw [e] at hg ⊢; exact h.main D j hj hu hb hd hg
      · have h8 := e j hj hu hb
        have h9 := (h.bu hok hp hj hu hb).1
        have := pot_auto (x := -1) (t := T) (D := D) hok h.wsum (by omega) (fun i hi hiu hib _ _ => e i hi hiu hib) (fun i hi hiu hix _ => by omega)
        rw [Int.mul_add]
        omega
    have htag := h.tag k hk hku h5
    have hdu : (S k).w * ((S k).un - (S k).bg) = (S p).sum * ((S k).bytes * 27720) := by
      have : (S k).un - (S k).bg = (S k).bytes * (27720 / (S k).w) * (S p).sum := by omega
      rw [this, Int.mul_comm ((S k).bytes * _) (S p).sum, Int.mul_left_comm, Int.mul_left_comm (S k).w (S k).bytes, w_div hwk]
    have hpt : ∀ D, potH n S p k (T + (S k).bytes * 27720) D ≤ potH n S p (-1) T D + (if (S k).un ≤ D then -((S p).sum * ((S k).bytes * 27720)) else 0) := fun D => by
      refine sumN_upd (j := k) hk (fun j hj hjk => ?_) ?_
      · simp only [decide_eq_false (show ¬ (j : Int) = k by omega), decide_eq_false (show ¬ (j : Int) = -1 by omega)]
        split
        · exact potJ_time (by have := hok.w j hj; omega) (by omega)
        · exact Int.le_refl _
      · simp only [if_pos hku, decide_eq_false (show ¬ (k : Int) = -1 by omega)]
        rw [show decide True = true from rfl, potJ_pend, potJ_some (by omega)]
        split
        · rw [← hdu, Int.mul_sub, Int.mul_sub, Int.mul_sub]; omega
        · omega
    refine ⟨k, hk, hku, h5, ⟨hwsum, fun j hj hu hb => ?_, fun _ => ⟨k, rfl, hk, by rw [(hst k).1]; exact hku, by rw [hkid k hk hku]; exact h5, by rw [hkid k hk hku, htime]; omega⟩, fun D j hj hu hb hd hg => ?_⟩, st.2.2.2.1, st.2.2.2.2.1, by omega⟩
    · rw [(hst j).1] at hu
      rw [hkid j hj hu] at hb ⊢
      rw [hsum]; exact h.tag j hj hu hb
    · rw [(hst j).1] at hu
      rw [hkid j hj hu] at hb hd hg
      rw [hsum, htime, hpot, Int.mul_add]
      have hpD := hpt D
      by_cases huk : (S k).un ≤ D
      · rw [if_pos huk] at hpD
        have := hm1 D k hk hku h5 huk h6
        omega
      · rw [if_neg huk] at hpD
        have hno : ∀ i, i < n → (S i).up = p → 0 < (S i).bytes → (S i).un ≤ D → T < (S i).bg := fun i hi hiu hib hiD => Classical.byContradiction fun hn => by
          have := hbest i hi hiu hib (by omega)
          omega
        have hjb := hno j hj hu hb hd
        have hju := (h.bu hok hp hj hu hb).1
        have h8 := pot_auto (x := -1) (t := T) (D := D) hok h.wsum (by omega) (fun i hi hiu hib _ hiD => by have := hno i hi hiu hib hiD; omega) (fun i hi hiu hix _ => by omega)
        have h9 := Int.mul_le_mul_of_nonneg_left (show (S k).bytes * 27720 ≤ 41580000 by omega) hs.1
        rw [Int.mul_add]
        omega
/-- Virtual time is never far behind a deadline. -/
theorem ShH.late {n : Nat} {S : St} {p k : Nat} {x M : Int} (hok : OkS n M S) (hp : p < n) (h : ShH n S p x) (hk : k < n) (hu : (S k).up = p) (hb : 0 < (S k).bytes) : (S p).time ≤ (S k).un + 41580000 ∧ (S k).w ≤ (S p).sum := by
  have hbu := h.bu hok hp hk hu hb
  have hwS : (S k).w ≤ (S p).sum := by
    rw [← h.wsum]
    have := sumN_one (f := fun j => if (S j).up = p then (S j).w else 0) hk (fun j hj => by
      have := hok.w j hj
      show (0 : Int) ≤ (if (S j).up = p then (S j).w else 0)
      split <;> omega)
    simp only [if_pos hu] at this
    exact this
  have hwk := hok.w k hk
  refine ⟨?_, hwS⟩
  by_cases e : (S k).bg ≤ (S p).time
  · have h1 := h.main _ k hk hu hb (Int.le_refl _) e
    have h2 : 0 ≤ potH n S p x (S p).time (S k).un := sumN_nonneg fun j hj => by
      show (0 : Int) ≤ (if (S j).up = p then potJ (S p).time (S k).un (S j) (decide ((j : Int) = x)) else 0)
      split
      · rename_i hju
        have hbj := hok.b j hj
        exact potJ_nonneg (by have := hok.w j hj; omega) fun hne => (h.bu hok hp hj hju (by omega)).1
      · exact Int.le_refl _
    exact Int.le_of_mul_le_mul_left (show (S p).sum * (S p).time ≤ (S p).sum * _ by omega) (by omega)
  · omega
end Go.Proofs.Ytknfaoonjmlncaa
