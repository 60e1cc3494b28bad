import Derived.Test.YtknfaoonjmlncaaPlainS
/- Leaves of a tree of classes served, in plain Lean: how far ahead a class is. -/
set_option linter.unusedVariables false
set_option linter.unusedSimpArgs false
namespace Go.Proofs.Ytknfaoonjmlncaa

structure AhH (S : St) (p who : Nat) (th ahead best : Int) : Prop where
  bt : 0 < (S who).bytes → (S who).bg ≤ th + 1500 * (27720 / (S who).w) * (S p).sum
  ut : (S who).bytes = 0 → (S who).un ≤ th + 1500 * (27720 / (S who).w) * (S p).sum
  hi : 0 < (S who).bytes → (27720 / (S who).w) * best ≤ (27720 / (S who).w) * ahead - (S who).bg + th + 1500 * (27720 / (S who).w) * (S p).sum
theorem AhH.mono {S S' : St} {p who : Nat} {th th' ahead best : Int} (h : AhH S p who th ahead best) (hw : S' who = S who) (hs : (S' p).sum = (S p).sum) (ht : th ≤ th') : AhH S' p who th' ahead best := by
  refine ⟨fun hb => ?_, fun hb => ?_, fun hb => ?_⟩ <;> rw [hw] at hb <;> rw [hw, hs]
  · have := h.bt hb; omega
  · have := h.ut hb; omega
  · have := h.hi hb; omega
theorem mul_max_le {c a b y : Int} (h1 : c * a ≤ y) (h2 : c * b ≤ y) : c * max a b ≤ y := by
  rcases Int.le_total a b with h | h
  · rw [Int.max_eq_right h]; exact h2
  · rw [Int.max_eq_left h]; exact h1
theorem AhH.max {S : St} {p who : Nat} {th ahead best : Int} (h : AhH S p who th ahead best) : AhH S p who th ahead (max best ahead) :=
  ⟨h.bt, h.ut, fun hb => mul_max_le (h.hi hb) (by have := h.bt hb; omega)⟩
/-- What holds between two things. -/
structure PI (n : Nat) (S : St) (p : Nat) (x : Int) : Prop where
  sh : ShH n S p x
  cs : (x = -1 ∧ (S p).bytes = 0) ∨ ∃ k : Nat, x = k ∧ (S p).leaf = (S k).leaf ∧ (S p).bytes = (S k).bytes
def thH (S : St) (p : Nat) : Int := (S p).time - (S p).bytes * 27720
theorem PI.congr {n : Nat} {S S' : St} {p : Nat} {x : Int} (h : PI n S p x) (hu : ∀ j, (S' j).up = (S j).up) (hp : S' p = S p) (hk : ∀ j, j < n → (S j).up = p → S' j = S j) : PI n S' p x := by
  refine ⟨h.sh.congr hu hp hk, ?_⟩
  rcases h.cs with h1 | ⟨k, h1, h2, h3⟩
  · rw [hp]; exact .inl h1
  · obtain ⟨k', e1, e2, e3, _, _⟩ := h.sh.pend (by omega)
    obtain rfl : k = k' := by omega
    rw [hp]
    exact .inr ⟨k, h1, by rw [hk k e2 e3]; exact h2, by rw [hk k e2 e3]; exact h3⟩
theorem offH_eq {S : St} {k p : Nat} (h : (S k).up = p) (lf b : Int) (a : Bool) : (offH S k lf b a).bg = (if a then (S k).un else max (S k).un (S p).time) ∧ (offH S k lf b a).un = (if a then (S k).un else max (S k).un (S p).time) + b * (27720 / (S k).w) * (S p).sum := by
  unfold offH
  rw [if_neg (by omega), h, Int.toNat_natCast]
  exact ⟨rfl, rfl⟩
theorem ShH.wle {n : Nat} {S : St} {p k : Nat} {x M : Int} (hok : OkS n M S) (h : ShH n S p x) (hk : k < n) (hu : (S k).up = p) : (S k).w ≤ (S p).sum ∧ 41580000 ≤ 1500 * (27720 / (S k).w) * (S p).sum := by
  have hwS : (S k).w ≤ (S p).sum := by
    rw [← h.wsum]
    have := sumN_one (f := fun j => if (S j).up = p then (S j).w else 0) hk (fun j hj => by
      have := hok.w j hj
      show (0 : Int) ≤ (if (S j).up = p then (S j).w else 0)
      split <;> omega)
    simp only [if_pos hu] at this
    exact this
  have hwk := hok.w k hk
  have hcw := w_div hwk
  have hc := (tag_bound (S := 0) (by omega) hwk (x := 0) (by omega)).1.1
  have := Int.mul_le_mul_of_nonneg_left hwS (show 0 ≤ 1500 * (27720 / (S k).w) by omega)
  rw [Int.mul_assoc 1500, Int.mul_comm _ (S k).w, hcw] at this
  exact ⟨hwS, by omega⟩
/-- One that had nothing has something. -/
theorem PI.arrive {n : Nat} {S : St} {p who k : Nat} {x M ahead best : Int} {y : Hn} (hok : OkS n M S) (hp : p < n) (hwho : who < n) (hwu : (S who).up = p) (h : PI n S p x) (hA : AhH S p who (thH S p) ahead best) (hk : k < n) (hkp : k ≠ p) (hb0 : (S k).bytes = 0) (hs : Same y (S k)) (hyb : 0 < y.bytes ∧ y.bytes ≤ 1500) (hy : (S k).up = p → y.bg = max (S k).un (S p).time ∧ y.un = y.bg + y.bytes * (27720 / (S k).w) * (S p).sum) :
    PI n (updS S k y) p x ∧ AhH (updS S k y) p who (thH (updS S k y) p) ahead (if (S who).bytes = 0 ∧ (updS S k y who).bytes ≠ 0 then ahead else best) := by
  have ep : updS S k y p = S p := updS_ne (Ne.symm hkp)
  have eth : thH (updS S k y) p = thH S p := by unfold thH; rw [ep]
  have hup : ∀ j, (updS S k y j).up = (S j).up := fun j => by
    by_cases e : j = k
    · subst e; rw [updS_same]; exact hs.1
    · rw [updS_ne e]
  by_cases hku : (S k).up = p
  · obtain ⟨hbg, hun⟩ := hy hku
    refine ⟨⟨h.sh.inn hok hp hk hku hkp hb0 hs hyb hbg hun, ?_⟩, ?_⟩
    · rw [ep]
      rcases h.cs with h1 | ⟨i, h1, h2, h3⟩
      · exact .inl h1
      · obtain ⟨i', e1, e2, e3, e4, _⟩ := h.sh.pend (by omega)
        have e : i ≠ k := fun e => by
          obtain rfl : i = i' := by omega
          subst e; omega
        exact .inr ⟨i, h1, by rw [updS_ne e]; exact h2, by rw [updS_ne e]; exact h3⟩
    · rw [eth]
      by_cases e : who = k
      · subst e
        rw [updS_same, if_pos ⟨hb0, by omega⟩]
        have h1 := hA.ut hb0
        have h2 := (h.sh.wle hok hk hku).2
        have hpb := hok.b p hp
        have hth : (S p).time = thH S p + (S p).bytes * 27720 := by unfold thH; omega
        refine ⟨fun _ => ?_, fun hb => ?_, fun _ => ?_⟩
        · rw [updS_same, ep, hs.2.1, hbg]; omega
        · rw [updS_same] at hb; omega
        · rw [updS_same, ep, hs.2.1, hbg]; omega
      · rw [updS_ne e, if_neg (fun hh => hh.2 hh.1)]
        exact hA.mono (updS_ne e) (by rw [ep]) (Int.le_refl _)
  · have hkid : ∀ j, j < n → (S j).up = p → updS S k y j = S j := fun j _ hu => updS_ne (fun e => hku (e ▸ hu))
    refine ⟨h.congr hup ep hkid, ?_⟩
    have e : who ≠ k := fun e => hku (e ▸ hwu)
    rw [eth, updS_ne e, if_neg (fun hh => hh.2 hh.1)]
    exact hA.mono (updS_ne e) (by rw [ep]) (Int.le_refl _)
/-- A node that had nothing picks. -/
theorem PI.step {n : Nat} {kd : Nat → List Int} {S : St} {p who u : Nat} {x M ahead best : Int} (hok : OkS n M S) (hT : Tk n kd S) (hp : p < n) (hwho : who < n) (hwu : (S who).up = p) (h : PI n S p x) (hA : AhH S p who (thH S p) ahead best) (hu : u < n) (hb0 : (S u).bytes = 0) :
    ∃ x', PI n (pickH S (kd u) u false) p x' ∧ AhH (pickH S (kd u) u false) p who (thH (pickH S (kd u) u false) p) ahead (if (S who).bytes = 0 ∧ (pickH S (kd u) u false who).bytes ≠ 0 then ahead else best) := by
  have hwp : who ≠ p := fun e => by subst e; rcases hok.up_lt hwho with h1 | ⟨r, h1, h2⟩ <;> omega
  by_cases e : u = p
  · subst e
    have hx : x = -1 := by
      rcases h.cs with ⟨h1, _⟩ | ⟨k, h1, h2, h3⟩
      · exact h1
      · obtain ⟨k', e1, e2, e3, e4, _⟩ := h.sh.pend (by omega)
        obtain rfl : k = k' := by omega
        omega
    subst hx
    have ew : pickH S (kd u) u false who = S who := pickH_ne hwp
    have es : (pickH S (kd u) u false u).sum = (S u).sum := (pickH_stat _ _ _ _ _).2.2
    have hkid : ∀ j, j < n → (S j).up = u → pickH S (kd u) u false j = S j := fun j hj hju => pickH_ne (fun e => by subst e; rcases hok.up_lt hj with h1 | ⟨r, h1, h2⟩ <;> omega)
    rw [ew, if_neg (fun hh => hh.2 hh.1)]
    rcases h.sh.pick hok hT hp false with ⟨h1, h2, h3⟩ | ⟨k, h1, h2, h3, h4, h5, h6, h7⟩
    · refine ⟨-1, ⟨h2, .inl ⟨rfl, h1⟩⟩, hA.mono ew es ?_⟩
      unfold thH; rw [h1, h3, hb0]; omega
    · refine ⟨k, ⟨h4, .inr ⟨k, rfl, by rw [hkid k h1 h2]; exact h5, by rw [hkid k h1 h2]; exact h6⟩⟩, hA.mono ew es ?_⟩
      unfold thH; rw [h6, hb0]; omega
  · rcases pick_best hok (hT.in_n hu) u with ⟨h1, _⟩ | ⟨h1, _, _, h3, h4, h5, _, _⟩
    · have e1 : pickH S (kd u) u false = S := by
        unfold pickH
        rw [if_pos h1]
        funext j
        unfold updS
        split
        · rename_i ej; subst ej
          rw [← hb0]
        · rfl
      rw [e1, if_neg (fun hh => hh.2 hh.1)]
      exact ⟨x, h, hA⟩
    · have e1 : pickH S (kd u) u false = updS S u (offH (setT S u (timeK S (kd u) u + (S (bestN S (kd u) u)).bytes * 27720)) u (S (bestN S (kd u) u)).leaf (S (bestN S (kd u) u)).bytes false) := by
        unfold pickH; rw [if_neg (by omega)]
      have st := offH_stat (setT S u (timeK S (kd u) u + (S (bestN S (kd u) u)).bytes * 27720)) u (S (bestN S (kd u) u)).leaf (S (bestN S (kd u) u)).bytes false
      have hku : Same (setT S u (timeK S (kd u) u + (S (bestN S (kd u) u)).bytes * 27720) u) (S u) := by unfold setT; rw [updS_same]; exact ⟨rfl, rfl, rfl⟩
      have hun : (setT S u (timeK S (kd u) u + (S (bestN S (kd u) u)).bytes * 27720) u).un = (S u).un := by unfold setT; rw [updS_same]
      have hpp : setT S u (timeK S (kd u) u + (S (bestN S (kd u) u)).bytes * 27720) p = S p := updS_ne (Ne.symm e)
      have hbb := hok.b _ h4
      rw [e1]
      refine ⟨x, h.arrive hok hp hwho hwu hA hu e hb0 ⟨st.1.trans hku.1, st.2.1.trans hku.2.1, st.2.2.1.trans hku.2.2⟩ (by rw [st.2.2.2.2.1]; omega) (fun hup => ?_)⟩
      have := offH_eq (S := setT S u (timeK S (kd u) u + (S (bestN S (kd u) u)).bytes * 27720)) (k := u) (p := p) (by rw [hku.1]; exact hup) (S (bestN S (kd u) u)).leaf (S (bestN S (kd u) u)).bytes false
      rw [hun, hpp, hku.2.1] at this
      rw [this.1, this.2, st.2.2.2.2.1]
      exact ⟨rfl, rfl⟩
theorem climb_keep {kd : Nat → List Int} : ∀ (f : Nat) (S : St) (u : Int) (j : Nat), (S j).bytes ≠ 0 → climb kd false f S u j = S j
  | 0, S, u, j, h => rfl
  | f + 1, S, u, j, h => by
    unfold climb
    split
    · rename_i hc
      have hz : (S u.toNat).bytes = 0 := by
        rcases hc.2 with h1 | h1
        · cases h1
        · exact h1
      have hne : j ≠ u.toNat := fun e => h (e ▸ hz)
      have h1 : pickH S (kd u.toNat) u.toNat false j = S j := pickH_ne hne
      rw [climb_keep f _ _ j (by rw [h1]; exact h), h1]
    · rfl
theorem bestc {s0 s1 s2 ahead best : Int} (h1 : s1 ≠ 0 → s2 ≠ 0) (h0 : s0 ≠ 0 → s1 ≠ 0) : (if s1 = 0 ∧ s2 ≠ 0 then ahead else (if s0 = 0 ∧ s1 ≠ 0 then ahead else best)) = if s0 = 0 ∧ s2 ≠ 0 then ahead else best := by
  by_cases a : s0 = 0
  · by_cases b : s1 = 0
    · by_cases c : s2 = 0
      · rw [if_neg (fun h => h.2 c), if_neg (fun h => h.2 b), if_neg (fun h => h.2 c)]
      · rw [if_pos ⟨b, c⟩, if_pos ⟨a, c⟩]
    · rw [if_neg (fun h => b h.1), if_pos ⟨a, b⟩, if_pos ⟨a, h1 b⟩]
  · rw [if_neg (fun h => h0 a h.1), if_neg (fun h => a h.1), if_neg (fun h => a h.1)]
theorem PI.climb {n : Nat} {kd : Nat → List Int} {p who : Nat} (hp : p < n) (hwho : who < n) : ∀ (f : Nat) (M : Int) (S : St) (u : Int) (x ahead best : Int), u < n → OkS n M S → Tk n kd S → (S who).up = p → PI n S p x → AhH S p who (thH S p) ahead best →
    ∃ x', PI n (climb kd false f S u) p x' ∧ AhH (climb kd false f S u) p who (thH (climb kd false f S u) p) ahead (if (S who).bytes = 0 ∧ (climb kd false f S u who).bytes ≠ 0 then ahead else best)
  | 0, M, S, u, x, ahead, best, hu, hok, hT, hwu, h, hA => ⟨x, h, by
      rw [show Go.Proofs.Ytknfaoonjmlncaa.climb kd false 0 S u = S from rfl, if_neg (fun hh => hh.2 hh.1)]; exact hA⟩
  | f + 1, M, S, u, x, ahead, best, hu, hok, hT, hwu, h, hA => by
    unfold Go.Proofs.Ytknfaoonjmlncaa.climb
    split
    · rename_i hc
      have hz : (S u.toNat).bytes = 0 := by
        rcases hc.2 with h1 | h1
        · cases h1
        · exact h1
      have hun : u.toNat < n := by omega
      have hup := hok.up_lt hun
      obtain ⟨x1, h1, hA1⟩ := h.step hok hT hp hwho hwu hA hun hz
      have hst : ∀ j, (pickH S (kd u.toNat) u.toNat false j).up = (S j).up := fun j => (pickH_stat _ _ _ _ _).1
      obtain ⟨x2, h2, hA2⟩ := PI.climb hp hwho f _ (pickH S (kd u.toNat) u.toNat false) (S u.toNat).up x1 ahead _ (by rcases hup with h | ⟨r, h, h2⟩ <;> omega) (hok.pick (hT.in_n hun) hun false) (hT.stat hst) (by rw [hst]; exact hwu) h1 hA1
      refine ⟨x2, h2, ?_⟩
      rwa [bestc (fun hh => by rw [climb_keep f _ _ who hh]; exact hh) (fun hh => by
        have hne : who ≠ u.toNat := fun e => hh (e ▸ hz)
        rw [show pickH S (kd u.toNat) u.toNat false who = S who from pickH_ne hne]; exact hh)] at hA2
    · rw [if_neg (fun hh => hh.2 hh.1)]; exact ⟨x, h, hA⟩
/-- A packet comes. -/
theorem PI.inn {n : Nat} {kd : Nat → List Int} {S : St} {p who k : Nat} {x M ahead best b : Int} (hok : OkS n M S) (hT : Tk n kd S) (hp : p < n) (hwho : who < n) (hwu : (S who).up = p) (h : PI n S p x) (hA : AhH S p who (thH S p) ahead best) (hk : k < n) (hkd : kd k = []) (hb : 1 ≤ b ∧ b ≤ 1500) :
    ∃ x', PI n (inH n kd S k b) p x' ∧ AhH (inH n kd S k b) p who (thH (inH n kd S k b) p) ahead (if (S who).bytes = 0 ∧ (inH n kd S k b who).bytes ≠ 0 then ahead else best) := by
  have hkp : k ≠ p := fun e => by
    subst e
    exact hT.up_ne hwho hp hwu hkd
  have hbk := hok.b k hk
  unfold inH
  split
  · rw [if_neg (fun hh => hh.2 hh.1)]; exact ⟨x, h, hA⟩
  · rename_i h0
    have hz : (S k).bytes = 0 := by omega
    have st := offH_stat S k k b false
    have hst : ∀ j, (updS S k (offH S k k b false) j).up = (S j).up := fun j => by
      by_cases e : j = k
      · subst e; rw [updS_same]; exact st.1
      · rw [updS_ne e]
    obtain ⟨h1, hA1⟩ := h.arrive hok hp hwho hwu hA hk hkp hz (y := offH S k k b false) ⟨st.1, st.2.1, st.2.2.1⟩ (by rw [st.2.2.2.2.1]; omega) (fun hu => by
      have := offH_eq hu k b false
      rw [this.1, this.2, st.2.2.2.2.1]
      exact ⟨rfl, rfl⟩)
    have hup := hok.up_lt hk
    obtain ⟨x2, h2, hA2⟩ := PI.climb hp hwho n _ (updS S k (offH S k k b false)) (S k).up x ahead _ (by rcases hup with h | ⟨r, h, h2⟩ <;> omega) (hok.off hk _ (by omega) _) (hT.stat hst) (by rw [hst]; exact hwu) h1 hA1
    refine ⟨x2, h2, ?_⟩
    rwa [bestc (fun hh => by rw [climb_keep n _ _ who hh]; exact hh) (fun hh => by
      have hne : who ≠ k := fun e => hh (e ▸ hz)
      rw [updS_ne hne]; exact hh)] at hA2
/-- What it is ahead by when a packet of kid k has gone. -/
def aheadK (S : St) (p who k : Nat) (ahead : Int) : Int := ahead - (S p).bytes * (S who).w + (if k = who then (S p).bytes * (S p).sum else 0)
theorem PI.send {n : Nat} {S : St} {p who k : Nat} {M ahead best : Int} {y : Hn} (hok : OkS n M S) (hp : p < n) (hwho : who < n) (hwu : (S who).up = p) (h : PI n S p k) (hA : AhH S p who (thH S p) ahead best) (hkp : k ≠ p) (hs : Same y (S k)) (hy : (y.bytes = 0 ∧ y.un = (S k).un) ∨ ((0 < y.bytes ∧ y.bytes ≤ 1500) ∧ y.bg = (S k).un ∧ y.un = y.bg + y.bytes * (27720 / (S k).w) * (S p).sum)) :
    ShH n (updS S k y) p (-1) ∧ AhH (updS S k y) p who (S p).time (aheadK S p who k ahead) (max best (aheadK S p who k ahead)) := by
  refine ⟨h.sh.send hok hp hkp hs hy, ?_⟩
  have ep : updS S k y p = S p := updS_ne (Ne.symm hkp)
  obtain ⟨k', e1, hk, hku, hkb, hkt⟩ := h.sh.pend (by omega)
  obtain rfl : k = k' := by omega
  have hpb : (S p).bytes = (S k).bytes := by
    rcases h.cs with ⟨h1, _⟩ | ⟨i, h1, _, h3⟩
    · omega
    · obtain rfl : k = i := by omega
      exact h3
  have hbk := hok.b k hk
  have hwk := hok.w who hwho
  have hcw := w_div hwk
  have hsum := hok.sum p hp
  have hc1 := tag_bound hsum hwk (x := (S p).bytes) (by omega)
  have hB := (tag_bound hsum hwk (x := 1500) (by omega)).2.2.1
  have hth : (S p).time = thH S p + (S p).bytes * 27720 := by unfold thH; omega
  have hcx : (27720 / (S who).w) * ((S p).bytes * (S who).w) = (S p).bytes * 27720 := by rw [Int.mul_left_comm, Int.mul_comm (27720 / _), hcw]
  unfold aheadK
  by_cases e : k = who
  · subst e
    rw [if_pos rfl]
    have htag := h.sh.tag k hk hku hkb
    have hBx := Int.mul_le_mul_of_nonneg_right (Int.mul_le_mul_of_nonneg_right hbk.2 hc1.1.1) hsum.1
    have h3 := hA.hi hkb
    rw [← hpb] at htag hBx
    have hca : (27720 / (S k).w) * (ahead - (S p).bytes * (S k).w + (S p).bytes * (S p).sum) = (27720 / (S k).w) * ahead - (S p).bytes * 27720 + (S p).bytes * (27720 / (S k).w) * (S p).sum := by
      rw [Int.mul_add, Int.mul_sub, hcx, Int.mul_assoc (S p).bytes, Int.mul_left_comm (S p).bytes]
    generalize ahead - (S p).bytes * (S k).w + (S p).bytes * (S p).sum = a' at *
    refine ⟨fun hb => ?_, fun hb => ?_, fun hb => ?_⟩
    · rw [updS_same] at hb
      rw [updS_same, ep, hs.2.1]
      rcases hy with ⟨g1, g2⟩ | ⟨g1, g2, g3⟩
      · omega
      · omega
    · rw [updS_same] at hb
      rw [updS_same, ep, hs.2.1]
      rcases hy with ⟨g1, g2⟩ | ⟨g1, g2, g3⟩
      · omega
      · omega
    · rw [updS_same] at hb
      rw [updS_same, ep, hs.2.1]
      rcases hy with ⟨g1, g2⟩ | ⟨g1, g2, g3⟩
      · omega
      · exact mul_max_le (by omega) (by omega)
  · rw [if_neg e, Int.add_zero]
    have ew : updS S k y who = S who := updS_ne (Ne.symm e)
    have hca : (27720 / (S who).w) * (ahead - (S p).bytes * (S who).w) = (27720 / (S who).w) * ahead - (S p).bytes * 27720 := by
      rw [Int.mul_sub, hcx]
    generalize ahead - (S p).bytes * (S who).w = a' at *
    refine ⟨fun hb => ?_, fun hb => ?_, fun hb => ?_⟩ <;> rw [ew] at hb <;> rw [ew, ep]
    · have := hA.bt hb; omega
    · have := hA.ut hb; omega
    · have h3 := hA.hi hb
      have h4 := hA.bt hb
      exact mul_max_le (by omega) (by omega)
theorem AhH.fin {n : Nat} {S : St} {p who : Nat} {x M ahead best : Int} (hok : OkS n M S) (hp : p < n) (hwho : who < n) (hwu : (S who).up = p) (h : PI n S p x) (hA : AhH S p who (thH S p) ahead best) (hb : 0 < (S who).bytes) : best - ahead ≤ 4500 * (S p).sum := by
  have h1 := hA.hi hb
  obtain ⟨h2, _⟩ := h.sh.late hok hp hwho hwu hb
  have h3 := (h.sh.bu hok hp hwho hwu hb).2
  have h4 := (h.sh.wle hok hwho hwu).2
  have hpb := hok.b p hp
  have hwk := hok.w who hwho
  have hcw := w_div hwk
  have hth : thH S p ≤ (S p).time := by unfold thH; omega
  have hc : 0 < 27720 / (S who).w := by
    refine Classical.byContradiction fun hn => ?_
    have := Int.mul_nonpos_of_nonneg_of_nonpos (a := (S who).w) (b := 27720 / (S who).w) (by omega) (by omega)
    omega
  have e3 : 3 * (1500 * (27720 / (S who).w) * (S p).sum) = (27720 / (S who).w) * (4500 * (S p).sum) := by
    rw [show (4500 : Int) = 3 * 1500 by rfl]
    generalize 27720 / (S who).w = c
    rw [Int.mul_assoc 3 1500 (S p).sum, Int.mul_left_comm c, Int.mul_comm 1500 c, Int.mul_assoc]
  refine Int.le_of_mul_le_mul_left (a := 27720 / (S who).w) ?_ hc
  rw [Int.mul_sub, ← e3]
  omega
end Go.Proofs.Ytknfaoonjmlncaa
