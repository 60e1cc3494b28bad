import Derived.Test.YtknfaoonjmlncaaPlainH
/- Leaves of a tree of classes served, in plain Lean: one thing behind the other. -/
set_option linter.unusedVariables false
namespace Go.Proofs.Ytknfaoonjmlncaa

/-- Who is below whom. -/
structure Tk (n : Nat) (kd : Nat → List Int) (S : St) : Prop where
  mem : ∀ k, k < n → ∀ c, c ∈ kd k ↔ ∃ j : Nat, c = j ∧ j < n ∧ (S j).up = k
  len : ∀ k, k < n → (kd k).length ≤ 16
theorem Tk.stat {n : Nat} {kd : Nat → List Int} {S S' : St} (h : Tk n kd S) (hs : ∀ j, (S' j).up = (S j).up) : Tk n kd S' := ⟨fun k hk c => by rw [h.mem k hk c]; simp only [hs], h.len⟩
theorem Tk.in_n {n : Nat} {kd : Nat → List Int} {S : St} (h : Tk n kd S) {k : Nat} (hk : k < n) : ∀ c ∈ kd k, 0 ≤ c ∧ c < n := fun c hc => by
  obtain ⟨j, rfl, h1, _⟩ := (h.mem k hk c).1 hc; omega
theorem Tk.ne {n : Nat} {kd : Nat → List Int} {S : St} (h : Tk n kd S) {M : Int} (hok : OkS n M S) {k : Nat} (hk : k < n) : ∀ c ∈ kd k, c ≠ k := fun c hc => by
  obtain ⟨j, rfl, h1, h2⟩ := (h.mem k hk c).1 hc
  rcases hok.up_lt h1 with h3 | ⟨p, h3, h4⟩ <;> omega
theorem Tk.up_ne {n : Nat} {kd : Nat → List Int} {S : St} (h : Tk n kd S) {j p : Nat} (hj : j < n) (hp : p < n) (hu : (S j).up = p) : kd p ≠ [] := fun e => by
  have := (h.mem p hp (j : Int)).2 ⟨j, rfl, hj, hu⟩
  rw [e] at this; cases this
/-- A node has what one of those below it has, or nothing. -/
def Good (S : St) (kd : Nat → List Int) (k : Nat) : Prop := ((∀ c ∈ kd k, (S c.toNat).bytes = 0) ∧ (S k).bytes = 0) ∨ ∃ c ∈ kd k, 0 < (S c.toNat).bytes ∧ (S k).leaf = (S c.toNat).leaf ∧ (S k).bytes = (S c.toNat).bytes
theorem Good.congr {S S' : St} {kd : Nat → List Int} {k : Nat} (h : Good S kd k) (h1 : S' k = S k) (h2 : ∀ c ∈ kd k, S' c.toNat = S c.toNat) : Good S' kd k := by
  rcases h with ⟨a, b⟩ | ⟨c, a, b, d, e⟩
  · exact .inl ⟨fun c hc => by rw [h2 c hc]; exact a c hc, by rw [h1]; exact b⟩
  · exact .inr ⟨c, a, by rw [h2 c a]; exact b, by rw [h1, h2 c a]; exact d, by rw [h1, h2 c a]; exact e⟩
theorem pick_good {n : Nat} {M : Int} {kd : Nat → List Int} {S : St} (hok : OkS n M S) (hT : Tk n kd S) {k : Nat} (hk : k < n) (a : Bool) : Good (pickH S (kd k) k a) kd k := by
  have hin := hT.in_n hk
  have hne := hT.ne hok hk
  have hch : ∀ c ∈ kd k, pickH S (kd k) k a c.toNat = S c.toNat := fun c hc => pickH_ne (by have := hin c hc; have := hne c hc; omega)
  rcases pick_best hok hin k with ⟨h1, h2⟩ | ⟨h1, _, _, h3, h4, h5, _, _⟩
  · refine .inl ⟨fun c hc => ?_, ?_⟩
    · rw [hch c hc]
      have := h2 c hc
      have := hin c hc
      have := hok.b c.toNat (by omega)
      omega
    · unfold pickH; rw [if_pos h1, updS_same]
  · refine .inr ⟨_, h3, ?_⟩
    have hs := offH_stat (setT S k (timeK S (kd k) k + (S (bestN S (kd k) k)).bytes * 27720)) k (S (bestN S (kd k) k)).leaf (S (bestN S (kd k) k)).bytes a
    rw [hch _ h3, Int.toNat_natCast]
    have e : pickH S (kd k) k a k = offH (setT S k (timeK S (kd k) k + (S (bestN S (kd k) k)).bytes * 27720)) k (S (bestN S (kd k) k)).leaf (S (bestN S (kd k) k)).bytes a := by
      unfold pickH; rw [if_neg (by omega), updS_same]
    rw [e]
    exact ⟨h5, hs.2.2.2.1, hs.2.2.2.2.1⟩
theorem climb_good {n : Nat} {kd : Nat → List Int} (a : Bool) : ∀ (f : Nat) (M : Int) (S : St) (u : Int), u < f → u < n → -1 ≤ u → OkS n M S → Tk n kd S → (0 ≤ u → kd u.toNat ≠ []) → (∀ j : Nat, j < n → (j : Int) ≠ u → kd j ≠ [] → Good S kd j) → (a = false → 0 ≤ u → (S u.toNat).bytes ≠ 0 → Good S kd u.toNat) →
    (∀ j, j < n → kd j ≠ [] → Good (climb kd a f S u) kd j) ∧ ∀ j, kd j = [] → climb kd a f S u j = S j
  | 0, M, S, u, hf, hn, h1, hok, hT, hk, hg, hw => ⟨fun j hj hne => hg j hj (by omega) hne, fun _ _ => rfl⟩
  | f + 1, M, S, u, hf, hn, h1, hok, hT, hk, hg, hw => by
    unfold climb
    split
    · rename_i hc
      obtain ⟨p, rfl⟩ := Int.eq_ofNat_of_zero_le hc.1
      rw [Int.toNat_natCast] at *
      have hpn : p < n := by omega
      have hkp := hk hc.1
      have hup := hok.up_lt hpn
      have hst : ∀ j, (pickH S (kd p) p a j).up = (S j).up := fun j => (pickH_stat _ _ _ _ _).1
      have hne : ∀ j, j ≠ p → pickH S (kd p) p a j = S j := fun j h => pickH_ne h
      have ih := climb_good (kd := kd) a f _ (pickH S (kd p) p a) (S p).up (by rcases hup with h | ⟨r, h, h2⟩ <;> omega) (by rcases hup with h | ⟨r, h, h2⟩ <;> omega) (by rcases hup with h | ⟨r, h, h2⟩ <;> omega) (hok.pick (hT.in_n hpn) hpn a) (hT.stat hst) (fun h0 => by
        rcases hup with h | ⟨r, h, h2⟩
        · omega
        · rw [h, Int.toNat_natCast]; exact hT.up_ne hpn (by omega) h) (fun j hj hju hjk => by
        by_cases e : j = p
        · subst e; exact pick_good hok hT hj a
        · refine (hg j hj (by omega) hjk).congr (hne j e) fun c hc => ?_
          obtain ⟨i, rfl, h3, h4⟩ := (hT.mem j hj c).1 hc
          rw [Int.toNat_natCast]
          refine hne i fun e2 => hju ?_
          subst e2; exact h4.symm) (fun ha h0 hb => by
        rcases hup with h | ⟨r, h, h2⟩
        · omega
        · rw [h, Int.toNat_natCast] at hb ⊢
          rw [hne r (by omega)] at hb
          rcases hg r (by omega) (by omega) (hT.up_ne hpn (by omega) h) with ⟨_, h3⟩ | ⟨c, h3, h4, h5, h6⟩
          · exact (hb h3).elim
          · obtain ⟨i, rfl, h7, h8⟩ := (hT.mem r (by omega) c).1 h3
            rw [Int.toNat_natCast] at h4 h5 h6
            have hip : i ≠ p := fun e => by
              subst e
              rcases hc.2 with h9 | h9
              · rw [ha] at h9; cases h9
              · omega
            refine .inr ⟨i, h3, ?_⟩
            rw [Int.toNat_natCast, hne i hip, hne r (by omega)]
            exact ⟨h4, h5, h6⟩)
      exact ⟨ih.1, fun j hj => (ih.2 j hj).trans (hne j (fun e => hkp (e ▸ hj)))⟩
    · rename_i hc
      refine ⟨fun j hj hne => ?_, fun _ _ => rfl⟩
      by_cases e : (j : Int) = u
      · subst e
        rw [Int.toNat_natCast] at hc hw
        refine hw ?_ (by omega) (fun hb => hc ⟨by omega, .inr hb⟩)
        cases a with
        | true => exact (hc ⟨by omega, .inl rfl⟩).elim
        | false => rfl
      · exact hg j hj e hne
/-- What holds of a leaf. -/
def LI (S : St) (q : Nat → List Int) (k : Nat) : Prop := (q k = [] ∧ (S k).bytes = 0) ∨ (q k ≠ [] ∧ (S k).bytes = hdQ (q k) ∧ 0 < (S k).bytes ∧ (S k).leaf = k)
structure Inv (n : Nat) (kd : Nat → List Int) (S : St) (q : Nat → List Int) : Prop where
  leaf : ∀ k, k < n → kd k = [] → LI S q k
  inner : ∀ k, k < n → kd k ≠ [] → Good S kd k
  qi : ∀ k, k < n → kd k ≠ [] → q k = []
  qb : ∀ k, k < n → ∀ x ∈ q k, 1 ≤ x ∧ x ≤ 1500
theorem updQ_same (q : Nat → List Int) (k : Nat) (l : List Int) : updQ q k l k = l := if_pos rfl
theorem updQ_ne {q : Nat → List Int} {k j : Nat} {l : List Int} (h : j ≠ k) : updQ q k l j = q j := if_neg h
/-- A leaf that has changed, and all above it. -/
theorem inv_climb {n : Nat} {kd : Nat → List Int} {S S1 : St} {q : Nat → List Int} {M : Int} (h : Inv n kd S q) (hok : OkS n M S) (hT : Tk n kd S) {k : Nat} (hk : k < n) (hkd : kd k = []) (a : Bool) {l : List Int} (h1 : ∀ j, j ≠ k → S1 j = S j) (hs : Same (S1 k) (S k)) {M1 : Int} (hok1 : OkS n M1 S1) (hl : LI S1 (updQ q k l) k) (hlb : ∀ x ∈ l, 1 ≤ x ∧ x ≤ 1500) (ha : a = false → (S k).bytes = 0) :
    Inv n kd (climb kd a n S1 (S k).up) (updQ q k l) := by
  have hst : ∀ j, (S1 j).up = (S j).up := fun j => by
    by_cases e : j = k
    · subst e; exact hs.1
    · rw [h1 j e]
  have hT1 := hT.stat hst
  have hup := hok.up_lt hk
  have hjk : ∀ j, kd j ≠ [] → j ≠ k := fun j hj e => hj (e ▸ hkd)
  have hc := climb_good (kd := kd) a n M1 S1 (S k).up (by rcases hup with h | ⟨r, h, h2⟩ <;> omega) (by rcases hup with h | ⟨r, h, h2⟩ <;> omega) (by rcases hup with h | ⟨r, h, h2⟩ <;> omega) hok1 hT1 (fun h0 => by
    rcases hup with h | ⟨r, h, h2⟩
    · omega
    · rw [h, Int.toNat_natCast]; exact hT.up_ne hk (by omega) h) (fun j hj hju hjd => by
    refine (h.inner j hj hjd).congr (h1 j (hjk j hjd)) fun c hc => ?_
    obtain ⟨i, rfl, h3, h4⟩ := (hT.mem j hj c).1 hc
    rw [Int.toNat_natCast]
    exact h1 i fun e2 => hju (by subst e2; exact h4.symm)) (fun ha2 h0 hb => by
    rcases hup with hh | ⟨r, hh, h2⟩
    · omega
    · rw [hh, Int.toNat_natCast] at hb ⊢
      have hrn : r < n := by omega
      have hrd := hT.up_ne hk hrn hh
      rw [h1 r (hjk r hrd)] at hb
      rcases h.inner r hrn hrd with ⟨_, h3⟩ | ⟨c, h3, h4, h5, h6⟩
      · exact (hb h3).elim
      · obtain ⟨i, rfl, h7, h8⟩ := (hT.mem r hrn c).1 h3
        rw [Int.toNat_natCast] at h4 h5 h6
        have hip : i ≠ k := fun e => by
          subst e
          have := ha ha2
          omega
        refine .inr ⟨i, h3, ?_⟩
        rw [Int.toNat_natCast, h1 i hip, h1 r (hjk r hrd)]
        exact ⟨h4, h5, h6⟩)
  refine ⟨fun j hj hjd => ?_, fun j hj hjd => hc.1 j hj hjd, fun j hj hjd => ?_, fun j hj x hx => ?_⟩
  · have e1 := hc.2 j hjd
    by_cases e : j = k
    · subst e; unfold LI; rw [e1]; exact hl
    · unfold LI
      rw [e1, h1 j e, updQ_ne e]
      exact h.leaf j hj hjd
  · rw [updQ_ne (hjk j hjd)]; exact h.qi j hj hjd
  · by_cases e : j = k
    · subst e; rw [updQ_same] at hx; exact hlb x hx
    · rw [updQ_ne e] at hx; exact h.qb j hj x hx
theorem hdQ_app {l : List Int} (h : l ≠ []) (x : Int) : hdQ (l ++ [x]) = hdQ l := by
  cases l with
  | nil => exact (h rfl).elim
  | cons y r => rfl
theorem hdQ_mem {l : List Int} (h : l ≠ []) : hdQ l ∈ l := by
  cases l with
  | nil => exact (h rfl).elim
  | cons y r => exact List.mem_cons_self
theorem in_inv {n : Nat} {kd : Nat → List Int} {S : St} {q : Nat → List Int} {M : Int} (h : Inv n kd S q) (hok : OkS n M S) (hT : Tk n kd S) {k : Nat} (hk : k < n) (hkd : kd k = []) {b : Int} (hb : 1 ≤ b ∧ b ≤ 1500) : Inv n kd (inH n kd S k b) (updQ q k (q k ++ [b])) := by
  have hl := h.leaf k hk hkd
  have hbq : ∀ x ∈ q k ++ [b], 1 ≤ x ∧ x ≤ 1500 := fun x hx => by
    rcases List.mem_append.1 hx with hx | hx
    · exact h.qb k hk x hx
    · rw [List.mem_singleton.1 hx]; exact hb
  unfold inH
  split
  · rename_i h0
    rcases hl with ⟨_, h2⟩ | ⟨h1, h2, h3, h4⟩
    · omega
    · refine ⟨fun j hj hjd => ?_, h.inner, fun j hj hjd => ?_, fun j hj x hx => ?_⟩
      · by_cases e : j = k
        · subst e
          refine .inr ⟨by rw [updQ_same]; simp, by rw [updQ_same, hdQ_app h1]; exact h2, h3, h4⟩
        · unfold LI; rw [updQ_ne e]; exact h.leaf j hj hjd
      · have hjk : j ≠ k := fun e => hjd (by rw [e]; exact hkd)
        rw [updQ_ne hjk]; exact h.qi j hj hjd
      · by_cases e : j = k
        · subst e; rw [updQ_same] at hx; exact hbq x hx
        · rw [updQ_ne e] at hx; exact h.qb j hj x hx
  · rename_i h0
    have hb0 := hok.b k hk
    rcases hl with ⟨h1, h2⟩ | ⟨_, _, h3, _⟩
    · have st := offH_stat S k k b false
      refine inv_climb h hok hT hk hkd false (fun j hj => updS_ne hj) (by rw [updS_same]; exact ⟨st.1, st.2.1, st.2.2.1⟩) (hok.off hk _ (by omega) _) ?_ hbq (fun _ => h2)
      refine .inr ⟨by rw [updQ_same]; simp, ?_, ?_, ?_⟩
      · rw [updS_same, updQ_same, h1, st.2.2.2.2.1]; rfl
      · rw [updS_same, st.2.2.2.2.1]; omega
      · rw [updS_same, st.2.2.2.1]
    · omega
theorem outH1_facts {n : Nat} {S : St} {q : List Int} {M : Int} (hok : OkS n M S) {k : Nat} (hk : k < n) (hq : ∀ x ∈ q, 1 ≤ x ∧ x ≤ 1500) : (∀ j, j ≠ k → outH1 S q k j = S j) ∧ Same (outH1 S q k k) (S k) ∧ OkS n (M + 8000000000) (outH1 S q k) ∧ (q.tail = [] → (outH1 S q k k).bytes = 0) ∧ (q.tail ≠ [] → (outH1 S q k k).bytes = hdQ q.tail ∧ (outH1 S q k k).leaf = k) := by
  have hb := hok.b k hk
  have hz : OkS n M (zeroB S k) := hok.upd hk ⟨rfl, rfl, rfl⟩ (by simp only; omega) (hok.t k hk)
  have e : ∀ x, updS (zeroB S k) k x = updS S k x := fun x => updS_updS _ _ _ _
  unfold outH1
  split
  · rename_i ht
    refine ⟨fun j hj => updS_ne hj, ?_, hz.mono (by omega), fun _ => ?_, fun h => (h ht).elim⟩
    · unfold zeroB; rw [updS_same]; exact ⟨rfl, rfl, rfl⟩
    · unfold zeroB; rw [updS_same]
  · rename_i ht
    have st := offH_stat (zeroB S k) k k (hdQ q.tail) true
    have hzk : Same (zeroB S k k) (S k) := by unfold zeroB; rw [updS_same]; exact ⟨rfl, rfl, rfl⟩
    have hh := hq _ (List.mem_of_mem_tail (hdQ_mem ht))
    have ho := hz.off hk k (b := hdQ q.tail) (by omega) true
    rw [e] at ho
    refine ⟨fun j hj => updS_ne hj, ?_, ho, fun h => (ht h).elim, fun _ => ?_⟩
    · rw [updS_same]; exact ⟨st.1.trans hzk.1, st.2.1.trans hzk.2.1, st.2.2.1.trans hzk.2.2⟩
    · rw [updS_same]; exact ⟨st.2.2.2.2.1, st.2.2.2.1⟩
theorem out_inv {n : Nat} {kd : Nat → List Int} {S : St} {q : Nat → List Int} {M : Int} (h : Inv n kd S q) (hok : OkS n M S) (hT : Tk n kd S) {k : Nat} (hk : k < n) (hkd : kd k = []) : Inv n kd (outH n kd S (q k) k) (updQ q k (q k).tail) := by
  have hf := outH1_facts hok hk (h.qb k hk)
  have hqt : ∀ x ∈ (q k).tail, 1 ≤ x ∧ x ≤ 1500 := fun x hx => h.qb k hk x (List.mem_of_mem_tail hx)
  refine inv_climb h hok hT hk hkd true hf.1 hf.2.1 hf.2.2.1 ?_ hqt (fun h => by cases h)
  by_cases ht : (q k).tail = []
  · exact .inl ⟨by rw [updQ_same]; exact ht, hf.2.2.2.1 ht⟩
  · have := hf.2.2.2.2 ht
    have h2 := hqt _ (hdQ_mem ht)
    exact .inr ⟨by rw [updQ_same]; exact ht, by rw [updQ_same]; exact this.1, by omega, this.2⟩
/-- Of whom a node's packet is. -/
theorem Inv.reach {n : Nat} {kd : Nat → List Int} {S : St} {q : Nat → List Int} {M : Int} (h : Inv n kd S q) (hok : OkS n M S) (hT : Tk n kd S) : ∀ (d k : Nat), n - k ≤ d → k < n → (S k).bytes ≠ 0 → ∃ lf : Nat, (S k).leaf = lf ∧ lf < n ∧ kd lf = [] ∧ q lf ≠ [] ∧ (S k).bytes = hdQ (q lf)
  | 0, k, hd, hk, _ => by omega
  | d + 1, k, hd, hk, hb => by
    by_cases hkd : kd k = []
    · rcases h.leaf k hk hkd with ⟨_, h2⟩ | ⟨h1, h2, h3, h4⟩
      · exact (hb h2).elim
      · exact ⟨k, h4, hk, hkd, h1, h2⟩
    · rcases h.inner k hk hkd with ⟨_, h2⟩ | ⟨c, h1, h2, h3, h4⟩
      · exact (hb h2).elim
      · obtain ⟨j, rfl, h5, h6⟩ := (hT.mem k hk c).1 h1
        rw [Int.toNat_natCast] at h2 h3 h4
        have hj : k < j := by rcases hok.up_lt h5 with h7 | ⟨p, h7, h8⟩ <;> omega
        obtain ⟨lf, e1, e2, e3, e4, e5⟩ := Inv.reach h hok hT d j (by omega) h5 (by omega)
        exact ⟨lf, h3.trans e1, e2, e3, e4, h4.trans e5⟩
theorem Inv.up {n : Nat} {kd : Nat → List Int} {S : St} {q : Nat → List Int} {M : Int} (h : Inv n kd S q) (hok : OkS n M S) (hT : Tk n kd S) : ∀ (d k : Nat), k ≤ d → k < n → (S k).bytes ≠ 0 → (S 0).bytes ≠ 0
  | 0, k, hd, hk, hb => by
    obtain rfl : k = 0 := by omega
    exact hb
  | d + 1, k, hd, hk, hb => by
    by_cases h0 : k = 0
    · subst h0; exact hb
    · have hu := (hok.u k hk).2 (by omega)
      obtain ⟨p, hp⟩ := Int.eq_ofNat_of_zero_le hu.1
      have hpn : p < n := by omega
      have hm := (hT.mem p hpn (k : Int)).2 ⟨k, rfl, hk, hp⟩
      refine Inv.up h hok hT d p (by omega) hpn ?_
      rcases h.inner p hpn (fun e => by rw [e] at hm; cases hm) with ⟨h1, _⟩ | ⟨c, h1, h2, _, h4⟩
      · have := h1 _ hm; rw [Int.toNat_natCast] at this; exact (hb this).elim
      · omega
theorem Inv.none {n : Nat} {kd : Nat → List Int} {S : St} {q : Nat → List Int} {M : Int} (h : Inv n kd S q) (hok : OkS n M S) (hT : Tk n kd S) (h0 : (S 0).bytes = 0) : ∀ k, k < n → q k = [] := fun k hk => by
  refine Classical.byContradiction fun hq => ?_
  have hkd : kd k = [] := Classical.byContradiction fun hne => hq (h.qi k hk hne)
  rcases h.leaf k hk hkd with ⟨h1, _⟩ | ⟨_, _, h3, _⟩
  · exact hq h1
  · exact h.up hok hT k k (Nat.le_refl _) hk (by omega) h0

structure RnH where
  errs : List Int
  sent : List S
  S : St
  q : Nat → List Int
def stepH (n : Nat) (kd : Nat → List Int) (lv : List Int) (r : RnH) (o : Op) : RnH :=
  if o.k = 2 then
    if (r.S 0).bytes = 0 then ⟨r.errs ++ [3], r.sent, r.S, r.q⟩
    else ⟨r.errs ++ [0], r.sent ++ [⟨(r.S 0).leaf, (r.S 0).bytes⟩], outH n kd r.S (r.q (r.S 0).leaf.toNat) (r.S 0).leaf.toNat, updQ r.q (r.S 0).leaf.toNat (r.q (r.S 0).leaf.toNat).tail⟩
  else if o.k ≠ 1 then ⟨r.errs ++ [5], r.sent, r.S, r.q⟩
  else if ¬ o.f ∈ lv then ⟨r.errs ++ [3], r.sent, r.S, r.q⟩
  else if o.b < 1 ∨ 1500 < o.b then ⟨r.errs ++ [2], r.sent, r.S, r.q⟩
  else ⟨r.errs ++ [0], r.sent, inH n kd r.S o.f.toNat o.b, updQ r.q o.f.toNat (r.q o.f.toNat ++ [o.b])⟩
/-- The tree at the start, the first m nodes' weights summed. -/
def startS (l : List Nd) (m : Nat) : St := fun k => ⟨up l k, wt l k, sumW l k m, 0, 0, 0, 0, 0⟩
def kdT (l : List Nd) : Nat → List Int := fun k => kdN l k l.length
def lvT (l : List Nd) : List Int := lvs l l.length
def startH (l : List Nd) : RnH := ⟨[], [], startS l l.length, fun _ => []⟩
def runH (l : List Nd) (ops : List Op) : RnH := ops.foldl (stepH l.length (kdT l) (lvT l)) (startH l)
theorem runH_snoc (l : List Nd) (ops : List Op) (o : Op) : runH l (ops ++ [o]) = stepH l.length (kdT l) (lvT l) (runH l ops) o := by simp [runH, List.foldl_append]
theorem kids_iff (l : List Nd) (k : Nat) : kids l (k : Int) = false ↔ kdT l k = [] := by
  have hm := kdN_mem l k l.length
  constructor
  · intro h
    cases hk : kdT l k with
    | nil => rfl
    | cons c r =>
      have hc : c ∈ kdN l k l.length := by show c ∈ kdT l k; rw [hk]; exact List.mem_cons_self
      obtain ⟨j, rfl, h1, h2⟩ := (hm c).1 hc
      have : kids l (k : Int) = true := by
        unfold kids
        rw [List.any_eq_true]
        refine ⟨l.getD j n0, ?_, by have h3 : (l.getD j n0).u = k := h2; rw [h3]; simp⟩
        rw [List.getD_eq_getElem?_getD, List.getElem?_eq_getElem h1]
        exact List.getElem_mem h1
      rw [h] at this; cases this
  · intro h
    cases hk : kids l (k : Int) with
    | false => rfl
    | true =>
      unfold kids at hk
      rw [List.any_eq_true] at hk
      obtain ⟨x, hx, h1⟩ := hk
      obtain ⟨j, hj, rfl⟩ := List.mem_iff_getElem.1 hx
      have : ((j : Nat) : Int) ∈ kdN l k l.length := (hm _).2 ⟨j, rfl, hj, by
        unfold up
        rw [List.getD_eq_getElem?_getD, List.getElem?_eq_getElem hj]
        simpa using h1⟩
      have h3 : kdN l k l.length = [] := h
      rw [h3] at this; cases this
/-- What holds after i things. -/
structure RI (l : List Nd) (i : Nat) (r : RnH) : Prop where
  ok : OkS l.length (140000000000 * (i : Int)) r.S
  tk : Tk l.length (kdT l) r.S
  inv : Inv l.length (kdT l) r.S r.q
  ql : ∀ k, (r.q k).length ≤ i
  el : r.errs.length = i
  sl : r.sent.length ≤ i
theorem start_ok {l : List Nd} (h : okT l) (m : Nat) (hm : m ≤ l.length) : OkS l.length 0 (startS l m) := by
  refine ⟨fun k hk => (h.2.2 k hk).1, fun k hk => ?_, fun k hk => ?_, fun k hk => ?_, fun k hk => (h.2.2 k hk).2⟩
  · have := sumW_bound h k m hm
    have := h.2.1
    show 0 ≤ sumW l k m ∧ sumW l k m ≤ 192
    omega
  · show (0 : Int) ≤ 0 ∧ (0 : Int) ≤ 1500; omega
  · show ((0 : Int) ≤ 0 ∧ (0 : Int) ≤ 0) ∧ ((0 : Int) ≤ 0 ∧ (0 : Int) ≤ 0) ∧ (0 : Int) ≤ 0 ∧ (0 : Int) ≤ 0; omega
theorem start_tk {l : List Nd} (h : okT l) (m : Nat) : Tk l.length (kdT l) (startS l m) :=
  ⟨fun k hk c => kdN_mem l k l.length c, fun k hk => by have := kdN_len l k l.length; have := h.2.1; unfold kdT; omega⟩
theorem start_ri {l : List Nd} (h : okT l) : RI l 0 (startH l) := by
  refine ⟨?_, start_tk h _, ⟨fun k _ _ => .inl ⟨rfl, rfl⟩, fun k _ _ => .inl ⟨fun _ _ => rfl, rfl⟩, fun _ _ _ => rfl, fun k _ x hx => by cases hx⟩, fun k => Nat.le_refl _, rfl, Nat.le_refl _⟩
  exact start_ok h l.length (Nat.le_refl _)
theorem updQ_len {q : Nat → List Int} {i k : Nat} {l : List Int} (h : ∀ j, (q j).length ≤ i) (hl : l.length ≤ i + 1) : ∀ j, (updQ q k l j).length ≤ i + 1 := fun j => by
  unfold updQ; split
  · exact hl
  · have := h j; omega
theorem in_ok {n : Nat} {kd : Nat → List Int} {S : St} {M : Int} (hok : OkS n M S) (hT : Tk n kd S) (hM : 0 ≤ M) (hn : n ≤ 16) {k : Nat} (hk : k < n) {b : Int} (hb : 1 ≤ b ∧ b ≤ 1500) : OkS n (M + 140000000000) (inH n kd S k b) := by
  unfold inH
  split
  · exact hok.mono (by omega)
  · have h1 := hok.off hk (k : Int) (b := b) (by omega) false
    have hup := hok.up_lt hk
    have := climb_ok kd (fun k hk => hT.in_n hk) false n _ _ (S k).up (by omega) (by rcases hup with h | ⟨r, h, h2⟩ <;> omega) h1
    exact this.mono (by omega)
theorem out_ok {n : Nat} {kd : Nat → List Int} {S : St} {q : List Int} {M : Int} (hok : OkS n M S) (hT : Tk n kd S) (hM : 0 ≤ M) (hn : n ≤ 16) {k : Nat} (hk : k < n) (hq : ∀ x ∈ q, 1 ≤ x ∧ x ≤ 1500) : OkS n (M + 140000000000) (outH n kd S q k) := by
  have hf := outH1_facts hok hk hq
  have hup := hok.up_lt hk
  have := climb_ok kd (fun k hk => hT.in_n hk) true n _ _ (S k).up (by omega) (by rcases hup with h | ⟨r, h, h2⟩ <;> omega) hf.2.2.1
  exact this.mono (by omega)
theorem in_up (n : Nat) (kd : Nat → List Int) (S : St) (k : Nat) (b : Int) (j : Nat) : Same (inH n kd S k b j) (S j) := by
  unfold inH
  split
  · exact ⟨rfl, rfl, rfl⟩
  · have h1 := climb_stat kd false n (updS S k (offH S k k b false)) (S k).up j
    have st := offH_stat S k k b false
    have h2 : Same (updS S k (offH S k k b false) j) (S j) := by
      by_cases e : j = k
      · subst e; rw [updS_same]; exact ⟨st.1, st.2.1, st.2.2.1⟩
      · rw [updS_ne e]; exact ⟨rfl, rfl, rfl⟩
    exact ⟨h1.1.trans h2.1, h1.2.1.trans h2.2.1, h1.2.2.trans h2.2.2⟩
theorem outH1_same (S : St) (q : List Int) (k j : Nat) : Same (outH1 S q k j) (S j) := by
  have hz : ∀ j, Same (zeroB S k j) (S j) := fun j => by
    unfold zeroB
    by_cases e : j = k
    · subst e; rw [updS_same]; exact ⟨rfl, rfl, rfl⟩
    · rw [updS_ne e]; exact ⟨rfl, rfl, rfl⟩
  unfold outH1
  split
  · exact hz j
  · have st := offH_stat (zeroB S k) k k (hdQ q.tail) true
    by_cases e : j = k
    · subst e; rw [updS_same]; exact ⟨st.1.trans (hz j).1, st.2.1.trans (hz j).2.1, st.2.2.1.trans (hz j).2.2⟩
    · rw [updS_ne e]; exact ⟨rfl, rfl, rfl⟩
theorem out_up (n : Nat) (kd : Nat → List Int) (S : St) (q : List Int) (k j : Nat) : Same (outH n kd S q k j) (S j) := by
  have h1 := climb_stat kd true n (outH1 S q k) (S k).up j
  have h2 := outH1_same S q k j
  exact ⟨h1.1.trans h2.1, h1.2.1.trans h2.2.1, h1.2.2.trans h2.2.2⟩
theorem lvT_mem {l : List Nd} {c : Int} (h : c ∈ lvT l) : ∃ k : Nat, c = k ∧ k < l.length ∧ kdT l k = [] := by
  obtain ⟨h1, h2, h3⟩ := (lvs_mem l l.length c).1 h
  obtain ⟨k, rfl⟩ := Int.eq_ofNat_of_zero_le h1
  exact ⟨k, rfl, by omega, (kids_iff l k).1 h3⟩
theorem step_ri {l : List Nd} (h : okT l) {i : Nat} {r : RnH} (hr : RI l i r) (o : Op) : RI l (i + 1) (stepH l.length (kdT l) (lvT l) r o) := by
  have hn := h.2.1
  have hm : 0 ≤ 140000000000 * (i : Int) := by omega
  have he : 140000000000 * ((i + 1 : Nat) : Int) = 140000000000 * (i : Int) + 140000000000 := by omega
  have stay : ∀ e, RI l (i + 1) ⟨r.errs ++ [e], r.sent, r.S, r.q⟩ := fun e => ⟨hr.ok.mono (by omega), hr.tk, hr.inv, fun k => by have := hr.ql k; show (r.q k).length ≤ i + 1; omega, by simp [hr.el], by have := hr.sl; show r.sent.length ≤ i + 1; omega⟩
  unfold stepH
  split
  · split
    · exact stay 3
    · rename_i h0
      obtain ⟨lf, e1, e2, e3, e4, e5⟩ := hr.inv.reach hr.ok hr.tk l.length 0 (by omega) h.1 h0
      rw [e1, Int.toNat_natCast]
      have hq := hr.ql lf
      exact ⟨by rw [he]; exact out_ok hr.ok hr.tk hm hn e2 (hr.inv.qb lf e2), hr.tk.stat fun j => (out_up _ _ _ _ _ j).1, out_inv hr.inv hr.ok hr.tk e2 e3, updQ_len hr.ql (by rw [List.length_tail]; omega), by simp [hr.el], by have := hr.sl; simp; omega⟩
  · split
    · exact stay 5
    · split
      · exact stay 3
      · rename_i hl
        split
        · exact stay 2
        · rename_i hb
          obtain ⟨k, e1, e2, e3⟩ := lvT_mem (Classical.not_not.1 hl)
          rw [e1, Int.toNat_natCast]
          have hq := hr.ql k
          exact ⟨by rw [he]; exact in_ok hr.ok hr.tk hm hn e2 (by omega), hr.tk.stat fun j => (in_up _ _ _ _ _ j).1, in_inv hr.inv hr.ok hr.tk e2 e3 (by omega), updQ_len hr.ql (by simp; omega), by simp [hr.el], by have := hr.sl; show r.sent.length ≤ i + 1; omega⟩
theorem take_snocO (l : List Op) (n : Nat) (h : n < l.length) : l.take (n + 1) = l.take n ++ [l.getD n o0] := by
  rw [List.take_add_one, List.getD_eq_getElem?_getD, List.getElem?_eq_getElem h]; rfl
theorem run_ri {l : List Nd} (h : okT l) (ops : List Op) : ∀ i, i ≤ ops.length → RI l i (runH l (ops.take i))
  | 0, _ => start_ri h
  | i + 1, hi => by
    rw [take_snocO ops i (by omega), runH_snoc]
    exact step_ri h (run_ri h ops i (by omega)) _
theorem run_disc {l : List Nd} (h : okT l) (ops : List Op) : ∀ i, i ≤ ops.length → ∃ w, Disc l.length (ops.take i) (runH l (ops.take i)).errs (runH l (ops.take i)).sent (runH l (ops.take i)).q w
  | 0, _ => ⟨0, Disc.start⟩
  | i + 1, hi => by
    obtain ⟨w, ih⟩ := run_disc h ops i (by omega)
    have hr := run_ri h ops i (by omega)
    rw [take_snocO ops i (by omega), runH_snoc]
    generalize ops.getD i o0 = o at *
    generalize ops.take i = p at *
    generalize runH l p = r at *
    unfold stepH
    split
    · rename_i h2
      split
      · rename_i h0
        exact ⟨w, Disc.bad o 3 ih (by decide) (fun _ => hr.inv.none hr.ok hr.tk h0)⟩
      · rename_i h0
        obtain ⟨lf, e1, e2, e3, e4, e5⟩ := hr.inv.reach hr.ok hr.tk l.length 0 (by omega) h.1 h0
        rw [e1, Int.toNat_natCast, e5]
        cases hq : r.q lf with
        | nil => exact (e4 hq).elim
        | cons x t => exact ⟨w - 1, Disc.leave o lf x t ih h2 e2 hq⟩
    · rename_i h2
      split
      · rename_i h1
        exact ⟨w, Disc.bad o 5 ih (by decide) (fun h => absurd h h2)⟩
      · rename_i h1
        split
        · exact ⟨w, Disc.bad o 3 ih (by decide) (fun h => absurd h h2)⟩
        · rename_i hl
          split
          · exact ⟨w, Disc.bad o 2 ih (by decide) (fun h => absurd h h2)⟩
          · obtain ⟨k, e1, e2, e3⟩ := lvT_mem (Classical.not_not.1 hl)
            rw [e1, Int.toNat_natCast]
            exact ⟨w + 1, Disc.enter o k ih (by omega) e2 e1⟩
theorem run_kept {l : List Nd} (h : okT l) (ops : List Op) : ∃ w, Kept l.length ops (runH l ops).errs (runH l ops).sent (runH l ops).q w := by
  obtain ⟨w, hd⟩ := run_disc h ops ops.length (Nat.le_refl _)
  rw [List.take_length] at hd
  exact ⟨w, hd.kept⟩
end Go.Proofs.Ytknfaoonjmlncaa
