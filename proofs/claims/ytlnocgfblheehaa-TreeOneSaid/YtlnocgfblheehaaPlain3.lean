import Derived.Test.YtlnocgfblheehaaPlain2
/- Trees of classes, in plain Lean: a greater weight; all shares together. -/
namespace Go.Proofs.Ytlnocgfblheehaa

theorem divInt_le {a b c d : Int} (hb : 0 < b) (hd : 0 < d) (h : a * d ≤ c * b) : Rat.divInt a b ≤ Rat.divInt c d := by
  rw [Rat.le_iff_sub_nonneg, Rat.divInt_sub_divInt _ _ (by omega) (by omega)]
  exact Rat.divInt_nonneg (by omega) (Int.le_of_lt (Int.mul_pos hd hb))
theorem part_nonneg {l : List Nd} (h : okT l) {k : Nat} (hk : k < l.length) : 0 ≤ (part l k).q := by
  have hp := part_right h hk
  exact Rat.divInt_nonneg (by omega) (by have := hp.1.1; omega)
theorem prodQ_nonneg {l : List Nd} (h : okT l) : ∀ (p : List Int), (∀ x ∈ p, 0 ≤ x ∧ x < l.length) → 0 ≤ prodQ l p
  | [], _ => by show (0 : Rat) ≤ 1; decide
  | x :: r, hp => by
    have hx := hp x (by simp)
    exact Rat.mul_nonneg (part_nonneg h (by omega)) (prodQ_nonneg h r fun y hy => hp y (by simp [hy]))
theorem shQ_nonneg {l : List Nd} (h : okT l) {k : Nat} (hk : k < l.length) : 0 ≤ shQ l k := prodQ_nonneg h _ (way_range h hk)
theorem shQ_step {l : List Nd} (h : okT l) {k : Nat} (h0 : 0 < k) (hk : k < l.length) : shQ l k = shQ l (up l k).toNat * (part l k).q := by
  unfold shQ
  rw [way_step h h0 hk, prodQ_app]
  simp [prodQ, Rat.mul_one]
theorem shQ_zero {l : List Nd} (h : okT l) : shQ l 0 = 1 := by
  have h0 := (h.2.2 0 (by have := h.1; omega)).2.1 rfl
  unfold shQ
  rw [way_zero]
  show (part l 0).q * 1 = 1
  unfold part
  rw [if_pos (by omega), Rat.mul_one]
  exact one_q
theorem way_le {l : List Nd} (h : okT l) : ∀ (f n : Nat), n ≤ f → n < l.length → ∀ c : Int, c ∈ way l n → c ≤ n
  | 0, n, h1, h2, c, hc => by
    obtain rfl : n = 0 := by omega
    rw [way_zero] at hc
    obtain rfl : c = 0 := by simpa using hc
    omega
  | f + 1, n, h1, h2, c, hc => by
    by_cases hn : n = 0
    · exact way_le h f n (by omega) h2 c hc
    · obtain ⟨_, _, h4⟩ := h.2.2 n h2
      have h5 := h4 (by omega)
      rw [way_step h (by omega) h2] at hc
      rcases List.mem_append.1 hc with hc | hc
      · have := way_le h f (up l n).toNat (by omega) (by omega) c hc
        omega
      · obtain rfl : c = n := by simpa using hc
        omega

/-- A node has a greater weight. -/
def updN (l : List Nd) (k : Nat) (more : Int) : List Nd := l.set k ⟨up l k, wt l k + more⟩
theorem updN_len (l : List Nd) (k : Nat) (more : Int) : (updN l k more).length = l.length := by simp [updN]
theorem updN_get (l : List Nd) (k : Nat) (more : Int) (hk : k < l.length) (i : Nat) : (updN l k more).getD i n0 = if i = k then ⟨up l k, wt l k + more⟩ else l.getD i n0 := by
  unfold updN
  rw [List.getD_eq_getElem?_getD, List.getElem?_set]
  by_cases h : k = i
  · subst h; simp [hk]
  · rw [if_neg h, if_neg (by omega)]; rw [List.getD_eq_getElem?_getD]
theorem updN_up (l : List Nd) (k : Nat) (more : Int) (hk : k < l.length) (i : Nat) : up (updN l k more) i = up l i := by
  unfold up
  rw [updN_get l k more hk i]
  split
  · rename_i h; subst h; rfl
  · rfl
theorem updN_wt (l : List Nd) (k : Nat) (more : Int) (hk : k < l.length) (i : Nat) : wt (updN l k more) i = if i = k then wt l k + more else wt l i := by
  show ((updN l k more).getD i n0).w = _
  rw [updN_get l k more hk i]
  split <;> rfl
theorem updN_wayF (l : List Nd) (k : Nat) (more : Int) (hk : k < l.length) : ∀ f n, wayF (updN l k more) f n = wayF l f n
  | 0, _ => rfl
  | f + 1, n => by simp only [wayF, updN_up l k more hk, updN_wayF l k more hk f]
theorem updN_sumW (l : List Nd) (k : Nat) (more : Int) (hk : k < l.length) (u : Int) : ∀ n, sumW (updN l k more) u n = sumW l u n + (if up l k = u ∧ k < n then more else 0)
  | 0 => by simp [sumW]
  | n + 1 => by
    simp only [sumW, updN_sumW l k more hk u n, updN_up l k more hk, updN_wt l k more hk]
    by_cases hn : n = k
    · subst hn
      by_cases hu : up l n = u
      · rw [if_pos hu, if_pos hu, if_pos rfl, if_neg (by omega), if_pos (by omega)]; (try omega)
      · rw [if_neg hu, if_neg hu, if_neg (fun h => hu h.1), if_neg (fun h => hu h.1)]; (try omega)
    · rw [if_neg hn]
      by_cases hc : up l k = u ∧ k < n
      · rw [if_pos hc, if_pos (show up l k = u ∧ k < n + 1 from ⟨hc.1, by omega⟩)]; omega
      · rw [if_neg hc, if_neg (show ¬ (up l k = u ∧ k < n + 1) from fun h => hc ⟨h.1, by omega⟩)]; omega
theorem updN_part_far (l : List Nd) (k : Nat) (more : Int) (hk : k < l.length) {x : Nat} (h1 : x ≠ k) (h2 : up l x ≠ up l k) : part (updN l k more) x = part l x := by
  unfold part
  rw [updN_up l k more hk, updN_wt l k more hk, updN_sumW l k more hk, updN_len]
  by_cases hn : up l x < 0
  · rw [if_pos hn, if_pos hn]
  · rw [if_neg hn, if_neg hn, if_neg h1, if_neg (fun h => h2 h.1.symm), Int.add_zero]
theorem updN_prodQ (l : List Nd) (k : Nat) (more : Int) (hk : k < l.length) : ∀ (p : List Int), (∀ x ∈ p, x.toNat ≠ k ∧ up l x.toNat ≠ up l k) → prodQ (updN l k more) p = prodQ l p
  | [], _ => rfl
  | x :: r, hp => by
    have hx := hp x (by simp)
    simp only [prodQ, updN_part_far l k more hk hx.1 hx.2, updN_prodQ l k more hk r fun y hy => hp y (by simp [hy])]
theorem updN_shQ_up {l : List Nd} (h : okT l) (k : Nat) (more : Int) (h0 : 0 < k) (hk : k < l.length) : shQ (updN l k more) (up l k).toNat = shQ l (up l k).toNat := by
  have hu := (h.2.2 k hk).2.2 h0
  unfold shQ way
  rw [updN_wayF l k more hk]
  refine updN_prodQ l k more hk _ fun x hx => ?_
  have h1 := way_le h _ (up l k).toNat (Nat.le_refl _) (by omega) x hx
  have h2 := way_range h (show (up l k).toNat < l.length by omega) x hx
  have h3 := h.2.2 x.toNat (by omega)
  refine ⟨by omega, ?_⟩
  by_cases hx0 : x.toNat = 0
  · have := h3.2.1 hx0; omega
  · have := h3.2.2 (by omega); omega
/-- Who gets a greater weight has no less. -/
theorem more_self {l : List Nd} (h : okT l) (k : Nat) (more : Int) (hm : 0 ≤ more) (hk : k < l.length) (h2 : okT (updN l k more)) : shQ l k ≤ shQ (updN l k more) k := by
  by_cases h0 : k = 0
  · subst h0; rw [shQ_zero h, shQ_zero h2]; exact Rat.le_refl
  · have hu := (h.2.2 k hk).2.2 (by omega)
    have hs := sumW_one h (k := k) rfl l.length hk (Nat.le_refl _)
    have hw := (h.2.2 k hk).1
    rw [shQ_step h (by omega) hk, shQ_step h2 (by omega) (by rw [updN_len]; exact hk), updN_up l k more hk, updN_shQ_up h k more (by omega) hk]
    refine Rat.mul_le_mul_of_nonneg_left ?_ (shQ_nonneg h (by omega))
    unfold part
    rw [if_neg (by omega), updN_up l k more hk, if_neg (by omega), updN_wt l k more hk, if_pos rfl, updN_sumW l k more hk, updN_len, if_pos ⟨rfl, hk⟩]
    generalize sumW l (up l k) l.length = S at *
    generalize wt l k = w at *
    refine divInt_le (show (0 : Int) < S by omega) (show (0 : Int) < S + more by omega) ?_
    have := Int.mul_le_mul_of_nonneg_left hs.2 hm
    show w * (S + more) ≤ (w + more) * S
    rw [Int.mul_add, Int.add_mul, Int.mul_comm w more]
    omega
/-- All others below the same one have no more. -/
theorem more_other {l : List Nd} (h : okT l) (k : Nat) (more : Int) (hm : 0 ≤ more) (hk : k < l.length) (h2 : okT (updN l k more)) {i : Nat} (hi : i < l.length) (hik : i ≠ k) (hu : up l i = up l k) : shQ (updN l k more) i ≤ shQ l i := by
  have ki := h.2.2 i hi
  have kk := h.2.2 k hk
  have hk0 : 0 < k := by
    rcases Nat.eq_zero_or_pos k with h0 | h0
    · have := kk.2.1 h0
      rcases Nat.eq_zero_or_pos i with h3 | h3
      · omega
      · have := ki.2.2 h3; omega
    · exact h0
  have hi0 : 0 < i := by
    rcases Nat.eq_zero_or_pos i with h0 | h0
    · have := ki.2.1 h0; have := kk.2.2 hk0; omega
    · exact h0
  have hup := kk.2.2 hk0
  have hs := sumW_one h (k := i) hu l.length hi (Nat.le_refl _)
  rw [shQ_step h hi0 hi, shQ_step h2 hi0 (by rw [updN_len]; exact hi), updN_up l k more hk, hu, updN_shQ_up h k more hk0 hk]
  refine Rat.mul_le_mul_of_nonneg_left ?_ (shQ_nonneg h (by omega))
  unfold part
  rw [if_neg (show ¬ up l i < 0 by omega), updN_up l k more hk, if_neg (show ¬ up l i < 0 by omega), updN_wt l k more hk, if_neg hik, updN_sumW l k more hk, updN_len, if_pos ⟨hu.symm, hk⟩, hu]
  generalize sumW l (up l k) l.length = S at *
  have hw := ki.1
  generalize wt l i = w at *
  refine divInt_le (show (0 : Int) < S + more by omega) (show (0 : Int) < S by omega) ?_
  have := Int.mul_nonneg (show 0 ≤ w by omega) hm
  show w * S ≤ w * (S + more)
  rw [Int.mul_add]
  omega
theorem cmp_of {a b : Rat} (ha : (F.of a).right) (hb : (F.of b).right) : (cmpF (F.of b) (F.of a)).2 = 0 ∧ -1 ≤ (cmpF (F.of b) (F.of a)).1 ∧ (cmpF (F.of b) (F.of a)).1 ≤ 1 ∧ (a ≤ b → ¬ (cmpF (F.of b) (F.of a)).1 < 0) ∧ (b ≤ a → ¬ 0 < (cmpF (F.of b) (F.of a)).1) := by
  unfold cmpF
  rw [if_pos ⟨hb, ha⟩]
  refine ⟨rfl, ?_, ?_, fun h => ?_, fun h => ?_⟩
  · show -1 ≤ (if _ then (-1 : Int) else if _ then 1 else 0); split <;> (try split) <;> omega
  · show (if _ then (-1 : Int) else if _ then 1 else 0) ≤ 1; split <;> (try split) <;> omega
  · rw [Rat.le_iff] at h
    show ¬ (if b.num * (a.den : Int) < a.num * (b.den : Int) then (-1 : Int) else if a.num * (b.den : Int) < b.num * (a.den : Int) then 1 else 0) < 0
    rw [if_neg (by omega)]; split <;> omega
  · rw [Rat.le_iff] at h
    show ¬ 0 < (if b.num * (a.den : Int) < a.num * (b.den : Int) then (-1 : Int) else if a.num * (b.den : Int) < b.num * (a.den : Int) then 1 else 0)
    split
    · omega
    · rw [if_neg (by omega)]; omega
end Go.Proofs.Ytlnocgfblheehaa
