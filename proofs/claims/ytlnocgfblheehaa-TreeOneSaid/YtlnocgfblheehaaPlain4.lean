import Derived.Test.YtlnocgfblheehaaPlain3
/- Trees of classes, in plain Lean: all leaves together have all. -/
namespace Go.Proofs.Ytlnocgfblheehaa

def sumQ (f : Nat → Rat) : Nat → Rat
  | 0 => 0
  | n + 1 => sumQ f n + f n
theorem sumQ_ext {f g : Nat → Rat} : ∀ n, (∀ i, i < n → f i = g i) → sumQ f n = sumQ g n
  | 0, _ => rfl
  | n + 1, h => by simp only [sumQ, sumQ_ext n (fun i hi => h i (by omega)), h n (by omega)]
theorem sumQ_zero : ∀ n, sumQ (fun _ => 0) n = 0
  | 0 => rfl
  | n + 1 => by simp only [sumQ, sumQ_zero n]; exact Rat.add_zero _
theorem sumQ_add (f g : Nat → Rat) : ∀ n, sumQ (fun i => f i + g i) n = sumQ f n + sumQ g n
  | 0 => (Rat.add_zero _).symm
  | n + 1 => by simp only [sumQ, sumQ_add f g n]; grind
theorem sumQ_swap (f : Nat → Nat → Rat) (m : Nat) : ∀ n, sumQ (fun k => sumQ (fun i => f k i) n) m = sumQ (fun i => sumQ (fun k => f k i) m) n
  | 0 => sumQ_zero m
  | n + 1 => by
    simp only [sumQ]
    rw [sumQ_add, sumQ_swap f m n]
/-- One of them alone. -/
theorem sumQ_one (x : Rat) (u : Int) : ∀ m : Nat, sumQ (fun k => if u = (k : Int) then x else 0) m = if 0 ≤ u ∧ u < m then x else 0
  | 0 => by rw [if_neg (by omega)]; rfl
  | m + 1 => by
    simp only [sumQ, sumQ_one x u m]
    by_cases h : u = m
    · rw [if_neg (by omega), if_pos h, if_pos (by omega)]; grind
    · rw [if_neg h]
      by_cases h2 : 0 ≤ u ∧ u < m
      · rw [if_pos h2, if_pos (by omega)]; grind
      · rw [if_neg h2, if_neg (by omega)]; exact Rat.add_zero _

theorem kids_iff (l : List Nd) (k : Int) : kids l k = true ↔ ∃ i, i < l.length ∧ up l i = k := by
  unfold kids
  rw [List.any_eq_true]
  constructor
  · rintro ⟨x, hx, h⟩
    obtain ⟨i, hi, rfl⟩ := List.mem_iff_getElem.1 hx
    refine ⟨i, hi, ?_⟩
    unfold up
    rw [List.getD_eq_getElem?_getD, List.getElem?_eq_getElem hi]
    simpa using h
  · rintro ⟨i, hi, h⟩
    unfold up at h
    rw [List.getD_eq_getElem?_getD, List.getElem?_eq_getElem hi] at h
    exact ⟨l[i], List.getElem_mem hi, by simpa using h⟩
/-- What those below a node have, of the first ones. -/
def kidQ (l : List Nd) (k : Int) (n : Nat) : Rat := sumQ (fun i => if up l i = k then shQ l i else 0) n
theorem div_add (a b S : Int) (hS : S ≠ 0) : Rat.divInt a S + Rat.divInt b S = Rat.divInt (a + b) S := by
  rw [Rat.divInt_add_divInt _ _ hS hS, Rat.divInt_eq_divInt_iff (Int.mul_ne_zero hS hS) hS]
  grind
theorem kidQ_eq {l : List Nd} (h : okT l) {k : Nat} (hk : k < l.length) (hS : 0 < sumW l k l.length) : ∀ n, n ≤ l.length → kidQ l k n = shQ l k * Rat.divInt (sumW l k n) (sumW l k l.length)
  | 0, _ => by
    show (0 : Rat) = shQ l k * Rat.divInt 0 _
    rw [Rat.zero_divInt, Rat.mul_zero]
  | n + 1, hn => by
    have ih := kidQ_eq h hk hS n (by omega)
    show kidQ l k n + (if up l n = k then shQ l n else 0) = shQ l k * Rat.divInt (sumW l k n + (if up l n = k then wt l n else 0)) _
    rw [ih]
    by_cases hu : up l n = k
    · rw [if_pos hu, if_pos hu]
      have hn0 : 0 < n := by
        rcases Nat.eq_zero_or_pos n with h0 | h0
        · have := (h.2.2 n (by omega)).2.1 h0; omega
        · exact h0
      rw [shQ_step h hn0 (by omega), hu, Int.toNat_natCast, ← div_add _ _ _ (by omega), Rat.mul_add]
      congr 1
      show shQ l k * (part l n).q = _
      unfold part
      rw [if_neg (by omega), hu]
      rfl
    · rw [if_neg hu, if_neg hu, Int.add_zero, Rat.add_zero]
/-- A node that is above some has what these have together. -/
theorem kidQ_all {l : List Nd} (h : okT l) {k : Nat} (hk : k < l.length) (hd : kids l k = true) : kidQ l k l.length = shQ l k := by
  obtain ⟨i, hi, hu⟩ := (kids_iff l k).1 hd
  have hS := (sumW_one h hu l.length hi (Nat.le_refl _)).1
  rw [kidQ_eq h hk (by omega) _ (Nat.le_refl _), Rat.divInt_self' (by omega), Rat.mul_one]
theorem kidQ_none {l : List Nd} {k : Nat} (hd : kids l k = false) : kidQ l k l.length = 0 := by
  unfold kidQ
  rw [sumQ_ext (g := fun _ => 0) l.length (fun i hi => ?_), sumQ_zero]
  show (if up l i = (k : Int) then _ else _) = _
  rw [if_neg (fun hu => ?_)]
  have := (kids_iff l k).2 ⟨i, hi, hu⟩
  rw [hd] at this
  cases this
/-- What the leaves have, of the first ones. -/
def leafQ (l : List Nd) (n : Nat) : Rat := sumQ (fun i => if kids l i then 0 else shQ l i) n
/-- All leaves together have all. -/
theorem leafQ_all {l : List Nd} (h : okT l) : leafQ l l.length = 1 := by
  have h1 : sumQ (shQ l) l.length = leafQ l l.length + sumQ (fun k => kidQ l k l.length) l.length := by
    unfold leafQ
    rw [← sumQ_add]
    refine sumQ_ext _ fun k hk => ?_
    cases hd : kids l k with
    | true => rw [kidQ_all h hk hd]; simp only [if_true]; grind
    | false => rw [kidQ_none hd]; simp only [Bool.false_eq_true, if_false]; grind
  have h2 : sumQ (fun k => kidQ l k l.length) l.length = sumQ (fun i => if i = 0 then 0 else shQ l i) l.length := by
    unfold kidQ
    rw [sumQ_swap (fun k i => if up l i = (k : Int) then shQ l i else 0)]
    refine sumQ_ext _ fun i hi => ?_
    rw [sumQ_one]
    have hu := h.2.2 i hi
    by_cases h0 : i = 0
    · have := hu.2.1 h0
      rw [if_neg (by omega), if_pos h0]
    · have := hu.2.2 (by omega)
      rw [if_pos (by omega), if_neg h0]
  have h3 : ∀ n, 0 < n → sumQ (shQ l) n = 1 + sumQ (fun i => if i = 0 then 0 else shQ l i) n := fun n => by
    induction n with
    | zero => intro h; omega
    | succ n ih =>
      intro _
      simp only [sumQ]
      by_cases h0 : n = 0
      · subst h0
        rw [if_pos rfl, shQ_zero h]
        simp only [sumQ]; grind
      · rw [if_neg h0, ih (by omega)]; grind
  have h4 := h3 l.length (by have := h.1; omega)
  rw [h1, h2] at h4
  grind
/-- The same, by the list of the leaves. -/
def sumL (l : List Nd) (p : List Int) : Rat := (p.map fun x => shQ l x.toNat).foldl (· + ·) 0
theorem sumL_snoc (l : List Nd) (p : List Int) (x : Int) : sumL l (p ++ [x]) = sumL l p + shQ l x.toNat := by simp [sumL]
theorem sumL_lvs (l : List Nd) : ∀ n, sumL l (lvs l n) = leafQ l n
  | 0 => rfl
  | n + 1 => by
    have ih := sumL_lvs l n
    show sumL l (lvs l n ++ (if kids l n then [] else [(n : Int)])) = leafQ l n + (if kids l n then 0 else shQ l n)
    cases kids l n with
    | true => simp only [if_true, List.append_nil, ih]; grind
    | false => simp only [Bool.false_eq_true, if_false, sumL_snoc, ih, Int.toNat_natCast]
theorem F.of_zero : F.of 0 = ⟨0, 1⟩ := by decide +kernel
theorem F.of_one : F.of 1 = ⟨1, 1⟩ := by decide +kernel
theorem add_of {a b : Rat} (ha : (F.of a).right) (hb : (F.of b).right) : ((addF (F.of a) (F.of b)).2 = 0 ∧ (addF (F.of a) (F.of b)).1 = F.of (a + b) ∧ (F.of (a + b)).right) ∨ (addF (F.of a) (F.of b)).2 = 4 := by
  rcases addF_err ha hb with ⟨h1, h2, h3⟩ | h1
  · rw [F.q_of, F.q_of] at h2
    rw [h2] at h3
    exact Or.inl ⟨h1, h2, h3⟩
  · exact Or.inr h1
/-- If a node's share can be told, so can that of the one above it. -/
theorem share_up {l : List Nd} (h : okT l) {k i : Nat} (hi : i < l.length) (hu : up l i = (k : Int)) (he : (share l i).2 = 0) : (share l k).2 = 0 := by
  have hi0 : 0 < i := by
    rcases Nat.eq_zero_or_pos i with h0 | h0
    · have := (h.2.2 i hi).2.1 h0; omega
    · exact h0
  unfold share at he ⊢
  rw [way_step h hi0 hi, hu, Int.toNat_natCast] at he
  exact shF_pre l _ _ _ he
end Go.Proofs.Ytlnocgfblheehaa
