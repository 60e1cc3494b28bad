import Derived.Test.YtlnocgfblheehaaPlain
import Derived.Test.YtlnocgfblheehaaPlainF
/- Trees of classes, in plain Lean: leaves, parts, shares. -/
namespace Go.Proofs.Ytlnocgfblheehaa

/-- Has a node others below it? -/
def kids (l : List Nd) (i : Int) : Bool := l.any fun n => n.u == i
/-- The leaves among the first ones. -/
def lvs (l : List Nd) : Nat → List Int
  | 0 => []
  | i + 1 => lvs l i ++ (if kids l i then [] else [(i : Int)])
theorem lvs_len (l : List Nd) : ∀ i, (lvs l i).length ≤ i
  | 0 => by simp [lvs]
  | i + 1 => by
    have := lvs_len l i
    simp only [lvs, List.length_append]
    split <;> simp <;> omega
theorem lvs_mem (l : List Nd) : ∀ (i : Nat) (c : Int), c ∈ lvs l i ↔ (0 ≤ c ∧ c < i ∧ kids l c = false)
  | 0, c => by simp [lvs]; omega
  | i + 1, c => by
    have ih := lvs_mem l i c
    simp only [lvs, List.mem_append, ih]
    cases hk : kids l i with
    | true =>
      simp only [if_true, List.not_mem_nil, or_false]
      constructor
      · rintro ⟨a, b, d⟩; exact ⟨a, by omega, d⟩
      · rintro ⟨a, b, d⟩
        refine ⟨a, ?_, d⟩
        by_cases h : c = i
        · subst h; rw [hk] at d; cases d
        · omega
    | false =>
      simp only [Bool.false_eq_true, if_false, List.mem_singleton]
      constructor
      · rintro (⟨a, b, d⟩ | rfl)
        · exact ⟨a, by omega, d⟩
        · exact ⟨by omega, by omega, hk⟩
      · rintro ⟨a, b, d⟩
        by_cases h : c = i
        · exact Or.inr h
        · exact Or.inl ⟨a, by omega, d⟩
/-- The weights of all that are below this one, among the first ones. -/
def sumW (l : List Nd) (u : Int) : Nat → Int
  | 0 => 0
  | i + 1 => sumW l u i + (if up l i = u then wt l i else 0)
theorem sumW_bound {l : List Nd} (h : okT l) (u : Int) : ∀ i, i ≤ l.length → 0 ≤ sumW l u i ∧ sumW l u i ≤ 12 * i
  | 0, _ => by simp [sumW]
  | i + 1, hi => by
    have := sumW_bound h u i (by omega)
    have hw := (h.2.2 i (by omega)).1
    simp only [sumW]
    split <;> omega
theorem sumW_one {l : List Nd} (h : okT l) {u : Int} {k : Nat} (hk : up l k = u) : ∀ i, k < i → i ≤ l.length → 1 ≤ sumW l u i ∧ wt l k ≤ sumW l u i
  | 0, h1, _ => by omega
  | i + 1, h1, h2 => by
    have hb := sumW_bound h u i (by omega)
    have hw := (h.2.2 k (by omega)).1
    simp only [sumW]
    by_cases he : k = i
    · subst he; rw [if_pos hk]; omega
    · have := sumW_one h hk i (by omega) (by omega)
      have := (h.2.2 i (by omega)).1
      split <;> omega
/-- A node's part of the one above it. -/
def part (l : List Nd) (k : Nat) : F := if up l k < 0 then ⟨1, 1⟩ else ⟨wt l k, sumW l (up l k) l.length⟩
theorem part_right {l : List Nd} (h : okT l) {k : Nat} (hk : k < l.length) : (part l k).right ∧ 1 ≤ (part l k).num := by
  have h1 := sumW_one h (k := k) rfl l.length hk (Nat.le_refl _)
  have h2 := sumW_bound h (up l k) l.length (Nat.le_refl _)
  have h3 := (h.2.2 k hk).1
  have h4 := h.2.1
  unfold part F.right
  split
  · simp
  · simp only; omega
/-- A fraction times the parts on a way. -/
def shF (l : List Nd) (a : F) : List Int → F × Int
  | [] => (a, 0)
  | x :: r => if (mulF a (part l x.toNat)).2 = 0 then shF l (mulF a (part l x.toNat)).1 r else (⟨0, 0⟩, (mulF a (part l x.toNat)).2)
theorem lowF_err (q : Rat) : ((lowF q).2 = 0 ∧ (lowF q).1 = F.of q ∧ (F.of q).right) ∨ ((lowF q).2 = 4 ∧ ¬ (F.of q).right) := by
  unfold lowF
  split
  · rename_i h; exact Or.inl ⟨rfl, rfl, h⟩
  · rename_i h; exact Or.inr ⟨rfl, h⟩
theorem mulF_err {a b : F} (ha : a.right) (hb : b.right) : ((mulF a b).2 = 0 ∧ (mulF a b).1 = F.of (a.q * b.q) ∧ (mulF a b).1.right) ∨ (mulF a b).2 = 4 := by
  have e : mulF a b = lowF (a.q * b.q) := if_pos ⟨ha, hb⟩
  rw [e]
  rcases lowF_err (a.q * b.q) with ⟨h1, h2, h3⟩ | ⟨h1, _⟩
  · exact Or.inl ⟨h1, h2, by rw [h2]; exact h3⟩
  · exact Or.inr h1
theorem addF_err {a b : F} (ha : a.right) (hb : b.right) : ((addF a b).2 = 0 ∧ (addF a b).1 = F.of (a.q + b.q) ∧ (addF a b).1.right) ∨ (addF a b).2 = 4 := by
  have e : addF a b = lowF (a.q + b.q) := if_pos ⟨ha, hb⟩
  rw [e]
  rcases lowF_err (a.q + b.q) with ⟨h1, h2, h3⟩ | ⟨h1, _⟩
  · exact Or.inl ⟨h1, h2, by rw [h2]; exact h3⟩
  · exact Or.inr h1
/-- The product of the parts on a way. -/
def prodQ (l : List Nd) : List Int → Rat
  | [] => 1
  | x :: r => (part l x.toNat).q * prodQ l r
theorem shF_app (l : List Nd) (p r : List Int) : ∀ a : F, (shF l a p).2 = 0 → shF l a (p ++ r) = shF l (shF l a p).1 r := by
  induction p with
  | nil => intro a _; rfl
  | cons x p ih =>
    intro a h
    simp only [shF, List.cons_append] at h ⊢
    split at h
    · rename_i hm; rw [if_pos hm, if_pos hm]; exact ih _ h
    · rename_i hm; exact absurd h hm
theorem shF_pre (l : List Nd) (p r : List Int) : ∀ a : F, (shF l a (p ++ r)).2 = 0 → (shF l a p).2 = 0 := by
  induction p with
  | nil => intro a _; rfl
  | cons x p ih =>
    intro a h
    simp only [shF, List.cons_append] at h ⊢
    split at h
    · rename_i hm; rw [if_pos hm]; exact ih _ h
    · rename_i hm; exact absurd h hm
/-- What comes of it: the product, if all is small enough; else the error 'full'. -/
theorem shF_spec {l : List Nd} (h : okT l) : ∀ (p : List Int), (∀ x ∈ p, 0 ≤ x ∧ x < l.length) → ∀ a : F, a.right → ((shF l a p).2 = 0 ∧ (shF l a p).1.right ∧ (shF l a p).1.q = a.q * prodQ l p ∧ (p ≠ [] → (shF l a p).1 = F.of (a.q * prodQ l p))) ∨ (shF l a p).2 = 4
  | [], _, a, ha => Or.inl ⟨rfl, ha, by simp [shF, prodQ, Rat.mul_one], fun h => absurd rfl h⟩
  | x :: r, hp, a, ha => by
    have hx := hp x (by simp)
    have hb := (part_right h (k := x.toNat) (by omega)).1
    simp only [shF, prodQ]
    rcases mulF_err ha hb with ⟨h1, h2, h3⟩ | h1
    · rw [if_pos h1]
      have hq : (mulF a (part l x.toNat)).1.q = a.q * (part l x.toNat).q := by rw [h2, F.q_of]
      rcases shF_spec h r (fun y hy => hp y (by simp [hy])) _ h3 with ⟨g1, g2, g3, g4⟩ | g
      · refine Or.inl ⟨g1, g2, by rw [g3, hq, Rat.mul_assoc], fun _ => ?_⟩
        by_cases hr : r = []
        · subst hr
          show (mulF a (part l x.toNat)).1 = _
          rw [h2]; simp [prodQ, Rat.mul_one]
        · rw [g4 hr, hq, Rat.mul_assoc]
      · exact Or.inr g
    · rw [if_neg (by omega)]
      exact Or.inr h1
theorem prodQ_app (l : List Nd) (p r : List Int) : prodQ l (p ++ r) = prodQ l p * prodQ l r := by
  induction p with
  | nil => simp [prodQ, Rat.one_mul]
  | cons x p ih => simp [prodQ, ih, Rat.mul_assoc]
def one : F := ⟨1, 1⟩
theorem one_right : one.right := by unfold one F.right; decide
theorem one_q : one.q = 1 := by decide +kernel
/-- A node's share. -/
def share (l : List Nd) (k : Nat) : F × Int := shF l one (way l k)
/-- As a number. -/
def shQ (l : List Nd) (k : Nat) : Rat := prodQ l (way l k)
theorem way_range {l : List Nd} (h : okT l) {n : Nat} (hn : n < l.length) : ∀ x ∈ way l n, 0 ≤ x ∧ x < l.length := fun x hx => by
  obtain ⟨a, b, _⟩ := way_pre h n n (Nat.le_refl _) hn x hx
  exact ⟨a, b⟩
theorem share_spec {l : List Nd} (h : okT l) {n : Nat} (hn : n < l.length) : ((share l n).2 = 0 ∧ (share l n).1.right ∧ (share l n).1.q = shQ l n ∧ (share l n).1 = F.of (shQ l n)) ∨ (share l n).2 = 4 := by
  have hp := (way_way h hn).pos
  rcases shF_spec h (way l n) (way_range h hn) one one_right with ⟨a, b, c, d⟩ | g
  · rw [one_q, Rat.one_mul] at c d
    exact Or.inl ⟨a, b, c, d (fun e => by rw [e] at hp; simp at hp)⟩
  · exact Or.inr g
end Go.Proofs.Ytlnocgfblheehaa
