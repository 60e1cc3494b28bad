import Derived.Test.YtcocblbfgjjlbaaGreatDoorSortR
/- Sorting in blocks, merged by twos: the plain laws. For any program. -/
set_option linter.unusedVariables false
set_option linter.unusedSectionVars false
namespace Go.Proofs.YtcocblbfgjjlbaaGreatDoor

section
variable {α : Type} [DecidableEq α] {d : α} {lt : α → α → Bool}

/-! ## Blocks, merged by twos -/

/-- Each block is sorted. -/
def Bl (d : α) (lt : α → α → Bool) (S : List α) (B n : Nat) : Prop := ∀ j, srt d lt S (j * B) (min ((j + 1) * B) n)
theorem Bl.all {S : List α} {B n : Nat} (h : Bl d lt S B n) (hn : n ≤ B) : srt d lt S 0 n := by
  have := h 0
  rw [Nat.zero_mul, Nat.zero_add, Nat.one_mul, Nat.min_eq_right hn] at this
  exact this
/-- The first blocks are sorted; on the way. -/
def BlTo (d : α) (lt : α → α → Bool) (S : List α) (B i : Nat) : Prop := ∀ j, j < i → srt d lt S (j * B) ((j + 1) * B)
theorem BlTo.next {S S' : List α} {B i : Nat} (h : BlTo d lt S B i) (hr : Rng d S S' (i * B) (i * B + B)) (hs : srt d lt S' (i * B) (i * B + B)) : BlTo d lt S' B (i + 1) := fun j hj => by
  by_cases e : j = i
  · subst e; rw [Nat.succ_mul]; exact hs
  · have : (j + 1) * B ≤ i * B := Nat.mul_le_mul_right B (by omega)
    exact (h j (by omega)).out fun k k1 k2 => hr.out k (.inl (by omega))
theorem BlTo.last {S S' : List α} {B i n : Nat} (h : BlTo d lt S B i) (hn : i * B ≤ n) (hn2 : n < i * B + B) (hr : Rng d S S' (i * B) n) (hs : srt d lt S' (i * B) n) : Bl d lt S' B n := fun j => by
  by_cases e : j = i
  · subst e; rw [Nat.succ_mul, Nat.min_eq_right (by omega)]; exact hs
  · by_cases e2 : j < i
    · have : (j + 1) * B ≤ i * B := Nat.mul_le_mul_right B (by omega)
      rw [Nat.min_eq_left (by omega)]
      exact (h j e2).out fun k k1 k2 => hr.out k (.inl (by omega))
    · have : (i + 1) * B ≤ j * B := Nat.mul_le_mul_right B (by omega)
      rw [Nat.succ_mul] at this
      exact srt.short (by omega)
/-- On the way of merging. -/
structure Mg (d : α) (lt : α → α → Bool) (S : List α) (B n i : Nat) : Prop where
  done : BlTo d lt S (2 * B) i
  rest : ∀ j, 2 * i ≤ j → srt d lt S (j * B) (min ((j + 1) * B) n)
theorem Mg.start {S : List α} {B n : Nat} (h : Bl d lt S B n) : Mg d lt S B n 0 := ⟨fun j hj => by omega, fun j _ => h j⟩
theorem two_mul_B (i B : Nat) : i * (2 * B) = 2 * i * B := by rw [← Nat.mul_assoc, Nat.mul_comm i 2]
theorem Mg.left {S : List α} {B n i : Nat} (h : Mg d lt S B n i) (hn : i * (2 * B) + B ≤ n) : srt d lt S (i * (2 * B)) (i * (2 * B) + B) := by
  have := h.rest (2 * i) (Nat.le_refl _)
  rw [Nat.succ_mul (2 * i), ← two_mul_B, Nat.min_eq_left hn] at this
  exact this
theorem Mg.right {S : List α} {B n i : Nat} (h : Mg d lt S B n i) : srt d lt S (i * (2 * B) + B) (min (i * (2 * B) + B + B) n) := by
  have := h.rest (2 * i + 1) (by omega)
  rw [Nat.succ_mul (2 * i + 1), Nat.succ_mul (2 * i), ← two_mul_B] at this
  exact this
theorem Mg.next {S S' : List α} {B n i : Nat} (h : Mg d lt S B n i) (hr : Rng d S S' (i * (2 * B)) (i * (2 * B) + 2 * B)) (hs : srt d lt S' (i * (2 * B)) (i * (2 * B) + 2 * B)) : Mg d lt S' B n (i + 1) :=
  ⟨h.done.next hr hs, fun j hj => by
    have : (2 * i + 2) * B ≤ j * B := Nat.mul_le_mul_right B (by omega)
    rw [Nat.add_mul, ← two_mul_B] at this
    exact (h.rest j (by omega)).out fun k k1 k2 => hr.out k (.inr (by omega))⟩
theorem Mg.last {S S' : List α} {B n i : Nat} (h : Mg d lt S B n i) (hn : i * (2 * B) ≤ n) (hn2 : n < i * (2 * B) + 2 * B) (hr : Rng d S S' (i * (2 * B)) n) (hs : srt d lt S' (i * (2 * B)) n) : Bl d lt S' (2 * B) n :=
  h.done.last hn hn2 hr hs
theorem Mg.short {S : List α} {B n i : Nat} (h : Mg d lt S B n i) (hn : n ≤ i * (2 * B) + B) : srt d lt S (i * (2 * B)) n := by
  have := h.rest (2 * i) (Nat.le_refl _)
  rw [Nat.succ_mul (2 * i), ← two_mul_B, Nat.min_eq_right hn] at this
  exact this
end
end Go.Proofs.YtcocblbfgjjlbaaGreatDoor
