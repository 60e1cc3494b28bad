import Derived.Test.YtmbcgelfnbnicaaDoorCuPlain
import Derived.Test.YtmbcgelfnbnicaaDoorLiPlain
/- the plain law of what is paced and not late -/
set_option linter.unusedVariables false
namespace Go.Proofs.YtmbcgelfnbnicaaDoor

def shot (r : Int) (l : List Int) (i : Nat) : Li.S := ⟨(i : Int) * r, l.getD i 0⟩
def shots (r : Int) (l : List Int) (n : Nat) : List Li.S := (List.range n).map (shot r l)
def sumTo (l : List Int) : Nat → Int
  | 0 => 0
  | i + 1 => sumTo l i + l.getD i 0
structure Late (r : Int) (l : List Int) : Prop where
  r0 : 1 ≤ r
  r1 : r ≤ 50
  len : l.length ≤ 60
  all : ∀ i, i < l.length → 0 ≤ l.getD i 0 ∧ l.getD i 0 ≤ 500
theorem shots_length (r : Int) (l : List Int) (n : Nat) : (shots r l n).length = n := by simp [shots]
theorem shots_succ (r : Int) (l : List Int) (n : Nat) : shots r l (n + 1) = shots r l n ++ [shot r l n] := by simp [shots, List.range_succ]
theorem shots_get (r : Int) (l : List Int) (n i : Nat) (h : i < n) : (shots r l n).getD i Li.s0 = shot r l i := by simp [shots, h]
theorem shots_drop (r : Int) (l : List Int) (n i : Nat) (h : i < n) : (shots r l n).drop i = shot r l i :: (shots r l n).drop (i + 1) := by
  rw [List.drop_eq_getElem_cons (by rw [shots_length]; exact h)]
  congr 1
  simp [shots]
variable {r : Int} {l : List Int}
theorem sumTo_range' : ∀ i, (∀ j, j < i → 0 ≤ l.getD j 0 ∧ l.getD j 0 ≤ 500) → 0 ≤ sumTo l i ∧ sumTo l i ≤ i * 500
  | 0, _ => by simp [sumTo]
  | i + 1, h => by
    have ih := sumTo_range' i (fun j hj => h j (by omega))
    have := h i (by omega)
    simp only [sumTo]
    omega
theorem sumTo_range (h : ∀ i, i < l.length → 0 ≤ l.getD i 0 ∧ l.getD i 0 ≤ 500) (i : Nat) (hi : i ≤ l.length) : 0 ≤ sumTo l i ∧ sumTo l i ≤ i * 500 := sumTo_range' i fun j hj => h j (by omega)
theorem sumTo_mono (h : ∀ i, i < l.length → 0 ≤ l.getD i 0 ∧ l.getD i 0 ≤ 500) (i : Nat) : ∀ j, i + j ≤ l.length → sumTo l i ≤ sumTo l (i + j)
  | 0, _ => Int.le_refl _
  | j + 1, hj => by
    have ih := sumTo_mono h i j (by omega)
    have := h (i + j) (by omega)
    have e : sumTo l (i + (j + 1)) = sumTo l (i + j) + l.getD (i + j) 0 := rfl
    omega
theorem Late.okL (h : Late r l) : Cu.okL l := ⟨by have := h.len; omega, fun i hi => by have := h.all i hi; omega⟩
theorem Late.small (h : Late r l) : Cu.Pr.small ⟨0, r⟩ := by have := h.r0; have := h.r1; unfold Cu.Pr.small; simp only; omega
theorem Late.fine (h : Late r l) : Li.Fine (shots r l l.length) := by
  have h1 := h.r0
  have h2 := h.r1
  have h3 := h.len
  refine ⟨by rw [shots_length]; omega, fun s hs => ?_, ?_⟩
  · obtain ⟨i, hi, rfl⟩ := List.mem_map.1 hs
    have hi := List.mem_range.1 hi
    have := h.all i hi
    have p1 : 0 ≤ (i : Int) * r := Int.mul_nonneg (by omega) (by omega)
    have p2 : (i : Int) * r ≤ 60 * 50 := Int.mul_le_mul (by omega) (by omega) (by omega) (by omega)
    unfold Li.S.bad shot
    simp only
    omega
  · rw [shots, List.pairwise_map]
    refine List.pairwise_lt_range.imp fun {a b} hab => ?_
    exact Int.mul_le_mul_of_nonneg_right (by omega) (by omega)
theorem Late.room (h : Late r l) : ∀ i, i ≤ l.length → Cu.room ⟨sumTo l l.length, 0⟩ l i = sumTo l l.length - sumTo l i
  | 0, _ => by simp [Cu.room, sumTo]
  | i + 1, hi => by
    have ih := Late.room h i (by omega)
    have := sumTo_range h.all i (by omega)
    rw [Cu.room_succ, ih]
    simp only [sumTo]
    omega
theorem Late.keeps (h : Late r l) : Cu.keeps ⟨sumTo l l.length, 0⟩ l := fun i hi => by
  rw [Late.room h (i + 1) (by omega)]
  have := sumTo_mono h.all (i + 1) (l.length - (i + 1)) (by omega)
  rw [show i + 1 + (l.length - (i + 1)) = l.length by omega] at this
  omega
theorem Late.csmall (h : Late r l) : Cu.Pr.small ⟨sumTo l l.length, 0⟩ := by
  have := sumTo_range h.all l.length (Nat.le_refl _)
  have := h.len
  unfold Cu.Pr.small
  simp only
  omega
theorem Late.left_go (h : Late r l) : ∀ (j i : Nat) (f : Int), max f ((i : Int) * r) - (i : Int) * r = (Cu.st ⟨0, r⟩ l i).1 → i + j < l.length → (Li.waitsGo f ((shots r l l.length).drop i)).getD j 0 = (Cu.st ⟨0, r⟩ l (i + j)).1
  | 0, i, f, hf, hi => by
    rw [shots_drop r l _ i (by omega)]
    exact hf
  | j + 1, i, f, hf, hi => by
    rw [shots_drop r l _ i (by omega)]
    show (Li.waitsGo (max f ((i : Int) * r) + l.getD i 0) ((shots r l l.length).drop (i + 1))).getD j 0 = _
    rw [Late.left_go h j (i + 1) _ ?_ (by omega), show i + 1 + j = i + (j + 1) by omega]
    rw [Cu.st_w]
    obtain ⟨a, b, c, d⟩ := Cu.st_range h.small h.okL i (by omega)
    have := h.all i (by omega)
    have := h.r0
    unfold Cu.out Cu.goes
    simp only
    rw [show ((i + 1 : Nat) : Int) * r = (i : Int) * r + r by rw [Int.natCast_add, Int.add_mul]; omega]
    generalize (i : Int) * r = A at *
    generalize (Cu.st ⟨0, r⟩ l i).1 = w at *
    generalize (Cu.st ⟨0, r⟩ l i).2 = g at *
    generalize l.getD i 0 = n at *
    split <;> omega
theorem Late.left (h : Late r l) (i : Nat) (hi : i < l.length) : (Li.waits (shots r l l.length)).getD i 0 = (Cu.st ⟨0, r⟩ l i).1 := by
  have := Late.left_go h i 0 0 (by simp [Cu.st]) (by omega)
  rw [Nat.zero_add] at this
  exact this
end Go.Proofs.YtmbcgelfnbnicaaDoor
