/-
  The abstract machine, part X: what came in, as lists of plain data. For any program.
-/
import Derived.Test.YtfkhljgifndbpaaDoorAmV
namespace Go.Am

theorem ArgsOk.nil {B : Nat} {H : Heap} {l : List Value} (h : ArgsOk B H [] l) : l = [] := h
theorem ArgsOk.cons {B : Nat} {H : Heap} {s : Bool × List CS} {r : List (Bool × List CS)} {l : List Value} (h : ArgsOk B H (s :: r) l) : ∃ v l', l = v :: l' ∧ ArgOk B H s v ∧ ArgsOk B H r l' := h
theorem ArgOk.cell {B : Nat} {H : Heap} {c : CS} {v : Value} (h : ArgOk B H (false, [c]) v) : CellOk B H c v := by
  unfold ArgOk at h
  rw [if_neg (by simp)] at h
  obtain ⟨c', h1, h2⟩ := h
  cases h1
  exact h2
theorem ArgOk.agg {B : Nat} {H : Heap} {s : List CS} {v : Value} (h : ArgOk B H (true, s) v) : ∃ cs : List Value, v = .agg cs.toArray ∧ RowOk B H s cs := by
  unfold ArgOk at h
  rwa [if_pos rfl] at h
theorem CellOk.int_inv {B : Nat} {H : Heap} {k : IntKind} {v : Value} (h : CellOk B H (.int k) v) : ∃ n, v = .int k n ∧ k.min ≤ n ∧ n ≤ k.max := by cases h with | int h => exact ⟨_, rfl, h⟩
theorem CellOk.bool_inv {B : Nat} {H : Heap} {v : Value} (h : CellOk B H .bool v) : ∃ b, v = .bool b := by cases h with | bool b => exact ⟨b, rfl⟩
theorem CellOk.str_inv {B : Nat} {H : Heap} {v : Value} (h : CellOk B H .str v) : ∃ s, v = .string s ∧ s.size ≤ B := by cases h with | str s h => exact ⟨s, rfl, h⟩
theorem RowOk.nil_inv {B : Nat} {H : Heap} {cs : List Value} (h : RowOk B H [] cs) : cs = [] := List.eq_nil_of_length_eq_zero (by simpa using h.1)
theorem RowOk.cons_inv {B : Nat} {H : Heap} {s : CS} {r : List CS} {cs : List Value} (h : RowOk B H (s :: r) cs) : ∃ v l, cs = v :: l ∧ CellOk B H s v ∧ RowOk B H r l := by
  obtain ⟨h1, h2⟩ := h
  match cs, h1 with
  | v :: l, h1 => exact ⟨v, l, rfl, h2 0 s v rfl rfl, by simpa using h1, fun j s v a b => h2 (j + 1) s v (by simpa using a) (by simpa using b)⟩
theorem RowOk.take {B : Nat} {H : Heap} {s : List CS} {cs : List Value} (n : Nat) (h : RowOk B H s cs) : RowOk B H (s.take n) (cs.take n) := by
  refine ⟨by simp [h.1], fun j t v a b => ?_⟩
  have hj : j < n := by have := (List.getElem?_eq_some_iff.1 a).1; simp at this; omega
  rw [List.getElem?_take_of_lt hj] at a b
  exact h.2 j t v a b

/-- Rows of plain data in a slice's cells. -/
def flat' {α : Type} (enc : α → List Value) (l : List α) : List Value := l.flatMap enc

theorem chunks {α : Type} {enc : α → List Value} {ok : α → Prop} {s : Nat} : ∀ {c : Nat} {cs : List Value}, cs.length = c * s → (∀ i, i < c → ∃ a, (cs.drop (i * s)).take s = enc a ∧ ok a) → ∃ l : List α, l.length = c ∧ cs = flat' enc l ∧ ∀ a ∈ l, ok a
  | 0, cs, hl, _ => ⟨[], rfl, by simpa [flat'] using hl, by simp⟩
  | c + 1, cs, hl, h => by
    have hm : (c + 1) * s = c * s + s := Nat.succ_mul _ _
    obtain ⟨a, h1, h2⟩ := h 0 (by omega)
    obtain ⟨l, h3, h4, h5⟩ := chunks (c := c) (cs := cs.drop s) (enc := enc) (ok := ok) (s := s) (by simp; omega) fun i hi => by
      have := h (i + 1) (by omega)
      rw [List.drop_drop]
      rw [Nat.succ_mul] at this
      rw [show s + i * s = i * s + s by omega]
      exact this
    refine ⟨a :: l, by simp [h3], ?_, by simp; exact ⟨h2, h5⟩⟩
    have : cs = cs.take s ++ cs.drop s := (List.take_append_drop s cs).symm
    rw [this, h4]
    simp at h1
    simp [flat', h1]

/-- A slice of plain data. -/
theorem CellOk.rows {B : Nat} {H : Heap} {sh : List CS} {v : Value} {α : Type} {enc : α → List Value} {ok : α → Prop} (dec : ∀ cs, RowOk B H sh cs → ∃ a, cs = enc a ∧ ok a) (h : CellOk B H (.slice sh) v) :
    ∃ j n, ∃ l : List α, v = .slice (some ⟨j, 0, some 1⟩) n l.length ∧ n ≤ l.length ∧ l.length ≤ B ∧ H[j]? = some (.cells 0 sh.length true (flat' enc l)) ∧ ∀ a ∈ l, ok a := by
  cases h with
  | @slice _ k n c cs hn hc hk hl h =>
    obtain ⟨l, rfl, h2, h3⟩ := chunks (enc := enc) (ok := ok) hl fun i hi => by
      have hle : (i + 1) * sh.length ≤ c * sh.length := Nat.mul_le_mul_right _ hi
      rw [Nat.succ_mul] at hle
      refine dec _ ⟨by simp; omega, fun j s v a b => ?_⟩
      have hj := (List.getElem?_eq_some_iff.1 a).1
      rw [List.getElem?_take_of_lt hj, List.getElem?_drop] at b
      exact h i j s v hi a b
    exact ⟨k, n, l, rfl, hn, hc, by rw [← h2]; exact hk, h3⟩

theorem flat'_one {α : Type} (f : α → Value) (l : List α) : flat' (fun x => [f x]) l = l.map f := by
  induction l with
  | nil => rfl
  | cons a l ih => simpa [flat'] using ih

/-- A slice of whole numbers. -/
theorem CellOk.ints {B : Nat} {H : Heap} {k : IntKind} {v : Value} (h : CellOk B H (.slice [.int k]) v) :
    ∃ j n, ∃ l : List Int, v = .slice (some ⟨j, 0, some 1⟩) n l.length ∧ n ≤ l.length ∧ l.length ≤ B ∧ H[j]? = some (.cells 0 1 true (l.map (.int k ·))) ∧ ∀ a ∈ l, k.min ≤ a ∧ a ≤ k.max := by
  obtain ⟨j, n, l, h1, h2, h3, h4, h5⟩ := CellOk.rows (α := Int) (enc := fun x => [Value.int k x]) (ok := fun a => k.min ≤ a ∧ a ≤ k.max) (fun cs h => by
    obtain ⟨v, rfl, hv⟩ := h.one
    obtain ⟨n, rfl, hn⟩ := hv.int_inv
    exact ⟨n, rfl, hn⟩) h
  rw [flat'_one] at h4
  exact ⟨j, n, l, h1, h2, h3, h4, h5⟩

theorem flat'_get {α : Type} {enc : α → List Value} {s : Nat} (hs : ∀ a, (enc a).length = s) (d : α) : ∀ (l : List α) (i j : Nat), i < l.length → j < s → (flat' enc l)[i * s + j]? = (enc (l.getD i d))[j]?
  | [], i, j, hi, _ => by simp at hi
  | a :: l, 0, j, _, hj => by
    simp only [flat', List.flatMap_cons, Nat.zero_mul, Nat.zero_add, List.getD_cons_zero]
    rw [List.getElem?_append_left (by rw [hs]; exact hj)]
  | a :: l, i + 1, j, hi, hj => by
    have := flat'_get hs d l i j (by simpa using hi) hj
    simp only [flat', List.flatMap_cons, List.getD_cons_succ]
    rw [List.getElem?_append_right (by rw [hs, Nat.succ_mul]; omega), hs, show (i + 1) * s + j - s = i * s + j by rw [Nat.succ_mul]; omega]
    exact this
theorem flat'_length {α : Type} {enc : α → List Value} {s : Nat} (hs : ∀ a, (enc a).length = s) : ∀ l : List α, (flat' enc l).length = l.length * s
  | [] => by simp [flat']
  | a :: l => by
    have := flat'_length hs l
    simp only [flat', List.flatMap_cons, List.length_append, hs, List.length_cons, Nat.succ_mul] at this ⊢
    omega
theorem flat'_app {α : Type} {enc : α → List Value} (l m : List α) : flat' enc l ++ flat' enc m = flat' enc (l ++ m) := by simp [flat']
theorem getD_take {α : Type} (d : α) (l : List α) (n i : Nat) (h : i < n) : (l.take n).getD i d = l.getD i d := by
  simp [List.getD_eq_getElem?_getD, List.getElem?_take_of_lt h]
theorem getD_drop {α : Type} (d : α) (l : List α) (n i : Nat) : (l.drop n).getD i d = l.getD (n + i) d := by
  simp [List.getD_eq_getElem?_getD]
theorem drop_cons {α : Type} (d : α) (l : List α) (i : Nat) (h : i < l.length) : l.drop i = l.getD i d :: l.drop (i + 1) := by
  rw [List.drop_eq_getElem_cons h]; simp [List.getD_eq_getElem?_getD, h]
theorem take_snoc {α : Type} (d : α) (l : List α) (i : Nat) (h : i < l.length) : l.take (i + 1) = l.take i ++ [l.getD i d] := by
  rw [List.take_add_one, List.getElem?_eq_getElem h]; simp [List.getD_eq_getElem?_getD, h]
theorem map_get {α : Type} (f : α → Value) (d : α) (l : List α) (i : Nat) (h : i < l.length) : (l.map f)[i]? = some (f (l.getD i d)) := by
  simp [h, List.getD_eq_getElem?_getD]

end Go.Am
