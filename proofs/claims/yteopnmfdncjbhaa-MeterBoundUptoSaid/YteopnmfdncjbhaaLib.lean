import Derived.Test.YteopnmfdncjbhaaAmX
/- Slices of plain data in objects of the heap. For any program. -/
namespace Go.Proofs.Yteopnmfdncjbhaa
open Go Go.Am

abbrev slv (k o g n c : Nat) : Value := .slice (some ⟨k, o, some (g + 1)⟩) n c
def ints (l : List Int) : List Value := l.map fun x => .int .i64 x
def bools (l : List Bool) : List Value := l.map fun x => .bool x
theorem ints_length (l : List Int) : (ints l).length = l.length := by simp [ints]
theorem bools_length (l : List Bool) : (bools l).length = l.length := by simp [bools]
theorem ints_app (l m : List Int) : ints l ++ ints m = ints (l ++ m) := by simp [ints]
theorem bools_app (l m : List Bool) : bools l ++ bools m = bools (l ++ m) := by simp [bools]
theorem ints_snoc (l : List Int) (x : Int) : ints l ++ [.int .i64 x] = ints (l ++ [x]) := ints_app l [x]
theorem bools_snoc (l : List Bool) (x : Bool) : bools l ++ [.bool x] = bools (l ++ [x]) := bools_app l [x]
theorem ints_take (l : List Int) (n : Nat) (h : l.length ≤ n) : (ints l).take n = ints l := List.take_of_length_le (by rw [ints_length]; exact h)
theorem bools_take (l : List Bool) (n : Nat) (h : l.length ≤ n) : (bools l).take n = bools l := List.take_of_length_le (by rw [bools_length]; exact h)
theorem ints_get (l : List Int) (i : Nat) (h : i < l.length) : (ints l)[i]? = some (.int .i64 (l.getD i 0)) := map_get _ 0 _ i h
theorem bools_get (l : List Bool) (i : Nat) (h : i < l.length) : (bools l)[i]? = some (.bool (l.getD i false)) := map_get _ false _ i h
theorem ints_set (l : List Int) (i : Nat) (x : Int) : (ints l).set i (.int .i64 x) = ints (l.set i x) := by simp [ints, List.map_set]
theorem bools_set (l : List Bool) (i : Nat) (x : Bool) : (bools l).set i (.bool x) = bools (l.set i x) := by simp [bools, List.map_set]
theorem abnd_ints' (m g esz : Nat) (ro : Bool) (l : List Int) : abnd m (.cells g esz ro (ints l)) = true := abnd_ints m g esz ro .i64 l
theorem abnd_bools' (m g esz : Nat) (ro : Bool) (l : List Bool) : abnd m (.cells g esz ro (bools l)) = true := abnd_bools m g esz ro l

/-- Tbl of plain data, of s cells each, in an object of the heap. -/
structure Tbl (α : Type) (enc : α → List Value) (s : Nat) (d : α) (H : Heap) (k o g : Nat) (l : List α) : Prop where
  at' : ∃ ro cs, H[k]? = some (.cells g s ro cs) ∧ o + l.length * s ≤ cs.length ∧ ∀ i, i < l.length → ∀ j, j < s → cs[o + i * s + j]? = (enc (l.getD i d))[j]?
theorem Tbl.app {α : Type} {enc : α → List Value} {s : Nat} {d : α} {H : Heap} {k o g : Nat} {l : List α} (h : Tbl α enc s d H k o g l) (x : Heap) : Tbl α enc s d (H ++ x) k o g l := by
  obtain ⟨ro, cs, h1, h2, h3⟩ := h.at'
  exact ⟨ro, cs, get_old h1 x, h2, h3⟩
theorem Tbl.lt {α : Type} {enc : α → List Value} {s : Nat} {d : α} {H : Heap} {k o g : Nat} {l : List α} (h : Tbl α enc s d H k o g l) : k < H.length := by
  obtain ⟨ro, cs, h1, h2⟩ := h.at'
  exact (List.getElem?_eq_some_iff.1 h1).1
theorem Tbl.take {α : Type} {enc : α → List Value} {s : Nat} {d : α} {H : Heap} {k o g : Nat} {l : List α} (h : Tbl α enc s d H k o g l) (n : Nat) : Tbl α enc s d H k o g (l.take n) := by
  obtain ⟨ro, cs, h1, h2, h3⟩ := h.at'
  have hle : (l.take n).length * s ≤ l.length * s := Nat.mul_le_mul_right _ (by simp; omega)
  refine ⟨ro, cs, h1, by omega, fun i hi => ?_⟩
  simp at hi
  rw [getD_take d l n i (by omega)]
  exact h3 i (by omega)
theorem Tbl.drop {α : Type} {enc : α → List Value} {s : Nat} {d : α} {H : Heap} {k o g : Nat} {l : List α} (h : Tbl α enc s d H k o g l) (n : Nat) (hn : n ≤ l.length) : Tbl α enc s d H k (o + n * s) g (l.drop n) := by
  obtain ⟨ro, cs, h1, h2, h3⟩ := h.at'
  have hle : n * s + (l.drop n).length * s = l.length * s := by rw [← Nat.add_mul]; congr 1; simp; omega
  refine ⟨ro, cs, h1, by omega, fun i hi j hj => ?_⟩
  simp at hi
  rw [getD_drop, ← h3 (n + i) (by omega) j hj, Nat.add_mul]
  congr 1
  omega
/-- A slice of plain data that came in. -/
theorem rows_of {α : Type} {enc : α → List Value} {ok : α → Prop} (s : Nat) (hs : ∀ a, (enc a).length = s) (d : α) {B : Nat} {H : Heap} {sh : List CS} {v : Value} (hsh : sh.length = s) (dec : ∀ cs, RowOk B H sh cs → ∃ a, cs = enc a ∧ ok a) (h : ArgOk B H (false, [.slice sh]) v) :
    ∃ k c, ∃ l : List α, v = slv k 0 0 l.length c ∧ l.length ≤ B ∧ l.length ≤ c ∧ Tbl α enc s d H k 0 0 l ∧ ∀ i, i < l.length → ok (l.getD i d) := by
  obtain ⟨j, n, l, rfl, h1, h2, h3, h4⟩ := CellOk.rows dec h.cell
  have hl : (l.take n).length = n := by simp; omega
  have hn : n * s ≤ l.length * s := Nat.mul_le_mul_right _ h1
  refine ⟨j, l.length, l.take n, by rw [hl], by omega, by omega, ⟨true, _, by rw [← hsh]; exact h3, by rw [flat'_length hs, hl]; omega, fun i hi j hj => ?_⟩, fun i hi => ?_⟩
  · rw [hl] at hi
    rw [getD_take d l n i hi, Nat.zero_add]
    exact flat'_get hs d l i j (by omega) hj
  · rw [hl] at hi
    rw [getD_take d l n i hi]
    have hil : i < l.length := by omega
    rw [List.getD_eq_getElem?_getD, List.getElem?_eq_getElem hil]
    exact h4 _ (List.getElem_mem hil)
def ienc (x : Int) : List Value := [.int .i64 x]
/-- A slice of whole numbers in an object of the heap. -/
abbrev Ints (H : Heap) (k o g : Nat) (l : List Int) : Prop := Tbl Int ienc 1 0 H k o g l
theorem ints_of {B : Nat} {H : Heap} {v : Value} (h : ArgOk B H (false, [.slice [.int .i64]]) v) :
    ∃ k c, ∃ l : List Int, v = slv k 0 0 l.length c ∧ l.length ≤ B ∧ l.length ≤ c ∧ Ints H k 0 0 l ∧ ∀ i, i < l.length → -9223372036854775808 ≤ l.getD i 0 ∧ l.getD i 0 ≤ 9223372036854775807 :=
  rows_of (α := Int) (enc := ienc) (ok := fun a => -9223372036854775808 ≤ a ∧ a ≤ 9223372036854775807) 1 (fun _ => rfl) 0 rfl (fun cs h => by
    obtain ⟨v, rfl, hv⟩ := h.one
    obtain ⟨n, rfl, hn⟩ := hv.int_inv
    exact ⟨n, rfl, hn⟩) h
/-- Its cells. -/
theorem Ints.cell {H : Heap} {k o g : Nat} {l : List Int} (h : Ints H k o g l) : ∃ ro cs, H[k]? = some (.cells g 1 ro cs) ∧ o + l.length ≤ cs.length ∧ ∀ i, i < l.length → cs[o + i]? = some (.int .i64 (l.getD i 0)) := by
  obtain ⟨ro, cs, h1, h2, h3⟩ := h.at'
  exact ⟨ro, cs, h1, by omega, fun i hi => by have := h3 i hi 0 (by omega); simpa [ienc] using this⟩
theorem Ints.new (H : Heap) (k g : Nat) (ro : Bool) (l : List Int) (h : H[k]? = some (.cells g 1 ro (ints l))) : Ints H k 0 g l := by
  refine ⟨ro, _, h, by simp [ints], fun i hi j hj => ?_⟩
  obtain rfl : j = 0 := by omega
  rw [show 0 + i * 1 + 0 = i by omega, ints_get l i hi]; rfl
def benc (x : Bool) : List Value := [.bool x]
abbrev Bools (H : Heap) (k o g : Nat) (l : List Bool) : Prop := Tbl Bool benc 1 false H k o g l
theorem Bools.cell {H : Heap} {k o g : Nat} {l : List Bool} (h : Bools H k o g l) : ∃ ro cs, H[k]? = some (.cells g 1 ro cs) ∧ o + l.length ≤ cs.length ∧ ∀ i, i < l.length → cs[o + i]? = some (.bool (l.getD i false)) := by
  obtain ⟨ro, cs, h1, h2, h3⟩ := h.at'
  exact ⟨ro, cs, h1, by omega, fun i hi => by have := h3 i hi 0 (by omega); simpa [benc] using this⟩
theorem Bools.new (H : Heap) (k g : Nat) (ro : Bool) (l : List Bool) (h : H[k]? = some (.cells g 1 ro (bools l))) : Bools H k 0 g l := by
  refine ⟨ro, _, h, by simp [bools], fun i hi j hj => ?_⟩
  obtain rfl : j = 0 := by omega
  rw [show 0 + i * 1 + 0 = i by omega, bools_get l i hi]; rfl
end Go.Proofs.Yteopnmfdncjbhaa
