import Derived.Test.YtmbcgelfnbnicaaDoorDisc
import Derived.Test.YtmbcgelfnbnicaaDoorSl
/- Things and what is sent, as slices in the heap. For any program. -/
namespace Go.Proofs.YtmbcgelfnbnicaaDoor
open Go Go.Am

def Op.cells (o : Op) : List Value := [.int .i64 o.k, .int .i64 o.f, .int .i64 o.b]
def S.cells (s : S) : List Value := [.int .i64 s.f, .int .i64 s.n]
abbrev IsS (A : Nat → Prop) (H : Heap) (w : Value) (l : List S) : Prop := IsT S.cells 2 s0 A H w l
abbrev IsO (A : Nat → Prop) (H : Heap) (w : Value) (l : List Op) : Prop := IsT Op.cells 3 o0 A H w l
theorem flatS_len (l : List S) : (flat' S.cells l).length = l.length * 2 := flat'_length (enc := S.cells) (s := 2) (fun _ => rfl) l
theorem flatS_snoc (l : List S) (s : S) : flat' S.cells l ++ [.int .i64 s.f, .int .i64 s.n] = flat' S.cells (l ++ [s]) := by rw [← flat'_app]; rfl
theorem flatS_take (l : List S) : (flat' S.cells l).take (l.length * 2) = flat' S.cells l := List.take_of_length_le (by rw [flatS_len]; omega)
theorem IsO.ofArg {B : Nat} {H : Heap} {v : Value} (h : ArgOk B H (false, [.slice [.int .i64, .int .i64, .int .i64]]) v) : ∃ l, IsO (fun _ => True) H v l ∧ l.length ≤ B := by
  obtain ⟨k, c, l, h1, h2, h3, h4, _⟩ := rows_of (α := Op) (enc := Op.cells) (ok := fun _ => True) 3 (fun _ => rfl) o0 rfl (fun cs h => by
    obtain ⟨v1, l1, rfl, c1, h⟩ := h.cons_inv
    obtain ⟨v2, l2, rfl, c2, h⟩ := h.cons_inv
    obtain ⟨v3, l3, rfl, c3, h⟩ := h.cons_inv
    obtain rfl := h.nil_inv
    obtain ⟨a, rfl, _⟩ := c1.int_inv
    obtain ⟨b, rfl, _⟩ := c2.int_inv
    obtain ⟨c, rfl, _⟩ := c3.int_inv
    exact ⟨⟨a, b, c⟩, rfl, trivial⟩) h
  exact ⟨l, ⟨k, 0, 0, c, trivial, h1, h4, h3⟩, h2⟩
end Go.Proofs.YtmbcgelfnbnicaaDoor
