/-
  The abstract machine, ahead of all: what is known of this program's package-level variables: four of the library's own, at the first places of the memory.
-/
import Derived.Calls
import Derived.Laws.World
import Derived.Lib.ItoaNum
namespace Go.Am

/-- internal/bytealg.MaxLen holds some int; internal/strconv.uint64pow10 the powers of ten; strconv.ErrSyntax and ErrRange an error each. -/
def GLs : List (Nat × (Array Value → Prop)) :=
  [(0, fun c => ∃ m : Int, c = #[.int .i64 m]), (1, fun c => c = (Lib.pow10Tab.map fun z => Value.int .u64 z).toArray), (2, fun c => ∃ t p, c = #[.iface t p]), (3, fun c => ∃ t p, c = #[.iface t p])]
/-- What is known of the memory at the beginning: prot: the protected blocks; B: the memory. -/
def GL (prot : Nat → Prop) (B : World) : Prop := ∀ x ∈ GLs, prot x.1 ∧ ∃ c t fr, B.heap[x.1]? = some (.cells c t fr) ∧ x.2 c
theorem GL.mono {prot prot' : Nat → Prop} {B B' : World} (h : GL prot B) (hm : ∀ b, prot b → prot' b ∧ B'.heap[b]? = B.heap[b]?) : GL prot' B' := fun x hx => by
  obtain ⟨h1, c, t, fr, h2, h3⟩ := h x hx
  obtain ⟨h4, h5⟩ := hm _ h1
  exact ⟨h4, c, t, fr, h5.trans h2, h3⟩

end Go.Am
