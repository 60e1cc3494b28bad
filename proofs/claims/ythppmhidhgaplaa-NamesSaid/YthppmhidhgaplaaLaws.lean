import Derived.Test.YthppmhidhgaplaaTab
import Derived.Test.YthppmhidhgaplaaBase
namespace Go.Proofs.Ythppmhidhgaplaa
open Go Go.Am
theorem Names_args (H : Heap) (vals : List Value) (h : ArgsOk maxLen H NamesSh vals) : ACallK Try.prog 3 vals H fun v _ => v = .bool true := by
  obtain rfl := h.nil
  exact (ACallK.yes tab_ok 1000 (by kernel_rfl) H).mono fun _ _ h => h.1
end Go.Proofs.Ythppmhidhgaplaa
