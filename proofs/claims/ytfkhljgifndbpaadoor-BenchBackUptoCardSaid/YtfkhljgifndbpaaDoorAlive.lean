import Derived.Test.YtfkhljgifndbpaaDoorPrim
set_option maxRecDepth 100000
namespace Go.Proofs.YtfkhljgifndbpaaDoor
open Go Go.Am
attribute [local irreducible] opsW Ww loopW callW drawW outW outDW gW cW BrW bothW vW resW DropW RdW dcallW altW forkW splitW Later.run
theorem alive (H : Heap) : ACallK Tryd.prog 5 [] H (fun v H' => v = .bool true ∧ H' = H) := .yesP pr_ok tab_ok 1000 (by kernel_rfl) H
end Go.Proofs.YtfkhljgifndbpaaDoor
