import Derived.Test.YtdcodafidefloaaPlain6
/- a heavy flow among light ones: reckoned at one byte each -/
set_option linter.unusedVariables false
set_option maxRecDepth 100000
namespace Go.Proofs.Ytdcodafidefloaa

theorem smooth_all : ([1, 2, 3, 4, 5, 6, 7, 8, 9, 10, 11, 12].all smoothB) = true := by decide +kernel
end Go.Proofs.Ytdcodafidefloaa
