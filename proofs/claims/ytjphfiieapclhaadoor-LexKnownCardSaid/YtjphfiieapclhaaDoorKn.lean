/- LexKnown as a closed run, by the kernel. -/
import Derived.Test.YtjphfiieapclhaaDoorFf
namespace Go.Abs.YtjphfiieapclhaaDoor
open Go.Proofs
set_option maxRecDepth 10000000 in
theorem known_run : fTop XB fprims 100000 300 6 [] G0 (fun v => AV.eqv v (.b true)) = true := by kernel_rfl
end Go.Abs.YtjphfiieapclhaaDoor
