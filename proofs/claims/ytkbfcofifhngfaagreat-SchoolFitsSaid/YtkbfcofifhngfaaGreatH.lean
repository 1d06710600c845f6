/- awake() of chapter 11 answers true: the closed run, evaluated by the kernel. -/
import Derived.Test.YtkbfcofifhngfaaGreatF
namespace Go.Proofs.YtkbfcofifhngfaaGreat
open Go Go.RowKit Tx
set_option maxRecDepth 100000
theorem awake_run : runTop tyP fnT.get orc0 exc 300 12 [] = some (.v (.bool true)) := by kernel_rfl
theorem awake_calls (w : World) : Calls Tryz.prog 12 #[] w fun e w' => e = .returned (.bool true) ∧ Below w.heap.size w w' :=
  runTop_calls env tyP_ok fnT_ok orc0_ok exc_ok mixed awake_run w
end Go.Proofs.YtkbfcofifhngfaaGreat
