/- SchoolNames() of chapter 11 answers true: the closed run, evaluated by the kernel. -/
import Derived.Test.YtpleibfohjbneaaGreatI
namespace Go.Proofs.YtpleibfohjbneaaGreat
open Go Go.RowKit Tx
set_option maxRecDepth 100000
theorem names_run : runTop tyP fnT.get orc1 exc 300 14 [] = some (.v (.bool true)) := by kernel_rfl
theorem names_calls (w : World) : Calls Tryz.prog 14 #[] w fun e w' => e = .returned (.bool true) ∧ Below w.heap.size w w' :=
  runTop_calls env tyP_ok fnT_ok orc1_ok exc_ok mixed names_run w
end Go.Proofs.YtpleibfohjbneaaGreat
