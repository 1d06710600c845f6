/- Bodies of functions that trim.py has taken out of the table, and that Replace needs. -/
import Derived.Test.YthfabodamhdhaaaE
namespace Go.Proofs.Ythfabodamhdhaaa
open Go Tx
noncomputable def body80 : Code := Try.f80.body.getD .skip
theorem has80 : Try.f80.body = some body80 := by kernel_rfl
noncomputable def body81 : Code := Try.f81.body.getD .skip
theorem has81 : Try.f81.body = some body81 := by kernel_rfl
noncomputable def body82 : Code := Try.f82.body.getD .skip
theorem has82 : Try.f82.body = some body82 := by kernel_rfl
end Go.Proofs.Ythfabodamhdhaaa
