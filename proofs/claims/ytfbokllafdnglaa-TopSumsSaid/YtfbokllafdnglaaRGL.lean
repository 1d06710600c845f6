/- What of the texts of chapter 03 is wanted. -/
import Derived.Test.YtfbokllafdnglaaRGg
import Derived.Test.YtfbokllafdnglaaS3
namespace Go.Proofs.Ytfbokllafdnglaa
open Go Tx Go.RowKit
theorem wanted : True := by
 have := @Over_nr
 have := @Slack_nr
 have := @Over_ok
 have := @Slack_ok
 have := @Room_ok
 have := @Room_nr
 have := @rmE_cases
 have := @rigOk_more
 have := @Wk_e
 have := @Rig_famN
 have := @Rig_own
 have := @Right_ok
 have := @PullR_ok
 have := @Thin_ok
 have := @Ranges_nr
 have := @Ranges_ok
 have := @place_ok
 have := @endL_at
 have := @bs_spec
 have := @eqlE95
 have := @neqE95
 have := @eqInS
 have := @op_rig
 have := @op_ints
 have := @wf32
 have := @op_w
 have := @RigX.rin
 have := @ovO_find
 have := @slO_find
 have := @hiP_bd
 have := @pulB_at
 have := @pulB_of
 have := @endL_len
 trivial
end Go.Proofs.Ytfbokllafdnglaa
