/- The program's constants are those of the reference; no condition. -/
import Derived.Test.YtkhkmdddflaolaaP17
import Derived.Test.YtkhkmdddflaolaaBase
namespace Go.Proofs.Ytkhkmdddflaolaa.Pure
open Go.RowKit Go.Proofs.YtkhkmdddflaolaaW.PrintWords Go.Proofs.YtkhkmdddflaolaaW.PrintLast Go.Proofs.YtkhkmdddflaolaaW.PrintMore
open Go.Proofs.Ytkhkmdddflaolaa.P

theorem FnExactConstants : laws_FnExactConstants.Pure := rfl
end Go.Proofs.Ytkhkmdddflaolaa.Pure
