/- Layer 4, CodesEncode: the plain law. -/
import Derived.Test.YtgejmmkfaliinaaCodesC
namespace Go.Proofs.Ytgejmmkfaliinaa.Pure
open Go.RowKit Go.Proofs.Ytgejmmkfaliinaa.PCodes Go.Proofs.YtgejmmkfaliinaaW.PrintWords Go.Proofs.YtgejmmkfaliinaaW.PrintLast

theorem CodesEncode : frisketlaw04_CodesEncode.Pure := encode_law

end Go.Proofs.Ytgejmmkfaliinaa.Pure
