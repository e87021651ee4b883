/- Layer 4, CodesDecode: the plain law. -/
import Derived.Test.YtgejmmkfaliinaaCodesC
namespace Go.Proofs.Ytgejmmkfaliinaa.Pure
open Go.RowKit Go.Proofs.Ytgejmmkfaliinaa.PCodes Go.Proofs.YtgejmmkfaliinaaW.PrintWords Go.Proofs.YtgejmmkfaliinaaW.PrintLast

theorem CodesDecode : frisketlaw04_CodesDecode.Pure := decode_law

end Go.Proofs.Ytgejmmkfaliinaa.Pure
