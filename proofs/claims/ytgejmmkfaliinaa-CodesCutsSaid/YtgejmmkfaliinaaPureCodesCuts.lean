/- Layer 4, CodesCuts: the plain law. -/
import Derived.Test.YtgejmmkfaliinaaCodesD
namespace Go.Proofs.Ytgejmmkfaliinaa.Pure
open Go.RowKit Go.Proofs.Ytgejmmkfaliinaa.PCodes Go.Proofs.YtgejmmkfaliinaaW.PrintWords Go.Proofs.YtgejmmkfaliinaaW.PrintLast

theorem CodesCuts : frisketlaw04_CodesCuts.Pure := cuts_law

end Go.Proofs.Ytgejmmkfaliinaa.Pure
