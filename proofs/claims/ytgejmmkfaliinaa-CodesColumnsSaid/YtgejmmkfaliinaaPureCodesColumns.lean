/- Layer 4, CodesColumns: the plain law. -/
import Derived.Test.YtgejmmkfaliinaaCodesC
namespace Go.Proofs.Ytgejmmkfaliinaa.Pure
open Go.RowKit Go.Proofs.Ytgejmmkfaliinaa.PCodes Go.Proofs.YtgejmmkfaliinaaW.PrintWords Go.Proofs.YtgejmmkfaliinaaW.PrintLast

theorem CodesColumns : frisketlaw04_CodesColumns.Pure := columns_law

end Go.Proofs.Ytgejmmkfaliinaa.Pure
