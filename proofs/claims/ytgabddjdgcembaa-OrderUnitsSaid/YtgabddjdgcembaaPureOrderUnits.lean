/- The law OrderUnits in plain numbers and lists: it holds for every input that the statement lets in. No condition beyond the statement's own. -/
import Derived.Test.YtgabddjdgcembaaOrdUnits
namespace Go.Proofs.Ytgabddjdgcembaa.Pure
open Go.RowKit Go.Proofs.Ytgabddjdgcembaa.POrd
theorem OrderUnits : gossamerlaw2_OrderUnits.Pure := Go.Proofs.Ytgabddjdgcembaa.LinkOrd.OrderUnits
end Go.Proofs.Ytgabddjdgcembaa.Pure
