/- The law OrderLeads in plain numbers and lists: it holds for every input that the statement lets in. No condition beyond the statement's own. -/
import Derived.Test.YtgabddjdgcembaaOrdLeads
namespace Go.Proofs.Ytgabddjdgcembaa.Pure
open Go.RowKit Go.Proofs.Ytgabddjdgcembaa.POrd
theorem OrderLeads : gossamerlaw2_OrderLeads.Pure := Go.Proofs.Ytgabddjdgcembaa.LinkOrd.OrderLeads
end Go.Proofs.Ytgabddjdgcembaa.Pure
