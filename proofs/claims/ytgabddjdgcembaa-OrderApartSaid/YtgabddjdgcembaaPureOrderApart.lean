/- The law OrderApart in plain numbers and lists: it holds for every input that the statement lets in. No condition beyond the statement's own. -/
import Derived.Test.YtgabddjdgcembaaOrdApart
namespace Go.Proofs.Ytgabddjdgcembaa.Pure
open Go.RowKit Go.Proofs.Ytgabddjdgcembaa.POrd
theorem OrderApart : gossamerlaw2_OrderApart.Pure := Go.Proofs.Ytgabddjdgcembaa.LinkOrd.OrderApart
end Go.Proofs.Ytgabddjdgcembaa.Pure
