/- The law OrderTells in plain numbers and lists: it holds for every input that the statement lets in. No condition beyond the statement's own. -/
import Derived.Test.YtgabddjdgcembaaOrdTells
namespace Go.Proofs.Ytgabddjdgcembaa.Pure
open Go.RowKit Go.Proofs.Ytgabddjdgcembaa.POrd
theorem OrderTells : gossamerlaw2_OrderTells.Pure := Go.Proofs.Ytgabddjdgcembaa.LinkOrd.OrderTells
end Go.Proofs.Ytgabddjdgcembaa.Pure
