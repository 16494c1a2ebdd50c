/- The law OrderSigns in plain numbers and lists: it holds for every input that the statement lets in. No condition beyond the statement's own. -/
import Derived.Test.YtgabddjdgcembaaOrdSigns
namespace Go.Proofs.Ytgabddjdgcembaa.Pure
open Go.RowKit Go.Proofs.Ytgabddjdgcembaa.POrd
theorem OrderSigns : gossamerlaw2_OrderSigns.Pure := Go.Proofs.Ytgabddjdgcembaa.LinkOrd.OrderSigns
end Go.Proofs.Ytgabddjdgcembaa.Pure
