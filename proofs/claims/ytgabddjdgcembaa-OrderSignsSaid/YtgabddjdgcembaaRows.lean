/-
  No cell of these rows narrows 'for every input' (looked for: loops, veiled, ifaces, maps, wideKeys, modest, calm, conditions, laid).
  DERIVED. THE GIVEN ROWS OF THIS SEAT. 7 by the template 'for every input the law returns true; each argument reads behind the call as it read before'; 0 by the template 'total and deterministic' (their statements: YtgabddjdgcembaaTotals.lean).
  GIVEN WITH THE SEED: the statements are not yours to turn. If you find one false, say at which input.
  Laid BY PROGRAM, IN A SANDBOX (cutbox-rows.mjs): the forced cells as the released guide's own fill.sh prints them over the translation 66afdabfa7f40626… (all of the seat's roots in one cut). By AI agents, Wed Nov 11 2026. No macro, syntax, notation, axiom, sorry.
-/
import Derived.Test.YtgabddjdgcembaaChecked
import GoSem.Claim
import GoSem.ClaimJoined
import GoSem.ClaimMapViews
import Derived.JoinedTies
import Derived.KernelRfl
namespace Go.Proofs.Ytgabddjdgcembaa
/- THE CELL 'sum', in the pinned program and in every row, IS THE sha256 OF THE DUMP (.gsa) THAT YtgabddjdgcembaaProg.lean LOADS. Nothing in Lean hashes anything: it is a label: what it is worth is what the hold of that sum in a sandbox is worth. -/
noncomputable def Try.pinned : Pinned := { name := "ytgabddjdgcembaa", sum := "66afdabfa7f40626e00bfd2ee99afb98b4d3d4f6efbaadc1324cc9e8b797edd5", checked := Try.checked }
namespace Rows
def none {H : Type} : Left H := { results := [], args := [] }

/-- 'gossamerlaw2.OrderTells': WHATEVER THE INPUT: true; the input reads as it did. -/
def orderTellsSpec : ChangeSpec := { name := "orderTells", fn := fun _ => fun
  | [d1, d2] => { results := [.lit (.bool true)], args := [d1, d2] }
  | _ => none }
def orderTellsRow : OpenClaim := { program := "ytgabddjdgcembaa", sum := "66afdabfa7f40626e00bfd2ee99afb98b4d3d4f6efbaadc1324cc9e8b797edd5", func := "gossamer/gossamerlaw2.OrderTells", spec := "orderTells", unfollowed := true, recurses := true, apart := false }
def OrderTellsSaid : Prop := orderTellsRow.holds Try.pinned (OpenSpec.ofChange orderTellsSpec)

/-- ITS FALSE NEIGHBOUR: 'it returns false'. Refute it at one input. -/
def orderTellsWrong : ChangeSpec := { name := "orderTells", fn := fun _ => fun
  | [d1, d2] => { results := [.lit (.bool false)], args := [d1, d2] }
  | _ => none }
def OrderTellsWrongFalsely : Prop := orderTellsRow.holds Try.pinned (OpenSpec.ofChange orderTellsWrong)

/-- 'gossamerlaw2.OrderFalls': WHATEVER THE INPUT: true; the input reads as it did. -/
def orderFallsSpec : ChangeSpec := { name := "orderFalls", fn := fun _ => fun
  | [d] => { results := [.lit (.bool true)], args := [d] }
  | _ => none }
def orderFallsRow : OpenClaim := { program := "ytgabddjdgcembaa", sum := "66afdabfa7f40626e00bfd2ee99afb98b4d3d4f6efbaadc1324cc9e8b797edd5", func := "gossamer/gossamerlaw2.OrderFalls", spec := "orderFalls", unfollowed := true, recurses := true, apart := false }
def OrderFallsSaid : Prop := orderFallsRow.holds Try.pinned (OpenSpec.ofChange orderFallsSpec)

/-- ITS FALSE NEIGHBOUR: 'it returns false'. Refute it at one input. -/
def orderFallsWrong : ChangeSpec := { name := "orderFalls", fn := fun _ => fun
  | [d] => { results := [.lit (.bool false)], args := [d] }
  | _ => none }
def OrderFallsWrongFalsely : Prop := orderFallsRow.holds Try.pinned (OpenSpec.ofChange orderFallsWrong)

/-- 'gossamerlaw2.OrderSorts': WHATEVER THE INPUT: true; the input reads as it did. -/
def orderSortsSpec : ChangeSpec := { name := "orderSorts", fn := fun _ => fun
  | [d1, d2] => { results := [.lit (.bool true)], args := [d1, d2] }
  | _ => none }
def orderSortsRow : OpenClaim := { program := "ytgabddjdgcembaa", sum := "66afdabfa7f40626e00bfd2ee99afb98b4d3d4f6efbaadc1324cc9e8b797edd5", func := "gossamer/gossamerlaw2.OrderSorts", spec := "orderSorts", unfollowed := true, recurses := true, apart := false }
def OrderSortsSaid : Prop := orderSortsRow.holds Try.pinned (OpenSpec.ofChange orderSortsSpec)

/-- ITS FALSE NEIGHBOUR: 'it returns false'. Refute it at one input. -/
def orderSortsWrong : ChangeSpec := { name := "orderSorts", fn := fun _ => fun
  | [d1, d2] => { results := [.lit (.bool false)], args := [d1, d2] }
  | _ => none }
def OrderSortsWrongFalsely : Prop := orderSortsRow.holds Try.pinned (OpenSpec.ofChange orderSortsWrong)

/-- 'gossamerlaw2.OrderSigns': WHATEVER THE INPUT: true; the input reads as it did. -/
def orderSignsSpec : ChangeSpec := { name := "orderSigns", fn := fun _ => fun
  | [d1, d2, d3] => { results := [.lit (.bool true)], args := [d1, d2, d3] }
  | _ => none }
def orderSignsRow : OpenClaim := { program := "ytgabddjdgcembaa", sum := "66afdabfa7f40626e00bfd2ee99afb98b4d3d4f6efbaadc1324cc9e8b797edd5", func := "gossamer/gossamerlaw2.OrderSigns", spec := "orderSigns", unfollowed := true, recurses := true, apart := false }
def OrderSignsSaid : Prop := orderSignsRow.holds Try.pinned (OpenSpec.ofChange orderSignsSpec)

/-- ITS FALSE NEIGHBOUR: 'it returns false'. Refute it at one input. -/
def orderSignsWrong : ChangeSpec := { name := "orderSigns", fn := fun _ => fun
  | [d1, d2, d3] => { results := [.lit (.bool false)], args := [d1, d2, d3] }
  | _ => none }
def OrderSignsWrongFalsely : Prop := orderSignsRow.holds Try.pinned (OpenSpec.ofChange orderSignsWrong)

/-- 'gossamerlaw2.OrderApart': WHATEVER THE INPUT: true; the input reads as it did. -/
def orderApartSpec : ChangeSpec := { name := "orderApart", fn := fun _ => fun
  | [d1, d2, d3, d4, d5] => { results := [.lit (.bool true)], args := [d1, d2, d3, d4, d5] }
  | _ => none }
def orderApartRow : OpenClaim := { program := "ytgabddjdgcembaa", sum := "66afdabfa7f40626e00bfd2ee99afb98b4d3d4f6efbaadc1324cc9e8b797edd5", func := "gossamer/gossamerlaw2.OrderApart", spec := "orderApart", unfollowed := true, recurses := true, apart := false }
def OrderApartSaid : Prop := orderApartRow.holds Try.pinned (OpenSpec.ofChange orderApartSpec)

/-- ITS FALSE NEIGHBOUR: 'it returns false'. Refute it at one input. -/
def orderApartWrong : ChangeSpec := { name := "orderApart", fn := fun _ => fun
  | [d1, d2, d3, d4, d5] => { results := [.lit (.bool false)], args := [d1, d2, d3, d4, d5] }
  | _ => none }
def OrderApartWrongFalsely : Prop := orderApartRow.holds Try.pinned (OpenSpec.ofChange orderApartWrong)

/-- 'gossamerlaw2.OrderLeads': WHATEVER THE INPUT: true; the input reads as it did. -/
def orderLeadsSpec : ChangeSpec := { name := "orderLeads", fn := fun _ => fun
  | [d1, d2] => { results := [.lit (.bool true)], args := [d1, d2] }
  | _ => none }
def orderLeadsRow : OpenClaim := { program := "ytgabddjdgcembaa", sum := "66afdabfa7f40626e00bfd2ee99afb98b4d3d4f6efbaadc1324cc9e8b797edd5", func := "gossamer/gossamerlaw2.OrderLeads", spec := "orderLeads", unfollowed := true, recurses := true, apart := false }
def OrderLeadsSaid : Prop := orderLeadsRow.holds Try.pinned (OpenSpec.ofChange orderLeadsSpec)

/-- ITS FALSE NEIGHBOUR: 'it returns false'. Refute it at one input. -/
def orderLeadsWrong : ChangeSpec := { name := "orderLeads", fn := fun _ => fun
  | [d1, d2] => { results := [.lit (.bool false)], args := [d1, d2] }
  | _ => none }
def OrderLeadsWrongFalsely : Prop := orderLeadsRow.holds Try.pinned (OpenSpec.ofChange orderLeadsWrong)

/-- 'gossamerlaw2.OrderUnits': WHATEVER THE INPUT: true; the input reads as it did. -/
def orderUnitsSpec : ChangeSpec := { name := "orderUnits", fn := fun _ => fun
  | [d1, d2] => { results := [.lit (.bool true)], args := [d1, d2] }
  | _ => none }
def orderUnitsRow : OpenClaim := { program := "ytgabddjdgcembaa", sum := "66afdabfa7f40626e00bfd2ee99afb98b4d3d4f6efbaadc1324cc9e8b797edd5", func := "gossamer/gossamerlaw2.OrderUnits", spec := "orderUnits", unfollowed := true, recurses := true, apart := false }
def OrderUnitsSaid : Prop := orderUnitsRow.holds Try.pinned (OpenSpec.ofChange orderUnitsSpec)

/-- ITS FALSE NEIGHBOUR: 'it returns false'. Refute it at one input. -/
def orderUnitsWrong : ChangeSpec := { name := "orderUnits", fn := fun _ => fun
  | [d1, d2] => { results := [.lit (.bool false)], args := [d1, d2] }
  | _ => none }
def OrderUnitsWrongFalsely : Prop := orderUnitsRow.holds Try.pinned (OpenSpec.ofChange orderUnitsWrong)

/- THE SECOND FORM. 'bulk': how many values and letters a reading holds, each counted each time it is reached (what is shared counts as often as it is met; a slice's spare places count too). A statement '..UptoSaid' is the law's where the arguments, and the package variables that the reading takes, are together of bulk at most 1048576: NARROWER than '..Said'. Prove '..Said' where nothing that the law and all that it calls make is longer than what came in: it says more and counts as full. Else prove '..UptoSaid'. A law counts once. -/
mutual
def uptoBulk {H : Type} : DataW H → Nat
  | .lit (.string bytes) => bytes.length + 1
  | .lit _ => 1
  | .nil => 1
  | .ptr d => uptoBulk d + 1
  | .slice elems spare => uptoBulkAll elems + uptoBulkAll spare + 1
  | .agg parts => uptoBulkAll parts + 1
  | .iface _ d => uptoBulk d + 1
  | .map entries => uptoBulkEntries entries + 1
  | .held _ => 1
def uptoBulkAll {H : Type} : List (DataW H) → Nat
  | [] => 0
  | d :: r => uptoBulk d + uptoBulkAll r
def uptoBulkEntries {H : Type} : List (Lit × DataW H) → Nat
  | [] => 0
  | x :: r => uptoBulkEntry x + uptoBulkEntries r
def uptoBulkEntry {H : Type} : Lit × DataW H → Nat
  | (.string bytes, d) => bytes.length + uptoBulk d + 1
  | (_, d) => uptoBulk d + 1
 end
def uptoSmall : (H : Type) → List (DataW H) → Bool := fun _ ds => decide (uptoBulkAll ds ≤ 1048576)
def OpenSpec.upto (s : _root_.Go.ChangeSpec) : _root_.Go.OpenSpec := { _root_.Go.OpenSpec.ofChange s with cond := some uptoSmall }

/-- 'gossamerlaw2.OrderTells', WHERE WHAT IT READS IS OF BULK AT MOST 1048576: true; the input reads as it did. -/
def orderTellsUptoRow : OpenClaim := { program := "ytgabddjdgcembaa", sum := "66afdabfa7f40626e00bfd2ee99afb98b4d3d4f6efbaadc1324cc9e8b797edd5", func := "gossamer/gossamerlaw2.OrderTells", spec := "orderTells", unfollowed := true, recurses := true, apart := false, narrowed := true }
def OrderTellsUptoSaid : Prop := orderTellsUptoRow.holds Try.pinned (OpenSpec.upto orderTellsSpec)

/-- 'gossamerlaw2.OrderFalls', WHERE WHAT IT READS IS OF BULK AT MOST 1048576: true; the input reads as it did. -/
def orderFallsUptoRow : OpenClaim := { program := "ytgabddjdgcembaa", sum := "66afdabfa7f40626e00bfd2ee99afb98b4d3d4f6efbaadc1324cc9e8b797edd5", func := "gossamer/gossamerlaw2.OrderFalls", spec := "orderFalls", unfollowed := true, recurses := true, apart := false, narrowed := true }
def OrderFallsUptoSaid : Prop := orderFallsUptoRow.holds Try.pinned (OpenSpec.upto orderFallsSpec)

/-- 'gossamerlaw2.OrderSorts', WHERE WHAT IT READS IS OF BULK AT MOST 1048576: true; the input reads as it did. -/
def orderSortsUptoRow : OpenClaim := { program := "ytgabddjdgcembaa", sum := "66afdabfa7f40626e00bfd2ee99afb98b4d3d4f6efbaadc1324cc9e8b797edd5", func := "gossamer/gossamerlaw2.OrderSorts", spec := "orderSorts", unfollowed := true, recurses := true, apart := false, narrowed := true }
def OrderSortsUptoSaid : Prop := orderSortsUptoRow.holds Try.pinned (OpenSpec.upto orderSortsSpec)

/-- 'gossamerlaw2.OrderSigns', WHERE WHAT IT READS IS OF BULK AT MOST 1048576: true; the input reads as it did. -/
def orderSignsUptoRow : OpenClaim := { program := "ytgabddjdgcembaa", sum := "66afdabfa7f40626e00bfd2ee99afb98b4d3d4f6efbaadc1324cc9e8b797edd5", func := "gossamer/gossamerlaw2.OrderSigns", spec := "orderSigns", unfollowed := true, recurses := true, apart := false, narrowed := true }
def OrderSignsUptoSaid : Prop := orderSignsUptoRow.holds Try.pinned (OpenSpec.upto orderSignsSpec)

/-- 'gossamerlaw2.OrderApart', WHERE WHAT IT READS IS OF BULK AT MOST 1048576: true; the input reads as it did. -/
def orderApartUptoRow : OpenClaim := { program := "ytgabddjdgcembaa", sum := "66afdabfa7f40626e00bfd2ee99afb98b4d3d4f6efbaadc1324cc9e8b797edd5", func := "gossamer/gossamerlaw2.OrderApart", spec := "orderApart", unfollowed := true, recurses := true, apart := false, narrowed := true }
def OrderApartUptoSaid : Prop := orderApartUptoRow.holds Try.pinned (OpenSpec.upto orderApartSpec)

/-- 'gossamerlaw2.OrderLeads', WHERE WHAT IT READS IS OF BULK AT MOST 1048576: true; the input reads as it did. -/
def orderLeadsUptoRow : OpenClaim := { program := "ytgabddjdgcembaa", sum := "66afdabfa7f40626e00bfd2ee99afb98b4d3d4f6efbaadc1324cc9e8b797edd5", func := "gossamer/gossamerlaw2.OrderLeads", spec := "orderLeads", unfollowed := true, recurses := true, apart := false, narrowed := true }
def OrderLeadsUptoSaid : Prop := orderLeadsUptoRow.holds Try.pinned (OpenSpec.upto orderLeadsSpec)

/-- 'gossamerlaw2.OrderUnits', WHERE WHAT IT READS IS OF BULK AT MOST 1048576: true; the input reads as it did. -/
def orderUnitsUptoRow : OpenClaim := { program := "ytgabddjdgcembaa", sum := "66afdabfa7f40626e00bfd2ee99afb98b4d3d4f6efbaadc1324cc9e8b797edd5", func := "gossamer/gossamerlaw2.OrderUnits", spec := "orderUnits", unfollowed := true, recurses := true, apart := false, narrowed := true }
def OrderUnitsUptoSaid : Prop := orderUnitsUptoRow.holds Try.pinned (OpenSpec.upto orderUnitsSpec)

end Rows
end Go.Proofs.Ytgabddjdgcembaa
