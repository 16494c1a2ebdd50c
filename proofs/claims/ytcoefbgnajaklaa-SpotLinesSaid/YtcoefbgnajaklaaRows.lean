/-
  No cell of these rows narrows 'for every input' (looked for: loops, veiled, ifaces, maps, wideKeys, modest, calm, conditions, laid).
  DERIVED. THE GIVEN ROWS OF THIS SEAT. 11 by the template 'for every input the law returns true; each argument reads behind the call as it read before'; 0 by the template 'total and deterministic' (their statements: YtcoefbgnajaklaaTotals.lean).
  GIVEN WITH THE SEED: the statements are not yours to turn. If you find one false, say at which input.
  Laid BY PROGRAM, IN A SANDBOX (cutbox-rows.mjs): the forced cells as the released guide's own fill.sh prints them over the translation c17dfe6a71f43df0… (all of the seat's roots in one cut). By AI agents, Wed Nov 11 2026. No macro, syntax, notation, axiom, sorry.
-/
import Derived.Test.YtcoefbgnajaklaaChecked
import GoSem.Claim
import GoSem.ClaimJoined
import GoSem.ClaimMapViews
import Derived.JoinedTies
import Derived.KernelRfl
namespace Go.Proofs.Ytcoefbgnajaklaa
/- THE CELL 'sum', in the pinned program and in every row, IS THE sha256 OF THE DUMP (.gsa) THAT YtcoefbgnajaklaaProg.lean LOADS. Nothing in Lean hashes anything: it is a label: what it is worth is what the hold of that sum in a sandbox is worth. -/
noncomputable def Try.pinned : Pinned := { name := "ytcoefbgnajaklaa", sum := "c17dfe6a71f43df07ceda2586c0750fc82a2578d32ef875e1ec4ca90fdff0149", checked := Try.checked }
namespace Rows
def none {H : Type} : Left H := { results := [], args := [] }

/-- 'gossamerlaw3.SpotTells': WHATEVER THE INPUT: true; the input reads as it did. -/
def spotTellsSpec : ChangeSpec := { name := "spotTells", fn := fun _ => fun
  | [d1, d2] => { results := [.lit (.bool true)], args := [d1, d2] }
  | _ => none }
def spotTellsRow : OpenClaim := { program := "ytcoefbgnajaklaa", sum := "c17dfe6a71f43df07ceda2586c0750fc82a2578d32ef875e1ec4ca90fdff0149", func := "gossamer/gossamerlaw3.SpotTells", spec := "spotTells", apart := false }
def SpotTellsSaid : Prop := spotTellsRow.holds Try.pinned (OpenSpec.ofChange spotTellsSpec)

/-- ITS FALSE NEIGHBOUR: 'it returns false'. Refute it at one input. -/
def spotTellsWrong : ChangeSpec := { name := "spotTells", fn := fun _ => fun
  | [d1, d2] => { results := [.lit (.bool false)], args := [d1, d2] }
  | _ => none }
def SpotTellsWrongFalsely : Prop := spotTellsRow.holds Try.pinned (OpenSpec.ofChange spotTellsWrong)

/-- 'gossamerlaw3.SpotSums': WHATEVER THE INPUT: true; the input reads as it did. -/
def spotSumsSpec : ChangeSpec := { name := "spotSums", fn := fun _ => fun
  | [d] => { results := [.lit (.bool true)], args := [d] }
  | _ => none }
def spotSumsRow : OpenClaim := { program := "ytcoefbgnajaklaa", sum := "c17dfe6a71f43df07ceda2586c0750fc82a2578d32ef875e1ec4ca90fdff0149", func := "gossamer/gossamerlaw3.SpotSums", spec := "spotSums", apart := false }
def SpotSumsSaid : Prop := spotSumsRow.holds Try.pinned (OpenSpec.ofChange spotSumsSpec)

/-- ITS FALSE NEIGHBOUR: 'it returns false'. Refute it at one input. -/
def spotSumsWrong : ChangeSpec := { name := "spotSums", fn := fun _ => fun
  | [d] => { results := [.lit (.bool false)], args := [d] }
  | _ => none }
def SpotSumsWrongFalsely : Prop := spotSumsRow.holds Try.pinned (OpenSpec.ofChange spotSumsWrong)

/-- 'gossamerlaw3.SpotGoes': WHATEVER THE INPUT: true; the input reads as it did. -/
def spotGoesSpec : ChangeSpec := { name := "spotGoes", fn := fun _ => fun
  | [d1, d2, d3, d4] => { results := [.lit (.bool true)], args := [d1, d2, d3, d4] }
  | _ => none }
def spotGoesRow : OpenClaim := { program := "ytcoefbgnajaklaa", sum := "c17dfe6a71f43df07ceda2586c0750fc82a2578d32ef875e1ec4ca90fdff0149", func := "gossamer/gossamerlaw3.SpotGoes", spec := "spotGoes", apart := false }
def SpotGoesSaid : Prop := spotGoesRow.holds Try.pinned (OpenSpec.ofChange spotGoesSpec)

/-- ITS FALSE NEIGHBOUR: 'it returns false'. Refute it at one input. -/
def spotGoesWrong : ChangeSpec := { name := "spotGoes", fn := fun _ => fun
  | [d1, d2, d3, d4] => { results := [.lit (.bool false)], args := [d1, d2, d3, d4] }
  | _ => none }
def SpotGoesWrongFalsely : Prop := spotGoesRow.holds Try.pinned (OpenSpec.ofChange spotGoesWrong)

/-- 'gossamerlaw3.SpotLines': WHATEVER THE INPUT: true; the input reads as it did. -/
def spotLinesSpec : ChangeSpec := { name := "spotLines", fn := fun _ => fun
  | [d1, d2, d3] => { results := [.lit (.bool true)], args := [d1, d2, d3] }
  | _ => none }
def spotLinesRow : OpenClaim := { program := "ytcoefbgnajaklaa", sum := "c17dfe6a71f43df07ceda2586c0750fc82a2578d32ef875e1ec4ca90fdff0149", func := "gossamer/gossamerlaw3.SpotLines", spec := "spotLines", apart := false }
def SpotLinesSaid : Prop := spotLinesRow.holds Try.pinned (OpenSpec.ofChange spotLinesSpec)

/-- ITS FALSE NEIGHBOUR: 'it returns false'. Refute it at one input. -/
def spotLinesWrong : ChangeSpec := { name := "spotLines", fn := fun _ => fun
  | [d1, d2, d3] => { results := [.lit (.bool false)], args := [d1, d2, d3] }
  | _ => none }
def SpotLinesWrongFalsely : Prop := spotLinesRow.holds Try.pinned (OpenSpec.ofChange spotLinesWrong)

/-- 'gossamerlaw3.SpotWidths': WHATEVER THE INPUT: true; the input reads as it did. -/
def spotWidthsSpec : ChangeSpec := { name := "spotWidths", fn := fun _ => fun
  | [d1, d2] => { results := [.lit (.bool true)], args := [d1, d2] }
  | _ => none }
def spotWidthsRow : OpenClaim := { program := "ytcoefbgnajaklaa", sum := "c17dfe6a71f43df07ceda2586c0750fc82a2578d32ef875e1ec4ca90fdff0149", func := "gossamer/gossamerlaw3.SpotWidths", spec := "spotWidths", apart := false }
def SpotWidthsSaid : Prop := spotWidthsRow.holds Try.pinned (OpenSpec.ofChange spotWidthsSpec)

/-- ITS FALSE NEIGHBOUR: 'it returns false'. Refute it at one input. -/
def spotWidthsWrong : ChangeSpec := { name := "spotWidths", fn := fun _ => fun
  | [d1, d2] => { results := [.lit (.bool false)], args := [d1, d2] }
  | _ => none }
def SpotWidthsWrongFalsely : Prop := spotWidthsRow.holds Try.pinned (OpenSpec.ofChange spotWidthsWrong)

/-- 'gossamerlaw1.UtfTells': WHATEVER THE INPUT: true; the input reads as it did. -/
def utfTellsSpec : ChangeSpec := { name := "utfTells", fn := fun _ => fun
  | [d] => { results := [.lit (.bool true)], args := [d] }
  | _ => none }
def utfTellsRow : OpenClaim := { program := "ytcoefbgnajaklaa", sum := "c17dfe6a71f43df07ceda2586c0750fc82a2578d32ef875e1ec4ca90fdff0149", func := "gossamer/gossamerlaw1.UtfTells", spec := "utfTells", apart := false }
def UtfTellsSaid : Prop := utfTellsRow.holds Try.pinned (OpenSpec.ofChange utfTellsSpec)

/-- ITS FALSE NEIGHBOUR: 'it returns false'. Refute it at one input. -/
def utfTellsWrong : ChangeSpec := { name := "utfTells", fn := fun _ => fun
  | [d] => { results := [.lit (.bool false)], args := [d] }
  | _ => none }
def UtfTellsWrongFalsely : Prop := utfTellsRow.holds Try.pinned (OpenSpec.ofChange utfTellsWrong)

/-- 'gossamerlaw1.UtfBack': WHATEVER THE INPUT: true; the input reads as it did. -/
def utfBackSpec : ChangeSpec := { name := "utfBack", fn := fun _ => fun
  | [d] => { results := [.lit (.bool true)], args := [d] }
  | _ => none }
def utfBackRow : OpenClaim := { program := "ytcoefbgnajaklaa", sum := "c17dfe6a71f43df07ceda2586c0750fc82a2578d32ef875e1ec4ca90fdff0149", func := "gossamer/gossamerlaw1.UtfBack", spec := "utfBack", apart := false }
def UtfBackSaid : Prop := utfBackRow.holds Try.pinned (OpenSpec.ofChange utfBackSpec)

/-- ITS FALSE NEIGHBOUR: 'it returns false'. Refute it at one input. -/
def utfBackWrong : ChangeSpec := { name := "utfBack", fn := fun _ => fun
  | [d] => { results := [.lit (.bool false)], args := [d] }
  | _ => none }
def UtfBackWrongFalsely : Prop := utfBackRow.holds Try.pinned (OpenSpec.ofChange utfBackWrong)

/-- 'gossamerlaw1.UtfWhole': WHATEVER THE INPUT: true; the input reads as it did. -/
def utfWholeSpec : ChangeSpec := { name := "utfWhole", fn := fun _ => fun
  | [d] => { results := [.lit (.bool true)], args := [d] }
  | _ => none }
def utfWholeRow : OpenClaim := { program := "ytcoefbgnajaklaa", sum := "c17dfe6a71f43df07ceda2586c0750fc82a2578d32ef875e1ec4ca90fdff0149", func := "gossamer/gossamerlaw1.UtfWhole", spec := "utfWhole", apart := false }
def UtfWholeSaid : Prop := utfWholeRow.holds Try.pinned (OpenSpec.ofChange utfWholeSpec)

/-- ITS FALSE NEIGHBOUR: 'it returns false'. Refute it at one input. -/
def utfWholeWrong : ChangeSpec := { name := "utfWhole", fn := fun _ => fun
  | [d] => { results := [.lit (.bool false)], args := [d] }
  | _ => none }
def UtfWholeWrongFalsely : Prop := utfWholeRow.holds Try.pinned (OpenSpec.ofChange utfWholeWrong)

/-- 'gossamerlaw1.UtfCut': WHATEVER THE INPUT: true; the input reads as it did. -/
def utfCutSpec : ChangeSpec := { name := "utfCut", fn := fun _ => fun
  | [d1, d2, d3] => { results := [.lit (.bool true)], args := [d1, d2, d3] }
  | _ => none }
def utfCutRow : OpenClaim := { program := "ytcoefbgnajaklaa", sum := "c17dfe6a71f43df07ceda2586c0750fc82a2578d32ef875e1ec4ca90fdff0149", func := "gossamer/gossamerlaw1.UtfCut", spec := "utfCut", apart := false }
def UtfCutSaid : Prop := utfCutRow.holds Try.pinned (OpenSpec.ofChange utfCutSpec)

/-- ITS FALSE NEIGHBOUR: 'it returns false'. Refute it at one input. -/
def utfCutWrong : ChangeSpec := { name := "utfCut", fn := fun _ => fun
  | [d1, d2, d3] => { results := [.lit (.bool false)], args := [d1, d2, d3] }
  | _ => none }
def UtfCutWrongFalsely : Prop := utfCutRow.holds Try.pinned (OpenSpec.ofChange utfCutWrong)

/-- 'gossamerlaw1.UtfParts': WHATEVER THE INPUT: true; the input reads as it did. -/
def utfPartsSpec : ChangeSpec := { name := "utfParts", fn := fun _ => fun
  | [d1, d2] => { results := [.lit (.bool true)], args := [d1, d2] }
  | _ => none }
def utfPartsRow : OpenClaim := { program := "ytcoefbgnajaklaa", sum := "c17dfe6a71f43df07ceda2586c0750fc82a2578d32ef875e1ec4ca90fdff0149", func := "gossamer/gossamerlaw1.UtfParts", spec := "utfParts", apart := false }
def UtfPartsSaid : Prop := utfPartsRow.holds Try.pinned (OpenSpec.ofChange utfPartsSpec)

/-- ITS FALSE NEIGHBOUR: 'it returns false'. Refute it at one input. -/
def utfPartsWrong : ChangeSpec := { name := "utfParts", fn := fun _ => fun
  | [d1, d2] => { results := [.lit (.bool false)], args := [d1, d2] }
  | _ => none }
def UtfPartsWrongFalsely : Prop := utfPartsRow.holds Try.pinned (OpenSpec.ofChange utfPartsWrong)

/-- 'gossamerlaw1.UtfWalks': WHATEVER THE INPUT: true; the input reads as it did. -/
def utfWalksSpec : ChangeSpec := { name := "utfWalks", fn := fun _ => fun
  | [d] => { results := [.lit (.bool true)], args := [d] }
  | _ => none }
def utfWalksRow : OpenClaim := { program := "ytcoefbgnajaklaa", sum := "c17dfe6a71f43df07ceda2586c0750fc82a2578d32ef875e1ec4ca90fdff0149", func := "gossamer/gossamerlaw1.UtfWalks", spec := "utfWalks", apart := false }
def UtfWalksSaid : Prop := utfWalksRow.holds Try.pinned (OpenSpec.ofChange utfWalksSpec)

/-- ITS FALSE NEIGHBOUR: 'it returns false'. Refute it at one input. -/
def utfWalksWrong : ChangeSpec := { name := "utfWalks", fn := fun _ => fun
  | [d] => { results := [.lit (.bool false)], args := [d] }
  | _ => none }
def UtfWalksWrongFalsely : Prop := utfWalksRow.holds Try.pinned (OpenSpec.ofChange utfWalksWrong)

/- THE SECOND FORM. 'bulk': how many values and letters a reading holds, each counted each time it is reached (what is shared counts as often as it is met; a slice's spare places count too). A statement '..UptoSaid' is the law's where the arguments, and the package variables that the reading takes, are together of bulk at most 1048576: NARROWER than '..Said'. Prove '..Said' where nothing that the law and all that it calls make is longer than what came in: it says more and counts as full. Else prove '..UptoSaid'. A law counts once. -/
mutual
def uptoBulk {H : Type} : DataW H → Nat
  | .lit (.string bytes) => bytes.length + 1
  | .lit _ => 1
  | .nil => 1
  | .ptr d => uptoBulk d + 1
  | .slice elems spare => uptoBulkAll elems + uptoBulkAll spare + 1
  | .agg parts => uptoBulkAll parts + 1
  | .iface _ d => uptoBulk d + 1
  | .map entries => uptoBulkEntries entries + 1
  | .held _ => 1
def uptoBulkAll {H : Type} : List (DataW H) → Nat
  | [] => 0
  | d :: r => uptoBulk d + uptoBulkAll r
def uptoBulkEntries {H : Type} : List (Lit × DataW H) → Nat
  | [] => 0
  | x :: r => uptoBulkEntry x + uptoBulkEntries r
def uptoBulkEntry {H : Type} : Lit × DataW H → Nat
  | (.string bytes, d) => bytes.length + uptoBulk d + 1
  | (_, d) => uptoBulk d + 1
 end
def uptoSmall : (H : Type) → List (DataW H) → Bool := fun _ ds => decide (uptoBulkAll ds ≤ 1048576)
def OpenSpec.upto (s : _root_.Go.ChangeSpec) : _root_.Go.OpenSpec := { _root_.Go.OpenSpec.ofChange s with cond := some uptoSmall }

/-- 'gossamerlaw3.SpotTells', WHERE WHAT IT READS IS OF BULK AT MOST 1048576: true; the input reads as it did. -/
def spotTellsUptoRow : OpenClaim := { program := "ytcoefbgnajaklaa", sum := "c17dfe6a71f43df07ceda2586c0750fc82a2578d32ef875e1ec4ca90fdff0149", func := "gossamer/gossamerlaw3.SpotTells", spec := "spotTells", apart := false, narrowed := true }
def SpotTellsUptoSaid : Prop := spotTellsUptoRow.holds Try.pinned (OpenSpec.upto spotTellsSpec)

/-- 'gossamerlaw3.SpotSums', WHERE WHAT IT READS IS OF BULK AT MOST 1048576: true; the input reads as it did. -/
def spotSumsUptoRow : OpenClaim := { program := "ytcoefbgnajaklaa", sum := "c17dfe6a71f43df07ceda2586c0750fc82a2578d32ef875e1ec4ca90fdff0149", func := "gossamer/gossamerlaw3.SpotSums", spec := "spotSums", apart := false, narrowed := true }
def SpotSumsUptoSaid : Prop := spotSumsUptoRow.holds Try.pinned (OpenSpec.upto spotSumsSpec)

/-- 'gossamerlaw3.SpotGoes', WHERE WHAT IT READS IS OF BULK AT MOST 1048576: true; the input reads as it did. -/
def spotGoesUptoRow : OpenClaim := { program := "ytcoefbgnajaklaa", sum := "c17dfe6a71f43df07ceda2586c0750fc82a2578d32ef875e1ec4ca90fdff0149", func := "gossamer/gossamerlaw3.SpotGoes", spec := "spotGoes", apart := false, narrowed := true }
def SpotGoesUptoSaid : Prop := spotGoesUptoRow.holds Try.pinned (OpenSpec.upto spotGoesSpec)

/-- 'gossamerlaw3.SpotLines', WHERE WHAT IT READS IS OF BULK AT MOST 1048576: true; the input reads as it did. -/
def spotLinesUptoRow : OpenClaim := { program := "ytcoefbgnajaklaa", sum := "c17dfe6a71f43df07ceda2586c0750fc82a2578d32ef875e1ec4ca90fdff0149", func := "gossamer/gossamerlaw3.SpotLines", spec := "spotLines", apart := false, narrowed := true }
def SpotLinesUptoSaid : Prop := spotLinesUptoRow.holds Try.pinned (OpenSpec.upto spotLinesSpec)

/-- 'gossamerlaw3.SpotWidths', WHERE WHAT IT READS IS OF BULK AT MOST 1048576: true; the input reads as it did. -/
def spotWidthsUptoRow : OpenClaim := { program := "ytcoefbgnajaklaa", sum := "c17dfe6a71f43df07ceda2586c0750fc82a2578d32ef875e1ec4ca90fdff0149", func := "gossamer/gossamerlaw3.SpotWidths", spec := "spotWidths", apart := false, narrowed := true }
def SpotWidthsUptoSaid : Prop := spotWidthsUptoRow.holds Try.pinned (OpenSpec.upto spotWidthsSpec)

/-- 'gossamerlaw1.UtfTells', WHERE WHAT IT READS IS OF BULK AT MOST 1048576: true; the input reads as it did. -/
def utfTellsUptoRow : OpenClaim := { program := "ytcoefbgnajaklaa", sum := "c17dfe6a71f43df07ceda2586c0750fc82a2578d32ef875e1ec4ca90fdff0149", func := "gossamer/gossamerlaw1.UtfTells", spec := "utfTells", apart := false, narrowed := true }
def UtfTellsUptoSaid : Prop := utfTellsUptoRow.holds Try.pinned (OpenSpec.upto utfTellsSpec)

/-- 'gossamerlaw1.UtfBack', WHERE WHAT IT READS IS OF BULK AT MOST 1048576: true; the input reads as it did. -/
def utfBackUptoRow : OpenClaim := { program := "ytcoefbgnajaklaa", sum := "c17dfe6a71f43df07ceda2586c0750fc82a2578d32ef875e1ec4ca90fdff0149", func := "gossamer/gossamerlaw1.UtfBack", spec := "utfBack", apart := false, narrowed := true }
def UtfBackUptoSaid : Prop := utfBackUptoRow.holds Try.pinned (OpenSpec.upto utfBackSpec)

/-- 'gossamerlaw1.UtfWhole', WHERE WHAT IT READS IS OF BULK AT MOST 1048576: true; the input reads as it did. -/
def utfWholeUptoRow : OpenClaim := { program := "ytcoefbgnajaklaa", sum := "c17dfe6a71f43df07ceda2586c0750fc82a2578d32ef875e1ec4ca90fdff0149", func := "gossamer/gossamerlaw1.UtfWhole", spec := "utfWhole", apart := false, narrowed := true }
def UtfWholeUptoSaid : Prop := utfWholeUptoRow.holds Try.pinned (OpenSpec.upto utfWholeSpec)

/-- 'gossamerlaw1.UtfCut', WHERE WHAT IT READS IS OF BULK AT MOST 1048576: true; the input reads as it did. -/
def utfCutUptoRow : OpenClaim := { program := "ytcoefbgnajaklaa", sum := "c17dfe6a71f43df07ceda2586c0750fc82a2578d32ef875e1ec4ca90fdff0149", func := "gossamer/gossamerlaw1.UtfCut", spec := "utfCut", apart := false, narrowed := true }
def UtfCutUptoSaid : Prop := utfCutUptoRow.holds Try.pinned (OpenSpec.upto utfCutSpec)

/-- 'gossamerlaw1.UtfParts', WHERE WHAT IT READS IS OF BULK AT MOST 1048576: true; the input reads as it did. -/
def utfPartsUptoRow : OpenClaim := { program := "ytcoefbgnajaklaa", sum := "c17dfe6a71f43df07ceda2586c0750fc82a2578d32ef875e1ec4ca90fdff0149", func := "gossamer/gossamerlaw1.UtfParts", spec := "utfParts", apart := false, narrowed := true }
def UtfPartsUptoSaid : Prop := utfPartsUptoRow.holds Try.pinned (OpenSpec.upto utfPartsSpec)

/-- 'gossamerlaw1.UtfWalks', WHERE WHAT IT READS IS OF BULK AT MOST 1048576: true; the input reads as it did. -/
def utfWalksUptoRow : OpenClaim := { program := "ytcoefbgnajaklaa", sum := "c17dfe6a71f43df07ceda2586c0750fc82a2578d32ef875e1ec4ca90fdff0149", func := "gossamer/gossamerlaw1.UtfWalks", spec := "utfWalks", apart := false, narrowed := true }
def UtfWalksUptoSaid : Prop := utfWalksUptoRow.holds Try.pinned (OpenSpec.upto utfWalksSpec)

end Rows
end Go.Proofs.Ytcoefbgnajaklaa
