/-
  No cell of these rows narrows 'for every input' (looked for: loops, veiled, ifaces, maps, wideKeys, modest, calm, conditions, laid).
  DERIVED. THE GIVEN ROWS OF THIS SEAT. 7 by the template 'for every input the law returns true; each argument reads behind the call as it read before'; 0 by the template 'total and deterministic' (their statements: YtdbihmkeljakeaaTotals.lean).
  GIVEN WITH THE SEED: the statements are not yours to turn. If you find one false, say at which input.
  Laid BY PROGRAM, IN A SANDBOX (cutbox-rows.mjs): the forced cells as the released guide's own fill.sh prints them over the translation 99861fc6e444b9c9… (all of the seat's roots in one cut). By AI agents, Wed Nov 11 2026. No macro, syntax, notation, axiom, sorry.
-/
import Derived.Test.YtdbihmkeljakeaaChecked
import GoSem.Claim
import GoSem.ClaimJoined
import GoSem.ClaimMapViews
import Derived.JoinedTies
import Derived.KernelRfl
namespace Go.Proofs.Ytdbihmkeljakeaa
/- THE CELL 'sum', in the pinned program and in every row, IS THE sha256 OF THE DUMP (.gsa) THAT YtdbihmkeljakeaaProg.lean LOADS. Nothing in Lean hashes anything: it is a label: what it is worth is what the hold of that sum in a sandbox is worth. -/
noncomputable def Try.pinned : Pinned := { name := "ytdbihmkeljakeaa", sum := "99861fc6e444b9c9bb76fa077e7b8ecba15270cc33c3684d3511ab819c07c043", checked := Try.checked }
namespace Rows
def none {H : Type} : Left H := { results := [], args := [] }

/-- 'gossamerlaw4.PctIn': WHATEVER THE INPUT: true; the input reads as it did. -/
def pctInSpec : ChangeSpec := { name := "pctIn", fn := fun _ => fun
  | [d1, d2, d3] => { results := [.lit (.bool true)], args := [d1, d2, d3] }
  | _ => none }
def pctInRow : OpenClaim := { program := "ytdbihmkeljakeaa", sum := "99861fc6e444b9c9bb76fa077e7b8ecba15270cc33c3684d3511ab819c07c043", func := "gossamer/gossamerlaw4.PctIn", spec := "pctIn", inPlace := ["internal/bytealg.IndexByteString", "internal/abi.NoEscape"], apart := false }
def PctInSaid : Prop := pctInRow.holds Try.pinned (OpenSpec.ofChange pctInSpec)

/-- ITS FALSE NEIGHBOUR: 'it returns false'. Refute it at one input. -/
def pctInWrong : ChangeSpec := { name := "pctIn", fn := fun _ => fun
  | [d1, d2, d3] => { results := [.lit (.bool false)], args := [d1, d2, d3] }
  | _ => none }
def PctInWrongFalsely : Prop := pctInRow.holds Try.pinned (OpenSpec.ofChange pctInWrong)

/-- 'gossamerlaw4.PctTells': WHATEVER THE INPUT: true; the input reads as it did. -/
def pctTellsSpec : ChangeSpec := { name := "pctTells", fn := fun _ => fun
  | [d1, d2] => { results := [.lit (.bool true)], args := [d1, d2] }
  | _ => none }
def pctTellsRow : OpenClaim := { program := "ytdbihmkeljakeaa", sum := "99861fc6e444b9c9bb76fa077e7b8ecba15270cc33c3684d3511ab819c07c043", func := "gossamer/gossamerlaw4.PctTells", spec := "pctTells", inPlace := ["internal/bytealg.IndexByteString", "internal/abi.NoEscape"], apart := false }
def PctTellsSaid : Prop := pctTellsRow.holds Try.pinned (OpenSpec.ofChange pctTellsSpec)

/-- ITS FALSE NEIGHBOUR: 'it returns false'. Refute it at one input. -/
def pctTellsWrong : ChangeSpec := { name := "pctTells", fn := fun _ => fun
  | [d1, d2] => { results := [.lit (.bool false)], args := [d1, d2] }
  | _ => none }
def PctTellsWrongFalsely : Prop := pctTellsRow.holds Try.pinned (OpenSpec.ofChange pctTellsWrong)

/-- 'gossamerlaw4.PctBack': WHATEVER THE INPUT: true; the input reads as it did. -/
def pctBackSpec : ChangeSpec := { name := "pctBack", fn := fun _ => fun
  | [d] => { results := [.lit (.bool true)], args := [d] }
  | _ => none }
def pctBackRow : OpenClaim := { program := "ytdbihmkeljakeaa", sum := "99861fc6e444b9c9bb76fa077e7b8ecba15270cc33c3684d3511ab819c07c043", func := "gossamer/gossamerlaw4.PctBack", spec := "pctBack", inPlace := ["internal/bytealg.IndexByteString", "internal/abi.NoEscape"], apart := false }
def PctBackSaid : Prop := pctBackRow.holds Try.pinned (OpenSpec.ofChange pctBackSpec)

/-- ITS FALSE NEIGHBOUR: 'it returns false'. Refute it at one input. -/
def pctBackWrong : ChangeSpec := { name := "pctBack", fn := fun _ => fun
  | [d] => { results := [.lit (.bool false)], args := [d] }
  | _ => none }
def PctBackWrongFalsely : Prop := pctBackRow.holds Try.pinned (OpenSpec.ofChange pctBackWrong)

/-- 'gossamerlaw4.PctOnce': WHATEVER THE INPUT: true; the input reads as it did. -/
def pctOnceSpec : ChangeSpec := { name := "pctOnce", fn := fun _ => fun
  | [d1, d2] => { results := [.lit (.bool true)], args := [d1, d2] }
  | _ => none }
def pctOnceRow : OpenClaim := { program := "ytdbihmkeljakeaa", sum := "99861fc6e444b9c9bb76fa077e7b8ecba15270cc33c3684d3511ab819c07c043", func := "gossamer/gossamerlaw4.PctOnce", spec := "pctOnce", inPlace := ["internal/bytealg.IndexByteString", "internal/abi.NoEscape"], apart := false }
def PctOnceSaid : Prop := pctOnceRow.holds Try.pinned (OpenSpec.ofChange pctOnceSpec)

/-- ITS FALSE NEIGHBOUR: 'it returns false'. Refute it at one input. -/
def pctOnceWrong : ChangeSpec := { name := "pctOnce", fn := fun _ => fun
  | [d1, d2] => { results := [.lit (.bool false)], args := [d1, d2] }
  | _ => none }
def PctOnceWrongFalsely : Prop := pctOnceRow.holds Try.pinned (OpenSpec.ofChange pctOnceWrong)

/-- 'gossamerlaw4.PctBytes': WHATEVER THE INPUT: true; the input reads as it did. -/
def pctBytesSpec : ChangeSpec := { name := "pctBytes", fn := fun _ => fun
  | [d1, d2] => { results := [.lit (.bool true)], args := [d1, d2] }
  | _ => none }
def pctBytesRow : OpenClaim := { program := "ytdbihmkeljakeaa", sum := "99861fc6e444b9c9bb76fa077e7b8ecba15270cc33c3684d3511ab819c07c043", func := "gossamer/gossamerlaw4.PctBytes", spec := "pctBytes", inPlace := ["internal/bytealg.IndexByteString", "internal/abi.NoEscape"], apart := false }
def PctBytesSaid : Prop := pctBytesRow.holds Try.pinned (OpenSpec.ofChange pctBytesSpec)

/-- ITS FALSE NEIGHBOUR: 'it returns false'. Refute it at one input. -/
def pctBytesWrong : ChangeSpec := { name := "pctBytes", fn := fun _ => fun
  | [d1, d2] => { results := [.lit (.bool false)], args := [d1, d2] }
  | _ => none }
def PctBytesWrongFalsely : Prop := pctBytesRow.holds Try.pinned (OpenSpec.ofChange pctBytesWrong)

/-- 'gossamerlaw4.PctHalf': WHATEVER THE INPUT: true; the input reads as it did. -/
def pctHalfSpec : ChangeSpec := { name := "pctHalf", fn := fun _ => fun
  | [d1, d2, d3] => { results := [.lit (.bool true)], args := [d1, d2, d3] }
  | _ => none }
def pctHalfRow : OpenClaim := { program := "ytdbihmkeljakeaa", sum := "99861fc6e444b9c9bb76fa077e7b8ecba15270cc33c3684d3511ab819c07c043", func := "gossamer/gossamerlaw4.PctHalf", spec := "pctHalf", inPlace := ["internal/bytealg.IndexByteString", "internal/abi.NoEscape"], apart := false }
def PctHalfSaid : Prop := pctHalfRow.holds Try.pinned (OpenSpec.ofChange pctHalfSpec)

/-- ITS FALSE NEIGHBOUR: 'it returns false'. Refute it at one input. -/
def pctHalfWrong : ChangeSpec := { name := "pctHalf", fn := fun _ => fun
  | [d1, d2, d3] => { results := [.lit (.bool false)], args := [d1, d2, d3] }
  | _ => none }
def PctHalfWrongFalsely : Prop := pctHalfRow.holds Try.pinned (OpenSpec.ofChange pctHalfWrong)

/-- 'gossamerlaw4.PctJoins': WHATEVER THE INPUT: true; the input reads as it did. -/
def pctJoinsSpec : ChangeSpec := { name := "pctJoins", fn := fun _ => fun
  | [d1, d2, d3] => { results := [.lit (.bool true)], args := [d1, d2, d3] }
  | _ => none }
def pctJoinsRow : OpenClaim := { program := "ytdbihmkeljakeaa", sum := "99861fc6e444b9c9bb76fa077e7b8ecba15270cc33c3684d3511ab819c07c043", func := "gossamer/gossamerlaw4.PctJoins", spec := "pctJoins", inPlace := ["internal/bytealg.IndexByteString", "internal/abi.NoEscape"], apart := false }
def PctJoinsSaid : Prop := pctJoinsRow.holds Try.pinned (OpenSpec.ofChange pctJoinsSpec)

/-- ITS FALSE NEIGHBOUR: 'it returns false'. Refute it at one input. -/
def pctJoinsWrong : ChangeSpec := { name := "pctJoins", fn := fun _ => fun
  | [d1, d2, d3] => { results := [.lit (.bool false)], args := [d1, d2, d3] }
  | _ => none }
def PctJoinsWrongFalsely : Prop := pctJoinsRow.holds Try.pinned (OpenSpec.ofChange pctJoinsWrong)

/- THE SECOND FORM. 'bulk': how many values and letters a reading holds, each counted each time it is reached (what is shared counts as often as it is met; a slice's spare places count too). A statement '..UptoSaid' is the law's where the arguments, and the package variables that the reading takes, are together of bulk at most 1048576: NARROWER than '..Said'. Prove '..Said' where nothing that the law and all that it calls make is longer than what came in: it says more and counts as full. Else prove '..UptoSaid'. A law counts once. -/
mutual
def uptoBulk {H : Type} : DataW H → Nat
  | .lit (.string bytes) => bytes.length + 1
  | .lit _ => 1
  | .nil => 1
  | .ptr d => uptoBulk d + 1
  | .slice elems spare => uptoBulkAll elems + uptoBulkAll spare + 1
  | .agg parts => uptoBulkAll parts + 1
  | .iface _ d => uptoBulk d + 1
  | .map entries => uptoBulkEntries entries + 1
  | .held _ => 1
def uptoBulkAll {H : Type} : List (DataW H) → Nat
  | [] => 0
  | d :: r => uptoBulk d + uptoBulkAll r
def uptoBulkEntries {H : Type} : List (Lit × DataW H) → Nat
  | [] => 0
  | x :: r => uptoBulkEntry x + uptoBulkEntries r
def uptoBulkEntry {H : Type} : Lit × DataW H → Nat
  | (.string bytes, d) => bytes.length + uptoBulk d + 1
  | (_, d) => uptoBulk d + 1
 end
def uptoSmall : (H : Type) → List (DataW H) → Bool := fun _ ds => decide (uptoBulkAll ds ≤ 1048576)
def OpenSpec.upto (s : _root_.Go.ChangeSpec) : _root_.Go.OpenSpec := { _root_.Go.OpenSpec.ofChange s with cond := some uptoSmall }

/-- 'gossamerlaw4.PctIn', WHERE WHAT IT READS IS OF BULK AT MOST 1048576: true; the input reads as it did. -/
def pctInUptoRow : OpenClaim := { program := "ytdbihmkeljakeaa", sum := "99861fc6e444b9c9bb76fa077e7b8ecba15270cc33c3684d3511ab819c07c043", func := "gossamer/gossamerlaw4.PctIn", spec := "pctIn", inPlace := ["internal/bytealg.IndexByteString", "internal/abi.NoEscape"], apart := false, narrowed := true }
def PctInUptoSaid : Prop := pctInUptoRow.holds Try.pinned (OpenSpec.upto pctInSpec)

/-- 'gossamerlaw4.PctTells', WHERE WHAT IT READS IS OF BULK AT MOST 1048576: true; the input reads as it did. -/
def pctTellsUptoRow : OpenClaim := { program := "ytdbihmkeljakeaa", sum := "99861fc6e444b9c9bb76fa077e7b8ecba15270cc33c3684d3511ab819c07c043", func := "gossamer/gossamerlaw4.PctTells", spec := "pctTells", inPlace := ["internal/bytealg.IndexByteString", "internal/abi.NoEscape"], apart := false, narrowed := true }
def PctTellsUptoSaid : Prop := pctTellsUptoRow.holds Try.pinned (OpenSpec.upto pctTellsSpec)

/-- 'gossamerlaw4.PctBack', WHERE WHAT IT READS IS OF BULK AT MOST 1048576: true; the input reads as it did. -/
def pctBackUptoRow : OpenClaim := { program := "ytdbihmkeljakeaa", sum := "99861fc6e444b9c9bb76fa077e7b8ecba15270cc33c3684d3511ab819c07c043", func := "gossamer/gossamerlaw4.PctBack", spec := "pctBack", inPlace := ["internal/bytealg.IndexByteString", "internal/abi.NoEscape"], apart := false, narrowed := true }
def PctBackUptoSaid : Prop := pctBackUptoRow.holds Try.pinned (OpenSpec.upto pctBackSpec)

/-- 'gossamerlaw4.PctOnce', WHERE WHAT IT READS IS OF BULK AT MOST 1048576: true; the input reads as it did. -/
def pctOnceUptoRow : OpenClaim := { program := "ytdbihmkeljakeaa", sum := "99861fc6e444b9c9bb76fa077e7b8ecba15270cc33c3684d3511ab819c07c043", func := "gossamer/gossamerlaw4.PctOnce", spec := "pctOnce", inPlace := ["internal/bytealg.IndexByteString", "internal/abi.NoEscape"], apart := false, narrowed := true }
def PctOnceUptoSaid : Prop := pctOnceUptoRow.holds Try.pinned (OpenSpec.upto pctOnceSpec)

/-- 'gossamerlaw4.PctBytes', WHERE WHAT IT READS IS OF BULK AT MOST 1048576: true; the input reads as it did. -/
def pctBytesUptoRow : OpenClaim := { program := "ytdbihmkeljakeaa", sum := "99861fc6e444b9c9bb76fa077e7b8ecba15270cc33c3684d3511ab819c07c043", func := "gossamer/gossamerlaw4.PctBytes", spec := "pctBytes", inPlace := ["internal/bytealg.IndexByteString", "internal/abi.NoEscape"], apart := false, narrowed := true }
def PctBytesUptoSaid : Prop := pctBytesUptoRow.holds Try.pinned (OpenSpec.upto pctBytesSpec)

/-- 'gossamerlaw4.PctHalf', WHERE WHAT IT READS IS OF BULK AT MOST 1048576: true; the input reads as it did. -/
def pctHalfUptoRow : OpenClaim := { program := "ytdbihmkeljakeaa", sum := "99861fc6e444b9c9bb76fa077e7b8ecba15270cc33c3684d3511ab819c07c043", func := "gossamer/gossamerlaw4.PctHalf", spec := "pctHalf", inPlace := ["internal/bytealg.IndexByteString", "internal/abi.NoEscape"], apart := false, narrowed := true }
def PctHalfUptoSaid : Prop := pctHalfUptoRow.holds Try.pinned (OpenSpec.upto pctHalfSpec)

/-- 'gossamerlaw4.PctJoins', WHERE WHAT IT READS IS OF BULK AT MOST 1048576: true; the input reads as it did. -/
def pctJoinsUptoRow : OpenClaim := { program := "ytdbihmkeljakeaa", sum := "99861fc6e444b9c9bb76fa077e7b8ecba15270cc33c3684d3511ab819c07c043", func := "gossamer/gossamerlaw4.PctJoins", spec := "pctJoins", inPlace := ["internal/bytealg.IndexByteString", "internal/abi.NoEscape"], apart := false, narrowed := true }
def PctJoinsUptoSaid : Prop := pctJoinsUptoRow.holds Try.pinned (OpenSpec.upto pctJoinsSpec)

end Rows
end Go.Proofs.Ytdbihmkeljakeaa
