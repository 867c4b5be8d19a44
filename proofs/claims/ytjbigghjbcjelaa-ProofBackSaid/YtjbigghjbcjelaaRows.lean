/-
  No cell of these rows narrows 'for every input' (looked for: loops, veiled, ifaces, maps, wideKeys, modest, calm, conditions, laid).
  DERIVED. THE GIVEN ROWS OF THIS SEAT. 9 by the template 'for every input the law returns true; each argument reads behind the call as it read before'; 0 by the template 'total and deterministic' (their statements: YtjbigghjbcjelaaTotals.lean).
  GIVEN WITH THE SEED: the statements are not yours to turn. If you find one false, say at which input.
  Laid BY PROGRAM, IN A SANDBOX (cutbox-rows.mjs): the forced cells as the released guide's own fill.sh prints them over the translation 70e25bf852e5e034… (all of the seat's roots in one cut). By AI agents, Wed Nov 11 2026. No macro, syntax, notation, axiom, sorry.
-/
import Derived.Test.YtjbigghjbcjelaaChecked
import GoSem.Claim
import GoSem.ClaimJoined
import GoSem.ClaimMapViews
import Derived.JoinedTies
import Derived.KernelRfl
namespace Go.Proofs.Ytjbigghjbcjelaa
/- THE CELL 'sum', in the pinned program and in every row, IS THE sha256 OF THE DUMP (.gsa) THAT YtjbigghjbcjelaaProg.lean LOADS. Nothing in Lean hashes anything: it is a label: what it is worth is what the hold of that sum in a sandbox is worth. -/
noncomputable def Try.pinned : Pinned := { name := "ytjbigghjbcjelaa", sum := "70e25bf852e5e0348f94fe018c8a52d8996543f126c60ee995e023f7788a9dfd", checked := Try.checked }
namespace Rows
def none {H : Type} : Left H := { results := [], args := [] }

/-- 'almonrylaw9.Merkles': WHATEVER THE INPUT: true; the input reads as it did. -/
def merklesSpec : ChangeSpec := { name := "merkles", fn := fun _ => fun
  | [d] => { results := [.lit (.bool true)], args := [d] }
  | _ => none }
def merklesRow : OpenClaim := { program := "ytjbigghjbcjelaa", sum := "70e25bf852e5e0348f94fe018c8a52d8996543f126c60ee995e023f7788a9dfd", func := "almonry/almonrylaw9.Merkles", spec := "merkles", recurses := true, apart := false }
def MerklesSaid : Prop := merklesRow.holds Try.pinned (OpenSpec.ofChange merklesSpec)

/-- ITS FALSE NEIGHBOUR: 'it returns false'. Refute it at one input. -/
def merklesWrong : ChangeSpec := { name := "merkles", fn := fun _ => fun
  | [d] => { results := [.lit (.bool false)], args := [d] }
  | _ => none }
def MerklesWrongFalsely : Prop := merklesRow.holds Try.pinned (OpenSpec.ofChange merklesWrong)

/-- 'almonrylaw9.MerkleParts': WHATEVER THE INPUT: true; the input reads as it did. -/
def merklePartsSpec : ChangeSpec := { name := "merkleParts", fn := fun _ => fun
  | [d1, d2] => { results := [.lit (.bool true)], args := [d1, d2] }
  | _ => none }
def merklePartsRow : OpenClaim := { program := "ytjbigghjbcjelaa", sum := "70e25bf852e5e0348f94fe018c8a52d8996543f126c60ee995e023f7788a9dfd", func := "almonry/almonrylaw9.MerkleParts", spec := "merkleParts", recurses := true, apart := false }
def MerklePartsSaid : Prop := merklePartsRow.holds Try.pinned (OpenSpec.ofChange merklePartsSpec)

/-- ITS FALSE NEIGHBOUR: 'it returns false'. Refute it at one input. -/
def merklePartsWrong : ChangeSpec := { name := "merkleParts", fn := fun _ => fun
  | [d1, d2] => { results := [.lit (.bool false)], args := [d1, d2] }
  | _ => none }
def MerklePartsWrongFalsely : Prop := merklePartsRow.holds Try.pinned (OpenSpec.ofChange merklePartsWrong)

/-- 'almonrylaw9.MerkleSteps': WHATEVER THE INPUT: true; the input reads as it did. -/
def merkleStepsSpec : ChangeSpec := { name := "merkleSteps", fn := fun _ => fun
  | [d1, d2] => { results := [.lit (.bool true)], args := [d1, d2] }
  | _ => none }
def merkleStepsRow : OpenClaim := { program := "ytjbigghjbcjelaa", sum := "70e25bf852e5e0348f94fe018c8a52d8996543f126c60ee995e023f7788a9dfd", func := "almonry/almonrylaw9.MerkleSteps", spec := "merkleSteps", recurses := true, apart := false }
def MerkleStepsSaid : Prop := merkleStepsRow.holds Try.pinned (OpenSpec.ofChange merkleStepsSpec)

/-- ITS FALSE NEIGHBOUR: 'it returns false'. Refute it at one input. -/
def merkleStepsWrong : ChangeSpec := { name := "merkleSteps", fn := fun _ => fun
  | [d1, d2] => { results := [.lit (.bool false)], args := [d1, d2] }
  | _ => none }
def MerkleStepsWrongFalsely : Prop := merkleStepsRow.holds Try.pinned (OpenSpec.ofChange merkleStepsWrong)

/-- 'almonrylaw9.MerkleTall': WHATEVER THE INPUT: true; the input reads as it did. -/
def merkleTallSpec : ChangeSpec := { name := "merkleTall", fn := fun _ => fun
  | [d1, d2] => { results := [.lit (.bool true)], args := [d1, d2] }
  | _ => none }
def merkleTallRow : OpenClaim := { program := "ytjbigghjbcjelaa", sum := "70e25bf852e5e0348f94fe018c8a52d8996543f126c60ee995e023f7788a9dfd", func := "almonry/almonrylaw9.MerkleTall", spec := "merkleTall", recurses := true, apart := false }
def MerkleTallSaid : Prop := merkleTallRow.holds Try.pinned (OpenSpec.ofChange merkleTallSpec)

/-- ITS FALSE NEIGHBOUR: 'it returns false'. Refute it at one input. -/
def merkleTallWrong : ChangeSpec := { name := "merkleTall", fn := fun _ => fun
  | [d1, d2] => { results := [.lit (.bool false)], args := [d1, d2] }
  | _ => none }
def MerkleTallWrongFalsely : Prop := merkleTallRow.holds Try.pinned (OpenSpec.ofChange merkleTallWrong)

/-- 'almonrylaw10.Inclusions': WHATEVER THE INPUT: true; the input reads as it did. -/
def inclusionsSpec : ChangeSpec := { name := "inclusions", fn := fun _ => fun
  | [d1, d2, d3, d4, d5, d6] => { results := [.lit (.bool true)], args := [d1, d2, d3, d4, d5, d6] }
  | _ => none }
def inclusionsRow : OpenClaim := { program := "ytjbigghjbcjelaa", sum := "70e25bf852e5e0348f94fe018c8a52d8996543f126c60ee995e023f7788a9dfd", func := "almonry/almonrylaw10.Inclusions", spec := "inclusions", recurses := true, apart := false }
def InclusionsSaid : Prop := inclusionsRow.holds Try.pinned (OpenSpec.ofChange inclusionsSpec)

/-- ITS FALSE NEIGHBOUR: 'it returns false'. Refute it at one input. -/
def inclusionsWrong : ChangeSpec := { name := "inclusions", fn := fun _ => fun
  | [d1, d2, d3, d4, d5, d6] => { results := [.lit (.bool false)], args := [d1, d2, d3, d4, d5, d6] }
  | _ => none }
def InclusionsWrongFalsely : Prop := inclusionsRow.holds Try.pinned (OpenSpec.ofChange inclusionsWrong)

/-- 'almonrylaw10.Consistents': WHATEVER THE INPUT: true; the input reads as it did. -/
def consistentsSpec : ChangeSpec := { name := "consistents", fn := fun _ => fun
  | [d1, d2, d3, d4, d5, d6] => { results := [.lit (.bool true)], args := [d1, d2, d3, d4, d5, d6] }
  | _ => none }
def consistentsRow : OpenClaim := { program := "ytjbigghjbcjelaa", sum := "70e25bf852e5e0348f94fe018c8a52d8996543f126c60ee995e023f7788a9dfd", func := "almonry/almonrylaw10.Consistents", spec := "consistents", recurses := true, apart := false }
def ConsistentsSaid : Prop := consistentsRow.holds Try.pinned (OpenSpec.ofChange consistentsSpec)

/-- ITS FALSE NEIGHBOUR: 'it returns false'. Refute it at one input. -/
def consistentsWrong : ChangeSpec := { name := "consistents", fn := fun _ => fun
  | [d1, d2, d3, d4, d5, d6] => { results := [.lit (.bool false)], args := [d1, d2, d3, d4, d5, d6] }
  | _ => none }
def ConsistentsWrongFalsely : Prop := consistentsRow.holds Try.pinned (OpenSpec.ofChange consistentsWrong)

/-- 'almonrylaw10.ProofBack': WHATEVER THE INPUT: true; the input reads as it did. -/
def proofBackSpec : ChangeSpec := { name := "proofBack", fn := fun _ => fun
  | [d1, d2, d3] => { results := [.lit (.bool true)], args := [d1, d2, d3] }
  | _ => none }
def proofBackRow : OpenClaim := { program := "ytjbigghjbcjelaa", sum := "70e25bf852e5e0348f94fe018c8a52d8996543f126c60ee995e023f7788a9dfd", func := "almonry/almonrylaw10.ProofBack", spec := "proofBack", recurses := true, apart := false }
def ProofBackSaid : Prop := proofBackRow.holds Try.pinned (OpenSpec.ofChange proofBackSpec)

/-- ITS FALSE NEIGHBOUR: 'it returns false'. Refute it at one input. -/
def proofBackWrong : ChangeSpec := { name := "proofBack", fn := fun _ => fun
  | [d1, d2, d3] => { results := [.lit (.bool false)], args := [d1, d2, d3] }
  | _ => none }
def ProofBackWrongFalsely : Prop := proofBackRow.holds Try.pinned (OpenSpec.ofChange proofBackWrong)

/-- 'almonrylaw10.ProofSizes': WHATEVER THE INPUT: true; the input reads as it did. -/
def proofSizesSpec : ChangeSpec := { name := "proofSizes", fn := fun _ => fun
  | [d1, d2] => { results := [.lit (.bool true)], args := [d1, d2] }
  | _ => none }
def proofSizesRow : OpenClaim := { program := "ytjbigghjbcjelaa", sum := "70e25bf852e5e0348f94fe018c8a52d8996543f126c60ee995e023f7788a9dfd", func := "almonry/almonrylaw10.ProofSizes", spec := "proofSizes", recurses := true, apart := false }
def ProofSizesSaid : Prop := proofSizesRow.holds Try.pinned (OpenSpec.ofChange proofSizesSpec)

/-- ITS FALSE NEIGHBOUR: 'it returns false'. Refute it at one input. -/
def proofSizesWrong : ChangeSpec := { name := "proofSizes", fn := fun _ => fun
  | [d1, d2] => { results := [.lit (.bool false)], args := [d1, d2] }
  | _ => none }
def ProofSizesWrongFalsely : Prop := proofSizesRow.holds Try.pinned (OpenSpec.ofChange proofSizesWrong)

/-- 'almonrylaw10.ProofForms': WHATEVER THE INPUT: true; the input reads as it did. -/
def proofFormsSpec : ChangeSpec := { name := "proofForms", fn := fun _ => fun
  | [d1, d2, d3] => { results := [.lit (.bool true)], args := [d1, d2, d3] }
  | _ => none }
def proofFormsRow : OpenClaim := { program := "ytjbigghjbcjelaa", sum := "70e25bf852e5e0348f94fe018c8a52d8996543f126c60ee995e023f7788a9dfd", func := "almonry/almonrylaw10.ProofForms", spec := "proofForms", recurses := true, apart := false }
def ProofFormsSaid : Prop := proofFormsRow.holds Try.pinned (OpenSpec.ofChange proofFormsSpec)

/-- ITS FALSE NEIGHBOUR: 'it returns false'. Refute it at one input. -/
def proofFormsWrong : ChangeSpec := { name := "proofForms", fn := fun _ => fun
  | [d1, d2, d3] => { results := [.lit (.bool false)], args := [d1, d2, d3] }
  | _ => none }
def ProofFormsWrongFalsely : Prop := proofFormsRow.holds Try.pinned (OpenSpec.ofChange proofFormsWrong)

/- THE SECOND FORM. 'bulk': how many values and letters a reading holds, each counted each time it is reached (what is shared counts as often as it is met; a slice's spare places count too). A statement '..UptoSaid' is the law's where the arguments, and the package variables that the reading takes, are together of bulk at most 1048576: NARROWER than '..Said'. Prove '..Said' where nothing that the law and all that it calls make is longer than what came in: it says more and counts as full. Else prove '..UptoSaid'. A law counts once. -/
mutual
def uptoBulk {H : Type} : DataW H → Nat
  | .lit (.string bytes) => bytes.length + 1
  | .lit _ => 1
  | .nil => 1
  | .ptr d => uptoBulk d + 1
  | .slice elems spare => uptoBulkAll elems + uptoBulkAll spare + 1
  | .agg parts => uptoBulkAll parts + 1
  | .iface _ d => uptoBulk d + 1
  | .map entries => uptoBulkEntries entries + 1
  | .held _ => 1
def uptoBulkAll {H : Type} : List (DataW H) → Nat
  | [] => 0
  | d :: r => uptoBulk d + uptoBulkAll r
def uptoBulkEntries {H : Type} : List (Lit × DataW H) → Nat
  | [] => 0
  | x :: r => uptoBulkEntry x + uptoBulkEntries r
def uptoBulkEntry {H : Type} : Lit × DataW H → Nat
  | (.string bytes, d) => bytes.length + uptoBulk d + 1
  | (_, d) => uptoBulk d + 1
 end
def uptoSmall : (H : Type) → List (DataW H) → Bool := fun _ ds => decide (uptoBulkAll ds ≤ 1048576)
def OpenSpec.upto (s : _root_.Go.ChangeSpec) : _root_.Go.OpenSpec := { _root_.Go.OpenSpec.ofChange s with cond := some uptoSmall }

/-- 'almonrylaw9.Merkles', WHERE WHAT IT READS IS OF BULK AT MOST 1048576: true; the input reads as it did. -/
def merklesUptoRow : OpenClaim := { program := "ytjbigghjbcjelaa", sum := "70e25bf852e5e0348f94fe018c8a52d8996543f126c60ee995e023f7788a9dfd", func := "almonry/almonrylaw9.Merkles", spec := "merkles", recurses := true, apart := false, narrowed := true }
def MerklesUptoSaid : Prop := merklesUptoRow.holds Try.pinned (OpenSpec.upto merklesSpec)

/-- 'almonrylaw9.MerkleParts', WHERE WHAT IT READS IS OF BULK AT MOST 1048576: true; the input reads as it did. -/
def merklePartsUptoRow : OpenClaim := { program := "ytjbigghjbcjelaa", sum := "70e25bf852e5e0348f94fe018c8a52d8996543f126c60ee995e023f7788a9dfd", func := "almonry/almonrylaw9.MerkleParts", spec := "merkleParts", recurses := true, apart := false, narrowed := true }
def MerklePartsUptoSaid : Prop := merklePartsUptoRow.holds Try.pinned (OpenSpec.upto merklePartsSpec)

/-- 'almonrylaw9.MerkleSteps', WHERE WHAT IT READS IS OF BULK AT MOST 1048576: true; the input reads as it did. -/
def merkleStepsUptoRow : OpenClaim := { program := "ytjbigghjbcjelaa", sum := "70e25bf852e5e0348f94fe018c8a52d8996543f126c60ee995e023f7788a9dfd", func := "almonry/almonrylaw9.MerkleSteps", spec := "merkleSteps", recurses := true, apart := false, narrowed := true }
def MerkleStepsUptoSaid : Prop := merkleStepsUptoRow.holds Try.pinned (OpenSpec.upto merkleStepsSpec)

/-- 'almonrylaw9.MerkleTall', WHERE WHAT IT READS IS OF BULK AT MOST 1048576: true; the input reads as it did. -/
def merkleTallUptoRow : OpenClaim := { program := "ytjbigghjbcjelaa", sum := "70e25bf852e5e0348f94fe018c8a52d8996543f126c60ee995e023f7788a9dfd", func := "almonry/almonrylaw9.MerkleTall", spec := "merkleTall", recurses := true, apart := false, narrowed := true }
def MerkleTallUptoSaid : Prop := merkleTallUptoRow.holds Try.pinned (OpenSpec.upto merkleTallSpec)

/-- 'almonrylaw10.Inclusions', WHERE WHAT IT READS IS OF BULK AT MOST 1048576: true; the input reads as it did. -/
def inclusionsUptoRow : OpenClaim := { program := "ytjbigghjbcjelaa", sum := "70e25bf852e5e0348f94fe018c8a52d8996543f126c60ee995e023f7788a9dfd", func := "almonry/almonrylaw10.Inclusions", spec := "inclusions", recurses := true, apart := false, narrowed := true }
def InclusionsUptoSaid : Prop := inclusionsUptoRow.holds Try.pinned (OpenSpec.upto inclusionsSpec)

/-- 'almonrylaw10.Consistents', WHERE WHAT IT READS IS OF BULK AT MOST 1048576: true; the input reads as it did. -/
def consistentsUptoRow : OpenClaim := { program := "ytjbigghjbcjelaa", sum := "70e25bf852e5e0348f94fe018c8a52d8996543f126c60ee995e023f7788a9dfd", func := "almonry/almonrylaw10.Consistents", spec := "consistents", recurses := true, apart := false, narrowed := true }
def ConsistentsUptoSaid : Prop := consistentsUptoRow.holds Try.pinned (OpenSpec.upto consistentsSpec)

/-- 'almonrylaw10.ProofBack', WHERE WHAT IT READS IS OF BULK AT MOST 1048576: true; the input reads as it did. -/
def proofBackUptoRow : OpenClaim := { program := "ytjbigghjbcjelaa", sum := "70e25bf852e5e0348f94fe018c8a52d8996543f126c60ee995e023f7788a9dfd", func := "almonry/almonrylaw10.ProofBack", spec := "proofBack", recurses := true, apart := false, narrowed := true }
def ProofBackUptoSaid : Prop := proofBackUptoRow.holds Try.pinned (OpenSpec.upto proofBackSpec)

/-- 'almonrylaw10.ProofSizes', WHERE WHAT IT READS IS OF BULK AT MOST 1048576: true; the input reads as it did. -/
def proofSizesUptoRow : OpenClaim := { program := "ytjbigghjbcjelaa", sum := "70e25bf852e5e0348f94fe018c8a52d8996543f126c60ee995e023f7788a9dfd", func := "almonry/almonrylaw10.ProofSizes", spec := "proofSizes", recurses := true, apart := false, narrowed := true }
def ProofSizesUptoSaid : Prop := proofSizesUptoRow.holds Try.pinned (OpenSpec.upto proofSizesSpec)

/-- 'almonrylaw10.ProofForms', WHERE WHAT IT READS IS OF BULK AT MOST 1048576: true; the input reads as it did. -/
def proofFormsUptoRow : OpenClaim := { program := "ytjbigghjbcjelaa", sum := "70e25bf852e5e0348f94fe018c8a52d8996543f126c60ee995e023f7788a9dfd", func := "almonry/almonrylaw10.ProofForms", spec := "proofForms", recurses := true, apart := false, narrowed := true }
def ProofFormsUptoSaid : Prop := proofFormsUptoRow.holds Try.pinned (OpenSpec.upto proofFormsSpec)

end Rows
end Go.Proofs.Ytjbigghjbcjelaa
