/-
  No cell of these rows narrows 'for every input' (looked for: loops, veiled, ifaces, maps, wideKeys, modest, calm, conditions, laid).
  DERIVED. THE GIVEN ROWS OF THIS SEAT. 10 by the template 'for every input the law returns true; each argument reads behind the call as it read before'; 0 by the template 'total and deterministic' (their statements: YtmifchdmlbcclaaTotals.lean).
  GIVEN WITH THE SEED: the statements are not yours to turn. If you find one false, say at which input.
  Laid BY PROGRAM, IN A SANDBOX (cutbox-rows.mjs): the forced cells as the released guide's own fill.sh prints them over the translation f33952e55bd945e8… (all of the seat's roots in one cut). By AI agents, Wed Nov 11 2026. No macro, syntax, notation, axiom, sorry.
-/
import Derived.Test.YtmifchdmlbcclaaChecked
import GoSem.Claim
import GoSem.ClaimJoined
import GoSem.ClaimMapViews
import Derived.JoinedTies
import Derived.KernelRfl
namespace Go.Proofs.Ytmifchdmlbcclaa
/- THE CELL 'sum', in the pinned program and in every row, IS THE sha256 OF THE DUMP (.gsa) THAT YtmifchdmlbcclaaProg.lean LOADS. Nothing in Lean hashes anything: it is a label: what it is worth is what the hold of that sum in a sandbox is worth. -/
noncomputable def Try.pinned : Pinned := { name := "ytmifchdmlbcclaa", sum := "f33952e55bd945e80643e7b5b9ba87278524171505903f0d95556a9947ff89f0", checked := Try.checked }
namespace Rows
def none {H : Type} : Left H := { results := [], args := [] }

/-- 'almonrylaw4.OtsKeys': WHATEVER THE INPUT: true; the input reads as it did. -/
def otsKeysSpec : ChangeSpec := { name := "otsKeys", fn := fun _ => fun
  | [d1, d2, d3, d4, d5] => { results := [.lit (.bool true)], args := [d1, d2, d3, d4, d5] }
  | _ => none }
def otsKeysRow : OpenClaim := { program := "ytmifchdmlbcclaa", sum := "f33952e55bd945e80643e7b5b9ba87278524171505903f0d95556a9947ff89f0", func := "almonry/almonrylaw4.OtsKeys", spec := "otsKeys", unfollowed := true, recurses := true, apart := false }
def OtsKeysSaid : Prop := otsKeysRow.holds Try.pinned (OpenSpec.ofChange otsKeysSpec)

/-- ITS FALSE NEIGHBOUR: 'it returns false'. Refute it at one input. -/
def otsKeysWrong : ChangeSpec := { name := "otsKeys", fn := fun _ => fun
  | [d1, d2, d3, d4, d5] => { results := [.lit (.bool false)], args := [d1, d2, d3, d4, d5] }
  | _ => none }
def OtsKeysWrongFalsely : Prop := otsKeysRow.holds Try.pinned (OpenSpec.ofChange otsKeysWrong)

/-- 'almonrylaw4.OtsCandidates': WHATEVER THE INPUT: true; the input reads as it did. -/
def otsCandidatesSpec : ChangeSpec := { name := "otsCandidates", fn := fun _ => fun
  | [d1, d2, d3, d4] => { results := [.lit (.bool true)], args := [d1, d2, d3, d4] }
  | _ => none }
def otsCandidatesRow : OpenClaim := { program := "ytmifchdmlbcclaa", sum := "f33952e55bd945e80643e7b5b9ba87278524171505903f0d95556a9947ff89f0", func := "almonry/almonrylaw4.OtsCandidates", spec := "otsCandidates", unfollowed := true, recurses := true, apart := false }
def OtsCandidatesSaid : Prop := otsCandidatesRow.holds Try.pinned (OpenSpec.ofChange otsCandidatesSpec)

/-- ITS FALSE NEIGHBOUR: 'it returns false'. Refute it at one input. -/
def otsCandidatesWrong : ChangeSpec := { name := "otsCandidates", fn := fun _ => fun
  | [d1, d2, d3, d4] => { results := [.lit (.bool false)], args := [d1, d2, d3, d4] }
  | _ => none }
def OtsCandidatesWrongFalsely : Prop := otsCandidatesRow.holds Try.pinned (OpenSpec.ofChange otsCandidatesWrong)

/-- 'almonrylaw4.OtsBack': WHATEVER THE INPUT: true; the input reads as it did. -/
def otsBackSpec : ChangeSpec := { name := "otsBack", fn := fun _ => fun
  | [d1, d2, d3, d4, d5] => { results := [.lit (.bool true)], args := [d1, d2, d3, d4, d5] }
  | _ => none }
def otsBackRow : OpenClaim := { program := "ytmifchdmlbcclaa", sum := "f33952e55bd945e80643e7b5b9ba87278524171505903f0d95556a9947ff89f0", func := "almonry/almonrylaw4.OtsBack", spec := "otsBack", unfollowed := true, recurses := true, apart := false }
def OtsBackSaid : Prop := otsBackRow.holds Try.pinned (OpenSpec.ofChange otsBackSpec)

/-- ITS FALSE NEIGHBOUR: 'it returns false'. Refute it at one input. -/
def otsBackWrong : ChangeSpec := { name := "otsBack", fn := fun _ => fun
  | [d1, d2, d3, d4, d5] => { results := [.lit (.bool false)], args := [d1, d2, d3, d4, d5] }
  | _ => none }
def OtsBackWrongFalsely : Prop := otsBackRow.holds Try.pinned (OpenSpec.ofChange otsBackWrong)

/-- 'almonrylaw4.OtsForms': WHATEVER THE INPUT: true; the input reads as it did. -/
def otsFormsSpec : ChangeSpec := { name := "otsForms", fn := fun _ => fun
  | [d1, d2] => { results := [.lit (.bool true)], args := [d1, d2] }
  | _ => none }
def otsFormsRow : OpenClaim := { program := "ytmifchdmlbcclaa", sum := "f33952e55bd945e80643e7b5b9ba87278524171505903f0d95556a9947ff89f0", func := "almonry/almonrylaw4.OtsForms", spec := "otsForms", unfollowed := true, recurses := true, apart := false }
def OtsFormsSaid : Prop := otsFormsRow.holds Try.pinned (OpenSpec.ofChange otsFormsSpec)

/-- ITS FALSE NEIGHBOUR: 'it returns false'. Refute it at one input. -/
def otsFormsWrong : ChangeSpec := { name := "otsForms", fn := fun _ => fun
  | [d1, d2] => { results := [.lit (.bool false)], args := [d1, d2] }
  | _ => none }
def OtsFormsWrongFalsely : Prop := otsFormsRow.holds Try.pinned (OpenSpec.ofChange otsFormsWrong)

/-- 'almonrylaw4.OtsShared': WHATEVER THE INPUT: true; the input reads as it did. -/
def otsSharedSpec : ChangeSpec := { name := "otsShared", fn := fun _ => fun
  | [d1, d2, d3] => { results := [.lit (.bool true)], args := [d1, d2, d3] }
  | _ => none }
def otsSharedRow : OpenClaim := { program := "ytmifchdmlbcclaa", sum := "f33952e55bd945e80643e7b5b9ba87278524171505903f0d95556a9947ff89f0", func := "almonry/almonrylaw4.OtsShared", spec := "otsShared", unfollowed := true, recurses := true, apart := false }
def OtsSharedSaid : Prop := otsSharedRow.holds Try.pinned (OpenSpec.ofChange otsSharedSpec)

/-- ITS FALSE NEIGHBOUR: 'it returns false'. Refute it at one input. -/
def otsSharedWrong : ChangeSpec := { name := "otsShared", fn := fun _ => fun
  | [d1, d2, d3] => { results := [.lit (.bool false)], args := [d1, d2, d3] }
  | _ => none }
def OtsSharedWrongFalsely : Prop := otsSharedRow.holds Try.pinned (OpenSpec.ofChange otsSharedWrong)

/-- 'almonrylaw5.Lmss': WHATEVER THE INPUT: true; the input reads as it did. -/
def lmssSpec : ChangeSpec := { name := "lmss", fn := fun _ => fun
  | [d1, d2] => { results := [.lit (.bool true)], args := [d1, d2] }
  | _ => none }
def lmssRow : OpenClaim := { program := "ytmifchdmlbcclaa", sum := "f33952e55bd945e80643e7b5b9ba87278524171505903f0d95556a9947ff89f0", func := "almonry/almonrylaw5.Lmss", spec := "lmss", unfollowed := true, recurses := true, apart := false }
def LmssSaid : Prop := lmssRow.holds Try.pinned (OpenSpec.ofChange lmssSpec)

/-- ITS FALSE NEIGHBOUR: 'it returns false'. Refute it at one input. -/
def lmssWrong : ChangeSpec := { name := "lmss", fn := fun _ => fun
  | [d1, d2] => { results := [.lit (.bool false)], args := [d1, d2] }
  | _ => none }
def LmssWrongFalsely : Prop := lmssRow.holds Try.pinned (OpenSpec.ofChange lmssWrong)

/-- 'almonrylaw5.LmsVerifies': WHATEVER THE INPUT: true; the input reads as it did. -/
def lmsVerifiesSpec : ChangeSpec := { name := "lmsVerifies", fn := fun _ => fun
  | [d1, d2, d3] => { results := [.lit (.bool true)], args := [d1, d2, d3] }
  | _ => none }
def lmsVerifiesRow : OpenClaim := { program := "ytmifchdmlbcclaa", sum := "f33952e55bd945e80643e7b5b9ba87278524171505903f0d95556a9947ff89f0", func := "almonry/almonrylaw5.LmsVerifies", spec := "lmsVerifies", unfollowed := true, recurses := true, apart := false }
def LmsVerifiesSaid : Prop := lmsVerifiesRow.holds Try.pinned (OpenSpec.ofChange lmsVerifiesSpec)

/-- ITS FALSE NEIGHBOUR: 'it returns false'. Refute it at one input. -/
def lmsVerifiesWrong : ChangeSpec := { name := "lmsVerifies", fn := fun _ => fun
  | [d1, d2, d3] => { results := [.lit (.bool false)], args := [d1, d2, d3] }
  | _ => none }
def LmsVerifiesWrongFalsely : Prop := lmsVerifiesRow.holds Try.pinned (OpenSpec.ofChange lmsVerifiesWrong)

/-- 'almonrylaw5.LmsBack': WHATEVER THE INPUT: true; the input reads as it did. -/
def lmsBackSpec : ChangeSpec := { name := "lmsBack", fn := fun _ => fun
  | [d1, d2, d3] => { results := [.lit (.bool true)], args := [d1, d2, d3] }
  | _ => none }
def lmsBackRow : OpenClaim := { program := "ytmifchdmlbcclaa", sum := "f33952e55bd945e80643e7b5b9ba87278524171505903f0d95556a9947ff89f0", func := "almonry/almonrylaw5.LmsBack", spec := "lmsBack", unfollowed := true, recurses := true, apart := false }
def LmsBackSaid : Prop := lmsBackRow.holds Try.pinned (OpenSpec.ofChange lmsBackSpec)

/-- ITS FALSE NEIGHBOUR: 'it returns false'. Refute it at one input. -/
def lmsBackWrong : ChangeSpec := { name := "lmsBack", fn := fun _ => fun
  | [d1, d2, d3] => { results := [.lit (.bool false)], args := [d1, d2, d3] }
  | _ => none }
def LmsBackWrongFalsely : Prop := lmsBackRow.holds Try.pinned (OpenSpec.ofChange lmsBackWrong)

/-- 'almonrylaw5.LmsTree': WHATEVER THE INPUT: true; the input reads as it did. -/
def lmsTreeSpec : ChangeSpec := { name := "lmsTree", fn := fun _ => fun
  | [d1, d2] => { results := [.lit (.bool true)], args := [d1, d2] }
  | _ => none }
def lmsTreeRow : OpenClaim := { program := "ytmifchdmlbcclaa", sum := "f33952e55bd945e80643e7b5b9ba87278524171505903f0d95556a9947ff89f0", func := "almonry/almonrylaw5.LmsTree", spec := "lmsTree", unfollowed := true, recurses := true, apart := false }
def LmsTreeSaid : Prop := lmsTreeRow.holds Try.pinned (OpenSpec.ofChange lmsTreeSpec)

/-- ITS FALSE NEIGHBOUR: 'it returns false'. Refute it at one input. -/
def lmsTreeWrong : ChangeSpec := { name := "lmsTree", fn := fun _ => fun
  | [d1, d2] => { results := [.lit (.bool false)], args := [d1, d2] }
  | _ => none }
def LmsTreeWrongFalsely : Prop := lmsTreeRow.holds Try.pinned (OpenSpec.ofChange lmsTreeWrong)

/-- 'almonrylaw5.LmsForms': WHATEVER THE INPUT: true; the input reads as it did. -/
def lmsFormsSpec : ChangeSpec := { name := "lmsForms", fn := fun _ => fun
  | [d1, d2] => { results := [.lit (.bool true)], args := [d1, d2] }
  | _ => none }
def lmsFormsRow : OpenClaim := { program := "ytmifchdmlbcclaa", sum := "f33952e55bd945e80643e7b5b9ba87278524171505903f0d95556a9947ff89f0", func := "almonry/almonrylaw5.LmsForms", spec := "lmsForms", unfollowed := true, recurses := true, apart := false }
def LmsFormsSaid : Prop := lmsFormsRow.holds Try.pinned (OpenSpec.ofChange lmsFormsSpec)

/-- ITS FALSE NEIGHBOUR: 'it returns false'. Refute it at one input. -/
def lmsFormsWrong : ChangeSpec := { name := "lmsForms", fn := fun _ => fun
  | [d1, d2] => { results := [.lit (.bool false)], args := [d1, d2] }
  | _ => none }
def LmsFormsWrongFalsely : Prop := lmsFormsRow.holds Try.pinned (OpenSpec.ofChange lmsFormsWrong)

/- THE SECOND FORM. 'bulk': how many values and letters a reading holds, each counted each time it is reached (what is shared counts as often as it is met; a slice's spare places count too). A statement '..UptoSaid' is the law's where the arguments, and the package variables that the reading takes, are together of bulk at most 1048576: NARROWER than '..Said'. Prove '..Said' where nothing that the law and all that it calls make is longer than what came in: it says more and counts as full. Else prove '..UptoSaid'. A law counts once. -/
mutual
def uptoBulk {H : Type} : DataW H → Nat
  | .lit (.string bytes) => bytes.length + 1
  | .lit _ => 1
  | .nil => 1
  | .ptr d => uptoBulk d + 1
  | .slice elems spare => uptoBulkAll elems + uptoBulkAll spare + 1
  | .agg parts => uptoBulkAll parts + 1
  | .iface _ d => uptoBulk d + 1
  | .map entries => uptoBulkEntries entries + 1
  | .held _ => 1
def uptoBulkAll {H : Type} : List (DataW H) → Nat
  | [] => 0
  | d :: r => uptoBulk d + uptoBulkAll r
def uptoBulkEntries {H : Type} : List (Lit × DataW H) → Nat
  | [] => 0
  | x :: r => uptoBulkEntry x + uptoBulkEntries r
def uptoBulkEntry {H : Type} : Lit × DataW H → Nat
  | (.string bytes, d) => bytes.length + uptoBulk d + 1
  | (_, d) => uptoBulk d + 1
 end
def uptoSmall : (H : Type) → List (DataW H) → Bool := fun _ ds => decide (uptoBulkAll ds ≤ 1048576)
def OpenSpec.upto (s : _root_.Go.ChangeSpec) : _root_.Go.OpenSpec := { _root_.Go.OpenSpec.ofChange s with cond := some uptoSmall }

/-- 'almonrylaw4.OtsKeys', WHERE WHAT IT READS IS OF BULK AT MOST 1048576: true; the input reads as it did. -/
def otsKeysUptoRow : OpenClaim := { program := "ytmifchdmlbcclaa", sum := "f33952e55bd945e80643e7b5b9ba87278524171505903f0d95556a9947ff89f0", func := "almonry/almonrylaw4.OtsKeys", spec := "otsKeys", unfollowed := true, recurses := true, apart := false, narrowed := true }
def OtsKeysUptoSaid : Prop := otsKeysUptoRow.holds Try.pinned (OpenSpec.upto otsKeysSpec)

/-- 'almonrylaw4.OtsCandidates', WHERE WHAT IT READS IS OF BULK AT MOST 1048576: true; the input reads as it did. -/
def otsCandidatesUptoRow : OpenClaim := { program := "ytmifchdmlbcclaa", sum := "f33952e55bd945e80643e7b5b9ba87278524171505903f0d95556a9947ff89f0", func := "almonry/almonrylaw4.OtsCandidates", spec := "otsCandidates", unfollowed := true, recurses := true, apart := false, narrowed := true }
def OtsCandidatesUptoSaid : Prop := otsCandidatesUptoRow.holds Try.pinned (OpenSpec.upto otsCandidatesSpec)

/-- 'almonrylaw4.OtsBack', WHERE WHAT IT READS IS OF BULK AT MOST 1048576: true; the input reads as it did. -/
def otsBackUptoRow : OpenClaim := { program := "ytmifchdmlbcclaa", sum := "f33952e55bd945e80643e7b5b9ba87278524171505903f0d95556a9947ff89f0", func := "almonry/almonrylaw4.OtsBack", spec := "otsBack", unfollowed := true, recurses := true, apart := false, narrowed := true }
def OtsBackUptoSaid : Prop := otsBackUptoRow.holds Try.pinned (OpenSpec.upto otsBackSpec)

/-- 'almonrylaw4.OtsForms', WHERE WHAT IT READS IS OF BULK AT MOST 1048576: true; the input reads as it did. -/
def otsFormsUptoRow : OpenClaim := { program := "ytmifchdmlbcclaa", sum := "f33952e55bd945e80643e7b5b9ba87278524171505903f0d95556a9947ff89f0", func := "almonry/almonrylaw4.OtsForms", spec := "otsForms", unfollowed := true, recurses := true, apart := false, narrowed := true }
def OtsFormsUptoSaid : Prop := otsFormsUptoRow.holds Try.pinned (OpenSpec.upto otsFormsSpec)

/-- 'almonrylaw4.OtsShared', WHERE WHAT IT READS IS OF BULK AT MOST 1048576: true; the input reads as it did. -/
def otsSharedUptoRow : OpenClaim := { program := "ytmifchdmlbcclaa", sum := "f33952e55bd945e80643e7b5b9ba87278524171505903f0d95556a9947ff89f0", func := "almonry/almonrylaw4.OtsShared", spec := "otsShared", unfollowed := true, recurses := true, apart := false, narrowed := true }
def OtsSharedUptoSaid : Prop := otsSharedUptoRow.holds Try.pinned (OpenSpec.upto otsSharedSpec)

/-- 'almonrylaw5.Lmss', WHERE WHAT IT READS IS OF BULK AT MOST 1048576: true; the input reads as it did. -/
def lmssUptoRow : OpenClaim := { program := "ytmifchdmlbcclaa", sum := "f33952e55bd945e80643e7b5b9ba87278524171505903f0d95556a9947ff89f0", func := "almonry/almonrylaw5.Lmss", spec := "lmss", unfollowed := true, recurses := true, apart := false, narrowed := true }
def LmssUptoSaid : Prop := lmssUptoRow.holds Try.pinned (OpenSpec.upto lmssSpec)

/-- 'almonrylaw5.LmsVerifies', WHERE WHAT IT READS IS OF BULK AT MOST 1048576: true; the input reads as it did. -/
def lmsVerifiesUptoRow : OpenClaim := { program := "ytmifchdmlbcclaa", sum := "f33952e55bd945e80643e7b5b9ba87278524171505903f0d95556a9947ff89f0", func := "almonry/almonrylaw5.LmsVerifies", spec := "lmsVerifies", unfollowed := true, recurses := true, apart := false, narrowed := true }
def LmsVerifiesUptoSaid : Prop := lmsVerifiesUptoRow.holds Try.pinned (OpenSpec.upto lmsVerifiesSpec)

/-- 'almonrylaw5.LmsBack', WHERE WHAT IT READS IS OF BULK AT MOST 1048576: true; the input reads as it did. -/
def lmsBackUptoRow : OpenClaim := { program := "ytmifchdmlbcclaa", sum := "f33952e55bd945e80643e7b5b9ba87278524171505903f0d95556a9947ff89f0", func := "almonry/almonrylaw5.LmsBack", spec := "lmsBack", unfollowed := true, recurses := true, apart := false, narrowed := true }
def LmsBackUptoSaid : Prop := lmsBackUptoRow.holds Try.pinned (OpenSpec.upto lmsBackSpec)

/-- 'almonrylaw5.LmsTree', WHERE WHAT IT READS IS OF BULK AT MOST 1048576: true; the input reads as it did. -/
def lmsTreeUptoRow : OpenClaim := { program := "ytmifchdmlbcclaa", sum := "f33952e55bd945e80643e7b5b9ba87278524171505903f0d95556a9947ff89f0", func := "almonry/almonrylaw5.LmsTree", spec := "lmsTree", unfollowed := true, recurses := true, apart := false, narrowed := true }
def LmsTreeUptoSaid : Prop := lmsTreeUptoRow.holds Try.pinned (OpenSpec.upto lmsTreeSpec)

/-- 'almonrylaw5.LmsForms', WHERE WHAT IT READS IS OF BULK AT MOST 1048576: true; the input reads as it did. -/
def lmsFormsUptoRow : OpenClaim := { program := "ytmifchdmlbcclaa", sum := "f33952e55bd945e80643e7b5b9ba87278524171505903f0d95556a9947ff89f0", func := "almonry/almonrylaw5.LmsForms", spec := "lmsForms", unfollowed := true, recurses := true, apart := false, narrowed := true }
def LmsFormsUptoSaid : Prop := lmsFormsUptoRow.holds Try.pinned (OpenSpec.upto lmsFormsSpec)

end Rows
end Go.Proofs.Ytmifchdmlbcclaa
