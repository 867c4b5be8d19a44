/-
  No cell of these rows narrows 'for every input' (looked for: loops, veiled, ifaces, maps, wideKeys, modest, calm, conditions, laid).
  DERIVED. THE GIVEN ROWS OF THIS SEAT. 9 by the template 'for every input the law returns true; each argument reads behind the call as it read before'; 0 by the template 'total and deterministic' (their statements: YtjingpkgappblaaTotals.lean).
  GIVEN WITH THE SEED: the statements are not yours to turn. If you find one false, say at which input.
  Laid BY PROGRAM, IN A SANDBOX (cutbox-rows.mjs): the forced cells as the released guide's own fill.sh prints them over the translation efbabded37bd38b7… (all of the seat's roots in one cut). By AI agents, Wed Nov 11 2026. No macro, syntax, notation, axiom, sorry.
-/
import Derived.Test.YtjingpkgappblaaChecked
import GoSem.Claim
import GoSem.ClaimJoined
import GoSem.ClaimMapViews
import Derived.JoinedTies
import Derived.KernelRfl
namespace Go.Proofs.Ytjingpkgappblaa
/- THE CELL 'sum', in the pinned program and in every row, IS THE sha256 OF THE DUMP (.gsa) THAT YtjingpkgappblaaProg.lean LOADS. Nothing in Lean hashes anything: it is a label: what it is worth is what the hold of that sum in a sandbox is worth. -/
noncomputable def Try.pinned : Pinned := { name := "ytjingpkgappblaa", sum := "efbabded37bd38b7637210f8cd39d44fcf2a6e3ae56896479d738b5fd2d38bbf", checked := Try.checked }
namespace Rows
def none {H : Type} : Left H := { results := [], args := [] }

/-- 'almonrylaw18.Vecs': WHATEVER THE INPUT: true; the input reads as it did. -/
def vecsSpec : ChangeSpec := { name := "vecs", fn := fun _ => fun
  | [d1, d2] => { results := [.lit (.bool true)], args := [d1, d2] }
  | _ => none }
def vecsRow : OpenClaim := { program := "ytjingpkgappblaa", sum := "efbabded37bd38b7637210f8cd39d44fcf2a6e3ae56896479d738b5fd2d38bbf", func := "almonry/almonrylaw18.Vecs", spec := "vecs", apart := false }
def VecsSaid : Prop := vecsRow.holds Try.pinned (OpenSpec.ofChange vecsSpec)

/-- ITS FALSE NEIGHBOUR: 'it returns false'. Refute it at one input. -/
def vecsWrong : ChangeSpec := { name := "vecs", fn := fun _ => fun
  | [d1, d2] => { results := [.lit (.bool false)], args := [d1, d2] }
  | _ => none }
def VecsWrongFalsely : Prop := vecsRow.holds Try.pinned (OpenSpec.ofChange vecsWrong)

/-- 'almonrylaw18.VecRules': WHATEVER THE INPUT: true; the input reads as it did. -/
def vecRulesSpec : ChangeSpec := { name := "vecRules", fn := fun _ => fun
  | [d1, d2, d3] => { results := [.lit (.bool true)], args := [d1, d2, d3] }
  | _ => none }
def vecRulesRow : OpenClaim := { program := "ytjingpkgappblaa", sum := "efbabded37bd38b7637210f8cd39d44fcf2a6e3ae56896479d738b5fd2d38bbf", func := "almonry/almonrylaw18.VecRules", spec := "vecRules", apart := false }
def VecRulesSaid : Prop := vecRulesRow.holds Try.pinned (OpenSpec.ofChange vecRulesSpec)

/-- ITS FALSE NEIGHBOUR: 'it returns false'. Refute it at one input. -/
def vecRulesWrong : ChangeSpec := { name := "vecRules", fn := fun _ => fun
  | [d1, d2, d3] => { results := [.lit (.bool false)], args := [d1, d2, d3] }
  | _ => none }
def VecRulesWrongFalsely : Prop := vecRulesRow.holds Try.pinned (OpenSpec.ofChange vecRulesWrong)

/-- 'almonrylaw18.VecForms': WHATEVER THE INPUT: true; the input reads as it did. -/
def vecFormsSpec : ChangeSpec := { name := "vecForms", fn := fun _ => fun
  | [d1, d2] => { results := [.lit (.bool true)], args := [d1, d2] }
  | _ => none }
def vecFormsRow : OpenClaim := { program := "ytjingpkgappblaa", sum := "efbabded37bd38b7637210f8cd39d44fcf2a6e3ae56896479d738b5fd2d38bbf", func := "almonry/almonrylaw18.VecForms", spec := "vecForms", apart := false }
def VecFormsSaid : Prop := vecFormsRow.holds Try.pinned (OpenSpec.ofChange vecFormsSpec)

/-- ITS FALSE NEIGHBOUR: 'it returns false'. Refute it at one input. -/
def vecFormsWrong : ChangeSpec := { name := "vecForms", fn := fun _ => fun
  | [d1, d2] => { results := [.lit (.bool false)], args := [d1, d2] }
  | _ => none }
def VecFormsWrongFalsely : Prop := vecFormsRow.holds Try.pinned (OpenSpec.ofChange vecFormsWrong)

/-- 'almonrylaw3.WireLong': WHATEVER THE INPUT: true; the input reads as it did. -/
def wireLongSpec : ChangeSpec := { name := "wireLong", fn := fun _ => fun
  | [d1, d2] => { results := [.lit (.bool true)], args := [d1, d2] }
  | _ => none }
def wireLongRow : OpenClaim := { program := "ytjingpkgappblaa", sum := "efbabded37bd38b7637210f8cd39d44fcf2a6e3ae56896479d738b5fd2d38bbf", func := "almonry/almonrylaw3.WireLong", spec := "wireLong", apart := false }
def WireLongSaid : Prop := wireLongRow.holds Try.pinned (OpenSpec.ofChange wireLongSpec)

/-- ITS FALSE NEIGHBOUR: 'it returns false'. Refute it at one input. -/
def wireLongWrong : ChangeSpec := { name := "wireLong", fn := fun _ => fun
  | [d1, d2] => { results := [.lit (.bool false)], args := [d1, d2] }
  | _ => none }
def WireLongWrongFalsely : Prop := wireLongRow.holds Try.pinned (OpenSpec.ofChange wireLongWrong)

/-- 'almonrylaw3.WireNums': WHATEVER THE INPUT: true; the input reads as it did. -/
def wireNumsSpec : ChangeSpec := { name := "wireNums", fn := fun _ => fun
  | [d] => { results := [.lit (.bool true)], args := [d] }
  | _ => none }
def wireNumsRow : OpenClaim := { program := "ytjingpkgappblaa", sum := "efbabded37bd38b7637210f8cd39d44fcf2a6e3ae56896479d738b5fd2d38bbf", func := "almonry/almonrylaw3.WireNums", spec := "wireNums", apart := false }
def WireNumsSaid : Prop := wireNumsRow.holds Try.pinned (OpenSpec.ofChange wireNumsSpec)

/-- ITS FALSE NEIGHBOUR: 'it returns false'. Refute it at one input. -/
def wireNumsWrong : ChangeSpec := { name := "wireNums", fn := fun _ => fun
  | [d] => { results := [.lit (.bool false)], args := [d] }
  | _ => none }
def WireNumsWrongFalsely : Prop := wireNumsRow.holds Try.pinned (OpenSpec.ofChange wireNumsWrong)

/-- 'almonrylaw3.WireWrites': WHATEVER THE INPUT: true; the input reads as it did. -/
def wireWritesSpec : ChangeSpec := { name := "wireWrites", fn := fun _ => fun
  | [d] => { results := [.lit (.bool true)], args := [d] }
  | _ => none }
def wireWritesRow : OpenClaim := { program := "ytjingpkgappblaa", sum := "efbabded37bd38b7637210f8cd39d44fcf2a6e3ae56896479d738b5fd2d38bbf", func := "almonry/almonrylaw3.WireWrites", spec := "wireWrites", apart := false }
def WireWritesSaid : Prop := wireWritesRow.holds Try.pinned (OpenSpec.ofChange wireWritesSpec)

/-- ITS FALSE NEIGHBOUR: 'it returns false'. Refute it at one input. -/
def wireWritesWrong : ChangeSpec := { name := "wireWrites", fn := fun _ => fun
  | [d] => { results := [.lit (.bool false)], args := [d] }
  | _ => none }
def WireWritesWrongFalsely : Prop := wireWritesRow.holds Try.pinned (OpenSpec.ofChange wireWritesWrong)

/-- 'almonrylaw3.WireReads': WHATEVER THE INPUT: true; the input reads as it did. -/
def wireReadsSpec : ChangeSpec := { name := "wireReads", fn := fun _ => fun
  | [d1, d2] => { results := [.lit (.bool true)], args := [d1, d2] }
  | _ => none }
def wireReadsRow : OpenClaim := { program := "ytjingpkgappblaa", sum := "efbabded37bd38b7637210f8cd39d44fcf2a6e3ae56896479d738b5fd2d38bbf", func := "almonry/almonrylaw3.WireReads", spec := "wireReads", apart := false }
def WireReadsSaid : Prop := wireReadsRow.holds Try.pinned (OpenSpec.ofChange wireReadsSpec)

/-- ITS FALSE NEIGHBOUR: 'it returns false'. Refute it at one input. -/
def wireReadsWrong : ChangeSpec := { name := "wireReads", fn := fun _ => fun
  | [d1, d2] => { results := [.lit (.bool false)], args := [d1, d2] }
  | _ => none }
def WireReadsWrongFalsely : Prop := wireReadsRow.holds Try.pinned (OpenSpec.ofChange wireReadsWrong)

/-- 'almonrylaw3.WireCuts': WHATEVER THE INPUT: true; the input reads as it did. -/
def wireCutsSpec : ChangeSpec := { name := "wireCuts", fn := fun _ => fun
  | [d1, d2] => { results := [.lit (.bool true)], args := [d1, d2] }
  | _ => none }
def wireCutsRow : OpenClaim := { program := "ytjingpkgappblaa", sum := "efbabded37bd38b7637210f8cd39d44fcf2a6e3ae56896479d738b5fd2d38bbf", func := "almonry/almonrylaw3.WireCuts", spec := "wireCuts", apart := false }
def WireCutsSaid : Prop := wireCutsRow.holds Try.pinned (OpenSpec.ofChange wireCutsSpec)

/-- ITS FALSE NEIGHBOUR: 'it returns false'. Refute it at one input. -/
def wireCutsWrong : ChangeSpec := { name := "wireCuts", fn := fun _ => fun
  | [d1, d2] => { results := [.lit (.bool false)], args := [d1, d2] }
  | _ => none }
def WireCutsWrongFalsely : Prop := wireCutsRow.holds Try.pinned (OpenSpec.ofChange wireCutsWrong)

/-- 'almonrylaw3.WireBack': WHATEVER THE INPUT: true; the input reads as it did. -/
def wireBackSpec : ChangeSpec := { name := "wireBack", fn := fun _ => fun
  | [d] => { results := [.lit (.bool true)], args := [d] }
  | _ => none }
def wireBackRow : OpenClaim := { program := "ytjingpkgappblaa", sum := "efbabded37bd38b7637210f8cd39d44fcf2a6e3ae56896479d738b5fd2d38bbf", func := "almonry/almonrylaw3.WireBack", spec := "wireBack", apart := false }
def WireBackSaid : Prop := wireBackRow.holds Try.pinned (OpenSpec.ofChange wireBackSpec)

/-- ITS FALSE NEIGHBOUR: 'it returns false'. Refute it at one input. -/
def wireBackWrong : ChangeSpec := { name := "wireBack", fn := fun _ => fun
  | [d] => { results := [.lit (.bool false)], args := [d] }
  | _ => none }
def WireBackWrongFalsely : Prop := wireBackRow.holds Try.pinned (OpenSpec.ofChange wireBackWrong)

/- THE SECOND FORM. 'bulk': how many values and letters a reading holds, each counted each time it is reached (what is shared counts as often as it is met; a slice's spare places count too). A statement '..UptoSaid' is the law's where the arguments, and the package variables that the reading takes, are together of bulk at most 1048576: NARROWER than '..Said'. Prove '..Said' where nothing that the law and all that it calls make is longer than what came in: it says more and counts as full. Else prove '..UptoSaid'. A law counts once. -/
mutual
def uptoBulk {H : Type} : DataW H → Nat
  | .lit (.string bytes) => bytes.length + 1
  | .lit _ => 1
  | .nil => 1
  | .ptr d => uptoBulk d + 1
  | .slice elems spare => uptoBulkAll elems + uptoBulkAll spare + 1
  | .agg parts => uptoBulkAll parts + 1
  | .iface _ d => uptoBulk d + 1
  | .map entries => uptoBulkEntries entries + 1
  | .held _ => 1
def uptoBulkAll {H : Type} : List (DataW H) → Nat
  | [] => 0
  | d :: r => uptoBulk d + uptoBulkAll r
def uptoBulkEntries {H : Type} : List (Lit × DataW H) → Nat
  | [] => 0
  | x :: r => uptoBulkEntry x + uptoBulkEntries r
def uptoBulkEntry {H : Type} : Lit × DataW H → Nat
  | (.string bytes, d) => bytes.length + uptoBulk d + 1
  | (_, d) => uptoBulk d + 1
 end
def uptoSmall : (H : Type) → List (DataW H) → Bool := fun _ ds => decide (uptoBulkAll ds ≤ 1048576)
def OpenSpec.upto (s : _root_.Go.ChangeSpec) : _root_.Go.OpenSpec := { _root_.Go.OpenSpec.ofChange s with cond := some uptoSmall }

/-- 'almonrylaw18.Vecs', WHERE WHAT IT READS IS OF BULK AT MOST 1048576: true; the input reads as it did. -/
def vecsUptoRow : OpenClaim := { program := "ytjingpkgappblaa", sum := "efbabded37bd38b7637210f8cd39d44fcf2a6e3ae56896479d738b5fd2d38bbf", func := "almonry/almonrylaw18.Vecs", spec := "vecs", apart := false, narrowed := true }
def VecsUptoSaid : Prop := vecsUptoRow.holds Try.pinned (OpenSpec.upto vecsSpec)

/-- 'almonrylaw18.VecRules', WHERE WHAT IT READS IS OF BULK AT MOST 1048576: true; the input reads as it did. -/
def vecRulesUptoRow : OpenClaim := { program := "ytjingpkgappblaa", sum := "efbabded37bd38b7637210f8cd39d44fcf2a6e3ae56896479d738b5fd2d38bbf", func := "almonry/almonrylaw18.VecRules", spec := "vecRules", apart := false, narrowed := true }
def VecRulesUptoSaid : Prop := vecRulesUptoRow.holds Try.pinned (OpenSpec.upto vecRulesSpec)

/-- 'almonrylaw18.VecForms', WHERE WHAT IT READS IS OF BULK AT MOST 1048576: true; the input reads as it did. -/
def vecFormsUptoRow : OpenClaim := { program := "ytjingpkgappblaa", sum := "efbabded37bd38b7637210f8cd39d44fcf2a6e3ae56896479d738b5fd2d38bbf", func := "almonry/almonrylaw18.VecForms", spec := "vecForms", apart := false, narrowed := true }
def VecFormsUptoSaid : Prop := vecFormsUptoRow.holds Try.pinned (OpenSpec.upto vecFormsSpec)

/-- 'almonrylaw3.WireLong', WHERE WHAT IT READS IS OF BULK AT MOST 1048576: true; the input reads as it did. -/
def wireLongUptoRow : OpenClaim := { program := "ytjingpkgappblaa", sum := "efbabded37bd38b7637210f8cd39d44fcf2a6e3ae56896479d738b5fd2d38bbf", func := "almonry/almonrylaw3.WireLong", spec := "wireLong", apart := false, narrowed := true }
def WireLongUptoSaid : Prop := wireLongUptoRow.holds Try.pinned (OpenSpec.upto wireLongSpec)

/-- 'almonrylaw3.WireNums', WHERE WHAT IT READS IS OF BULK AT MOST 1048576: true; the input reads as it did. -/
def wireNumsUptoRow : OpenClaim := { program := "ytjingpkgappblaa", sum := "efbabded37bd38b7637210f8cd39d44fcf2a6e3ae56896479d738b5fd2d38bbf", func := "almonry/almonrylaw3.WireNums", spec := "wireNums", apart := false, narrowed := true }
def WireNumsUptoSaid : Prop := wireNumsUptoRow.holds Try.pinned (OpenSpec.upto wireNumsSpec)

/-- 'almonrylaw3.WireWrites', WHERE WHAT IT READS IS OF BULK AT MOST 1048576: true; the input reads as it did. -/
def wireWritesUptoRow : OpenClaim := { program := "ytjingpkgappblaa", sum := "efbabded37bd38b7637210f8cd39d44fcf2a6e3ae56896479d738b5fd2d38bbf", func := "almonry/almonrylaw3.WireWrites", spec := "wireWrites", apart := false, narrowed := true }
def WireWritesUptoSaid : Prop := wireWritesUptoRow.holds Try.pinned (OpenSpec.upto wireWritesSpec)

/-- 'almonrylaw3.WireReads', WHERE WHAT IT READS IS OF BULK AT MOST 1048576: true; the input reads as it did. -/
def wireReadsUptoRow : OpenClaim := { program := "ytjingpkgappblaa", sum := "efbabded37bd38b7637210f8cd39d44fcf2a6e3ae56896479d738b5fd2d38bbf", func := "almonry/almonrylaw3.WireReads", spec := "wireReads", apart := false, narrowed := true }
def WireReadsUptoSaid : Prop := wireReadsUptoRow.holds Try.pinned (OpenSpec.upto wireReadsSpec)

/-- 'almonrylaw3.WireCuts', WHERE WHAT IT READS IS OF BULK AT MOST 1048576: true; the input reads as it did. -/
def wireCutsUptoRow : OpenClaim := { program := "ytjingpkgappblaa", sum := "efbabded37bd38b7637210f8cd39d44fcf2a6e3ae56896479d738b5fd2d38bbf", func := "almonry/almonrylaw3.WireCuts", spec := "wireCuts", apart := false, narrowed := true }
def WireCutsUptoSaid : Prop := wireCutsUptoRow.holds Try.pinned (OpenSpec.upto wireCutsSpec)

/-- 'almonrylaw3.WireBack', WHERE WHAT IT READS IS OF BULK AT MOST 1048576: true; the input reads as it did. -/
def wireBackUptoRow : OpenClaim := { program := "ytjingpkgappblaa", sum := "efbabded37bd38b7637210f8cd39d44fcf2a6e3ae56896479d738b5fd2d38bbf", func := "almonry/almonrylaw3.WireBack", spec := "wireBack", apart := false, narrowed := true }
def WireBackUptoSaid : Prop := wireBackUptoRow.holds Try.pinned (OpenSpec.upto wireBackSpec)

end Rows
end Go.Proofs.Ytjingpkgappblaa
