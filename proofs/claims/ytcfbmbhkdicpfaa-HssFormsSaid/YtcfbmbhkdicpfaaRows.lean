/-
  No cell of these rows narrows 'for every input' (looked for: loops, veiled, ifaces, maps, wideKeys, modest, calm, conditions, laid).
  DERIVED. THE GIVEN ROWS OF THIS SEAT. 8 by the template 'for every input the law returns true; each argument reads behind the call as it read before'; 0 by the template 'total and deterministic' (their statements: YtcfbmbhkdicpfaaTotals.lean).
  GIVEN WITH THE SEED: the statements are not yours to turn. If you find one false, say at which input.
  Laid BY PROGRAM, IN A SANDBOX (cutbox-rows.mjs): the forced cells as the released guide's own fill.sh prints them over the translation 34b8d758194fc208… (all of the seat's roots in one cut). By AI agents, Wed Nov 11 2026. No macro, syntax, notation, axiom, sorry.
-/
import Derived.Test.YtcfbmbhkdicpfaaChecked
import GoSem.Claim
import GoSem.ClaimJoined
import GoSem.ClaimMapViews
import Derived.JoinedTies
import Derived.KernelRfl
namespace Go.Proofs.Ytcfbmbhkdicpfaa
/- THE CELL 'sum', in the pinned program and in every row, IS THE sha256 OF THE DUMP (.gsa) THAT YtcfbmbhkdicpfaaProg.lean LOADS. Nothing in Lean hashes anything: it is a label: what it is worth is what the hold of that sum in a sandbox is worth. -/
noncomputable def Try.pinned : Pinned := { name := "ytcfbmbhkdicpfaa", sum := "34b8d758194fc2086abab89536a1e0dbefecaf2a35b8bddf828c1628cd784ce1", checked := Try.checked }
namespace Rows
def none {H : Type} : Left H := { results := [], args := [] }

/-- 'almonrylaw6.Hsss': WHATEVER THE INPUT: true; the input reads as it did. -/
def hsssSpec : ChangeSpec := { name := "hsss", fn := fun _ => fun
  | [d1, d2] => { results := [.lit (.bool true)], args := [d1, d2] }
  | _ => none }
def hsssRow : OpenClaim := { program := "ytcfbmbhkdicpfaa", sum := "34b8d758194fc2086abab89536a1e0dbefecaf2a35b8bddf828c1628cd784ce1", func := "almonry/almonrylaw6.Hsss", spec := "hsss", unfollowed := true, recurses := true, apart := false }
def HsssSaid : Prop := hsssRow.holds Try.pinned (OpenSpec.ofChange hsssSpec)

/-- ITS FALSE NEIGHBOUR: 'it returns false'. Refute it at one input. -/
def hsssWrong : ChangeSpec := { name := "hsss", fn := fun _ => fun
  | [d1, d2] => { results := [.lit (.bool false)], args := [d1, d2] }
  | _ => none }
def HsssWrongFalsely : Prop := hsssRow.holds Try.pinned (OpenSpec.ofChange hsssWrong)

/-- 'almonrylaw6.HssVerifies': WHATEVER THE INPUT: true; the input reads as it did. -/
def hssVerifiesSpec : ChangeSpec := { name := "hssVerifies", fn := fun _ => fun
  | [d1, d2, d3] => { results := [.lit (.bool true)], args := [d1, d2, d3] }
  | _ => none }
def hssVerifiesRow : OpenClaim := { program := "ytcfbmbhkdicpfaa", sum := "34b8d758194fc2086abab89536a1e0dbefecaf2a35b8bddf828c1628cd784ce1", func := "almonry/almonrylaw6.HssVerifies", spec := "hssVerifies", unfollowed := true, recurses := true, apart := false }
def HssVerifiesSaid : Prop := hssVerifiesRow.holds Try.pinned (OpenSpec.ofChange hssVerifiesSpec)

/-- ITS FALSE NEIGHBOUR: 'it returns false'. Refute it at one input. -/
def hssVerifiesWrong : ChangeSpec := { name := "hssVerifies", fn := fun _ => fun
  | [d1, d2, d3] => { results := [.lit (.bool false)], args := [d1, d2, d3] }
  | _ => none }
def HssVerifiesWrongFalsely : Prop := hssVerifiesRow.holds Try.pinned (OpenSpec.ofChange hssVerifiesWrong)

/-- 'almonrylaw6.HssBack': WHATEVER THE INPUT: true; the input reads as it did. -/
def hssBackSpec : ChangeSpec := { name := "hssBack", fn := fun _ => fun
  | [d1, d2] => { results := [.lit (.bool true)], args := [d1, d2] }
  | _ => none }
def hssBackRow : OpenClaim := { program := "ytcfbmbhkdicpfaa", sum := "34b8d758194fc2086abab89536a1e0dbefecaf2a35b8bddf828c1628cd784ce1", func := "almonry/almonrylaw6.HssBack", spec := "hssBack", unfollowed := true, recurses := true, apart := false }
def HssBackSaid : Prop := hssBackRow.holds Try.pinned (OpenSpec.ofChange hssBackSpec)

/-- ITS FALSE NEIGHBOUR: 'it returns false'. Refute it at one input. -/
def hssBackWrong : ChangeSpec := { name := "hssBack", fn := fun _ => fun
  | [d1, d2] => { results := [.lit (.bool false)], args := [d1, d2] }
  | _ => none }
def HssBackWrongFalsely : Prop := hssBackRow.holds Try.pinned (OpenSpec.ofChange hssBackWrong)

/-- 'almonrylaw6.HssParts': WHATEVER THE INPUT: true; the input reads as it did. -/
def hssPartsSpec : ChangeSpec := { name := "hssParts", fn := fun _ => fun
  | [d1, d2, d3] => { results := [.lit (.bool true)], args := [d1, d2, d3] }
  | _ => none }
def hssPartsRow : OpenClaim := { program := "ytcfbmbhkdicpfaa", sum := "34b8d758194fc2086abab89536a1e0dbefecaf2a35b8bddf828c1628cd784ce1", func := "almonry/almonrylaw6.HssParts", spec := "hssParts", unfollowed := true, recurses := true, apart := false }
def HssPartsSaid : Prop := hssPartsRow.holds Try.pinned (OpenSpec.ofChange hssPartsSpec)

/-- ITS FALSE NEIGHBOUR: 'it returns false'. Refute it at one input. -/
def hssPartsWrong : ChangeSpec := { name := "hssParts", fn := fun _ => fun
  | [d1, d2, d3] => { results := [.lit (.bool false)], args := [d1, d2, d3] }
  | _ => none }
def HssPartsWrongFalsely : Prop := hssPartsRow.holds Try.pinned (OpenSpec.ofChange hssPartsWrong)

/-- 'almonrylaw6.HssForms': WHATEVER THE INPUT: true; the input reads as it did. -/
def hssFormsSpec : ChangeSpec := { name := "hssForms", fn := fun _ => fun
  | [d1, d2] => { results := [.lit (.bool true)], args := [d1, d2] }
  | _ => none }
def hssFormsRow : OpenClaim := { program := "ytcfbmbhkdicpfaa", sum := "34b8d758194fc2086abab89536a1e0dbefecaf2a35b8bddf828c1628cd784ce1", func := "almonry/almonrylaw6.HssForms", spec := "hssForms", unfollowed := true, recurses := true, apart := false }
def HssFormsSaid : Prop := hssFormsRow.holds Try.pinned (OpenSpec.ofChange hssFormsSpec)

/-- ITS FALSE NEIGHBOUR: 'it returns false'. Refute it at one input. -/
def hssFormsWrong : ChangeSpec := { name := "hssForms", fn := fun _ => fun
  | [d1, d2] => { results := [.lit (.bool false)], args := [d1, d2] }
  | _ => none }
def HssFormsWrongFalsely : Prop := hssFormsRow.holds Try.pinned (OpenSpec.ofChange hssFormsWrong)

/-- 'almonrylaw22.Messages': WHATEVER THE INPUT: true; the input reads as it did. -/
def messagesSpec : ChangeSpec := { name := "messages", fn := fun _ => fun
  | [d1, d2] => { results := [.lit (.bool true)], args := [d1, d2] }
  | _ => none }
def messagesRow : OpenClaim := { program := "ytcfbmbhkdicpfaa", sum := "34b8d758194fc2086abab89536a1e0dbefecaf2a35b8bddf828c1628cd784ce1", func := "almonry/almonrylaw22.Messages", spec := "messages", unfollowed := true, recurses := true, apart := false }
def MessagesSaid : Prop := messagesRow.holds Try.pinned (OpenSpec.ofChange messagesSpec)

/-- ITS FALSE NEIGHBOUR: 'it returns false'. Refute it at one input. -/
def messagesWrong : ChangeSpec := { name := "messages", fn := fun _ => fun
  | [d1, d2] => { results := [.lit (.bool false)], args := [d1, d2] }
  | _ => none }
def MessagesWrongFalsely : Prop := messagesRow.holds Try.pinned (OpenSpec.ofChange messagesWrong)

/-- 'almonrylaw22.MessageBack': WHATEVER THE INPUT: true; the input reads as it did. -/
def messageBackSpec : ChangeSpec := { name := "messageBack", fn := fun _ => fun
  | [d1, d2, d3] => { results := [.lit (.bool true)], args := [d1, d2, d3] }
  | _ => none }
def messageBackRow : OpenClaim := { program := "ytcfbmbhkdicpfaa", sum := "34b8d758194fc2086abab89536a1e0dbefecaf2a35b8bddf828c1628cd784ce1", func := "almonry/almonrylaw22.MessageBack", spec := "messageBack", unfollowed := true, recurses := true, apart := false }
def MessageBackSaid : Prop := messageBackRow.holds Try.pinned (OpenSpec.ofChange messageBackSpec)

/-- ITS FALSE NEIGHBOUR: 'it returns false'. Refute it at one input. -/
def messageBackWrong : ChangeSpec := { name := "messageBack", fn := fun _ => fun
  | [d1, d2, d3] => { results := [.lit (.bool false)], args := [d1, d2, d3] }
  | _ => none }
def MessageBackWrongFalsely : Prop := messageBackRow.holds Try.pinned (OpenSpec.ofChange messageBackWrong)

/-- 'almonrylaw22.MessageForms': WHATEVER THE INPUT: true; the input reads as it did. -/
def messageFormsSpec : ChangeSpec := { name := "messageForms", fn := fun _ => fun
  | [d1, d2] => { results := [.lit (.bool true)], args := [d1, d2] }
  | _ => none }
def messageFormsRow : OpenClaim := { program := "ytcfbmbhkdicpfaa", sum := "34b8d758194fc2086abab89536a1e0dbefecaf2a35b8bddf828c1628cd784ce1", func := "almonry/almonrylaw22.MessageForms", spec := "messageForms", unfollowed := true, recurses := true, apart := false }
def MessageFormsSaid : Prop := messageFormsRow.holds Try.pinned (OpenSpec.ofChange messageFormsSpec)

/-- ITS FALSE NEIGHBOUR: 'it returns false'. Refute it at one input. -/
def messageFormsWrong : ChangeSpec := { name := "messageForms", fn := fun _ => fun
  | [d1, d2] => { results := [.lit (.bool false)], args := [d1, d2] }
  | _ => none }
def MessageFormsWrongFalsely : Prop := messageFormsRow.holds Try.pinned (OpenSpec.ofChange messageFormsWrong)

/- THE SECOND FORM. 'bulk': how many values and letters a reading holds, each counted each time it is reached (what is shared counts as often as it is met; a slice's spare places count too). A statement '..UptoSaid' is the law's where the arguments, and the package variables that the reading takes, are together of bulk at most 1048576: NARROWER than '..Said'. Prove '..Said' where nothing that the law and all that it calls make is longer than what came in: it says more and counts as full. Else prove '..UptoSaid'. A law counts once. -/
mutual
def uptoBulk {H : Type} : DataW H → Nat
  | .lit (.string bytes) => bytes.length + 1
  | .lit _ => 1
  | .nil => 1
  | .ptr d => uptoBulk d + 1
  | .slice elems spare => uptoBulkAll elems + uptoBulkAll spare + 1
  | .agg parts => uptoBulkAll parts + 1
  | .iface _ d => uptoBulk d + 1
  | .map entries => uptoBulkEntries entries + 1
  | .held _ => 1
def uptoBulkAll {H : Type} : List (DataW H) → Nat
  | [] => 0
  | d :: r => uptoBulk d + uptoBulkAll r
def uptoBulkEntries {H : Type} : List (Lit × DataW H) → Nat
  | [] => 0
  | x :: r => uptoBulkEntry x + uptoBulkEntries r
def uptoBulkEntry {H : Type} : Lit × DataW H → Nat
  | (.string bytes, d) => bytes.length + uptoBulk d + 1
  | (_, d) => uptoBulk d + 1
 end
def uptoSmall : (H : Type) → List (DataW H) → Bool := fun _ ds => decide (uptoBulkAll ds ≤ 1048576)
def OpenSpec.upto (s : _root_.Go.ChangeSpec) : _root_.Go.OpenSpec := { _root_.Go.OpenSpec.ofChange s with cond := some uptoSmall }

/-- 'almonrylaw6.Hsss', WHERE WHAT IT READS IS OF BULK AT MOST 1048576: true; the input reads as it did. -/
def hsssUptoRow : OpenClaim := { program := "ytcfbmbhkdicpfaa", sum := "34b8d758194fc2086abab89536a1e0dbefecaf2a35b8bddf828c1628cd784ce1", func := "almonry/almonrylaw6.Hsss", spec := "hsss", unfollowed := true, recurses := true, apart := false, narrowed := true }
def HsssUptoSaid : Prop := hsssUptoRow.holds Try.pinned (OpenSpec.upto hsssSpec)

/-- 'almonrylaw6.HssVerifies', WHERE WHAT IT READS IS OF BULK AT MOST 1048576: true; the input reads as it did. -/
def hssVerifiesUptoRow : OpenClaim := { program := "ytcfbmbhkdicpfaa", sum := "34b8d758194fc2086abab89536a1e0dbefecaf2a35b8bddf828c1628cd784ce1", func := "almonry/almonrylaw6.HssVerifies", spec := "hssVerifies", unfollowed := true, recurses := true, apart := false, narrowed := true }
def HssVerifiesUptoSaid : Prop := hssVerifiesUptoRow.holds Try.pinned (OpenSpec.upto hssVerifiesSpec)

/-- 'almonrylaw6.HssBack', WHERE WHAT IT READS IS OF BULK AT MOST 1048576: true; the input reads as it did. -/
def hssBackUptoRow : OpenClaim := { program := "ytcfbmbhkdicpfaa", sum := "34b8d758194fc2086abab89536a1e0dbefecaf2a35b8bddf828c1628cd784ce1", func := "almonry/almonrylaw6.HssBack", spec := "hssBack", unfollowed := true, recurses := true, apart := false, narrowed := true }
def HssBackUptoSaid : Prop := hssBackUptoRow.holds Try.pinned (OpenSpec.upto hssBackSpec)

/-- 'almonrylaw6.HssParts', WHERE WHAT IT READS IS OF BULK AT MOST 1048576: true; the input reads as it did. -/
def hssPartsUptoRow : OpenClaim := { program := "ytcfbmbhkdicpfaa", sum := "34b8d758194fc2086abab89536a1e0dbefecaf2a35b8bddf828c1628cd784ce1", func := "almonry/almonrylaw6.HssParts", spec := "hssParts", unfollowed := true, recurses := true, apart := false, narrowed := true }
def HssPartsUptoSaid : Prop := hssPartsUptoRow.holds Try.pinned (OpenSpec.upto hssPartsSpec)

/-- 'almonrylaw6.HssForms', WHERE WHAT IT READS IS OF BULK AT MOST 1048576: true; the input reads as it did. -/
def hssFormsUptoRow : OpenClaim := { program := "ytcfbmbhkdicpfaa", sum := "34b8d758194fc2086abab89536a1e0dbefecaf2a35b8bddf828c1628cd784ce1", func := "almonry/almonrylaw6.HssForms", spec := "hssForms", unfollowed := true, recurses := true, apart := false, narrowed := true }
def HssFormsUptoSaid : Prop := hssFormsUptoRow.holds Try.pinned (OpenSpec.upto hssFormsSpec)

/-- 'almonrylaw22.Messages', WHERE WHAT IT READS IS OF BULK AT MOST 1048576: true; the input reads as it did. -/
def messagesUptoRow : OpenClaim := { program := "ytcfbmbhkdicpfaa", sum := "34b8d758194fc2086abab89536a1e0dbefecaf2a35b8bddf828c1628cd784ce1", func := "almonry/almonrylaw22.Messages", spec := "messages", unfollowed := true, recurses := true, apart := false, narrowed := true }
def MessagesUptoSaid : Prop := messagesUptoRow.holds Try.pinned (OpenSpec.upto messagesSpec)

/-- 'almonrylaw22.MessageBack', WHERE WHAT IT READS IS OF BULK AT MOST 1048576: true; the input reads as it did. -/
def messageBackUptoRow : OpenClaim := { program := "ytcfbmbhkdicpfaa", sum := "34b8d758194fc2086abab89536a1e0dbefecaf2a35b8bddf828c1628cd784ce1", func := "almonry/almonrylaw22.MessageBack", spec := "messageBack", unfollowed := true, recurses := true, apart := false, narrowed := true }
def MessageBackUptoSaid : Prop := messageBackUptoRow.holds Try.pinned (OpenSpec.upto messageBackSpec)

/-- 'almonrylaw22.MessageForms', WHERE WHAT IT READS IS OF BULK AT MOST 1048576: true; the input reads as it did. -/
def messageFormsUptoRow : OpenClaim := { program := "ytcfbmbhkdicpfaa", sum := "34b8d758194fc2086abab89536a1e0dbefecaf2a35b8bddf828c1628cd784ce1", func := "almonry/almonrylaw22.MessageForms", spec := "messageForms", unfollowed := true, recurses := true, apart := false, narrowed := true }
def MessageFormsUptoSaid : Prop := messageFormsUptoRow.holds Try.pinned (OpenSpec.upto messageFormsSpec)

end Rows
end Go.Proofs.Ytcfbmbhkdicpfaa
