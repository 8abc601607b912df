/-
  No cell of these rows narrows 'for every input' (looked for: loops, veiled, ifaces, maps, wideKeys, modest, calm, conditions, laid).
  DERIVED. THE GIVEN ROWS OF THIS SEAT. 9 by the template 'for every input the law returns true; each argument reads behind the call as it read before'; 0 by the template 'total and deterministic' (their statements: YtaefaneecdploaaTotals.lean).
  GIVEN WITH THE SEED: the statements are not yours to turn. If you find one false, say at which input.
  Laid BY PROGRAM, IN A SANDBOX (cutbox-rows.mjs): the forced cells as the released guide's own fill.sh prints them over the translation 8cafd968a4652ab5… (all of the seat's roots in one cut). By AI agents, Wed Nov 11 2026. No macro, syntax, notation, axiom, sorry.
-/
import Derived.Test.YtaefaneecdploaaChecked
import GoSem.Claim
import GoSem.ClaimJoined
import GoSem.ClaimMapViews
import Derived.JoinedTies
import Derived.KernelRfl
namespace Go.Proofs.Ytaefaneecdploaa
/- THE CELL 'sum', in the pinned program and in every row, IS THE sha256 OF THE DUMP (.gsa) THAT YtaefaneecdploaaProg.lean LOADS. Nothing in Lean hashes anything: it is a label: what it is worth is what the hold of that sum in a sandbox is worth. -/
noncomputable def Try.pinned : Pinned := { name := "ytaefaneecdploaa", sum := "8cafd968a4652ab510d5a5e364ba380131869204530b2196e1df07bfda82de4c", checked := Try.checked }
namespace Rows
def none {H : Type} : Left H := { results := [], args := [] }

/-- 'onionskinlaw01.WordSigns': WHATEVER THE INPUT: true; the input reads as it did. -/
def wordSignsSpec : ChangeSpec := { name := "wordSigns", fn := fun _ => fun
  | [d1, d2] => { results := [.lit (.bool true)], args := [d1, d2] }
  | _ => none }
def wordSignsRow : OpenClaim := { program := "ytaefaneecdploaa", sum := "8cafd968a4652ab510d5a5e364ba380131869204530b2196e1df07bfda82de4c", func := "onionskin/onionskinlaw01.WordSigns", spec := "wordSigns", apart := false }
def WordSignsSaid : Prop := wordSignsRow.holds Try.pinned (OpenSpec.ofChange wordSignsSpec)

/-- ITS FALSE NEIGHBOUR: 'it returns false'. Refute it at one input. -/
def wordSignsWrong : ChangeSpec := { name := "wordSigns", fn := fun _ => fun
  | [d1, d2] => { results := [.lit (.bool false)], args := [d1, d2] }
  | _ => none }
def WordSignsWrongFalsely : Prop := wordSignsRow.holds Try.pinned (OpenSpec.ofChange wordSignsWrong)

/-- 'onionskinlaw01.WordBytes': WHATEVER THE INPUT: true; the input reads as it did. -/
def wordBytesSpec : ChangeSpec := { name := "wordBytes", fn := fun _ => fun
  | [d1, d2, d3, d4] => { results := [.lit (.bool true)], args := [d1, d2, d3, d4] }
  | _ => none }
def wordBytesRow : OpenClaim := { program := "ytaefaneecdploaa", sum := "8cafd968a4652ab510d5a5e364ba380131869204530b2196e1df07bfda82de4c", func := "onionskin/onionskinlaw01.WordBytes", spec := "wordBytes", apart := false }
def WordBytesSaid : Prop := wordBytesRow.holds Try.pinned (OpenSpec.ofChange wordBytesSpec)

/-- ITS FALSE NEIGHBOUR: 'it returns false'. Refute it at one input. -/
def wordBytesWrong : ChangeSpec := { name := "wordBytes", fn := fun _ => fun
  | [d1, d2, d3, d4] => { results := [.lit (.bool false)], args := [d1, d2, d3, d4] }
  | _ => none }
def WordBytesWrongFalsely : Prop := wordBytesRow.holds Try.pinned (OpenSpec.ofChange wordBytesWrong)

/-- 'onionskinlaw01.WordFlat': WHATEVER THE INPUT: true; the input reads as it did. -/
def wordFlatSpec : ChangeSpec := { name := "wordFlat", fn := fun _ => fun
  | [d] => { results := [.lit (.bool true)], args := [d] }
  | _ => none }
def wordFlatRow : OpenClaim := { program := "ytaefaneecdploaa", sum := "8cafd968a4652ab510d5a5e364ba380131869204530b2196e1df07bfda82de4c", func := "onionskin/onionskinlaw01.WordFlat", spec := "wordFlat", apart := false }
def WordFlatSaid : Prop := wordFlatRow.holds Try.pinned (OpenSpec.ofChange wordFlatSpec)

/-- ITS FALSE NEIGHBOUR: 'it returns false'. Refute it at one input. -/
def wordFlatWrong : ChangeSpec := { name := "wordFlat", fn := fun _ => fun
  | [d] => { results := [.lit (.bool false)], args := [d] }
  | _ => none }
def WordFlatWrongFalsely : Prop := wordFlatRow.holds Try.pinned (OpenSpec.ofChange wordFlatWrong)

/-- 'onionskinlaw01.WordWords': WHATEVER THE INPUT: true; the input reads as it did. -/
def wordWordsSpec : ChangeSpec := { name := "wordWords", fn := fun _ => fun
  | [d] => { results := [.lit (.bool true)], args := [d] }
  | _ => none }
def wordWordsRow : OpenClaim := { program := "ytaefaneecdploaa", sum := "8cafd968a4652ab510d5a5e364ba380131869204530b2196e1df07bfda82de4c", func := "onionskin/onionskinlaw01.WordWords", spec := "wordWords", apart := false }
def WordWordsSaid : Prop := wordWordsRow.holds Try.pinned (OpenSpec.ofChange wordWordsSpec)

/-- ITS FALSE NEIGHBOUR: 'it returns false'. Refute it at one input. -/
def wordWordsWrong : ChangeSpec := { name := "wordWords", fn := fun _ => fun
  | [d] => { results := [.lit (.bool false)], args := [d] }
  | _ => none }
def WordWordsWrongFalsely : Prop := wordWordsRow.holds Try.pinned (OpenSpec.ofChange wordWordsWrong)

/-- 'onionskinlaw23.SuperNone': WHATEVER THE INPUT: true; the input reads as it did. -/
def superNoneSpec : ChangeSpec := { name := "superNone", fn := fun _ => fun
  | [d] => { results := [.lit (.bool true)], args := [d] }
  | _ => none }
def superNoneRow : OpenClaim := { program := "ytaefaneecdploaa", sum := "8cafd968a4652ab510d5a5e364ba380131869204530b2196e1df07bfda82de4c", func := "onionskin/onionskinlaw23.SuperNone", spec := "superNone", apart := false }
def SuperNoneSaid : Prop := superNoneRow.holds Try.pinned (OpenSpec.ofChange superNoneSpec)

/-- ITS FALSE NEIGHBOUR: 'it returns false'. Refute it at one input. -/
def superNoneWrong : ChangeSpec := { name := "superNone", fn := fun _ => fun
  | [d] => { results := [.lit (.bool false)], args := [d] }
  | _ => none }
def SuperNoneWrongFalsely : Prop := superNoneRow.holds Try.pinned (OpenSpec.ofChange superNoneWrong)

/-- 'onionskinlaw23.SuperParts': WHATEVER THE INPUT: true; the input reads as it did. -/
def superPartsSpec : ChangeSpec := { name := "superParts", fn := fun _ => fun
  | [d1, d2] => { results := [.lit (.bool true)], args := [d1, d2] }
  | _ => none }
def superPartsRow : OpenClaim := { program := "ytaefaneecdploaa", sum := "8cafd968a4652ab510d5a5e364ba380131869204530b2196e1df07bfda82de4c", func := "onionskin/onionskinlaw23.SuperParts", spec := "superParts", apart := false }
def SuperPartsSaid : Prop := superPartsRow.holds Try.pinned (OpenSpec.ofChange superPartsSpec)

/-- ITS FALSE NEIGHBOUR: 'it returns false'. Refute it at one input. -/
def superPartsWrong : ChangeSpec := { name := "superParts", fn := fun _ => fun
  | [d1, d2] => { results := [.lit (.bool false)], args := [d1, d2] }
  | _ => none }
def SuperPartsWrongFalsely : Prop := superPartsRow.holds Try.pinned (OpenSpec.ofChange superPartsWrong)

/-- 'onionskinlaw23.SuperCodes': WHATEVER THE INPUT: true; the input reads as it did. -/
def superCodesSpec : ChangeSpec := { name := "superCodes", fn := fun _ => fun
  | [d1, d2] => { results := [.lit (.bool true)], args := [d1, d2] }
  | _ => none }
def superCodesRow : OpenClaim := { program := "ytaefaneecdploaa", sum := "8cafd968a4652ab510d5a5e364ba380131869204530b2196e1df07bfda82de4c", func := "onionskin/onionskinlaw23.SuperCodes", spec := "superCodes", apart := false }
def SuperCodesSaid : Prop := superCodesRow.holds Try.pinned (OpenSpec.ofChange superCodesSpec)

/-- ITS FALSE NEIGHBOUR: 'it returns false'. Refute it at one input. -/
def superCodesWrong : ChangeSpec := { name := "superCodes", fn := fun _ => fun
  | [d1, d2] => { results := [.lit (.bool false)], args := [d1, d2] }
  | _ => none }
def SuperCodesWrongFalsely : Prop := superCodesRow.holds Try.pinned (OpenSpec.ofChange superCodesWrong)

/-- 'onionskinlaw32.ImageCodes': WHATEVER THE INPUT: true; the input reads as it did. -/
def imageCodesSpec : ChangeSpec := { name := "imageCodes", fn := fun _ => fun
  | [d] => { results := [.lit (.bool true)], args := [d] }
  | _ => none }
def imageCodesRow : OpenClaim := { program := "ytaefaneecdploaa", sum := "8cafd968a4652ab510d5a5e364ba380131869204530b2196e1df07bfda82de4c", func := "onionskin/onionskinlaw32.ImageCodes", spec := "imageCodes", apart := false }
def ImageCodesSaid : Prop := imageCodesRow.holds Try.pinned (OpenSpec.ofChange imageCodesSpec)

/-- ITS FALSE NEIGHBOUR: 'it returns false'. Refute it at one input. -/
def imageCodesWrong : ChangeSpec := { name := "imageCodes", fn := fun _ => fun
  | [d] => { results := [.lit (.bool false)], args := [d] }
  | _ => none }
def ImageCodesWrongFalsely : Prop := imageCodesRow.holds Try.pinned (OpenSpec.ofChange imageCodesWrong)

/-- 'onionskinlaw32.ImageDecodes': WHATEVER THE INPUT: true; the input reads as it did. -/
def imageDecodesSpec : ChangeSpec := { name := "imageDecodes", fn := fun _ => fun
  | [d] => { results := [.lit (.bool true)], args := [d] }
  | _ => none }
def imageDecodesRow : OpenClaim := { program := "ytaefaneecdploaa", sum := "8cafd968a4652ab510d5a5e364ba380131869204530b2196e1df07bfda82de4c", func := "onionskin/onionskinlaw32.ImageDecodes", spec := "imageDecodes", apart := false }
def ImageDecodesSaid : Prop := imageDecodesRow.holds Try.pinned (OpenSpec.ofChange imageDecodesSpec)

/-- ITS FALSE NEIGHBOUR: 'it returns false'. Refute it at one input. -/
def imageDecodesWrong : ChangeSpec := { name := "imageDecodes", fn := fun _ => fun
  | [d] => { results := [.lit (.bool false)], args := [d] }
  | _ => none }
def ImageDecodesWrongFalsely : Prop := imageDecodesRow.holds Try.pinned (OpenSpec.ofChange imageDecodesWrong)

/- THE SECOND FORM. 'bulk': how many values and letters a reading holds, each counted each time it is reached (what is shared counts as often as it is met; a slice's spare places count too). A statement '..UptoSaid' is the law's where the arguments, and the package variables that the reading takes, are together of bulk at most 1048576: NARROWER than '..Said'. Prove '..Said' where nothing that the law and all that it calls make is longer than what came in: it says more and counts as full. Else prove '..UptoSaid'. A law counts once. -/
mutual
def uptoBulk {H : Type} : DataW H → Nat
  | .lit (.string bytes) => bytes.length + 1
  | .lit _ => 1
  | .nil => 1
  | .ptr d => uptoBulk d + 1
  | .slice elems spare => uptoBulkAll elems + uptoBulkAll spare + 1
  | .agg parts => uptoBulkAll parts + 1
  | .iface _ d => uptoBulk d + 1
  | .map entries => uptoBulkEntries entries + 1
  | .held _ => 1
def uptoBulkAll {H : Type} : List (DataW H) → Nat
  | [] => 0
  | d :: r => uptoBulk d + uptoBulkAll r
def uptoBulkEntries {H : Type} : List (Lit × DataW H) → Nat
  | [] => 0
  | x :: r => uptoBulkEntry x + uptoBulkEntries r
def uptoBulkEntry {H : Type} : Lit × DataW H → Nat
  | (.string bytes, d) => bytes.length + uptoBulk d + 1
  | (_, d) => uptoBulk d + 1
 end
def uptoSmall : (H : Type) → List (DataW H) → Bool := fun _ ds => decide (uptoBulkAll ds ≤ 1048576)
def OpenSpec.upto (s : _root_.Go.ChangeSpec) : _root_.Go.OpenSpec := { _root_.Go.OpenSpec.ofChange s with cond := some uptoSmall }

/-- 'onionskinlaw01.WordSigns', WHERE WHAT IT READS IS OF BULK AT MOST 1048576: true; the input reads as it did. -/
def wordSignsUptoRow : OpenClaim := { program := "ytaefaneecdploaa", sum := "8cafd968a4652ab510d5a5e364ba380131869204530b2196e1df07bfda82de4c", func := "onionskin/onionskinlaw01.WordSigns", spec := "wordSigns", apart := false, narrowed := true }
def WordSignsUptoSaid : Prop := wordSignsUptoRow.holds Try.pinned (OpenSpec.upto wordSignsSpec)

/-- 'onionskinlaw01.WordBytes', WHERE WHAT IT READS IS OF BULK AT MOST 1048576: true; the input reads as it did. -/
def wordBytesUptoRow : OpenClaim := { program := "ytaefaneecdploaa", sum := "8cafd968a4652ab510d5a5e364ba380131869204530b2196e1df07bfda82de4c", func := "onionskin/onionskinlaw01.WordBytes", spec := "wordBytes", apart := false, narrowed := true }
def WordBytesUptoSaid : Prop := wordBytesUptoRow.holds Try.pinned (OpenSpec.upto wordBytesSpec)

/-- 'onionskinlaw01.WordFlat', WHERE WHAT IT READS IS OF BULK AT MOST 1048576: true; the input reads as it did. -/
def wordFlatUptoRow : OpenClaim := { program := "ytaefaneecdploaa", sum := "8cafd968a4652ab510d5a5e364ba380131869204530b2196e1df07bfda82de4c", func := "onionskin/onionskinlaw01.WordFlat", spec := "wordFlat", apart := false, narrowed := true }
def WordFlatUptoSaid : Prop := wordFlatUptoRow.holds Try.pinned (OpenSpec.upto wordFlatSpec)

/-- 'onionskinlaw01.WordWords', WHERE WHAT IT READS IS OF BULK AT MOST 1048576: true; the input reads as it did. -/
def wordWordsUptoRow : OpenClaim := { program := "ytaefaneecdploaa", sum := "8cafd968a4652ab510d5a5e364ba380131869204530b2196e1df07bfda82de4c", func := "onionskin/onionskinlaw01.WordWords", spec := "wordWords", apart := false, narrowed := true }
def WordWordsUptoSaid : Prop := wordWordsUptoRow.holds Try.pinned (OpenSpec.upto wordWordsSpec)

/-- 'onionskinlaw23.SuperNone', WHERE WHAT IT READS IS OF BULK AT MOST 1048576: true; the input reads as it did. -/
def superNoneUptoRow : OpenClaim := { program := "ytaefaneecdploaa", sum := "8cafd968a4652ab510d5a5e364ba380131869204530b2196e1df07bfda82de4c", func := "onionskin/onionskinlaw23.SuperNone", spec := "superNone", apart := false, narrowed := true }
def SuperNoneUptoSaid : Prop := superNoneUptoRow.holds Try.pinned (OpenSpec.upto superNoneSpec)

/-- 'onionskinlaw23.SuperParts', WHERE WHAT IT READS IS OF BULK AT MOST 1048576: true; the input reads as it did. -/
def superPartsUptoRow : OpenClaim := { program := "ytaefaneecdploaa", sum := "8cafd968a4652ab510d5a5e364ba380131869204530b2196e1df07bfda82de4c", func := "onionskin/onionskinlaw23.SuperParts", spec := "superParts", apart := false, narrowed := true }
def SuperPartsUptoSaid : Prop := superPartsUptoRow.holds Try.pinned (OpenSpec.upto superPartsSpec)

/-- 'onionskinlaw23.SuperCodes', WHERE WHAT IT READS IS OF BULK AT MOST 1048576: true; the input reads as it did. -/
def superCodesUptoRow : OpenClaim := { program := "ytaefaneecdploaa", sum := "8cafd968a4652ab510d5a5e364ba380131869204530b2196e1df07bfda82de4c", func := "onionskin/onionskinlaw23.SuperCodes", spec := "superCodes", apart := false, narrowed := true }
def SuperCodesUptoSaid : Prop := superCodesUptoRow.holds Try.pinned (OpenSpec.upto superCodesSpec)

/-- 'onionskinlaw32.ImageCodes', WHERE WHAT IT READS IS OF BULK AT MOST 1048576: true; the input reads as it did. -/
def imageCodesUptoRow : OpenClaim := { program := "ytaefaneecdploaa", sum := "8cafd968a4652ab510d5a5e364ba380131869204530b2196e1df07bfda82de4c", func := "onionskin/onionskinlaw32.ImageCodes", spec := "imageCodes", apart := false, narrowed := true }
def ImageCodesUptoSaid : Prop := imageCodesUptoRow.holds Try.pinned (OpenSpec.upto imageCodesSpec)

/-- 'onionskinlaw32.ImageDecodes', WHERE WHAT IT READS IS OF BULK AT MOST 1048576: true; the input reads as it did. -/
def imageDecodesUptoRow : OpenClaim := { program := "ytaefaneecdploaa", sum := "8cafd968a4652ab510d5a5e364ba380131869204530b2196e1df07bfda82de4c", func := "onionskin/onionskinlaw32.ImageDecodes", spec := "imageDecodes", apart := false, narrowed := true }
def ImageDecodesUptoSaid : Prop := imageDecodesUptoRow.holds Try.pinned (OpenSpec.upto imageDecodesSpec)

end Rows
end Go.Proofs.Ytaefaneecdploaa
