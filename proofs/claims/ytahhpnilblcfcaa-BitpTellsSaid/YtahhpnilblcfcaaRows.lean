/-
  No cell of these rows narrows 'for every input' (looked for: loops, veiled, ifaces, maps, wideKeys, modest, calm, conditions, laid).
  DERIVED. THE GIVEN ROWS OF THIS SEAT. 8 by the template 'for every input the law returns true; each argument reads behind the call as it read before'; 0 by the template 'total and deterministic' (their statements: YtahhpnilblcfcaaTotals.lean).
  GIVEN WITH THE SEED: the statements are not yours to turn. If you find one false, say at which input.
  Laid BY PROGRAM, IN A SANDBOX (cutbox-rows.mjs): the forced cells as the released guide's own fill.sh prints them over the translation bc796bb5edd996ea… (all of the seat's roots in one cut). By AI agents, Wed Nov 11 2026. No macro, syntax, notation, axiom, sorry.
-/
import Derived.Test.YtahhpnilblcfcaaChecked
import GoSem.Claim
import GoSem.ClaimJoined
import GoSem.ClaimMapViews
import Derived.JoinedTies
import Derived.KernelRfl
namespace Go.Proofs.Ytahhpnilblcfcaa
/- THE CELL 'sum', in the pinned program and in every row, IS THE sha256 OF THE DUMP (.gsa) THAT YtahhpnilblcfcaaProg.lean LOADS. Nothing in Lean hashes anything: it is a label: what it is worth is what the hold of that sum in a sandbox is worth. -/
noncomputable def Try.pinned : Pinned := { name := "ytahhpnilblcfcaa", sum := "bc796bb5edd996eae9ecea377988ff065b257e70213cc93303202b2698bce45d", checked := Try.checked }
namespace Rows
def none {H : Type} : Left H := { results := [], args := [] }

/-- 'colonnadelaw2.CodeForms': WHATEVER THE INPUT: true; the input reads as it did. -/
def codeFormsSpec : ChangeSpec := { name := "codeForms", fn := fun _ => fun
  | [d] => { results := [.lit (.bool true)], args := [d] }
  | _ => none }
def codeFormsRow : OpenClaim := { program := "ytahhpnilblcfcaa", sum := "bc796bb5edd996eae9ecea377988ff065b257e70213cc93303202b2698bce45d", func := "colonnade/colonnadelaw2.CodeForms", spec := "codeForms", apart := false }
def CodeFormsSaid : Prop := codeFormsRow.holds Try.pinned (OpenSpec.ofChange codeFormsSpec)

/-- ITS FALSE NEIGHBOUR: 'it returns false'. Refute it at one input. -/
def codeFormsWrong : ChangeSpec := { name := "codeForms", fn := fun _ => fun
  | [d] => { results := [.lit (.bool false)], args := [d] }
  | _ => none }
def CodeFormsWrongFalsely : Prop := codeFormsRow.holds Try.pinned (OpenSpec.ofChange codeFormsWrong)

/-- 'colonnadelaw2.CodeZigs': WHATEVER THE INPUT: true; the input reads as it did. -/
def codeZigsSpec : ChangeSpec := { name := "codeZigs", fn := fun _ => fun
  | [d] => { results := [.lit (.bool true)], args := [d] }
  | _ => none }
def codeZigsRow : OpenClaim := { program := "ytahhpnilblcfcaa", sum := "bc796bb5edd996eae9ecea377988ff065b257e70213cc93303202b2698bce45d", func := "colonnade/colonnadelaw2.CodeZigs", spec := "codeZigs", apart := false }
def CodeZigsSaid : Prop := codeZigsRow.holds Try.pinned (OpenSpec.ofChange codeZigsSpec)

/-- ITS FALSE NEIGHBOUR: 'it returns false'. Refute it at one input. -/
def codeZigsWrong : ChangeSpec := { name := "codeZigs", fn := fun _ => fun
  | [d] => { results := [.lit (.bool false)], args := [d] }
  | _ => none }
def CodeZigsWrongFalsely : Prop := codeZigsRow.holds Try.pinned (OpenSpec.ofChange codeZigsWrong)

/-- 'colonnadelaw2.CodeRows': WHATEVER THE INPUT: true; the input reads as it did. -/
def codeRowsSpec : ChangeSpec := { name := "codeRows", fn := fun _ => fun
  | [d1, d2, d3] => { results := [.lit (.bool true)], args := [d1, d2, d3] }
  | _ => none }
def codeRowsRow : OpenClaim := { program := "ytahhpnilblcfcaa", sum := "bc796bb5edd996eae9ecea377988ff065b257e70213cc93303202b2698bce45d", func := "colonnade/colonnadelaw2.CodeRows", spec := "codeRows", apart := false }
def CodeRowsSaid : Prop := codeRowsRow.holds Try.pinned (OpenSpec.ofChange codeRowsSpec)

/-- ITS FALSE NEIGHBOUR: 'it returns false'. Refute it at one input. -/
def codeRowsWrong : ChangeSpec := { name := "codeRows", fn := fun _ => fun
  | [d1, d2, d3] => { results := [.lit (.bool false)], args := [d1, d2, d3] }
  | _ => none }
def CodeRowsWrongFalsely : Prop := codeRowsRow.holds Try.pinned (OpenSpec.ofChange codeRowsWrong)

/-- 'colonnadelaw1.BitpForms': WHATEVER THE INPUT: true; the input reads as it did. -/
def bitpFormsSpec : ChangeSpec := { name := "bitpForms", fn := fun _ => fun
  | [d] => { results := [.lit (.bool true)], args := [d] }
  | _ => none }
def bitpFormsRow : OpenClaim := { program := "ytahhpnilblcfcaa", sum := "bc796bb5edd996eae9ecea377988ff065b257e70213cc93303202b2698bce45d", func := "colonnade/colonnadelaw1.BitpForms", spec := "bitpForms", apart := false }
def BitpFormsSaid : Prop := bitpFormsRow.holds Try.pinned (OpenSpec.ofChange bitpFormsSpec)

/-- ITS FALSE NEIGHBOUR: 'it returns false'. Refute it at one input. -/
def bitpFormsWrong : ChangeSpec := { name := "bitpForms", fn := fun _ => fun
  | [d] => { results := [.lit (.bool false)], args := [d] }
  | _ => none }
def BitpFormsWrongFalsely : Prop := bitpFormsRow.holds Try.pinned (OpenSpec.ofChange bitpFormsWrong)

/-- 'colonnadelaw1.BitpWidths': WHATEVER THE INPUT: true; the input reads as it did. -/
def bitpWidthsSpec : ChangeSpec := { name := "bitpWidths", fn := fun _ => fun
  | [d] => { results := [.lit (.bool true)], args := [d] }
  | _ => none }
def bitpWidthsRow : OpenClaim := { program := "ytahhpnilblcfcaa", sum := "bc796bb5edd996eae9ecea377988ff065b257e70213cc93303202b2698bce45d", func := "colonnade/colonnadelaw1.BitpWidths", spec := "bitpWidths", apart := false }
def BitpWidthsSaid : Prop := bitpWidthsRow.holds Try.pinned (OpenSpec.ofChange bitpWidthsSpec)

/-- ITS FALSE NEIGHBOUR: 'it returns false'. Refute it at one input. -/
def bitpWidthsWrong : ChangeSpec := { name := "bitpWidths", fn := fun _ => fun
  | [d] => { results := [.lit (.bool false)], args := [d] }
  | _ => none }
def BitpWidthsWrongFalsely : Prop := bitpWidthsRow.holds Try.pinned (OpenSpec.ofChange bitpWidthsWrong)

/-- 'colonnadelaw1.BitpOwn': WHATEVER THE INPUT: true; the input reads as it did. -/
def bitpOwnSpec : ChangeSpec := { name := "bitpOwn", fn := fun _ => fun
  | [d1, d2, d3, d4] => { results := [.lit (.bool true)], args := [d1, d2, d3, d4] }
  | _ => none }
def bitpOwnRow : OpenClaim := { program := "ytahhpnilblcfcaa", sum := "bc796bb5edd996eae9ecea377988ff065b257e70213cc93303202b2698bce45d", func := "colonnade/colonnadelaw1.BitpOwn", spec := "bitpOwn", apart := false }
def BitpOwnSaid : Prop := bitpOwnRow.holds Try.pinned (OpenSpec.ofChange bitpOwnSpec)

/-- ITS FALSE NEIGHBOUR: 'it returns false'. Refute it at one input. -/
def bitpOwnWrong : ChangeSpec := { name := "bitpOwn", fn := fun _ => fun
  | [d1, d2, d3, d4] => { results := [.lit (.bool false)], args := [d1, d2, d3, d4] }
  | _ => none }
def BitpOwnWrongFalsely : Prop := bitpOwnRow.holds Try.pinned (OpenSpec.ofChange bitpOwnWrong)

/-- 'colonnadelaw1.BitpTells': WHATEVER THE INPUT: true; the input reads as it did. -/
def bitpTellsSpec : ChangeSpec := { name := "bitpTells", fn := fun _ => fun
  | [d1, d2, d3, d4, d5, d6, d7] => { results := [.lit (.bool true)], args := [d1, d2, d3, d4, d5, d6, d7] }
  | _ => none }
def bitpTellsRow : OpenClaim := { program := "ytahhpnilblcfcaa", sum := "bc796bb5edd996eae9ecea377988ff065b257e70213cc93303202b2698bce45d", func := "colonnade/colonnadelaw1.BitpTells", spec := "bitpTells", apart := false }
def BitpTellsSaid : Prop := bitpTellsRow.holds Try.pinned (OpenSpec.ofChange bitpTellsSpec)

/-- ITS FALSE NEIGHBOUR: 'it returns false'. Refute it at one input. -/
def bitpTellsWrong : ChangeSpec := { name := "bitpTells", fn := fun _ => fun
  | [d1, d2, d3, d4, d5, d6, d7] => { results := [.lit (.bool false)], args := [d1, d2, d3, d4, d5, d6, d7] }
  | _ => none }
def BitpTellsWrongFalsely : Prop := bitpTellsRow.holds Try.pinned (OpenSpec.ofChange bitpTellsWrong)

/-- 'colonnadelaw1.BitpBack': WHATEVER THE INPUT: true; the input reads as it did. -/
def bitpBackSpec : ChangeSpec := { name := "bitpBack", fn := fun _ => fun
  | [d1, d2] => { results := [.lit (.bool true)], args := [d1, d2] }
  | _ => none }
def bitpBackRow : OpenClaim := { program := "ytahhpnilblcfcaa", sum := "bc796bb5edd996eae9ecea377988ff065b257e70213cc93303202b2698bce45d", func := "colonnade/colonnadelaw1.BitpBack", spec := "bitpBack", apart := false }
def BitpBackSaid : Prop := bitpBackRow.holds Try.pinned (OpenSpec.ofChange bitpBackSpec)

/-- ITS FALSE NEIGHBOUR: 'it returns false'. Refute it at one input. -/
def bitpBackWrong : ChangeSpec := { name := "bitpBack", fn := fun _ => fun
  | [d1, d2] => { results := [.lit (.bool false)], args := [d1, d2] }
  | _ => none }
def BitpBackWrongFalsely : Prop := bitpBackRow.holds Try.pinned (OpenSpec.ofChange bitpBackWrong)

/- THE SECOND FORM. 'bulk': how many values and letters a reading holds, each counted each time it is reached (what is shared counts as often as it is met; a slice's spare places count too). A statement '..UptoSaid' is the law's where the arguments, and the package variables that the reading takes, are together of bulk at most 1048576: NARROWER than '..Said'. Prove '..Said' where nothing that the law and all that it calls make is longer than what came in: it says more and counts as full. Else prove '..UptoSaid'. A law counts once. -/
mutual
def uptoBulk {H : Type} : DataW H → Nat
  | .lit (.string bytes) => bytes.length + 1
  | .lit _ => 1
  | .nil => 1
  | .ptr d => uptoBulk d + 1
  | .slice elems spare => uptoBulkAll elems + uptoBulkAll spare + 1
  | .agg parts => uptoBulkAll parts + 1
  | .iface _ d => uptoBulk d + 1
  | .map entries => uptoBulkEntries entries + 1
  | .held _ => 1
def uptoBulkAll {H : Type} : List (DataW H) → Nat
  | [] => 0
  | d :: r => uptoBulk d + uptoBulkAll r
def uptoBulkEntries {H : Type} : List (Lit × DataW H) → Nat
  | [] => 0
  | x :: r => uptoBulkEntry x + uptoBulkEntries r
def uptoBulkEntry {H : Type} : Lit × DataW H → Nat
  | (.string bytes, d) => bytes.length + uptoBulk d + 1
  | (_, d) => uptoBulk d + 1
 end
def uptoSmall : (H : Type) → List (DataW H) → Bool := fun _ ds => decide (uptoBulkAll ds ≤ 1048576)
def OpenSpec.upto (s : _root_.Go.ChangeSpec) : _root_.Go.OpenSpec := { _root_.Go.OpenSpec.ofChange s with cond := some uptoSmall }

/-- 'colonnadelaw2.CodeForms', WHERE WHAT IT READS IS OF BULK AT MOST 1048576: true; the input reads as it did. -/
def codeFormsUptoRow : OpenClaim := { program := "ytahhpnilblcfcaa", sum := "bc796bb5edd996eae9ecea377988ff065b257e70213cc93303202b2698bce45d", func := "colonnade/colonnadelaw2.CodeForms", spec := "codeForms", apart := false, narrowed := true }
def CodeFormsUptoSaid : Prop := codeFormsUptoRow.holds Try.pinned (OpenSpec.upto codeFormsSpec)

/-- 'colonnadelaw2.CodeZigs', WHERE WHAT IT READS IS OF BULK AT MOST 1048576: true; the input reads as it did. -/
def codeZigsUptoRow : OpenClaim := { program := "ytahhpnilblcfcaa", sum := "bc796bb5edd996eae9ecea377988ff065b257e70213cc93303202b2698bce45d", func := "colonnade/colonnadelaw2.CodeZigs", spec := "codeZigs", apart := false, narrowed := true }
def CodeZigsUptoSaid : Prop := codeZigsUptoRow.holds Try.pinned (OpenSpec.upto codeZigsSpec)

/-- 'colonnadelaw2.CodeRows', WHERE WHAT IT READS IS OF BULK AT MOST 1048576: true; the input reads as it did. -/
def codeRowsUptoRow : OpenClaim := { program := "ytahhpnilblcfcaa", sum := "bc796bb5edd996eae9ecea377988ff065b257e70213cc93303202b2698bce45d", func := "colonnade/colonnadelaw2.CodeRows", spec := "codeRows", apart := false, narrowed := true }
def CodeRowsUptoSaid : Prop := codeRowsUptoRow.holds Try.pinned (OpenSpec.upto codeRowsSpec)

/-- 'colonnadelaw1.BitpForms', WHERE WHAT IT READS IS OF BULK AT MOST 1048576: true; the input reads as it did. -/
def bitpFormsUptoRow : OpenClaim := { program := "ytahhpnilblcfcaa", sum := "bc796bb5edd996eae9ecea377988ff065b257e70213cc93303202b2698bce45d", func := "colonnade/colonnadelaw1.BitpForms", spec := "bitpForms", apart := false, narrowed := true }
def BitpFormsUptoSaid : Prop := bitpFormsUptoRow.holds Try.pinned (OpenSpec.upto bitpFormsSpec)

/-- 'colonnadelaw1.BitpWidths', WHERE WHAT IT READS IS OF BULK AT MOST 1048576: true; the input reads as it did. -/
def bitpWidthsUptoRow : OpenClaim := { program := "ytahhpnilblcfcaa", sum := "bc796bb5edd996eae9ecea377988ff065b257e70213cc93303202b2698bce45d", func := "colonnade/colonnadelaw1.BitpWidths", spec := "bitpWidths", apart := false, narrowed := true }
def BitpWidthsUptoSaid : Prop := bitpWidthsUptoRow.holds Try.pinned (OpenSpec.upto bitpWidthsSpec)

/-- 'colonnadelaw1.BitpOwn', WHERE WHAT IT READS IS OF BULK AT MOST 1048576: true; the input reads as it did. -/
def bitpOwnUptoRow : OpenClaim := { program := "ytahhpnilblcfcaa", sum := "bc796bb5edd996eae9ecea377988ff065b257e70213cc93303202b2698bce45d", func := "colonnade/colonnadelaw1.BitpOwn", spec := "bitpOwn", apart := false, narrowed := true }
def BitpOwnUptoSaid : Prop := bitpOwnUptoRow.holds Try.pinned (OpenSpec.upto bitpOwnSpec)

/-- 'colonnadelaw1.BitpTells', WHERE WHAT IT READS IS OF BULK AT MOST 1048576: true; the input reads as it did. -/
def bitpTellsUptoRow : OpenClaim := { program := "ytahhpnilblcfcaa", sum := "bc796bb5edd996eae9ecea377988ff065b257e70213cc93303202b2698bce45d", func := "colonnade/colonnadelaw1.BitpTells", spec := "bitpTells", apart := false, narrowed := true }
def BitpTellsUptoSaid : Prop := bitpTellsUptoRow.holds Try.pinned (OpenSpec.upto bitpTellsSpec)

/-- 'colonnadelaw1.BitpBack', WHERE WHAT IT READS IS OF BULK AT MOST 1048576: true; the input reads as it did. -/
def bitpBackUptoRow : OpenClaim := { program := "ytahhpnilblcfcaa", sum := "bc796bb5edd996eae9ecea377988ff065b257e70213cc93303202b2698bce45d", func := "colonnade/colonnadelaw1.BitpBack", spec := "bitpBack", apart := false, narrowed := true }
def BitpBackUptoSaid : Prop := bitpBackUptoRow.holds Try.pinned (OpenSpec.upto bitpBackSpec)

end Rows
end Go.Proofs.Ytahhpnilblcfcaa
