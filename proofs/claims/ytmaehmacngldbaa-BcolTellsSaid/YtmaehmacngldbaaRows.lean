/-
  No cell of these rows narrows 'for every input' (looked for: loops, veiled, ifaces, maps, wideKeys, modest, calm, conditions, laid).
  DERIVED. THE GIVEN ROWS OF THIS SEAT. 5 by the template 'for every input the law returns true; each argument reads behind the call as it read before'; 0 by the template 'total and deterministic' (their statements: YtmaehmacngldbaaTotals.lean).
  GIVEN WITH THE SEED: the statements are not yours to turn. If you find one false, say at which input.
  Laid BY PROGRAM, IN A SANDBOX (cutbox-rows.mjs): the forced cells as the released guide's own fill.sh prints them over the translation 03ed4180d311dff4… (all of the seat's roots in one cut). By AI agents, Wed Nov 11 2026. No macro, syntax, notation, axiom, sorry.
-/
import Derived.Test.YtmaehmacngldbaaChecked
import GoSem.Claim
import GoSem.ClaimJoined
import GoSem.ClaimMapViews
import Derived.JoinedTies
import Derived.KernelRfl
namespace Go.Proofs.Ytmaehmacngldbaa
/- THE CELL 'sum', in the pinned program and in every row, IS THE sha256 OF THE DUMP (.gsa) THAT YtmaehmacngldbaaProg.lean LOADS. Nothing in Lean hashes anything: it is a label: what it is worth is what the hold of that sum in a sandbox is worth. -/
noncomputable def Try.pinned : Pinned := { name := "ytmaehmacngldbaa", sum := "03ed4180d311dff47c363a7d6b703fcd7ae29feab990283c7ac8ced1687ec8b6", checked := Try.checked }
namespace Rows
def none {H : Type} : Left H := { results := [], args := [] }

/-- 'colonnadelaw5.BcolForms': WHATEVER THE INPUT: true; the input reads as it did. -/
def bcolFormsSpec : ChangeSpec := { name := "bcolForms", fn := fun _ => fun
  | [d] => { results := [.lit (.bool true)], args := [d] }
  | _ => none }
def bcolFormsRow : OpenClaim := { program := "ytmaehmacngldbaa", sum := "03ed4180d311dff47c363a7d6b703fcd7ae29feab990283c7ac8ced1687ec8b6", func := "colonnade/colonnadelaw5.BcolForms", spec := "bcolForms", inPlace := ["internal/bytealg.Compare"], unfollowed := true, recurses := true, apart := false }
def BcolFormsSaid : Prop := bcolFormsRow.holds Try.pinned (OpenSpec.ofChange bcolFormsSpec)

/-- ITS FALSE NEIGHBOUR: 'it returns false'. Refute it at one input. -/
def bcolFormsWrong : ChangeSpec := { name := "bcolForms", fn := fun _ => fun
  | [d] => { results := [.lit (.bool false)], args := [d] }
  | _ => none }
def BcolFormsWrongFalsely : Prop := bcolFormsRow.holds Try.pinned (OpenSpec.ofChange bcolFormsWrong)

/-- 'colonnadelaw5.BcolOwn': WHATEVER THE INPUT: true; the input reads as it did. -/
def bcolOwnSpec : ChangeSpec := { name := "bcolOwn", fn := fun _ => fun
  | [d1, d2, d3] => { results := [.lit (.bool true)], args := [d1, d2, d3] }
  | _ => none }
def bcolOwnRow : OpenClaim := { program := "ytmaehmacngldbaa", sum := "03ed4180d311dff47c363a7d6b703fcd7ae29feab990283c7ac8ced1687ec8b6", func := "colonnade/colonnadelaw5.BcolOwn", spec := "bcolOwn", inPlace := ["internal/bytealg.Compare"], unfollowed := true, recurses := true, apart := false }
def BcolOwnSaid : Prop := bcolOwnRow.holds Try.pinned (OpenSpec.ofChange bcolOwnSpec)

/-- ITS FALSE NEIGHBOUR: 'it returns false'. Refute it at one input. -/
def bcolOwnWrong : ChangeSpec := { name := "bcolOwn", fn := fun _ => fun
  | [d1, d2, d3] => { results := [.lit (.bool false)], args := [d1, d2, d3] }
  | _ => none }
def BcolOwnWrongFalsely : Prop := bcolOwnRow.holds Try.pinned (OpenSpec.ofChange bcolOwnWrong)

/-- 'colonnadelaw5.BcolBest': WHATEVER THE INPUT: true; the input reads as it did. -/
def bcolBestSpec : ChangeSpec := { name := "bcolBest", fn := fun _ => fun
  | [d1, d2] => { results := [.lit (.bool true)], args := [d1, d2] }
  | _ => none }
def bcolBestRow : OpenClaim := { program := "ytmaehmacngldbaa", sum := "03ed4180d311dff47c363a7d6b703fcd7ae29feab990283c7ac8ced1687ec8b6", func := "colonnade/colonnadelaw5.BcolBest", spec := "bcolBest", inPlace := ["internal/bytealg.Compare"], unfollowed := true, recurses := true, apart := false }
def BcolBestSaid : Prop := bcolBestRow.holds Try.pinned (OpenSpec.ofChange bcolBestSpec)

/-- ITS FALSE NEIGHBOUR: 'it returns false'. Refute it at one input. -/
def bcolBestWrong : ChangeSpec := { name := "bcolBest", fn := fun _ => fun
  | [d1, d2] => { results := [.lit (.bool false)], args := [d1, d2] }
  | _ => none }
def BcolBestWrongFalsely : Prop := bcolBestRow.holds Try.pinned (OpenSpec.ofChange bcolBestWrong)

/-- 'colonnadelaw5.BcolTells': WHATEVER THE INPUT: true; the input reads as it did. -/
def bcolTellsSpec : ChangeSpec := { name := "bcolTells", fn := fun _ => fun
  | [d1, d2, d3, d4, d5, d6, d7, d8] => { results := [.lit (.bool true)], args := [d1, d2, d3, d4, d5, d6, d7, d8] }
  | _ => none }
def bcolTellsRow : OpenClaim := { program := "ytmaehmacngldbaa", sum := "03ed4180d311dff47c363a7d6b703fcd7ae29feab990283c7ac8ced1687ec8b6", func := "colonnade/colonnadelaw5.BcolTells", spec := "bcolTells", inPlace := ["internal/bytealg.Compare"], unfollowed := true, recurses := true, apart := false }
def BcolTellsSaid : Prop := bcolTellsRow.holds Try.pinned (OpenSpec.ofChange bcolTellsSpec)

/-- ITS FALSE NEIGHBOUR: 'it returns false'. Refute it at one input. -/
def bcolTellsWrong : ChangeSpec := { name := "bcolTells", fn := fun _ => fun
  | [d1, d2, d3, d4, d5, d6, d7, d8] => { results := [.lit (.bool false)], args := [d1, d2, d3, d4, d5, d6, d7, d8] }
  | _ => none }
def BcolTellsWrongFalsely : Prop := bcolTellsRow.holds Try.pinned (OpenSpec.ofChange bcolTellsWrong)

/-- 'colonnadelaw5.BcolBack': WHATEVER THE INPUT: true; the input reads as it did. -/
def bcolBackSpec : ChangeSpec := { name := "bcolBack", fn := fun _ => fun
  | [d1, d2, d3] => { results := [.lit (.bool true)], args := [d1, d2, d3] }
  | _ => none }
def bcolBackRow : OpenClaim := { program := "ytmaehmacngldbaa", sum := "03ed4180d311dff47c363a7d6b703fcd7ae29feab990283c7ac8ced1687ec8b6", func := "colonnade/colonnadelaw5.BcolBack", spec := "bcolBack", inPlace := ["internal/bytealg.Compare"], unfollowed := true, recurses := true, apart := false }
def BcolBackSaid : Prop := bcolBackRow.holds Try.pinned (OpenSpec.ofChange bcolBackSpec)

/-- ITS FALSE NEIGHBOUR: 'it returns false'. Refute it at one input. -/
def bcolBackWrong : ChangeSpec := { name := "bcolBack", fn := fun _ => fun
  | [d1, d2, d3] => { results := [.lit (.bool false)], args := [d1, d2, d3] }
  | _ => none }
def BcolBackWrongFalsely : Prop := bcolBackRow.holds Try.pinned (OpenSpec.ofChange bcolBackWrong)

/- THE SECOND FORM. 'bulk': how many values and letters a reading holds, each counted each time it is reached (what is shared counts as often as it is met; a slice's spare places count too). A statement '..UptoSaid' is the law's where the arguments, and the package variables that the reading takes, are together of bulk at most 1048576: NARROWER than '..Said'. Prove '..Said' where nothing that the law and all that it calls make is longer than what came in: it says more and counts as full. Else prove '..UptoSaid'. A law counts once. -/
mutual
def uptoBulk {H : Type} : DataW H → Nat
  | .lit (.string bytes) => bytes.length + 1
  | .lit _ => 1
  | .nil => 1
  | .ptr d => uptoBulk d + 1
  | .slice elems spare => uptoBulkAll elems + uptoBulkAll spare + 1
  | .agg parts => uptoBulkAll parts + 1
  | .iface _ d => uptoBulk d + 1
  | .map entries => uptoBulkEntries entries + 1
  | .held _ => 1
def uptoBulkAll {H : Type} : List (DataW H) → Nat
  | [] => 0
  | d :: r => uptoBulk d + uptoBulkAll r
def uptoBulkEntries {H : Type} : List (Lit × DataW H) → Nat
  | [] => 0
  | x :: r => uptoBulkEntry x + uptoBulkEntries r
def uptoBulkEntry {H : Type} : Lit × DataW H → Nat
  | (.string bytes, d) => bytes.length + uptoBulk d + 1
  | (_, d) => uptoBulk d + 1
 end
def uptoSmall : (H : Type) → List (DataW H) → Bool := fun _ ds => decide (uptoBulkAll ds ≤ 1048576)
def OpenSpec.upto (s : _root_.Go.ChangeSpec) : _root_.Go.OpenSpec := { _root_.Go.OpenSpec.ofChange s with cond := some uptoSmall }

/-- 'colonnadelaw5.BcolForms', WHERE WHAT IT READS IS OF BULK AT MOST 1048576: true; the input reads as it did. -/
def bcolFormsUptoRow : OpenClaim := { program := "ytmaehmacngldbaa", sum := "03ed4180d311dff47c363a7d6b703fcd7ae29feab990283c7ac8ced1687ec8b6", func := "colonnade/colonnadelaw5.BcolForms", spec := "bcolForms", inPlace := ["internal/bytealg.Compare"], unfollowed := true, recurses := true, apart := false, narrowed := true }
def BcolFormsUptoSaid : Prop := bcolFormsUptoRow.holds Try.pinned (OpenSpec.upto bcolFormsSpec)

/-- 'colonnadelaw5.BcolOwn', WHERE WHAT IT READS IS OF BULK AT MOST 1048576: true; the input reads as it did. -/
def bcolOwnUptoRow : OpenClaim := { program := "ytmaehmacngldbaa", sum := "03ed4180d311dff47c363a7d6b703fcd7ae29feab990283c7ac8ced1687ec8b6", func := "colonnade/colonnadelaw5.BcolOwn", spec := "bcolOwn", inPlace := ["internal/bytealg.Compare"], unfollowed := true, recurses := true, apart := false, narrowed := true }
def BcolOwnUptoSaid : Prop := bcolOwnUptoRow.holds Try.pinned (OpenSpec.upto bcolOwnSpec)

/-- 'colonnadelaw5.BcolBest', WHERE WHAT IT READS IS OF BULK AT MOST 1048576: true; the input reads as it did. -/
def bcolBestUptoRow : OpenClaim := { program := "ytmaehmacngldbaa", sum := "03ed4180d311dff47c363a7d6b703fcd7ae29feab990283c7ac8ced1687ec8b6", func := "colonnade/colonnadelaw5.BcolBest", spec := "bcolBest", inPlace := ["internal/bytealg.Compare"], unfollowed := true, recurses := true, apart := false, narrowed := true }
def BcolBestUptoSaid : Prop := bcolBestUptoRow.holds Try.pinned (OpenSpec.upto bcolBestSpec)

/-- 'colonnadelaw5.BcolTells', WHERE WHAT IT READS IS OF BULK AT MOST 1048576: true; the input reads as it did. -/
def bcolTellsUptoRow : OpenClaim := { program := "ytmaehmacngldbaa", sum := "03ed4180d311dff47c363a7d6b703fcd7ae29feab990283c7ac8ced1687ec8b6", func := "colonnade/colonnadelaw5.BcolTells", spec := "bcolTells", inPlace := ["internal/bytealg.Compare"], unfollowed := true, recurses := true, apart := false, narrowed := true }
def BcolTellsUptoSaid : Prop := bcolTellsUptoRow.holds Try.pinned (OpenSpec.upto bcolTellsSpec)

/-- 'colonnadelaw5.BcolBack', WHERE WHAT IT READS IS OF BULK AT MOST 1048576: true; the input reads as it did. -/
def bcolBackUptoRow : OpenClaim := { program := "ytmaehmacngldbaa", sum := "03ed4180d311dff47c363a7d6b703fcd7ae29feab990283c7ac8ced1687ec8b6", func := "colonnade/colonnadelaw5.BcolBack", spec := "bcolBack", inPlace := ["internal/bytealg.Compare"], unfollowed := true, recurses := true, apart := false, narrowed := true }
def BcolBackUptoSaid : Prop := bcolBackUptoRow.holds Try.pinned (OpenSpec.upto bcolBackSpec)

end Rows
end Go.Proofs.Ytmaehmacngldbaa
