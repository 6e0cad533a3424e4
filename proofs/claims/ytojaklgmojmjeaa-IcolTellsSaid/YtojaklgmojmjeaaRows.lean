/-
  No cell of these rows narrows 'for every input' (looked for: loops, veiled, ifaces, maps, wideKeys, modest, calm, conditions, laid).
  DERIVED. THE GIVEN ROWS OF THIS SEAT. 5 by the template 'for every input the law returns true; each argument reads behind the call as it read before'; 0 by the template 'total and deterministic' (their statements: YtojaklgmojmjeaaTotals.lean).
  GIVEN WITH THE SEED: the statements are not yours to turn. If you find one false, say at which input.
  Laid BY PROGRAM, IN A SANDBOX (cutbox-rows.mjs): the forced cells as the released guide's own fill.sh prints them over the translation 2e8bd5b47be0922b… (all of the seat's roots in one cut). By AI agents, Wed Nov 11 2026. No macro, syntax, notation, axiom, sorry.
-/
import Derived.Test.YtojaklgmojmjeaaChecked
import GoSem.Claim
import GoSem.ClaimJoined
import GoSem.ClaimMapViews
import Derived.JoinedTies
import Derived.KernelRfl
namespace Go.Proofs.Ytojaklgmojmjeaa
/- THE CELL 'sum', in the pinned program and in every row, IS THE sha256 OF THE DUMP (.gsa) THAT YtojaklgmojmjeaaProg.lean LOADS. Nothing in Lean hashes anything: it is a label: what it is worth is what the hold of that sum in a sandbox is worth. -/
noncomputable def Try.pinned : Pinned := { name := "ytojaklgmojmjeaa", sum := "2e8bd5b47be0922b3fe6c479fcccc5026ddaadc1d4821de2b74a62253ff0a51f", checked := Try.checked }
namespace Rows
def none {H : Type} : Left H := { results := [], args := [] }

/-- 'colonnadelaw4.IcolForms': WHATEVER THE INPUT: true; the input reads as it did. -/
def icolFormsSpec : ChangeSpec := { name := "icolForms", fn := fun _ => fun
  | [d] => { results := [.lit (.bool true)], args := [d] }
  | _ => none }
def icolFormsRow : OpenClaim := { program := "ytojaklgmojmjeaa", sum := "2e8bd5b47be0922b3fe6c479fcccc5026ddaadc1d4821de2b74a62253ff0a51f", func := "colonnade/colonnadelaw4.IcolForms", spec := "icolForms", unfollowed := true, recurses := true, apart := false }
def IcolFormsSaid : Prop := icolFormsRow.holds Try.pinned (OpenSpec.ofChange icolFormsSpec)

/-- ITS FALSE NEIGHBOUR: 'it returns false'. Refute it at one input. -/
def icolFormsWrong : ChangeSpec := { name := "icolForms", fn := fun _ => fun
  | [d] => { results := [.lit (.bool false)], args := [d] }
  | _ => none }
def IcolFormsWrongFalsely : Prop := icolFormsRow.holds Try.pinned (OpenSpec.ofChange icolFormsWrong)

/-- 'colonnadelaw4.IcolBest': WHATEVER THE INPUT: true; the input reads as it did. -/
def icolBestSpec : ChangeSpec := { name := "icolBest", fn := fun _ => fun
  | [d1, d2, d3] => { results := [.lit (.bool true)], args := [d1, d2, d3] }
  | _ => none }
def icolBestRow : OpenClaim := { program := "ytojaklgmojmjeaa", sum := "2e8bd5b47be0922b3fe6c479fcccc5026ddaadc1d4821de2b74a62253ff0a51f", func := "colonnade/colonnadelaw4.IcolBest", spec := "icolBest", unfollowed := true, recurses := true, apart := false }
def IcolBestSaid : Prop := icolBestRow.holds Try.pinned (OpenSpec.ofChange icolBestSpec)

/-- ITS FALSE NEIGHBOUR: 'it returns false'. Refute it at one input. -/
def icolBestWrong : ChangeSpec := { name := "icolBest", fn := fun _ => fun
  | [d1, d2, d3] => { results := [.lit (.bool false)], args := [d1, d2, d3] }
  | _ => none }
def IcolBestWrongFalsely : Prop := icolBestRow.holds Try.pinned (OpenSpec.ofChange icolBestWrong)

/-- 'colonnadelaw4.IcolFar': WHATEVER THE INPUT: true; the input reads as it did. -/
def icolFarSpec : ChangeSpec := { name := "icolFar", fn := fun _ => fun
  | [d] => { results := [.lit (.bool true)], args := [d] }
  | _ => none }
def icolFarRow : OpenClaim := { program := "ytojaklgmojmjeaa", sum := "2e8bd5b47be0922b3fe6c479fcccc5026ddaadc1d4821de2b74a62253ff0a51f", func := "colonnade/colonnadelaw4.IcolFar", spec := "icolFar", unfollowed := true, recurses := true, apart := false }
def IcolFarSaid : Prop := icolFarRow.holds Try.pinned (OpenSpec.ofChange icolFarSpec)

/-- ITS FALSE NEIGHBOUR: 'it returns false'. Refute it at one input. -/
def icolFarWrong : ChangeSpec := { name := "icolFar", fn := fun _ => fun
  | [d] => { results := [.lit (.bool false)], args := [d] }
  | _ => none }
def IcolFarWrongFalsely : Prop := icolFarRow.holds Try.pinned (OpenSpec.ofChange icolFarWrong)

/-- 'colonnadelaw4.IcolTells': WHATEVER THE INPUT: true; the input reads as it did. -/
def icolTellsSpec : ChangeSpec := { name := "icolTells", fn := fun _ => fun
  | [d1, d2, d3, d4, d5, d6, d7] => { results := [.lit (.bool true)], args := [d1, d2, d3, d4, d5, d6, d7] }
  | _ => none }
def icolTellsRow : OpenClaim := { program := "ytojaklgmojmjeaa", sum := "2e8bd5b47be0922b3fe6c479fcccc5026ddaadc1d4821de2b74a62253ff0a51f", func := "colonnade/colonnadelaw4.IcolTells", spec := "icolTells", unfollowed := true, recurses := true, apart := false }
def IcolTellsSaid : Prop := icolTellsRow.holds Try.pinned (OpenSpec.ofChange icolTellsSpec)

/-- ITS FALSE NEIGHBOUR: 'it returns false'. Refute it at one input. -/
def icolTellsWrong : ChangeSpec := { name := "icolTells", fn := fun _ => fun
  | [d1, d2, d3, d4, d5, d6, d7] => { results := [.lit (.bool false)], args := [d1, d2, d3, d4, d5, d6, d7] }
  | _ => none }
def IcolTellsWrongFalsely : Prop := icolTellsRow.holds Try.pinned (OpenSpec.ofChange icolTellsWrong)

/-- 'colonnadelaw4.IcolBack': WHATEVER THE INPUT: true; the input reads as it did. -/
def icolBackSpec : ChangeSpec := { name := "icolBack", fn := fun _ => fun
  | [d1, d2] => { results := [.lit (.bool true)], args := [d1, d2] }
  | _ => none }
def icolBackRow : OpenClaim := { program := "ytojaklgmojmjeaa", sum := "2e8bd5b47be0922b3fe6c479fcccc5026ddaadc1d4821de2b74a62253ff0a51f", func := "colonnade/colonnadelaw4.IcolBack", spec := "icolBack", unfollowed := true, recurses := true, apart := false }
def IcolBackSaid : Prop := icolBackRow.holds Try.pinned (OpenSpec.ofChange icolBackSpec)

/-- ITS FALSE NEIGHBOUR: 'it returns false'. Refute it at one input. -/
def icolBackWrong : ChangeSpec := { name := "icolBack", fn := fun _ => fun
  | [d1, d2] => { results := [.lit (.bool false)], args := [d1, d2] }
  | _ => none }
def IcolBackWrongFalsely : Prop := icolBackRow.holds Try.pinned (OpenSpec.ofChange icolBackWrong)

/- THE SECOND FORM. 'bulk': how many values and letters a reading holds, each counted each time it is reached (what is shared counts as often as it is met; a slice's spare places count too). A statement '..UptoSaid' is the law's where the arguments, and the package variables that the reading takes, are together of bulk at most 1048576: NARROWER than '..Said'. Prove '..Said' where nothing that the law and all that it calls make is longer than what came in: it says more and counts as full. Else prove '..UptoSaid'. A law counts once. -/
mutual
def uptoBulk {H : Type} : DataW H → Nat
  | .lit (.string bytes) => bytes.length + 1
  | .lit _ => 1
  | .nil => 1
  | .ptr d => uptoBulk d + 1
  | .slice elems spare => uptoBulkAll elems + uptoBulkAll spare + 1
  | .agg parts => uptoBulkAll parts + 1
  | .iface _ d => uptoBulk d + 1
  | .map entries => uptoBulkEntries entries + 1
  | .held _ => 1
def uptoBulkAll {H : Type} : List (DataW H) → Nat
  | [] => 0
  | d :: r => uptoBulk d + uptoBulkAll r
def uptoBulkEntries {H : Type} : List (Lit × DataW H) → Nat
  | [] => 0
  | x :: r => uptoBulkEntry x + uptoBulkEntries r
def uptoBulkEntry {H : Type} : Lit × DataW H → Nat
  | (.string bytes, d) => bytes.length + uptoBulk d + 1
  | (_, d) => uptoBulk d + 1
 end
def uptoSmall : (H : Type) → List (DataW H) → Bool := fun _ ds => decide (uptoBulkAll ds ≤ 1048576)
def OpenSpec.upto (s : _root_.Go.ChangeSpec) : _root_.Go.OpenSpec := { _root_.Go.OpenSpec.ofChange s with cond := some uptoSmall }

/-- 'colonnadelaw4.IcolForms', WHERE WHAT IT READS IS OF BULK AT MOST 1048576: true; the input reads as it did. -/
def icolFormsUptoRow : OpenClaim := { program := "ytojaklgmojmjeaa", sum := "2e8bd5b47be0922b3fe6c479fcccc5026ddaadc1d4821de2b74a62253ff0a51f", func := "colonnade/colonnadelaw4.IcolForms", spec := "icolForms", unfollowed := true, recurses := true, apart := false, narrowed := true }
def IcolFormsUptoSaid : Prop := icolFormsUptoRow.holds Try.pinned (OpenSpec.upto icolFormsSpec)

/-- 'colonnadelaw4.IcolBest', WHERE WHAT IT READS IS OF BULK AT MOST 1048576: true; the input reads as it did. -/
def icolBestUptoRow : OpenClaim := { program := "ytojaklgmojmjeaa", sum := "2e8bd5b47be0922b3fe6c479fcccc5026ddaadc1d4821de2b74a62253ff0a51f", func := "colonnade/colonnadelaw4.IcolBest", spec := "icolBest", unfollowed := true, recurses := true, apart := false, narrowed := true }
def IcolBestUptoSaid : Prop := icolBestUptoRow.holds Try.pinned (OpenSpec.upto icolBestSpec)

/-- 'colonnadelaw4.IcolFar', WHERE WHAT IT READS IS OF BULK AT MOST 1048576: true; the input reads as it did. -/
def icolFarUptoRow : OpenClaim := { program := "ytojaklgmojmjeaa", sum := "2e8bd5b47be0922b3fe6c479fcccc5026ddaadc1d4821de2b74a62253ff0a51f", func := "colonnade/colonnadelaw4.IcolFar", spec := "icolFar", unfollowed := true, recurses := true, apart := false, narrowed := true }
def IcolFarUptoSaid : Prop := icolFarUptoRow.holds Try.pinned (OpenSpec.upto icolFarSpec)

/-- 'colonnadelaw4.IcolTells', WHERE WHAT IT READS IS OF BULK AT MOST 1048576: true; the input reads as it did. -/
def icolTellsUptoRow : OpenClaim := { program := "ytojaklgmojmjeaa", sum := "2e8bd5b47be0922b3fe6c479fcccc5026ddaadc1d4821de2b74a62253ff0a51f", func := "colonnade/colonnadelaw4.IcolTells", spec := "icolTells", unfollowed := true, recurses := true, apart := false, narrowed := true }
def IcolTellsUptoSaid : Prop := icolTellsUptoRow.holds Try.pinned (OpenSpec.upto icolTellsSpec)

/-- 'colonnadelaw4.IcolBack', WHERE WHAT IT READS IS OF BULK AT MOST 1048576: true; the input reads as it did. -/
def icolBackUptoRow : OpenClaim := { program := "ytojaklgmojmjeaa", sum := "2e8bd5b47be0922b3fe6c479fcccc5026ddaadc1d4821de2b74a62253ff0a51f", func := "colonnade/colonnadelaw4.IcolBack", spec := "icolBack", unfollowed := true, recurses := true, apart := false, narrowed := true }
def IcolBackUptoSaid : Prop := icolBackUptoRow.holds Try.pinned (OpenSpec.upto icolBackSpec)

end Rows
end Go.Proofs.Ytojaklgmojmjeaa
