/-
  No cell of these rows narrows 'for every input' (looked for: loops, veiled, ifaces, maps, wideKeys, modest, calm, conditions, laid).
  DERIVED. THE GIVEN ROWS OF THIS SEAT. 5 by the template 'for every input the law returns true; each argument reads behind the call as it read before'; 0 by the template 'total and deterministic' (their statements: YtknapjbdgpjdjaaTotals.lean).
  GIVEN WITH THE SEED: the statements are not yours to turn. If you find one false, say at which input.
  Laid BY PROGRAM, IN A SANDBOX (cutbox-rows.mjs): the forced cells as the released guide's own fill.sh prints them over the translation 49e1690032b41c2e… (all of the seat's roots in one cut). By AI agents, Wed Nov 11 2026. No macro, syntax, notation, axiom, sorry.
-/
import Derived.Test.YtknapjbdgpjdjaaChecked
import GoSem.Claim
import GoSem.ClaimJoined
import GoSem.ClaimMapViews
import Derived.JoinedTies
import Derived.KernelRfl
namespace Go.Proofs.Ytknapjbdgpjdjaa
/- THE CELL 'sum', in the pinned program and in every row, IS THE sha256 OF THE DUMP (.gsa) THAT YtknapjbdgpjdjaaProg.lean LOADS. Nothing in Lean hashes anything: it is a label: what it is worth is what the hold of that sum in a sandbox is worth. -/
noncomputable def Try.pinned : Pinned := { name := "ytknapjbdgpjdjaa", sum := "49e1690032b41c2ec4be8409d441f37f4e446816d781d3b513873511558ae5b1", checked := Try.checked }
namespace Rows
def none {H : Type} : Left H := { results := [], args := [] }

/-- 'colonnadelaw11.StamForms': WHATEVER THE INPUT: true; the input reads as it did. -/
def stamFormsSpec : ChangeSpec := { name := "stamForms", fn := fun _ => fun
  | [d] => { results := [.lit (.bool true)], args := [d] }
  | _ => none }
def stamFormsRow : OpenClaim := { program := "ytknapjbdgpjdjaa", sum := "49e1690032b41c2ec4be8409d441f37f4e446816d781d3b513873511558ae5b1", func := "colonnade/colonnadelaw11.StamForms", spec := "stamForms", unfollowed := true, recurses := true, apart := false }
def StamFormsSaid : Prop := stamFormsRow.holds Try.pinned (OpenSpec.ofChange stamFormsSpec)

/-- ITS FALSE NEIGHBOUR: 'it returns false'. Refute it at one input. -/
def stamFormsWrong : ChangeSpec := { name := "stamForms", fn := fun _ => fun
  | [d] => { results := [.lit (.bool false)], args := [d] }
  | _ => none }
def StamFormsWrongFalsely : Prop := stamFormsRow.holds Try.pinned (OpenSpec.ofChange stamFormsWrong)

/-- 'colonnadelaw11.StamMine': WHATEVER THE INPUT: true; the input reads as it did. -/
def stamMineSpec : ChangeSpec := { name := "stamMine", fn := fun _ => fun
  | [d1, d2, d3] => { results := [.lit (.bool true)], args := [d1, d2, d3] }
  | _ => none }
def stamMineRow : OpenClaim := { program := "ytknapjbdgpjdjaa", sum := "49e1690032b41c2ec4be8409d441f37f4e446816d781d3b513873511558ae5b1", func := "colonnade/colonnadelaw11.StamMine", spec := "stamMine", unfollowed := true, recurses := true, apart := false }
def StamMineSaid : Prop := stamMineRow.holds Try.pinned (OpenSpec.ofChange stamMineSpec)

/-- ITS FALSE NEIGHBOUR: 'it returns false'. Refute it at one input. -/
def stamMineWrong : ChangeSpec := { name := "stamMine", fn := fun _ => fun
  | [d1, d2, d3] => { results := [.lit (.bool false)], args := [d1, d2, d3] }
  | _ => none }
def StamMineWrongFalsely : Prop := stamMineRow.holds Try.pinned (OpenSpec.ofChange stamMineWrong)

/-- 'colonnadelaw11.StamLater': WHATEVER THE INPUT: true; the input reads as it did. -/
def stamLaterSpec : ChangeSpec := { name := "stamLater", fn := fun _ => fun
  | [d1, d2, d3, d4] => { results := [.lit (.bool true)], args := [d1, d2, d3, d4] }
  | _ => none }
def stamLaterRow : OpenClaim := { program := "ytknapjbdgpjdjaa", sum := "49e1690032b41c2ec4be8409d441f37f4e446816d781d3b513873511558ae5b1", func := "colonnade/colonnadelaw11.StamLater", spec := "stamLater", unfollowed := true, recurses := true, apart := false }
def StamLaterSaid : Prop := stamLaterRow.holds Try.pinned (OpenSpec.ofChange stamLaterSpec)

/-- ITS FALSE NEIGHBOUR: 'it returns false'. Refute it at one input. -/
def stamLaterWrong : ChangeSpec := { name := "stamLater", fn := fun _ => fun
  | [d1, d2, d3, d4] => { results := [.lit (.bool false)], args := [d1, d2, d3, d4] }
  | _ => none }
def StamLaterWrongFalsely : Prop := stamLaterRow.holds Try.pinned (OpenSpec.ofChange stamLaterWrong)

/-- 'colonnadelaw11.StamState': WHATEVER THE INPUT: true; the input reads as it did. -/
def stamStateSpec : ChangeSpec := { name := "stamState", fn := fun _ => fun
  | [d1, d2] => { results := [.lit (.bool true)], args := [d1, d2] }
  | _ => none }
def stamStateRow : OpenClaim := { program := "ytknapjbdgpjdjaa", sum := "49e1690032b41c2ec4be8409d441f37f4e446816d781d3b513873511558ae5b1", func := "colonnade/colonnadelaw11.StamState", spec := "stamState", unfollowed := true, recurses := true, apart := false }
def StamStateSaid : Prop := stamStateRow.holds Try.pinned (OpenSpec.ofChange stamStateSpec)

/-- ITS FALSE NEIGHBOUR: 'it returns false'. Refute it at one input. -/
def stamStateWrong : ChangeSpec := { name := "stamState", fn := fun _ => fun
  | [d1, d2] => { results := [.lit (.bool false)], args := [d1, d2] }
  | _ => none }
def StamStateWrongFalsely : Prop := stamStateRow.holds Try.pinned (OpenSpec.ofChange stamStateWrong)

/-- 'colonnadelaw11.StamEnds': WHATEVER THE INPUT: true; the input reads as it did. -/
def stamEndsSpec : ChangeSpec := { name := "stamEnds", fn := fun _ => fun
  | [d1, d2, d3] => { results := [.lit (.bool true)], args := [d1, d2, d3] }
  | _ => none }
def stamEndsRow : OpenClaim := { program := "ytknapjbdgpjdjaa", sum := "49e1690032b41c2ec4be8409d441f37f4e446816d781d3b513873511558ae5b1", func := "colonnade/colonnadelaw11.StamEnds", spec := "stamEnds", unfollowed := true, recurses := true, apart := false }
def StamEndsSaid : Prop := stamEndsRow.holds Try.pinned (OpenSpec.ofChange stamEndsSpec)

/-- ITS FALSE NEIGHBOUR: 'it returns false'. Refute it at one input. -/
def stamEndsWrong : ChangeSpec := { name := "stamEnds", fn := fun _ => fun
  | [d1, d2, d3] => { results := [.lit (.bool false)], args := [d1, d2, d3] }
  | _ => none }
def StamEndsWrongFalsely : Prop := stamEndsRow.holds Try.pinned (OpenSpec.ofChange stamEndsWrong)

/- THE SECOND FORM. 'bulk': how many values and letters a reading holds, each counted each time it is reached (what is shared counts as often as it is met; a slice's spare places count too). A statement '..UptoSaid' is the law's where the arguments, and the package variables that the reading takes, are together of bulk at most 1048576: NARROWER than '..Said'. Prove '..Said' where nothing that the law and all that it calls make is longer than what came in: it says more and counts as full. Else prove '..UptoSaid'. A law counts once. -/
mutual
def uptoBulk {H : Type} : DataW H → Nat
  | .lit (.string bytes) => bytes.length + 1
  | .lit _ => 1
  | .nil => 1
  | .ptr d => uptoBulk d + 1
  | .slice elems spare => uptoBulkAll elems + uptoBulkAll spare + 1
  | .agg parts => uptoBulkAll parts + 1
  | .iface _ d => uptoBulk d + 1
  | .map entries => uptoBulkEntries entries + 1
  | .held _ => 1
def uptoBulkAll {H : Type} : List (DataW H) → Nat
  | [] => 0
  | d :: r => uptoBulk d + uptoBulkAll r
def uptoBulkEntries {H : Type} : List (Lit × DataW H) → Nat
  | [] => 0
  | x :: r => uptoBulkEntry x + uptoBulkEntries r
def uptoBulkEntry {H : Type} : Lit × DataW H → Nat
  | (.string bytes, d) => bytes.length + uptoBulk d + 1
  | (_, d) => uptoBulk d + 1
 end
def uptoSmall : (H : Type) → List (DataW H) → Bool := fun _ ds => decide (uptoBulkAll ds ≤ 1048576)
def OpenSpec.upto (s : _root_.Go.ChangeSpec) : _root_.Go.OpenSpec := { _root_.Go.OpenSpec.ofChange s with cond := some uptoSmall }

/-- 'colonnadelaw11.StamForms', WHERE WHAT IT READS IS OF BULK AT MOST 1048576: true; the input reads as it did. -/
def stamFormsUptoRow : OpenClaim := { program := "ytknapjbdgpjdjaa", sum := "49e1690032b41c2ec4be8409d441f37f4e446816d781d3b513873511558ae5b1", func := "colonnade/colonnadelaw11.StamForms", spec := "stamForms", unfollowed := true, recurses := true, apart := false, narrowed := true }
def StamFormsUptoSaid : Prop := stamFormsUptoRow.holds Try.pinned (OpenSpec.upto stamFormsSpec)

/-- 'colonnadelaw11.StamMine', WHERE WHAT IT READS IS OF BULK AT MOST 1048576: true; the input reads as it did. -/
def stamMineUptoRow : OpenClaim := { program := "ytknapjbdgpjdjaa", sum := "49e1690032b41c2ec4be8409d441f37f4e446816d781d3b513873511558ae5b1", func := "colonnade/colonnadelaw11.StamMine", spec := "stamMine", unfollowed := true, recurses := true, apart := false, narrowed := true }
def StamMineUptoSaid : Prop := stamMineUptoRow.holds Try.pinned (OpenSpec.upto stamMineSpec)

/-- 'colonnadelaw11.StamLater', WHERE WHAT IT READS IS OF BULK AT MOST 1048576: true; the input reads as it did. -/
def stamLaterUptoRow : OpenClaim := { program := "ytknapjbdgpjdjaa", sum := "49e1690032b41c2ec4be8409d441f37f4e446816d781d3b513873511558ae5b1", func := "colonnade/colonnadelaw11.StamLater", spec := "stamLater", unfollowed := true, recurses := true, apart := false, narrowed := true }
def StamLaterUptoSaid : Prop := stamLaterUptoRow.holds Try.pinned (OpenSpec.upto stamLaterSpec)

/-- 'colonnadelaw11.StamState', WHERE WHAT IT READS IS OF BULK AT MOST 1048576: true; the input reads as it did. -/
def stamStateUptoRow : OpenClaim := { program := "ytknapjbdgpjdjaa", sum := "49e1690032b41c2ec4be8409d441f37f4e446816d781d3b513873511558ae5b1", func := "colonnade/colonnadelaw11.StamState", spec := "stamState", unfollowed := true, recurses := true, apart := false, narrowed := true }
def StamStateUptoSaid : Prop := stamStateUptoRow.holds Try.pinned (OpenSpec.upto stamStateSpec)

/-- 'colonnadelaw11.StamEnds', WHERE WHAT IT READS IS OF BULK AT MOST 1048576: true; the input reads as it did. -/
def stamEndsUptoRow : OpenClaim := { program := "ytknapjbdgpjdjaa", sum := "49e1690032b41c2ec4be8409d441f37f4e446816d781d3b513873511558ae5b1", func := "colonnade/colonnadelaw11.StamEnds", spec := "stamEnds", unfollowed := true, recurses := true, apart := false, narrowed := true }
def StamEndsUptoSaid : Prop := stamEndsUptoRow.holds Try.pinned (OpenSpec.upto stamEndsSpec)

end Rows
end Go.Proofs.Ytknapjbdgpjdjaa
