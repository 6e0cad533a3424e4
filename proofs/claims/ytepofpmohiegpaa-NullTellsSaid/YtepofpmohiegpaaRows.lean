/-
  No cell of these rows narrows 'for every input' (looked for: loops, veiled, ifaces, maps, wideKeys, modest, calm, conditions, laid).
  DERIVED. THE GIVEN ROWS OF THIS SEAT. 6 by the template 'for every input the law returns true; each argument reads behind the call as it read before'; 0 by the template 'total and deterministic' (their statements: YtepofpmohiegpaaTotals.lean).
  GIVEN WITH THE SEED: the statements are not yours to turn. If you find one false, say at which input.
  Laid BY PROGRAM, IN A SANDBOX (cutbox-rows.mjs): the forced cells as the released guide's own fill.sh prints them over the translation 73e39049aa5b4866… (all of the seat's roots in one cut). By AI agents, Wed Nov 11 2026. No macro, syntax, notation, axiom, sorry.
-/
import Derived.Test.YtepofpmohiegpaaChecked
import GoSem.Claim
import GoSem.ClaimJoined
import GoSem.ClaimMapViews
import Derived.JoinedTies
import Derived.KernelRfl
namespace Go.Proofs.Ytepofpmohiegpaa
/- THE CELL 'sum', in the pinned program and in every row, IS THE sha256 OF THE DUMP (.gsa) THAT YtepofpmohiegpaaProg.lean LOADS. Nothing in Lean hashes anything: it is a label: what it is worth is what the hold of that sum in a sandbox is worth. -/
noncomputable def Try.pinned : Pinned := { name := "ytepofpmohiegpaa", sum := "73e39049aa5b4866a9b24c6b5dfb2b5065dd66464bfc04d82970ebd57d71f6e5", checked := Try.checked }
namespace Rows
def none {H : Type} : Left H := { results := [], args := [] }

/-- 'colonnadelaw6.SchmForms': WHATEVER THE INPUT: true; the input reads as it did. -/
def schmFormsSpec : ChangeSpec := { name := "schmForms", fn := fun _ => fun
  | [d] => { results := [.lit (.bool true)], args := [d] }
  | _ => none }
def schmFormsRow : OpenClaim := { program := "ytepofpmohiegpaa", sum := "73e39049aa5b4866a9b24c6b5dfb2b5065dd66464bfc04d82970ebd57d71f6e5", func := "colonnade/colonnadelaw6.SchmForms", spec := "schmForms", inPlace := ["internal/bytealg.Compare"], unfollowed := true, recurses := true, apart := false }
def SchmFormsSaid : Prop := schmFormsRow.holds Try.pinned (OpenSpec.ofChange schmFormsSpec)

/-- ITS FALSE NEIGHBOUR: 'it returns false'. Refute it at one input. -/
def schmFormsWrong : ChangeSpec := { name := "schmForms", fn := fun _ => fun
  | [d] => { results := [.lit (.bool false)], args := [d] }
  | _ => none }
def SchmFormsWrongFalsely : Prop := schmFormsRow.holds Try.pinned (OpenSpec.ofChange schmFormsWrong)

/-- 'colonnadelaw6.SchmFits': WHATEVER THE INPUT: true; the input reads as it did. -/
def schmFitsSpec : ChangeSpec := { name := "schmFits", fn := fun _ => fun
  | [d1, d2, d3, d4] => { results := [.lit (.bool true)], args := [d1, d2, d3, d4] }
  | _ => none }
def schmFitsRow : OpenClaim := { program := "ytepofpmohiegpaa", sum := "73e39049aa5b4866a9b24c6b5dfb2b5065dd66464bfc04d82970ebd57d71f6e5", func := "colonnade/colonnadelaw6.SchmFits", spec := "schmFits", inPlace := ["internal/bytealg.Compare"], unfollowed := true, recurses := true, apart := false }
def SchmFitsSaid : Prop := schmFitsRow.holds Try.pinned (OpenSpec.ofChange schmFitsSpec)

/-- ITS FALSE NEIGHBOUR: 'it returns false'. Refute it at one input. -/
def schmFitsWrong : ChangeSpec := { name := "schmFits", fn := fun _ => fun
  | [d1, d2, d3, d4] => { results := [.lit (.bool false)], args := [d1, d2, d3, d4] }
  | _ => none }
def SchmFitsWrongFalsely : Prop := schmFitsRow.holds Try.pinned (OpenSpec.ofChange schmFitsWrong)

/-- 'colonnadelaw6.SchmOrder': WHATEVER THE INPUT: true; the input reads as it did. -/
def schmOrderSpec : ChangeSpec := { name := "schmOrder", fn := fun _ => fun
  | [d1, d2, d3, d4] => { results := [.lit (.bool true)], args := [d1, d2, d3, d4] }
  | _ => none }
def schmOrderRow : OpenClaim := { program := "ytepofpmohiegpaa", sum := "73e39049aa5b4866a9b24c6b5dfb2b5065dd66464bfc04d82970ebd57d71f6e5", func := "colonnade/colonnadelaw6.SchmOrder", spec := "schmOrder", inPlace := ["internal/bytealg.Compare"], unfollowed := true, recurses := true, apart := false }
def SchmOrderSaid : Prop := schmOrderRow.holds Try.pinned (OpenSpec.ofChange schmOrderSpec)

/-- ITS FALSE NEIGHBOUR: 'it returns false'. Refute it at one input. -/
def schmOrderWrong : ChangeSpec := { name := "schmOrder", fn := fun _ => fun
  | [d1, d2, d3, d4] => { results := [.lit (.bool false)], args := [d1, d2, d3, d4] }
  | _ => none }
def SchmOrderWrongFalsely : Prop := schmOrderRow.holds Try.pinned (OpenSpec.ofChange schmOrderWrong)

/-- 'colonnadelaw3.NullForms': WHATEVER THE INPUT: true; the input reads as it did. -/
def nullFormsSpec : ChangeSpec := { name := "nullForms", fn := fun _ => fun
  | [d] => { results := [.lit (.bool true)], args := [d] }
  | _ => none }
def nullFormsRow : OpenClaim := { program := "ytepofpmohiegpaa", sum := "73e39049aa5b4866a9b24c6b5dfb2b5065dd66464bfc04d82970ebd57d71f6e5", func := "colonnade/colonnadelaw3.NullForms", spec := "nullForms", apart := false }
def NullFormsSaid : Prop := nullFormsRow.holds Try.pinned (OpenSpec.ofChange nullFormsSpec)

/-- ITS FALSE NEIGHBOUR: 'it returns false'. Refute it at one input. -/
def nullFormsWrong : ChangeSpec := { name := "nullForms", fn := fun _ => fun
  | [d] => { results := [.lit (.bool false)], args := [d] }
  | _ => none }
def NullFormsWrongFalsely : Prop := nullFormsRow.holds Try.pinned (OpenSpec.ofChange nullFormsWrong)

/-- 'colonnadelaw3.NullBack': WHATEVER THE INPUT: true; the input reads as it did. -/
def nullBackSpec : ChangeSpec := { name := "nullBack", fn := fun _ => fun
  | [d1, d2, d3] => { results := [.lit (.bool true)], args := [d1, d2, d3] }
  | _ => none }
def nullBackRow : OpenClaim := { program := "ytepofpmohiegpaa", sum := "73e39049aa5b4866a9b24c6b5dfb2b5065dd66464bfc04d82970ebd57d71f6e5", func := "colonnade/colonnadelaw3.NullBack", spec := "nullBack", apart := false }
def NullBackSaid : Prop := nullBackRow.holds Try.pinned (OpenSpec.ofChange nullBackSpec)

/-- ITS FALSE NEIGHBOUR: 'it returns false'. Refute it at one input. -/
def nullBackWrong : ChangeSpec := { name := "nullBack", fn := fun _ => fun
  | [d1, d2, d3] => { results := [.lit (.bool false)], args := [d1, d2, d3] }
  | _ => none }
def NullBackWrongFalsely : Prop := nullBackRow.holds Try.pinned (OpenSpec.ofChange nullBackWrong)

/-- 'colonnadelaw3.NullTells': WHATEVER THE INPUT: true; the input reads as it did. -/
def nullTellsSpec : ChangeSpec := { name := "nullTells", fn := fun _ => fun
  | [d1, d2, d3, d4, d5] => { results := [.lit (.bool true)], args := [d1, d2, d3, d4, d5] }
  | _ => none }
def nullTellsRow : OpenClaim := { program := "ytepofpmohiegpaa", sum := "73e39049aa5b4866a9b24c6b5dfb2b5065dd66464bfc04d82970ebd57d71f6e5", func := "colonnade/colonnadelaw3.NullTells", spec := "nullTells", apart := false }
def NullTellsSaid : Prop := nullTellsRow.holds Try.pinned (OpenSpec.ofChange nullTellsSpec)

/-- ITS FALSE NEIGHBOUR: 'it returns false'. Refute it at one input. -/
def nullTellsWrong : ChangeSpec := { name := "nullTells", fn := fun _ => fun
  | [d1, d2, d3, d4, d5] => { results := [.lit (.bool false)], args := [d1, d2, d3, d4, d5] }
  | _ => none }
def NullTellsWrongFalsely : Prop := nullTellsRow.holds Try.pinned (OpenSpec.ofChange nullTellsWrong)

/- THE SECOND FORM. 'bulk': how many values and letters a reading holds, each counted each time it is reached (what is shared counts as often as it is met; a slice's spare places count too). A statement '..UptoSaid' is the law's where the arguments, and the package variables that the reading takes, are together of bulk at most 1048576: NARROWER than '..Said'. Prove '..Said' where nothing that the law and all that it calls make is longer than what came in: it says more and counts as full. Else prove '..UptoSaid'. A law counts once. -/
mutual
def uptoBulk {H : Type} : DataW H → Nat
  | .lit (.string bytes) => bytes.length + 1
  | .lit _ => 1
  | .nil => 1
  | .ptr d => uptoBulk d + 1
  | .slice elems spare => uptoBulkAll elems + uptoBulkAll spare + 1
  | .agg parts => uptoBulkAll parts + 1
  | .iface _ d => uptoBulk d + 1
  | .map entries => uptoBulkEntries entries + 1
  | .held _ => 1
def uptoBulkAll {H : Type} : List (DataW H) → Nat
  | [] => 0
  | d :: r => uptoBulk d + uptoBulkAll r
def uptoBulkEntries {H : Type} : List (Lit × DataW H) → Nat
  | [] => 0
  | x :: r => uptoBulkEntry x + uptoBulkEntries r
def uptoBulkEntry {H : Type} : Lit × DataW H → Nat
  | (.string bytes, d) => bytes.length + uptoBulk d + 1
  | (_, d) => uptoBulk d + 1
 end
def uptoSmall : (H : Type) → List (DataW H) → Bool := fun _ ds => decide (uptoBulkAll ds ≤ 1048576)
def OpenSpec.upto (s : _root_.Go.ChangeSpec) : _root_.Go.OpenSpec := { _root_.Go.OpenSpec.ofChange s with cond := some uptoSmall }

/-- 'colonnadelaw6.SchmForms', WHERE WHAT IT READS IS OF BULK AT MOST 1048576: true; the input reads as it did. -/
def schmFormsUptoRow : OpenClaim := { program := "ytepofpmohiegpaa", sum := "73e39049aa5b4866a9b24c6b5dfb2b5065dd66464bfc04d82970ebd57d71f6e5", func := "colonnade/colonnadelaw6.SchmForms", spec := "schmForms", inPlace := ["internal/bytealg.Compare"], unfollowed := true, recurses := true, apart := false, narrowed := true }
def SchmFormsUptoSaid : Prop := schmFormsUptoRow.holds Try.pinned (OpenSpec.upto schmFormsSpec)

/-- 'colonnadelaw6.SchmFits', WHERE WHAT IT READS IS OF BULK AT MOST 1048576: true; the input reads as it did. -/
def schmFitsUptoRow : OpenClaim := { program := "ytepofpmohiegpaa", sum := "73e39049aa5b4866a9b24c6b5dfb2b5065dd66464bfc04d82970ebd57d71f6e5", func := "colonnade/colonnadelaw6.SchmFits", spec := "schmFits", inPlace := ["internal/bytealg.Compare"], unfollowed := true, recurses := true, apart := false, narrowed := true }
def SchmFitsUptoSaid : Prop := schmFitsUptoRow.holds Try.pinned (OpenSpec.upto schmFitsSpec)

/-- 'colonnadelaw6.SchmOrder', WHERE WHAT IT READS IS OF BULK AT MOST 1048576: true; the input reads as it did. -/
def schmOrderUptoRow : OpenClaim := { program := "ytepofpmohiegpaa", sum := "73e39049aa5b4866a9b24c6b5dfb2b5065dd66464bfc04d82970ebd57d71f6e5", func := "colonnade/colonnadelaw6.SchmOrder", spec := "schmOrder", inPlace := ["internal/bytealg.Compare"], unfollowed := true, recurses := true, apart := false, narrowed := true }
def SchmOrderUptoSaid : Prop := schmOrderUptoRow.holds Try.pinned (OpenSpec.upto schmOrderSpec)

/-- 'colonnadelaw3.NullForms', WHERE WHAT IT READS IS OF BULK AT MOST 1048576: true; the input reads as it did. -/
def nullFormsUptoRow : OpenClaim := { program := "ytepofpmohiegpaa", sum := "73e39049aa5b4866a9b24c6b5dfb2b5065dd66464bfc04d82970ebd57d71f6e5", func := "colonnade/colonnadelaw3.NullForms", spec := "nullForms", apart := false, narrowed := true }
def NullFormsUptoSaid : Prop := nullFormsUptoRow.holds Try.pinned (OpenSpec.upto nullFormsSpec)

/-- 'colonnadelaw3.NullBack', WHERE WHAT IT READS IS OF BULK AT MOST 1048576: true; the input reads as it did. -/
def nullBackUptoRow : OpenClaim := { program := "ytepofpmohiegpaa", sum := "73e39049aa5b4866a9b24c6b5dfb2b5065dd66464bfc04d82970ebd57d71f6e5", func := "colonnade/colonnadelaw3.NullBack", spec := "nullBack", apart := false, narrowed := true }
def NullBackUptoSaid : Prop := nullBackUptoRow.holds Try.pinned (OpenSpec.upto nullBackSpec)

/-- 'colonnadelaw3.NullTells', WHERE WHAT IT READS IS OF BULK AT MOST 1048576: true; the input reads as it did. -/
def nullTellsUptoRow : OpenClaim := { program := "ytepofpmohiegpaa", sum := "73e39049aa5b4866a9b24c6b5dfb2b5065dd66464bfc04d82970ebd57d71f6e5", func := "colonnade/colonnadelaw3.NullTells", spec := "nullTells", apart := false, narrowed := true }
def NullTellsUptoSaid : Prop := nullTellsUptoRow.holds Try.pinned (OpenSpec.upto nullTellsSpec)

end Rows
end Go.Proofs.Ytepofpmohiegpaa
