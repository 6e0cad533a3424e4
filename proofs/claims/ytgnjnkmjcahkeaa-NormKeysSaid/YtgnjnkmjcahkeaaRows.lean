/-
  No cell of these rows narrows 'for every input' (looked for: loops, veiled, ifaces, maps, wideKeys, modest, calm, conditions, laid).
  DERIVED. THE GIVEN ROWS OF THIS SEAT. 10 by the template 'for every input the law returns true; each argument reads behind the call as it read before'; 0 by the template 'total and deterministic' (their statements: YtgnjnkmjcahkeaaTotals.lean).
  GIVEN WITH THE SEED: the statements are not yours to turn. If you find one false, say at which input.
  Laid BY PROGRAM, IN A SANDBOX (cutbox-rows.mjs): the forced cells as the released guide's own fill.sh prints them over the translation aa8b0c10876d2672… (all of the seat's roots in one cut). By AI agents, Wed Nov 11 2026. No macro, syntax, notation, axiom, sorry.
-/
import Derived.Test.YtgnjnkmjcahkeaaChecked
import GoSem.Claim
import GoSem.ClaimJoined
import GoSem.ClaimMapViews
import Derived.JoinedTies
import Derived.KernelRfl
namespace Go.Proofs.Ytgnjnkmjcahkeaa
/- THE CELL 'sum', in the pinned program and in every row, IS THE sha256 OF THE DUMP (.gsa) THAT YtgnjnkmjcahkeaaProg.lean LOADS. Nothing in Lean hashes anything: it is a label: what it is worth is what the hold of that sum in a sandbox is worth. -/
noncomputable def Try.pinned : Pinned := { name := "ytgnjnkmjcahkeaa", sum := "aa8b0c10876d2672841cb3db8911e26ee71759d80d6879023b52c901505a8186", checked := Try.checked }
namespace Rows
def none {H : Type} : Left H := { results := [], args := [] }

/-- 'colonnadelaw7.PredForms': WHATEVER THE INPUT: true; the input reads as it did. -/
def predFormsSpec : ChangeSpec := { name := "predForms", fn := fun _ => fun
  | [d] => { results := [.lit (.bool true)], args := [d] }
  | _ => none }
def predFormsRow : OpenClaim := { program := "ytgnjnkmjcahkeaa", sum := "aa8b0c10876d2672841cb3db8911e26ee71759d80d6879023b52c901505a8186", func := "colonnade/colonnadelaw7.PredForms", spec := "predForms", inPlace := ["internal/bytealg.Compare"], unfollowed := true, recurses := true, apart := false }
def PredFormsSaid : Prop := predFormsRow.holds Try.pinned (OpenSpec.ofChange predFormsSpec)

/-- ITS FALSE NEIGHBOUR: 'it returns false'. Refute it at one input. -/
def predFormsWrong : ChangeSpec := { name := "predForms", fn := fun _ => fun
  | [d] => { results := [.lit (.bool false)], args := [d] }
  | _ => none }
def PredFormsWrongFalsely : Prop := predFormsRow.holds Try.pinned (OpenSpec.ofChange predFormsWrong)

/-- 'colonnadelaw7.PredDeep': WHATEVER THE INPUT: true; the input reads as it did. -/
def predDeepSpec : ChangeSpec := { name := "predDeep", fn := fun _ => fun
  | [d1, d2, d3] => { results := [.lit (.bool true)], args := [d1, d2, d3] }
  | _ => none }
def predDeepRow : OpenClaim := { program := "ytgnjnkmjcahkeaa", sum := "aa8b0c10876d2672841cb3db8911e26ee71759d80d6879023b52c901505a8186", func := "colonnade/colonnadelaw7.PredDeep", spec := "predDeep", inPlace := ["internal/bytealg.Compare"], unfollowed := true, recurses := true, apart := false }
def PredDeepSaid : Prop := predDeepRow.holds Try.pinned (OpenSpec.ofChange predDeepSpec)

/-- ITS FALSE NEIGHBOUR: 'it returns false'. Refute it at one input. -/
def predDeepWrong : ChangeSpec := { name := "predDeep", fn := fun _ => fun
  | [d1, d2, d3] => { results := [.lit (.bool false)], args := [d1, d2, d3] }
  | _ => none }
def PredDeepWrongFalsely : Prop := predDeepRow.holds Try.pinned (OpenSpec.ofChange predDeepWrong)

/-- 'colonnadelaw7.PredOwn': WHATEVER THE INPUT: true; the input reads as it did. -/
def predOwnSpec : ChangeSpec := { name := "predOwn", fn := fun _ => fun
  | [d1, d2, d3] => { results := [.lit (.bool true)], args := [d1, d2, d3] }
  | _ => none }
def predOwnRow : OpenClaim := { program := "ytgnjnkmjcahkeaa", sum := "aa8b0c10876d2672841cb3db8911e26ee71759d80d6879023b52c901505a8186", func := "colonnade/colonnadelaw7.PredOwn", spec := "predOwn", inPlace := ["internal/bytealg.Compare"], unfollowed := true, recurses := true, apart := false }
def PredOwnSaid : Prop := predOwnRow.holds Try.pinned (OpenSpec.ofChange predOwnSpec)

/-- ITS FALSE NEIGHBOUR: 'it returns false'. Refute it at one input. -/
def predOwnWrong : ChangeSpec := { name := "predOwn", fn := fun _ => fun
  | [d1, d2, d3] => { results := [.lit (.bool false)], args := [d1, d2, d3] }
  | _ => none }
def PredOwnWrongFalsely : Prop := predOwnRow.holds Try.pinned (OpenSpec.ofChange predOwnWrong)

/-- 'colonnadelaw7.PredMore': WHATEVER THE INPUT: true; the input reads as it did. -/
def predMoreSpec : ChangeSpec := { name := "predMore", fn := fun _ => fun
  | [d1, d2, d3, d4] => { results := [.lit (.bool true)], args := [d1, d2, d3, d4] }
  | _ => none }
def predMoreRow : OpenClaim := { program := "ytgnjnkmjcahkeaa", sum := "aa8b0c10876d2672841cb3db8911e26ee71759d80d6879023b52c901505a8186", func := "colonnade/colonnadelaw7.PredMore", spec := "predMore", inPlace := ["internal/bytealg.Compare"], unfollowed := true, recurses := true, apart := false }
def PredMoreSaid : Prop := predMoreRow.holds Try.pinned (OpenSpec.ofChange predMoreSpec)

/-- ITS FALSE NEIGHBOUR: 'it returns false'. Refute it at one input. -/
def predMoreWrong : ChangeSpec := { name := "predMore", fn := fun _ => fun
  | [d1, d2, d3, d4] => { results := [.lit (.bool false)], args := [d1, d2, d3, d4] }
  | _ => none }
def PredMoreWrongFalsely : Prop := predMoreRow.holds Try.pinned (OpenSpec.ofChange predMoreWrong)

/-- 'colonnadelaw7.PredLaws': WHATEVER THE INPUT: true; the input reads as it did. -/
def predLawsSpec : ChangeSpec := { name := "predLaws", fn := fun _ => fun
  | [d1, d2, d3, d4] => { results := [.lit (.bool true)], args := [d1, d2, d3, d4] }
  | _ => none }
def predLawsRow : OpenClaim := { program := "ytgnjnkmjcahkeaa", sum := "aa8b0c10876d2672841cb3db8911e26ee71759d80d6879023b52c901505a8186", func := "colonnade/colonnadelaw7.PredLaws", spec := "predLaws", inPlace := ["internal/bytealg.Compare"], unfollowed := true, recurses := true, apart := false }
def PredLawsSaid : Prop := predLawsRow.holds Try.pinned (OpenSpec.ofChange predLawsSpec)

/-- ITS FALSE NEIGHBOUR: 'it returns false'. Refute it at one input. -/
def predLawsWrong : ChangeSpec := { name := "predLaws", fn := fun _ => fun
  | [d1, d2, d3, d4] => { results := [.lit (.bool false)], args := [d1, d2, d3, d4] }
  | _ => none }
def PredLawsWrongFalsely : Prop := predLawsRow.holds Try.pinned (OpenSpec.ofChange predLawsWrong)

/-- 'colonnadelaw8.NormForms': WHATEVER THE INPUT: true; the input reads as it did. -/
def normFormsSpec : ChangeSpec := { name := "normForms", fn := fun _ => fun
  | [d] => { results := [.lit (.bool true)], args := [d] }
  | _ => none }
def normFormsRow : OpenClaim := { program := "ytgnjnkmjcahkeaa", sum := "aa8b0c10876d2672841cb3db8911e26ee71759d80d6879023b52c901505a8186", func := "colonnade/colonnadelaw8.NormForms", spec := "normForms", unfollowed := true, recurses := true, apart := false }
def NormFormsSaid : Prop := normFormsRow.holds Try.pinned (OpenSpec.ofChange normFormsSpec)

/-- ITS FALSE NEIGHBOUR: 'it returns false'. Refute it at one input. -/
def normFormsWrong : ChangeSpec := { name := "normForms", fn := fun _ => fun
  | [d] => { results := [.lit (.bool false)], args := [d] }
  | _ => none }
def NormFormsWrongFalsely : Prop := normFormsRow.holds Try.pinned (OpenSpec.ofChange normFormsWrong)

/-- 'colonnadelaw8.NormTwice': WHATEVER THE INPUT: true; the input reads as it did. -/
def normTwiceSpec : ChangeSpec := { name := "normTwice", fn := fun _ => fun
  | [d1, d2] => { results := [.lit (.bool true)], args := [d1, d2] }
  | _ => none }
def normTwiceRow : OpenClaim := { program := "ytgnjnkmjcahkeaa", sum := "aa8b0c10876d2672841cb3db8911e26ee71759d80d6879023b52c901505a8186", func := "colonnade/colonnadelaw8.NormTwice", spec := "normTwice", recurses := true, apart := false }
def NormTwiceSaid : Prop := normTwiceRow.holds Try.pinned (OpenSpec.ofChange normTwiceSpec)

/-- ITS FALSE NEIGHBOUR: 'it returns false'. Refute it at one input. -/
def normTwiceWrong : ChangeSpec := { name := "normTwice", fn := fun _ => fun
  | [d1, d2] => { results := [.lit (.bool false)], args := [d1, d2] }
  | _ => none }
def NormTwiceWrongFalsely : Prop := normTwiceRow.holds Try.pinned (OpenSpec.ofChange normTwiceWrong)

/-- 'colonnadelaw8.NormKeys': WHATEVER THE INPUT: true; the input reads as it did. -/
def normKeysSpec : ChangeSpec := { name := "normKeys", fn := fun _ => fun
  | [d1, d2, d3, d4] => { results := [.lit (.bool true)], args := [d1, d2, d3, d4] }
  | _ => none }
def normKeysRow : OpenClaim := { program := "ytgnjnkmjcahkeaa", sum := "aa8b0c10876d2672841cb3db8911e26ee71759d80d6879023b52c901505a8186", func := "colonnade/colonnadelaw8.NormKeys", spec := "normKeys", recurses := true, apart := false }
def NormKeysSaid : Prop := normKeysRow.holds Try.pinned (OpenSpec.ofChange normKeysSpec)

/-- ITS FALSE NEIGHBOUR: 'it returns false'. Refute it at one input. -/
def normKeysWrong : ChangeSpec := { name := "normKeys", fn := fun _ => fun
  | [d1, d2, d3, d4] => { results := [.lit (.bool false)], args := [d1, d2, d3, d4] }
  | _ => none }
def NormKeysWrongFalsely : Prop := normKeysRow.holds Try.pinned (OpenSpec.ofChange normKeysWrong)

/-- 'colonnadelaw8.NormTells': WHATEVER THE INPUT: true; the input reads as it did. -/
def normTellsSpec : ChangeSpec := { name := "normTells", fn := fun _ => fun
  | [d1, d2, d3] => { results := [.lit (.bool true)], args := [d1, d2, d3] }
  | _ => none }
def normTellsRow : OpenClaim := { program := "ytgnjnkmjcahkeaa", sum := "aa8b0c10876d2672841cb3db8911e26ee71759d80d6879023b52c901505a8186", func := "colonnade/colonnadelaw8.NormTells", spec := "normTells", recurses := true, apart := false }
def NormTellsSaid : Prop := normTellsRow.holds Try.pinned (OpenSpec.ofChange normTellsSpec)

/-- ITS FALSE NEIGHBOUR: 'it returns false'. Refute it at one input. -/
def normTellsWrong : ChangeSpec := { name := "normTells", fn := fun _ => fun
  | [d1, d2, d3] => { results := [.lit (.bool false)], args := [d1, d2, d3] }
  | _ => none }
def NormTellsWrongFalsely : Prop := normTellsRow.holds Try.pinned (OpenSpec.ofChange normTellsWrong)

/-- 'colonnadelaw8.NormSame': WHATEVER THE INPUT: true; the input reads as it did. -/
def normSameSpec : ChangeSpec := { name := "normSame", fn := fun _ => fun
  | [d1, d2, d3] => { results := [.lit (.bool true)], args := [d1, d2, d3] }
  | _ => none }
def normSameRow : OpenClaim := { program := "ytgnjnkmjcahkeaa", sum := "aa8b0c10876d2672841cb3db8911e26ee71759d80d6879023b52c901505a8186", func := "colonnade/colonnadelaw8.NormSame", spec := "normSame", recurses := true, apart := false }
def NormSameSaid : Prop := normSameRow.holds Try.pinned (OpenSpec.ofChange normSameSpec)

/-- ITS FALSE NEIGHBOUR: 'it returns false'. Refute it at one input. -/
def normSameWrong : ChangeSpec := { name := "normSame", fn := fun _ => fun
  | [d1, d2, d3] => { results := [.lit (.bool false)], args := [d1, d2, d3] }
  | _ => none }
def NormSameWrongFalsely : Prop := normSameRow.holds Try.pinned (OpenSpec.ofChange normSameWrong)

/- THE SECOND FORM. 'bulk': how many values and letters a reading holds, each counted each time it is reached (what is shared counts as often as it is met; a slice's spare places count too). A statement '..UptoSaid' is the law's where the arguments, and the package variables that the reading takes, are together of bulk at most 1048576: NARROWER than '..Said'. Prove '..Said' where nothing that the law and all that it calls make is longer than what came in: it says more and counts as full. Else prove '..UptoSaid'. A law counts once. -/
mutual
def uptoBulk {H : Type} : DataW H → Nat
  | .lit (.string bytes) => bytes.length + 1
  | .lit _ => 1
  | .nil => 1
  | .ptr d => uptoBulk d + 1
  | .slice elems spare => uptoBulkAll elems + uptoBulkAll spare + 1
  | .agg parts => uptoBulkAll parts + 1
  | .iface _ d => uptoBulk d + 1
  | .map entries => uptoBulkEntries entries + 1
  | .held _ => 1
def uptoBulkAll {H : Type} : List (DataW H) → Nat
  | [] => 0
  | d :: r => uptoBulk d + uptoBulkAll r
def uptoBulkEntries {H : Type} : List (Lit × DataW H) → Nat
  | [] => 0
  | x :: r => uptoBulkEntry x + uptoBulkEntries r
def uptoBulkEntry {H : Type} : Lit × DataW H → Nat
  | (.string bytes, d) => bytes.length + uptoBulk d + 1
  | (_, d) => uptoBulk d + 1
 end
def uptoSmall : (H : Type) → List (DataW H) → Bool := fun _ ds => decide (uptoBulkAll ds ≤ 1048576)
def OpenSpec.upto (s : _root_.Go.ChangeSpec) : _root_.Go.OpenSpec := { _root_.Go.OpenSpec.ofChange s with cond := some uptoSmall }

/-- 'colonnadelaw7.PredForms', WHERE WHAT IT READS IS OF BULK AT MOST 1048576: true; the input reads as it did. -/
def predFormsUptoRow : OpenClaim := { program := "ytgnjnkmjcahkeaa", sum := "aa8b0c10876d2672841cb3db8911e26ee71759d80d6879023b52c901505a8186", func := "colonnade/colonnadelaw7.PredForms", spec := "predForms", inPlace := ["internal/bytealg.Compare"], unfollowed := true, recurses := true, apart := false, narrowed := true }
def PredFormsUptoSaid : Prop := predFormsUptoRow.holds Try.pinned (OpenSpec.upto predFormsSpec)

/-- 'colonnadelaw7.PredDeep', WHERE WHAT IT READS IS OF BULK AT MOST 1048576: true; the input reads as it did. -/
def predDeepUptoRow : OpenClaim := { program := "ytgnjnkmjcahkeaa", sum := "aa8b0c10876d2672841cb3db8911e26ee71759d80d6879023b52c901505a8186", func := "colonnade/colonnadelaw7.PredDeep", spec := "predDeep", inPlace := ["internal/bytealg.Compare"], unfollowed := true, recurses := true, apart := false, narrowed := true }
def PredDeepUptoSaid : Prop := predDeepUptoRow.holds Try.pinned (OpenSpec.upto predDeepSpec)

/-- 'colonnadelaw7.PredOwn', WHERE WHAT IT READS IS OF BULK AT MOST 1048576: true; the input reads as it did. -/
def predOwnUptoRow : OpenClaim := { program := "ytgnjnkmjcahkeaa", sum := "aa8b0c10876d2672841cb3db8911e26ee71759d80d6879023b52c901505a8186", func := "colonnade/colonnadelaw7.PredOwn", spec := "predOwn", inPlace := ["internal/bytealg.Compare"], unfollowed := true, recurses := true, apart := false, narrowed := true }
def PredOwnUptoSaid : Prop := predOwnUptoRow.holds Try.pinned (OpenSpec.upto predOwnSpec)

/-- 'colonnadelaw7.PredMore', WHERE WHAT IT READS IS OF BULK AT MOST 1048576: true; the input reads as it did. -/
def predMoreUptoRow : OpenClaim := { program := "ytgnjnkmjcahkeaa", sum := "aa8b0c10876d2672841cb3db8911e26ee71759d80d6879023b52c901505a8186", func := "colonnade/colonnadelaw7.PredMore", spec := "predMore", inPlace := ["internal/bytealg.Compare"], unfollowed := true, recurses := true, apart := false, narrowed := true }
def PredMoreUptoSaid : Prop := predMoreUptoRow.holds Try.pinned (OpenSpec.upto predMoreSpec)

/-- 'colonnadelaw7.PredLaws', WHERE WHAT IT READS IS OF BULK AT MOST 1048576: true; the input reads as it did. -/
def predLawsUptoRow : OpenClaim := { program := "ytgnjnkmjcahkeaa", sum := "aa8b0c10876d2672841cb3db8911e26ee71759d80d6879023b52c901505a8186", func := "colonnade/colonnadelaw7.PredLaws", spec := "predLaws", inPlace := ["internal/bytealg.Compare"], unfollowed := true, recurses := true, apart := false, narrowed := true }
def PredLawsUptoSaid : Prop := predLawsUptoRow.holds Try.pinned (OpenSpec.upto predLawsSpec)

/-- 'colonnadelaw8.NormForms', WHERE WHAT IT READS IS OF BULK AT MOST 1048576: true; the input reads as it did. -/
def normFormsUptoRow : OpenClaim := { program := "ytgnjnkmjcahkeaa", sum := "aa8b0c10876d2672841cb3db8911e26ee71759d80d6879023b52c901505a8186", func := "colonnade/colonnadelaw8.NormForms", spec := "normForms", unfollowed := true, recurses := true, apart := false, narrowed := true }
def NormFormsUptoSaid : Prop := normFormsUptoRow.holds Try.pinned (OpenSpec.upto normFormsSpec)

/-- 'colonnadelaw8.NormTwice', WHERE WHAT IT READS IS OF BULK AT MOST 1048576: true; the input reads as it did. -/
def normTwiceUptoRow : OpenClaim := { program := "ytgnjnkmjcahkeaa", sum := "aa8b0c10876d2672841cb3db8911e26ee71759d80d6879023b52c901505a8186", func := "colonnade/colonnadelaw8.NormTwice", spec := "normTwice", recurses := true, apart := false, narrowed := true }
def NormTwiceUptoSaid : Prop := normTwiceUptoRow.holds Try.pinned (OpenSpec.upto normTwiceSpec)

/-- 'colonnadelaw8.NormKeys', WHERE WHAT IT READS IS OF BULK AT MOST 1048576: true; the input reads as it did. -/
def normKeysUptoRow : OpenClaim := { program := "ytgnjnkmjcahkeaa", sum := "aa8b0c10876d2672841cb3db8911e26ee71759d80d6879023b52c901505a8186", func := "colonnade/colonnadelaw8.NormKeys", spec := "normKeys", recurses := true, apart := false, narrowed := true }
def NormKeysUptoSaid : Prop := normKeysUptoRow.holds Try.pinned (OpenSpec.upto normKeysSpec)

/-- 'colonnadelaw8.NormTells', WHERE WHAT IT READS IS OF BULK AT MOST 1048576: true; the input reads as it did. -/
def normTellsUptoRow : OpenClaim := { program := "ytgnjnkmjcahkeaa", sum := "aa8b0c10876d2672841cb3db8911e26ee71759d80d6879023b52c901505a8186", func := "colonnade/colonnadelaw8.NormTells", spec := "normTells", recurses := true, apart := false, narrowed := true }
def NormTellsUptoSaid : Prop := normTellsUptoRow.holds Try.pinned (OpenSpec.upto normTellsSpec)

/-- 'colonnadelaw8.NormSame', WHERE WHAT IT READS IS OF BULK AT MOST 1048576: true; the input reads as it did. -/
def normSameUptoRow : OpenClaim := { program := "ytgnjnkmjcahkeaa", sum := "aa8b0c10876d2672841cb3db8911e26ee71759d80d6879023b52c901505a8186", func := "colonnade/colonnadelaw8.NormSame", spec := "normSame", recurses := true, apart := false, narrowed := true }
def NormSameUptoSaid : Prop := normSameUptoRow.holds Try.pinned (OpenSpec.upto normSameSpec)

end Rows
end Go.Proofs.Ytgnjnkmjcahkeaa
