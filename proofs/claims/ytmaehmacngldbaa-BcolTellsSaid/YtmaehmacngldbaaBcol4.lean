/- bytes.Equal, and slices.CompactFunc at no row. -/
import Derived.Test.YtmaehmacngldbaaChecked
import Derived.Test.YtmaehmacngldbaaDenB2
import Derived.WalkKit
import Derived.Lib.Walk
namespace Go.Proofs.Ytmaehmacngldbaa.D
open Go Go.Proofs Go.Den Go.RowKit
set_option linter.unusedSimpArgs false
set_option linter.unusedVariables false
set_option maxRecDepth 100000 in
theorem equal_runs : RunsEqual Try.prog 23 := fun a b k l xs ys w hx hy => by
  have mixed := Checked.mixed Try.checked
  have h1 := hx.convert (P := Try.prog) rfl k 28 5 9 Try.underlying28 Try.underlying5 Try.underlying9
  have h2 := hy.convert (P := Try.prog) rfl l 28 5 9 Try.underlying28 Try.underlying5 Try.underlying9
  have HX : Aside (Lib.BytesIn w a xs.length xs ∧ Lib.BytesIn w b ys.length ys) := ⟨hx, hy⟩
  clear hx hy
  rw [← Lib.strOfNums_toList, ← Lib.strOfNums_toList]
  go_enter Try.func23, Try.ntmps23
  go_wp2
  go_ret
  exact ⟨rfl, rfl⟩
set_option maxRecDepth 100000 in
theorem compactB_none (c : FuncId) : ∀ w, Calls Try.prog 64 #[.slice none 0 0, .func (.func c) #[] #[]] w fun e w' => e = .returned (.slice none 0 0) ∧ w' = w := fun w => by
  have mixed := Checked.mixed Try.checked
  go_enter Try.func64, Try.ntmps64
  go_wp2
  go_ret
  exact ⟨rfl, rfl⟩
end Go.Proofs.Ytmaehmacngldbaa.D
