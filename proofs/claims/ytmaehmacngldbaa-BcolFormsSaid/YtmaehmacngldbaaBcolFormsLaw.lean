/-
  BcolForms: for every number the law returns true, and the number stays as it was. How: an evaluator of the model's code, shown right once for all programs (the texts Den..), answers true at each row of the law's list; of the argument no more is looked at than its last eight bits, and of these no more than what the division by the list's length leaves (den_tw2). No condition.
-/
import Derived.Test.YtmaehmacngldbaaRows
import Derived.WalkKit
import Derived.ProofKit
import Derived.OpenShut
import Derived.ShutString
import Derived.ChangeOld
import Derived.Below
import Derived.Test.YtmaehmacngldbaaDenT1
import Derived.Test.YtmaehmacngldbaaDenK3
import Derived.ShutString
namespace Go.Proofs.Ytmaehmacngldbaa.bcolForms
open Go.ChangeShapes Go.WideShapes Go.ChangeAt Go.RowKit
open Go.ChangeMaps (open_string shut_string)
open Go.Den
set_option linter.unusedVariables false

theorem own : ownKnob Try.prog.godebug = none := by kernel_rfl

theorem c0 : blkG D.E [34] 17 300 3 0 9 = true := by kernel_rfl
theorem c9 : blkG D.E [34] 17 300 3 9 8 = true := by kernel_rfl
theorem masks : tFn2 (D.E.lv 3) [0,33] [34] Try.f3 = true := by kernel_rfl
theorem all : ∀ m, m < 17 → saysTrue (denG [34] 17 D.E 300 3 [.int .i64 (m : Nat)] []) = true := fun m hm => by
  by_cases h0 : m < 9
  · exact blkG_at c0 (by omega) (by omega)
  by_cases h9 : m < 17
  · exact blkG_at c9 (by omega) (by omega)
  omega

/-! ### the walk -/
theorem walk (a0 : Int) (w0 : (Lit.int .i64 a0).wf = true) (w : World) :
    Calls Try.prog 3 #[.int .i64 a0] w fun e w' => e = .returned (.bool true) ∧ Below w.heap.size w w' := by
  exact rows_calls (E := D.E) D.ok [0,33] [34] 17 (by decide) (fn := Try.f3) rfl masks all a0 w

/-! ### THE ROW's STEP: WRITTEN OUT: LEAVE IT -/
set_option maxRecDepth 100000 in
theorem lifted (os : Os) (started : os.Started) (H : Type) (enc : TypeId × Value → H) :
    ReturnsInHanded {} Try.checked os 3 .any (Rows.bcolFormsSpec.pre6 enc Try.prog Try.f3 Rows.bcolFormsRow.domain false) (Rows.bcolFormsSpec.post enc Try.prog Try.f3 false true false false) := by
  refine returnsInHanded_of_change (C := Try.checked) own started (by kernel_rfl) Try.func3
    (ChangeSpec.witness6 (enc := enc) (C := Try.checked) false ⟨#[], #[.int .i64 0], []⟩ 8 (by kernel_rfl) (by kernel_rfl) (by kernel_rfl) (by kernel_rfl)) ?_
  intro W base args ds gs before hval0 hW hcnd _
  have hval : ∀ (j : Nat) t v, Try.f3.params[j]? = some t → args[j]? = some v → Value.okWide Try.prog W .any base t v := hval0
  have hW' := hW
  obtain ⟨p, q, hA0, hV, rfl, hfz, hnd⟩ := hW
  have hA : DataW.TrodAll enc Try.prog W 0 (fun _ => true) true Try.f3.params.toList args.toList ds p := hA0
  rw [Try.params3] at hA hval
  obtain ⟨v0, vs0, d0, ds0, p0, q0, hargs, rfl, rfl, h0, r0⟩ := trodAll_cons hA
  obtain ⟨rfl, rfl, rfl⟩ := trodAll_nil r0
  obtain rfl : args = #[v0] := by cases args; simp_all
  obtain ⟨rfl, rfl⟩ := trodVars_none hV
  obtain ⟨a0, rfl, rfl, rfl, w0⟩ := open_int Try.underlying3 (hval 0 3 v0 rfl rfl) h0
  clear hA0 hval0
  refine (walk a0 w0 W).mono fun e W' ⟨he, bel⟩ => ?_
  subst he
  exact ⟨_, rfl, _, _, _, [], _, [], hW', trodAll_mk1 (shut_bool Try.underlying4 _), (trodAll_cons_mk (shut_int Try.underlying3 w0) trodAll_mk0), rfl, bel.frame _, fun h => by cases h⟩

theorem over : Rows.bcolFormsRow.holds Try.pinned (OpenSpec.ofChange Rows.bcolFormsSpec) :=
  OpenClaim.holds_of_wide 3 Try.f3 rfl rfl rfl rfl rfl rfl rfl ⟨rfl, rfl, rfl, rfl, rfl⟩ rfl rfl rfl rfl rfl (by kernel_rfl) Try.func3 (by kernel_rfl)
    (of_decide_eq_true (by kernel_rfl)) (by unfold Func.isWrapper; first | (rw [if_pos (by decide +kernel)]; kernel_rfl) | (rw [if_neg (by decide +kernel)]; exact ⟨rfl, rfl⟩))
    (fun os started H enc _ => lifted os started H enc)

/-- ████ THE STATEMENT ████ -/
theorem proved : Rows.BcolFormsSaid :=
  over
#print axioms proved
end Go.Proofs.Ytmaehmacngldbaa.bcolForms
