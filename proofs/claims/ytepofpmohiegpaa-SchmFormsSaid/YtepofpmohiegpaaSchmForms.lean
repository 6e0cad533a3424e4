/-
  SchmForms: for every number the law returns true, and the number stays as it was. How: an evaluator of the model's code, shown right once for all programs (the texts Den..), answers true at each of the 256 numbers that the law's mask lets through; of the argument no more is looked at than those eight bits (den_tw). No condition.
-/
import Derived.Test.YtepofpmohiegpaaRows
import Derived.WalkKit
import Derived.ProofKit
import Derived.OpenShut
import Derived.ShutString
import Derived.ChangeOld
import Derived.Below
import Derived.Test.YtepofpmohiegpaaDenT1
import Derived.ShutString
namespace Go.Proofs.Ytepofpmohiegpaa.schmForms
open Go.ChangeShapes Go.WideShapes Go.ChangeAt Go.RowKit
open Go.ChangeMaps (open_string shut_string)
open Go.Den
set_option linter.unusedVariables false

theorem own : ownKnob Try.prog.godebug = none := by kernel_rfl

theorem c0 : blk D.E 200 3 16 0 = true := by kernel_rfl
theorem c1 : blk D.E 200 3 16 1 = true := by kernel_rfl
theorem c2 : blk D.E 200 3 16 2 = true := by kernel_rfl
theorem c3 : blk D.E 200 3 16 3 = true := by kernel_rfl
theorem c4 : blk D.E 200 3 16 4 = true := by kernel_rfl
theorem c5 : blk D.E 200 3 16 5 = true := by kernel_rfl
theorem c6 : blk D.E 200 3 16 6 = true := by kernel_rfl
theorem c7 : blk D.E 200 3 16 7 = true := by kernel_rfl
theorem c8 : blk D.E 200 3 16 8 = true := by kernel_rfl
theorem c9 : blk D.E 200 3 16 9 = true := by kernel_rfl
theorem c10 : blk D.E 200 3 16 10 = true := by kernel_rfl
theorem c11 : blk D.E 200 3 16 11 = true := by kernel_rfl
theorem c12 : blk D.E 200 3 16 12 = true := by kernel_rfl
theorem c13 : blk D.E 200 3 16 13 = true := by kernel_rfl
theorem c14 : blk D.E 200 3 16 14 = true := by kernel_rfl
theorem c15 : blk D.E 200 3 16 15 = true := by kernel_rfl
theorem masks : tFn [0, 72] (D.E.lv 3) Try.f3 = true := by kernel_rfl
theorem blocks : ∀ i, i < 256 / 16 → blk D.E 200 3 16 i = true := fun i hi => by
  have hi : i < 16 := hi
  match i, hi with
  | 0, _ => exact c0
  | 1, _ => exact c1
  | 2, _ => exact c2
  | 3, _ => exact c3
  | 4, _ => exact c4
  | 5, _ => exact c5
  | 6, _ => exact c6
  | 7, _ => exact c7
  | 8, _ => exact c8
  | 9, _ => exact c9
  | 10, _ => exact c10
  | 11, _ => exact c11
  | 12, _ => exact c12
  | 13, _ => exact c13
  | 14, _ => exact c14
  | 15, _ => exact c15
  | n + 16, h => exact absurd h (by omega)

/-! ### the walk -/
theorem walk (a0 : Int) (w0 : (Lit.int .i64 a0).wf = true) (w : World) :
    Calls Try.prog 3 #[.int .i64 a0] w fun e w' => e = .returned (.bool true) ∧ Below w.heap.size w w' := by
  exact forms_blocks (E := D.E) D.ok [0, 72] (fn := Try.f3) rfl masks 16 (by decide) blocks a0 w

/-! ### THE ROW's STEP: WRITTEN OUT: LEAVE IT -/
set_option maxRecDepth 100000 in
theorem lifted (os : Os) (started : os.Started) (H : Type) (enc : TypeId × Value → H) :
    ReturnsInHanded {} Try.checked os 3 .any (Rows.schmFormsSpec.pre6 enc Try.prog Try.f3 Rows.schmFormsRow.domain false) (Rows.schmFormsSpec.post enc Try.prog Try.f3 false true false false) := by
  refine returnsInHanded_of_change (C := Try.checked) own started (by kernel_rfl) Try.func3
    (ChangeSpec.witness6 (enc := enc) (C := Try.checked) false ⟨#[], #[.int .i64 0], []⟩ 8 (by kernel_rfl) (by kernel_rfl) (by kernel_rfl) (by kernel_rfl)) ?_
  intro W base args ds gs before hval0 hW hcnd _
  have hval : ∀ (j : Nat) t v, Try.f3.params[j]? = some t → args[j]? = some v → Value.okWide Try.prog W .any base t v := hval0
  have hW' := hW
  obtain ⟨p, q, hA0, hV, rfl, hfz, hnd⟩ := hW
  have hA : DataW.TrodAll enc Try.prog W 0 (fun _ => true) true Try.f3.params.toList args.toList ds p := hA0
  rw [Try.params3] at hA hval
  obtain ⟨v0, vs0, d0, ds0, p0, q0, hargs, rfl, rfl, h0, r0⟩ := trodAll_cons hA
  obtain ⟨rfl, rfl, rfl⟩ := trodAll_nil r0
  obtain rfl : args = #[v0] := by cases args; simp_all
  obtain ⟨rfl, rfl⟩ := trodVars_none hV
  obtain ⟨a0, rfl, rfl, rfl, w0⟩ := open_int Try.underlying3 (hval 0 3 v0 rfl rfl) h0
  clear hA0 hval0
  refine (walk a0 w0 W).mono fun e W' ⟨he, bel⟩ => ?_
  subst he
  exact ⟨_, rfl, _, _, _, [], _, [], hW', trodAll_mk1 (shut_bool Try.underlying4 _), (trodAll_cons_mk (shut_int Try.underlying3 w0) trodAll_mk0), rfl, bel.frame _, fun h => by cases h⟩

theorem over : Rows.schmFormsRow.holds Try.pinned (OpenSpec.ofChange Rows.schmFormsSpec) :=
  OpenClaim.holds_of_wide 3 Try.f3 rfl rfl rfl rfl rfl rfl rfl ⟨rfl, rfl, rfl, rfl, rfl⟩ rfl rfl rfl rfl rfl (by kernel_rfl) Try.func3 (by kernel_rfl)
    (of_decide_eq_true (by kernel_rfl)) (by unfold Func.isWrapper; first | (rw [if_pos (by decide +kernel)]; kernel_rfl) | (rw [if_neg (by decide +kernel)]; exact ⟨rfl, rfl⟩))
    (fun os started H enc _ => lifted os started H enc)

/-- ████ THE STATEMENT ████ -/
theorem proved : Rows.SchmFormsSaid :=
  over
#print axioms proved
end Go.Proofs.Ytepofpmohiegpaa.schmForms
