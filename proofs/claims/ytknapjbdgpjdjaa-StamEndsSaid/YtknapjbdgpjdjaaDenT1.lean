/- The seat's tables for the evaluator, by program: what is live at each loop's head; the functions; slices.Clone and slices.Clip, walked. -/
import Derived.Test.YtknapjbdgpjdjaaChecked
import Derived.Test.YtknapjbdgpjdjaaDenK3
import Derived.WalkKit
import Derived.Deep.LoopGhost
import Derived.Lib.Walk
import Derived.Lib.SliceRun
import Derived.Lib.AppendZerosOnto
import Derived.Shelf.Spec.SlicesGrow
import Derived.Test.YtknapjbdgpjdjaaDenS
namespace Go.Proofs.Ytknapjbdgpjdjaa.D
open Go Go.Den Go.Proofs Go.RowKit Go.Lib
def lv : FuncId → Nat → List NI
  | 6, 4 => [⟨0, []⟩, ⟨16, []⟩, ⟨17, []⟩, ⟨18, []⟩]
  | 6, 8 => [⟨0, []⟩, ⟨6, []⟩, ⟨7, []⟩, ⟨8, []⟩, ⟨16, []⟩, ⟨17, []⟩, ⟨18, []⟩]
  | 7, 7 => [⟨2, []⟩, ⟨7, []⟩, ⟨8, []⟩, ⟨9, []⟩, ⟨10, []⟩, ⟨40, []⟩, ⟨41, []⟩]
  | 7, 10 => [⟨2, []⟩, ⟨7, []⟩, ⟨8, []⟩, ⟨9, []⟩, ⟨10, []⟩, ⟨11, []⟩, ⟨40, []⟩, ⟨41, []⟩, ⟨44, []⟩, ⟨45, []⟩, ⟨46, []⟩]
  | 12, 3 => [⟨0, []⟩, ⟨3, [(0, 23, 4)]⟩, ⟨4, []⟩]
  | 15, 4 => [⟨0, []⟩, ⟨1, []⟩, ⟨5, []⟩]
  | 22, 2 => [⟨0, []⟩, ⟨1, []⟩, ⟨7, []⟩, ⟨8, []⟩]
  | _, _ => []
def ext : FuncId → Option Ext
  | 25 => some (.rw false sortG)
  | 26 => some (.rw true compactG)
  | _ => none
noncomputable def fns : FuncId → Option Func
  | 3 => some Try.f3
  | 4 => some Try.f4
  | 5 => some Try.f5
  | 6 => some Try.f6
  | 7 => some Try.f7
  | 8 => some Try.f8
  | 9 => some Try.f9
  | 10 => some Try.f10
  | 11 => some Try.f11
  | 12 => some Try.f12
  | 13 => some Try.f13
  | 14 => some Try.f14
  | 15 => some Try.f15
  | 16 => some Try.f16
  | 17 => some Try.f17
  | 18 => some Try.f18
  | 19 => some Try.f19
  | 20 => some Try.f20
  | 21 => some Try.f21
  | 22 => some Try.f22
  | 23 => some Try.f23
  | 24 => some Try.f24
  | 25 => some Try.f25
  | 26 => some Try.f26
  | _ => none
noncomputable def E : Env := { P := Try.prog, fns := fns, lv := lv, ext := ext }
theorem k3 : fnOK Try.f3 = true := by kernel_rfl
theorem k4 : fnOK Try.f4 = true := by kernel_rfl
theorem k5 : fnOK Try.f5 = true := by kernel_rfl
theorem k6 : fnOK Try.f6 = true := by kernel_rfl
theorem k7 : fnOK Try.f7 = true := by kernel_rfl
theorem k8 : fnOK Try.f8 = true := by kernel_rfl
theorem k9 : fnOK Try.f9 = true := by kernel_rfl
theorem k10 : fnOK Try.f10 = true := by kernel_rfl
theorem k11 : fnOK Try.f11 = true := by kernel_rfl
theorem k12 : fnOK Try.f12 = true := by kernel_rfl
theorem k13 : fnOK Try.f13 = true := by kernel_rfl
theorem k14 : fnOK Try.f14 = true := by kernel_rfl
theorem k15 : fnOK Try.f15 = true := by kernel_rfl
theorem k16 : fnOK Try.f16 = true := by kernel_rfl
theorem k17 : fnOK Try.f17 = true := by kernel_rfl
theorem k18 : fnOK Try.f18 = true := by kernel_rfl
theorem k19 : fnOK Try.f19 = true := by kernel_rfl
theorem k20 : fnOK Try.f20 = true := by kernel_rfl
theorem k21 : fnOK Try.f21 = true := by kernel_rfl
theorem k22 : fnOK Try.f22 = true := by kernel_rfl
theorem k23 : fnOK Try.f23 = true := by kernel_rfl
theorem k24 : fnOK Try.f24 = true := by kernel_rfl
theorem k25 : fnOK Try.f25 = true := by kernel_rfl
theorem k26 : fnOK Try.f26 = true := by kernel_rfl
def rhoSort : Shelf.Ren := ⟨fun | 189 => 25 | 125 => 28 | 257 => 27 | 128 => 38 | 129 => 39 | 294 => 29 | 295 => 30 | 296 => 31 | 297 => 32 | 298 => 33 | 299 => 34 | 216 => 35 | 300 => 36 | 301 => 37 | 328 => 40 | 329 => 41 | 330 => 42 | 331 => 43 | 332 => 44 | 215 => 45 | 343 => 46 | x => x, fun | 28 => 30 | 3 => 3 | 46 => 41 | 0 => 0 | 51 => 66 | 53 => 68 | 4 => 4 | 183 => 59 | 182 => 58 | 131 => 63 | 5 => 5 | 9 => 9 | 218 => 69 | 222 => 73 | 228 => 75 | 229 => 76 | x => x, fun x => x⟩
theorem laysSort : Lays.n189 Try.prog rhoSort := { mixed := by kernel_rfl, f125 := by kernel_rfl, f128 := by kernel_rfl, f129 := by kernel_rfl, f189 := by kernel_rfl, f215 := by kernel_rfl, f216 := by kernel_rfl, f257 := by kernel_rfl, f294 := by kernel_rfl, f295 := by kernel_rfl, f296 := by kernel_rfl, f297 := by kernel_rfl, f298 := by kernel_rfl, f299 := by kernel_rfl, f300 := by kernel_rfl, f301 := by kernel_rfl, f328 := by kernel_rfl, f329 := by kernel_rfl, f330 := by kernel_rfl, f331 := by kernel_rfl, f332 := by kernel_rfl, f343 := by kernel_rfl, t0 := by kernel_rfl, a0 := fun w => by kernel_rfl, z0 := fun w => by kernel_rfl, v0 := fun w => by kernel_rfl, t3 := by kernel_rfl, a3 := fun w => by kernel_rfl, z3 := fun w => by kernel_rfl, v3 := fun w => by kernel_rfl, t4 := by kernel_rfl, a4 := fun w => by kernel_rfl, z4 := fun w => by kernel_rfl, v4 := fun w => by kernel_rfl, t5 := by kernel_rfl, a5 := fun w => by kernel_rfl, z5 := fun w => by kernel_rfl, v5 := fun w => by kernel_rfl, t9 := by kernel_rfl, a9 := fun w => by kernel_rfl, z9 := fun w => by kernel_rfl, v9 := fun w => by kernel_rfl, t28 := by kernel_rfl, a28 := fun w => by kernel_rfl, z28 := fun w => by kernel_rfl, v28 := fun w => by kernel_rfl, t46 := by kernel_rfl, a46 := fun w => by kernel_rfl, z46 := fun w => by kernel_rfl, v46 := fun w => by kernel_rfl, t51 := by kernel_rfl, a51 := fun w => by kernel_rfl, z51 := fun w => by kernel_rfl, v51 := fun w => by kernel_rfl, t53 := by kernel_rfl, a53 := fun w => by kernel_rfl, z53 := fun w => by kernel_rfl, v53 := fun w => by kernel_rfl, t131 := by kernel_rfl, a131 := fun w => by kernel_rfl, z131 := fun w => by kernel_rfl, v131 := fun w => by kernel_rfl, t182 := by kernel_rfl, a182 := fun w => by kernel_rfl, z182 := fun w => by kernel_rfl, v182 := fun w => by kernel_rfl, t183 := by kernel_rfl, a183 := fun w => by kernel_rfl, z183 := fun w => by kernel_rfl, v183 := fun w => by kernel_rfl, t218 := by kernel_rfl, a218 := fun w => by kernel_rfl, z218 := fun w => by kernel_rfl, v218 := fun w => by kernel_rfl, t222 := by kernel_rfl, a222 := fun w => by kernel_rfl, z222 := fun w => by kernel_rfl, v222 := fun w => by kernel_rfl, t228 := by kernel_rfl, a228 := fun w => by kernel_rfl, z228 := fun w => by kernel_rfl, v228 := fun w => by kernel_rfl, t229 := by kernel_rfl, a229 := fun w => by kernel_rfl, z229 := fun w => by kernel_rfl, v229 := fun w => by kernel_rfl }
def rhoCompact : Shelf.Ren := ⟨fun | 20 => 26 | x => x, fun | 22 => 30 | 3 => 3 | 4 => 4 | 0 => 0 | x => x, fun x => x⟩
theorem laysCompact : Lays2.n20 Try.prog rhoCompact := { mixed := by kernel_rfl, f20 := by kernel_rfl, t0 := by kernel_rfl, a0 := fun w => by kernel_rfl, z0 := fun w => by kernel_rfl, v0 := fun w => by kernel_rfl, t3 := by kernel_rfl, a3 := fun w => by kernel_rfl, z3 := fun w => by kernel_rfl, v3 := fun w => by kernel_rfl, t4 := by kernel_rfl, a4 := fun w => by kernel_rfl, z4 := fun w => by kernel_rfl, v4 := fun w => by kernel_rfl, t22 := by kernel_rfl, a22 := fun w => by kernel_rfl, z22 := fun w => by kernel_rfl, v22 := fun w => by kernel_rfl, i3 := by kernel_rfl }
theorem ok : EnvOK E := by
  refine ⟨Checked.mixed Try.checked, fun f fn h => ?_, fun f g h => ?_, fun f h => ?_, fun f mv g h => ?_⟩
  · have h : fns f = some fn := h
    unfold fns at h
    split at h
    · injection h with h; subst h; exact fn_of Try.func3 k3
    · injection h with h; subst h; exact fn_of Try.func4 k4
    · injection h with h; subst h; exact fn_of Try.func5 k5
    · injection h with h; subst h; exact fn_of Try.func6 k6
    · injection h with h; subst h; exact fn_of Try.func7 k7
    · injection h with h; subst h; exact fn_of Try.func8 k8
    · injection h with h; subst h; exact fn_of Try.func9 k9
    · injection h with h; subst h; exact fn_of Try.func10 k10
    · injection h with h; subst h; exact fn_of Try.func11 k11
    · injection h with h; subst h; exact fn_of Try.func12 k12
    · injection h with h; subst h; exact fn_of Try.func13 k13
    · injection h with h; subst h; exact fn_of Try.func14 k14
    · injection h with h; subst h; exact fn_of Try.func15 k15
    · injection h with h; subst h; exact fn_of Try.func16 k16
    · injection h with h; subst h; exact fn_of Try.func17 k17
    · injection h with h; subst h; exact fn_of Try.func18 k18
    · injection h with h; subst h; exact fn_of Try.func19 k19
    · injection h with h; subst h; exact fn_of Try.func20 k20
    · injection h with h; subst h; exact fn_of Try.func21 k21
    · injection h with h; subst h; exact fn_of Try.func22 k22
    · injection h with h; subst h; exact fn_of Try.func23 k23
    · injection h with h; subst h; exact fn_of Try.func24 k24
    · injection h with h; subst h; exact fn_of Try.func25 k25
    · injection h with h; subst h; exact fn_of Try.func26 k26
    · cases h
  · have h : ext f = some (.fn g) := h
    unfold ext at h
    split at h
    · injection h with h; cases h
    · injection h with h; cases h
    · cases h
  · have h : ext f = some .clip := h
    unfold ext at h
    split at h
    · injection h with h; cases h
    · injection h with h; cases h
    · cases h
  · have h : ext f = some (.rw mv g) := h
    unfold ext at h
    split at h
    · injection h with h; injection h with h1 h2; subst h1; subst h2; exact ⟨entered_of Try.func25 k25, sort_rw laysSort rfl⟩
    · injection h with h; injection h with h1 h2; subst h1; subst h2; exact ⟨entered_of Try.func26 k26, compact_rw laysCompact rfl⟩
    · cases h
#print axioms ok
end Go.Proofs.Ytknapjbdgpjdjaa.D
