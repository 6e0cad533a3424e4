/- The seat's tables for the evaluator, by program: what is live at each loop's head; the functions; slices.Clone and slices.Clip, walked. -/
import Derived.Test.YtgbeijemcojnpaaChecked
import Derived.Test.YtgbeijemcojnpaaDenK3
import Derived.WalkKit
import Derived.Deep.LoopGhost
import Derived.Lib.Walk
import Derived.Lib.SliceRun
import Derived.Lib.AppendZerosOnto
import Derived.Shelf.Spec.SlicesGrow
namespace Go.Proofs.Ytgbeijemcojnpaa.D
open Go Go.Den Go.Proofs Go.RowKit Go.Lib
def lv : FuncId → Nat → List NI
  | 3, 22 => [⟨0, []⟩, ⟨2, []⟩, ⟨3, []⟩, ⟨11, []⟩, ⟨12, []⟩, ⟨118, []⟩, ⟨119, []⟩, ⟨120, []⟩]
  | 5, 4 => [⟨0, []⟩, ⟨2, []⟩, ⟨3, []⟩, ⟨4, []⟩, ⟨5, []⟩]
  | 7, 3 => [⟨3, []⟩, ⟨7, []⟩, ⟨8, []⟩, ⟨9, []⟩]
  | 9, 11 => [⟨2, []⟩, ⟨3, []⟩, ⟨5, []⟩, ⟨6, []⟩]
  | 10, 3 => [⟨1, []⟩, ⟨2, []⟩, ⟨3, []⟩, ⟨7, [(0, 39, 14)]⟩, ⟨8, []⟩]
  | 12, 2 => [⟨1, []⟩, ⟨2, []⟩, ⟨5, []⟩]
  | 13, 2 => [⟨1, []⟩, ⟨3, []⟩]
  | 13, 8 => [⟨1, []⟩, ⟨3, []⟩, ⟨4, []⟩, ⟨5, []⟩]
  | 14, 17 => [⟨1, []⟩, ⟨2, []⟩, ⟨3, []⟩, ⟨4, []⟩, ⟨8, []⟩, ⟨9, []⟩, ⟨12, []⟩, ⟨13, []⟩]
  | 15, 3 => [⟨1, []⟩, ⟨5, [(0, 32, 4)]⟩, ⟨9, []⟩, ⟨10, []⟩, ⟨11, []⟩]
  | 18, 4 => [⟨1, []⟩, ⟨14, []⟩, ⟨15, []⟩, ⟨16, []⟩]
  | 20, 2 => [⟨1, []⟩, ⟨2, []⟩, ⟨8, []⟩, ⟨9, []⟩, ⟨10, []⟩]
  | 29, 4 => [⟨1, []⟩, ⟨2, []⟩, ⟨5, []⟩]
  | 30, 2 => [⟨1, []⟩, ⟨2, []⟩, ⟨5, []⟩]
  | 30, 8 => [⟨1, []⟩, ⟨2, []⟩, ⟨5, []⟩, ⟨6, []⟩, ⟨7, []⟩]
  | 32, 2 => [⟨1, []⟩, ⟨2, []⟩, ⟨5, []⟩]
  | 35, 2 => [⟨0, []⟩, ⟨3, []⟩]
  | 38, 5 => [⟨2, []⟩, ⟨3, []⟩, ⟨4, []⟩, ⟨31, []⟩, ⟨32, []⟩, ⟨33, []⟩]
  | 42, 2 => [⟨0, []⟩, ⟨1, []⟩, ⟨7, []⟩, ⟨8, []⟩]
  | 43, 2 => [⟨0, []⟩, ⟨1, []⟩, ⟨7, []⟩, ⟨8, []⟩]
  | 44, 5 => [⟨1, []⟩, ⟨2, []⟩, ⟨6, []⟩, ⟨7, []⟩, ⟨8, []⟩]
  | 45, 16 => [⟨2, []⟩, ⟨3, []⟩, ⟨7, []⟩]
  | 46, 4 => [⟨2, []⟩, ⟨3, []⟩, ⟨5, []⟩]
  | 48, 2 => [⟨0, []⟩, ⟨1, []⟩, ⟨7, []⟩, ⟨8, []⟩]
  | 52, 2 => [⟨0, []⟩, ⟨1, []⟩, ⟨7, []⟩, ⟨8, []⟩]
  | 56, 4 => [⟨1, []⟩, ⟨2, []⟩, ⟨15, []⟩, ⟨16, []⟩, ⟨17, []⟩]
  | _, _ => []
def ext : FuncId → Option Ext

  | _ => none
noncomputable def fns : FuncId → Option Func
  | 3 => some Try.f3
  | 4 => some Try.f4
  | 5 => some Try.f5
  | 6 => some Try.f6
  | 7 => some Try.f7
  | 8 => some Try.f8
  | 9 => some Try.f9
  | 10 => some Try.f10
  | 11 => some Try.f11
  | 12 => some Try.f12
  | 13 => some Try.f13
  | 14 => some Try.f14
  | 15 => some Try.f15
  | 16 => some Try.f16
  | 17 => some Try.f17
  | 18 => some Try.f18
  | 19 => some Try.f19
  | 20 => some Try.f20
  | 21 => some Try.f21
  | 22 => some Try.f22
  | 23 => some Try.f23
  | 24 => some Try.f24
  | 25 => some Try.f25
  | 26 => some Try.f26
  | 27 => some Try.f27
  | 28 => some Try.f28
  | 29 => some Try.f29
  | 30 => some Try.f30
  | 31 => some Try.f31
  | 32 => some Try.f32
  | 33 => some Try.f33
  | 34 => some Try.f34
  | 35 => some Try.f35
  | 36 => some Try.f36
  | 37 => some Try.f37
  | 38 => some Try.f38
  | 39 => some Try.f39
  | 40 => some Try.f40
  | 41 => some Try.f41
  | 42 => some Try.f42
  | 43 => some Try.f43
  | 44 => some Try.f44
  | 45 => some Try.f45
  | 46 => some Try.f46
  | 47 => some Try.f47
  | 48 => some Try.f48
  | 49 => some Try.f49
  | 50 => some Try.f50
  | 51 => some Try.f51
  | 52 => some Try.f52
  | 53 => some Try.f53
  | 54 => some Try.f54
  | 55 => some Try.f55
  | 56 => some Try.f56
  | 57 => some Try.f57
  | 58 => some Try.f58
  | 59 => some Try.f59
  | _ => none
noncomputable def E : Env := { P := Try.prog, fns := fns, lv := lv, ext := ext }
theorem k3 : fnOK Try.f3 = true := by kernel_rfl
theorem k4 : fnOK Try.f4 = true := by kernel_rfl
theorem k5 : fnOK Try.f5 = true := by kernel_rfl
theorem k6 : fnOK Try.f6 = true := by kernel_rfl
theorem k7 : fnOK Try.f7 = true := by kernel_rfl
theorem k8 : fnOK Try.f8 = true := by kernel_rfl
theorem k9 : fnOK Try.f9 = true := by kernel_rfl
theorem k10 : fnOK Try.f10 = true := by kernel_rfl
theorem k11 : fnOK Try.f11 = true := by kernel_rfl
theorem k12 : fnOK Try.f12 = true := by kernel_rfl
theorem k13 : fnOK Try.f13 = true := by kernel_rfl
theorem k14 : fnOK Try.f14 = true := by kernel_rfl
theorem k15 : fnOK Try.f15 = true := by kernel_rfl
theorem k16 : fnOK Try.f16 = true := by kernel_rfl
theorem k17 : fnOK Try.f17 = true := by kernel_rfl
theorem k18 : fnOK Try.f18 = true := by kernel_rfl
theorem k19 : fnOK Try.f19 = true := by kernel_rfl
theorem k20 : fnOK Try.f20 = true := by kernel_rfl
theorem k21 : fnOK Try.f21 = true := by kernel_rfl
theorem k22 : fnOK Try.f22 = true := by kernel_rfl
theorem k23 : fnOK Try.f23 = true := by kernel_rfl
theorem k24 : fnOK Try.f24 = true := by kernel_rfl
theorem k25 : fnOK Try.f25 = true := by kernel_rfl
theorem k26 : fnOK Try.f26 = true := by kernel_rfl
theorem k27 : fnOK Try.f27 = true := by kernel_rfl
theorem k28 : fnOK Try.f28 = true := by kernel_rfl
theorem k29 : fnOK Try.f29 = true := by kernel_rfl
theorem k30 : fnOK Try.f30 = true := by kernel_rfl
theorem k31 : fnOK Try.f31 = true := by kernel_rfl
theorem k32 : fnOK Try.f32 = true := by kernel_rfl
theorem k33 : fnOK Try.f33 = true := by kernel_rfl
theorem k34 : fnOK Try.f34 = true := by kernel_rfl
theorem k35 : fnOK Try.f35 = true := by kernel_rfl
theorem k36 : fnOK Try.f36 = true := by kernel_rfl
theorem k37 : fnOK Try.f37 = true := by kernel_rfl
theorem k38 : fnOK Try.f38 = true := by kernel_rfl
theorem k39 : fnOK Try.f39 = true := by kernel_rfl
theorem k40 : fnOK Try.f40 = true := by kernel_rfl
theorem k41 : fnOK Try.f41 = true := by kernel_rfl
theorem k42 : fnOK Try.f42 = true := by kernel_rfl
theorem k43 : fnOK Try.f43 = true := by kernel_rfl
theorem k44 : fnOK Try.f44 = true := by kernel_rfl
theorem k45 : fnOK Try.f45 = true := by kernel_rfl
theorem k46 : fnOK Try.f46 = true := by kernel_rfl
theorem k47 : fnOK Try.f47 = true := by kernel_rfl
theorem k48 : fnOK Try.f48 = true := by kernel_rfl
theorem k49 : fnOK Try.f49 = true := by kernel_rfl
theorem k50 : fnOK Try.f50 = true := by kernel_rfl
theorem k51 : fnOK Try.f51 = true := by kernel_rfl
theorem k52 : fnOK Try.f52 = true := by kernel_rfl
theorem k53 : fnOK Try.f53 = true := by kernel_rfl
theorem k54 : fnOK Try.f54 = true := by kernel_rfl
theorem k55 : fnOK Try.f55 = true := by kernel_rfl
theorem k56 : fnOK Try.f56 = true := by kernel_rfl
theorem k57 : fnOK Try.f57 = true := by kernel_rfl
theorem k58 : fnOK Try.f58 = true := by kernel_rfl
theorem k59 : fnOK Try.f59 = true := by kernel_rfl

theorem ok : EnvOK E := by
  refine ⟨Checked.mixed Try.checked, fun f fn h => ?_, fun f g h => ?_, fun f h => ?_, fun f mv g h => ?_⟩
  · have h : fns f = some fn := h
    unfold fns at h
    split at h
    · injection h with h; subst h; exact fn_of Try.func3 k3
    · injection h with h; subst h; exact fn_of Try.func4 k4
    · injection h with h; subst h; exact fn_of Try.func5 k5
    · injection h with h; subst h; exact fn_of Try.func6 k6
    · injection h with h; subst h; exact fn_of Try.func7 k7
    · injection h with h; subst h; exact fn_of Try.func8 k8
    · injection h with h; subst h; exact fn_of Try.func9 k9
    · injection h with h; subst h; exact fn_of Try.func10 k10
    · injection h with h; subst h; exact fn_of Try.func11 k11
    · injection h with h; subst h; exact fn_of Try.func12 k12
    · injection h with h; subst h; exact fn_of Try.func13 k13
    · injection h with h; subst h; exact fn_of Try.func14 k14
    · injection h with h; subst h; exact fn_of Try.func15 k15
    · injection h with h; subst h; exact fn_of Try.func16 k16
    · injection h with h; subst h; exact fn_of Try.func17 k17
    · injection h with h; subst h; exact fn_of Try.func18 k18
    · injection h with h; subst h; exact fn_of Try.func19 k19
    · injection h with h; subst h; exact fn_of Try.func20 k20
    · injection h with h; subst h; exact fn_of Try.func21 k21
    · injection h with h; subst h; exact fn_of Try.func22 k22
    · injection h with h; subst h; exact fn_of Try.func23 k23
    · injection h with h; subst h; exact fn_of Try.func24 k24
    · injection h with h; subst h; exact fn_of Try.func25 k25
    · injection h with h; subst h; exact fn_of Try.func26 k26
    · injection h with h; subst h; exact fn_of Try.func27 k27
    · injection h with h; subst h; exact fn_of Try.func28 k28
    · injection h with h; subst h; exact fn_of Try.func29 k29
    · injection h with h; subst h; exact fn_of Try.func30 k30
    · injection h with h; subst h; exact fn_of Try.func31 k31
    · injection h with h; subst h; exact fn_of Try.func32 k32
    · injection h with h; subst h; exact fn_of Try.func33 k33
    · injection h with h; subst h; exact fn_of Try.func34 k34
    · injection h with h; subst h; exact fn_of Try.func35 k35
    · injection h with h; subst h; exact fn_of Try.func36 k36
    · injection h with h; subst h; exact fn_of Try.func37 k37
    · injection h with h; subst h; exact fn_of Try.func38 k38
    · injection h with h; subst h; exact fn_of Try.func39 k39
    · injection h with h; subst h; exact fn_of Try.func40 k40
    · injection h with h; subst h; exact fn_of Try.func41 k41
    · injection h with h; subst h; exact fn_of Try.func42 k42
    · injection h with h; subst h; exact fn_of Try.func43 k43
    · injection h with h; subst h; exact fn_of Try.func44 k44
    · injection h with h; subst h; exact fn_of Try.func45 k45
    · injection h with h; subst h; exact fn_of Try.func46 k46
    · injection h with h; subst h; exact fn_of Try.func47 k47
    · injection h with h; subst h; exact fn_of Try.func48 k48
    · injection h with h; subst h; exact fn_of Try.func49 k49
    · injection h with h; subst h; exact fn_of Try.func50 k50
    · injection h with h; subst h; exact fn_of Try.func51 k51
    · injection h with h; subst h; exact fn_of Try.func52 k52
    · injection h with h; subst h; exact fn_of Try.func53 k53
    · injection h with h; subst h; exact fn_of Try.func54 k54
    · injection h with h; subst h; exact fn_of Try.func55 k55
    · injection h with h; subst h; exact fn_of Try.func56 k56
    · injection h with h; subst h; exact fn_of Try.func57 k57
    · injection h with h; subst h; exact fn_of Try.func58 k58
    · injection h with h; subst h; exact fn_of Try.func59 k59
    · cases h
  · have h : ext f = some (.fn g) := h
    unfold ext at h
    split at h
    · cases h
  · have h : ext f = some .clip := h
    unfold ext at h
    split at h
    · cases h
  · have h : ext f = some (.rw mv g) := h
    unfold ext at h
    split at h
    · cases h
#print axioms ok
end Go.Proofs.Ytgbeijemcojnpaa.D
