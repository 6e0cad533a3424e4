/- The seat's tables for the evaluator, by program: what is live at each loop's head; the functions; slices.Clone and slices.Clip, walked. -/
import Derived.Test.YtojaklgmojmjeaaChecked
import Derived.Test.YtojaklgmojmjeaaDenK3
import Derived.WalkKit
import Derived.Deep.LoopGhost
import Derived.Lib.Walk
import Derived.Lib.SliceRun
import Derived.Lib.AppendZerosOnto
import Derived.Shelf.Spec.SlicesGrow
import Derived.Test.YtojaklgmojmjeaaDenS
import Derived.Test.YtojaklgmojmjeaaDenC
import Derived.Test.YtojaklgmojmjeaaIcol1
import Derived.Test.YtojaklgmojmjeaaIcol2
namespace Go.Proofs.Ytojaklgmojmjeaa.D
open Go Go.Den Go.Proofs Go.RowKit Go.Lib
def lv : FuncId → Nat → List NI
  | 4, 6 => [⟨0, []⟩, ⟨1, []⟩, ⟨2, []⟩, ⟨7, []⟩, ⟨8, []⟩, ⟨9, []⟩, ⟨26, []⟩, ⟨27, []⟩]
  | 5, 3 => [⟨0, []⟩, ⟨3, [(0, 2, 1)]⟩, ⟨4, []⟩]
  | 5, 7 => [⟨3, []⟩, ⟨33, []⟩, ⟨34, []⟩, ⟨35, []⟩]
  | 6, 7 => [⟨3, []⟩, ⟨4, []⟩, ⟨5, []⟩, ⟨6, []⟩, ⟨15, []⟩, ⟨52, []⟩, ⟨53, []⟩, ⟨54, []⟩]
  | 6, 19 => [⟨3, []⟩, ⟨4, []⟩, ⟨5, []⟩, ⟨6, []⟩, ⟨15, []⟩, ⟨52, []⟩, ⟨53, []⟩, ⟨54, []⟩, ⟨107, []⟩, ⟨108, []⟩, ⟨109, []⟩]
  | 6, 22 => [⟨3, []⟩, ⟨4, []⟩, ⟨5, []⟩, ⟨6, []⟩, ⟨15, []⟩, ⟨25, []⟩, ⟨52, []⟩, ⟨53, []⟩, ⟨54, []⟩, ⟨107, []⟩, ⟨108, []⟩, ⟨109, []⟩, ⟨118, []⟩, ⟨119, []⟩, ⟨120, []⟩]
  | 6, 29 => [⟨3, []⟩, ⟨4, []⟩, ⟨5, []⟩, ⟨6, []⟩, ⟨15, []⟩, ⟨25, []⟩, ⟨27, []⟩, ⟨30, []⟩, ⟨31, []⟩, ⟨52, []⟩, ⟨53, []⟩, ⟨54, []⟩, ⟨107, []⟩, ⟨108, []⟩, ⟨109, []⟩, ⟨118, []⟩, ⟨119, []⟩, ⟨120, []⟩, ⟨151, []⟩, ⟨152, []⟩, ⟨153, []⟩]
  | 7, 7 => [⟨5, []⟩, ⟨6, []⟩, ⟨38, []⟩, ⟨39, []⟩, ⟨40, []⟩]
  | 7, 15 => [⟨5, []⟩, ⟨6, []⟩, ⟨99, []⟩, ⟨100, []⟩]
  | 11, 3 => [⟨0, []⟩, ⟨3, []⟩, ⟨4, []⟩]
  | 13, 4 => [⟨0, []⟩, ⟨1, []⟩, ⟨5, []⟩]
  | 14, 3 => [⟨0, []⟩, ⟨1, []⟩, ⟨5, [(0, 2, 1)]⟩, ⟨6, []⟩]
  | 17, 4 => [⟨6, []⟩, ⟨7, []⟩, ⟨8, [(0, 2, 1)]⟩, ⟨9, []⟩]
  | 19, 3 => [⟨0, []⟩, ⟨5, [(0, 2, 1)]⟩, ⟨6, []⟩, ⟨7, []⟩]
  | 20, 2 => [⟨0, []⟩, ⟨1, []⟩, ⟨5, [(0, 2, 1)]⟩]
  | 21, 10 => [⟨5, []⟩, ⟨9, [(0, 2, 1)]⟩, ⟨40, []⟩, ⟨41, []⟩, ⟨42, []⟩]
  | 22, 8 => [⟨6, []⟩, ⟨9, [(0, 2, 1)]⟩, ⟨37, []⟩, ⟨38, []⟩, ⟨39, []⟩]
  | 26, 3 => [⟨0, []⟩, ⟨1, []⟩, ⟨5, []⟩, ⟨6, []⟩]
  | 27, 3 => [⟨0, []⟩, ⟨3, [(0, 27, 1)]⟩, ⟨4, []⟩]
  | 27, 8 => [⟨0, []⟩, ⟨3, []⟩, ⟨4, []⟩, ⟨5, []⟩, ⟨6, [(0, 5, 1)]⟩, ⟨7, []⟩]
  | 28, 8 => [⟨1, []⟩, ⟨2, []⟩, ⟨8, [(0, 5, 1)]⟩, ⟨9, []⟩]
  | 28, 13 => [⟨1, []⟩, ⟨2, []⟩, ⟨8, [(0, 5, 1)]⟩, ⟨10, []⟩]
  | 28, 15 => [⟨1, []⟩, ⟨2, []⟩, ⟨8, []⟩, ⟨10, []⟩, ⟨11, []⟩]
  | 28, 26 => [⟨1, []⟩, ⟨8, []⟩, ⟨12, []⟩, ⟨13, []⟩, ⟨14, []⟩]
  | 28, 31 => [⟨1, []⟩, ⟨8, []⟩, ⟨12, []⟩, ⟨13, []⟩, ⟨15, [(0, 59, 1)]⟩, ⟨16, []⟩]
  | 28, 40 => [⟨1, []⟩, ⟨2, []⟩, ⟨8, [(0, 5, 1)]⟩, ⟨18, []⟩, ⟨19, []⟩]
  | 28, 45 => [⟨1, []⟩, ⟨8, []⟩, ⟨18, []⟩, ⟨20, [(0, 59, 1)]⟩, ⟨21, []⟩]
  | 28, 48 => [⟨1, []⟩, ⟨8, []⟩, ⟨18, []⟩, ⟨20, []⟩, ⟨21, []⟩, ⟨22, []⟩]
  | 29, 8 => [⟨0, []⟩, ⟨1, []⟩, ⟨2, []⟩, ⟨8, []⟩, ⟨9, [(0, 27, 1)]⟩, ⟨11, []⟩]
  | 29, 12 => [⟨0, []⟩, ⟨1, []⟩, ⟨2, []⟩, ⟨8, []⟩, ⟨9, [(0, 27, 1)]⟩]
  | 29, 17 => [⟨0, []⟩, ⟨1, []⟩, ⟨2, []⟩, ⟨8, []⟩, ⟨9, [(0, 27, 1)]⟩, ⟨12, []⟩, ⟨13, []⟩]
  | 29, 29 => [⟨0, []⟩, ⟨1, []⟩, ⟨2, []⟩, ⟨8, []⟩, ⟨9, [(0, 27, 1)]⟩, ⟨14, []⟩, ⟨15, []⟩, ⟨17, []⟩]
  | 29, 35 => [⟨0, []⟩, ⟨1, []⟩, ⟨2, []⟩, ⟨8, []⟩, ⟨9, []⟩, ⟨10, [(0, 27, 1)]⟩, ⟨18, []⟩, ⟨19, []⟩]
  | 29, 40 => [⟨0, []⟩, ⟨1, []⟩, ⟨2, []⟩, ⟨8, []⟩, ⟨9, [(0, 27, 1)]⟩, ⟨10, []⟩, ⟨20, []⟩, ⟨21, []⟩, ⟨22, []⟩]
  | 30, 3 => [⟨0, []⟩, ⟨3, []⟩, ⟨4, []⟩]
  | 33, 3 => [⟨0, []⟩, ⟨3, []⟩, ⟨9, []⟩, ⟨10, []⟩, ⟨11, []⟩]
  | 37, 6 => [⟨0, []⟩, ⟨1, []⟩, ⟨8, []⟩, ⟨29, []⟩, ⟨30, []⟩]
  | 39, 3 => [⟨3, [(0, 5, 1)]⟩, ⟨6, []⟩, ⟨7, []⟩, ⟨8, []⟩]
  | 40, 2 => [⟨0, []⟩, ⟨3, [(0, 5, 1)]⟩]
  | 40, 4 => [⟨0, []⟩, ⟨3, []⟩, ⟨4, []⟩]
  | 41, 7 => [⟨3, []⟩, ⟨4, []⟩, ⟨5, [(0, 59, 1)]⟩, ⟨20, []⟩, ⟨21, []⟩, ⟨22, []⟩]
  | 42, 4 => [⟨0, []⟩, ⟨3, []⟩, ⟨4, [(0, 5, 1)]⟩, ⟨20, []⟩, ⟨21, []⟩, ⟨22, []⟩]
  | 42, 10 => [⟨3, []⟩, ⟨4, []⟩, ⟨7, [(0, 59, 1)]⟩, ⟨31, []⟩, ⟨32, []⟩, ⟨33, []⟩]
  | 44, 2 => [⟨1, []⟩, ⟨5, [(0, 5, 1)]⟩]
  | 45, 2 => [⟨0, []⟩, ⟨3, []⟩]
  | 47, 4 => [⟨0, []⟩, ⟨1, []⟩, ⟨5, [(0, 5, 1)]⟩, ⟨6, []⟩]
  | 47, 7 => [⟨0, []⟩, ⟨1, []⟩, ⟨5, [(0, 5, 1)]⟩, ⟨6, []⟩, ⟨7, []⟩]
  | 47, 12 => [⟨5, []⟩, ⟨8, []⟩, ⟨9, []⟩]
  | 48, 3 => [⟨0, []⟩, ⟨3, [(0, 27, 1)]⟩, ⟨4, []⟩]
  | 48, 6 => [⟨0, []⟩, ⟨3, []⟩, ⟨4, []⟩, ⟨5, []⟩]
  | 50, 3 => [⟨0, []⟩, ⟨3, []⟩, ⟨4, []⟩]
  | 52, 6 => [⟨0, []⟩, ⟨1, []⟩, ⟨2, []⟩, ⟨8, [(0, 59, 1)]⟩, ⟨9, []⟩]
  | 53, 2 => [⟨0, []⟩, ⟨3, []⟩]
  | 58, 3 => [⟨0, []⟩, ⟨1, []⟩, ⟨2, []⟩, ⟨7, []⟩, ⟨8, []⟩]
  | 59, 5 => [⟨0, []⟩, ⟨5, []⟩, ⟨6, []⟩, ⟨17, []⟩, ⟨18, []⟩, ⟨19, []⟩]
  | 59, 8 => [⟨0, []⟩, ⟨5, []⟩, ⟨6, []⟩, ⟨8, []⟩, ⟨9, []⟩, ⟨17, []⟩, ⟨18, []⟩, ⟨19, []⟩]
  | 62, 2 => [⟨1, []⟩, ⟨5, [(0, 5, 1)]⟩]
  | 64, 5 => [⟨0, []⟩, ⟨3, []⟩, ⟨4, []⟩]
  | 65, 5 => [⟨0, []⟩, ⟨3, []⟩, ⟨4, []⟩]
  | 69, 3 => [⟨0, []⟩, ⟨1, []⟩, ⟨6, []⟩, ⟨7, []⟩, ⟨8, []⟩]
  | 72, 3 => [⟨0, []⟩, ⟨1, []⟩, ⟨2, []⟩, ⟨7, []⟩, ⟨8, []⟩]
  | _, _ => []
def ext : FuncId → Option Ext
  | 24 => some .clip
  | 31 => some (.fn (cloneF 5 1 1))
  | 35 => some (.fn (repeatF 2))
  | 60 => some .clip
  | 66 => some (.rw true compactG)
  | 68 => some (.fn (valuesF 79))
  | 76 => some .clip
  | 77 => some (.fn (collectF 79 2))
  | 78 => some (.rw false sortG)
  | _ => none
noncomputable def fns : FuncId → Option Func
  | 3 => some Try.f3
  | 4 => some Try.f4
  | 5 => some Try.f5
  | 6 => some Try.f6
  | 7 => some Try.f7
  | 8 => some Try.f8
  | 9 => some Try.f9
  | 10 => some Try.f10
  | 11 => some Try.f11
  | 12 => some Try.f12
  | 13 => some Try.f13
  | 14 => some Try.f14
  | 15 => some Try.f15
  | 16 => some Try.f16
  | 17 => some Try.f17
  | 18 => some Try.f18
  | 19 => some Try.f19
  | 20 => some Try.f20
  | 21 => some Try.f21
  | 22 => some Try.f22
  | 23 => some Try.f23
  | 24 => some Try.f24
  | 25 => some Try.f25
  | 26 => some Try.f26
  | 27 => some Try.f27
  | 28 => some Try.f28
  | 29 => some Try.f29
  | 30 => some Try.f30
  | 31 => some Try.f31
  | 32 => some Try.f32
  | 33 => some Try.f33
  | 34 => some Try.f34
  | 35 => some Try.f35
  | 36 => some Try.f36
  | 37 => some Try.f37
  | 38 => some Try.f38
  | 39 => some Try.f39
  | 40 => some Try.f40
  | 41 => some Try.f41
  | 42 => some Try.f42
  | 43 => some Try.f43
  | 44 => some Try.f44
  | 45 => some Try.f45
  | 46 => some Try.f46
  | 47 => some Try.f47
  | 48 => some Try.f48
  | 49 => some Try.f49
  | 50 => some Try.f50
  | 51 => some Try.f51
  | 52 => some Try.f52
  | 53 => some Try.f53
  | 54 => some Try.f54
  | 56 => some Try.f56
  | 57 => some Try.f57
  | 58 => some Try.f58
  | 59 => some Try.f59
  | 60 => some Try.f60
  | 61 => some Try.f61
  | 62 => some Try.f62
  | 63 => some Try.f63
  | 64 => some Try.f64
  | 65 => some Try.f65
  | 66 => some Try.f66
  | 67 => some Try.f67
  | 68 => some Try.f68
  | 69 => some Try.f69
  | 70 => some Try.f70
  | 71 => some Try.f71
  | 72 => some Try.f72
  | 75 => some Try.f75
  | 76 => some Try.f76
  | 77 => some Try.f77
  | 78 => some Try.f78
  | 80 => some Try.f80
  | 81 => some Try.f81
  | 85 => some Try.f85
  | _ => none
noncomputable def E : Env := { P := Try.prog, fns := fns, lv := lv, ext := ext }
theorem k3 : fnOK Try.f3 = true := by kernel_rfl
theorem k4 : fnOK Try.f4 = true := by kernel_rfl
theorem k5 : fnOK Try.f5 = true := by kernel_rfl
theorem k6 : fnOK Try.f6 = true := by kernel_rfl
theorem k7 : fnOK Try.f7 = true := by kernel_rfl
theorem k8 : fnOK Try.f8 = true := by kernel_rfl
theorem k9 : fnOK Try.f9 = true := by kernel_rfl
theorem k10 : fnOK Try.f10 = true := by kernel_rfl
theorem k11 : fnOK Try.f11 = true := by kernel_rfl
theorem k12 : fnOK Try.f12 = true := by kernel_rfl
theorem k13 : fnOK Try.f13 = true := by kernel_rfl
theorem k14 : fnOK Try.f14 = true := by kernel_rfl
theorem k15 : fnOK Try.f15 = true := by kernel_rfl
theorem k16 : fnOK Try.f16 = true := by kernel_rfl
theorem k17 : fnOK Try.f17 = true := by kernel_rfl
theorem k18 : fnOK Try.f18 = true := by kernel_rfl
theorem k19 : fnOK Try.f19 = true := by kernel_rfl
theorem k20 : fnOK Try.f20 = true := by kernel_rfl
theorem k21 : fnOK Try.f21 = true := by kernel_rfl
theorem k22 : fnOK Try.f22 = true := by kernel_rfl
theorem k23 : fnOK Try.f23 = true := by kernel_rfl
theorem k24 : fnOK Try.f24 = true := by kernel_rfl
theorem k25 : fnOK Try.f25 = true := by kernel_rfl
theorem k26 : fnOK Try.f26 = true := by kernel_rfl
theorem k27 : fnOK Try.f27 = true := by kernel_rfl
theorem k28 : fnOK Try.f28 = true := by kernel_rfl
theorem k29 : fnOK Try.f29 = true := by kernel_rfl
theorem k30 : fnOK Try.f30 = true := by kernel_rfl
theorem k31 : fnOK Try.f31 = true := by kernel_rfl
theorem k32 : fnOK Try.f32 = true := by kernel_rfl
theorem k33 : fnOK Try.f33 = true := by kernel_rfl
theorem k34 : fnOK Try.f34 = true := by kernel_rfl
theorem k35 : fnOK Try.f35 = true := by kernel_rfl
theorem k36 : fnOK Try.f36 = true := by kernel_rfl
theorem k37 : fnOK Try.f37 = true := by kernel_rfl
theorem k38 : fnOK Try.f38 = true := by kernel_rfl
theorem k39 : fnOK Try.f39 = true := by kernel_rfl
theorem k40 : fnOK Try.f40 = true := by kernel_rfl
theorem k41 : fnOK Try.f41 = true := by kernel_rfl
theorem k42 : fnOK Try.f42 = true := by kernel_rfl
theorem k43 : fnOK Try.f43 = true := by kernel_rfl
theorem k44 : fnOK Try.f44 = true := by kernel_rfl
theorem k45 : fnOK Try.f45 = true := by kernel_rfl
theorem k46 : fnOK Try.f46 = true := by kernel_rfl
theorem k47 : fnOK Try.f47 = true := by kernel_rfl
theorem k48 : fnOK Try.f48 = true := by kernel_rfl
theorem k49 : fnOK Try.f49 = true := by kernel_rfl
theorem k50 : fnOK Try.f50 = true := by kernel_rfl
theorem k51 : fnOK Try.f51 = true := by kernel_rfl
theorem k52 : fnOK Try.f52 = true := by kernel_rfl
theorem k53 : fnOK Try.f53 = true := by kernel_rfl
theorem k54 : fnOK Try.f54 = true := by kernel_rfl
theorem k56 : fnOK Try.f56 = true := by kernel_rfl
theorem k57 : fnOK Try.f57 = true := by kernel_rfl
theorem k58 : fnOK Try.f58 = true := by kernel_rfl
theorem k59 : fnOK Try.f59 = true := by kernel_rfl
theorem k60 : fnOK Try.f60 = true := by kernel_rfl
theorem k61 : fnOK Try.f61 = true := by kernel_rfl
theorem k62 : fnOK Try.f62 = true := by kernel_rfl
theorem k63 : fnOK Try.f63 = true := by kernel_rfl
theorem k64 : fnOK Try.f64 = true := by kernel_rfl
theorem k65 : fnOK Try.f65 = true := by kernel_rfl
theorem k66 : fnOK Try.f66 = true := by kernel_rfl
theorem k67 : fnOK Try.f67 = true := by kernel_rfl
theorem k68 : fnOK Try.f68 = true := by kernel_rfl
theorem k69 : fnOK Try.f69 = true := by kernel_rfl
theorem k70 : fnOK Try.f70 = true := by kernel_rfl
theorem k71 : fnOK Try.f71 = true := by kernel_rfl
theorem k72 : fnOK Try.f72 = true := by kernel_rfl
theorem k75 : fnOK Try.f75 = true := by kernel_rfl
theorem k76 : fnOK Try.f76 = true := by kernel_rfl
theorem k77 : fnOK Try.f77 = true := by kernel_rfl
theorem k78 : fnOK Try.f78 = true := by kernel_rfl
theorem k80 : fnOK Try.f80 = true := by kernel_rfl
theorem k81 : fnOK Try.f81 = true := by kernel_rfl
theorem k85 : fnOK Try.f85 = true := by kernel_rfl
def rhoSort : Shelf.Ren := ⟨fun | 5 => 78 | 8 => 84 | 7 => 83 | 19 => 94 | 20 => 75 | 10 => 86 | 11 => 87 | 12 => 88 | 13 => 89 | 14 => 90 | 15 => 91 | 16 => 80 | 17 => 92 | 18 => 93 | 30 => 95 | 31 => 96 | 32 => 97 | 33 => 98 | 34 => 99 | 35 => 85 | 40 => 100 | x => x, fun | 23 => 24 | 25 => 2 | 3 => 3 | 32 => 32 | 22 => 24 | 0 => 0 | 44 => 93 | 46 => 59 | 4 => 4 | 36 => 106 | 35 => 105 | 41 => 89 | 5 => 5 | 9 => 9 | 53 => 112 | 57 => 115 | 63 => 117 | 64 => 118 | x => x, fun x => x⟩
theorem laysSort : SlLaysM.n5 Try.prog rhoSort := { mixed := by kernel_rfl, f5 := ⟨Try.f78.name, by decide, by kernel_rfl⟩, f7 := ⟨Try.f83.name, by decide, by kernel_rfl⟩, f8 := by kernel_rfl, f10 := ⟨Try.f86.name, by decide, by kernel_rfl⟩, f11 := ⟨Try.f87.name, by decide, by kernel_rfl⟩, f12 := ⟨Try.f88.name, by decide, by kernel_rfl⟩, f13 := ⟨Try.f89.name, by decide, by kernel_rfl⟩, f14 := ⟨Try.f90.name, by decide, by kernel_rfl⟩, f15 := ⟨Try.f91.name, by decide, by kernel_rfl⟩, f16 := ⟨Try.f80.name, by decide, by kernel_rfl⟩, f17 := ⟨Try.f92.name, by decide, by kernel_rfl⟩, f18 := ⟨Try.f93.name, by decide, by kernel_rfl⟩, f19 := by kernel_rfl, f20 := by kernel_rfl, f30 := ⟨Try.f95.name, by decide, by kernel_rfl⟩, f31 := by kernel_rfl, f32 := by kernel_rfl, f33 := ⟨Try.f98.name, by decide, by kernel_rfl⟩, f34 := ⟨Try.f99.name, by decide, by kernel_rfl⟩, f35 := ⟨Try.f85.name, by decide, by kernel_rfl⟩, f40 := ⟨Try.f100.name, by decide, by kernel_rfl⟩, t0 := by kernel_rfl, a0 := fun w => by kernel_rfl, z0 := fun w => by kernel_rfl, v0 := fun w => by kernel_rfl, t3 := by kernel_rfl, a3 := fun w => by kernel_rfl, z3 := fun w => by kernel_rfl, v3 := fun w => by kernel_rfl, t4 := by kernel_rfl, a4 := fun w => by kernel_rfl, z4 := fun w => by kernel_rfl, v4 := fun w => by kernel_rfl, t5 := by kernel_rfl, a5 := fun w => by kernel_rfl, z5 := fun w => by kernel_rfl, v5 := fun w => by kernel_rfl, t9 := by kernel_rfl, a9 := fun w => by kernel_rfl, z9 := fun w => by kernel_rfl, v9 := fun w => by kernel_rfl, t22 := by kernel_rfl, a22 := fun w => by kernel_rfl, z22 := fun w => by kernel_rfl, v22 := fun w => by kernel_rfl, t23 := by kernel_rfl, a23 := fun w => by kernel_rfl, z23 := fun w => by kernel_rfl, v23 := fun w => by kernel_rfl, t25 := by kernel_rfl, a25 := fun w => by kernel_rfl, z25 := fun w => by kernel_rfl, v25 := fun w => by kernel_rfl, t32 := by kernel_rfl, a32 := fun w => by kernel_rfl, z32 := fun w => by kernel_rfl, v32 := fun w => by kernel_rfl, t35 := by kernel_rfl, a35 := fun w => by kernel_rfl, z35 := fun w => by kernel_rfl, v35 := fun w => by kernel_rfl, t36 := by kernel_rfl, a36 := fun w => by kernel_rfl, z36 := fun w => by kernel_rfl, v36 := fun w => by kernel_rfl, t41 := by kernel_rfl, a41 := fun w => by kernel_rfl, z41 := fun w => by kernel_rfl, v41 := fun w => by kernel_rfl, t44 := by kernel_rfl, a44 := fun w => by kernel_rfl, z44 := fun w => by kernel_rfl, v44 := fun w => by kernel_rfl, t46 := by kernel_rfl, a46 := fun w => by kernel_rfl, z46 := fun w => by kernel_rfl, v46 := fun w => by kernel_rfl, t53 := by kernel_rfl, a53 := fun w => by kernel_rfl, z53 := fun w => by kernel_rfl, v53 := fun w => by kernel_rfl, t57 := by kernel_rfl, a57 := fun w => by kernel_rfl, z57 := fun w => by kernel_rfl, v57 := fun w => by kernel_rfl, t63 := by kernel_rfl, a63 := fun w => by kernel_rfl, z63 := fun w => by kernel_rfl, v63 := fun w => by kernel_rfl, t64 := by kernel_rfl, a64 := fun w => by kernel_rfl, z64 := fun w => by kernel_rfl, v64 := fun w => by kernel_rfl }
def rhoCompact : Shelf.Ren := ⟨fun | 43 => 66 | x => x, fun | 22 => 24 | 23 => 2 | 3 => 3 | 4 => 4 | 0 => 0 | x => x, fun x => x⟩
theorem laysCompact : SlLaysE.n43 Try.prog rhoCompact := { mixed := by kernel_rfl, f43 := ⟨Try.f66.name, by decide, by kernel_rfl⟩, t0 := by kernel_rfl, a0 := fun w => by kernel_rfl, z0 := fun w => by kernel_rfl, v0 := fun w => by kernel_rfl, t3 := by kernel_rfl, a3 := fun w => by kernel_rfl, z3 := fun w => by kernel_rfl, v3 := fun w => by kernel_rfl, t4 := by kernel_rfl, a4 := fun w => by kernel_rfl, z4 := fun w => by kernel_rfl, v4 := fun w => by kernel_rfl, t22 := by kernel_rfl, a22 := fun w => by kernel_rfl, z22 := fun w => by kernel_rfl, v22 := fun w => by kernel_rfl, a23 := fun w => by kernel_rfl, z23 := fun w => by kernel_rfl }
theorem clip24 : ClipOk Try.prog 24 := by
  intro w a n c h
  go_enter Try.func24, Try.ntmps24
  go_wp2
  go_ret
  exact ⟨rfl, rfl, rfl, rfl, rfl⟩
set_option maxHeartbeats 2000000 in
set_option maxRecDepth 100000 in
theorem clone31 (i0 : TypeInfo) (z : Value) (size bytes : Nat) (hi : Try.prog.info? 5 = some i0) (hz0 : i0.zero = some z) (hz1 : i0.size = size) (hz2 : i0.bytes = bytes) (hzs : z.cells.size = size) (hsz : 0 < size)
    (zE : ∀ w, (Go.sizeOf 5).run Try.prog w = .ok size w) (x : Addr) (n c : Nat) (news : List Value) (w : World) (hl : news.length = n * size) (hn : n ≤ maxLen) (hbig : n * bytes ≤ 140737488355328)
    (hc : ∀ (j : Nat) u, news[j]? = some u → w.cell? (x.add j) = some u) (h1 : ∀ u ∈ news, u.oneCell' = true) :
    Calls Try.prog 31 #[.slice (some x) n c] w fun e w' => ∃ v', e = .returned v' ∧ w'.ownsRow w.heap.size 5 size v' n news ∧ Below w.heap.size w w' := by
  have tT := Try.underlying27
  have q22 : ∀ (w : World) (a : Option Addr) (n c n' c' : Nat), (binOp .eql 27 (.slice a n c) (.slice none n' c')).run Try.prog w = .ok (.bool a.isNone) w := fun w a n c n' c' => Lib.run_eql_slice_nil w _ _ a n c n' c' tT
  have u22 : ∀ w, Sem.run Try.prog (underlying 27) w = .ok (TypeDesc.slice 5) w := run_underlying tT
  have A : Aside (∀ (j : Nat) u, news[j]? = some u → w.cell? (x.add j) = some u) := hc
  clear hc
  go_enter Try.func31, Try.ntmps31
  go_wp2_with (at_builtin; refine wpList_append_own _ rfl _ _ 27 rfl w.heap.size 5 i0 z size bytes tT hi hz0 hz1 hz2 hzs hsz _ _ _ rfl (World.ownsRow_made w #[] 0 (Nat.le_refl _) (Nat.zero_le _) (by simp)) x n c news rfl ?qc1 ?qc2 ?qc3 ?qc4 ?qc5 ?qc6 ?_)
  case qc1 => exact hl
  case qc2 =>
    intro j u hj
    exact Lib.cell?_alloc_some _ (A.out j u hj)
  case qc3 => exact h1
  case qc4 => rw [Nat.zero_add]; exact hn
  case qc5 => rw [Nat.zero_add]; exact hbig
  case qc6 => simp
  intro v' w1 hown hgrow hnil
  go_wp2
  go_ret
  refine ⟨v', rfl, by simpa using hown, ?_⟩
  · exact ((Below.refl _ w).alloc (Nat.le_refl _) _).grown hgrow (by simp) (by intro k hk; simp [Value.ownBlock] at hk; omega)
theorem clone31r : RunsClone Try.prog 31 5 1 1 := fun x n c news w hl hn hb hc h1 => by
  obtain ⟨i0, z, hi, hz0, hz1, hz2, hzs, zE⟩ := info_of (P := Try.prog) (e := 5) (size := 1) (bytes := 1) (by kernel_rfl)
  exact clone31 i0 z 1 1 hi hz0 hz1 hz2 hzs (by decide) zE x n c news w hl hn hb hc h1
theorem clone31n : RunsCloneNil Try.prog 31 := fun n c w => by
  have tT := Try.underlying27
  have q22 : ∀ (w : World) (a : Option Addr) (n c n' c' : Nat), (binOp .eql 27 (.slice a n c) (.slice none n' c')).run Try.prog w = .ok (.bool a.isNone) w := fun w a n c n' c' => Lib.run_eql_slice_nil w _ _ a n c n' c' tT
  go_enter Try.func31, Try.ntmps31
  go_wp2
  go_ret
  exact ⟨rfl, rfl⟩
theorem clip60 : ClipOk Try.prog 60 := by
  intro w a n c h
  go_enter Try.func60, Try.ntmps60
  go_wp2
  go_ret
  exact ⟨rfl, rfl, rfl, rfl, rfl⟩
theorem clip76 : ClipOk Try.prog 76 := by
  intro w a n c h
  go_enter Try.func76, Try.ntmps76
  go_wp2
  go_ret
  exact ⟨rfl, rfl, rfl, rfl, rfl⟩
theorem collect77r : RunsCollect Try.prog 77 79 2 := fun Bs sv zs h w hb hc hI => (collect_runs Bs sv zs h w hb hc hI).mono fun _ _ ⟨v, h1, h2, _, h3⟩ => ⟨v, h1, h2, h3⟩
theorem ok : EnvOK E := by
  refine ⟨Checked.mixed Try.checked, fun f fn h => ?_, fun f g h => ?_, fun f h => ?_, fun f mv g h => ?_⟩
  · have h : fns f = some fn := h
    unfold fns at h
    split at h
    · injection h with h; subst h; exact fn_of Try.func3 k3
    · injection h with h; subst h; exact fn_of Try.func4 k4
    · injection h with h; subst h; exact fn_of Try.func5 k5
    · injection h with h; subst h; exact fn_of Try.func6 k6
    · injection h with h; subst h; exact fn_of Try.func7 k7
    · injection h with h; subst h; exact fn_of Try.func8 k8
    · injection h with h; subst h; exact fn_of Try.func9 k9
    · injection h with h; subst h; exact fn_of Try.func10 k10
    · injection h with h; subst h; exact fn_of Try.func11 k11
    · injection h with h; subst h; exact fn_of Try.func12 k12
    · injection h with h; subst h; exact fn_of Try.func13 k13
    · injection h with h; subst h; exact fn_of Try.func14 k14
    · injection h with h; subst h; exact fn_of Try.func15 k15
    · injection h with h; subst h; exact fn_of Try.func16 k16
    · injection h with h; subst h; exact fn_of Try.func17 k17
    · injection h with h; subst h; exact fn_of Try.func18 k18
    · injection h with h; subst h; exact fn_of Try.func19 k19
    · injection h with h; subst h; exact fn_of Try.func20 k20
    · injection h with h; subst h; exact fn_of Try.func21 k21
    · injection h with h; subst h; exact fn_of Try.func22 k22
    · injection h with h; subst h; exact fn_of Try.func23 k23
    · injection h with h; subst h; exact fn_of Try.func24 k24
    · injection h with h; subst h; exact fn_of Try.func25 k25
    · injection h with h; subst h; exact fn_of Try.func26 k26
    · injection h with h; subst h; exact fn_of Try.func27 k27
    · injection h with h; subst h; exact fn_of Try.func28 k28
    · injection h with h; subst h; exact fn_of Try.func29 k29
    · injection h with h; subst h; exact fn_of Try.func30 k30
    · injection h with h; subst h; exact fn_of Try.func31 k31
    · injection h with h; subst h; exact fn_of Try.func32 k32
    · injection h with h; subst h; exact fn_of Try.func33 k33
    · injection h with h; subst h; exact fn_of Try.func34 k34
    · injection h with h; subst h; exact fn_of Try.func35 k35
    · injection h with h; subst h; exact fn_of Try.func36 k36
    · injection h with h; subst h; exact fn_of Try.func37 k37
    · injection h with h; subst h; exact fn_of Try.func38 k38
    · injection h with h; subst h; exact fn_of Try.func39 k39
    · injection h with h; subst h; exact fn_of Try.func40 k40
    · injection h with h; subst h; exact fn_of Try.func41 k41
    · injection h with h; subst h; exact fn_of Try.func42 k42
    · injection h with h; subst h; exact fn_of Try.func43 k43
    · injection h with h; subst h; exact fn_of Try.func44 k44
    · injection h with h; subst h; exact fn_of Try.func45 k45
    · injection h with h; subst h; exact fn_of Try.func46 k46
    · injection h with h; subst h; exact fn_of Try.func47 k47
    · injection h with h; subst h; exact fn_of Try.func48 k48
    · injection h with h; subst h; exact fn_of Try.func49 k49
    · injection h with h; subst h; exact fn_of Try.func50 k50
    · injection h with h; subst h; exact fn_of Try.func51 k51
    · injection h with h; subst h; exact fn_of Try.func52 k52
    · injection h with h; subst h; exact fn_of Try.func53 k53
    · injection h with h; subst h; exact fn_of Try.func54 k54
    · injection h with h; subst h; exact fn_of Try.func56 k56
    · injection h with h; subst h; exact fn_of Try.func57 k57
    · injection h with h; subst h; exact fn_of Try.func58 k58
    · injection h with h; subst h; exact fn_of Try.func59 k59
    · injection h with h; subst h; exact fn_of Try.func60 k60
    · injection h with h; subst h; exact fn_of Try.func61 k61
    · injection h with h; subst h; exact fn_of Try.func62 k62
    · injection h with h; subst h; exact fn_of Try.func63 k63
    · injection h with h; subst h; exact fn_of Try.func64 k64
    · injection h with h; subst h; exact fn_of Try.func65 k65
    · injection h with h; subst h; exact fn_of Try.func66 k66
    · injection h with h; subst h; exact fn_of Try.func67 k67
    · injection h with h; subst h; exact fn_of Try.func68 k68
    · injection h with h; subst h; exact fn_of Try.func69 k69
    · injection h with h; subst h; exact fn_of Try.func70 k70
    · injection h with h; subst h; exact fn_of Try.func71 k71
    · injection h with h; subst h; exact fn_of Try.func72 k72
    · injection h with h; subst h; exact fn_of Try.func75 k75
    · injection h with h; subst h; exact fn_of Try.func76 k76
    · injection h with h; subst h; exact fn_of Try.func77 k77
    · injection h with h; subst h; exact fn_of Try.func78 k78
    · injection h with h; subst h; exact fn_of Try.func80 k80
    · injection h with h; subst h; exact fn_of Try.func81 k81
    · injection h with h; subst h; exact fn_of Try.func85 k85
    · cases h
  · have h : ext f = some (.fn g) := h
    unfold ext at h
    split at h
    · injection h with h; cases h
    · injection h with h; injection h with h; subst h; exact fun args res hr => ⟨entered_of Try.func31 k31, clone_contract (by decide) clone31r clone31n args res hr⟩
    · injection h with h; injection h with h; subst h; exact fun args res hr => ⟨entered_of Try.func35 k35, repeat_contract repeat_run args res hr⟩
    · injection h with h; cases h
    · injection h with h; cases h
    · injection h with h; injection h with h; subst h; exact fun args res hr => ⟨entered_of Try.func68 k68, values_contract values_runs args res hr⟩
    · injection h with h; cases h
    · injection h with h; injection h with h; subst h; exact fun args res hr => ⟨entered_of Try.func77 k77, collect_contract collect77r args res hr⟩
    · injection h with h; cases h
    · cases h
  · have h : ext f = some .clip := h
    unfold ext at h
    split at h
    · exact ⟨entered_of Try.func24 k24, clip24⟩
    · injection h with h; cases h
    · injection h with h; cases h
    · exact ⟨entered_of Try.func60 k60, clip60⟩
    · injection h with h; cases h
    · injection h with h; cases h
    · exact ⟨entered_of Try.func76 k76, clip76⟩
    · injection h with h; cases h
    · injection h with h; cases h
    · cases h
  · have h : ext f = some (.rw mv g) := h
    unfold ext at h
    split at h
    · injection h with h; cases h
    · injection h with h; cases h
    · injection h with h; cases h
    · injection h with h; cases h
    · injection h with h; injection h with h1 h2; subst h1; subst h2; exact ⟨entered_of Try.func66 k66, compact_rw laysCompact (fun w => by kernel_rfl) rfl⟩
    · injection h with h; cases h
    · injection h with h; cases h
    · injection h with h; cases h
    · injection h with h; injection h with h1 h2; subst h1; subst h2; exact ⟨entered_of Try.func78 k78, sort_rw laysSort rfl⟩
    · cases h
#print axioms ok
end Go.Proofs.Ytojaklgmojmjeaa.D
