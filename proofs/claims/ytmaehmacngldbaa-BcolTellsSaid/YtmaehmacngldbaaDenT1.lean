/- The seat's tables for the evaluator, by program: what is live at each loop's head; the functions; slices.Clone and slices.Clip, walked. -/
import Derived.Test.YtmaehmacngldbaaChecked
import Derived.Test.YtmaehmacngldbaaDenK3
import Derived.WalkKit
import Derived.Deep.LoopGhost
import Derived.Lib.Walk
import Derived.Lib.SliceRun
import Derived.Lib.AppendZerosOnto
import Derived.Shelf.Spec.SlicesGrow
import Derived.Test.YtmaehmacngldbaaDenB2
import Derived.Test.YtmaehmacngldbaaDenC2
import Derived.Test.YtmaehmacngldbaaBcol2
import Derived.Test.YtmaehmacngldbaaBcol3
import Derived.Test.YtmaehmacngldbaaBcol4
namespace Go.Proofs.Ytmaehmacngldbaa.D
open Go Go.Den Go.Proofs Go.RowKit Go.Lib
def lv : FuncId → Nat → List NI
  | 4, 3 => [⟨7, []⟩, ⟨24, []⟩, ⟨25, []⟩, ⟨26, []⟩]
  | 4, 12 => [⟨7, []⟩, ⟨10, []⟩, ⟨11, []⟩, ⟨12, []⟩, ⟨13, []⟩, ⟨47, []⟩, ⟨48, []⟩]
  | 4, 15 => [⟨7, []⟩, ⟨10, []⟩, ⟨11, []⟩, ⟨12, []⟩, ⟨13, []⟩, ⟨14, []⟩, ⟨47, []⟩, ⟨48, []⟩, ⟨55, []⟩, ⟨56, []⟩]
  | 4, 21 => [⟨7, []⟩, ⟨10, []⟩, ⟨11, []⟩, ⟨12, []⟩, ⟨13, []⟩, ⟨16, []⟩, ⟨47, []⟩, ⟨48, []⟩]
  | 4, 29 => [⟨10, []⟩, ⟨11, []⟩, ⟨13, []⟩, ⟨17, []⟩, ⟨109, []⟩, ⟨110, []⟩]
  | 5, 4 => [⟨0, []⟩, ⟨1, []⟩, ⟨5, []⟩, ⟨6, [(0, 28, 1)]⟩, ⟨7, []⟩, ⟨8, []⟩]
  | 5, 9 => [⟨1, []⟩, ⟨5, []⟩, ⟨6, []⟩, ⟨7, [(0, 28, 1)]⟩, ⟨9, []⟩]
  | 6, 7 => [⟨4, []⟩, ⟨5, []⟩, ⟨6, []⟩, ⟨7, []⟩, ⟨17, []⟩, ⟨55, []⟩, ⟨56, []⟩, ⟨57, []⟩]
  | 6, 19 => [⟨4, []⟩, ⟨5, []⟩, ⟨6, []⟩, ⟨7, []⟩, ⟨17, []⟩, ⟨55, []⟩, ⟨56, []⟩, ⟨57, []⟩, ⟨110, []⟩, ⟨111, []⟩, ⟨112, []⟩]
  | 6, 22 => [⟨4, []⟩, ⟨5, []⟩, ⟨6, []⟩, ⟨7, []⟩, ⟨17, []⟩, ⟨27, []⟩, ⟨55, []⟩, ⟨56, []⟩, ⟨57, []⟩, ⟨110, []⟩, ⟨111, []⟩, ⟨112, []⟩, ⟨121, []⟩, ⟨122, []⟩, ⟨123, []⟩]
  | 6, 29 => [⟨4, []⟩, ⟨5, []⟩, ⟨6, []⟩, ⟨7, []⟩, ⟨17, []⟩, ⟨27, []⟩, ⟨29, []⟩, ⟨32, []⟩, ⟨33, []⟩, ⟨55, []⟩, ⟨56, []⟩, ⟨57, []⟩, ⟨110, []⟩, ⟨111, []⟩, ⟨112, []⟩, ⟨121, []⟩, ⟨122, []⟩, ⟨123, []⟩, ⟨154, []⟩, ⟨155, []⟩, ⟨156, []⟩]
  | 7, 3 => [⟨7, []⟩, ⟨26, []⟩, ⟨27, []⟩, ⟨28, []⟩]
  | 7, 13 => [⟨7, []⟩, ⟨10, []⟩, ⟨54, []⟩, ⟨55, []⟩, ⟨56, []⟩]
  | 7, 21 => [⟨7, []⟩, ⟨10, []⟩, ⟨115, []⟩, ⟨116, []⟩]
  | 8, 3 => [⟨3, []⟩, ⟨8, []⟩, ⟨9, []⟩]
  | 12, 3 => [⟨0, []⟩, ⟨1, []⟩, ⟨2, []⟩, ⟨7, [(0, 28, 1)]⟩, ⟨8, []⟩]
  | 13, 3 => [⟨0, []⟩, ⟨3, []⟩, ⟨4, []⟩]
  | 18, 4 => [⟨0, []⟩, ⟨1, []⟩, ⟨5, []⟩]
  | 20, 3 => [⟨0, []⟩, ⟨5, [(0, 28, 1)]⟩, ⟨6, []⟩, ⟨7, []⟩]
  | 21, 2 => [⟨0, []⟩, ⟨1, []⟩, ⟨5, [(0, 28, 1)]⟩]
  | 21, 7 => [⟨0, []⟩, ⟨1, []⟩, ⟨5, [(0, 28, 1)]⟩, ⟨7, []⟩, ⟨32, []⟩, ⟨33, []⟩]
  | 22, 8 => [⟨6, []⟩, ⟨9, [(0, 28, 1)]⟩, ⟨37, []⟩, ⟨38, []⟩, ⟨39, []⟩]
  | 25, 2 => [⟨0, []⟩, ⟨3, []⟩]
  | 26, 3 => [⟨0, []⟩, ⟨1, []⟩, ⟨5, []⟩, ⟨6, []⟩]
  | 30, 8 => [⟨1, []⟩, ⟨2, []⟩, ⟨8, [(0, 5, 1)]⟩, ⟨9, []⟩]
  | 30, 13 => [⟨1, []⟩, ⟨2, []⟩, ⟨8, [(0, 5, 1)]⟩, ⟨10, []⟩]
  | 30, 15 => [⟨1, []⟩, ⟨2, []⟩, ⟨8, []⟩, ⟨10, []⟩, ⟨11, []⟩]
  | 30, 26 => [⟨1, []⟩, ⟨8, []⟩, ⟨12, []⟩, ⟨13, []⟩, ⟨14, []⟩]
  | 30, 31 => [⟨1, []⟩, ⟨8, []⟩, ⟨12, []⟩, ⟨13, []⟩, ⟨15, [(0, 58, 1)]⟩, ⟨16, []⟩]
  | 30, 40 => [⟨1, []⟩, ⟨2, []⟩, ⟨8, [(0, 5, 1)]⟩, ⟨18, []⟩, ⟨19, []⟩]
  | 30, 45 => [⟨1, []⟩, ⟨8, []⟩, ⟨18, []⟩, ⟨20, [(0, 58, 1)]⟩, ⟨21, []⟩]
  | 30, 48 => [⟨1, []⟩, ⟨8, []⟩, ⟨18, []⟩, ⟨20, []⟩, ⟨21, []⟩, ⟨22, []⟩]
  | 31, 8 => [⟨0, []⟩, ⟨1, []⟩, ⟨2, []⟩, ⟨8, []⟩, ⟨9, [(0, 28, 1)]⟩, ⟨11, []⟩]
  | 31, 12 => [⟨0, []⟩, ⟨1, []⟩, ⟨2, []⟩, ⟨8, []⟩, ⟨9, [(0, 28, 1)]⟩]
  | 31, 17 => [⟨0, []⟩, ⟨1, []⟩, ⟨2, []⟩, ⟨8, []⟩, ⟨9, [(0, 28, 1)]⟩, ⟨12, []⟩, ⟨13, []⟩]
  | 31, 29 => [⟨0, []⟩, ⟨1, []⟩, ⟨2, []⟩, ⟨8, []⟩, ⟨9, [(0, 28, 1)]⟩, ⟨14, []⟩, ⟨15, []⟩, ⟨17, []⟩]
  | 31, 35 => [⟨0, []⟩, ⟨1, []⟩, ⟨2, []⟩, ⟨8, []⟩, ⟨9, []⟩, ⟨10, [(0, 28, 1)]⟩, ⟨18, []⟩, ⟨19, []⟩]
  | 31, 40 => [⟨0, []⟩, ⟨1, []⟩, ⟨2, []⟩, ⟨8, []⟩, ⟨9, [(0, 28, 1)]⟩, ⟨10, []⟩, ⟨20, []⟩, ⟨21, []⟩, ⟨22, []⟩]
  | 34, 3 => [⟨0, []⟩, ⟨3, []⟩, ⟨9, []⟩, ⟨10, []⟩, ⟨11, []⟩]
  | 36, 6 => [⟨0, []⟩, ⟨1, []⟩, ⟨8, []⟩, ⟨29, []⟩, ⟨30, []⟩]
  | 39, 2 => [⟨0, []⟩, ⟨1, []⟩, ⟨7, []⟩, ⟨8, []⟩]
  | 40, 3 => [⟨3, [(0, 5, 1)]⟩, ⟨6, []⟩, ⟨7, []⟩, ⟨8, []⟩]
  | 41, 2 => [⟨0, []⟩, ⟨3, [(0, 5, 1)]⟩]
  | 41, 4 => [⟨0, []⟩, ⟨3, []⟩, ⟨4, []⟩]
  | 42, 4 => [⟨0, []⟩, ⟨3, []⟩, ⟨4, [(0, 5, 1)]⟩, ⟨20, []⟩, ⟨21, []⟩, ⟨22, []⟩]
  | 42, 10 => [⟨3, []⟩, ⟨4, []⟩, ⟨7, [(0, 58, 1)]⟩, ⟨30, []⟩, ⟨31, []⟩, ⟨32, []⟩]
  | 44, 2 => [⟨1, []⟩, ⟨5, [(0, 5, 1)]⟩]
  | 45, 3 => [⟨0, []⟩, ⟨3, []⟩, ⟨4, []⟩]
  | 46, 2 => [⟨0, []⟩, ⟨3, []⟩]
  | 48, 4 => [⟨0, []⟩, ⟨1, []⟩, ⟨5, [(0, 5, 1)]⟩, ⟨6, []⟩]
  | 48, 7 => [⟨0, []⟩, ⟨1, []⟩, ⟨5, [(0, 5, 1)]⟩, ⟨6, []⟩, ⟨7, []⟩]
  | 48, 12 => [⟨5, []⟩, ⟨8, []⟩, ⟨9, []⟩]
  | 49, 3 => [⟨0, []⟩, ⟨3, [(0, 28, 1)]⟩, ⟨4, []⟩]
  | 49, 6 => [⟨0, []⟩, ⟨3, []⟩, ⟨4, []⟩, ⟨5, []⟩]
  | 51, 3 => [⟨0, []⟩, ⟨3, []⟩, ⟨4, []⟩]
  | 53, 6 => [⟨0, []⟩, ⟨1, []⟩, ⟨2, []⟩, ⟨8, [(0, 58, 1)]⟩, ⟨9, []⟩]
  | 54, 3 => [⟨0, []⟩, ⟨3, [(0, 28, 1)]⟩, ⟨4, []⟩]
  | 54, 8 => [⟨0, []⟩, ⟨3, []⟩, ⟨4, []⟩, ⟨5, []⟩, ⟨6, [(0, 5, 1)]⟩, ⟨7, []⟩]
  | 58, 3 => [⟨0, []⟩, ⟨1, []⟩, ⟨2, []⟩, ⟨7, []⟩, ⟨8, []⟩]
  | 59, 5 => [⟨0, []⟩, ⟨5, []⟩, ⟨6, []⟩, ⟨17, []⟩, ⟨18, []⟩, ⟨19, []⟩]
  | 59, 8 => [⟨0, []⟩, ⟨5, []⟩, ⟨6, []⟩, ⟨8, []⟩, ⟨9, []⟩, ⟨17, []⟩, ⟨18, []⟩, ⟨19, []⟩]
  | 63, 2 => [⟨1, []⟩, ⟨5, [(0, 5, 1)]⟩]
  | 68, 3 => [⟨0, []⟩, ⟨1, []⟩, ⟨2, []⟩, ⟨8, []⟩, ⟨9, []⟩, ⟨10, []⟩]
  | 71, 3 => [⟨0, []⟩, ⟨1, []⟩, ⟨2, []⟩, ⟨7, []⟩, ⟨8, []⟩]
  | _, _ => []
def ext : FuncId → Option Ext
  | 24 => some .clip
  | 32 => some (.fn (cloneF 5 1 1))
  | 60 => some .clip
  | 64 => some (.rwx true 23 compactBG)
  | 66 => some (.fn (valuesF 76))
  | 67 => some (.fn compareF)
  | 73 => some .clip
  | 74 => some (.fn (collectSF 76 28))
  | 75 => some (.rwx false 67 sortBG)
  | _ => none
noncomputable def fns : FuncId → Option Func
  | 3 => some Try.f3
  | 4 => some Try.f4
  | 5 => some Try.f5
  | 6 => some Try.f6
  | 7 => some Try.f7
  | 8 => some Try.f8
  | 9 => some Try.f9
  | 10 => some Try.f10
  | 11 => some Try.f11
  | 12 => some Try.f12
  | 13 => some Try.f13
  | 14 => some Try.f14
  | 15 => some Try.f15
  | 16 => some Try.f16
  | 17 => some Try.f17
  | 18 => some Try.f18
  | 19 => some Try.f19
  | 20 => some Try.f20
  | 21 => some Try.f21
  | 22 => some Try.f22
  | 23 => some Try.f23
  | 24 => some Try.f24
  | 25 => some Try.f25
  | 26 => some Try.f26
  | 27 => some Try.f27
  | 28 => some Try.f28
  | 29 => some Try.f29
  | 30 => some Try.f30
  | 31 => some Try.f31
  | 32 => some Try.f32
  | 33 => some Try.f33
  | 34 => some Try.f34
  | 35 => some Try.f35
  | 36 => some Try.f36
  | 37 => some Try.f37
  | 38 => some Try.f38
  | 39 => some Try.f39
  | 40 => some Try.f40
  | 41 => some Try.f41
  | 42 => some Try.f42
  | 43 => some Try.f43
  | 44 => some Try.f44
  | 45 => some Try.f45
  | 46 => some Try.f46
  | 47 => some Try.f47
  | 48 => some Try.f48
  | 49 => some Try.f49
  | 50 => some Try.f50
  | 51 => some Try.f51
  | 52 => some Try.f52
  | 53 => some Try.f53
  | 54 => some Try.f54
  | 55 => some Try.f55
  | 56 => some Try.f56
  | 57 => some Try.f57
  | 58 => some Try.f58
  | 59 => some Try.f59
  | 60 => some Try.f60
  | 61 => some Try.f61
  | 62 => some Try.f62
  | 63 => some Try.f63
  | 64 => some Try.f64
  | 65 => some Try.f65
  | 66 => some Try.f66
  | 67 => some Try.f67
  | 68 => some Try.f68
  | 69 => some Try.f69
  | 70 => some Try.f70
  | 71 => some Try.f71
  | 72 => some Try.f72
  | 73 => some Try.f73
  | 74 => some Try.f74
  | 75 => some Try.f75
  | _ => none
noncomputable def E : Env := { P := Try.prog, fns := fns, lv := lv, ext := ext }
theorem k3 : fnOK Try.f3 = true := by kernel_rfl
theorem k4 : fnOK Try.f4 = true := by kernel_rfl
theorem k5 : fnOK Try.f5 = true := by kernel_rfl
theorem k6 : fnOK Try.f6 = true := by kernel_rfl
theorem k7 : fnOK Try.f7 = true := by kernel_rfl
theorem k8 : fnOK Try.f8 = true := by kernel_rfl
theorem k9 : fnOK Try.f9 = true := by kernel_rfl
theorem k10 : fnOK Try.f10 = true := by kernel_rfl
theorem k11 : fnOK Try.f11 = true := by kernel_rfl
theorem k12 : fnOK Try.f12 = true := by kernel_rfl
theorem k13 : fnOK Try.f13 = true := by kernel_rfl
theorem k14 : fnOK Try.f14 = true := by kernel_rfl
theorem k15 : fnOK Try.f15 = true := by kernel_rfl
theorem k16 : fnOK Try.f16 = true := by kernel_rfl
theorem k17 : fnOK Try.f17 = true := by kernel_rfl
theorem k18 : fnOK Try.f18 = true := by kernel_rfl
theorem k19 : fnOK Try.f19 = true := by kernel_rfl
theorem k20 : fnOK Try.f20 = true := by kernel_rfl
theorem k21 : fnOK Try.f21 = true := by kernel_rfl
theorem k22 : fnOK Try.f22 = true := by kernel_rfl
theorem k23 : fnOK Try.f23 = true := by kernel_rfl
theorem k24 : fnOK Try.f24 = true := by kernel_rfl
theorem k25 : fnOK Try.f25 = true := by kernel_rfl
theorem k26 : fnOK Try.f26 = true := by kernel_rfl
theorem k27 : fnOK Try.f27 = true := by kernel_rfl
theorem k28 : fnOK Try.f28 = true := by kernel_rfl
theorem k29 : fnOK Try.f29 = true := by kernel_rfl
theorem k30 : fnOK Try.f30 = true := by kernel_rfl
theorem k31 : fnOK Try.f31 = true := by kernel_rfl
theorem k32 : fnOK Try.f32 = true := by kernel_rfl
theorem k33 : fnOK Try.f33 = true := by kernel_rfl
theorem k34 : fnOK Try.f34 = true := by kernel_rfl
theorem k35 : fnOK Try.f35 = true := by kernel_rfl
theorem k36 : fnOK Try.f36 = true := by kernel_rfl
theorem k37 : fnOK Try.f37 = true := by kernel_rfl
theorem k38 : fnOK Try.f38 = true := by kernel_rfl
theorem k39 : fnOK Try.f39 = true := by kernel_rfl
theorem k40 : fnOK Try.f40 = true := by kernel_rfl
theorem k41 : fnOK Try.f41 = true := by kernel_rfl
theorem k42 : fnOK Try.f42 = true := by kernel_rfl
theorem k43 : fnOK Try.f43 = true := by kernel_rfl
theorem k44 : fnOK Try.f44 = true := by kernel_rfl
theorem k45 : fnOK Try.f45 = true := by kernel_rfl
theorem k46 : fnOK Try.f46 = true := by kernel_rfl
theorem k47 : fnOK Try.f47 = true := by kernel_rfl
theorem k48 : fnOK Try.f48 = true := by kernel_rfl
theorem k49 : fnOK Try.f49 = true := by kernel_rfl
theorem k50 : fnOK Try.f50 = true := by kernel_rfl
theorem k51 : fnOK Try.f51 = true := by kernel_rfl
theorem k52 : fnOK Try.f52 = true := by kernel_rfl
theorem k53 : fnOK Try.f53 = true := by kernel_rfl
theorem k54 : fnOK Try.f54 = true := by kernel_rfl
theorem k55 : fnOK Try.f55 = true := by kernel_rfl
theorem k56 : fnOK Try.f56 = true := by kernel_rfl
theorem k57 : fnOK Try.f57 = true := by kernel_rfl
theorem k58 : fnOK Try.f58 = true := by kernel_rfl
theorem k59 : fnOK Try.f59 = true := by kernel_rfl
theorem k60 : fnOK Try.f60 = true := by kernel_rfl
theorem k61 : fnOK Try.f61 = true := by kernel_rfl
theorem k62 : fnOK Try.f62 = true := by kernel_rfl
theorem k63 : fnOK Try.f63 = true := by kernel_rfl
theorem k64 : fnOK Try.f64 = true := by kernel_rfl
theorem k65 : fnOK Try.f65 = true := by kernel_rfl
theorem k66 : fnOK Try.f66 = true := by kernel_rfl
theorem k67 : fnOK Try.f67 = true := by kernel_rfl
theorem k68 : fnOK Try.f68 = true := by kernel_rfl
theorem k69 : fnOK Try.f69 = true := by kernel_rfl
theorem k70 : fnOK Try.f70 = true := by kernel_rfl
theorem k71 : fnOK Try.f71 = true := by kernel_rfl
theorem k72 : fnOK Try.f72 = true := by kernel_rfl
theorem k73 : fnOK Try.f73 = true := by kernel_rfl
theorem k74 : fnOK Try.f74 = true := by kernel_rfl
theorem k75 : fnOK Try.f75 = true := by kernel_rfl
def rhoSF : Shelf.Ren := ⟨fun | 6 => 75 | 15 => 80 | 14 => 79 | 28 => 89 | 29 => 72 | 20 => 81 | 21 => 82 | 22 => 83 | 23 => 84 | 24 => 85 | 25 => 86 | 26 => 87 | 27 => 88 | 46 => 90 | 47 => 91 | 48 => 92 | 49 => 93 | 50 => 94 | 57 => 95 | x => x, fun | 22 => 25 | 24 => 28 | 25 => 89 | 3 => 3 | 39 => 47 | 0 => 0 | 53 => 105 | 55 => 58 | 4 => 4 | 46 => 99 | 45 => 98 | 50 => 90 | 5 => 5 | 9 => 9 | 66 => 106 | 70 => 109 | 76 => 111 | 77 => 112 | x => x, fun x => x⟩
theorem laysSF : SlLaysF.n6 Try.prog rhoSF := { mixed := by kernel_rfl, f6 := ⟨Try.f75.name, by decide, by kernel_rfl⟩, f14 := ⟨Try.f79.name, by decide, by kernel_rfl⟩, f15 := by kernel_rfl, f20 := ⟨Try.f81.name, by decide, by kernel_rfl⟩, f21 := ⟨Try.f82.name, by decide, by kernel_rfl⟩, f22 := ⟨Try.f83.name, by decide, by kernel_rfl⟩, f23 := ⟨Try.f84.name, by decide, by kernel_rfl⟩, f24 := ⟨Try.f85.name, by decide, by kernel_rfl⟩, f25 := ⟨Try.f86.name, by decide, by kernel_rfl⟩, f26 := ⟨Try.f87.name, by decide, by kernel_rfl⟩, f27 := ⟨Try.f88.name, by decide, by kernel_rfl⟩, f28 := by kernel_rfl, f29 := by kernel_rfl, f46 := ⟨Try.f90.name, by decide, by kernel_rfl⟩, f47 := by kernel_rfl, f48 := by kernel_rfl, f49 := ⟨Try.f93.name, by decide, by kernel_rfl⟩, f50 := ⟨Try.f94.name, by decide, by kernel_rfl⟩, f57 := ⟨Try.f95.name, by decide, by kernel_rfl⟩, t0 := by kernel_rfl, a0 := fun w => by kernel_rfl, z0 := fun w => by kernel_rfl, v0 := fun w => by kernel_rfl, t3 := by kernel_rfl, a3 := fun w => by kernel_rfl, z3 := fun w => by kernel_rfl, v3 := fun w => by kernel_rfl, t4 := by kernel_rfl, a4 := fun w => by kernel_rfl, z4 := fun w => by kernel_rfl, v4 := fun w => by kernel_rfl, t5 := by kernel_rfl, a5 := fun w => by kernel_rfl, z5 := fun w => by kernel_rfl, v5 := fun w => by kernel_rfl, t9 := by kernel_rfl, a9 := fun w => by kernel_rfl, z9 := fun w => by kernel_rfl, v9 := fun w => by kernel_rfl, t22 := by kernel_rfl, a22 := fun w => by kernel_rfl, z22 := fun w => by kernel_rfl, v22 := fun w => by kernel_rfl, a24 := fun w => by kernel_rfl, z24 := fun w => by kernel_rfl, t25 := by kernel_rfl, a25 := fun w => by kernel_rfl, z25 := fun w => by kernel_rfl, v25 := fun w => by kernel_rfl, t39 := by kernel_rfl, a39 := fun w => by kernel_rfl, z39 := fun w => by kernel_rfl, v39 := fun w => by kernel_rfl, t45 := by kernel_rfl, a45 := fun w => by kernel_rfl, z45 := fun w => by kernel_rfl, v45 := fun w => by kernel_rfl, t46 := by kernel_rfl, a46 := fun w => by kernel_rfl, z46 := fun w => by kernel_rfl, v46 := fun w => by kernel_rfl, t50 := by kernel_rfl, a50 := fun w => by kernel_rfl, z50 := fun w => by kernel_rfl, v50 := fun w => by kernel_rfl, t53 := by kernel_rfl, a53 := fun w => by kernel_rfl, z53 := fun w => by kernel_rfl, v53 := fun w => by kernel_rfl, t55 := by kernel_rfl, a55 := fun w => by kernel_rfl, z55 := fun w => by kernel_rfl, v55 := fun w => by kernel_rfl, t66 := by kernel_rfl, a66 := fun w => by kernel_rfl, z66 := fun w => by kernel_rfl, v66 := fun w => by kernel_rfl, t70 := by kernel_rfl, a70 := fun w => by kernel_rfl, z70 := fun w => by kernel_rfl, v70 := fun w => by kernel_rfl, t76 := by kernel_rfl, a76 := fun w => by kernel_rfl, z76 := fun w => by kernel_rfl, v76 := fun w => by kernel_rfl, t77 := by kernel_rfl, a77 := fun w => by kernel_rfl, z77 := fun w => by kernel_rfl, v77 := fun w => by kernel_rfl }
def rhoSFz : Shelf.Ren := ⟨fun | 6 => 75 | 15 => 80 | 14 => 79 | 28 => 89 | 29 => 72 | 20 => 81 | 21 => 82 | 22 => 83 | 23 => 84 | 24 => 85 | 25 => 86 | 26 => 87 | 27 => 88 | 46 => 90 | 47 => 91 | 48 => 92 | 49 => 93 | 50 => 94 | 57 => 95 | x => x, fun | 22 => 25 | 24 => 28 | 25 => 89 | 3 => 3 | 39 => 47 | 0 => 0 | 53 => 105 | 55 => 58 | 4 => 4 | 46 => 99 | 45 => 98 | 50 => 90 | 5 => 5 | 9 => 9 | 66 => 106 | 70 => 109 | 76 => 111 | 77 => 112 | x => x, fun x => x⟩
theorem laysSFz : SlLaysF0.n6 Try.prog rhoSFz := { mixed := by kernel_rfl, f6 := ⟨Try.f75.name, by decide, by kernel_rfl⟩, f14 := ⟨Try.f79.name, by decide, by kernel_rfl⟩, f15 := by kernel_rfl, f20 := ⟨Try.f81.name, by decide, by kernel_rfl⟩, f21 := ⟨Try.f82.name, by decide, by kernel_rfl⟩, f22 := ⟨Try.f83.name, by decide, by kernel_rfl⟩, f23 := ⟨Try.f84.name, by decide, by kernel_rfl⟩, f24 := ⟨Try.f85.name, by decide, by kernel_rfl⟩, f25 := ⟨Try.f86.name, by decide, by kernel_rfl⟩, f26 := ⟨Try.f87.name, by decide, by kernel_rfl⟩, f27 := ⟨Try.f88.name, by decide, by kernel_rfl⟩, f28 := by kernel_rfl, f29 := by kernel_rfl, f46 := ⟨Try.f90.name, by decide, by kernel_rfl⟩, f47 := by kernel_rfl, f48 := by kernel_rfl, f49 := ⟨Try.f93.name, by decide, by kernel_rfl⟩, f50 := ⟨Try.f94.name, by decide, by kernel_rfl⟩, f57 := ⟨Try.f95.name, by decide, by kernel_rfl⟩, t0 := by kernel_rfl, a0 := fun w => by kernel_rfl, z0 := fun w => by kernel_rfl, v0 := fun w => by kernel_rfl, t3 := by kernel_rfl, a3 := fun w => by kernel_rfl, z3 := fun w => by kernel_rfl, v3 := fun w => by kernel_rfl, t4 := by kernel_rfl, a4 := fun w => by kernel_rfl, z4 := fun w => by kernel_rfl, v4 := fun w => by kernel_rfl, t5 := by kernel_rfl, a5 := fun w => by kernel_rfl, z5 := fun w => by kernel_rfl, v5 := fun w => by kernel_rfl, t9 := by kernel_rfl, a9 := fun w => by kernel_rfl, z9 := fun w => by kernel_rfl, v9 := fun w => by kernel_rfl, t22 := by kernel_rfl, a22 := fun w => by kernel_rfl, z22 := fun w => by kernel_rfl, v22 := fun w => by kernel_rfl, t25 := by kernel_rfl, a25 := fun w => by kernel_rfl, z25 := fun w => by kernel_rfl, v25 := fun w => by kernel_rfl, t39 := by kernel_rfl, a39 := fun w => by kernel_rfl, z39 := fun w => by kernel_rfl, v39 := fun w => by kernel_rfl, t45 := by kernel_rfl, a45 := fun w => by kernel_rfl, z45 := fun w => by kernel_rfl, v45 := fun w => by kernel_rfl, t46 := by kernel_rfl, a46 := fun w => by kernel_rfl, z46 := fun w => by kernel_rfl, v46 := fun w => by kernel_rfl, t50 := by kernel_rfl, a50 := fun w => by kernel_rfl, z50 := fun w => by kernel_rfl, v50 := fun w => by kernel_rfl, t53 := by kernel_rfl, a53 := fun w => by kernel_rfl, z53 := fun w => by kernel_rfl, v53 := fun w => by kernel_rfl, t55 := by kernel_rfl, a55 := fun w => by kernel_rfl, z55 := fun w => by kernel_rfl, v55 := fun w => by kernel_rfl, t66 := by kernel_rfl, a66 := fun w => by kernel_rfl, z66 := fun w => by kernel_rfl, v66 := fun w => by kernel_rfl, t70 := by kernel_rfl, a70 := fun w => by kernel_rfl, z70 := fun w => by kernel_rfl, v70 := fun w => by kernel_rfl, t76 := by kernel_rfl, a76 := fun w => by kernel_rfl, z76 := fun w => by kernel_rfl, v76 := fun w => by kernel_rfl, t77 := by kernel_rfl, a77 := fun w => by kernel_rfl, z77 := fun w => by kernel_rfl, v77 := fun w => by kernel_rfl }
theorem clip24 : ClipOk Try.prog 24 := by
  intro w a n c h
  go_enter Try.func24, Try.ntmps24
  go_wp2
  go_ret
  exact ⟨rfl, rfl, rfl, rfl, rfl⟩
set_option maxHeartbeats 2000000 in
set_option maxRecDepth 100000 in
theorem clone32 (i0 : TypeInfo) (z : Value) (size bytes : Nat) (hi : Try.prog.info? 5 = some i0) (hz0 : i0.zero = some z) (hz1 : i0.size = size) (hz2 : i0.bytes = bytes) (hzs : z.cells.size = size) (hsz : 0 < size)
    (zE : ∀ w, (Go.sizeOf 5).run Try.prog w = .ok size w) (x : Addr) (n c : Nat) (news : List Value) (w : World) (hl : news.length = n * size) (hn : n ≤ maxLen) (hbig : n * bytes ≤ 140737488355328)
    (hc : ∀ (j : Nat) u, news[j]? = some u → w.cell? (x.add j) = some u) (h1 : ∀ u ∈ news, u.oneCell' = true) :
    Calls Try.prog 32 #[.slice (some x) n c] w fun e w' => ∃ v', e = .returned v' ∧ w'.ownsRow w.heap.size 5 size v' n news ∧ Below w.heap.size w w' := by
  have tT := Try.underlying28
  have q22 : ∀ (w : World) (a : Option Addr) (n c n' c' : Nat), (binOp .eql 28 (.slice a n c) (.slice none n' c')).run Try.prog w = .ok (.bool a.isNone) w := fun w a n c n' c' => Lib.run_eql_slice_nil w _ _ a n c n' c' tT
  have u22 : ∀ w, Sem.run Try.prog (underlying 28) w = .ok (TypeDesc.slice 5) w := run_underlying tT
  have A : Aside (∀ (j : Nat) u, news[j]? = some u → w.cell? (x.add j) = some u) := hc
  clear hc
  go_enter Try.func32, Try.ntmps32
  go_wp2_with (at_builtin; refine wpList_append_own _ rfl _ _ 28 rfl w.heap.size 5 i0 z size bytes tT hi hz0 hz1 hz2 hzs hsz _ _ _ rfl (World.ownsRow_made w #[] 0 (Nat.le_refl _) (Nat.zero_le _) (by simp)) x n c news rfl ?qc1 ?qc2 ?qc3 ?qc4 ?qc5 ?qc6 ?_)
  case qc1 => exact hl
  case qc2 =>
    intro j u hj
    exact Lib.cell?_alloc_some _ (A.out j u hj)
  case qc3 => exact h1
  case qc4 => rw [Nat.zero_add]; exact hn
  case qc5 => rw [Nat.zero_add]; exact hbig
  case qc6 => simp
  intro v' w1 hown hgrow hnil
  go_wp2
  go_ret
  refine ⟨v', rfl, by simpa using hown, ?_⟩
  · exact ((Below.refl _ w).alloc (Nat.le_refl _) _).grown hgrow (by simp) (by intro k hk; simp [Value.ownBlock] at hk; omega)
theorem clone32r : RunsClone Try.prog 32 5 1 1 := fun x n c news w hl hn hb hc h1 => by
  obtain ⟨i0, z, hi, hz0, hz1, hz2, hzs, zE⟩ := info_of (P := Try.prog) (e := 5) (size := 1) (bytes := 1) (by kernel_rfl)
  exact clone32 i0 z 1 1 hi hz0 hz1 hz2 hzs (by decide) zE x n c news w hl hn hb hc h1
theorem clone32n : RunsCloneNil Try.prog 32 := fun n c w => by
  have tT := Try.underlying28
  have q22 : ∀ (w : World) (a : Option Addr) (n c n' c' : Nat), (binOp .eql 28 (.slice a n c) (.slice none n' c')).run Try.prog w = .ok (.bool a.isNone) w := fun w a n c n' c' => Lib.run_eql_slice_nil w _ _ a n c n' c' tT
  go_enter Try.func32, Try.ntmps32
  go_wp2
  go_ret
  exact ⟨rfl, rfl⟩
theorem clip60 : ClipOk Try.prog 60 := by
  intro w a n c h
  go_enter Try.func60, Try.ntmps60
  go_wp2
  go_ret
  exact ⟨rfl, rfl, rfl, rfl, rfl⟩
set_option maxHeartbeats 1000000 in
set_option maxRecDepth 100000 in
theorem cmp67 : RunsCompare Try.prog 67 := fun a b n c m d x y w hx hy => by
  go_enter Try.func67, Try.ntmps67
  go_wp2
  rw [run_callFunc_extern Try.func77 (by kernel_rfl) (by kernel_rfl) (by kernel_rfl) (e := Extern.BytealgCompare.compare) (by kernel_rfl), run_compareSl hx hy]
  simp only [Result.andThen]
  rw [Oper.upon_value]
  go_wp2
  go_ret
  exact ⟨rfl, rfl⟩
theorem clip73 : ClipOk Try.prog 73 := by
  intro w a n c h
  go_enter Try.func73, Try.ntmps73
  go_wp2
  go_ret
  exact ⟨rfl, rfl, rfl, rfl, rfl⟩
theorem ok : EnvOK E := by
  refine ⟨Checked.mixed Try.checked, fun f fn h => ?_, fun f g h => ?_, fun f h => ?_, fun f mv g h => ?_, fun f mv c g h => ?_⟩
  · have h : fns f = some fn := h
    unfold fns at h
    split at h
    · injection h with h; subst h; exact fn_of Try.func3 k3
    · injection h with h; subst h; exact fn_of Try.func4 k4
    · injection h with h; subst h; exact fn_of Try.func5 k5
    · injection h with h; subst h; exact fn_of Try.func6 k6
    · injection h with h; subst h; exact fn_of Try.func7 k7
    · injection h with h; subst h; exact fn_of Try.func8 k8
    · injection h with h; subst h; exact fn_of Try.func9 k9
    · injection h with h; subst h; exact fn_of Try.func10 k10
    · injection h with h; subst h; exact fn_of Try.func11 k11
    · injection h with h; subst h; exact fn_of Try.func12 k12
    · injection h with h; subst h; exact fn_of Try.func13 k13
    · injection h with h; subst h; exact fn_of Try.func14 k14
    · injection h with h; subst h; exact fn_of Try.func15 k15
    · injection h with h; subst h; exact fn_of Try.func16 k16
    · injection h with h; subst h; exact fn_of Try.func17 k17
    · injection h with h; subst h; exact fn_of Try.func18 k18
    · injection h with h; subst h; exact fn_of Try.func19 k19
    · injection h with h; subst h; exact fn_of Try.func20 k20
    · injection h with h; subst h; exact fn_of Try.func21 k21
    · injection h with h; subst h; exact fn_of Try.func22 k22
    · injection h with h; subst h; exact fn_of Try.func23 k23
    · injection h with h; subst h; exact fn_of Try.func24 k24
    · injection h with h; subst h; exact fn_of Try.func25 k25
    · injection h with h; subst h; exact fn_of Try.func26 k26
    · injection h with h; subst h; exact fn_of Try.func27 k27
    · injection h with h; subst h; exact fn_of Try.func28 k28
    · injection h with h; subst h; exact fn_of Try.func29 k29
    · injection h with h; subst h; exact fn_of Try.func30 k30
    · injection h with h; subst h; exact fn_of Try.func31 k31
    · injection h with h; subst h; exact fn_of Try.func32 k32
    · injection h with h; subst h; exact fn_of Try.func33 k33
    · injection h with h; subst h; exact fn_of Try.func34 k34
    · injection h with h; subst h; exact fn_of Try.func35 k35
    · injection h with h; subst h; exact fn_of Try.func36 k36
    · injection h with h; subst h; exact fn_of Try.func37 k37
    · injection h with h; subst h; exact fn_of Try.func38 k38
    · injection h with h; subst h; exact fn_of Try.func39 k39
    · injection h with h; subst h; exact fn_of Try.func40 k40
    · injection h with h; subst h; exact fn_of Try.func41 k41
    · injection h with h; subst h; exact fn_of Try.func42 k42
    · injection h with h; subst h; exact fn_of Try.func43 k43
    · injection h with h; subst h; exact fn_of Try.func44 k44
    · injection h with h; subst h; exact fn_of Try.func45 k45
    · injection h with h; subst h; exact fn_of Try.func46 k46
    · injection h with h; subst h; exact fn_of Try.func47 k47
    · injection h with h; subst h; exact fn_of Try.func48 k48
    · injection h with h; subst h; exact fn_of Try.func49 k49
    · injection h with h; subst h; exact fn_of Try.func50 k50
    · injection h with h; subst h; exact fn_of Try.func51 k51
    · injection h with h; subst h; exact fn_of Try.func52 k52
    · injection h with h; subst h; exact fn_of Try.func53 k53
    · injection h with h; subst h; exact fn_of Try.func54 k54
    · injection h with h; subst h; exact fn_of Try.func55 k55
    · injection h with h; subst h; exact fn_of Try.func56 k56
    · injection h with h; subst h; exact fn_of Try.func57 k57
    · injection h with h; subst h; exact fn_of Try.func58 k58
    · injection h with h; subst h; exact fn_of Try.func59 k59
    · injection h with h; subst h; exact fn_of Try.func60 k60
    · injection h with h; subst h; exact fn_of Try.func61 k61
    · injection h with h; subst h; exact fn_of Try.func62 k62
    · injection h with h; subst h; exact fn_of Try.func63 k63
    · injection h with h; subst h; exact fn_of Try.func64 k64
    · injection h with h; subst h; exact fn_of Try.func65 k65
    · injection h with h; subst h; exact fn_of Try.func66 k66
    · injection h with h; subst h; exact fn_of Try.func67 k67
    · injection h with h; subst h; exact fn_of Try.func68 k68
    · injection h with h; subst h; exact fn_of Try.func69 k69
    · injection h with h; subst h; exact fn_of Try.func70 k70
    · injection h with h; subst h; exact fn_of Try.func71 k71
    · injection h with h; subst h; exact fn_of Try.func72 k72
    · injection h with h; subst h; exact fn_of Try.func73 k73
    · injection h with h; subst h; exact fn_of Try.func74 k74
    · injection h with h; subst h; exact fn_of Try.func75 k75
    · cases h
  · have h : ext f = some (.fn g) := h
    unfold ext at h
    split at h
    · injection h with h; cases h
    · injection h with h; injection h with h; subst h; exact fun args res hr => ⟨entered_of Try.func32 k32, clone_contract (by decide) clone32r clone32n args res hr⟩
    · injection h with h; cases h
    · injection h with h; cases h
    · injection h with h; injection h with h; subst h; exact fun args res hr => ⟨entered_of Try.func66 k66, values_contract valuesB_runs args res hr⟩
    · injection h with h; injection h with h; subst h; exact fun args res hr => ⟨entered_of Try.func67 k67, compare_contract cmp67 args res hr⟩
    · injection h with h; cases h
    · injection h with h; injection h with h; subst h; exact fun args res hr => ⟨entered_of Try.func74 k74, collectS_contract collectS_runs args res hr⟩
    · injection h with h; cases h
    · cases h
  · have h : ext f = some .clip := h
    unfold ext at h
    split at h
    · exact ⟨entered_of Try.func24 k24, clip24⟩
    · injection h with h; cases h
    · exact ⟨entered_of Try.func60 k60, clip60⟩
    · injection h with h; cases h
    · injection h with h; cases h
    · injection h with h; cases h
    · exact ⟨entered_of Try.func73 k73, clip73⟩
    · injection h with h; cases h
    · injection h with h; cases h
    · cases h
  · have h : ext f = some (.rw mv g) := h
    unfold ext at h
    split at h
    · injection h with h; cases h
    · injection h with h; cases h
    · injection h with h; cases h
    · injection h with h; cases h
    · injection h with h; cases h
    · injection h with h; cases h
    · injection h with h; cases h
    · injection h with h; cases h
    · injection h with h; cases h
    · cases h
  · have h : ext f = some (.rwx mv c g) := h
    unfold ext at h
    split at h
    · injection h with h; cases h
    · injection h with h; cases h
    · injection h with h; cases h
    · injection h with h; injection h with h1 h2 h3; subst h1; subst h2; subst h3; exact ⟨entered_of Try.func64 k64, compactB_rw (compactB_run 23 (enters_of Try.func23 (by kernel_rfl) rfl)) (compactB_none 23) equal_runs⟩
    · injection h with h; cases h
    · injection h with h; cases h
    · injection h with h; cases h
    · injection h with h; cases h
    · injection h with h; injection h with h1 h2 h3; subst h1; subst h2; subst h3; exact ⟨entered_of Try.func75 k75, sortB_rw laysSF laysSFz rfl rfl cmp67 (enters_of Try.func67 (by kernel_rfl) rfl)⟩
    · cases h
#print axioms ok
end Go.Proofs.Ytmaehmacngldbaa.D
