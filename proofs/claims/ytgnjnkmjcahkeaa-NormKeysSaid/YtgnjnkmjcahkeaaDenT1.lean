/- The seat's tables for the evaluator, by program: what is live at each loop's head; the functions; slices.Clone and slices.Clip, walked. -/
import Derived.Test.YtgnjnkmjcahkeaaChecked
import Derived.Test.YtgnjnkmjcahkeaaDenK3
import Derived.WalkKit
import Derived.Deep.LoopGhost
import Derived.Lib.Walk
import Derived.Lib.SliceRun
import Derived.Lib.AppendZerosOnto
import Derived.Shelf.Spec.SlicesGrow
namespace Go.Proofs.Ytgnjnkmjcahkeaa.D
open Go Go.Den Go.Proofs Go.RowKit Go.Lib
def lv : FuncId → Nat → List NI
  | 4, 5 => [⟨0, []⟩, ⟨1, []⟩, ⟨2, []⟩, ⟨7, []⟩, ⟨8, []⟩, ⟨9, []⟩]
  | 4, 17 => [⟨1, []⟩, ⟨7, []⟩, ⟨10, [(0, 28, 8)]⟩, ⟨11, []⟩]
  | 4, 22 => [⟨1, []⟩, ⟨7, []⟩, ⟨10, []⟩, ⟨12, []⟩, ⟨63, []⟩, ⟨64, []⟩]
  | 8, 12 => [⟨12, []⟩, ⟨13, []⟩, ⟨14, []⟩, ⟨15, []⟩, ⟨171, []⟩, ⟨172, []⟩, ⟨173, []⟩]
  | 11, 4 => [⟨7, []⟩, ⟨38, []⟩, ⟨39, []⟩, ⟨40, []⟩]
  | 12, 6 => [⟨2, []⟩, ⟨7, []⟩, ⟨8, []⟩, ⟨9, []⟩, ⟨10, []⟩, ⟨11, []⟩, ⟨12, []⟩, ⟨13, []⟩]
  | 20, 4 => [⟨0, []⟩, ⟨2, []⟩, ⟨3, []⟩, ⟨4, []⟩, ⟨5, []⟩]
  | 22, 3 => [⟨3, []⟩, ⟨8, []⟩, ⟨9, []⟩]
  | 23, 17 => [⟨1, []⟩, ⟨2, []⟩, ⟨3, []⟩, ⟨4, []⟩, ⟨8, []⟩, ⟨9, []⟩, ⟨12, []⟩, ⟨13, []⟩]
  | 24, 4 => [⟨2, []⟩, ⟨3, []⟩, ⟨5, []⟩]
  | 25, 3 => [⟨1, []⟩, ⟨5, [(0, 24, 4)]⟩, ⟨9, []⟩, ⟨10, []⟩, ⟨11, []⟩]
  | 32, 6 => [⟨2, []⟩, ⟨5, [(0, 28, 8)]⟩, ⟨15, []⟩, ⟨16, []⟩, ⟨17, []⟩]
  | 35, 5 => [⟨25, []⟩, ⟨26, []⟩, ⟨27, []⟩]
  | 36, 6 => [⟨2, []⟩, ⟨4, []⟩, ⟨6, []⟩, ⟨7, []⟩]
  | 37, 6 => [⟨6, []⟩, ⟨7, []⟩]
  | 38, 21 => [⟨1, []⟩, ⟨2, []⟩, ⟨5, []⟩, ⟨6, []⟩, ⟨7, []⟩]
  | 44, 3 => [⟨1, []⟩, ⟨2, []⟩, ⟨9, []⟩, ⟨15, []⟩, ⟨16, []⟩, ⟨17, []⟩]
  | 47, 5 => [⟨2, []⟩, ⟨3, []⟩, ⟨4, []⟩, ⟨31, []⟩, ⟨32, []⟩, ⟨33, []⟩]
  | 51, 5 => [⟨1, []⟩, ⟨2, []⟩, ⟨6, []⟩, ⟨7, []⟩, ⟨8, []⟩]
  | 52, 16 => [⟨2, []⟩, ⟨3, []⟩, ⟨7, []⟩]
  | 53, 5 => [⟨1, []⟩, ⟨4, [(0, 26, 1)]⟩, ⟨5, []⟩]
  | 53, 15 => [⟨1, []⟩, ⟨8, [(0, 26, 1)]⟩, ⟨9, []⟩]
  | 53, 22 => [⟨1, []⟩, ⟨8, []⟩, ⟨9, []⟩, ⟨10, []⟩, ⟨12, [(0, 26, 1)]⟩, ⟨13, []⟩]
  | 53, 25 => [⟨1, []⟩, ⟨8, []⟩, ⟨9, []⟩, ⟨10, []⟩, ⟨12, [(0, 26, 1)]⟩, ⟨13, []⟩, ⟨14, []⟩]
  | 54, 20 => [⟨1, []⟩, ⟨2, []⟩, ⟨4, []⟩, ⟨5, []⟩, ⟨6, []⟩]
  | 58, 4 => [⟨1, []⟩, ⟨2, []⟩, ⟨3, [(0, 28, 8)]⟩, ⟨11, []⟩, ⟨12, []⟩, ⟨13, []⟩]
  | 65, 4 => [⟨1, []⟩, ⟨2, []⟩, ⟨15, []⟩, ⟨16, []⟩, ⟨17, []⟩]
  | 71, 5 => [⟨1, []⟩, ⟨2, []⟩, ⟨6, []⟩, ⟨7, [(0, 26, 1)]⟩, ⟨14, []⟩, ⟨15, []⟩, ⟨16, []⟩]
  | 84, 5 => [⟨3, []⟩, ⟨4, []⟩, ⟨5, [(0, 26, 1)]⟩, ⟨33, []⟩, ⟨34, []⟩, ⟨35, []⟩]
  | 84, 8 => [⟨3, []⟩, ⟨4, []⟩, ⟨5, [(0, 26, 1)]⟩, ⟨7, []⟩, ⟨33, []⟩, ⟨34, []⟩, ⟨35, []⟩, ⟨40, []⟩, ⟨41, []⟩, ⟨42, []⟩]
  | 86, 3 => [⟨0, []⟩, ⟨3, []⟩, ⟨9, []⟩, ⟨10, []⟩, ⟨11, []⟩]
  | 86, 11 => [⟨6, [(0, 28, 8)]⟩, ⟨25, []⟩, ⟨26, []⟩, ⟨27, []⟩]
  | 87, 3 => [⟨0, []⟩, ⟨3, []⟩, ⟨9, []⟩, ⟨10, []⟩, ⟨11, []⟩]
  | 87, 11 => [⟨6, [(0, 26, 1)]⟩, ⟨25, []⟩, ⟨26, []⟩, ⟨27, []⟩]
  | _, _ => []
def ext : FuncId → Option Ext
  | 63 => some (.fn compareF)
  | 75 => some .clip
  | 76 => some (.fn (cloneF 5 1 1))
  | 88 => some (.fn (growF 28 8 96))
  | 89 => some (.fn (growF 26 1 24))
  | _ => none
noncomputable def fns : FuncId → Option Func
  | 3 => some Try.f3
  | 4 => some Try.f4
  | 5 => some Try.f5
  | 6 => some Try.f6
  | 7 => some Try.f7
  | 8 => some Try.f8
  | 9 => some Try.f9
  | 10 => some Try.f10
  | 11 => some Try.f11
  | 12 => some Try.f12
  | 13 => some Try.f13
  | 14 => some Try.f14
  | 15 => some Try.f15
  | 16 => some Try.f16
  | 17 => some Try.f17
  | 18 => some Try.f18
  | 19 => some Try.f19
  | 20 => some Try.f20
  | 21 => some Try.f21
  | 22 => some Try.f22
  | 23 => some Try.f23
  | 24 => some Try.f24
  | 25 => some Try.f25
  | 26 => some Try.f26
  | 27 => some Try.f27
  | 28 => some Try.f28
  | 29 => some Try.f29
  | 30 => some Try.f30
  | 31 => some Try.f31
  | 32 => some Try.f32
  | 33 => some Try.f33
  | 34 => some Try.f34
  | 35 => some Try.f35
  | 36 => some Try.f36
  | 37 => some Try.f37
  | 38 => some Try.f38
  | 39 => some Try.f39
  | 40 => some Try.f40
  | 41 => some Try.f41
  | 42 => some Try.f42
  | 43 => some Try.f43
  | 44 => some Try.f44
  | 45 => some Try.f45
  | 46 => some Try.f46
  | 47 => some Try.f47
  | 48 => some Try.f48
  | 49 => some Try.f49
  | 50 => some Try.f50
  | 51 => some Try.f51
  | 52 => some Try.f52
  | 53 => some Try.f53
  | 54 => some Try.f54
  | 55 => some Try.f55
  | 56 => some Try.f56
  | 57 => some Try.f57
  | 58 => some Try.f58
  | 59 => some Try.f59
  | 60 => some Try.f60
  | 61 => some Try.f61
  | 62 => some Try.f62
  | 63 => some Try.f63
  | 64 => some Try.f64
  | 65 => some Try.f65
  | 66 => some Try.f66
  | 67 => some Try.f67
  | 68 => some Try.f68
  | 69 => some Try.f69
  | 70 => some Try.f70
  | 71 => some Try.f71
  | 72 => some Try.f72
  | 73 => some Try.f73
  | 74 => some Try.f74
  | 75 => some Try.f75
  | 76 => some Try.f76
  | 77 => some Try.f77
  | 78 => some Try.f78
  | 80 => some Try.f80
  | 81 => some Try.f81
  | 82 => some Try.f82
  | 83 => some Try.f83
  | 84 => some Try.f84
  | 85 => some Try.f85
  | 86 => some Try.f86
  | 87 => some Try.f87
  | 88 => some Try.f88
  | 89 => some Try.f89
  | _ => none
noncomputable def E : Env := { P := Try.prog, fns := fns, lv := lv, ext := ext }
theorem k3 : fnOK Try.f3 = true := by kernel_rfl
theorem k4 : fnOK Try.f4 = true := by kernel_rfl
theorem k5 : fnOK Try.f5 = true := by kernel_rfl
theorem k6 : fnOK Try.f6 = true := by kernel_rfl
theorem k7 : fnOK Try.f7 = true := by kernel_rfl
theorem k8 : fnOK Try.f8 = true := by kernel_rfl
theorem k9 : fnOK Try.f9 = true := by kernel_rfl
theorem k10 : fnOK Try.f10 = true := by kernel_rfl
theorem k11 : fnOK Try.f11 = true := by kernel_rfl
theorem k12 : fnOK Try.f12 = true := by kernel_rfl
theorem k13 : fnOK Try.f13 = true := by kernel_rfl
theorem k14 : fnOK Try.f14 = true := by kernel_rfl
theorem k15 : fnOK Try.f15 = true := by kernel_rfl
theorem k16 : fnOK Try.f16 = true := by kernel_rfl
theorem k17 : fnOK Try.f17 = true := by kernel_rfl
theorem k18 : fnOK Try.f18 = true := by kernel_rfl
theorem k19 : fnOK Try.f19 = true := by kernel_rfl
theorem k20 : fnOK Try.f20 = true := by kernel_rfl
theorem k21 : fnOK Try.f21 = true := by kernel_rfl
theorem k22 : fnOK Try.f22 = true := by kernel_rfl
theorem k23 : fnOK Try.f23 = true := by kernel_rfl
theorem k24 : fnOK Try.f24 = true := by kernel_rfl
theorem k25 : fnOK Try.f25 = true := by kernel_rfl
theorem k26 : fnOK Try.f26 = true := by kernel_rfl
theorem k27 : fnOK Try.f27 = true := by kernel_rfl
theorem k28 : fnOK Try.f28 = true := by kernel_rfl
theorem k29 : fnOK Try.f29 = true := by kernel_rfl
theorem k30 : fnOK Try.f30 = true := by kernel_rfl
theorem k31 : fnOK Try.f31 = true := by kernel_rfl
theorem k32 : fnOK Try.f32 = true := by kernel_rfl
theorem k33 : fnOK Try.f33 = true := by kernel_rfl
theorem k34 : fnOK Try.f34 = true := by kernel_rfl
theorem k35 : fnOK Try.f35 = true := by kernel_rfl
theorem k36 : fnOK Try.f36 = true := by kernel_rfl
theorem k37 : fnOK Try.f37 = true := by kernel_rfl
theorem k38 : fnOK Try.f38 = true := by kernel_rfl
theorem k39 : fnOK Try.f39 = true := by kernel_rfl
theorem k40 : fnOK Try.f40 = true := by kernel_rfl
theorem k41 : fnOK Try.f41 = true := by kernel_rfl
theorem k42 : fnOK Try.f42 = true := by kernel_rfl
theorem k43 : fnOK Try.f43 = true := by kernel_rfl
theorem k44 : fnOK Try.f44 = true := by kernel_rfl
theorem k45 : fnOK Try.f45 = true := by kernel_rfl
theorem k46 : fnOK Try.f46 = true := by kernel_rfl
theorem k47 : fnOK Try.f47 = true := by kernel_rfl
theorem k48 : fnOK Try.f48 = true := by kernel_rfl
theorem k49 : fnOK Try.f49 = true := by kernel_rfl
theorem k50 : fnOK Try.f50 = true := by kernel_rfl
theorem k51 : fnOK Try.f51 = true := by kernel_rfl
theorem k52 : fnOK Try.f52 = true := by kernel_rfl
theorem k53 : fnOK Try.f53 = true := by kernel_rfl
theorem k54 : fnOK Try.f54 = true := by kernel_rfl
theorem k55 : fnOK Try.f55 = true := by kernel_rfl
theorem k56 : fnOK Try.f56 = true := by kernel_rfl
theorem k57 : fnOK Try.f57 = true := by kernel_rfl
theorem k58 : fnOK Try.f58 = true := by kernel_rfl
theorem k59 : fnOK Try.f59 = true := by kernel_rfl
theorem k60 : fnOK Try.f60 = true := by kernel_rfl
theorem k61 : fnOK Try.f61 = true := by kernel_rfl
theorem k62 : fnOK Try.f62 = true := by kernel_rfl
theorem k63 : fnOK Try.f63 = true := by kernel_rfl
theorem k64 : fnOK Try.f64 = true := by kernel_rfl
theorem k65 : fnOK Try.f65 = true := by kernel_rfl
theorem k66 : fnOK Try.f66 = true := by kernel_rfl
theorem k67 : fnOK Try.f67 = true := by kernel_rfl
theorem k68 : fnOK Try.f68 = true := by kernel_rfl
theorem k69 : fnOK Try.f69 = true := by kernel_rfl
theorem k70 : fnOK Try.f70 = true := by kernel_rfl
theorem k71 : fnOK Try.f71 = true := by kernel_rfl
theorem k72 : fnOK Try.f72 = true := by kernel_rfl
theorem k73 : fnOK Try.f73 = true := by kernel_rfl
theorem k74 : fnOK Try.f74 = true := by kernel_rfl
theorem k75 : fnOK Try.f75 = true := by kernel_rfl
theorem k76 : fnOK Try.f76 = true := by kernel_rfl
theorem k77 : fnOK Try.f77 = true := by kernel_rfl
theorem k78 : fnOK Try.f78 = true := by kernel_rfl
theorem k80 : fnOK Try.f80 = true := by kernel_rfl
theorem k81 : fnOK Try.f81 = true := by kernel_rfl
theorem k82 : fnOK Try.f82 = true := by kernel_rfl
theorem k83 : fnOK Try.f83 = true := by kernel_rfl
theorem k84 : fnOK Try.f84 = true := by kernel_rfl
theorem k85 : fnOK Try.f85 = true := by kernel_rfl
theorem k86 : fnOK Try.f86 = true := by kernel_rfl
theorem k87 : fnOK Try.f87 = true := by kernel_rfl
theorem k88 : fnOK Try.f88 = true := by kernel_rfl
theorem k89 : fnOK Try.f89 = true := by kernel_rfl
set_option maxHeartbeats 1000000 in
set_option maxRecDepth 100000 in
theorem cmp63 : RunsCompare Try.prog 63 := fun a b n c m d x y w hx hy => by
  go_enter Try.func63, Try.ntmps63
  go_wp2
  rw [run_callFunc_extern Try.func79 (by kernel_rfl) (by kernel_rfl) (by kernel_rfl) (e := Extern.BytealgCompare.compare) (by kernel_rfl), run_compareSl hx hy]
  simp only [Result.andThen]
  rw [Oper.upon_value]
  go_wp2
  go_ret
  exact ⟨rfl, rfl⟩
theorem clip75 : ClipOk Try.prog 75 := by
  intro w a n c h
  go_enter Try.func75, Try.ntmps75
  go_wp2
  go_ret
  exact ⟨rfl, rfl, rfl, rfl, rfl⟩
set_option maxHeartbeats 2000000 in
set_option maxRecDepth 100000 in
theorem clone76 (i0 : TypeInfo) (z : Value) (size bytes : Nat) (hi : Try.prog.info? 5 = some i0) (hz0 : i0.zero = some z) (hz1 : i0.size = size) (hz2 : i0.bytes = bytes) (hzs : z.cells.size = size) (hsz : 0 < size)
    (zE : ∀ w, (Go.sizeOf 5).run Try.prog w = .ok size w) (x : Addr) (n c : Nat) (news : List Value) (w : World) (hl : news.length = n * size) (hn : n ≤ maxLen) (hbig : n * bytes ≤ 140737488355328)
    (hc : ∀ (j : Nat) u, news[j]? = some u → w.cell? (x.add j) = some u) (h1 : ∀ u ∈ news, u.oneCell' = true) :
    Calls Try.prog 76 #[.slice (some x) n c] w fun e w' => ∃ v', e = .returned v' ∧ w'.ownsRow w.heap.size 5 size v' n news ∧ Below w.heap.size w w' := by
  have tT := Try.underlying22
  have q22 : ∀ (w : World) (a : Option Addr) (n c n' c' : Nat), (binOp .eql 22 (.slice a n c) (.slice none n' c')).run Try.prog w = .ok (.bool a.isNone) w := fun w a n c n' c' => Lib.run_eql_slice_nil w _ _ a n c n' c' tT
  have u22 : ∀ w, Sem.run Try.prog (underlying 22) w = .ok (TypeDesc.slice 5) w := run_underlying tT
  have A : Aside (∀ (j : Nat) u, news[j]? = some u → w.cell? (x.add j) = some u) := hc
  clear hc
  go_enter Try.func76, Try.ntmps76
  go_wp2_with (at_builtin; refine wpList_append_own _ rfl _ _ 22 rfl w.heap.size 5 i0 z size bytes tT hi hz0 hz1 hz2 hzs hsz _ _ _ rfl (World.ownsRow_made w #[] 0 (Nat.le_refl _) (Nat.zero_le _) (by simp)) x n c news rfl ?qc1 ?qc2 ?qc3 ?qc4 ?qc5 ?qc6 ?_)
  case qc1 => exact hl
  case qc2 =>
    intro j u hj
    exact Lib.cell?_alloc_some _ (A.out j u hj)
  case qc3 => exact h1
  case qc4 => rw [Nat.zero_add]; exact hn
  case qc5 => rw [Nat.zero_add]; exact hbig
  case qc6 => simp
  intro v' w1 hown hgrow hnil
  go_wp2
  go_ret
  refine ⟨v', rfl, by simpa using hown, ?_⟩
  · exact ((Below.refl _ w).alloc (Nat.le_refl _) _).grown hgrow (by simp) (by intro k hk; simp [Value.ownBlock] at hk; omega)
theorem clone76r : RunsClone Try.prog 76 5 1 1 := fun x n c news w hl hn hb hc h1 => by
  obtain ⟨i0, z, hi, hz0, hz1, hz2, hzs, zE⟩ := info_of (P := Try.prog) (e := 5) (size := 1) (bytes := 1) (by kernel_rfl)
  exact clone76 i0 z 1 1 hi hz0 hz1 hz2 hzs (by decide) zE x n c news w hl hn hb hc h1
theorem clone76n : RunsCloneNil Try.prog 76 := fun n c w => by
  have tT := Try.underlying22
  have q22 : ∀ (w : World) (a : Option Addr) (n c n' c' : Nat), (binOp .eql 22 (.slice a n c) (.slice none n' c')).run Try.prog w = .ok (.bool a.isNone) w := fun w a n c n' c' => Lib.run_eql_slice_nil w _ _ a n c n' c' tT
  go_enter Try.func76, Try.ntmps76
  go_wp2
  go_ret
  exact ⟨rfl, rfl⟩
def rho88 : Shelf.Ren := ⟨fun | 4 => 88 | x => x, fun | 22 => 26 | 25 => 28 | x => x, fun x => x⟩
theorem lays88 : Lays8.n4 Try.prog rho88 where
  mixed := by kernel_rfl
  f4 := by
    refine ⟨Try.f88.name, by decide, ?_⟩
    kernel_rfl
  t0 := by kernel_rfl
  a0 := fun w => by kernel_rfl
  z0 := fun w => by kernel_rfl
  v0 := fun w => by kernel_rfl
  t3 := by kernel_rfl
  a3 := fun w => by kernel_rfl
  z3 := fun w => by kernel_rfl
  v3 := fun w => by kernel_rfl
  t4 := by kernel_rfl
  a4 := fun w => by kernel_rfl
  z4 := fun w => by kernel_rfl
  v4 := fun w => by kernel_rfl
  t9 := by kernel_rfl
  a9 := fun w => by kernel_rfl
  z9 := fun w => by kernel_rfl
  v9 := fun w => by kernel_rfl
  t20 := by kernel_rfl
  a20 := fun w => by kernel_rfl
  z20 := fun w => by kernel_rfl
  v20 := fun w => by kernel_rfl
  t22 := by kernel_rfl
  a22 := fun w => by kernel_rfl
  z22 := fun w => by kernel_rfl
  v22 := fun w => by kernel_rfl
theorem grow88r : RunsGrow Try.prog 88 28 8 96 := fun n w hb h63 => by
  obtain ⟨i0, z, hi, hz0, hz1, hz2, hzs, zE⟩ := info_of (P := Try.prog) (e := 28) (size := 8) (bytes := 96) (by kernel_rfl)
  by_cases h0 : n = 0
  · subst h0
    refine (Any8.slices_Grow_room lays88 none 0 0 0 w (Nat.le_refl _) (by omega) (by omega) (Nat.le_refl _)).mono fun e1 w' ⟨he, hw⟩ => ⟨_, he, ?_⟩
    subst hw
    exact ⟨⟨by simp, .inl ⟨rfl, rfl⟩⟩, Below.refl _ _⟩
  · refine (Any8.slices_Grow_grow lays88 i0 z hi hz0 (by rw [hz1]; decide) none 0 0 n [] w (Nat.le_refl _) (by omega) (by rw [hz2]; omega) (by omega) (by simp) (fun _ => rfl) (fun a ha => by cases ha)).mono fun e1 w' ⟨he, hw⟩ => ⟨_, he, ?_⟩
    have hG := grownCap_ge w (0 + n) 0 (rho88.t 25)
    have hM := grownCap_le_maxLen w (0 + n) 0 (rho88.t 25) (by unfold maxLen; omega)
    subst hw
    refine ⟨⟨by simp, .inr ⟨w.heap.size, grownCap w (0 + n) 0 28, #[] ++ Builtin.zeroCells z.cells (0 + n - 0) ++ Builtin.zeroCells z.cells (grownCap w (0 + n) 0 28 - (0 + n)), rfl, Nat.le_refl _, ?_, Nat.zero_le _, hM, ?_, ?_⟩⟩, ?_⟩
    · show (w.drew.heap.push _)[w.heap.size]? = _
      exact Array.getElem?_push_size
    · have hG' : 0 + n ≤ grownCap w (0 + n) 0 28 := hG
      rw [Array.size_append, Array.size_append, size_zeroCells, size_zeroCells, hzs]
      simp only [List.size_toArray, List.length_nil]
      omega
    · simp
    · exact ((Below.refl _ w).drew).alloc (Nat.le_refl _) _
def rho89 : Shelf.Ren := ⟨fun | 4 => 89 | x => x, fun | 22 => 77 | 25 => 26 | x => x, fun x => x⟩
theorem lays89 : Lays8.n4 Try.prog rho89 where
  mixed := by kernel_rfl
  f4 := by
    refine ⟨Try.f89.name, by decide, ?_⟩
    kernel_rfl
  t0 := by kernel_rfl
  a0 := fun w => by kernel_rfl
  z0 := fun w => by kernel_rfl
  v0 := fun w => by kernel_rfl
  t3 := by kernel_rfl
  a3 := fun w => by kernel_rfl
  z3 := fun w => by kernel_rfl
  v3 := fun w => by kernel_rfl
  t4 := by kernel_rfl
  a4 := fun w => by kernel_rfl
  z4 := fun w => by kernel_rfl
  v4 := fun w => by kernel_rfl
  t9 := by kernel_rfl
  a9 := fun w => by kernel_rfl
  z9 := fun w => by kernel_rfl
  v9 := fun w => by kernel_rfl
  t20 := by kernel_rfl
  a20 := fun w => by kernel_rfl
  z20 := fun w => by kernel_rfl
  v20 := fun w => by kernel_rfl
  t22 := by kernel_rfl
  a22 := fun w => by kernel_rfl
  z22 := fun w => by kernel_rfl
  v22 := fun w => by kernel_rfl
theorem grow89r : RunsGrow Try.prog 89 26 1 24 := fun n w hb h63 => by
  obtain ⟨i0, z, hi, hz0, hz1, hz2, hzs, zE⟩ := info_of (P := Try.prog) (e := 26) (size := 1) (bytes := 24) (by kernel_rfl)
  by_cases h0 : n = 0
  · subst h0
    refine (Any8.slices_Grow_room lays89 none 0 0 0 w (Nat.le_refl _) (by omega) (by omega) (Nat.le_refl _)).mono fun e1 w' ⟨he, hw⟩ => ⟨_, he, ?_⟩
    subst hw
    exact ⟨⟨by simp, .inl ⟨rfl, rfl⟩⟩, Below.refl _ _⟩
  · refine (Any8.slices_Grow_grow lays89 i0 z hi hz0 (by rw [hz1]; decide) none 0 0 n [] w (Nat.le_refl _) (by omega) (by rw [hz2]; omega) (by omega) (by simp) (fun _ => rfl) (fun a ha => by cases ha)).mono fun e1 w' ⟨he, hw⟩ => ⟨_, he, ?_⟩
    have hG := grownCap_ge w (0 + n) 0 (rho89.t 25)
    have hM := grownCap_le_maxLen w (0 + n) 0 (rho89.t 25) (by unfold maxLen; omega)
    subst hw
    refine ⟨⟨by simp, .inr ⟨w.heap.size, grownCap w (0 + n) 0 26, #[] ++ Builtin.zeroCells z.cells (0 + n - 0) ++ Builtin.zeroCells z.cells (grownCap w (0 + n) 0 26 - (0 + n)), rfl, Nat.le_refl _, ?_, Nat.zero_le _, hM, ?_, ?_⟩⟩, ?_⟩
    · show (w.drew.heap.push _)[w.heap.size]? = _
      exact Array.getElem?_push_size
    · have hG' : 0 + n ≤ grownCap w (0 + n) 0 26 := hG
      rw [Array.size_append, Array.size_append, size_zeroCells, size_zeroCells, hzs]
      simp only [List.size_toArray, List.length_nil]
      omega
    · simp
    · exact ((Below.refl _ w).drew).alloc (Nat.le_refl _) _
theorem ok : EnvOK E := by
  refine ⟨Checked.mixed Try.checked, fun f fn h => ?_, fun f g h => ?_, fun f h => ?_⟩
  · have h : fns f = some fn := h
    unfold fns at h
    split at h
    · injection h with h; subst h; exact fn_of Try.func3 k3
    · injection h with h; subst h; exact fn_of Try.func4 k4
    · injection h with h; subst h; exact fn_of Try.func5 k5
    · injection h with h; subst h; exact fn_of Try.func6 k6
    · injection h with h; subst h; exact fn_of Try.func7 k7
    · injection h with h; subst h; exact fn_of Try.func8 k8
    · injection h with h; subst h; exact fn_of Try.func9 k9
    · injection h with h; subst h; exact fn_of Try.func10 k10
    · injection h with h; subst h; exact fn_of Try.func11 k11
    · injection h with h; subst h; exact fn_of Try.func12 k12
    · injection h with h; subst h; exact fn_of Try.func13 k13
    · injection h with h; subst h; exact fn_of Try.func14 k14
    · injection h with h; subst h; exact fn_of Try.func15 k15
    · injection h with h; subst h; exact fn_of Try.func16 k16
    · injection h with h; subst h; exact fn_of Try.func17 k17
    · injection h with h; subst h; exact fn_of Try.func18 k18
    · injection h with h; subst h; exact fn_of Try.func19 k19
    · injection h with h; subst h; exact fn_of Try.func20 k20
    · injection h with h; subst h; exact fn_of Try.func21 k21
    · injection h with h; subst h; exact fn_of Try.func22 k22
    · injection h with h; subst h; exact fn_of Try.func23 k23
    · injection h with h; subst h; exact fn_of Try.func24 k24
    · injection h with h; subst h; exact fn_of Try.func25 k25
    · injection h with h; subst h; exact fn_of Try.func26 k26
    · injection h with h; subst h; exact fn_of Try.func27 k27
    · injection h with h; subst h; exact fn_of Try.func28 k28
    · injection h with h; subst h; exact fn_of Try.func29 k29
    · injection h with h; subst h; exact fn_of Try.func30 k30
    · injection h with h; subst h; exact fn_of Try.func31 k31
    · injection h with h; subst h; exact fn_of Try.func32 k32
    · injection h with h; subst h; exact fn_of Try.func33 k33
    · injection h with h; subst h; exact fn_of Try.func34 k34
    · injection h with h; subst h; exact fn_of Try.func35 k35
    · injection h with h; subst h; exact fn_of Try.func36 k36
    · injection h with h; subst h; exact fn_of Try.func37 k37
    · injection h with h; subst h; exact fn_of Try.func38 k38
    · injection h with h; subst h; exact fn_of Try.func39 k39
    · injection h with h; subst h; exact fn_of Try.func40 k40
    · injection h with h; subst h; exact fn_of Try.func41 k41
    · injection h with h; subst h; exact fn_of Try.func42 k42
    · injection h with h; subst h; exact fn_of Try.func43 k43
    · injection h with h; subst h; exact fn_of Try.func44 k44
    · injection h with h; subst h; exact fn_of Try.func45 k45
    · injection h with h; subst h; exact fn_of Try.func46 k46
    · injection h with h; subst h; exact fn_of Try.func47 k47
    · injection h with h; subst h; exact fn_of Try.func48 k48
    · injection h with h; subst h; exact fn_of Try.func49 k49
    · injection h with h; subst h; exact fn_of Try.func50 k50
    · injection h with h; subst h; exact fn_of Try.func51 k51
    · injection h with h; subst h; exact fn_of Try.func52 k52
    · injection h with h; subst h; exact fn_of Try.func53 k53
    · injection h with h; subst h; exact fn_of Try.func54 k54
    · injection h with h; subst h; exact fn_of Try.func55 k55
    · injection h with h; subst h; exact fn_of Try.func56 k56
    · injection h with h; subst h; exact fn_of Try.func57 k57
    · injection h with h; subst h; exact fn_of Try.func58 k58
    · injection h with h; subst h; exact fn_of Try.func59 k59
    · injection h with h; subst h; exact fn_of Try.func60 k60
    · injection h with h; subst h; exact fn_of Try.func61 k61
    · injection h with h; subst h; exact fn_of Try.func62 k62
    · injection h with h; subst h; exact fn_of Try.func63 k63
    · injection h with h; subst h; exact fn_of Try.func64 k64
    · injection h with h; subst h; exact fn_of Try.func65 k65
    · injection h with h; subst h; exact fn_of Try.func66 k66
    · injection h with h; subst h; exact fn_of Try.func67 k67
    · injection h with h; subst h; exact fn_of Try.func68 k68
    · injection h with h; subst h; exact fn_of Try.func69 k69
    · injection h with h; subst h; exact fn_of Try.func70 k70
    · injection h with h; subst h; exact fn_of Try.func71 k71
    · injection h with h; subst h; exact fn_of Try.func72 k72
    · injection h with h; subst h; exact fn_of Try.func73 k73
    · injection h with h; subst h; exact fn_of Try.func74 k74
    · injection h with h; subst h; exact fn_of Try.func75 k75
    · injection h with h; subst h; exact fn_of Try.func76 k76
    · injection h with h; subst h; exact fn_of Try.func77 k77
    · injection h with h; subst h; exact fn_of Try.func78 k78
    · injection h with h; subst h; exact fn_of Try.func80 k80
    · injection h with h; subst h; exact fn_of Try.func81 k81
    · injection h with h; subst h; exact fn_of Try.func82 k82
    · injection h with h; subst h; exact fn_of Try.func83 k83
    · injection h with h; subst h; exact fn_of Try.func84 k84
    · injection h with h; subst h; exact fn_of Try.func85 k85
    · injection h with h; subst h; exact fn_of Try.func86 k86
    · injection h with h; subst h; exact fn_of Try.func87 k87
    · injection h with h; subst h; exact fn_of Try.func88 k88
    · injection h with h; subst h; exact fn_of Try.func89 k89
    · cases h
  · have h : ext f = some (.fn g) := h
    unfold ext at h
    split at h
    · injection h with h; injection h with h; subst h; exact fun args res hr => ⟨entered_of Try.func63 k63, compare_contract cmp63 args res hr⟩
    · injection h with h; cases h
    · injection h with h; injection h with h; subst h; exact fun args res hr => ⟨entered_of Try.func76 k76, clone_contract (by decide) clone76r clone76n args res hr⟩
    · injection h with h; injection h with h; subst h; exact fun args res hr => ⟨entered_of Try.func88 k88, grow_contract grow88r args res hr⟩
    · injection h with h; injection h with h; subst h; exact fun args res hr => ⟨entered_of Try.func89 k89, grow_contract grow89r args res hr⟩
    · cases h
  · have h : ext f = some .clip := h
    unfold ext at h
    split at h
    · injection h with h; cases h
    · exact ⟨entered_of Try.func75 k75, clip75⟩
    · injection h with h; cases h
    · injection h with h; cases h
    · injection h with h; cases h
    · cases h
#print axioms ok
end Go.Proofs.Ytgnjnkmjcahkeaa.D
