/- The seat's tables for the evaluator, by program: what is live at each loop's head; the functions; slices.Clone and slices.Clip, walked. -/
import Derived.Test.YtfgbklmmildakaaChecked
import Derived.Test.YtfgbklmmildakaaDenK3
import Derived.WalkKit
import Derived.Deep.LoopGhost
import Derived.Lib.Walk
import Derived.Lib.SliceRun
import Derived.Lib.AppendZerosOnto
import Derived.Shelf.Spec.SlicesGrow
import Derived.Test.YtfgbklmmildakaaGrop0
namespace Go.Proofs.Ytfgbklmmildakaa.D
open Go Go.Den Go.Proofs Go.RowKit Go.Lib
def lv : FuncId → Nat → List NI
  | 3, 5 => [⟨1, []⟩, ⟨2, []⟩, ⟨3, []⟩, ⟨9, []⟩, ⟨10, [(0, 37, 6)]⟩, ⟨11, []⟩]
  | 4, 4 => [⟨1, []⟩, ⟨5, []⟩, ⟨6, [(0, 37, 6)]⟩, ⟨7, []⟩, ⟨28, []⟩, ⟨29, []⟩, ⟨30, []⟩]
  | 4, 9 => [⟨5, []⟩, ⟨6, []⟩, ⟨7, [(0, 37, 6)]⟩, ⟨48, []⟩, ⟨49, []⟩, ⟨50, []⟩]
  | 4, 17 => [⟨6, []⟩, ⟨7, []⟩, ⟨12, []⟩, ⟨85, []⟩, ⟨86, []⟩]
  | 4, 21 => [⟨6, []⟩, ⟨7, []⟩, ⟨12, []⟩, ⟨14, []⟩, ⟨85, []⟩, ⟨86, []⟩, ⟨104, []⟩, ⟨105, []⟩]
  | 4, 28 => [⟨7, []⟩, ⟨12, []⟩, ⟨16, []⟩, ⟨121, []⟩, ⟨122, []⟩]
  | 4, 33 => [⟨7, []⟩, ⟨12, []⟩, ⟨130, []⟩, ⟨131, []⟩]
  | 4, 39 => [⟨7, []⟩, ⟨12, []⟩, ⟨19, []⟩, ⟨130, []⟩, ⟨131, []⟩, ⟨153, []⟩, ⟨154, []⟩]
  | 5, 4 => [⟨0, []⟩, ⟨2, []⟩, ⟨3, []⟩, ⟨4, []⟩, ⟨5, []⟩]
  | 6, 3 => [⟨1, []⟩, ⟨5, [(0, 31, 4)]⟩, ⟨9, []⟩, ⟨10, []⟩, ⟨11, []⟩]
  | 7, 4 => [⟨1, []⟩, ⟨2, []⟩, ⟨6, []⟩, ⟨7, [(0, 27, 1)]⟩, ⟨14, []⟩, ⟨15, []⟩, ⟨16, []⟩]
  | 10, 3 => [⟨3, []⟩, ⟨9, []⟩, ⟨10, []⟩, ⟨11, []⟩]
  | 11, 3 => [⟨1, []⟩, ⟨2, []⟩, ⟨5, [(0, 27, 1)]⟩, ⟨6, []⟩]
  | 22, 4 => [⟨0, []⟩, ⟨1, []⟩, ⟨5, []⟩]
  | 23, 2 => [⟨0, []⟩, ⟨1, []⟩, ⟨7, []⟩, ⟨8, []⟩]
  | 25, 4 => [⟨1, []⟩, ⟨14, []⟩, ⟨15, []⟩, ⟨16, []⟩]
  | 26, 2 => [⟨1, []⟩, ⟨8, []⟩, ⟨9, []⟩, ⟨10, []⟩]
  | 29, 3 => [⟨1, []⟩, ⟨5, [(0, 92, 9)]⟩, ⟨13, []⟩, ⟨14, []⟩, ⟨15, []⟩]
  | 29, 8 => [⟨1, []⟩, ⟨5, []⟩, ⟨6, []⟩, ⟨9, []⟩, ⟨13, []⟩, ⟨14, []⟩, ⟨15, []⟩, ⟨26, []⟩, ⟨27, []⟩, ⟨28, []⟩]
  | 30, 3 => [⟨3, [(0, 27, 1)]⟩, ⟨6, []⟩, ⟨7, []⟩, ⟨8, []⟩]
  | 31, 3 => [⟨3, [(0, 31, 4)]⟩, ⟨6, []⟩, ⟨7, []⟩, ⟨8, []⟩]
  | 35, 2 => [⟨0, []⟩, ⟨5, []⟩, ⟨6, []⟩]
  | 37, 2 => [⟨0, []⟩, ⟨1, []⟩, ⟨7, []⟩, ⟨8, []⟩]
  | 43, 2 => [⟨0, []⟩, ⟨1, []⟩, ⟨7, []⟩, ⟨8, []⟩]
  | _, _ => []
def ext : FuncId → Option Ext
  | 18 => some (.bx 2 setG)
  | 19 => some (.fn (cloneF 3 1 8))
  | 28 => some (.fn (cloneF 54 3 32))
  | 39 => some .clip
  | 41 => some .clip
  | 45 => some (.fn (cloneF 5 1 1))
  | 49 => some (.fn compareF)
  | _ => none
noncomputable def fns : FuncId → Option Func
  | 3 => some Try.f3
  | 4 => some Try.f4
  | 5 => some Try.f5
  | 6 => some Try.f6
  | 7 => some Try.f7
  | 8 => some Try.f8
  | 9 => some Try.f9
  | 10 => some Try.f10
  | 11 => some Try.f11
  | 12 => some Try.f12
  | 13 => some Try.f13
  | 14 => some Try.f14
  | 15 => some Try.f15
  | 16 => some Try.f16
  | 17 => some Try.f17
  | 18 => some Try.f18
  | 19 => some Try.f19
  | 20 => some Try.f20
  | 21 => some Try.f21
  | 22 => some Try.f22
  | 23 => some Try.f23
  | 24 => some Try.f24
  | 25 => some Try.f25
  | 26 => some Try.f26
  | 27 => some Try.f27
  | 28 => some Try.f28
  | 29 => some Try.f29
  | 30 => some Try.f30
  | 31 => some Try.f31
  | 32 => some Try.f32
  | 33 => some Try.f33
  | 34 => some Try.f34
  | 35 => some Try.f35
  | 36 => some Try.f36
  | 37 => some Try.f37
  | 38 => some Try.f38
  | 39 => some Try.f39
  | 40 => some Try.f40
  | 41 => some Try.f41
  | 42 => some Try.f42
  | 43 => some Try.f43
  | 44 => some Try.f44
  | 45 => some Try.f45
  | 46 => some Try.f46
  | 47 => some Try.f47
  | 48 => some Try.f48
  | 49 => some Try.f49
  | 50 => some Try.f50
  | 51 => some Try.f51
  | _ => none
noncomputable def E : Env := { P := Try.prog, fns := fns, lv := lv, ext := ext }
theorem k3 : fnOK Try.f3 = true := by kernel_rfl
theorem k4 : fnOK Try.f4 = true := by kernel_rfl
theorem k5 : fnOK Try.f5 = true := by kernel_rfl
theorem k6 : fnOK Try.f6 = true := by kernel_rfl
theorem k7 : fnOK Try.f7 = true := by kernel_rfl
theorem k8 : fnOK Try.f8 = true := by kernel_rfl
theorem k9 : fnOK Try.f9 = true := by kernel_rfl
theorem k10 : fnOK Try.f10 = true := by kernel_rfl
theorem k11 : fnOK Try.f11 = true := by kernel_rfl
theorem k12 : fnOK Try.f12 = true := by kernel_rfl
theorem k13 : fnOK Try.f13 = true := by kernel_rfl
theorem k14 : fnOK Try.f14 = true := by kernel_rfl
theorem k15 : fnOK Try.f15 = true := by kernel_rfl
theorem k16 : fnOK Try.f16 = true := by kernel_rfl
theorem k17 : fnOK Try.f17 = true := by kernel_rfl
theorem k18 : fnOK Try.f18 = true := by kernel_rfl
theorem k19 : fnOK Try.f19 = true := by kernel_rfl
theorem k20 : fnOK Try.f20 = true := by kernel_rfl
theorem k21 : fnOK Try.f21 = true := by kernel_rfl
theorem k22 : fnOK Try.f22 = true := by kernel_rfl
theorem k23 : fnOK Try.f23 = true := by kernel_rfl
theorem k24 : fnOK Try.f24 = true := by kernel_rfl
theorem k25 : fnOK Try.f25 = true := by kernel_rfl
theorem k26 : fnOK Try.f26 = true := by kernel_rfl
theorem k27 : fnOK Try.f27 = true := by kernel_rfl
theorem k28 : fnOK Try.f28 = true := by kernel_rfl
theorem k29 : fnOK Try.f29 = true := by kernel_rfl
theorem k30 : fnOK Try.f30 = true := by kernel_rfl
theorem k31 : fnOK Try.f31 = true := by kernel_rfl
theorem k32 : fnOK Try.f32 = true := by kernel_rfl
theorem k33 : fnOK Try.f33 = true := by kernel_rfl
theorem k34 : fnOK Try.f34 = true := by kernel_rfl
theorem k35 : fnOK Try.f35 = true := by kernel_rfl
theorem k36 : fnOK Try.f36 = true := by kernel_rfl
theorem k37 : fnOK Try.f37 = true := by kernel_rfl
theorem k38 : fnOK Try.f38 = true := by kernel_rfl
theorem k39 : fnOK Try.f39 = true := by kernel_rfl
theorem k40 : fnOK Try.f40 = true := by kernel_rfl
theorem k41 : fnOK Try.f41 = true := by kernel_rfl
theorem k42 : fnOK Try.f42 = true := by kernel_rfl
theorem k43 : fnOK Try.f43 = true := by kernel_rfl
theorem k44 : fnOK Try.f44 = true := by kernel_rfl
theorem k45 : fnOK Try.f45 = true := by kernel_rfl
theorem k46 : fnOK Try.f46 = true := by kernel_rfl
theorem k47 : fnOK Try.f47 = true := by kernel_rfl
theorem k48 : fnOK Try.f48 = true := by kernel_rfl
theorem k49 : fnOK Try.f49 = true := by kernel_rfl
theorem k50 : fnOK Try.f50 = true := by kernel_rfl
theorem k51 : fnOK Try.f51 = true := by kernel_rfl
set_option maxHeartbeats 2000000 in
set_option maxRecDepth 100000 in
theorem clone19 (i0 : TypeInfo) (z : Value) (size bytes : Nat) (hi : Try.prog.info? 3 = some i0) (hz0 : i0.zero = some z) (hz1 : i0.size = size) (hz2 : i0.bytes = bytes) (hzs : z.cells.size = size) (hsz : 0 < size)
    (zE : ∀ w, (Go.sizeOf 3).run Try.prog w = .ok size w) (x : Addr) (n c : Nat) (news : List Value) (w : World) (hl : news.length = n * size) (hn : n ≤ maxLen) (hbig : n * bytes ≤ 140737488355328)
    (hc : ∀ (j : Nat) u, news[j]? = some u → w.cell? (x.add j) = some u) (h1 : ∀ u ∈ news, u.oneCell' = true) :
    Calls Try.prog 19 #[.slice (some x) n c] w fun e w' => ∃ v', e = .returned v' ∧ w'.ownsRow w.heap.size 3 size v' n news ∧ Below w.heap.size w w' := by
  have tT := Try.underlying42
  have q22 : ∀ (w : World) (a : Option Addr) (n c n' c' : Nat), (binOp .eql 42 (.slice a n c) (.slice none n' c')).run Try.prog w = .ok (.bool a.isNone) w := fun w a n c n' c' => Lib.run_eql_slice_nil w _ _ a n c n' c' tT
  have u22 : ∀ w, Sem.run Try.prog (underlying 42) w = .ok (TypeDesc.slice 3) w := run_underlying tT
  have A : Aside (∀ (j : Nat) u, news[j]? = some u → w.cell? (x.add j) = some u) := hc
  clear hc
  go_enter Try.func19, Try.ntmps19
  go_wp2_with (at_builtin; refine wpList_append_own _ rfl _ _ 42 rfl w.heap.size 3 i0 z size bytes tT hi hz0 hz1 hz2 hzs hsz _ _ _ rfl (World.ownsRow_made w #[] 0 (Nat.le_refl _) (Nat.zero_le _) (by simp)) x n c news rfl ?qc1 ?qc2 ?qc3 ?qc4 ?qc5 ?qc6 ?_)
  case qc1 => exact hl
  case qc2 =>
    intro j u hj
    exact Lib.cell?_alloc_some _ (A.out j u hj)
  case qc3 => exact h1
  case qc4 => rw [Nat.zero_add]; exact hn
  case qc5 => rw [Nat.zero_add]; exact hbig
  case qc6 => simp
  intro v' w1 hown hgrow hnil
  go_wp2
  go_ret
  refine ⟨v', rfl, by simpa using hown, ?_⟩
  · exact ((Below.refl _ w).alloc (Nat.le_refl _) _).grown hgrow (by simp) (by intro k hk; simp [Value.ownBlock] at hk; omega)
theorem clone19r : RunsClone Try.prog 19 3 1 8 := fun x n c news w hl hn hb hc h1 => by
  obtain ⟨i0, z, hi, hz0, hz1, hz2, hzs, zE⟩ := info_of (P := Try.prog) (e := 3) (size := 1) (bytes := 8) (by kernel_rfl)
  exact clone19 i0 z 1 8 hi hz0 hz1 hz2 hzs (by decide) zE x n c news w hl hn hb hc h1
theorem clone19n : RunsCloneNil Try.prog 19 := fun n c w => by
  have tT := Try.underlying42
  have q22 : ∀ (w : World) (a : Option Addr) (n c n' c' : Nat), (binOp .eql 42 (.slice a n c) (.slice none n' c')).run Try.prog w = .ok (.bool a.isNone) w := fun w a n c n' c' => Lib.run_eql_slice_nil w _ _ a n c n' c' tT
  go_enter Try.func19, Try.ntmps19
  go_wp2
  go_ret
  exact ⟨rfl, rfl⟩
set_option maxHeartbeats 2000000 in
set_option maxRecDepth 100000 in
theorem clone28 (i0 : TypeInfo) (z : Value) (size bytes : Nat) (hi : Try.prog.info? 54 = some i0) (hz0 : i0.zero = some z) (hz1 : i0.size = size) (hz2 : i0.bytes = bytes) (hzs : z.cells.size = size) (hsz : 0 < size)
    (zE : ∀ w, (Go.sizeOf 54).run Try.prog w = .ok size w) (x : Addr) (n c : Nat) (news : List Value) (w : World) (hl : news.length = n * size) (hn : n ≤ maxLen) (hbig : n * bytes ≤ 140737488355328)
    (hc : ∀ (j : Nat) u, news[j]? = some u → w.cell? (x.add j) = some u) (h1 : ∀ u ∈ news, u.oneCell' = true) :
    Calls Try.prog 28 #[.slice (some x) n c] w fun e w' => ∃ v', e = .returned v' ∧ w'.ownsRow w.heap.size 54 size v' n news ∧ Below w.heap.size w w' := by
  have tT := Try.underlying22
  have q22 : ∀ (w : World) (a : Option Addr) (n c n' c' : Nat), (binOp .eql 22 (.slice a n c) (.slice none n' c')).run Try.prog w = .ok (.bool a.isNone) w := fun w a n c n' c' => Lib.run_eql_slice_nil w _ _ a n c n' c' tT
  have u22 : ∀ w, Sem.run Try.prog (underlying 22) w = .ok (TypeDesc.slice 54) w := run_underlying tT
  have A : Aside (∀ (j : Nat) u, news[j]? = some u → w.cell? (x.add j) = some u) := hc
  clear hc
  go_enter Try.func28, Try.ntmps28
  go_wp2_with (at_builtin; refine wpList_append_own _ rfl _ _ 22 rfl w.heap.size 54 i0 z size bytes tT hi hz0 hz1 hz2 hzs hsz _ _ _ rfl (World.ownsRow_made w #[] 0 (Nat.le_refl _) (Nat.zero_le _) (by simp)) x n c news rfl ?qc1 ?qc2 ?qc3 ?qc4 ?qc5 ?qc6 ?_)
  case qc1 => exact hl
  case qc2 =>
    intro j u hj
    exact Lib.cell?_alloc_some _ (A.out j u hj)
  case qc3 => exact h1
  case qc4 => rw [Nat.zero_add]; exact hn
  case qc5 => rw [Nat.zero_add]; exact hbig
  case qc6 => simp
  intro v' w1 hown hgrow hnil
  go_wp2
  go_ret
  refine ⟨v', rfl, by simpa using hown, ?_⟩
  · exact ((Below.refl _ w).alloc (Nat.le_refl _) _).grown hgrow (by simp) (by intro k hk; simp [Value.ownBlock] at hk; omega)
theorem clone28r : RunsClone Try.prog 28 54 3 32 := fun x n c news w hl hn hb hc h1 => by
  obtain ⟨i0, z, hi, hz0, hz1, hz2, hzs, zE⟩ := info_of (P := Try.prog) (e := 54) (size := 3) (bytes := 32) (by kernel_rfl)
  exact clone28 i0 z 3 32 hi hz0 hz1 hz2 hzs (by decide) zE x n c news w hl hn hb hc h1
theorem clone28n : RunsCloneNil Try.prog 28 := fun n c w => by
  have tT := Try.underlying22
  have q22 : ∀ (w : World) (a : Option Addr) (n c n' c' : Nat), (binOp .eql 22 (.slice a n c) (.slice none n' c')).run Try.prog w = .ok (.bool a.isNone) w := fun w a n c n' c' => Lib.run_eql_slice_nil w _ _ a n c n' c' tT
  go_enter Try.func28, Try.ntmps28
  go_wp2
  go_ret
  exact ⟨rfl, rfl⟩
theorem clip39 : ClipOk Try.prog 39 := by
  intro w a n c h
  go_enter Try.func39, Try.ntmps39
  go_wp2
  go_ret
  exact ⟨rfl, rfl, rfl, rfl, rfl⟩
theorem clip41 : ClipOk Try.prog 41 := by
  intro w a n c h
  go_enter Try.func41, Try.ntmps41
  go_wp2
  go_ret
  exact ⟨rfl, rfl, rfl, rfl, rfl⟩
set_option maxHeartbeats 2000000 in
set_option maxRecDepth 100000 in
theorem clone45 (i0 : TypeInfo) (z : Value) (size bytes : Nat) (hi : Try.prog.info? 5 = some i0) (hz0 : i0.zero = some z) (hz1 : i0.size = size) (hz2 : i0.bytes = bytes) (hzs : z.cells.size = size) (hsz : 0 < size)
    (zE : ∀ w, (Go.sizeOf 5).run Try.prog w = .ok size w) (x : Addr) (n c : Nat) (news : List Value) (w : World) (hl : news.length = n * size) (hn : n ≤ maxLen) (hbig : n * bytes ≤ 140737488355328)
    (hc : ∀ (j : Nat) u, news[j]? = some u → w.cell? (x.add j) = some u) (h1 : ∀ u ∈ news, u.oneCell' = true) :
    Calls Try.prog 45 #[.slice (some x) n c] w fun e w' => ∃ v', e = .returned v' ∧ w'.ownsRow w.heap.size 5 size v' n news ∧ Below w.heap.size w w' := by
  have tT := Try.underlying29
  have q22 : ∀ (w : World) (a : Option Addr) (n c n' c' : Nat), (binOp .eql 29 (.slice a n c) (.slice none n' c')).run Try.prog w = .ok (.bool a.isNone) w := fun w a n c n' c' => Lib.run_eql_slice_nil w _ _ a n c n' c' tT
  have u22 : ∀ w, Sem.run Try.prog (underlying 29) w = .ok (TypeDesc.slice 5) w := run_underlying tT
  have A : Aside (∀ (j : Nat) u, news[j]? = some u → w.cell? (x.add j) = some u) := hc
  clear hc
  go_enter Try.func45, Try.ntmps45
  go_wp2_with (at_builtin; refine wpList_append_own _ rfl _ _ 29 rfl w.heap.size 5 i0 z size bytes tT hi hz0 hz1 hz2 hzs hsz _ _ _ rfl (World.ownsRow_made w #[] 0 (Nat.le_refl _) (Nat.zero_le _) (by simp)) x n c news rfl ?qc1 ?qc2 ?qc3 ?qc4 ?qc5 ?qc6 ?_)
  case qc1 => exact hl
  case qc2 =>
    intro j u hj
    exact Lib.cell?_alloc_some _ (A.out j u hj)
  case qc3 => exact h1
  case qc4 => rw [Nat.zero_add]; exact hn
  case qc5 => rw [Nat.zero_add]; exact hbig
  case qc6 => simp
  intro v' w1 hown hgrow hnil
  go_wp2
  go_ret
  refine ⟨v', rfl, by simpa using hown, ?_⟩
  · exact ((Below.refl _ w).alloc (Nat.le_refl _) _).grown hgrow (by simp) (by intro k hk; simp [Value.ownBlock] at hk; omega)
theorem clone45r : RunsClone Try.prog 45 5 1 1 := fun x n c news w hl hn hb hc h1 => by
  obtain ⟨i0, z, hi, hz0, hz1, hz2, hzs, zE⟩ := info_of (P := Try.prog) (e := 5) (size := 1) (bytes := 1) (by kernel_rfl)
  exact clone45 i0 z 1 1 hi hz0 hz1 hz2 hzs (by decide) zE x n c news w hl hn hb hc h1
theorem clone45n : RunsCloneNil Try.prog 45 := fun n c w => by
  have tT := Try.underlying29
  have q22 : ∀ (w : World) (a : Option Addr) (n c n' c' : Nat), (binOp .eql 29 (.slice a n c) (.slice none n' c')).run Try.prog w = .ok (.bool a.isNone) w := fun w a n c n' c' => Lib.run_eql_slice_nil w _ _ a n c n' c' tT
  go_enter Try.func45, Try.ntmps45
  go_wp2
  go_ret
  exact ⟨rfl, rfl⟩
set_option maxHeartbeats 1000000 in
set_option maxRecDepth 100000 in
theorem cmp49 : RunsCompare Try.prog 49 := fun a b n c m d x y w hx hy => by
  go_enter Try.func49, Try.ntmps49
  go_wp2
  rw [run_callFunc_extern Try.func52 (by kernel_rfl) (by kernel_rfl) (by kernel_rfl) (e := Extern.BytealgCompare.compare) (by kernel_rfl), run_compareSl hx hy]
  simp only [Result.andThen]
  rw [Oper.upon_value]
  go_wp2
  go_ret
  exact ⟨rfl, rfl⟩
theorem ok : EnvOK E := by
  refine ⟨Checked.mixed Try.checked, fun f fn h => ?_, fun f g h => ?_, fun f h => ?_, fun f mv g h => ?_, fun f mv c g h => ?_, fun f j g h => ?_⟩
  · have h : fns f = some fn := h
    unfold fns at h
    split at h
    · injection h with h; subst h; exact fn_of Try.func3 k3
    · injection h with h; subst h; exact fn_of Try.func4 k4
    · injection h with h; subst h; exact fn_of Try.func5 k5
    · injection h with h; subst h; exact fn_of Try.func6 k6
    · injection h with h; subst h; exact fn_of Try.func7 k7
    · injection h with h; subst h; exact fn_of Try.func8 k8
    · injection h with h; subst h; exact fn_of Try.func9 k9
    · injection h with h; subst h; exact fn_of Try.func10 k10
    · injection h with h; subst h; exact fn_of Try.func11 k11
    · injection h with h; subst h; exact fn_of Try.func12 k12
    · injection h with h; subst h; exact fn_of Try.func13 k13
    · injection h with h; subst h; exact fn_of Try.func14 k14
    · injection h with h; subst h; exact fn_of Try.func15 k15
    · injection h with h; subst h; exact fn_of Try.func16 k16
    · injection h with h; subst h; exact fn_of Try.func17 k17
    · injection h with h; subst h; exact fn_of Try.func18 k18
    · injection h with h; subst h; exact fn_of Try.func19 k19
    · injection h with h; subst h; exact fn_of Try.func20 k20
    · injection h with h; subst h; exact fn_of Try.func21 k21
    · injection h with h; subst h; exact fn_of Try.func22 k22
    · injection h with h; subst h; exact fn_of Try.func23 k23
    · injection h with h; subst h; exact fn_of Try.func24 k24
    · injection h with h; subst h; exact fn_of Try.func25 k25
    · injection h with h; subst h; exact fn_of Try.func26 k26
    · injection h with h; subst h; exact fn_of Try.func27 k27
    · injection h with h; subst h; exact fn_of Try.func28 k28
    · injection h with h; subst h; exact fn_of Try.func29 k29
    · injection h with h; subst h; exact fn_of Try.func30 k30
    · injection h with h; subst h; exact fn_of Try.func31 k31
    · injection h with h; subst h; exact fn_of Try.func32 k32
    · injection h with h; subst h; exact fn_of Try.func33 k33
    · injection h with h; subst h; exact fn_of Try.func34 k34
    · injection h with h; subst h; exact fn_of Try.func35 k35
    · injection h with h; subst h; exact fn_of Try.func36 k36
    · injection h with h; subst h; exact fn_of Try.func37 k37
    · injection h with h; subst h; exact fn_of Try.func38 k38
    · injection h with h; subst h; exact fn_of Try.func39 k39
    · injection h with h; subst h; exact fn_of Try.func40 k40
    · injection h with h; subst h; exact fn_of Try.func41 k41
    · injection h with h; subst h; exact fn_of Try.func42 k42
    · injection h with h; subst h; exact fn_of Try.func43 k43
    · injection h with h; subst h; exact fn_of Try.func44 k44
    · injection h with h; subst h; exact fn_of Try.func45 k45
    · injection h with h; subst h; exact fn_of Try.func46 k46
    · injection h with h; subst h; exact fn_of Try.func47 k47
    · injection h with h; subst h; exact fn_of Try.func48 k48
    · injection h with h; subst h; exact fn_of Try.func49 k49
    · injection h with h; subst h; exact fn_of Try.func50 k50
    · injection h with h; subst h; exact fn_of Try.func51 k51
    · cases h
  · have h : ext f = some (.fn g) := h
    unfold ext at h
    split at h
    · injection h with h; cases h
    · injection h with h; injection h with h; subst h; exact fun args res hr => ⟨entered_of Try.func19 k19, clone_contract (by decide) clone19r clone19n args res hr⟩
    · injection h with h; injection h with h; subst h; exact fun args res hr => ⟨entered_of Try.func28 k28, clone_contract (by decide) clone28r clone28n args res hr⟩
    · injection h with h; cases h
    · injection h with h; cases h
    · injection h with h; injection h with h; subst h; exact fun args res hr => ⟨entered_of Try.func45 k45, clone_contract (by decide) clone45r clone45n args res hr⟩
    · injection h with h; injection h with h; subst h; exact fun args res hr => ⟨entered_of Try.func49 k49, compare_contract cmp49 args res hr⟩
    · cases h
  · have h : ext f = some .clip := h
    unfold ext at h
    split at h
    · injection h with h; cases h
    · injection h with h; cases h
    · injection h with h; cases h
    · exact ⟨entered_of Try.func39 k39, clip39⟩
    · exact ⟨entered_of Try.func41 k41, clip41⟩
    · injection h with h; cases h
    · injection h with h; cases h
    · cases h
  · have h : ext f = some (.rw mv g) := h
    unfold ext at h
    split at h
    · injection h with h; cases h
    · injection h with h; cases h
    · injection h with h; cases h
    · injection h with h; cases h
    · injection h with h; cases h
    · injection h with h; cases h
    · injection h with h; cases h
    · cases h
  · have h : ext f = some (.rwx mv c g) := h
    unfold ext at h
    split at h
    · injection h with h; cases h
    · injection h with h; cases h
    · injection h with h; cases h
    · injection h with h; cases h
    · injection h with h; cases h
    · injection h with h; cases h
    · injection h with h; cases h
    · cases h
  · have h : ext f = some (.bx j g) := h
    unfold ext at h
    split at h
    · injection h with h; injection h with h1 h2; subst h1; subst h2; exact ⟨entered_of Try.func18 k18, set_bx⟩
    · injection h with h; cases h
    · injection h with h; cases h
    · injection h with h; cases h
    · injection h with h; cases h
    · injection h with h; cases h
    · injection h with h; cases h
    · cases h
#print axioms ok
end Go.Proofs.Ytfgbklmmildakaa.D
