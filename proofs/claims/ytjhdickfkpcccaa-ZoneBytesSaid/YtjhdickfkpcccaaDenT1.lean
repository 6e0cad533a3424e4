/- The seat's tables for the evaluator, by program: what is live at each loop's head; the functions; slices.Clone and slices.Clip, walked. -/
import Derived.Test.YtjhdickfkpcccaaChecked
import Derived.Test.YtjhdickfkpcccaaDenK3
import Derived.WalkKit
import Derived.Deep.LoopGhost
import Derived.Lib.Walk
import Derived.Lib.SliceRun
import Derived.Lib.AppendZerosOnto
import Derived.Shelf.Spec.SlicesGrow
namespace Go.Proofs.Ytjhdickfkpcccaa.D
open Go Go.Den Go.Proofs Go.RowKit Go.Lib
def lv : FuncId → Nat → List NI
  | 3, 7 => [⟨0, []⟩, ⟨3, []⟩, ⟨5, []⟩, ⟨6, []⟩, ⟨7, []⟩, ⟨8, []⟩, ⟨27, []⟩, ⟨28, []⟩, ⟨29, []⟩]
  | 5, 3 => [⟨1, []⟩, ⟨5, [(0, 37, 9)]⟩, ⟨13, []⟩, ⟨14, []⟩, ⟨15, []⟩]
  | 5, 8 => [⟨1, []⟩, ⟨5, []⟩, ⟨6, []⟩, ⟨9, []⟩, ⟨13, []⟩, ⟨14, []⟩, ⟨15, []⟩, ⟨26, []⟩, ⟨27, []⟩, ⟨28, []⟩]
  | 11, 6 => [⟨2, []⟩, ⟨5, [(0, 41, 8)]⟩, ⟨15, []⟩, ⟨16, []⟩, ⟨17, []⟩]
  | 21, 2 => [⟨0, []⟩, ⟨1, []⟩, ⟨7, []⟩, ⟨8, []⟩]
  | 33, 5 => [⟨1, []⟩, ⟨2, []⟩, ⟨6, []⟩, ⟨7, [(0, 39, 1)]⟩, ⟨14, []⟩, ⟨15, []⟩, ⟨16, []⟩]
  | 39, 4 => [⟨1, []⟩, ⟨2, []⟩, ⟨3, [(0, 41, 8)]⟩, ⟨11, []⟩, ⟨12, []⟩, ⟨13, []⟩]
  | 40, 5 => [⟨3, []⟩, ⟨4, []⟩, ⟨5, [(0, 39, 1)]⟩, ⟨33, []⟩, ⟨34, []⟩, ⟨35, []⟩]
  | 40, 8 => [⟨3, []⟩, ⟨4, []⟩, ⟨5, [(0, 39, 1)]⟩, ⟨7, []⟩, ⟨33, []⟩, ⟨34, []⟩, ⟨35, []⟩, ⟨40, []⟩, ⟨41, []⟩, ⟨42, []⟩]
  | 43, 3 => [⟨0, []⟩, ⟨3, []⟩, ⟨9, []⟩, ⟨10, []⟩, ⟨11, []⟩]
  | 43, 11 => [⟨6, [(0, 41, 8)]⟩, ⟨25, []⟩, ⟨26, []⟩, ⟨27, []⟩]
  | 44, 3 => [⟨0, []⟩, ⟨3, []⟩, ⟨9, []⟩, ⟨10, []⟩, ⟨11, []⟩]
  | 44, 11 => [⟨6, [(0, 39, 1)]⟩, ⟨25, []⟩, ⟨26, []⟩, ⟨27, []⟩]
  | _, _ => []
def ext : FuncId → Option Ext
  | 10 => some .clip
  | 23 => some (.fn (cloneF 5 1 1))
  | 27 => some (.fn compareF)
  | 42 => some .clip
  | 45 => some (.fn (growF 41 8 96))
  | 46 => some (.fn (growF 39 1 24))
  | _ => none
noncomputable def fns : FuncId → Option Func
  | 3 => some Try.f3
  | 4 => some Try.f4
  | 5 => some Try.f5
  | 6 => some Try.f6
  | 7 => some Try.f7
  | 8 => some Try.f8
  | 9 => some Try.f9
  | 10 => some Try.f10
  | 11 => some Try.f11
  | 12 => some Try.f12
  | 13 => some Try.f13
  | 14 => some Try.f14
  | 15 => some Try.f15
  | 16 => some Try.f16
  | 17 => some Try.f17
  | 18 => some Try.f18
  | 19 => some Try.f19
  | 20 => some Try.f20
  | 21 => some Try.f21
  | 22 => some Try.f22
  | 23 => some Try.f23
  | 24 => some Try.f24
  | 25 => some Try.f25
  | 26 => some Try.f26
  | 27 => some Try.f27
  | 28 => some Try.f28
  | 29 => some Try.f29
  | 30 => some Try.f30
  | 31 => some Try.f31
  | 32 => some Try.f32
  | 33 => some Try.f33
  | 34 => some Try.f34
  | 35 => some Try.f35
  | 36 => some Try.f36
  | 37 => some Try.f37
  | 39 => some Try.f39
  | 40 => some Try.f40
  | 41 => some Try.f41
  | 42 => some Try.f42
  | 43 => some Try.f43
  | 44 => some Try.f44
  | 45 => some Try.f45
  | 46 => some Try.f46
  | _ => none
noncomputable def E : Env := { P := Try.prog, fns := fns, lv := lv, ext := ext }
theorem k3 : fnOK Try.f3 = true := by kernel_rfl
theorem k4 : fnOK Try.f4 = true := by kernel_rfl
theorem k5 : fnOK Try.f5 = true := by kernel_rfl
theorem k6 : fnOK Try.f6 = true := by kernel_rfl
theorem k7 : fnOK Try.f7 = true := by kernel_rfl
theorem k8 : fnOK Try.f8 = true := by kernel_rfl
theorem k9 : fnOK Try.f9 = true := by kernel_rfl
theorem k10 : fnOK Try.f10 = true := by kernel_rfl
theorem k11 : fnOK Try.f11 = true := by kernel_rfl
theorem k12 : fnOK Try.f12 = true := by kernel_rfl
theorem k13 : fnOK Try.f13 = true := by kernel_rfl
theorem k14 : fnOK Try.f14 = true := by kernel_rfl
theorem k15 : fnOK Try.f15 = true := by kernel_rfl
theorem k16 : fnOK Try.f16 = true := by kernel_rfl
theorem k17 : fnOK Try.f17 = true := by kernel_rfl
theorem k18 : fnOK Try.f18 = true := by kernel_rfl
theorem k19 : fnOK Try.f19 = true := by kernel_rfl
theorem k20 : fnOK Try.f20 = true := by kernel_rfl
theorem k21 : fnOK Try.f21 = true := by kernel_rfl
theorem k22 : fnOK Try.f22 = true := by kernel_rfl
theorem k23 : fnOK Try.f23 = true := by kernel_rfl
theorem k24 : fnOK Try.f24 = true := by kernel_rfl
theorem k25 : fnOK Try.f25 = true := by kernel_rfl
theorem k26 : fnOK Try.f26 = true := by kernel_rfl
theorem k27 : fnOK Try.f27 = true := by kernel_rfl
theorem k28 : fnOK Try.f28 = true := by kernel_rfl
theorem k29 : fnOK Try.f29 = true := by kernel_rfl
theorem k30 : fnOK Try.f30 = true := by kernel_rfl
theorem k31 : fnOK Try.f31 = true := by kernel_rfl
theorem k32 : fnOK Try.f32 = true := by kernel_rfl
theorem k33 : fnOK Try.f33 = true := by kernel_rfl
theorem k34 : fnOK Try.f34 = true := by kernel_rfl
theorem k35 : fnOK Try.f35 = true := by kernel_rfl
theorem k36 : fnOK Try.f36 = true := by kernel_rfl
theorem k37 : fnOK Try.f37 = true := by kernel_rfl
theorem k39 : fnOK Try.f39 = true := by kernel_rfl
theorem k40 : fnOK Try.f40 = true := by kernel_rfl
theorem k41 : fnOK Try.f41 = true := by kernel_rfl
theorem k42 : fnOK Try.f42 = true := by kernel_rfl
theorem k43 : fnOK Try.f43 = true := by kernel_rfl
theorem k44 : fnOK Try.f44 = true := by kernel_rfl
theorem k45 : fnOK Try.f45 = true := by kernel_rfl
theorem k46 : fnOK Try.f46 = true := by kernel_rfl
theorem clip10 : ClipOk Try.prog 10 := by
  intro w a n c h
  go_enter Try.func10, Try.ntmps10
  go_wp2
  go_ret
  exact ⟨rfl, rfl, rfl, rfl, rfl⟩
set_option maxHeartbeats 2000000 in
set_option maxRecDepth 100000 in
theorem clone23 (i0 : TypeInfo) (z : Value) (size bytes : Nat) (hi : Try.prog.info? 5 = some i0) (hz0 : i0.zero = some z) (hz1 : i0.size = size) (hz2 : i0.bytes = bytes) (hzs : z.cells.size = size) (hsz : 0 < size)
    (zE : ∀ w, (Go.sizeOf 5).run Try.prog w = .ok size w) (x : Addr) (n c : Nat) (news : List Value) (w : World) (hl : news.length = n * size) (hn : n ≤ maxLen) (hbig : n * bytes ≤ 140737488355328)
    (hc : ∀ (j : Nat) u, news[j]? = some u → w.cell? (x.add j) = some u) (h1 : ∀ u ∈ news, u.oneCell' = true) :
    Calls Try.prog 23 #[.slice (some x) n c] w fun e w' => ∃ v', e = .returned v' ∧ w'.ownsRow w.heap.size 5 size v' n news ∧ Below w.heap.size w w' := by
  have tT := Try.underlying23
  have q22 : ∀ (w : World) (a : Option Addr) (n c n' c' : Nat), (binOp .eql 23 (.slice a n c) (.slice none n' c')).run Try.prog w = .ok (.bool a.isNone) w := fun w a n c n' c' => Lib.run_eql_slice_nil w _ _ a n c n' c' tT
  have u22 : ∀ w, Sem.run Try.prog (underlying 23) w = .ok (TypeDesc.slice 5) w := run_underlying tT
  have A : Aside (∀ (j : Nat) u, news[j]? = some u → w.cell? (x.add j) = some u) := hc
  clear hc
  go_enter Try.func23, Try.ntmps23
  go_wp2_with (at_builtin; refine wpList_append_own _ rfl _ _ 23 rfl w.heap.size 5 i0 z size bytes tT hi hz0 hz1 hz2 hzs hsz _ _ _ rfl (World.ownsRow_made w #[] 0 (Nat.le_refl _) (Nat.zero_le _) (by simp)) x n c news rfl ?qc1 ?qc2 ?qc3 ?qc4 ?qc5 ?qc6 ?_)
  case qc1 => exact hl
  case qc2 =>
    intro j u hj
    exact Lib.cell?_alloc_some _ (A.out j u hj)
  case qc3 => exact h1
  case qc4 => rw [Nat.zero_add]; exact hn
  case qc5 => rw [Nat.zero_add]; exact hbig
  case qc6 => simp
  intro v' w1 hown hgrow hnil
  go_wp2
  go_ret
  refine ⟨v', rfl, by simpa using hown, ?_⟩
  · exact ((Below.refl _ w).alloc (Nat.le_refl _) _).grown hgrow (by simp) (by intro k hk; simp [Value.ownBlock] at hk; omega)
theorem clone23r : RunsClone Try.prog 23 5 1 1 := fun x n c news w hl hn hb hc h1 => by
  obtain ⟨i0, z, hi, hz0, hz1, hz2, hzs, zE⟩ := info_of (P := Try.prog) (e := 5) (size := 1) (bytes := 1) (by kernel_rfl)
  exact clone23 i0 z 1 1 hi hz0 hz1 hz2 hzs (by decide) zE x n c news w hl hn hb hc h1
theorem clone23n : RunsCloneNil Try.prog 23 := fun n c w => by
  have tT := Try.underlying23
  have q22 : ∀ (w : World) (a : Option Addr) (n c n' c' : Nat), (binOp .eql 23 (.slice a n c) (.slice none n' c')).run Try.prog w = .ok (.bool a.isNone) w := fun w a n c n' c' => Lib.run_eql_slice_nil w _ _ a n c n' c' tT
  go_enter Try.func23, Try.ntmps23
  go_wp2
  go_ret
  exact ⟨rfl, rfl⟩
set_option maxHeartbeats 1000000 in
set_option maxRecDepth 100000 in
theorem cmp27 : RunsCompare Try.prog 27 := fun a b n c m d x y w hx hy => by
  go_enter Try.func27, Try.ntmps27
  go_wp2
  rw [run_callFunc_extern Try.func38 (by kernel_rfl) (by kernel_rfl) (by kernel_rfl) (e := Extern.BytealgCompare.compare) (by kernel_rfl), run_compareSl hx hy]
  simp only [Result.andThen]
  rw [Oper.upon_value]
  go_wp2
  go_ret
  exact ⟨rfl, rfl⟩
theorem clip42 : ClipOk Try.prog 42 := by
  intro w a n c h
  go_enter Try.func42, Try.ntmps42
  go_wp2
  go_ret
  exact ⟨rfl, rfl, rfl, rfl, rfl⟩
def rho45 : Shelf.Ren := ⟨fun | 4 => 45 | x => x, fun | 22 => 39 | 25 => 41 | x => x, fun x => x⟩
theorem lays45 : Lays8.n4 Try.prog rho45 where
  mixed := by kernel_rfl
  f4 := by
    refine ⟨Try.f45.name, by decide, ?_⟩
    kernel_rfl
  t0 := by kernel_rfl
  a0 := fun w => by kernel_rfl
  z0 := fun w => by kernel_rfl
  v0 := fun w => by kernel_rfl
  t3 := by kernel_rfl
  a3 := fun w => by kernel_rfl
  z3 := fun w => by kernel_rfl
  v3 := fun w => by kernel_rfl
  t4 := by kernel_rfl
  a4 := fun w => by kernel_rfl
  z4 := fun w => by kernel_rfl
  v4 := fun w => by kernel_rfl
  t9 := by kernel_rfl
  a9 := fun w => by kernel_rfl
  z9 := fun w => by kernel_rfl
  v9 := fun w => by kernel_rfl
  t20 := by kernel_rfl
  a20 := fun w => by kernel_rfl
  z20 := fun w => by kernel_rfl
  v20 := fun w => by kernel_rfl
  t22 := by kernel_rfl
  a22 := fun w => by kernel_rfl
  z22 := fun w => by kernel_rfl
  v22 := fun w => by kernel_rfl
theorem grow45r : RunsGrow Try.prog 45 41 8 96 := fun n w hb h63 => by
  obtain ⟨i0, z, hi, hz0, hz1, hz2, hzs, zE⟩ := info_of (P := Try.prog) (e := 41) (size := 8) (bytes := 96) (by kernel_rfl)
  by_cases h0 : n = 0
  · subst h0
    refine (Any8.slices_Grow_room lays45 none 0 0 0 w (Nat.le_refl _) (by omega) (by omega) (Nat.le_refl _)).mono fun e1 w' ⟨he, hw⟩ => ⟨_, he, ?_⟩
    subst hw
    exact ⟨⟨by simp, .inl ⟨rfl, rfl⟩⟩, Below.refl _ _⟩
  · refine (Any8.slices_Grow_grow lays45 i0 z hi hz0 (by rw [hz1]; decide) none 0 0 n [] w (Nat.le_refl _) (by omega) (by rw [hz2]; omega) (by omega) (by simp) (fun _ => rfl) (fun a ha => by cases ha)).mono fun e1 w' ⟨he, hw⟩ => ⟨_, he, ?_⟩
    have hG := grownCap_ge w (0 + n) 0 (rho45.t 25)
    have hM := grownCap_le_maxLen w (0 + n) 0 (rho45.t 25) (by unfold maxLen; omega)
    subst hw
    refine ⟨⟨by simp, .inr ⟨w.heap.size, grownCap w (0 + n) 0 41, #[] ++ Builtin.zeroCells z.cells (0 + n - 0) ++ Builtin.zeroCells z.cells (grownCap w (0 + n) 0 41 - (0 + n)), rfl, Nat.le_refl _, ?_, Nat.zero_le _, hM, ?_, ?_⟩⟩, ?_⟩
    · show (w.drew.heap.push _)[w.heap.size]? = _
      exact Array.getElem?_push_size
    · have hG' : 0 + n ≤ grownCap w (0 + n) 0 41 := hG
      rw [Array.size_append, Array.size_append, size_zeroCells, size_zeroCells, hzs]
      simp only [List.size_toArray, List.length_nil]
      omega
    · simp
    · exact ((Below.refl _ w).drew).alloc (Nat.le_refl _) _
def rho46 : Shelf.Ren := ⟨fun | 4 => 46 | x => x, fun | 22 => 53 | 25 => 39 | x => x, fun x => x⟩
theorem lays46 : Lays8.n4 Try.prog rho46 where
  mixed := by kernel_rfl
  f4 := by
    refine ⟨Try.f46.name, by decide, ?_⟩
    kernel_rfl
  t0 := by kernel_rfl
  a0 := fun w => by kernel_rfl
  z0 := fun w => by kernel_rfl
  v0 := fun w => by kernel_rfl
  t3 := by kernel_rfl
  a3 := fun w => by kernel_rfl
  z3 := fun w => by kernel_rfl
  v3 := fun w => by kernel_rfl
  t4 := by kernel_rfl
  a4 := fun w => by kernel_rfl
  z4 := fun w => by kernel_rfl
  v4 := fun w => by kernel_rfl
  t9 := by kernel_rfl
  a9 := fun w => by kernel_rfl
  z9 := fun w => by kernel_rfl
  v9 := fun w => by kernel_rfl
  t20 := by kernel_rfl
  a20 := fun w => by kernel_rfl
  z20 := fun w => by kernel_rfl
  v20 := fun w => by kernel_rfl
  t22 := by kernel_rfl
  a22 := fun w => by kernel_rfl
  z22 := fun w => by kernel_rfl
  v22 := fun w => by kernel_rfl
theorem grow46r : RunsGrow Try.prog 46 39 1 24 := fun n w hb h63 => by
  obtain ⟨i0, z, hi, hz0, hz1, hz2, hzs, zE⟩ := info_of (P := Try.prog) (e := 39) (size := 1) (bytes := 24) (by kernel_rfl)
  by_cases h0 : n = 0
  · subst h0
    refine (Any8.slices_Grow_room lays46 none 0 0 0 w (Nat.le_refl _) (by omega) (by omega) (Nat.le_refl _)).mono fun e1 w' ⟨he, hw⟩ => ⟨_, he, ?_⟩
    subst hw
    exact ⟨⟨by simp, .inl ⟨rfl, rfl⟩⟩, Below.refl _ _⟩
  · refine (Any8.slices_Grow_grow lays46 i0 z hi hz0 (by rw [hz1]; decide) none 0 0 n [] w (Nat.le_refl _) (by omega) (by rw [hz2]; omega) (by omega) (by simp) (fun _ => rfl) (fun a ha => by cases ha)).mono fun e1 w' ⟨he, hw⟩ => ⟨_, he, ?_⟩
    have hG := grownCap_ge w (0 + n) 0 (rho46.t 25)
    have hM := grownCap_le_maxLen w (0 + n) 0 (rho46.t 25) (by unfold maxLen; omega)
    subst hw
    refine ⟨⟨by simp, .inr ⟨w.heap.size, grownCap w (0 + n) 0 39, #[] ++ Builtin.zeroCells z.cells (0 + n - 0) ++ Builtin.zeroCells z.cells (grownCap w (0 + n) 0 39 - (0 + n)), rfl, Nat.le_refl _, ?_, Nat.zero_le _, hM, ?_, ?_⟩⟩, ?_⟩
    · show (w.drew.heap.push _)[w.heap.size]? = _
      exact Array.getElem?_push_size
    · have hG' : 0 + n ≤ grownCap w (0 + n) 0 39 := hG
      rw [Array.size_append, Array.size_append, size_zeroCells, size_zeroCells, hzs]
      simp only [List.size_toArray, List.length_nil]
      omega
    · simp
    · exact ((Below.refl _ w).drew).alloc (Nat.le_refl _) _
theorem ok : EnvOK E := by
  refine ⟨Checked.mixed Try.checked, fun f fn h => ?_, fun f g h => ?_, fun f h => ?_⟩
  · have h : fns f = some fn := h
    unfold fns at h
    split at h
    · injection h with h; subst h; exact fn_of Try.func3 k3
    · injection h with h; subst h; exact fn_of Try.func4 k4
    · injection h with h; subst h; exact fn_of Try.func5 k5
    · injection h with h; subst h; exact fn_of Try.func6 k6
    · injection h with h; subst h; exact fn_of Try.func7 k7
    · injection h with h; subst h; exact fn_of Try.func8 k8
    · injection h with h; subst h; exact fn_of Try.func9 k9
    · injection h with h; subst h; exact fn_of Try.func10 k10
    · injection h with h; subst h; exact fn_of Try.func11 k11
    · injection h with h; subst h; exact fn_of Try.func12 k12
    · injection h with h; subst h; exact fn_of Try.func13 k13
    · injection h with h; subst h; exact fn_of Try.func14 k14
    · injection h with h; subst h; exact fn_of Try.func15 k15
    · injection h with h; subst h; exact fn_of Try.func16 k16
    · injection h with h; subst h; exact fn_of Try.func17 k17
    · injection h with h; subst h; exact fn_of Try.func18 k18
    · injection h with h; subst h; exact fn_of Try.func19 k19
    · injection h with h; subst h; exact fn_of Try.func20 k20
    · injection h with h; subst h; exact fn_of Try.func21 k21
    · injection h with h; subst h; exact fn_of Try.func22 k22
    · injection h with h; subst h; exact fn_of Try.func23 k23
    · injection h with h; subst h; exact fn_of Try.func24 k24
    · injection h with h; subst h; exact fn_of Try.func25 k25
    · injection h with h; subst h; exact fn_of Try.func26 k26
    · injection h with h; subst h; exact fn_of Try.func27 k27
    · injection h with h; subst h; exact fn_of Try.func28 k28
    · injection h with h; subst h; exact fn_of Try.func29 k29
    · injection h with h; subst h; exact fn_of Try.func30 k30
    · injection h with h; subst h; exact fn_of Try.func31 k31
    · injection h with h; subst h; exact fn_of Try.func32 k32
    · injection h with h; subst h; exact fn_of Try.func33 k33
    · injection h with h; subst h; exact fn_of Try.func34 k34
    · injection h with h; subst h; exact fn_of Try.func35 k35
    · injection h with h; subst h; exact fn_of Try.func36 k36
    · injection h with h; subst h; exact fn_of Try.func37 k37
    · injection h with h; subst h; exact fn_of Try.func39 k39
    · injection h with h; subst h; exact fn_of Try.func40 k40
    · injection h with h; subst h; exact fn_of Try.func41 k41
    · injection h with h; subst h; exact fn_of Try.func42 k42
    · injection h with h; subst h; exact fn_of Try.func43 k43
    · injection h with h; subst h; exact fn_of Try.func44 k44
    · injection h with h; subst h; exact fn_of Try.func45 k45
    · injection h with h; subst h; exact fn_of Try.func46 k46
    · cases h
  · have h : ext f = some (.fn g) := h
    unfold ext at h
    split at h
    · injection h with h; cases h
    · injection h with h; injection h with h; subst h; exact fun args res hr => ⟨entered_of Try.func23 k23, clone_contract (by decide) clone23r clone23n args res hr⟩
    · injection h with h; injection h with h; subst h; exact fun args res hr => ⟨entered_of Try.func27 k27, compare_contract cmp27 args res hr⟩
    · injection h with h; cases h
    · injection h with h; injection h with h; subst h; exact fun args res hr => ⟨entered_of Try.func45 k45, grow_contract grow45r args res hr⟩
    · injection h with h; injection h with h; subst h; exact fun args res hr => ⟨entered_of Try.func46 k46, grow_contract grow46r args res hr⟩
    · cases h
  · have h : ext f = some .clip := h
    unfold ext at h
    split at h
    · exact ⟨entered_of Try.func10 k10, clip10⟩
    · injection h with h; cases h
    · injection h with h; cases h
    · exact ⟨entered_of Try.func42 k42, clip42⟩
    · injection h with h; cases h
    · injection h with h; cases h
    · cases h
#print axioms ok
end Go.Proofs.Ytjhdickfkpcccaa.D
