import Derived.Test.YtojaklgmojmjeaaDenC
import Derived.Test.YtojaklgmojmjeaaChecked
import Derived.WalkKit
import Derived.Deep.LoopGhost
import Derived.Deep.OwnRows
import Derived.Lib.Walk
import Derived.Lib.SliceRun
import Derived.Lib.LazyBuf
import Derived.Shelf.Bits.Mul64
import Derived.Shelf.Spec.SlicesInsert
namespace Go.Proofs.Ytojaklgmojmjeaa.D
open Go Go.Den Go.Proofs Go.RowKit Go.Lib
def rhoMul : Shelf.Ren := ⟨fun | 212 => 55 | 263 => 73 | 264 => 74 | x => x, fun | 46 => 32 | 51 => 93 | 146 => 94 | 53 => 59 | 148 => 96 | x => x, fun x => x⟩
theorem laysMul : Lays.n212 Try.prog rhoMul := { mixed := by kernel_rfl, f212 := by kernel_rfl, f263 := by kernel_rfl, f264 := by kernel_rfl, t46 := by kernel_rfl, a46 := fun w => by kernel_rfl, z46 := fun w => by kernel_rfl, v46 := fun w => by kernel_rfl, t51 := by kernel_rfl, a51 := fun w => by kernel_rfl, z51 := fun w => by kernel_rfl, v51 := fun w => by kernel_rfl, t53 := by kernel_rfl, a53 := fun w => by kernel_rfl, z53 := fun w => by kernel_rfl, v53 := fun w => by kernel_rfl, t146 := by kernel_rfl, a146 := fun w => by kernel_rfl, z146 := fun w => by kernel_rfl, v146 := fun w => by kernel_rfl, t148 := by kernel_rfl, a148 := fun w => by kernel_rfl, z148 := fun w => by kernel_rfl, v148 := fun w => by kernel_rfl }
/-- the call's own block holds n values, the first q of them z -/
def Rpt (w wr : World) (e : TypeId) (z : Int) (n q : Nat) : Prop :=
  Below w.heap.size w wr ∧ ∃ f, wr.rowIs w.heap.size e n f ∧ ∀ j, j < q → f j = .int .i64 z
theorem Rpt.drew {w wr : World} {e : TypeId} {z : Int} {n q : Nat} (h : Rpt w wr e z n q) : Rpt w wr.drew e z n q := ⟨h.1.drew, h.2⟩
theorem Rpt.copy {w wr : World} {e : TypeId} {z : Int} {n q k : Nat} (h : Rpt w wr e z n q) : Rpt w (wr.setCells w.heap.size q (List.replicate k (.int .i64 z))) e z n (q + k) := by
  obtain ⟨hb, f, hf, hq⟩ := h
  refine ⟨below_setCells (Nat.le_refl _) _ _ _ hb, _, rowIs_setCells _ _ _ _ hf, fun j hj => ?_⟩
  simp only [List.length_replicate]
  split
  · rename_i hc
    rw [List.getElem?_replicate, if_pos (by omega)]
    rfl
  · exact hq j (by omega)
theorem Rpt.run {P : Program} {w wr : World} {e : TypeId} {z : Int} {n q k : Nat} (h : Rpt w wr e z n q) (dT sT ty : TypeId) (hu : P.underlying dT = some (.slice e)) (hs : (P.info? e).map (·.size) = some 1)
    (a : Addr) (dLen dCap sLen sCap : Nat) (hk : Nat.min sLen dLen = k) (hd : q + k ≤ n) (hsrc : ∀ j, j < k → wr.cell? (a.add j) = some (.int .i64 z)) :
    (Builtin.copy_ #[dT, sT] ty #[.slice (some ⟨w.heap.size, q, none⟩) dLen dCap, .slice (some a) sLen sCap]).run P wr = .ok (.int .i64 k) (wr.setCells w.heap.size q (List.replicate k (.int .i64 z))) := by
  obtain ⟨hb, f, hf, hq⟩ := h
  have := run_copy_cells (P := P) wr dT sT ty e w.heap.size q dLen dCap a sLen sCap (List.replicate k (.int .i64 z)) hu hs (by simp [hk]) (fun j v hv => by
      obtain ⟨h1, h2⟩ := List.getElem?_eq_some_iff.1 hv
      rw [List.getElem_replicate] at h2
      subst h2
      exact hsrc j (by simpa using h1)) (fun j hj => by
      rw [hf.cell (by simp at hj; omega)]; rfl) (fun j hj => hf.frozen _) (fun v hv => by
      obtain ⟨_, rfl⟩ := List.mem_replicate.1 hv; rfl)
  simpa [goInt] using this
set_option linter.unusedSimpArgs false
set_option linter.unusedVariables false
set_option maxRecDepth 100000 in
set_option maxHeartbeats 4000000 in
theorem repeat_run (x : Addr) (c : Nat) (z : Int) (n : Nat) (w : World) (h1 : 1 ≤ n) (hn : n * 8 ≤ 140737488351232) (hx : x.block < w.heap.size) (hc : w.cell? x = some (.int .i64 z)) :
    Calls Try.prog 35 #[.slice (some x) 1 c, .int .i64 n] w fun e w' => ∃ v, e = .returned v ∧ w'.ownsRow w.heap.size 2 1 v n (List.replicate n (.int .i64 z)) ∧ Below w.heap.size w w' := by
  have hmul : ∀ W, Calls Try.prog 55 #[.int .u64 1, .int .u64 n] W fun e w' => e = .returned (.tuple #[.int .u64 0, .int .u64 n]) ∧ w' = W := fun W => by
    have := Any.bits_Mul laysMul 1 n (by omega) (by omega) W
    rw [Nat.one_mul, show n / 18446744073709551616 = 0 by omega, show n % 18446744073709551616 = n by omega] at this
    exact this
  have emul : ∀ args w, (callFunc 55 args).run Try.prog w = .ok (.enter 55 args) w := enters_of Try.func55 (by kernel_rfl) rfl
  have mixed := Checked.mixed Try.checked
  have tT := Try.underlying24
  obtain ⟨i0, z0, hi, hz0, hz1, hz2, hzs, zE⟩ := info_of (P := Try.prog) (e := 2) (size := 1) (bytes := 8) (by kernel_rfl)
  have hsz : (Try.prog.info? 2).map (·.size) = some 1 := by rw [hi]; simp [hz1]
  obtain ⟨Z, hmk, hZ⟩ : ∃ Z : Array Value, (∀ W : World, (Instr.makeSlice 24 (.int .i64 n) (.int .i64 n)).run Try.prog W = .ok (.slice (some ⟨W.heap.size, 0, none⟩) n n) (W.alloc (.cells Z 2))) ∧ Z.size = n := ⟨madeCells z0.cells (n * 1), fun W => by
    have := run_make W 24 2 i0 z0 tT hi hz0 .i64 .i64 n n (by omega) (by omega) (by rw [hz2]; omega) (by omega)
    simpa [hz1] using this, by rw [size_madeCells]; omega⟩
  have R1 : Rpt w (w.alloc (.cells Z 2)) 2 z n 0 := ⟨(Below.refl _ w).alloc (Nat.le_refl _) _, fun j => Z[j]?.getD default, ⟨Z, heap_alloc_new w _, hZ, fun i hi => by simp [show i < Z.size by omega]⟩, fun j hj => absurd hj (Nat.not_lt_zero _)⟩
  have hcp1 : ∀ ty, (Builtin.copy_ #[24, 24] ty #[.slice (some ⟨w.heap.size, 0, none⟩) n n, .slice (some x) 1 c]).run Try.prog (w.alloc (.cells Z 2)) = .ok (.int .i64 1) ((w.alloc (.cells Z 2)).setCells w.heap.size 0 [.int .i64 z]) := fun ty => by
    have := R1.run (P := Try.prog) (k := 1) 24 24 ty tT hsz x n n 1 c (by simp only [Nat.min_def]; split <;> omega) (by omega) (fun j hj => by
      have : j = 0 := by omega
      subst this
      have e : x.add 0 = x := by cases x; simp [Addr.add]
      rw [e, (R1.1).cell hx]
      exact hc)
    simpa using this
  have R2 : Rpt w ((w.alloc (.cells Z 2)).setCells w.heap.size 0 [.int .i64 z]) 2 z n 1 := by simpa using R1.copy (k := 1)
  have R2' : Aside (Rpt w ((w.alloc (.cells Z 2)).setCells w.heap.size 0 [.int .i64 z]) 2 z n 1) := R2
  have HS : Aside ((Try.prog.info? 2).map (·.size) = some 1) := hsz
  have HN : Aside (1 ≤ n ∧ n * 8 ≤ 140737488351232) := ⟨h1, hn⟩
  have w1 : IntKind.u64.wrap (n : Int) = n := by rw [IntKind.wrap_u64]; omega
  have w2 : IntKind.i64.wrap (n : Int) = n := by rw [IntKind.wrap_i64]; omega
  have n0 : ¬ ((n : Int) < 0) := by omega
  have n1 : ¬ ((9223372036854775807 : Int) < n) := by omega
  clear hi hz0 hz1 hz2 hzs zE hsz hc hx hn R1 R2 hZ
  go_enter Try.func35, Try.ntmps35
  go_wp2_with (go_at_fn 55; refine (hmul _).mono ?_; rintro e w' ⟨rfl, hw⟩; rw [hw])
  clear hmul emul hmk hcp1
  go_loopg [8] n (fun g s8 wr => ∃ q : Nat, 1 ≤ q ∧ q ≤ n ∧ n - q ≤ g ∧ s8 = .int .i64 q ∧ Rpt w wr 2 z n q)
  case atStart => exact ⟨1, Nat.le_refl _, h1, by omega, rfl, R2'.out⟩
  case round =>
    obtain ⟨q, hq1, hqn, hg, rfl, hR⟩ := hrel
    by_cases hlt : q < n
    · have hcp : ∀ ty c1 c2, (Builtin.copy_ #[24, 24] ty #[.slice (some ⟨w.heap.size, q, none⟩) (n - q) c1, .slice (some ⟨w.heap.size, 0, none⟩) q c2]).run Try.prog wr.drew = .ok (.int .i64 (Nat.min q (n - q) : Nat)) (wr.drew.setCells w.heap.size q (List.replicate (Nat.min q (n - q)) (.int .i64 z))) := fun ty c1 c2 =>
        hR.drew.run _ _ ty tT HS.out ⟨w.heap.size, 0, none⟩ (n - q) c1 q c2 rfl (Nat.le_trans (Nat.add_le_add_left (Nat.min_le_right q (n - q)) q) (by omega)) (fun j hj => by
          obtain ⟨_, f, hf, hq⟩ := hR.drew
          have hm : j < q := Nat.lt_of_lt_of_le hj (Nat.min_le_left q (n - q))
          rw [Addr.add_lit, Nat.zero_add, hf.cell (by omega), hq j (by omega)])
      have hR' : Aside (Rpt w (wr.drew.setCells w.heap.size q (List.replicate (Nat.min q (n - q)) (.int .i64 z))) 2 z n (q + Nat.min q (n - q))) := hR.drew.copy
      have hm1 : 1 ≤ Nat.min q (n - q) := by simp only [Nat.min_def]; split <;> omega
      have hm2 : Nat.min q (n - q) ≤ n - q := Nat.min_le_right _ _
      clear hR
      generalize Nat.min q (n - q) = k at hcp hR' hm1 hm2
      have hne : ¬ (n = q) := by omega
      go_wp2_with fail
      go_region_law_o (refine step_copy_runI rfl _ _ 24 24 rfl _ _ (by simp [Act.eval, Act.put]) (by simp [Act.eval, Act.put]) (hcp _ _ _) ?_)
      go_wp2
      have hw3 : ((q : Int) + k + 9223372036854775808) % 18446744073709551616 - 9223372036854775808 = ((q + k : Nat) : Int) := by have := HN.out; omega
      simp only [hw3]
      simp [Act.put]
      go_roundg (n - (q + k))
      case measure => omega
      case rel => exact ⟨q + k, by omega, by omega, Nat.le_refl _, rfl, hR'.out⟩
    · have : q = n := by omega
      subst this
      have hR' : Aside (Rpt w wr 2 z q q) := hR
      clear hR
      go_wp2
      go_ret
      obtain ⟨hb, f, ⟨cur, h1, h2, h3⟩, hq⟩ := hR'.out
      refine ⟨_, rfl, ⟨by simp, .inr ⟨w.heap.size, q, cur, rfl, Nat.le_refl _, h1, Nat.le_refl _, by have := HN.out; unfold maxLen; omega, by omega, ?_⟩⟩, hb⟩
      refine List.ext_getElem (by simp; omega) fun i hi1 hi2 => ?_
      have hi : i < q := by simpa using hi2
      have := h3 i hi
      rw [hq i hi, Array.getElem?_eq_getElem (by omega)] at this
      simpa using this
set_option maxRecDepth 100000 in
theorem values_runs : RunsValues Try.prog 68 79 := fun a n c w => by
  go_enter Try.func68, Try.ntmps68
  go_wp2
  go_ret
  refine ⟨rfl, _, rfl⟩
end Go.Proofs.Ytojaklgmojmjeaa.D
