/- slices.CompactFunc at [][]byte: its loops. -/
import Derived.Test.YtmaehmacngldbaaChecked
import Derived.Test.YtmaehmacngldbaaDenB2
import Derived.Shelf.SlicesE.Compact
import Derived.Shelf.RegionOpenPlain
import Derived.WalkKit
import Derived.Deep.LoopGhost
import Derived.Deep.Draws
import Derived.Lib.Walk
import Derived.Sort.WalkB12
import Derived.Lib.SliceRun
namespace Go.Proofs.Ytmaehmacngldbaa.D
open Go Go.Proofs Go.Den Go.Shelf Go.RowKit Go.Lib Go.Sort
set_option linter.unusedSimpArgs false
set_option linter.unusedVariables false
set_option maxRecDepth 1000000 in
set_option maxHeartbeats 4000000 in
theorem compactB_run (c : FuncId) (ec : ∀ args w, (callFunc c args).run Try.prog w = .ok (.enter c args) w) : RunsCompactF Try.prog 64 c := by
  intro α _ enc hO q zr hzr blk off cap d w hH hsz hcap heq
  have mixed := Checked.mixed Try.checked
  have t25 := Try.underlying25
  have t28 := Try.underlying28
  have hcl0 := hO.cells
  simp only [Value.cells] at hcl0
  have hst := hO.store Try.prog
  have same : ∀ n, AllK q d d.size → ∃ (dk : Array α) (n' : Nat), dk.size = d.size ∧ w.drewN n = putRow enc (Sort.ahead w n') blk off dk ∧ dk.toList.take (keptQ q none d.toList).length = keptQ q none d.toList ∧ (keptQ q none d.toList).length = d.size := by
    intro n hall
    have e : keptQ q none d.toList = d.toList := by
      have := hall
      unfold AllK at this
      rwa [show d.toList.take d.size = d.toList from List.take_of_length_le (by simp)] at this
    rw [e]
    exact ⟨d, n, rfl, (putRow_self enc (Sort.ahead w n) blk off d (holds_ahead enc w n blk off d hH)).symm, List.take_of_length_le (Nat.le_refl _), by simp⟩
  have HS : Aside (∀ n, AllK q d d.size → ∃ (dk : Array α) (n' : Nat), dk.size = d.size ∧ w.drewN n = putRow enc (Sort.ahead w n') blk off dk ∧ dk.toList.take (keptQ q none d.toList).length = keptQ q none d.toList ∧ (keptQ q none d.toList).length = d.size) := same
  clear same
  have EQ : Aside (∀ (n : Nat) (dk : Array α) (x y : α), Calls Try.prog c #[enc x, enc y] (putRow enc (Sort.ahead w n) blk off dk) fun e w' => e = .returned (.bool (q x y)) ∧ w' = putRow enc (Sort.ahead w n) blk off dk) := heq
  clear heq
  by_cases h2 : d.size < 2
  · have HH : Aside (Holds enc w blk off d) := hH
    clear hH
    go_enter Try.func64, Try.ntmps64
    go_wp2
    go_ret
    have hk : AllK q d d.size := by
      rcases Nat.lt_or_ge d.size 1 with h | h
      · rw [show d.size = 0 by omega]; exact AllK.zero q d
      · rw [show d.size = 1 by omega]; exact AllK.one q d
    obtain ⟨dk, n', e1, e2, e3, e4⟩ := HS.out 0 hk
    exact ⟨dk, n', e1, e2, e3, by rw [e4]; rfl⟩
  · have P0 : Aside (w = putRow enc (Sort.ahead w 0) blk off d) := (putRow_self enc (Sort.ahead w 0) blk off d (holds_ahead enc w 0 blk off d hH)).symm
    have hHp : ∀ (n : Nat) (dk : Array α), dk.size = d.size → Holds enc (putRow enc (Sort.ahead w n) blk off dk) blk off dk := fun n dk hs => holds_putRow enc _ blk off d dk (holds_ahead enc w n blk off d hH) hs
    have HP : Aside (∀ (n : Nat) (dk : Array α), dk.size = d.size → Holds enc (putRow enc (Sort.ahead w n) blk off dk) blk off dk) := hHp
    have SELF : Aside (∀ n, w.drewN n = putRow enc (Sort.ahead w n) blk off d) := fun n => (putRow_self enc (Sort.ahead w n) blk off d (holds_ahead enc w n blk off d hH)).symm
    clear hHp hH
    go_enter Try.func64, Try.ntmps64
    go_wp2
    go_loopg [5] d.size (fun g s3 wr => ∃ k n : Nat, 1 ≤ k ∧ k ≤ d.size ∧ d.size - k ≤ g ∧ s3 = .int .i64 k ∧ Aside (wr = putRow enc (Sort.ahead w n) blk off d) ∧ Aside (AllK q d k))
    case atStart => exact ⟨1, 0, Nat.le_refl _, by omega, by omega, rfl, P0, AllK.one q d⟩
    case round =>
      obtain ⟨k, n, hk1, hk, hg, rfl, W1, A⟩ := hrel
      by_cases hlt : k < d.size
      · have hH := HP.out n d rfl
        rw [← W1.out] at hH
        obtain ⟨j, rfl⟩ : ∃ j, k = j + 1 := ⟨k - 1, by omega⟩
        obtain ⟨c1, f1⟩ := hH (j + 1) hlt
        obtain ⟨c0, f0⟩ := hH j (by omega)
        clear hH
        generalize hx : d[j + 1]! = x at c1
        generalize hy : d[j]! = y at c0
        have B : Aside (d[j + 1]! = x ∧ d[j]! = y) := ⟨hx, hy⟩
        clear hx hy
        have hE : ∀ m, Calls Try.prog c #[enc x, enc y] (wr.drewN m) fun e w' => e = .returned (.bool (q x y)) ∧ w' = wr.drewN m := fun m => by
          rw [W1.out, putRow_drewN]
          exact EQ.out _ d x y
        have r1 : IntKind.i64.wrap ((j : Int) + 1) = (j : Int) + 1 := by rw [IntKind.wrap_i64]; omega
        have r2 : IntKind.i64.wrap (j : Int) = (j : Int) := by rw [IntKind.wrap_i64]; omega
        have i1 : ((j : Int) + 1).toNat = j + 1 := by omega
        have i2 : (j : Int).toNat = j := by omega
        have b1 : (0 : Int) ≤ (j : Int) + 1 := by omega
        have b2 : (0 : Int) ≤ (j : Int) := by omega
        have b3 : (j : Int) + 1 < (d.size : Int) := by omega
        have b4 : (j : Int) < (d.size : Int) := by omega
        cases hq : q x y with
        | true =>
          rw [hq] at hE
          go_wp2_with fail
          go_quiet (first | (go_at_fn c; refine Calls.quiet_of_same (hE _)))
          go_wp2
          clear c0 c1 f0 f1 hE r1 r2 i1 i2 b1 b2 b3 b4
          go_loopg [5, 7] d.size (fun g s3 s5 wr => ∃ (kk j2 n2 : Nat) (dk : Array α), s3 = .int .i64 kk ∧ s5 = .int .i64 (j2 + 1 : Nat) ∧ j + 1 + (j2 + 1) ≤ d.size ∧ d.size - (j + 1 + (j2 + 1)) ≤ g ∧ Aside (wr = putRow enc (Sort.ahead w n2) blk off dk) ∧ Aside (CompI q d (j + 1 + (j2 + 1)) kk dk))
          case atStart => exact ⟨j + 1, 0, _, d, by go_num, rfl, by omega, by omega, (by show _ = _; rw [W1.out, putRow_drewN]), CompI.start A.out (by omega) hlt (by rw [B.out.1, show j + 1 - 1 = j from rfl, B.out.2]; exact hq)⟩
          case round =>
            obtain ⟨kk, j2, n2, dk, rfl, rfl, hle, hg2, W2, I2⟩ := hrel
            have hkk := I2.out.lt
            have hds := I2.out.size
            have hHk := HP.out n2 dk hds
            rw [← W2.out] at hHk
            by_cases hlt2 : j + 1 + (j2 + 1) < d.size
            · obtain ⟨cm, _⟩ := hHk (j + 1 + (j2 + 1)) (by omega)
              obtain ⟨cp, _⟩ := hHk (j + 1 + j2) (by omega)
              obtain ⟨ck, fk⟩ := hHk kk (by omega)
              rw [I2.out.high (j + 1 + (j2 + 1)) (by omega), show off + (j + 1 + (j2 + 1)) = off + (j + 1) + (j2 + 1) by omega] at cm
              rw [I2.out.high (j + 1 + j2) (by omega), show off + (j + 1 + j2) = off + (j + 1) + j2 by omega] at cp
              clear hHk
              generalize hu : d[j + 1 + (j2 + 1)]! = u at cm
              generalize hv : d[j + 1 + j2]! = v at cp
              generalize dk[kk]! = old at ck
              have C : Aside (d[j + 1 + (j2 + 1)]! = u ∧ d[j + 1 + j2]! = v) := ⟨hu, hv⟩
              clear hu hv
              have hE : ∀ m, Calls Try.prog c #[enc u, enc v] (wr.drewN m) fun e w' => e = .returned (.bool (q u v)) ∧ w' = wr.drewN m := fun m => by
                rw [W2.out, putRow_drewN]
                exact EQ.out _ dk u v
              have r1 : IntKind.i64.wrap ((j2 : Int) + 1) = (j2 : Int) + 1 := by rw [IntKind.wrap_i64]; omega
              have r2 : IntKind.i64.wrap (j2 : Int) = (j2 : Int) := by rw [IntKind.wrap_i64]; omega
              have i1 : ((j2 : Int) + 1).toNat = j2 + 1 := by omega
              have i2 : (j2 : Int).toNat = j2 := by omega
              have b1 : (0 : Int) ≤ (j2 : Int) + 1 := by omega
              have b2 : (0 : Int) ≤ (j2 : Int) := by omega
              have b3 : (j2 : Int) + 1 < ((d.size - (j + 1) : Nat) : Int) := by omega
              have b4 : (j2 : Int) < ((d.size - (j + 1) : Nat) : Int) := by omega
              cases hq2 : q u v with
              | true =>
                rw [hq2] at hE
                go_wp2_with fail
                go_quiet (first | (go_at_fn c; refine Calls.quiet_of_same (hE _)))
                go_wp2
                go_roundg (d.size - (j + 1 + (j2 + 1 + 1)))
                case measure => omega
                case rel => exact ⟨kk, j2 + 1, _, dk, rfl, congrArg (Value.int .i64) (by omega), by omega, Nat.le_refl _, (by show _ = _; rw [W2.out, putRow_drewN]), I2.out.skip (by omega) hlt2 (by rw [C.out.1, show j + 1 + (j2 + 1) - 1 = j + 1 + j2 by omega, C.out.2]; exact hq2)⟩
              | false =>
                rw [hq2] at hE
                go_wp2_with fail
                go_quiet (first | (go_at_fn c; refine Calls.quiet_of_same (hE _)))
                go_wp2
                go_roundg (d.size - (j + 1 + (j2 + 1 + 1)))
                case measure => omega
                case rel =>
                  have := I2.out.keep (by omega) hlt2 (by rw [C.out.1, show j + 1 + (j2 + 1) - 1 = j + 1 + j2 by omega, C.out.2]; exact hq2)
                  rw [C.out.1] at this
                  refine ⟨kk + 1, j2 + 1, n2 + nq, dk.setIfInBounds kk u, congrArg (Value.int .i64) (by omega), congrArg (Value.int .i64) (by omega), by omega, Nat.le_refl _, ?_, this⟩
                  show _ = _
                  rw [W2.out, putRow_drewN, putRow_set enc _ blk off dk kk u (by omega)]
            · have hend : j + 1 + (j2 + 1) = d.size := by omega
              have v28 : ∀ w, (zeroValue 28).run Try.prog w = .ok (enc zr) w := fun w => by rw [hzr]; kernel_rfl
              have hcl : ∀ ty, (Builtin.clear_ #[25] ty #[.slice (some ⟨blk, off + kk, none⟩) (d.size - kk) (cap - kk)]).run Try.prog wr = .ok (.tuple #[]) (wr.setCells blk (off + kk) (List.replicate (d.size - kk) (enc zr))) :=
                fun ty => Lib.run_clear_slice wr _ _ ty _ t25 v28 (hO.cells zr) (hO zr) blk (off + kk) _ _ (by omega) (fun i hi => by rw [show off + kk + i = off + (kk + i) by omega, (hHk (kk + i) (by omega)).1]; rfl) (fun i hi => by rw [show off + kk + i = off + (kk + i) by omega]; exact (hHk (kk + i) (by omega)).2)
              clear hHk
              go_wp2
              go_ret
              have hI := I2.out
              rw [hend] at hI
              have hl := hI.len
              rw [show d.toList.take d.size = d.toList from List.take_of_length_le (by simp)] at hl
              have hlow := hI.low
              rw [show d.toList.take d.size = d.toList from List.take_of_length_le (by simp)] at hlow
              refine ⟨lay dk kk (List.replicate (d.size - kk) zr), n2, by rw [lay_size, hds], ?_, ?_, ?_⟩
              · rw [← putRow_setCells enc _ blk off _ dk kk (by simp; omega), ← W2.out, List.map_replicate, hzr]
              · rw [hl, lay_low _ _ _ (by simp; omega), hlow]
              · rw [hl]; rfl
        | false =>
          rw [hq] at hE
          go_wp2_with fail
          go_quiet (first | (go_at_fn c; refine Calls.quiet_of_same (hE _)))
          go_wp2
          go_roundg (d.size - (j + 1 + 1))
          case measure => omega
          case rel =>
            exact ⟨j + 1 + 1, _, by omega, by omega, Nat.le_refl _, congrArg (Value.int .i64) (by omega), (by show _ = _; rw [W1.out, putRow_drewN]), A.out.succ (by omega) hlt (by rw [B.out.1, show j + 1 - 1 = j from rfl, B.out.2]; exact hq)⟩
      · have : k = d.size := by omega
        subst this
        go_wp2
        go_ret
        obtain ⟨dk, n', e1, e2, e3, e4⟩ := HS.out n A.out
        refine ⟨dk, n', e1, ?_, e3, by rw [e4]; rfl⟩
        rw [W1.out, ← e2, SELF.out n]
end Go.Proofs.Ytmaehmacngldbaa.D
