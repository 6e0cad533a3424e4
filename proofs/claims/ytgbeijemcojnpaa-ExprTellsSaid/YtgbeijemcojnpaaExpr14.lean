/- ExprTells: what the law comes to; ops that came in. -/
import Derived.Test.YtgbeijemcojnpaaExpr13ins
import Derived.Test.YtgbeijemcojnpaaExpr13upd
import Derived.Test.YtgbeijemcojnpaaExpr13del
import Derived.Test.YtgbeijemcojnpaaExpr13scan
import Derived.Test.YtgbeijemcojnpaaExpr13agg
import Derived.Test.YtgbeijemcojnpaaExpr13roll
import Derived.Test.YtgbeijemcojnpaaDenO
namespace Go.Proofs.Ytgbeijemcojnpaa.D
open Go Go.Den
set_option linter.unusedSimpArgs false
set_option linter.unusedVariables false
set_option maxRecDepth 20000
set_option maxHeartbeats 8000000
theorem ExprTells_spec {raw : List OpN} {n at' turn : Int} {l : List Int} (hr : ∀ y ∈ raw, OpOk y ∧ OpBy y) : dw E 3 [.sl 14 (raw.map OpN.pv), .int .i64 n, .sl 1 (ints .i64 l), .int .i64 at', .int .i64 turn] [] = some (.bool true, []) := by
  by_cases hl : 20 < raw.length
  · have h15 := awake15
    clear hr
    refine dw_in (fn := Try.f3) rfl body3 (by simp) ?_
    simp -implicitDefEqProofs (maxSteps := 4000000) (disch := omega) only [go_sem, go_sem_proc, dr, Nat.min_def, ↓Nat.reduceBEq, ↓Nat.reduceEqDiff, ↓Nat.reduceLT, ↓Nat.reduceLeDiff, ↓Int.reduceEq, ↓Int.reduceLT, ↓Int.reduceLE, ↓reduceIte, h15]
  · have hl : raw.length ≤ 20 := by omega
    obtain ⟨a, ha⟩ : ∃ a : Nat, at' % 64 = a := Int.eq_ofNat_of_zero_le (by omega)
    obtain ⟨hG, p, hf, hp⟩ := genOp_ok n l a (by omega)
    have hr1 := genOp_right n l a (by omega)
    generalize genOp n l a = o at hG hf hr1
    have hsm := GenF_small hf
    have hx := fun u => turnX_ok (u := u) hr1.2 hsm
    have hstep : ∀ (fb : Bool) (x : OpN), x = turnX turn o → ∀ i : Nat, i ≤ (o :: x :: raw : List OpN).length → _ := fun fb x hxe => tells_step (fb := fb) (n := n) (at' := at') (l := l) (raw := raw) (o := o) (L := o :: x :: raw) hl (by simp; omega) (mem_ops hr1.2 (by rw [hxe]; exact hx turn) hr) hr1.2 hr1.1 hr
    clear hx hsm hr1 hr
    cases hf with
    | ins z => exact tells_ins ha hl hG hstep hp.nil
    | upd c q z ad h1 h2 h3 => exact tells_upd ha hl hG hstep hp.nil
    | del => exact tells_del ha hl hG hstep hp.nil
    | scan c h1 => exact tells_scan ha hl hG hstep hp.nil
    | agg c g k h1 h2 h3 => exact tells_agg ha hl hG hstep hp.nil
    | roll => exact tells_roll ha hl hG hstep hp.nil
/-! ### ops that came in -/
theorem all_map {α : Type} {f : α → List PV} {Q : α → Prop} {P : List PV → Prop} (h : ∀ x, P x → ∃ y, x = f y ∧ Q y) : ∀ xs : List (List PV), (∀ x ∈ xs, P x) → ∃ L : List α, xs = L.map f ∧ ∀ y ∈ L, Q y
  | [], _ => ⟨[], rfl, fun y hy => by cases hy⟩
  | x :: r, hx => by
    obtain ⟨y, rfl, hy⟩ := h x (hx x List.mem_cons_self)
    obtain ⟨L, rfl, hL⟩ := all_map h r fun z hz => hx z (List.mem_cons_of_mem _ hz)
    refine ⟨y :: L, rfl, fun z hz => ?_⟩
    rcases List.mem_cons.1 hz with rfl | hz
    · exact hy
    · exact hL z hz
theorem max_len : maxLen = 9223372036854775807 := rfl
theorem shp_int {n : Nat} {ps : List PV} (h : Shp Try.prog n 3 ps) : ∃ z, ps = [.int .i64 z] := by
  cases n with
  | zero => cases h
  | succ n =>
    unfold Shp at h
    rw [Try.underlying3] at h
    obtain ⟨z, h, _⟩ := h
    exact ⟨z, h⟩
theorem shp_int64 {n : Nat} {ps : List PV} (h : Shp Try.prog n 2 ps) : ∃ z, ps = [.int .i64 z] := by
  cases n with
  | zero => cases h
  | succ n =>
    unfold Shp at h
    rw [Try.underlying2] at h
    obtain ⟨z, h, _⟩ := h
    exact ⟨z, h⟩
theorem shp_u8 {n : Nat} {ps : List PV} (h : Shp Try.prog n 5 ps) : ∃ z, ps = [.int .u8 z] := by
  cases n with
  | zero => cases h
  | succ n =>
    unfold Shp at h
    rw [Try.underlying5] at h
    obtain ⟨z, h, _⟩ := h
    exact ⟨z, h⟩
theorem shp_bool {n : Nat} {ps : List PV} (h : Shp Try.prog n 4 ps) : ∃ b, ps = [.bool b] := by
  cases n with
  | zero => cases h
  | succ n =>
    unfold Shp at h
    rw [Try.underlying4] at h
    exact h
theorem shp_bytes {n : Nat} {ps : List PV} (h : Shp Try.prog n 30 ps) : ∃ zs : List Int, ps = [bl (some zs)] ∧ zs.length ≤ 9223372036854775807 := by
  cases n with
  | zero => cases h
  | succ n =>
    unfold Shp at h
    rw [Try.underlying30] at h
    obtain ⟨xs, h, hl, hx⟩ := h
    obtain ⟨L, rfl, _⟩ := all_map (f := fun z : Int => [PV.int .u8 z]) (Q := fun _ => True) (fun x hx => by obtain ⟨z, rfl⟩ := shp_u8 hx; exact ⟨z, rfl, trivial⟩) xs hx
    rw [show Try.prog.cellsOf 5 = 1 by kernel_rfl] at h
    refine ⟨L, h, ?_⟩
    rw [max_len, List.length_map] at hl
    exact hl
theorem shp_val {n : Nat} {ps : List PV} (h : Shp Try.prog n 32 ps) : ∃ v : Val, ps = v.pv ∧ (bz v.bytes).length ≤ 9223372036854775807 := by
  cases n with
  | zero => cases h
  | succ n =>
    unfold Shp at h
    rw [Try.underlying32] at h
    simp only [ShpF] at h
    obtain ⟨a, b, rfl, h1, a2, b2, rfl, h2, a3, b3, rfl, h3, a4, b4, rfl, h4, rfl⟩ := h
    obtain ⟨z1, rfl⟩ := shp_bool h1
    obtain ⟨z2, rfl⟩ := shp_int h2
    obtain ⟨z3, rfl⟩ := shp_int64 h3
    obtain ⟨z4, rfl, h5⟩ := shp_bytes h4
    exact ⟨⟨z1, z2, z3, some z4⟩, rfl, by rw [bz_some]; exact h5⟩
theorem shp_pred : ∀ {n : Nat} {ps : List PV}, Shp Try.prog n 35 ps → ∃ p : Prd, ps = p.pv ∧ Sl p
  | 0, ps, h => by cases h
  | 1, ps, h => by
    unfold Shp at h
    rw [Try.underlying35] at h
    simp only [ShpF] at h
    obtain ⟨a, b, rfl, h1, _⟩ := h
    cases h1
  | n + 2, ps, h => by
    unfold Shp at h
    rw [Try.underlying35] at h
    simp only [ShpF] at h
    obtain ⟨a, b, rfl, h1, a2, b2, rfl, h2, a3, b3, rfl, h3, a4, b4, rfl, h4, a5, b5, rfl, h5, rfl⟩ := h
    obtain ⟨z1, rfl⟩ := shp_int h1
    obtain ⟨z2, rfl⟩ := shp_int h2
    obtain ⟨z3, rfl⟩ := shp_int h3
    obtain ⟨v, rfl, hv⟩ := shp_val h4
    unfold Shp at h5
    rw [Try.underlying33] at h5
    obtain ⟨xs, rfl, hl, hx⟩ := h5
    obtain ⟨L, rfl, hL⟩ := all_map (f := Prd.pv) (Q := Sl) (fun x hx => shp_pred hx) xs hx
    rw [show Try.prog.cellsOf 35 = 8 by kernel_rfl]
    refine ⟨.mk z1 z2 z3 v false L, ?_, .mk hv ?_ hL⟩
    · rw [pv_mk]; rfl
    · rw [max_len, List.length_map] at hl; exact hl
theorem shp_set {n : Nat} {ps : List PV} (h : Shp Try.prog n 45 ps) : ∃ x : SetN, ps = x.pv ∧ (bz x.val.bytes).length ≤ 9223372036854775807 := by
  cases n with
  | zero => cases h
  | succ n =>
    unfold Shp at h
    rw [Try.underlying45] at h
    simp only [ShpF] at h
    obtain ⟨a, b, rfl, h1, a2, b2, rfl, h2, a3, b3, rfl, h3, rfl⟩ := h
    obtain ⟨z1, rfl⟩ := shp_int h1
    obtain ⟨z2, rfl⟩ := shp_bool h2
    obtain ⟨v, rfl, hv⟩ := shp_val h3
    exact ⟨⟨z1, z2, v⟩, rfl, hv⟩
theorem shp_agg {n : Nat} {ps : List PV} (h : Shp Try.prog n 43 ps) : ∃ x : AggN, ps = x.pv ∧ True := by
  cases n with
  | zero => cases h
  | succ n =>
    unfold Shp at h
    rw [Try.underlying43] at h
    simp only [ShpF] at h
    obtain ⟨a, b, rfl, h1, a2, b2, rfl, h2, rfl⟩ := h
    obtain ⟨z1, rfl⟩ := shp_int h1
    obtain ⟨z2, rfl⟩ := shp_int h2
    exact ⟨⟨z1, z2⟩, rfl, trivial⟩
theorem shp_op {n : Nat} {ps : List PV} (h : Shp Try.prog n 39 ps) : ∃ o : OpN, ps = o.pv ∧ (OpOk o ∧ OpBy o) := by
  cases n with
  | zero => cases h
  | succ n =>
    unfold Shp at h
    rw [Try.underlying39] at h
    simp only [ShpF] at h
    obtain ⟨a, b, rfl, h1, a2, b2, rfl, h2, a3, b3, rfl, h3, a4, b4, rfl, h4, a5, b5, rfl, h5, a6, b6, rfl, h6, a7, b7, rfl, h7, rfl⟩ := h
    obtain ⟨z1, rfl⟩ := shp_int h1
    obtain ⟨p, rfl, hp⟩ := shp_pred h3
    obtain ⟨z6, rfl⟩ := shp_int h6
    cases n with
    | zero => cases h2
    | succ n =>
      unfold Shp at h2 h4 h5 h7
      rw [Try.underlying29] at h2
      rw [Try.underlying36] at h4
      rw [Try.underlying23] at h5
      rw [Try.underlying37] at h7
      obtain ⟨x2, rfl, l2, h2⟩ := h2
      obtain ⟨x4, rfl, l4, h4⟩ := h4
      obtain ⟨x5, rfl, l5, h5⟩ := h5
      obtain ⟨x7, rfl, l7, h7⟩ := h7
      obtain ⟨L2, rfl, q2⟩ := all_map (f := Val.pv) (Q := fun v => (bz v.bytes).length ≤ 9223372036854775807) (fun x hx => shp_val hx) x2 h2
      obtain ⟨L4, rfl, q4⟩ := all_map (f := SetN.pv) (Q := fun v => (bz v.val.bytes).length ≤ 9223372036854775807) (fun x hx => shp_set hx) x4 h4
      obtain ⟨L5, rfl, q5⟩ := all_map (f := intPV) (Q := fun _ => True) (fun x hx => by obtain ⟨z, rfl⟩ := shp_int hx; exact ⟨z, rfl, trivial⟩) x5 h5
      obtain ⟨L7, rfl, q7⟩ := all_map (f := AggN.pv) (Q := fun _ => True) (fun x hx => shp_agg hx) x7 h7
      rw [show Try.prog.cellsOf 32 = 4 by kernel_rfl, show Try.prog.cellsOf 45 = 6 by kernel_rfl, show Try.prog.cellsOf 3 = 1 by kernel_rfl, show Try.prog.cellsOf 43 = 2 by kernel_rfl]
      rw [max_len, List.length_map] at l2 l4 l5 l7
      refine ⟨⟨z1, false, L2, p, false, L4, false, L5, z6, false, L7⟩, ?_, ⟨hp, l2, l4, l5, l7⟩, ⟨q2, q4⟩⟩
      rw [pv_eq p]
      rfl
theorem shp_ops {n : Nat} {x : PV} (h : Shp Try.prog n 22 [x]) : ∃ raw : List OpN, x = .sl 14 (raw.map OpN.pv) ∧ ∀ y ∈ raw, OpOk y ∧ OpBy y := by
  cases n with
  | zero => cases h
  | succ n =>
    unfold Shp at h
    rw [Try.underlying22] at h
    obtain ⟨xs, hx, _, h⟩ := h
    rw [show Try.prog.cellsOf 39 = 14 by kernel_rfl] at hx
    simp only [List.cons.injEq, and_true] at hx
    obtain ⟨L, rfl, hL⟩ := all_map (f := OpN.pv) (Q := fun o => OpOk o ∧ OpBy o) (fun x hx => shp_op hx) xs h
    exact ⟨L, hx, hL⟩
end Go.Proofs.Ytgbeijemcojnpaa.D
