/- A group's span set: the row of a box, written in its place. -/
import Derived.Test.YtfgbklmmildakaaChecked
import Derived.Test.YtfgbklmmildakaaDenK3
import Derived.WalkKit
import Derived.Lib.Walk
namespace Go.Proofs.Ytfgbklmmildakaa.D
open Go Go.Proofs Go.Den Go.RowKit
def setG : List PV → TypeId → Nat → List (List PV) → Option (Option (List (List PV)) × PV)
  | [.int .i64 i, .agg cs], e, sz, xs => if sz == 4 && cs.length == 4 && cs.all plainLeaf then (if 0 ≤ i ∧ i < xs.length then (if e == 35 then some (some (xs.set i.toNat cs), .bool true) else none) else some (none, .bool false)) else none
  | _, _, _, _ => none
abbrev spanO (x0 x1 x2 x3 : Value) : Obj := .cells #[x0, x1, x2, x3] 35
set_option linter.unusedSimpArgs false
set_option linter.unusedVariables false
set_option maxRecDepth 100000 in
set_option maxHeartbeats 4000000 in
theorem set_run (w : World) (b g n c : Nat) (i : Int) (cur : Array Value) (t : TypeId) (fz : Nat × Nat) (x0 x1 x2 x3 : Value) (hs : w.cell? ⟨b, 2, none⟩ = some (.slice (some ⟨g, 0, none⟩) n c)) (hi : 0 ≤ i ∧ i < n) (hh : w.heap[g]? = some (.cells cur t fz)) (hz : noFz fz cur.size) (hb : i.toNat * 4 + 4 ≤ cur.size) (h1 : x0.oneCell' = true ∧ x1.oneCell' = true ∧ x2.oneCell' = true ∧ x3.oneCell' = true) :
    Calls Try.prog 18 #[.pointer (some ⟨b, 0, none⟩), .int .i64 i, .agg #[x0, x1, x2, x3]] w fun e w' => e = .returned (.bool true) ∧ w' = ((w.setCells g (i.toNat * 4) [x0, x1, x2, x3]).alloc (spanO x0 x1 x2 x3)).drew := by
  have mixed := Checked.mixed Try.checked
  have hs2 : (w.alloc (.cells #[x0, x1, x2, x3] 35)).cell? ⟨b, 2, none⟩ = some (.slice (some ⟨g, 0, none⟩) n c) := by rw [cell_congr (heap_old w _ (cell_lt hs))]; exact hs
  have hg := (Array.getElem?_eq_some_iff.1 hh).1
  have hh2 : (w.alloc (.cells #[x0, x1, x2, x3] 35)).heap[g]? = some (.cells cur t fz) := by rw [heap_old w _ hg]; exact hh
  have key : ∀ j, j < 4 → ∃ v, (w.alloc (.cells #[x0, x1, x2, x3] 35)).cell? ⟨g, i.toNat * 4 + j, none⟩ = some v ∧ (w.alloc (.cells #[x0, x1, x2, x3] 35)).frozen? ⟨g, i.toNat * 4 + j, none⟩ = false := fun j hj => by
    refine ⟨cur[i.toNat * 4 + j]'(by omega), ?_, frozen_of hh2 hz (by omega)⟩
    rw [cell_of_heap hh2]; simp
  obtain ⟨v0, a0, b0⟩ := key 0 (by decide)
  obtain ⟨v1, a1, b1⟩ := key 1 (by decide)
  obtain ⟨v2, a2, b2⟩ := key 2 (by decide)
  obtain ⟨v3, a3, b3⟩ := key 3 (by decide)
  rw [Nat.add_zero] at a0 b0
  obtain ⟨o0, o1, o2, o3⟩ := h1
  have st : ∀ (W : World) (cur' : Array Value) (j : Nat) (v : Value), W.heap[g]? = some (.cells cur' t fz) → noFz fz cur'.size → j < 4 → i.toNat * 4 + 4 ≤ cur'.size → v.oneCell' = true → (store ⟨g, i.toNat * 4 + j, none⟩ v).run Try.prog W = .ok () (W.setCell ⟨g, i.toNat * 4 + j, none⟩ v) := fun W cur' j v hW hz' hj hb' hv => by
    have hf := frozen_of hW hz' (o := i.toNat * 4 + j) (by omega)
    have hc : W.cell? ⟨g, i.toNat * 4 + j, none⟩ = some (cur'[i.toNat * 4 + j]'(by omega)) := by rw [cell_of_heap hW]; simp
    rw [run_store Try.prog W _ v _ hv]
    simp [stored, hc, hf]
  have hold : ∀ (W : World) (cur' : Array Value), W.heap[g]? = some (.cells cur' t fz) → ((W.alloc (.cells #[x0, x1, x2, x3] 35)).drew).heap[g]? = some (.cells cur' t fz) := fun W cur' h => (heap_old W _ (Array.getElem?_eq_some_iff.1 h).1).trans h
  have g0 := setCell_heap_same (o := i.toNat * 4 + 0) (v := x0) hh
  have g1 := setCell_heap_same (o := i.toNat * 4 + 1) (v := x1) g0
  have g2 := setCell_heap_same (o := i.toNat * 4 + 2) (v := x2) g1
  have s0 := st _ _ 0 x0 (hold _ _ hh) hz (by decide) hb o0
  have s1 := st _ _ 1 x1 (hold _ _ g0) (by simpa using hz) (by decide) (by simpa using hb) o1
  have s2 := st _ _ 2 x2 (hold _ _ g1) (by simpa using hz) (by decide) (by simpa using hb) o2
  have s3 := st _ _ 3 x3 (hold _ _ g2) (by simpa using hz) (by decide) (by simpa using hb) o3
  simp only [Nat.add_zero] at s0 s1 s2 s3
  clear key hh2 hh hz hs st hold g0 g1 g2 a0 a1 a2 a3 b0 b1 b2 b3
  go_enter Try.func18, Try.ntmps18
  go_wp2
  go_region
  go_wp2
  go_ret
  exact ⟨rfl, rfl⟩
set_option maxRecDepth 100000 in
set_option maxHeartbeats 4000000 in
theorem set_low (w : World) (b : Nat) (i : Int) (x0 x1 x2 x3 : Value) (hi : i < 0) :
    Calls Try.prog 18 #[.pointer (some ⟨b, 0, none⟩), .int .i64 i, .agg #[x0, x1, x2, x3]] w fun e w' => e = .returned (.bool false) ∧ w' = w.alloc (spanO x0 x1 x2 x3) := by
  have mixed := Checked.mixed Try.checked
  go_enter Try.func18, Try.ntmps18
  go_wp2
  go_ret
  exact ⟨rfl, rfl⟩
set_option maxRecDepth 100000 in
set_option maxHeartbeats 4000000 in
theorem set_high (w : World) (b n c : Nat) (a : Option Addr) (i : Int) (x0 x1 x2 x3 : Value) (hs : w.cell? ⟨b, 2, none⟩ = some (.slice a n c)) (hi : 0 ≤ i) (hn : (n : Int) ≤ i) :
    Calls Try.prog 18 #[.pointer (some ⟨b, 0, none⟩), .int .i64 i, .agg #[x0, x1, x2, x3]] w fun e w' => e = .returned (.bool false) ∧ w' = w.alloc (spanO x0 x1 x2 x3) := by
  have mixed := Checked.mixed Try.checked
  have hs2 : (w.alloc (.cells #[x0, x1, x2, x3] 35)).cell? ⟨b, 2, none⟩ = some (.slice a n c) := by rw [cell_congr (heap_old w _ (cell_lt hs))]; exact hs
  go_enter Try.func18, Try.ntmps18
  go_wp2
  go_ret
  exact ⟨rfl, rfl⟩
theorem set_bx : BxOk Try.prog 18 2 setG := by
  refine ⟨?_, ?_⟩
  · intro rest e sz xs ys v hg w ok b cur t fz u rv hh hu hne hok hrow hrs hrep
    unfold setG at hg
    split at hg
    · rename_i i cs
      split at hg
      · rename_i hc
        split at hg
        · rename_i hin
          split at hg
          rotate_left
          · cases hg
          rename_i he
          injection hg with hg
          injection hg with hg1 hg2
          injection hg1 with hg1
          subst hg1; subst hg2
          simp only [Bool.and_eq_true, beq_iff_eq] at hc he
          obtain ⟨⟨hsz, hcl⟩, hpl⟩ := hc
          subst he; subst hsz
          have h2 : rv.size = 2 := by simpa using hrs
          obtain ⟨r0, r1, rfl⟩ : ∃ r0 r1, rv = #[r0, r1] := by
            rcases rv with ⟨_ | ⟨r0, _ | ⟨r1, _ | ⟨r2, r⟩⟩⟩⟩ <;> simp at h2
            exact ⟨r0, r1, rfl⟩
          have q0 := hrep 0 r0 _ rfl rfl
          have q1 := hrep 1 r1 _ rfl rfl
          cases q0
          cases q1 with
          | agg cells _ hl hp hv =>
            have hc4 : cells.size = 4 := by rw [hl, hcl]
            obtain ⟨x0, x1, x2, x3, rfl⟩ : ∃ x0 x1 x2 x3, cells = #[x0, x1, x2, x3] := by
              rcases cells with ⟨_ | ⟨x0, _ | ⟨x1, _ | ⟨x2, _ | ⟨x3, _ | ⟨x4, r⟩⟩⟩⟩⟩⟩ <;> simp at hc4
              exact ⟨x0, x1, x2, x3, rfl⟩
            obtain ⟨p0, p1, p2, p3, rfl⟩ : ∃ p0 p1 p2 p3, cs = [p0, p1, p2, p3] := by
              rcases cs with _ | ⟨x0, _ | ⟨x1, _ | ⟨x2, _ | ⟨x3, _ | ⟨x4, r⟩⟩⟩⟩⟩ <;> simp at hcl
              exact ⟨x0, x1, x2, x3, rfl⟩
            have hcell : w.cell? ⟨b, 2, none⟩ = some u := by rw [cell_of_heap hh]; exact hu
            have hbool : ∀ (z : Bool) (w2 : World) (ok2 : Nat → Prop), Rep w2 ok2 (.bool z) (.bool z) := fun z _ _ => .bool z
            obtain ⟨hlo, hhi⟩ := hin
            rcases hrow with ⟨rfl, rfl⟩ | ⟨g, c, cur2, fz2, rfl, h1, h2', h3, h4, h5, h6, h7⟩
            · simp at hhi; omega
            · have hi : i.toNat < xs.length := by omega
              have hbnd : i.toNat * 4 + 4 ≤ cur2.size := by
                have : (i.toNat + 1) * 4 ≤ c * 4 := Nat.mul_le_mul_right _ (by omega)
                omega
              have hg2 := (Array.getElem?_eq_some_iff.1 h1).1
              have c0 := (hv 0 x0 p0 rfl rfl)
              have c1 := (hv 1 x1 p1 rfl rfl)
              have c2 := (hv 2 x2 p2 rfl rfl)
              have c3 := (hv 3 x3 p3 rfl rfl)
              have one : ∀ {x : Value} {p : PV}, Rep w ok x p → p ∈ [p0, p1, p2, p3] → x.oneCell' = true := fun hr hm => (hr.one (List.all_eq_true.1 hpl _ hm)).1
              refine (set_run w b g xs.length c i cur2 _ fz2 x0 x1 x2 x3 hcell ⟨by omega, hhi⟩ h1 h4 hbnd ⟨one c0 (by simp), one c1 (by simp), one c2 (by simp), one c3 (by simp)⟩).mono fun e1 w' ⟨he1, hw⟩ => ?_
              have hsz4 := setCells_rest [x0, x1, x2, x3] w g (i.toNat * 4)
              have hkeep : ∀ k, k < w.heap.size → k ≠ g → w'.heap[k]? = w.heap[k]? := fun k hk hkg => by
                rw [hw]
                exact (heap_old _ _ (by rw [hsz4.1]; exact hk)).trans (setCells_other _ _ _ _ _ hkg)
              have hgn : w'.heap[g]? = some (.cells (arrSet cur2 (i.toNat * 4) [x0, x1, x2, x3]) 35 fz2) := by
                rw [hw]
                exact (heap_old _ _ (by rw [hsz4.1]; exact hg2)).trans (setCells_same _ _ _ _ h1)
              have hgok : ∀ k, ok k → ok k ∧ w'.heap[k]? = w.heap[k]? := fun k hk => ⟨hk, hkeep k (hok k hk).1 fun he => (hok k hk).2 (by rw [he]; rfl)⟩
              refine ⟨by rw [hw]; exact hsz4.2.1, by rw [hw]; exact hsz4.2.2.1, by rw [hw]; exact hsz4.2.2.2, by rw [hw]; show w.heap.size ≤ ((w.setCells g (i.toNat * 4) [x0, x1, x2, x3]).alloc _).heap.size; rw [size_alloc, hsz4.1]; omega, fun k hk hkn => hkeep k hk fun he => hkn (by rw [he]; rfl), ?_, _, he1, rfl, hbool _⟩
              have hlen : (xs.set i.toNat [p0, p1, p2, p3]).length = xs.length := List.length_set ..
              refine .inr ⟨g, c, _, fz2, by rw [hlen], hgn, by rw [hlen]; exact h2', by rw [arrSet_size]; exact h3, by rw [arrSet_size]; exact h4, fun x hx => ?_, fun x hx p hp => ?_, fun k x j p hx hp => ?_⟩
              · rcases List.mem_or_eq_of_mem_set hx with h | rfl
                · exact h5 x h
                · rfl
              · rcases List.mem_or_eq_of_mem_set hx with h | rfl
                · exact h6 x h p hp
                · exact List.all_eq_true.1 hpl p hp
              · rw [List.getElem?_set] at hx
                split at hx
                · rename_i hik
                  subst hik
                  injection hx with hx
                  subst hx
                  have hj : j < 4 := by have := (List.getElem?_eq_some_iff.1 hp).1; simpa using this
                  have hjv : ∃ xj, [x0, x1, x2, x3][j]? = some xj := ⟨_, List.getElem?_eq_getElem (by simpa using hj)⟩
                  obtain ⟨xj, hxj⟩ := hjv
                  refine ⟨xj, arrSet_in _ _ _ (by simpa using hbnd) j xj hxj, (hv j xj p ?_ hp).mono hgok⟩
                  simpa using hxj
                · rename_i hik
                  obtain ⟨u2, hu2, hr2⟩ := h7 k x j p hx hp
                  have hj : j < 4 := by rw [← h5 x (List.mem_of_getElem? hx)]; exact (List.getElem?_eq_some_iff.1 hp).1
                  refine ⟨u2, ?_, hr2.mono hgok⟩
                  rw [arrSet_out _ _ _ _ (by simp; omega)]
                  exact hu2
        · cases hg
      · cases hg
    · cases hg
  · intro rest e sz xs v hg w ok b cur t fz a c rv hh hu hrs hrep
    unfold setG at hg
    split at hg
    · rename_i i cs
      split at hg
      · rename_i hc
        split at hg
        · split at hg <;> cases hg
        · rename_i hout
          injection hg with hg
          injection hg with hg1 hg2
          subst hg2
          simp only [Bool.and_eq_true, beq_iff_eq] at hc
          obtain ⟨⟨hsz, hcl⟩, hpl⟩ := hc
          have h2 : rv.size = 2 := by simpa using hrs
          obtain ⟨r0, r1, rfl⟩ : ∃ r0 r1, rv = #[r0, r1] := by
            rcases rv with ⟨_ | ⟨r0, _ | ⟨r1, _ | ⟨r2, r⟩⟩⟩⟩ <;> simp at h2
            exact ⟨r0, r1, rfl⟩
          have q0 := hrep 0 r0 _ rfl rfl
          have q1 := hrep 1 r1 _ rfl rfl
          cases q0
          cases q1 with
          | agg cells _ hl hp hv =>
            have hc4 : cells.size = 4 := by rw [hl, hcl]
            obtain ⟨x0, x1, x2, x3, rfl⟩ : ∃ x0 x1 x2 x3, cells = #[x0, x1, x2, x3] := by
              rcases cells with ⟨_ | ⟨x0, _ | ⟨x1, _ | ⟨x2, _ | ⟨x3, _ | ⟨x4, r⟩⟩⟩⟩⟩⟩ <;> simp at hc4
              exact ⟨x0, x1, x2, x3, rfl⟩
            have hcell : w.cell? ⟨b, 2, none⟩ = some (.slice a xs.length c) := by rw [cell_of_heap hh]; exact hu
            have fin : ∀ (e1 : Ending) (w' : World), (e1 = .returned (.bool false) ∧ w' = w.alloc (spanO x0 x1 x2 x3)) → w'.os = w.os ∧ w'.tape = w.tape ∧ w'.output = w.output ∧ w.heap.size ≤ w'.heap.size ∧ (∀ k, k < w.heap.size → w'.heap[k]? = w.heap[k]?) ∧ ∃ v', e1 = .returned v' ∧ plainLeaf (.bool false) = true ∧ ∀ w2 ok2, Rep w2 ok2 v' (.bool false) := fun e1 w' ⟨he1, hw⟩ => by
              subst hw
              exact ⟨rfl, rfl, rfl, by rw [size_alloc]; omega, fun k hk => heap_old w _ hk, _, he1, rfl, fun _ _ => .bool false⟩
            by_cases hlo : i < 0
            · exact (set_low w b i x0 x1 x2 x3 hlo).mono fun e1 w' h => fin e1 w' h
            · exact (set_high w b xs.length c a i x0 x1 x2 x3 hcell (by omega) (by omega)).mono fun e1 w' h => fin e1 w' h
      · cases hg
    · cases hg
end Go.Proofs.Ytfgbklmmildakaa.D
