/- Den, part J: slice literals, stores. -/
import Derived.Test.YtepofpmohiegpaaDenI
namespace Go.Den
variable {P : Program} {w0 w : World} {bl : List Nat} {D D' : Nat → Prop} {m : Nat → Option Ent} {G : Gh}

/-- Cells, element by element. -/
def EltsOk (R : Value → PV → Prop) (cur : Array Value) (n sz : Nat) (f : Nat → List PV) : Prop :=
  cur.size = n * sz ∧ (∀ i, i < n → (f i).length = sz) ∧ ∀ (i j : Nat) u p, i < n → cur[i * sz + j]? = some u → (f i)[j]? = some p → R u p
theorem mul_lt {i n sz j : Nat} (hi : i < n) (hj : j < sz) : i * sz + j < n * sz := by
  have : (i + 1) * sz ≤ n * sz := Nat.mul_le_mul_right _ hi
  rw [Nat.add_mul] at this
  omega
theorem mul_apart {i k sz j j' : Nat} (h : i ≠ k) (hj : j < sz) (hj' : j' < sz) : i * sz + j ≠ k * sz + j' := by
  rcases Nat.lt_or_gt_of_ne h with h | h
  · have : (i + 1) * sz ≤ k * sz := Nat.mul_le_mul_right _ h
    rw [Nat.add_mul] at this
    omega
  · have : (k + 1) * sz ≤ i * sz := Nat.mul_le_mul_right _ h
    rw [Nat.add_mul] at this
    omega
theorem fillE_sim {R : Value → PV → Prop} {n sz : Nat} : ∀ {vs : List (Nat × Value)} {ps : List (Nat × List PV)} {cur : Array Value} {f : Nat → List PV}, PartsOk R vs ps → EltsOk R cur n sz f → (∀ x ∈ ps, x.2.length = sz ∧ x.1 < n) → nodupK ps = true →
    ∃ cur', Instr.fill (fun i => some (i * sz, sz)) cur vs = some cur' ∧ EltsOk R cur' n sz (fun i => (get ps i).getD (f i))
  | _, _, cur, f, .nil, hc, _, _ => ⟨cur, rfl, hc⟩
  | _, _, cur, f, .cons (v := v) (p := p) (vs := vs) (ps := ps) h1 h2, hc, hps, hnd => by
    obtain ⟨i, x⟩ := v
    obtain ⟨i', q⟩ := p
    obtain ⟨rfl, e1, e2⟩ := h1
    obtain ⟨hq, hi⟩ := hps (i, q) (by simp)
    simp only at hq hi e1 e2
    simp only [nodupK, Bool.and_eq_true, Bool.not_eq_true', List.any_eq_false, beq_iff_eq] at hnd
    have hle : i * sz + sz ≤ n * sz := by
      have : (i + 1) * sz ≤ n * sz := Nat.mul_le_mul_right _ hi
      rw [Nat.add_mul] at this
      omega
    have hxl : x.cells.toList.length = sz := by simp; omega
    have hc' : EltsOk R (arrSet cur (i * sz) x.cells.toList) n sz (upd f i q) := by
      refine ⟨by rw [arrSet_size]; exact hc.1, fun k hk => ?_, fun k j u p hk hu hp => ?_⟩
      · by_cases hki : k = i
        · subst hki; rw [upd_eq]; exact hq
        · rw [upd_ne _ _ hki]; exact hc.2.1 k hk
      · by_cases hki : k = i
        · subst hki
          rw [upd_eq] at hp
          have hj : j < sz := by have := (List.getElem?_eq_some_iff.1 hp).1; omega
          obtain ⟨u', hu'⟩ : ∃ u', x.cells.toList[j]? = some u' := ⟨_, List.getElem?_eq_getElem (by omega)⟩
          rw [arrSet_in _ _ _ (by rw [hc.1, hxl]; exact hle) j u' hu'] at hu
          injection hu with hu
          subst hu
          exact e2 j u' p (by simpa using hu') hp
        · rw [upd_ne _ _ hki] at hp
          have hj : j < sz := by have := (List.getElem?_eq_some_iff.1 hp).1; rw [hc.2.1 k hk] at this; exact this
          rw [arrSet_out _ _ _ _ (by
            rcases Nat.lt_or_gt_of_ne hki with h | h
            · have : (k + 1) * sz ≤ i * sz := Nat.mul_le_mul_right _ h
              rw [Nat.add_mul] at this
              omega
            · have : (i + 1) * sz ≤ k * sz := Nat.mul_le_mul_right _ h
              rw [Nat.add_mul] at this
              omega)] at hu
          exact hc.2.2 k j u p hk hu hp
    obtain ⟨cur', f1, f2⟩ := fillE_sim h2 hc' (fun y hy => hps y (by simp [hy])) hnd.2
    refine ⟨cur', ?_, f2.1, fun k hk => ?_, fun k j u p hk hu hp => ?_⟩
    · simp only [Instr.fill]
      rw [if_neg (by simp only [e1, hc.1, hq]; simp; omega), fill_step]
      exact f1
    · have := f2.2.1 k hk
      simp only [get]
      by_cases hik : i = k
      · subst hik; simp; exact hq
      · rw [if_neg (by simpa using hik)]
        have this : ((get ps k).getD (upd f i q k)).length = sz := this
        rw [upd_ne _ _ (fun h => hik h.symm)] at this
        exact this
    · refine f2.2.2 k j u p hk hu ?_
      simp only [get] at hp
      by_cases hik : i = k
      · subst hik
        have hnone : get ps i = none := by
          have : ∀ (l : List (Nat × List PV)), (∀ y ∈ l, y.1 ≠ i) → get l i = none := fun l hl => by
            induction l with
            | nil => rfl
            | cons y r ih =>
              simp only [get]
              rw [if_neg (by simpa using hl y (by simp))]
              exact ih fun z hz => hl z (by simp [hz])
          exact this ps fun y hy => hnd.1 y hy
        show ((get ps i).getD (upd f i q i))[j]? = some p
        rw [hnone]
        simp only [upd_eq]
        simpa using hp
      · rw [if_neg (by simpa using hik)] at hp
        show ((get ps k).getD (upd f i q k))[j]? = some p
        rw [upd_ne _ _ (fun h => hik h.symm)]
        exact hp

theorem buildSliceS_sim (h : RelW w0 bl D w m G) {fid : Nat} (hf : Fr D D' fid) {t : TypeId} {n : Nat} {l : List (Nat × List PV)} {v : PV} {wr : Wr} {l1 o} {vs : Array (Nat × Value)} (hr : (buildSliceS P fid t n l).run m = some ((v, wr), l1, o))
    (hp : PartsOk (RepL w (okP w m G) G) vs.toList l) :
    ∃ v' w', (Instr.buildSlice t n vs).run P w = .ok v' w' ∧ After w0 bl D' w m G v wr v' w' := by
  unfold buildSliceS at hr
  split at hr
  · rename_i e hu
    split at hr
    · rename_i s z hs hz
      split at hr
      · rename_i hc
        simp only [Bool.and_eq_true, decide_eq_true_eq, List.all_eq_true, beq_iff_eq, Nat.blt_eq] at hc
        obtain ⟨⟨⟨hle, hzl⟩, hall⟩, hnd⟩ := hc
        obtain ⟨x, a1, a2, a3, a4, hx, hr, _, _⟩ := run_bind hr
        obtain ⟨xs, wx⟩ := x
        have h1 := (run_ret hr).1
        injection h1 with h1 h2
        subst h1; subst h2
        obtain ⟨zv, hzr, hzc⟩ := run_zero hz
        obtain ⟨c1, c2, c3⟩ := constsPV_rep hzc w (okP w m G)
        have hzs : zv.cells.size = s + 1 := by rw [← hzl]; simpa using c1
        -- the cells before the parts are filled in
        have hc0 : EltsOk (RepL w (okP w m G) G) (Array.map (fun i => zv.cells[i % zv.cells.size]!) (Array.range (n * (s + 1)))) n (s + 1) (fun _ => z) := by
          refine ⟨by simp, fun _ _ => hzl, fun i j u p hi hu hp => ?_⟩
          have hp : z[j]? = some p := hp
          have hj : j < s + 1 := by have := (List.getElem?_eq_some_iff.1 hp).1; omega
          have hij := mul_lt hi hj
          obtain ⟨u', hu', hrep⟩ := c3 j p hp
          have hm : (i * (s + 1) + j) % (s + 1) = j := by rw [Nat.mul_comm, Nat.mul_add_mod]; exact Nat.mod_eq_of_lt hj
          have hju : zv.cells[j]! = u' := by
            have : zv.cells[j]? = some u' := by simpa using hu'
            rw [getElem!_def, this]
          simp only [Array.getElem?_map, Array.getElem?_range, if_pos hij, Option.map_some, hzs, hm, hju, Option.some.injEq] at hu
          subst hu
          exact .pl hrep (c2 p (List.mem_of_getElem? hp))
        obtain ⟨cur', f1, f2, f3, f4⟩ := fillE_sim hp hc0 (fun y hy => hall y hy) hnd
        have hE : ∀ i, i < n → (fillE z n l)[i]? = some ((get l i).getD z) := fun i hi => by simp [fillE, hi]
        have hEl : (fillE z n l).length = n := by simp [fillE]
        obtain ⟨g1, g2, g3, g4, g5, g6, g7⟩ := sealLL_sim (vs := (List.range n).map fun i => (cur'.toList.drop (i * (s + 1))).take (s + 1)) h (Fro.refl m) hx (by simp [fillE]) (fun i v p hv hp => by
          have hi : i < n := by have := (List.getElem?_eq_some_iff.1 hp).1; omega
          simp [hi] at hv
          subst hv
          rw [hE i hi] at hp
          injection hp with hp
          subst hp
          have hle' : i * (s + 1) + (s + 1) ≤ n * (s + 1) := by
            have : (i + 1) * (s + 1) ≤ n * (s + 1) := Nat.mul_le_mul_right _ hi
            rw [Nat.add_mul, Nat.one_mul] at this
            exact this
          refine ⟨?_, fun j u x hu hx => ?_⟩
          · have := f3 i hi
            simp only at this
            rw [this]; simp [f2]; omega
          · have hj : j < s + 1 := by have := (List.getElem?_eq_some_iff.1 hx).1; have h2 := f3 i hi; simp only at h2; omega
            rw [List.getElem?_take_of_lt hj, List.getElem?_drop] at hu
            exact f4 i j u x hi (by simpa using hu) hx)
        rw [hEl] at g4
        obtain ⟨hR, hA⟩ := g1.newRow hf.zero.1 hf.sub hf.zero.2 cur' e (s + 1) n xs (by rw [g4]; exact Nat.le_refl _) (by rw [f2]; exact Nat.le_refl _) (fun q hq => by
            obtain ⟨i, hi⟩ := List.getElem?_of_mem hq
            have hin : i < n := by have := (List.getElem?_eq_some_iff.1 hi).1; omega
            rw [g6 i _ q (hE i hin) hi]
            exact f3 i hin) (fun q hq p hp => g5 q hq p hp) (fun i q j p hi hp => by
            have hin : i < n := by have := (List.getElem?_eq_some_iff.1 hi).1; omega
            have hql := g6 i _ q (hE i hin) hi
            have hfl := f3 i hin
            simp only at hfl
            have hj : j < s + 1 := by have := (List.getElem?_eq_some_iff.1 hp).1; omega
            have hij := mul_lt hin hj
            refine ⟨cur'[i * (s + 1) + j], by simp [f2, hij], ?_⟩
            exact g7 i ((cur'.toList.drop (i * (s + 1))).take (s + 1)) q (by simp [hin]) hi j _ p (by rw [List.getElem?_take_of_lt hj, List.getElem?_drop]; simp [f2, hij]) hp)
        refine ⟨.slice (some ⟨w.heap.size, 0, none⟩) xs.length n, w.alloc (.cells cur' e (0, 0)), ?_, G.withV fid (.slice (some ⟨w.heap.size, 0, none⟩) xs.length n) (s + 1), ?_, ?_, ?_⟩
        · have hle' : ¬ (16777216 < n * (s + 1)) := by omega
          by_cases hn0 : n * (s + 1) = 0
          · have hn : n = 0 := by rcases Nat.mul_eq_zero.1 hn0 with h | h <;> omega
            subst hn
            have hvs : vs.toList = [] := by
              cases hl : vs.toList with
              | nil => rfl
              | cons y r =>
                rw [hl] at hp
                cases hp with
                | cons _ _ => have := hall _ (List.mem_cons_self); omega
            have hcur : cur' = #[] := Array.eq_empty_of_size_eq_zero (by rw [f2]; simp)
            subst hcur
            have hr0 : Array.range 0 = #[] := rfl
            simp [Instr.buildSlice, run_underlying hu, run_sizeOf' hs, hvs, Instr.fill, newRow, newObj, Sem.run, g4, hr0]
          · have hf1 := f1
            simp [Instr.buildSlice, run_underlying hu, run_sizeOf' hs, hzr, hle', hn0, hf1, newRow, newObj, Sem.run, g4]
            first | done | rfl | (intro h0; exact absurd h0 (by omega))
        · rw [putF_append]; exact hR
        · rw [putF_append]; exact g3.trans hA
        · exact .leaf (.h (by simp [Gh.withV, upd_eq]) rfl)
      · exact (run_fail hr).elim
    · exact (run_fail hr).elim
  · exact (run_fail hr).elim
end Go.Den
