/- Den, part I: literals and stores. -/
import Derived.Test.YtepofpmohiegpaaDenH
import Derived.Laws.Tables
namespace Go.Den
variable {P : Program} {w0 w : World} {bl : List Nat} {D D' : Nat → Prop} {m : Nat → Option Ent} {G : Gh}

/-! ### runs of cells -/
theorem zipIdx_foldl_set : ∀ (vs : List Value) (off k : Nat) (cur : Array Value), (vs.zipIdx k).foldl (fun cs x => cs.setIfInBounds (off + x.2) x.1) cur = arrSet cur (off + k) vs
  | [], _, _, _ => rfl
  | v :: r, off, k, cur => by
    rw [List.zipIdx_cons, List.foldl_cons, zipIdx_foldl_set r off (k + 1)]
    rfl
theorem fill_step (v : Array Value) (off : Nat) (cells : Array Value) : v.zipIdx.foldl (fun cs (c, j) => cs.setIfInBounds (off + j) c) cells = arrSet cells off v.toList := by
  rw [← Array.foldl_toList, Array.toList_zipIdx]
  exact zipIdx_foldl_set v.toList off 0 cells
theorem splice_length {cs vs : List PV} {off : Nat} (h : off + vs.length ≤ cs.length) : (splice cs off vs).length = cs.length := by
  simp [splice]; omega
theorem splice_get (cs vs : List PV) (off k : Nat) (h : off + vs.length ≤ cs.length) : (splice cs off vs)[k]? = if off ≤ k ∧ k < off + vs.length then vs[k - off]? else cs[k]? := by
  unfold splice
  by_cases h1 : k < off
  · rw [if_neg (by omega), List.append_assoc, List.getElem?_append_left (by simp; omega), List.getElem?_take_of_lt h1]
  · by_cases h2 : k < off + vs.length
    · rw [if_pos (by omega), List.append_assoc, List.getElem?_append_right (by simp; omega), List.getElem?_append_left (by simp; omega)]
      congr 1; simp; omega
    · rw [if_neg (by omega), List.getElem?_append_right (by simp; omega), List.getElem?_drop]
      congr 1; simp; omega
/-- Cells by cells. -/
def CellsOk (R : Value → PV → Prop) (cur : Array Value) (cs : List PV) : Prop := cur.size = cs.length ∧ ∀ (j : Nat) u p, cur[j]? = some u → cs[j]? = some p → R u p
theorem CellsOk.set {R : Value → PV → Prop} {cur : Array Value} {cs : List PV} (h : CellsOk R cur cs) {v : List Value} {ps : List PV} {off : Nat} (hl : v.length = ps.length) (hv : ∀ (j : Nat) u p, v[j]? = some u → ps[j]? = some p → R u p) (ho : off + ps.length ≤ cs.length) :
    CellsOk R (arrSet cur off v) (splice cs off ps) := by
  refine ⟨by rw [arrSet_size, splice_length ho, h.1], fun j u p hu hp => ?_⟩
  rw [splice_get _ _ _ _ ho] at hp
  split at hp
  · rename_i hj
    obtain ⟨k, rfl⟩ : ∃ k, j = off + k := ⟨j - off, by omega⟩
    obtain ⟨u', hu'⟩ : ∃ u', v[k]? = some u' := ⟨_, List.getElem?_eq_getElem (by omega)⟩
    rw [arrSet_in v off cur (by rw [h.1, hl]; exact ho) k u' hu'] at hu
    injection hu with hu
    subst hu
    rw [Nat.add_sub_cancel_left] at hp
    exact hv k u' p hu' hp
  · rename_i hj
    rw [arrSet_out _ _ _ _ (by omega)] at hu
    exact h.2 j u p hu hp

/-! ### a struct -/
/-- What is given for a literal's parts. -/
inductive PartsOk (R : Value → PV → Prop) : List (Nat × Value) → List (Nat × List PV) → Prop
  | nil : PartsOk R [] []
  | cons {v p vs ps} (h : v.1 = p.1 ∧ v.2.cells.size = p.2.length ∧ ∀ (j : Nat) u q, v.2.cells[j]? = some u → p.2[j]? = some q → R u q) (r : PartsOk R vs ps) : PartsOk R (v :: vs) (p :: ps)
theorem evParts_ok {a ok g} (hs : SlotsOk a w ok G g) : ∀ {xs : List (Nat × Operand)} {ps : List (Nat × List PV)}, evParts g xs = some ps → PartsOk (RepL w ok G) (xs.map fun x => (x.1, a.eval x.2)) ps
  | [], ps, h => by simp [evParts] at h; subst h; exact .nil
  | (i, x) :: r, ps, h => by
    simp only [evParts] at h
    cases h1 : (evOp g x).bind leavesO with
    | none => simp [h1] at h
    | some cs =>
      cases h2 : evParts g r with
      | none => simp [h1, h2] at h
      | some ys =>
        simp [h1, h2] at h
        subst h
        obtain ⟨p, hp, hl⟩ := Option.bind_eq_some_iff.1 h1
        obtain ⟨c1, c2⟩ := (evOp_rep hs hp).leaves hl
        exact .cons ⟨rfl, c1, c2⟩ (evParts_ok hs h2)
theorem fillF_sim {R : Value → PV → Prop} {place : Nat → Option (Nat × Nat)} : ∀ {vs : List (Nat × Value)} {ps : List (Nat × List PV)} {cur : Array Value} {cs cs' : List PV}, PartsOk R vs ps → CellsOk R cur cs → fillF place cs ps = some cs' →
    ∃ cur', Instr.fill place cur vs = some cur' ∧ CellsOk R cur' cs'
  | [], [], cur, cs, cs', _, hc, h => by simp [fillF] at h; subst h; exact ⟨cur, rfl, hc⟩
  | (i, v) :: vs, (i', p) :: ps, cur, cs, cs', hp, hc, h => by
    cases hp with
    | cons h1 h2 =>
      obtain ⟨rfl, e1, e2⟩ := h1
      simp only [fillF] at h
      cases hpl : place i with
      | none => simp [hpl] at h
      | some x =>
        obtain ⟨off, n⟩ := x
        simp only [hpl] at h
        split at h
        · rename_i hn
          obtain ⟨hn, hle⟩ := hn
          subst hn
          obtain ⟨cur', f1, f2⟩ := fillF_sim h2 (hc.set (v := v.cells.toList) (off := off) (by simpa using e1) (fun j u q hu hq => e2 j u q (by simpa using hu) hq) hle) h
          refine ⟨cur', ?_, f2⟩
          simp only [Instr.fill, hpl]
          rw [if_neg (by simp only [e1, hc.1]; simp; omega), fill_step]
          exact f1
        · cases h
theorem tPlaces_run {t : TypeId} {pl : List (Nat × Nat)} (h : tPlaces P t = some pl) : ∃ fs, P.underlying t = some (.struct fs) ∧ ∀ w, (fs.mapM fun f => do pure (f.offset, ← Go.sizeOf f.type) : Sem (Array (Nat × Nat))).run P w = .ok pl.toArray w := by
  unfold tPlaces at h
  split at h
  · rename_i fs hu
    exact ⟨fs, hu, fun w => by simp [Array.mapM_eq_mapM_toList, run_places w _ _ h]⟩
  · cases h
theorem buildS_sim (h : RelW w0 bl D w m G) (hD : ∀ d, D d → D' d) {t : TypeId} {l : List (Nat × List PV)} {v : PV} {wr : Wr} {l1 o} {vs : Array (Nat × Value)} (hr : (buildS P t l).run m = some ((v, wr), l1, o)) (hp : PartsOk (RepL w (okP w m G) G) vs.toList l) :
    ∃ v', (Instr.build t vs).run P w = .ok v' w ∧ After w0 bl D' w m G v wr v' w := by
  unfold buildS at hr
  split at hr
  · rename_i pl z hpl hz
    split at hr
    · rename_i cs hf
      have h1 := (run_ret hr).1
      injection h1 with h1 h2
      subst h1; subst h2
      obtain ⟨zv, hzr, hzc⟩ := run_zero hz
      obtain ⟨c1, c2, c3⟩ := constsPV_rep hzc w (okP w m G)
      obtain ⟨fs, hu, hrun⟩ := tPlaces_run hpl
      obtain ⟨cur', f1, f2⟩ := fillF_sim (cur := zv.cells) hp ⟨by simpa using c1, fun j u p hu hp => by
        obtain ⟨u', hu', hrep⟩ := c3 j p hp
        simp at hu'
        rw [hu] at hu'
        injection hu' with hu'
        subst hu'
        exact .pl hrep (c2 p (List.mem_of_getElem? hp))⟩ hf
      refine ⟨.agg cur', ?_, After.quiet h hD (.agg _ _ f2.1 f2.2)⟩
      have hrun' := hrun w
      simp only [Instr.build, Sem.run_bind, hzr, Result.andThen_ok, run_underlying hu]
      rw [hrun']
      have : (fun (x : Nat) => pl.toArray[x]?) = fun (j : Nat) => pl[j]? := by funext j; simp
      simp [f1]
    · exact (run_fail hr).elim
  · exact (run_fail hr).elim
end Go.Den
