/- What came in, of any type of numbers, bools, texts, slices, pointers and structs: a value of the evaluator that is shaped by the type. -/
import Derived.Test.YtmaehmacngldbaaDenK4
import Derived.ChangeArms
namespace Go.Den
open Go
set_option maxRecDepth 20000
def contigB (P : Program) : List Field → Nat → Nat → Bool
  | [], o, n => o == n
  | f :: r, o, n => f.offset == o && contigB P r (o + P.cellsOf f.type) n
def tyOK (P : Program) (T : List TypeId) (t : TypeId) : Bool :=
  match P.underlying t with
  | some (.int _) => P.cellsOf t == 1
  | some .bool => P.cellsOf t == 1
  | some .string => P.cellsOf t == 1
  | some (.slice e) => T.contains e && P.cellsOf t == 1
  | some (.pointer e) => T.contains e && P.cellsOf t == 1
  | some (.struct fs) => fs.toList.all (fun f => T.contains f.type) && contigB P fs.toList 0 (P.cellsOf t)
  | _ => false
def closedT (P : Program) (T : List TypeId) : Bool := T.all (tyOK P T)
def ShpF (r : TypeId → List PV → Prop) : List Field → List PV → Prop
  | [], ps => ps = []
  | f :: fs, ps => ∃ a b, ps = a ++ b ∧ r f.type a ∧ ShpF r fs b
/-- what a value of a type looks like -/
def Shp (P : Program) : Nat → TypeId → List PV → Prop
  | 0, _, _ => False
  | n + 1, t, ps =>
    match P.underlying t with
    | some (.int k) => ∃ z, ps = [.int k z] ∧ (Lit.int k z).wf = true
    | some .bool => ∃ b, ps = [.bool b]
    | some .string => ∃ s : ByteArray, ps = [.str s.data.toList] ∧ s.size ≤ maxLen
    | some (.slice e) => ∃ xs, ps = [.sl (P.cellsOf e) xs] ∧ xs.length ≤ maxLen ∧ ∀ x ∈ xs, Shp P n e x
    | some (.pointer e) => ps = [.nilp] ∨ ∃ x, ps = [.pc x] ∧ Shp P n e x
    | some (.struct fs) => ShpF (Shp P n) fs.toList ps
    | _ => False
section
variable {H : Type} {enc : TypeId × Value → H} {P : Program} {w : World} {base : Nat} {spare : Nat → Bool} {held : Bool}
def Leafs (w : World) (cs : List Value) (ps : List PV) : Prop := ∀ (j : Nat) v p, cs[j]? = some v → ps[j]? = some p → Rep w (fun k => k < w.heap.size) v p ∧ plainLeaf p = true
theorem cells_at {a : Addr} {n : Nat} {cs : List Value} (h : w.cells? base a n = some cs) : cs.length = n ∧ ∀ j v, cs[j]? = some v → ∃ g o, a = ⟨g, o, none⟩ ∧ g < w.heap.size ∧ w.cell? ⟨g, o + j, none⟩ = some v := by
  unfold World.cells? at h
  split at h
  · have hl : cs.length = n := by simpa using mapM_some_length h
    refine ⟨hl, fun j v hj => ?_⟩
    have hjn : j < n := by rw [← hl]; exact (List.getElem?_eq_some_iff.1 hj).1
    have hc := mapM_some_get h j j (by simp [hjn])
    rw [hj] at hc
    have hc0 := mapM_some_get h 0 0 (by rw [List.getElem?_range (by omega)])
    rw [List.getElem?_eq_getElem (by omega)] at hc0
    have hs := World.cell?_spot hc0
    obtain ⟨g, o, s⟩ := a
    have hsn : s = none := by simpa [Addr.add] using hs
    subst hsn
    rw [add_off] at hc
    exact ⟨g, o, rfl, cell_lt hc, hc⟩
  · cases h
theorem leafs_one {v : Value} {p : PV} (h : Rep w (fun k => k < w.heap.size) v p) (hp : plainLeaf p = true) : Leafs w [v] [p] := by
  intro j v' p' h1 h2
  cases j with
  | zero => simp at h1 h2; subst h1; subst h2; exact ⟨h, hp⟩
  | succ j => simp at h1
theorem leafs_append {cs1 cs2 : List Value} {ps1 ps2 : List PV} (hl : ps1.length = cs1.length) (h1 : Leafs w cs1 ps1) (h2 : Leafs w cs2 ps2) : Leafs w (cs1 ++ cs2) (ps1 ++ ps2) := by
  intro j v p hv hp
  by_cases hj : j < cs1.length
  · rw [List.getElem?_append_left hj] at hv
    rw [List.getElem?_append_left (by omega)] at hp
    exact h1 j v p hv hp
  · rw [List.getElem?_append_right (by omega)] at hv
    rw [List.getElem?_append_right (by omega), hl] at hp
    exact h2 _ v p hv hp
theorem open_fields {n : Nat} (ih : ∀ t cs x, DataW.trod enc P w base spare held n t cs = some x → True)
    (T : List TypeId) (h : ∀ t cs x, T.contains t = true → DataW.trod enc P w base spare held n t cs = some x → ∃ ps, ps.length = cs.length ∧ cs.length = P.cellsOf t ∧ Shp P n t ps ∧ Leafs w cs ps) (cs : List Value) :
    ∀ (fs : List Field) (o : Nat), fs.all (fun f => T.contains f.type) = true → contigB P fs o cs.length = true →
      (∀ f ∈ fs, ∃ y, DataW.trod enc P w base spare held n f.type ((cs.drop f.offset).take (P.cellsOf f.type)) = some y) →
      ∃ ps, ps.length = (cs.drop o).length ∧ ShpF (Shp P n) fs ps ∧ Leafs w (cs.drop o) ps
  | [], o, _, hc, _ => by
    simp only [contigB, beq_iff_eq] at hc
    subst hc
    refine ⟨[], by simp, rfl, ?_⟩
    intro j v p hv hp
    simp at hp
  | f :: fs, o, ha, hc, ht => by
    simp only [List.all_cons, Bool.and_eq_true] at ha
    simp only [contigB, Bool.and_eq_true, beq_iff_eq] at hc
    obtain ⟨rfl, hc⟩ := hc
    obtain ⟨y, hy⟩ := ht f List.mem_cons_self
    obtain ⟨a, ha1, ha2, ha3, ha4⟩ := h _ _ _ ha.1 hy
    obtain ⟨b, hb1, hb2, hb3⟩ := open_fields ih T h cs fs (f.offset + P.cellsOf f.type) ha.2 hc (fun g hg => ht g (List.mem_cons_of_mem _ hg))
    have hcs : cs.drop f.offset = (cs.drop f.offset).take (P.cellsOf f.type) ++ cs.drop (f.offset + P.cellsOf f.type) := by
      rw [← List.drop_drop, List.take_append_drop]
    refine ⟨a ++ b, ?_, ⟨a, b, rfl, ha3, hb2⟩, ?_⟩
    · rw [hcs, List.length_append, List.length_append, ha1, hb1]
    · rw [hcs]
      exact leafs_append ha1 ha4 hb3
theorem open_any {T : List TypeId} (hT : closedT P T = true) : ∀ (fuel : Nat) (t : TypeId) (cs : List Value) (x : DataW H × List MemPlace), T.contains t = true → DataW.trod enc P w base spare held fuel t cs = some x →
    ∃ ps, ps.length = cs.length ∧ cs.length = P.cellsOf t ∧ Shp P fuel t ps ∧ Leafs w cs ps
  | 0, t, cs, x, _, h => by simp [DataW.trod] at h
  | n + 1, t, cs, x, ht, h => by
    have hk : tyOK P T t = true := List.all_eq_true.1 hT t (by simpa using ht)
    unfold tyOK at hk
    split at hk
    · rename_i k hu
      obtain ⟨z, rfl, _, hz⟩ := DataW.trod_int hu h
      refine ⟨[.int k z], rfl, ?_, ?_, leafs_one (.int ..) rfl⟩
      · simp only [beq_iff_eq] at hk; rw [hk]; rfl
      · unfold Shp; rw [hu]; exact ⟨z, rfl, hz⟩
    · rename_i hu
      obtain ⟨b, rfl, _⟩ := DataW.trod_bool hu h
      refine ⟨[.bool b], rfl, ?_, ?_, leafs_one (.bool ..) rfl⟩
      · simp only [beq_iff_eq] at hk; rw [hk]; rfl
      · unfold Shp; rw [hu]; exact ⟨b, rfl⟩
    · rename_i hu
      obtain ⟨s, rfl, _, hs⟩ := DataW.trod_string hu h
      refine ⟨[.str s.data.toList], rfl, ?_, ?_, leafs_one (.str ..) rfl⟩
      · simp only [beq_iff_eq] at hk; rw [hk]; rfl
      · unfold Shp; rw [hu]; exact ⟨s, rfl, hs⟩
    · rename_i e hu
      simp only [Bool.and_eq_true, beq_iff_eq] at hk
      rcases DataW.trod_slice hu h with ⟨rfl, _⟩ | ⟨a, len, cap, elems, rest, m, hm, rfl, _, _, hl, hcap, hlen, hel, _⟩
      · refine ⟨[.sl (P.cellsOf e) []], rfl, by rw [hk.2]; rfl, ?_, leafs_one ?_ rfl⟩
        · unfold Shp; rw [hu]; exact ⟨[], rfl, Nat.zero_le _, fun x hx => by cases hx⟩
        · exact .sl none 0 _ [] (fun _ _ => Go.undef) (Nat.le_refl _) (by simp) (by simp) (by simp) (by simp)
      · obtain rfl : m = n := by omega
        have each : ∀ i, i < len → ∃ ps cs', w.cells? base (a.add (i * P.cellsOf e)) (P.cellsOf e) = some cs' ∧ ps.length = P.cellsOf e ∧ Shp P m e ps ∧ Leafs w cs' ps := fun i hi => by
          have hE := hel i hi
          rw [List.getElem?_eq_getElem (by omega)] at hE
          obtain ⟨cs', hc, hy⟩ := Option.bind_eq_some_iff.1 hE
          obtain ⟨ps, h1, h2, h3, h4⟩ := open_any hT m e cs' _ hk.1 hy
          exact ⟨ps, cs', hc, by rw [h1, h2], h3, h4⟩
        have : ∃ f : Nat → List PV × List Value, ∀ i, i < len → w.cells? base (a.add (i * P.cellsOf e)) (P.cellsOf e) = some (f i).2 ∧ (f i).1.length = P.cellsOf e ∧ Shp P m e (f i).1 ∧ Leafs w (f i).2 (f i).1 := by
          refine ⟨fun i => if hi : i < len then ⟨Classical.choose (each i hi), Classical.choose (Classical.choose_spec (each i hi))⟩ else ([], []), fun i hi => ?_⟩
          simp only [dif_pos hi]
          exact Classical.choose_spec (Classical.choose_spec (each i hi))
        obtain ⟨f, hf⟩ := this
        have hxl : ((List.range len).map fun i => (f i).1).length = len := by simp
        have hmem : ∀ x ∈ (List.range len).map fun i => (f i).1, ∃ i, i < len ∧ x = (f i).1 := fun x hx => by
          obtain ⟨i, hi, rfl⟩ := List.mem_map.1 hx
          exact ⟨i, by simpa using hi, rfl⟩
        have hget : ∀ i x, ((List.range len).map fun i => (f i).1)[i]? = some x → i < len ∧ x = (f i).1 := fun i x hx => by
          rw [List.getElem?_map, Option.map_eq_some_iff] at hx
          obtain ⟨k, hk, rfl⟩ := hx
          obtain ⟨hi, hk⟩ := List.getElem?_eq_some_iff.1 hk
          simp at hk hi
          subst hk
          exact ⟨hi, rfl⟩
        have cell : ∀ i j p, i < len → (f i).1[j]? = some p → ∃ g o v, a = ⟨g, o, none⟩ ∧ g < w.heap.size ∧ w.cell? ⟨g, o + (i * P.cellsOf e + j), none⟩ = some v ∧ (f i).2[j]? = some v := fun i j p hi hp => by
          obtain ⟨h1, h2, h3, h4⟩ := hf i hi
          obtain ⟨hcl, hca⟩ := cells_at h1
          have hj : j < P.cellsOf e := by rw [← h2]; exact (List.getElem?_eq_some_iff.1 hp).1
          obtain ⟨g, o, he, hg, hcell⟩ := hca j _ (List.getElem?_eq_getElem (by omega))
          obtain ⟨hcl0, hca0⟩ := cells_at (hf 0 (by omega)).1
          obtain ⟨g0, o0, he0, _, _⟩ := hca0 0 _ (List.getElem?_eq_getElem (by omega))
          obtain ⟨g', o', s'⟩ := a
          have hsn : s' = none := by
            rw [Nat.zero_mul] at he0
            simp [Addr.add] at he0
            exact he0.2.2
          subst hsn
          rw [add_off] at he
          injection he with e1 e2 e3
          subst e1; subst e2
          exact ⟨g', o', _, rfl, hg, by rw [← Nat.add_assoc]; exact hcell, List.getElem?_eq_getElem _⟩
        refine ⟨[.sl (P.cellsOf e) ((List.range len).map fun i => (f i).1)], rfl, by rw [hk.2]; rfl, ?_, leafs_one ?_ rfl⟩
        · unfold Shp
          rw [hu]
          refine ⟨_, rfl, by rw [hxl]; omega, fun x hx => ?_⟩
          obtain ⟨i, hi, rfl⟩ := hmem x hx
          exact (hf i hi).2.2.1
        · have := Rep.sl (w := w) (ok := fun k => k < w.heap.size) (some a) cap (P.cellsOf e) ((List.range len).map fun i => (f i).1) (fun i j => ((f i).2[j]?).getD Go.undef) (by rw [hxl]; exact hl)
            (fun x hx => by obtain ⟨i, hi, rfl⟩ := hmem x hx; exact (hf i hi).2.1)
            (fun x hx p hp => by
              obtain ⟨i, hi, rfl⟩ := hmem x hx
              obtain ⟨j, hj⟩ := List.getElem?_of_mem hp
              obtain ⟨g, o, v, _, _, _, h5⟩ := cell i j p hi hj
              exact ((hf i hi).2.2.2 j v p h5 hj).2)
            (fun i x j p hx hp => by
              obtain ⟨hi, rfl⟩ := hget i x hx
              obtain ⟨g, o, v, h1, h2, h3, h5⟩ := cell i j p hi hp
              exact ⟨g, o, by rw [h1], h2, by rw [h5]; exact h3⟩)
            (fun i x j p hx hp => by
              obtain ⟨hi, rfl⟩ := hget i x hx
              obtain ⟨g, o, v, h1, h2, h3, h5⟩ := cell i j p hi hp
              rw [h5]
              exact ((hf i hi).2.2.2 j v p h5 hp).1)
          rw [hxl] at this
          exact this
    · rename_i e hu
      simp only [Bool.and_eq_true, beq_iff_eq] at hk
      rcases DataW.trod_pointer hu h with ⟨rfl, _⟩ | ⟨a, cs', y, m, hm, rfl, _, hc, hy⟩
      · refine ⟨[.nilp], rfl, by rw [hk.2]; rfl, ?_, leafs_one .nilp rfl⟩
        unfold Shp; rw [hu]; exact .inl rfl
      · obtain rfl : m = n := by omega
        obtain ⟨ps, h1, h2, h3, h4⟩ := open_any hT m e cs' _ hk.1 hy
        obtain ⟨hcl, hca⟩ := cells_at hc
        have cell : ∀ j p, ps[j]? = some p → ∃ v, cs'[j]? = some v := fun j p hp => ⟨_, List.getElem?_eq_getElem (by rw [← h1]; exact (List.getElem?_eq_some_iff.1 hp).1)⟩
        refine ⟨[.pc ps], rfl, by rw [hk.2]; rfl, ?_, leafs_one (.pc a ps (fun j => (cs'[j]?).getD Go.undef) (fun p hp => ?_) (fun j p hp => ?_) (fun j p hp => ?_)) rfl⟩
        · unfold Shp; rw [hu]; exact .inr ⟨ps, rfl, h3⟩
        · obtain ⟨j, hj⟩ := List.getElem?_of_mem hp
          obtain ⟨v, hv⟩ := cell j p hj
          exact (h4 j v p hv hj).2
        · obtain ⟨v, hv⟩ := cell j p hp
          obtain ⟨g, o, e1, e2, e3⟩ := hca j v hv
          exact ⟨g, o, e1, e2, by rw [hv]; exact e3⟩
        · obtain ⟨v, hv⟩ := cell j p hp
          rw [hv]
          exact (h4 j v p hv hp).1
    · rename_i fs hu
      simp only [Bool.and_eq_true] at hk
      obtain ⟨xs, m, hm, _, hl, hxl, hf⟩ := DataW.trod_struct hu h
      obtain rfl : m = n := by omega
      obtain ⟨ps, h1, h2, h3⟩ := open_fields (P := P) (fun _ _ _ _ => trivial) T (fun t cs x ht h => open_any hT m t cs x ht h) cs fs.toList 0 hk.1 (by rw [hl]; exact hk.2) (fun f hfm => by
        obtain ⟨i, hi⟩ := List.getElem?_of_mem hfm
        have hi' : fs[i]? = some f := by simpa using hi
        have := hf i f hi'
        have hix : i < xs.length := by rw [hxl]; exact (Array.getElem?_eq_some_iff.1 hi').1
        exact ⟨_, by rw [this]; exact List.getElem?_eq_getElem hix⟩)
      rw [List.drop_zero] at h1 h3
      refine ⟨ps, h1, hl, ?_, h3⟩
      unfold Shp
      rw [hu]
      exact h2
    · cases hk
/-- an argument of one leaf -/
theorem open_arg {T : List TypeId} (hT : closedT P T = true) {fuel : Nat} {t : TypeId} {v : Value} {x : DataW H × List MemPlace} (hv : v.cells.toList = [v]) (ht : T.contains t = true) (h : DataW.trod enc P w base spare held fuel t v.cells.toList = some x) :
    ∃ p, Shp P fuel t [p] ∧ Rep w (fun k => k < w.heap.size) v p ∧ plainLeaf p = true := by
  obtain ⟨ps, h1, h2, h3, h4⟩ := open_any hT fuel t _ x ht h
  rw [hv] at h1 h4
  match ps, h1 with
  | [p], _ =>
    obtain ⟨h5, h6⟩ := h4 0 v p rfl rfl
    exact ⟨p, h3, h5, h6⟩
end
end Go.Den
