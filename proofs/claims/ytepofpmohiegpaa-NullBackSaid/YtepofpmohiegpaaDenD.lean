/- Den, part D: what an entry may become: frozen, gone, written, moved. -/
import Derived.Test.YtepofpmohiegpaaDenC
namespace Go.Den

/-! ### a run of cells written -/
def arrSet (cur : Array Value) : Nat → List Value → Array Value
  | _, [] => cur
  | o, v :: r => arrSet (cur.setIfInBounds o v) (o + 1) r
theorem arrSet_size : ∀ (vs : List Value) (o : Nat) (cur : Array Value), (arrSet cur o vs).size = cur.size
  | [], _, _ => rfl
  | v :: r, o, cur => by rw [arrSet, arrSet_size r]; simp
theorem arrSet_out : ∀ (vs : List Value) (o : Nat) (cur : Array Value) (i : Nat), (i < o ∨ o + vs.length ≤ i) → (arrSet cur o vs)[i]? = cur[i]?
  | [], _, _, _, _ => rfl
  | v :: r, o, cur, i, h => by
    rw [arrSet, arrSet_out r (o + 1) _ i (by simp at h; omega), Array.getElem?_setIfInBounds_ne (by simp at h; omega)]
theorem arrSet_in : ∀ (vs : List Value) (o : Nat) (cur : Array Value), o + vs.length ≤ cur.size → ∀ j v, vs[j]? = some v → (arrSet cur o vs)[o + j]? = some v
  | v :: r, o, cur, h, 0, u, hu => by
    simp only [List.length_cons] at h
    rw [arrSet, arrSet_out r (o + 1) _ _ (by omega)]
    simp at hu
    subst hu
    simp only [Nat.add_zero]
    rw [Array.getElem?_setIfInBounds_self_of_lt (by omega)]
  | v :: r, o, cur, h, j + 1, u, hu => by
    simp only [List.length_cons] at h
    rw [arrSet, show o + (j + 1) = o + 1 + j by omega]
    exact arrSet_in r (o + 1) _ (by simp; omega) j u (by simpa using hu)

theorem setCell_heap_same {w : World} {b o : Nat} {v : Value} {cur t fz} (h : w.heap[b]? = some (.cells cur t fz)) : (w.setCell ⟨b, o, none⟩ v).heap[b]? = some (.cells (cur.setIfInBounds o v) t fz) := by
  simp [World.setCell, Array.getElem?_modify, h]
theorem setCell_heap_other {w : World} {b o k : Nat} {v : Value} (h : k ≠ b) : (w.setCell ⟨b, o, none⟩ v).heap[k]? = w.heap[k]? := by
  simp [World.setCell, Array.getElem?_modify, h.symm]
theorem setCell_size {w : World} {a : Addr} {v : Value} : (w.setCell a v).heap.size = w.heap.size := by
  simp [World.setCell]
theorem setCells_same : ∀ (vs : List Value) (w : World) (b o : Nat) {cur t fz}, w.heap[b]? = some (.cells cur t fz) → (w.setCells b o vs).heap[b]? = some (.cells (arrSet cur o vs) t fz)
  | [], _, _, _, _, _, _, h => h
  | v :: r, w, b, o, _, _, _, h => setCells_same r (w.setCell ⟨b, o, none⟩ v) b (o + 1) (setCell_heap_same h)
theorem setCells_other : ∀ (vs : List Value) (w : World) (b o k : Nat), k ≠ b → (w.setCells b o vs).heap[k]? = w.heap[k]?
  | [], _, _, _, _, _ => rfl
  | v :: r, w, b, o, k, h => (setCells_other r (w.setCell ⟨b, o, none⟩ v) b (o + 1) k h).trans (setCell_heap_other h)
theorem setCells_rest : ∀ (vs : List Value) (w : World) (b o : Nat), (w.setCells b o vs).heap.size = w.heap.size ∧ (w.setCells b o vs).os = w.os ∧ (w.setCells b o vs).tape = w.tape ∧ (w.setCells b o vs).output = w.output
  | [], _, _, _ => ⟨rfl, rfl, rfl, rfl⟩
  | v :: r, w, b, o => by
    obtain ⟨h1, h2, h3, h4⟩ := setCells_rest r (w.setCell ⟨b, o, none⟩ v) b (o + 1)
    exact ⟨h1.trans setCell_size, h2, h3, h4⟩

/-! ### frozen -/
/-- A row of one's own, read. -/
theorem RowAt.reads {w ok ok' v e sz xs} (h : RowAt w ok v e sz xs) (hk : ∀ k, ok k → ok' k) (hg : ∀ k, v.ownBlock = some k → ok' k) : Rep w ok' v (.sl sz xs) := by
  rcases h with ⟨rfl, rfl⟩ | ⟨g, c, cur, fz, rfl, h1, h2, h3, h4, h5, h6, h7⟩
  · exact .sl none 0 sz [] (fun _ _ => Go.undef) (Nat.le_refl _) (by simp) (by simp) (by simp) (by simp)
  · refine .sl _ c sz xs (fun i j => (cur[i * sz + j]?).getD Go.undef) h2 h5 h6 (fun i x j p hx hp => ?_) (fun i x j p hx hp => ?_)
    · obtain ⟨u, hu, _⟩ := h7 i x j p hx hp
      refine ⟨g, 0, rfl, hg g (by simp [Value.ownBlock]), ?_⟩
      rw [cell_of_heap h1, Nat.zero_add, hu]; simp
    · obtain ⟨u, hu, hr⟩ := h7 i x j p hx hp
      rw [hu]
      exact hr.mono (fun k hk' => ⟨hk k hk', rfl⟩)

theorem RelW.freeze {w0 bl D w m G d e} (h : RelW w0 bl D w m G) (hd : m d = some e) :
    RelW w0 bl D w (upd m d (some ⟨false, e.c⟩)) G ∧ Adv w (okP w m G) G w (okP w (upd m d (some ⟨false, e.c⟩)) G) G := by
  refine h.step (fun x => x = d) (fun _ _ => ⟨rfl, rfl, rfl⟩) (fun _ h => h) (fun x hx hv => absurd (h.dom x hv) hx) rfl rfl rfl (Nat.le_refl _) rfl (fun _ _ => rfl) (fun x hx => upd_ne _ _ hx) (fun _ _ _ _ _ _ => rfl)
    (fun x e1 k hu he ho => ?_) (fun _ _ _ _ _ hu hu' _ _ _ _ => hu.trans hu'.symm) (fun ha x e1 hu he => ?_)
  · subst hu
    simp only [upd_eq, Option.some.injEq] at he
    subst he
    simp [ownB] at ho
  · subst hu
    simp only [upd_eq, Option.some.injEq] at he
    subst he
    have hx := h.ent x e hd
    have hin : ∀ k, ownB G x e = some k → okP w (upd m x (some ⟨false, e.c⟩)) G k := fun k hk => ⟨h.all k (h.new x e k hd hk), hx.lt hk, fun x1 e1 h1 ho => by
      by_cases h2 : x1 = x
      · subst h2
        simp only [upd_eq, Option.some.injEq] at h1
        subst h1
        simp [ownB] at ho
      · rw [upd_ne _ _ h2] at h1
        exact h2 (h.sep x1 x e1 e k h1 hd ho hk)⟩
    obtain ⟨own, c⟩ := e
    cases own <;> cases c with
    | row e sz xs =>
      first
        | exact hx.adv ha (fun _ _ => rfl)
        | (obtain ⟨v, hv, hz, hr⟩ := hx
           refine ⟨v, hv, hz, hr.reads (fun k hk => (ha.ok k hk).1) (fun k hk => hin k (by simp [ownB, hv, hk])), fun hne => ?_⟩
           rcases hr with ⟨_, h0⟩ | ⟨g, c, _, _, h1, _⟩
           · exact absurd h0 hne
           · exact ⟨g, c, h1⟩)
    | box cs =>
      first
        | exact hx.adv ha (fun _ _ => rfl)
        | (obtain ⟨b, hb, cur, t, fz, h1, h2, h3, h4⟩ := hx
           refine ⟨b, hb, fun j p hp => ⟨hin b (by simp [ownB, hb]), ?_⟩⟩
           obtain ⟨u, hu, hr⟩ := h4 j p hp
           exact ⟨u, by rw [cell_of_heap h1, hu], hr.adv ha⟩)

/-! ### gone -/
theorem RelW.gone {w0 bl D w m G} (h : RelW w0 bl D w m G) (d : Nat) : RelW w0 bl D w (upd m d none) G ∧ Adv w (okP w m G) G w (okP w (upd m d none) G) G :=
  h.step (fun x => x = d) (fun _ _ => ⟨rfl, rfl, rfl⟩) (fun _ h => h) (fun x hx hv => absurd (h.dom x hv) hx) rfl rfl rfl (Nat.le_refl _) rfl (fun _ _ => rfl) (fun x hx => upd_ne _ _ hx) (fun _ _ _ _ _ _ => rfl)
    (fun x e1 k hu he ho => by subst hu; simp [upd_eq] at he) (fun _ _ _ _ _ hu hu' _ _ _ _ => hu.trans hu'.symm) (fun ha x e1 hu he => by subst hu; simp [upd_eq] at he)

/-! ### a variable written -/
theorem RelW.boxSet {w0 bl D w m G d cs b cur t fz} (h : RelW w0 bl D w m G) (hd : m d = some ⟨true, .box cs⟩) (hb : G.B d = some b) (hh : w.heap[b]? = some (.cells cur t fz)) (hz : noFz fz cur.size)
    (o : Nat) (vs : List Value) (cs' : List PV) (hl : cs'.length = cs.length) (hc : cur.size = cs.length)
    (hr : ∀ (j : Nat) p, cs'[j]? = some p → ∃ u, (arrSet cur o vs)[j]? = some u ∧ RepL w (okP w m G) G u p) :
    RelW w0 bl D (w.setCells b o vs) (upd m d (some ⟨true, .box cs'⟩)) G ∧ Adv w (okP w m G) G (w.setCells b o vs) (okP (w.setCells b o vs) (upd m d (some ⟨true, .box cs'⟩)) G) G := by
  obtain ⟨r1, r2, r3, r4⟩ := setCells_rest vs w b o
  have hown : ownB G d ⟨true, .box cs⟩ = some b := by simp [ownB, hb]
  refine h.step (fun x => x = d) (fun _ _ => ⟨rfl, rfl, rfl⟩) (fun _ h => h) (fun x hx hv => absurd (h.dom x hv) hx) r2 r3 r4 (by rw [r1]; exact Nat.le_refl _) rfl (fun k hk => setCells_other _ _ _ _ _ (fun he => hk.2 d _ hd (he ▸ hown))) (fun x hx => upd_ne _ _ hx)
    (fun x e1 hx he k ho => setCells_other _ _ _ _ _ (fun hkb => hx (h.sep x d e1 _ b he hd (hkb ▸ ho) hown)))
    (fun x e1 k hu he ho => ?_) (fun _ _ _ _ _ hu hu' _ _ _ _ => hu.trans hu'.symm) (fun ha x e1 hu he => ?_)
  · subst hu
    simp only [upd_eq, Option.some.injEq] at he
    subst he
    simp only [ownB, hb, Option.some.injEq] at ho
    subst ho
    exact ⟨fun hk => hk.2 x _ hd hown, fun x1 e1 hx1 h1 ho1 => hx1 (h.sep x1 x e1 _ _ h1 hd ho1 hown), h.new x _ _ hd hown⟩
  · subst hu
    simp only [upd_eq, Option.some.injEq] at he
    subst he
    refine ⟨b, hb, _, t, fz, setCells_same vs w b o hh, by rw [arrSet_size, hc, hl], by rw [arrSet_size]; exact hz, fun j p hp => ?_⟩
    obtain ⟨u, hu, hrep⟩ := hr j p hp
    exact ⟨u, hu, hrep.adv ha⟩

/-! ### a row written, in its own place -/
theorem RelW.rowSet {w0 bl D w m G d e sz xs g n c cur fz} (h : RelW w0 bl D w m G) (hd : m d = some ⟨true, .row e sz xs⟩) (hv : G.V d = some (.slice (some ⟨g, 0, none⟩) n c)) (hh : w.heap[g]? = some (.cells cur e fz)) (hfz : noFz fz cur.size)
    (o : Nat) (vs : List Value) (xs' : List (List PV)) (hn : xs'.length = n) (hc : n ≤ c) (hcur : c * sz ≤ cur.size) (hz : ∀ x ∈ xs', x.length = sz) (hp : ∀ x ∈ xs', ∀ p ∈ x, plainLeaf p = true) (hzd : G.Z d = sz)
    (hr : ∀ (i : Nat) x (j : Nat) p, xs'[i]? = some x → x[j]? = some p → ∃ u, (arrSet cur o vs)[i * sz + j]? = some u ∧ Rep w (okP w m G) u p) :
    RelW w0 bl D (w.setCells g o vs) (upd m d (some ⟨true, .row e sz xs'⟩)) G ∧ Adv w (okP w m G) G (w.setCells g o vs) (okP (w.setCells g o vs) (upd m d (some ⟨true, .row e sz xs'⟩)) G) G := by
  obtain ⟨r1, r2, r3, r4⟩ := setCells_rest vs w g o
  have hown : ∀ ys, ownB G d ⟨true, .row e sz ys⟩ = some g := fun ys => by simp [ownB, hv, Value.ownBlock]
  refine h.step (fun x => x = d) (fun _ _ => ⟨rfl, rfl, rfl⟩) (fun _ h => h) (fun x hx hv => absurd (h.dom x hv) hx) r2 r3 r4 (by rw [r1]; exact Nat.le_refl _) rfl (fun k hk => setCells_other _ _ _ _ _ (fun he => hk.2 d _ hd (he ▸ hown xs))) (fun x hx => upd_ne _ _ hx)
    (fun x e1 hx he k ho => setCells_other _ _ _ _ _ (fun hkb => hx (h.sep x d e1 _ g he hd (hkb ▸ ho) (hown xs))))
    (fun x e1 k hu he ho => ?_) (fun _ _ _ _ _ hu hu' _ _ _ _ => hu.trans hu'.symm) (fun ha x e1 hu he => ?_)
  · subst hu
    simp only [upd_eq, Option.some.injEq] at he
    subst he
    rw [hown] at ho
    simp only [Option.some.injEq] at ho
    subst ho
    exact ⟨fun hk => hk.2 x _ hd (hown xs), fun x1 e1 hx1 h1 ho1 => hx1 (h.sep x1 x e1 _ _ h1 hd ho1 (hown xs)), h.new x _ _ hd (hown xs)⟩
  · subst hu
    simp only [upd_eq, Option.some.injEq] at he
    subst he
    refine ⟨_, hv, hzd, .inr ⟨g, c, _, fz, by rw [hn], setCells_same vs w g o hh, by rw [hn]; exact hc, by rw [arrSet_size]; exact hcur, by rw [arrSet_size]; exact hfz, hz, hp, fun i x j p hx hp => ?_⟩⟩
    obtain ⟨u, hu, hrep⟩ := hr i x j p hx hp
    exact ⟨u, hu, hrep.mono ha.ok⟩

/-! ### a row that goes on under another id, written or not: an append in place, a clip -/
theorem RelW.rowMove {w0 bl D w m G d e sz xs g n c cur fz} (h : RelW w0 bl D w m G) {fid : Nat} (hf : ¬ D fid) {D' : Nat → Prop} (hD : ∀ d, D d → D' d) (hD' : D' fid)
    (hd : m d = some ⟨true, .row e sz xs⟩) (hv : G.V d = some (.slice (some ⟨g, 0, none⟩) n c)) (hh : w.heap[g]? = some (.cells cur e fz)) (hfz : noFz fz cur.size)
    (o : Nat) (vs : List Value) (xs' : List (List PV)) (c' : Nat) (hc : xs'.length ≤ c') (hcur : c' * sz ≤ cur.size) (hz : ∀ x ∈ xs', x.length = sz) (hp : ∀ x ∈ xs', ∀ p ∈ x, plainLeaf p = true)
    (hr : ∀ (i : Nat) x (j : Nat) p, xs'[i]? = some x → x[j]? = some p → ∃ u, (arrSet cur o vs)[i * sz + j]? = some u ∧ Rep w (okP w m G) u p) :
    RelW w0 bl D' (w.setCells g o vs) (upd (upd m d none) fid (some ⟨true, .row e sz xs'⟩)) (G.withV fid (.slice (some ⟨g, 0, none⟩) xs'.length c') sz) ∧
    Adv w (okP w m G) G (w.setCells g o vs) (okP (w.setCells g o vs) (upd (upd m d none) fid (some ⟨true, .row e sz xs'⟩)) (G.withV fid (.slice (some ⟨g, 0, none⟩) xs'.length c') sz)) (G.withV fid (.slice (some ⟨g, 0, none⟩) xs'.length c') sz) := by
  obtain ⟨r1, r2, r3, r4⟩ := setCells_rest vs w g o
  have hown : ownB G d ⟨true, .row e sz xs⟩ = some g := by simp [ownB, hv, Value.ownBlock]
  have hne : ∀ d, D d → d ≠ fid := fun d hd he => hf (he ▸ hd)
  have hdD : D d := h.dom d (.inl (by rw [hv]; simp))
  refine h.step (fun x => x = d ∨ x = fid) (fun x hx => ⟨by simp [Gh.withV, upd_ne _ _ (hne x hx)], rfl, by simp [Gh.withV, upd_ne _ _ (hne x hx)]⟩) hD (fun x hx hv' => ?_) r2 r3 r4 (by rw [r1]; exact Nat.le_refl _) rfl (fun k hk => setCells_other _ _ _ _ _ (fun he => hk.2 d _ hd (he ▸ hown)))
    (fun x hx => by rw [upd_ne _ _ (fun h => hx (.inr h)), upd_ne _ _ (fun h => hx (.inl h))])
    (fun x e1 hx he k ho => setCells_other _ _ _ _ _ (fun hkb => hx (.inl (h.sep x d e1 _ g he hd (hkb ▸ ho) hown))))
    (fun x e1 k hu he ho => ?_) (fun x x' e1 e1' k hu hu' he he' _ _ => ?_) (fun ha x e1 hu he => ?_)
  · by_cases hxf : x = fid
    · exact hxf ▸ hD'
    · have := h.free hx
      simp [Gh.withV, upd_ne _ _ hxf, this] at hv'
  · have hx : x = fid := by
      rcases hu with rfl | rfl
      · rw [upd_ne _ _ (hne _ hdD), upd_eq] at he; cases he
      · rfl
    subst hx
    simp only [upd_eq, Option.some.injEq] at he
    subst he
    simp only [ownB, Gh.withV, upd_eq, Option.bind_some, Value.ownBlock, Option.some.injEq] at ho
    subst ho
    exact ⟨fun hk => hk.2 d _ hd hown, fun x1 e1 hx1 h1 ho1 => hx1 (.inl (h.sep x1 d e1 _ _ h1 hd ho1 hown)), h.new d _ _ hd hown⟩
  · have aux : ∀ y ey, (y = d ∨ y = fid) → upd (upd m d none) fid (some ⟨true, .row e sz xs'⟩) y = some ey → y = fid := fun y ey hy hey => by
      rcases hy with rfl | rfl
      · rw [upd_ne _ _ (hne _ hdD), upd_eq] at hey; cases hey
      · rfl
    exact (aux x e1 hu he).trans (aux x' e1' hu' he').symm
  · have hx : x = fid := by
      rcases hu with rfl | rfl
      · rw [upd_ne _ _ (hne _ hdD), upd_eq] at he; cases he
      · rfl
    subst hx
    simp only [upd_eq, Option.some.injEq] at he
    subst he
    refine ⟨_, by simp [Gh.withV, upd_eq], by simp [Gh.withV, upd_eq], .inr ⟨g, c', _, fz, rfl, setCells_same vs w g o hh, hc, by rw [arrSet_size]; exact hcur, by rw [arrSet_size]; exact hfz, hz, hp, fun i x j p hx hp => ?_⟩⟩
    obtain ⟨u, hu, hrep⟩ := hr i x j p hx hp
    exact ⟨u, hu, hrep.mono ha.ok⟩
/-- A row that is nil goes on so. -/
theorem RelW.nilMove {w0 bl D w m G d e sz} (h : RelW w0 bl D w m G) {fid : Nat} (hf : ¬ D fid) {D' : Nat → Prop} (hD : ∀ d, D d → D' d) (hD' : D' fid) (hd : ∀ x, m d = some x → ownB G d x = none) :
    RelW w0 bl D' w (upd (upd m d none) fid (some ⟨true, .row e sz []⟩)) (G.withV fid (.slice none 0 0) sz) ∧
    Adv w (okP w m G) G w (okP w (upd (upd m d none) fid (some ⟨true, .row e sz []⟩)) (G.withV fid (.slice none 0 0) sz)) (G.withV fid (.slice none 0 0) sz) := by
  have hne : ∀ d, D d → d ≠ fid := fun d hd he => hf (he ▸ hd)
  have aux : ∀ y ey, (y = d ∨ y = fid) → upd (upd m d none) fid (some ⟨true, .row e sz []⟩) y = some ey → y = fid ∧ ey = ⟨true, .row e sz []⟩ := fun y ey hy hey => by
    by_cases h1 : y = fid
    · subst h1; simp only [upd_eq, Option.some.injEq] at hey; exact ⟨rfl, hey.symm⟩
    · rcases hy with rfl | rfl
      · rw [upd_ne _ _ h1, upd_eq] at hey; cases hey
      · exact absurd rfl h1
  refine h.step (fun x => x = d ∨ x = fid) (fun x hx => ⟨by simp [Gh.withV, upd_ne _ _ (hne x hx)], rfl, by simp [Gh.withV, upd_ne _ _ (hne x hx)]⟩) hD (fun x hx hv' => ?_) rfl rfl rfl (Nat.le_refl _) rfl (fun _ _ => rfl)
    (fun x hx => by rw [upd_ne _ _ (fun h => hx (.inr h)), upd_ne _ _ (fun h => hx (.inl h))]) (fun _ _ _ _ _ _ => rfl)
    (fun x e1 k hu he ho => ?_) (fun x x' e1 e1' k hu hu' he he' _ _ => (aux x e1 hu he).1.trans (aux x' e1' hu' he').1.symm) (fun ha x e1 hu he => ?_)
  · by_cases hxf : x = fid
    · exact hxf ▸ hD'
    · have := h.free hx
      simp [Gh.withV, upd_ne _ _ hxf, this] at hv'
  · obtain ⟨rfl, rfl⟩ := aux x e1 hu he
    simp [ownB, Gh.withV, upd_eq, Value.ownBlock] at ho
  · obtain ⟨rfl, rfl⟩ := aux x e1 hu he
    exact ⟨_, by simp [Gh.withV, upd_eq], by simp [Gh.withV, upd_eq], .inl ⟨rfl, rfl⟩⟩
end Go.Den
