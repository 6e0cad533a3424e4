/- Den, part Q: calls. -/
import Derived.Test.YtepofpmohiegpaaDenP
namespace Go.Den
variable {P : Program} {w0 w : World} {bl : List Nat} {D D' : Nat → Prop} {m m1 : Nat → Option Ent} {G : Gh}

def lentB (bl : List Nat) (d : Nat) : Option Nat := if 16777216 ≤ d then bl[d - 16777216]? else none
theorem lentB_id (bl : List Nat) (j : Nat) : lentB bl (lentId j) = bl[j]? := by simp [lentB, lentId]
theorem lentB_some {bl : List Nat} {d b : Nat} (h : lentB bl d = some b) : ∃ j, d = lentId j ∧ bl[j]? = some b := by
  unfold lentB at h
  split at h
  · exact ⟨d - 16777216, by simp only [lentId]; omega, h⟩
  · cases h

/-! ### what a function is shown to do -/
structure LentOk (w : World) (ok : Nat → Prop) (bl : List Nat) (lent : List (List PV)) : Prop where
  len : bl.length = lent.length
  nodup : bl.Nodup
  box : ∀ (j : Nat) b cs, bl[j]? = some b → lent[j]? = some cs → ∃ cur t fz, w.heap[b]? = some (.cells cur t fz) ∧ cur.size = cs.length ∧ noFz fz cur.size ∧ ∀ (i : Nat) p, cs[i]? = some p → plainLeaf p = true ∧ ∃ u, cur[i]? = some u ∧ Rep w ok u p
def ArgsOk (w : World) (ok : Nat → Prop) (G : Gh) (vs : Array Value) (ps : List PV) : Prop := vs.size = ps.length ∧ ∀ (j : Nat) v p, vs[j]? = some v → ps[j]? = some p → RepS w ok G v p
def Gl (w : World) (ok : Nat → Prop) (bl : List Nat) : Gh := ⟨fun _ => none, lentB bl, fun _ => 0, fun k => ok k ∨ w.heap.size ≤ k ∨ k ∈ bl⟩
def okB (w w' : World) (ok : Nat → Prop) (bs : List Nat) (k : Nat) : Prop := (ok k ∨ w.heap.size ≤ k) ∧ k < w'.heap.size ∧ k ∉ bs
structure Back (w : World) (ok : Nat → Prop) (bl : List Nat) (res : PV) (lent : List (List PV)) (v : Value) (w' : World) : Prop where
  kept : Kept w w' bl
  ex : ∃ bs bss, (bs ++ bss).Nodup ∧ (∀ k ∈ bs ++ bss, w.heap.size ≤ k) ∧ RXR w' (okB w w' ok (bs ++ bss)) v res bs ∧ LX w' (okB w w' ok (bs ++ bss)) bl lent bss
def Contract (P : Program) (f : FuncId) (args : List PV) (lent : List (List PV)) (res : PV) (lent' : List (List PV)) : Prop :=
  ∀ (w : World) (vs : Array Value) (bl : List Nat) (ok : Nat → Prop), (∀ k, ok k → k < w.heap.size ∧ k ∉ bl) → LentOk w ok bl lent → ArgsOk w ok (Gl w ok bl) vs args →
    Calls P f vs w fun e w' => ∃ v, e = .returned v ∧ Back w ok bl res lent' v w'

/-! ### writes, read -/
theorem putF_sets : ∀ {wr : Wr} {m : Nat → Option Ent}, (∀ x ∈ wr, ∃ c, x.2 = .set c) → ∀ d, (putF m wr d = m d ∧ ∀ x ∈ wr, x.1 ≠ d) ∨ ∃ c, (d, .set c) ∈ wr ∧ putF m wr d = some ⟨true, c⟩
  | [], m, h, d => .inl ⟨rfl, by simp⟩
  | (d1, y) :: r, m, h, d => by
    obtain ⟨c, hc⟩ := h _ (List.mem_cons_self)
    simp only at hc
    subst hc
    rcases putF_sets (wr := r) (m := upd m d1 (some ⟨true, c⟩)) (fun x hx => h x (List.mem_cons_of_mem _ hx)) d with ⟨h1, h2⟩ | ⟨c', h1, h2⟩
    · by_cases hd : d = d1
      · subst hd
        exact .inr ⟨c, List.mem_cons_self, by rw [putF, h1, upd_eq]⟩
      · exact .inl ⟨by rw [putF, h1, upd_ne _ _ hd], fun x hx => (List.mem_cons.1 hx).elim (fun hx => by subst hx; exact fun he => hd he.symm) (h2 x)⟩
    · exact .inr ⟨c', List.mem_cons_of_mem _ h1, by rw [putF, h2]⟩

theorem find_of_nodup : ∀ {N : List NE}, (N.map (·.id)).Nodup → ∀ x ∈ N, N.find? (fun y => y.id == x.id) = some x
  | y :: r, h, x, hx => by
    simp only [List.map_cons, List.nodup_cons, List.mem_map, not_exists, not_and] at h
    rcases List.mem_cons.1 hx with rfl | hx
    · simp
    · rw [List.find?_cons_of_neg (by simpa using fun he => h.1 x hx he.symm)]
      exact find_of_nodup h.2 x hx
theorem inj_of_nodup : ∀ {N : List NE}, (N.filterMap NE.blk).Nodup → ∀ x ∈ N, ∀ y ∈ N, ∀ k, x.blk = some k → y.blk = some k → x = y
  | z :: r, h, x, hx, y, hy, k, h1, h2 => by
    have key : ∀ {a b}, a = z → b ∈ r → a.blk = some k → b.blk = some k → False := fun ha hb hak hbk => by
      subst ha
      rw [List.filterMap_cons_some hak, List.nodup_cons] at h
      exact h.1 (List.mem_filterMap.2 ⟨_, hb, hbk⟩)
    rcases List.mem_cons.1 hx with hx' | hx' <;> rcases List.mem_cons.1 hy with hy' | hy'
    · rw [hx', hy']
    · exact (key hx' hy' h1 h2).elim
    · exact (key hy' hx' h2 h1).elim
    · refine inj_of_nodup (N := r) ?_ x hx' y hy' k h1 h2
      rw [List.filterMap_cons] at h
      split at h
      · exact h
      · exact (List.nodup_cons.1 h).2

/-- The ghost with what is new. -/
def Gh.withN (G : Gh) (N : List NE) : Gh where
  V := fun d => match N.find? (fun y => y.id == d) with | some x => (match x.c with | .row .. => some x.v | .box _ => G.V d) | none => G.V d
  B := fun d => match N.find? (fun y => y.id == d) with | some x => (match x.c with | .row .. => G.B d | .box _ => match x.v with | .pointer (some a) => some a.block | _ => G.B d) | none => G.B d
  Z := fun d => match N.find? (fun y => y.id == d) with | some x => (match x.c with | .row _ sz _ => sz | .box _ => G.Z d) | none => G.Z d
  A := G.A
theorem Gh.withN_out {N : List NE} {d : Nat} (h : ∀ x ∈ N, x.id ≠ d) : (G.withN N).V d = G.V d ∧ (G.withN N).B d = G.B d ∧ (G.withN N).Z d = G.Z d := by
  have : N.find? (fun y => y.id == d) = none := List.find?_eq_none.2 fun x hx => by simpa using h x hx
  simp [Gh.withN, this]
theorem Gh.withN_holds {N : List NE} (h : (N.map (·.id)).Nodup) (hs : ∀ x ∈ N, ∀ cs, x.c = .box cs → ∃ b, x.v = .pointer (some ⟨b, 0, none⟩)) : HoldsN (G.withN N) N := fun x hx => by
  have hf := find_of_nodup h x hx
  have := hs x hx
  cases hc : x.c with
  | row e sz xs => simp [Gh.withN, hf, hc]
  | box cs =>
    obtain ⟨b, hb⟩ := this cs hc
    exact ⟨b, hb, by simp [Gh.withN, hf, hc, hb]⟩

theorem EntOk.okmono {ok ok' : Nat → Prop} {d e} (h : EntOk w ok G d e) (hk : ∀ k, ok k → ok' k) : EntOk w ok' G d e :=
  h.adv ⟨fun _ _ h => h, fun _ _ h => h, fun _ _ => rfl, fun k h => ⟨hk k h, rfl⟩, rfl⟩ (fun _ _ => rfl)

theorem RelW.takeIn {w' : World} (h : RelW w0 bl D w m G) {fid : Nat} (hf : Fr D D' fid) {ds bl' : List Nat} (hl : ds.length = bl'.length)
    (hd : ∀ (i : Nat) d b, ds[i]? = some d → bl'[i]? = some b → (∃ cs, m d = some ⟨true, .box cs⟩) ∧ G.B d = some b)
    {res : PV} {lent : List (List PV)} {v : Value} (hb : Back w (okP w m G) bl' res lent v w') {p : PV} {w1 wb : Wr} {j j' : Nat} (h1 : impR fid 0 res = (p, w1, j)) (h2 : impB fid j ds lent = some (wb, j')) (h3 : j' ≤ 64) :
    After w0 bl D' w m G p (w1 ++ wb) v w' := by
  obtain ⟨hk, bs, bss, hnd, hge, hx, hlx⟩ := hb
  obtain ⟨N, p', wr, j1, e1, t1, f1, r1⟩ := impR_sim hx fid 0
  rw [e1] at h1
  injection h1 with ha1 ha2; injection ha2 with ha2 ha3
  subst ha1; subst ha2; subst ha3
  obtain ⟨N', wb', j2, css, wr', e2, t2, f2, l2, m2, r2⟩ := impB_sim hlx fid j1 ds hl
  rw [e2] at h2
  injection h2 with h2; injection h2 with ha1 ha2
  subst ha1; subst ha2
  have T := t1.append t2
  have F := f1.append f2
  have hidn : ((N ++ N').map (·.id)).Nodup := by rw [T.ids]; exact List.nodup_range' ..
  have hid : ∀ x ∈ N ++ N', ∃ i, i < 64 ∧ x.id = fid + i := fun x hx => by
    have := List.mem_map_of_mem (f := (·.id)) hx
    rw [T.ids, List.mem_range'_1] at this
    have hj := T.j'
    exact ⟨x.id - fid, by omega, by omega⟩
  have hbn : ((N ++ N').filterMap NE.blk).Nodup := by rw [T.blks]; exact hnd
  have hbk : ∀ x ∈ N ++ N', ∀ k, x.blk = some k → k ∈ bs ++ bss := fun x hx k hk => by
    rw [← T.blks]; exact List.mem_filterMap.2 ⟨x, hx, hk⟩
  have hH := Gh.withN_holds (G := G) hidn T.shape
  have hmemw : ∀ x, x ∈ wr ++ wb' ↔ (∃ y ∈ N ++ N', x = (y.id, .set y.c)) ∨ ∃ (i : Nat) (d : Nat) (cs : List PV), ds[i]? = some d ∧ css[i]? = some cs ∧ x = (d, .set (.box cs)) := fun x => by
    rw [List.mem_append, m2, t1.wr, t2.wr]
    simp only [List.mem_map, List.mem_append]
    constructor
    · rintro (⟨y, hy, rfl⟩ | ⟨y, hy, rfl⟩ | h)
      · exact .inl ⟨y, .inl hy, rfl⟩
      · exact .inl ⟨y, .inr hy, rfl⟩
      · exact .inr h
    · rintro (⟨y, hy | hy, rfl⟩ | h)
      · exact .inl ⟨y, hy, rfl⟩
      · exact .inr (.inl ⟨y, hy, rfl⟩)
      · exact .inr (.inr h)
  have hsets : ∀ x ∈ wr ++ wb', ∃ c, x.2 = .set c := fun x hx => by
    rcases (hmemw x).1 hx with ⟨y, _, rfl⟩ | ⟨i, d, cs, _, _, rfl⟩ <;> exact ⟨_, rfl⟩
  have hdsown : ∀ d ∈ ds, ∃ i b cs, ds[i]? = some d ∧ bl'[i]? = some b ∧ m d = some ⟨true, .box cs⟩ ∧ G.B d = some b := fun d hdm => by
    obtain ⟨i, hi⟩ := List.mem_iff_getElem?.1 hdm
    have hlt := (List.getElem?_eq_some_iff.1 hi).1
    obtain ⟨⟨cs, hm⟩, hB⟩ := hd i d _ hi (List.getElem?_eq_getElem (by omega))
    exact ⟨i, _, cs, hi, List.getElem?_eq_getElem (by omega), hm, hB⟩
  have hbown : ∀ b ∈ bl', ∃ d cs, d ∈ ds ∧ m d = some ⟨true, .box cs⟩ ∧ G.B d = some b := fun b hbm => by
    obtain ⟨i, hi⟩ := List.mem_iff_getElem?.1 hbm
    have hlt := (List.getElem?_eq_some_iff.1 hi).1
    obtain ⟨⟨cs, hm⟩, hB⟩ := hd i _ b (List.getElem?_eq_getElem (by omega)) hi
    exact ⟨_, cs, List.getElem_mem (by omega), hm, hB⟩
  have hDd : ∀ d ∈ ds, D d := fun d hdm => by
    obtain ⟨i, b, cs, _, _, _, hB⟩ := hdsown d hdm
    exact h.dom d (.inr (by rw [hB]; simp))
  have hND : ∀ x ∈ N ++ N', ¬ D x.id := fun x hx => by
    obtain ⟨i, hi, he⟩ := hid x hx
    rw [he]; exact (hf.new i hi).1
  have hGD : ∀ d, D d → (G.withN (N ++ N')).V d = G.V d ∧ (G.withN (N ++ N')).B d = G.B d ∧ (G.withN (N ++ N')).Z d = G.Z d := fun d hdD =>
    Gh.withN_out fun x hx he => hND x hx (he ▸ hdD)
  -- what lies at an id that changes
  have hat : ∀ d e, (∃ i, i < 64 ∧ d = fid + i) ∨ d ∈ ds → putF m (wr ++ wb') d = some e →
      (∃ y ∈ N ++ N', d = y.id ∧ e = ⟨true, y.c⟩) ∨ ∃ (i : Nat) (b : Nat) (cs : List PV), ds[i]? = some d ∧ css[i]? = some cs ∧ bl'[i]? = some b ∧ G.B d = some b ∧ e = ⟨true, .box cs⟩ := fun d e hu he => by
    rcases putF_sets (m := m) hsets d with ⟨hp, hno⟩ | ⟨c, hc, hp⟩
    · rcases hu with ⟨i, hi, rfl⟩ | hdm
      · rw [hp, (h.free (hf.new i hi).1).1] at he; cases he
      · exfalso
        obtain ⟨i, b, cs, hi, _⟩ := hdsown d hdm
        have hlt := (List.getElem?_eq_some_iff.1 hi).1
        exact hno (d, .set (.box css[i])) ((hmemw _).2 (.inr ⟨i, d, css[i], hi, List.getElem?_eq_getElem (by omega), rfl⟩)) rfl
    · rw [hp] at he
      injection he with he
      rcases (hmemw _).1 hc with ⟨y, hy, hyc⟩ | ⟨i, d', cs, hi, hcs, hyc⟩
      · injection hyc with hy1 hy2; injection hy2 with hy2
        exact .inl ⟨y, hy, hy1, by rw [← he, hy2]⟩
      · injection hyc with hy1 hy2; injection hy2 with hy2
        subst hy1
        have hlt := (List.getElem?_eq_some_iff.1 hi).1
        refine .inr ⟨i, _, cs, hi, hcs, List.getElem?_eq_getElem (by omega), (hd i d _ hi (List.getElem?_eq_getElem (by omega))).2, by rw [← he, hy2]⟩
  have hblk : ∀ y ∈ N ++ N', ∀ k, ownB (G.withN (N ++ N')) y.id ⟨true, y.c⟩ = some k → y.blk = some k := fun y hy k hk => by
    have := hH y hy
    have hsh := T.shape y hy
    cases hc : y.c with
    | row e sz xs =>
      simp only [hc] at this
      simp only [hc, ownB, this.1, Option.bind_some] at hk
      simp only [NE.blk, hc]
      exact hk
    | box cs =>
      simp only [hc] at this
      obtain ⟨b, hb1, hb2⟩ := this
      simp only [hc, ownB, hb2] at hk
      simp only [NE.blk, hc, hb1]
      exact hk
  have hltb : ∀ b ∈ bl', b < w.heap.size := fun b hbm => by
    obtain ⟨d, cs, _, hm, hB⟩ := hbown b hbm
    exact (h.ent d _ hm).lt (by simp [ownB, hB])
  have hnot : ∀ k, okP w m G k → k ∉ bl' := fun k hk hkb => by
    obtain ⟨d, cs, _, hm, hB⟩ := hbown k hkb
    exact hk.2.2 d _ hm (by simp [ownB, hB])
  have hown : ∀ d e k, (∃ i, i < 64 ∧ d = fid + i) ∨ d ∈ ds → putF m (wr ++ wb') d = some e → ownB (G.withN (N ++ N')) d e = some k → (k ∈ bs ++ bss ∧ ∃ y ∈ N ++ N', d = y.id ∧ y.blk = some k) ∨ (k ∈ bl' ∧ d ∈ ds ∧ G.B d = some k) := fun d e k hu he ho => by
    rcases hat d e hu he with ⟨y, hy, rfl, rfl⟩ | ⟨i, b, cs, hi, hcs, hbi, hB, rfl⟩
    · have := hblk y hy k ho
      exact .inl ⟨hbk y hy k this, y, hy, rfl, this⟩
    · have hdm := List.mem_of_getElem? hi
      simp only [ownB, (hGD d (hDd d hdm)).2.1, hB, Option.some.injEq] at ho
      subst ho
      exact .inr ⟨List.mem_of_getElem? hbi, hdm, hB⟩
  have hok : ∀ k, okB w w' (okP w m G) (bs ++ bss) k → okP w' (putF m (wr ++ wb')) (G.withN (N ++ N')) k := fun k hk' => by
    obtain ⟨h1, h2, h3⟩ := hk'
    refine ⟨h1.elim (fun h => h.1) (fun hge => h.all k (.inl (Nat.le_trans h.kept.size hge))), h2, fun d e he ho => ?_⟩
    by_cases hu : (∃ i, i < 64 ∧ d = fid + i) ∨ d ∈ ds
    · rcases hown d e k hu he ho with ⟨h4, _⟩ | ⟨h4, _⟩
      · exact h3 h4
      · rcases h1 with h1 | h1
        · exact hnot k h1 h4
        · have := hltb k h4; omega
    · rcases putF_sets (m := m) hsets d with ⟨hp, _⟩ | ⟨c, hc, _⟩
      · rw [hp] at he
        have hdD : D d := h.dom d (by
          have := h.ent d e he
          obtain ⟨own, c⟩ := e
          cases own <;> cases c <;> obtain ⟨x, hx, _⟩ := this <;> simp [hx])
        have ho' : ownB G d e = some k := by
          obtain ⟨g1, g2, _⟩ := hGD d hdD
          simpa [ownB, g1, g2] using ho
        rcases h1 with h1 | h1
        · exact h1.2.2 d e he ho'
        · have := (h.ent d e he).lt ho'; omega
      · exfalso
        apply hu
        rcases (hmemw _).1 hc with ⟨y, hy, hyc⟩ | ⟨i, d', cs, hi, hcs, hyc⟩
        · injection hyc with hy1 _
          obtain ⟨i, hi, he⟩ := hid y hy
          exact .inl ⟨i, hi, hy1.trans he⟩
        · injection hyc with hy1 _
          exact .inr (hy1 ▸ List.mem_of_getElem? hi)
  have hokA : Adv w' (okB w w' (okP w m G) (bs ++ bss)) (G.withN (N ++ N')) w' (okP w' (putF m (wr ++ wb')) (G.withN (N ++ N'))) (G.withN (N ++ N')) :=
    ⟨fun _ _ h => h, fun _ _ h => h, fun _ _ => rfl, fun k hk => ⟨hok k hk, rfl⟩, rfl⟩
  refine ⟨G.withN (N ++ N'), ?_⟩
  have step := h.step (fun d => (∃ i, i < 64 ∧ d = fid + i) ∨ d ∈ ds) (w' := w') (m' := putF m (wr ++ wb')) (G' := G.withN (N ++ N')) (D' := D') hGD hf.sub
    (fun d hdn hv => by
      by_cases hx : ∃ x ∈ N ++ N', x.id = d
      · obtain ⟨x, hx, rfl⟩ := hx
        obtain ⟨i, hi, he⟩ := hid x hx
        rw [he]; exact (hf.new i hi).2
      · have g := Gh.withN_out (G := G) (N := N ++ N') (d := d) (fun x hx' he => hx ⟨x, hx', he⟩)
        have fr := h.free hdn
        rw [g.1, g.2.1, fr.2.1, fr.2.2] at hv
        simp at hv)
    hk.os hk.tape hk.output hk.size rfl
    (fun k hkf => hk.same k hkf.1 (fun hkb => by
      obtain ⟨d, cs, _, hm, hB⟩ := hbown k hkb
      exact hkf.2 d _ hm (by simp [ownB, hB])))
    (fun d hu => by
      rcases putF_sets (m := m) hsets d with ⟨hp, _⟩ | ⟨c, hc, _⟩
      · exact hp
      · exfalso
        apply hu
        rcases (hmemw _).1 hc with ⟨y, hy, hyc⟩ | ⟨i, d', cs, hi, hcs, hyc⟩
        · injection hyc with hy1 _
          obtain ⟨i, hi, he⟩ := hid y hy
          exact .inl ⟨i, hi, hy1.trans he⟩
        · injection hyc with hy1 _
          exact .inr (hy1 ▸ List.mem_of_getElem? hi))
    (fun d e hu he k ho => hk.same k ((h.ent d e he).lt ho) (fun hkb => by
      obtain ⟨d', cs, hdm, hm, hB⟩ := hbown k hkb
      have := h.sep d d' e _ k he hm ho (by simp [ownB, hB])
      exact hu (.inr (this ▸ hdm))))
    (fun d e k hu he ho => by
      rcases hown d e k hu he ho with ⟨h4, _⟩ | ⟨h4, hdm, hB⟩
      · have := hge k h4
        exact ⟨fun hkf => by have := hkf.1; omega, fun d1 e1 _ h1 ho1 => by have := (h.ent d1 e1 h1).lt ho1; omega, .inl (Nat.le_trans h.kept.size this)⟩
      · obtain ⟨i, b, cs, _, _, hm, hB'⟩ := hdsown d hdm
        have ho' : ownB G d ⟨true, .box cs⟩ = some k := by simp [ownB, hB]
        exact ⟨fun hkf => hkf.2 d _ hm ho', fun d1 e1 hu1 h1 ho1 => hu1 (.inr ((h.sep d1 d e1 _ k h1 hm ho1 ho') ▸ hdm)), h.new d _ k hm ho'⟩)
    (fun d d' e e' k hu hu' he he' ho ho' => by
      rcases hown d e k hu he ho with ⟨h4, y, hy, rfl, hyk⟩ | ⟨h4, hdm, hB⟩ <;> rcases hown d' e' k hu' he' ho' with ⟨h5, y', hy', rfl, hyk'⟩ | ⟨h5, hdm', hB'⟩
      · rw [inj_of_nodup hbn y hy y' hy' k hyk hyk']
      · have := hge k h4; have := hltb k h5; omega
      · have := hge k h5; have := hltb k h4; omega
      · obtain ⟨_, _, _, _, _, hm, _⟩ := hdsown d hdm
        obtain ⟨_, _, _, _, _, hm', _⟩ := hdsown d' hdm'
        exact h.sep d d' _ _ k hm hm' (by simp [ownB, hB]) (by simp [ownB, hB']))
    (fun ha d e hu he => by
      rcases hat d e hu he with ⟨y, hy, rfl, rfl⟩ | ⟨i, b, cs, hi, hcs, hbi, hB, rfl⟩
      · exact (F _ hH y hy).okmono hok
      · have hdm := List.mem_of_getElem? hi
        obtain ⟨cur, t, fz, g1, g2, g3, g4⟩ := r2 (G.withN (N ++ N')) hH.right i b cs hbi hcs
        exact ⟨b, by rw [(hGD d (hDd d hdm)).2.1]; exact hB, cur, t, fz, g1, g2, g3, fun j p hp => let ⟨u, hu, hr⟩ := g4 j p hp; ⟨u, hu, hr.adv hokA⟩⟩)
  exact ⟨step.1, step.2, (r1 _ hH.left).adv hokA⟩
end Go.Den
