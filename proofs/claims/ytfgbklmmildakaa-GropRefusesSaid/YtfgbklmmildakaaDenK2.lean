/- Den: the evaluator and what is shown of it, parts Q to Zb. -/
import Derived.Test.YtfgbklmmildakaaDenK1
import Derived.LoopN
import Derived.Below
set_option linter.unusedSimpArgs false
set_option linter.unusedVariables false
/- Den, part Q: calls. -/
namespace Go.Den
variable {P : Program} {w0 w : World} {bl : List Nat} {D D' : Nat → Prop} {m m1 : Nat → Option Ent} {G : Gh}

def lentB (bl : List Nat) (d : Nat) : Option Nat := if 16777216 ≤ d then bl[d - 16777216]? else none
theorem lentB_id (bl : List Nat) (j : Nat) : lentB bl (lentId j) = bl[j]? := by simp [lentB, lentId]
theorem lentB_some {bl : List Nat} {d b : Nat} (h : lentB bl d = some b) : ∃ j, d = lentId j ∧ bl[j]? = some b := by
  unfold lentB at h
  split at h
  · exact ⟨d - 16777216, by simp only [lentId]; omega, h⟩
  · cases h

/-! ### what a function is shown to do -/
structure LentOk (w : World) (ok : Nat → Prop) (bl : List Nat) (lent : List (List PV)) : Prop where
  len : bl.length = lent.length
  nodup : bl.Nodup
  box : ∀ (j : Nat) b cs, bl[j]? = some b → lent[j]? = some cs → ∃ cur t fz, w.heap[b]? = some (.cells cur t fz) ∧ cur.size = cs.length ∧ noFz fz cur.size ∧ ∀ (i : Nat) p, cs[i]? = some p → plainLeaf p = true ∧ ∃ u, cur[i]? = some u ∧ Rep w ok u p
def ArgsOk (w : World) (ok : Nat → Prop) (G : Gh) (vs : Array Value) (ps : List PV) : Prop := vs.size = ps.length ∧ ∀ (j : Nat) v p, vs[j]? = some v → ps[j]? = some p → RepS w ok G v p
def Gl (w : World) (ok : Nat → Prop) (bl : List Nat) : Gh := ⟨fun _ => none, lentB bl, fun _ => 0, fun k => ok k ∨ w.heap.size ≤ k ∨ k ∈ bl⟩
def okB (w w' : World) (ok : Nat → Prop) (bs : List Nat) (k : Nat) : Prop := (ok k ∨ w.heap.size ≤ k) ∧ k < w'.heap.size ∧ k ∉ bs
structure Back (w : World) (ok : Nat → Prop) (bl : List Nat) (res : PV) (lent : List (List PV)) (v : Value) (w' : World) : Prop where
  kept : Kept w w' bl
  ex : ∃ bs bss, (bs ++ bss).Nodup ∧ (∀ k ∈ bs ++ bss, w.heap.size ≤ k) ∧ RXR w' (okB w w' ok (bs ++ bss)) v res bs ∧ LX w' (okB w w' ok (bs ++ bss)) bl lent bss
def Contract (P : Program) (f : FuncId) (args : List PV) (lent : List (List PV)) (res : PV) (lent' : List (List PV)) : Prop :=
  ∀ (w : World) (vs : Array Value) (bl : List Nat) (ok : Nat → Prop), (∀ k, ok k → k < w.heap.size ∧ k ∉ bl) → LentOk w ok bl lent → ArgsOk w ok (Gl w ok bl) vs args →
    Calls P f vs w fun e w' => ∃ v, e = .returned v ∧ Back w ok bl res lent' v w'

/-! ### writes, read -/
theorem putF_sets : ∀ {wr : Wr} {m : Nat → Option Ent}, (∀ x ∈ wr, ∃ c, x.2 = .set c) → ∀ d, (putF m wr d = m d ∧ ∀ x ∈ wr, x.1 ≠ d) ∨ ∃ c, (d, .set c) ∈ wr ∧ putF m wr d = some ⟨true, c⟩
  | [], m, h, d => .inl ⟨rfl, by simp⟩
  | (d1, y) :: r, m, h, d => by
    obtain ⟨c, hc⟩ := h _ (List.mem_cons_self)
    simp only at hc
    subst hc
    rcases putF_sets (wr := r) (m := upd m d1 (some ⟨true, c⟩)) (fun x hx => h x (List.mem_cons_of_mem _ hx)) d with ⟨h1, h2⟩ | ⟨c', h1, h2⟩
    · by_cases hd : d = d1
      · subst hd
        exact .inr ⟨c, List.mem_cons_self, by rw [putF, h1, upd_eq]⟩
      · exact .inl ⟨by rw [putF, h1, upd_ne _ _ hd], fun x hx => (List.mem_cons.1 hx).elim (fun hx => by subst hx; exact fun he => hd he.symm) (h2 x)⟩
    · exact .inr ⟨c', List.mem_cons_of_mem _ h1, by rw [putF, h2]⟩

theorem find_of_nodup : ∀ {N : List NE}, (N.map (·.id)).Nodup → ∀ x ∈ N, N.find? (fun y => y.id == x.id) = some x
  | y :: r, h, x, hx => by
    simp only [List.map_cons, List.nodup_cons, List.mem_map, not_exists, not_and] at h
    rcases List.mem_cons.1 hx with rfl | hx
    · simp
    · rw [List.find?_cons_of_neg (by simpa using fun he => h.1 x hx he.symm)]
      exact find_of_nodup h.2 x hx
theorem inj_of_nodup : ∀ {N : List NE}, (N.filterMap NE.blk).Nodup → ∀ x ∈ N, ∀ y ∈ N, ∀ k, x.blk = some k → y.blk = some k → x = y
  | z :: r, h, x, hx, y, hy, k, h1, h2 => by
    have key : ∀ {a b}, a = z → b ∈ r → a.blk = some k → b.blk = some k → False := fun ha hb hak hbk => by
      subst ha
      rw [List.filterMap_cons_some hak, List.nodup_cons] at h
      exact h.1 (List.mem_filterMap.2 ⟨_, hb, hbk⟩)
    rcases List.mem_cons.1 hx with hx' | hx' <;> rcases List.mem_cons.1 hy with hy' | hy'
    · rw [hx', hy']
    · exact (key hx' hy' h1 h2).elim
    · exact (key hy' hx' h2 h1).elim
    · refine inj_of_nodup (N := r) ?_ x hx' y hy' k h1 h2
      rw [List.filterMap_cons] at h
      split at h
      · exact h
      · exact (List.nodup_cons.1 h).2

/-- The ghost with what is new. -/
def Gh.withN (G : Gh) (N : List NE) : Gh where
  V := fun d => match N.find? (fun y => y.id == d) with | some x => (match x.c with | .row .. => some x.v | .box _ => G.V d) | none => G.V d
  B := fun d => match N.find? (fun y => y.id == d) with | some x => (match x.c with | .row .. => G.B d | .box _ => match x.v with | .pointer (some a) => some a.block | _ => G.B d) | none => G.B d
  Z := fun d => match N.find? (fun y => y.id == d) with | some x => (match x.c with | .row _ sz _ => sz | .box _ => G.Z d) | none => G.Z d
  A := G.A
theorem Gh.withN_out {N : List NE} {d : Nat} (h : ∀ x ∈ N, x.id ≠ d) : (G.withN N).V d = G.V d ∧ (G.withN N).B d = G.B d ∧ (G.withN N).Z d = G.Z d := by
  have : N.find? (fun y => y.id == d) = none := List.find?_eq_none.2 fun x hx => by simpa using h x hx
  simp [Gh.withN, this]
theorem Gh.withN_holds {N : List NE} (h : (N.map (·.id)).Nodup) (hs : ∀ x ∈ N, ∀ cs, x.c = .box cs → ∃ b, x.v = .pointer (some ⟨b, 0, none⟩)) : HoldsN (G.withN N) N := fun x hx => by
  have hf := find_of_nodup h x hx
  have := hs x hx
  cases hc : x.c with
  | row e sz xs => simp [Gh.withN, hf, hc]
  | box cs =>
    obtain ⟨b, hb⟩ := this cs hc
    exact ⟨b, hb, by simp [Gh.withN, hf, hc, hb]⟩

theorem EntOk.okmono {ok ok' : Nat → Prop} {d e} (h : EntOk w ok G d e) (hk : ∀ k, ok k → ok' k) : EntOk w ok' G d e :=
  h.adv ⟨fun _ _ h => h, fun _ _ h => h, fun _ _ => rfl, fun k h => ⟨hk k h, rfl⟩, rfl⟩ (fun _ _ => rfl)

theorem RelW.takeIn {w' : World} (h : RelW w0 bl D w m G) {fid : Nat} (hf : Fr D D' fid) {ds bl' : List Nat} (hl : ds.length = bl'.length)
    (hd : ∀ (i : Nat) d b, ds[i]? = some d → bl'[i]? = some b → (∃ cs, m d = some ⟨true, .box cs⟩) ∧ G.B d = some b)
    {res : PV} {lent : List (List PV)} {v : Value} (hb : Back w (okP w m G) bl' res lent v w') {p : PV} {w1 wb : Wr} {j j' : Nat} (h1 : impR fid 0 res = (p, w1, j)) (h2 : impB fid j ds lent = some (wb, j')) (h3 : j' ≤ 64) :
    After w0 bl D' w m G p (w1 ++ wb) v w' := by
  obtain ⟨hk, bs, bss, hnd, hge, hx, hlx⟩ := hb
  obtain ⟨N, p', wr, j1, e1, t1, f1, r1⟩ := impR_sim hx fid 0
  rw [e1] at h1
  injection h1 with ha1 ha2; injection ha2 with ha2 ha3
  subst ha1; subst ha2; subst ha3
  obtain ⟨N', wb', j2, css, wr', e2, t2, f2, l2, m2, r2⟩ := impB_sim hlx fid j1 ds hl
  rw [e2] at h2
  injection h2 with h2; injection h2 with ha1 ha2
  subst ha1; subst ha2
  have T := t1.append t2
  have F := f1.append f2
  have hidn : ((N ++ N').map (·.id)).Nodup := by rw [T.ids]; exact List.nodup_range' ..
  have hid : ∀ x ∈ N ++ N', ∃ i, i < 64 ∧ x.id = fid + i := fun x hx => by
    have := List.mem_map_of_mem (f := (·.id)) hx
    rw [T.ids, List.mem_range'_1] at this
    have hj := T.j'
    exact ⟨x.id - fid, by omega, by omega⟩
  have hbn : ((N ++ N').filterMap NE.blk).Nodup := by rw [T.blks]; exact hnd
  have hbk : ∀ x ∈ N ++ N', ∀ k, x.blk = some k → k ∈ bs ++ bss := fun x hx k hk => by
    rw [← T.blks]; exact List.mem_filterMap.2 ⟨x, hx, hk⟩
  have hH := Gh.withN_holds (G := G) hidn T.shape
  have hmemw : ∀ x, x ∈ wr ++ wb' ↔ (∃ y ∈ N ++ N', x = (y.id, .set y.c)) ∨ ∃ (i : Nat) (d : Nat) (cs : List PV), ds[i]? = some d ∧ css[i]? = some cs ∧ x = (d, .set (.box cs)) := fun x => by
    rw [List.mem_append, m2, t1.wr, t2.wr]
    simp only [List.mem_map, List.mem_append]
    constructor
    · rintro (⟨y, hy, rfl⟩ | ⟨y, hy, rfl⟩ | h)
      · exact .inl ⟨y, .inl hy, rfl⟩
      · exact .inl ⟨y, .inr hy, rfl⟩
      · exact .inr h
    · rintro (⟨y, hy | hy, rfl⟩ | h)
      · exact .inl ⟨y, hy, rfl⟩
      · exact .inr (.inl ⟨y, hy, rfl⟩)
      · exact .inr (.inr h)
  have hsets : ∀ x ∈ wr ++ wb', ∃ c, x.2 = .set c := fun x hx => by
    rcases (hmemw x).1 hx with ⟨y, _, rfl⟩ | ⟨i, d, cs, _, _, rfl⟩ <;> exact ⟨_, rfl⟩
  have hdsown : ∀ d ∈ ds, ∃ i b cs, ds[i]? = some d ∧ bl'[i]? = some b ∧ m d = some ⟨true, .box cs⟩ ∧ G.B d = some b := fun d hdm => by
    obtain ⟨i, hi⟩ := List.mem_iff_getElem?.1 hdm
    have hlt := (List.getElem?_eq_some_iff.1 hi).1
    obtain ⟨⟨cs, hm⟩, hB⟩ := hd i d _ hi (List.getElem?_eq_getElem (by omega))
    exact ⟨i, _, cs, hi, List.getElem?_eq_getElem (by omega), hm, hB⟩
  have hbown : ∀ b ∈ bl', ∃ d cs, d ∈ ds ∧ m d = some ⟨true, .box cs⟩ ∧ G.B d = some b := fun b hbm => by
    obtain ⟨i, hi⟩ := List.mem_iff_getElem?.1 hbm
    have hlt := (List.getElem?_eq_some_iff.1 hi).1
    obtain ⟨⟨cs, hm⟩, hB⟩ := hd i _ b (List.getElem?_eq_getElem (by omega)) hi
    exact ⟨_, cs, List.getElem_mem (by omega), hm, hB⟩
  have hDd : ∀ d ∈ ds, D d := fun d hdm => by
    obtain ⟨i, b, cs, _, _, _, hB⟩ := hdsown d hdm
    exact h.dom d (.inr (by rw [hB]; simp))
  have hND : ∀ x ∈ N ++ N', ¬ D x.id := fun x hx => by
    obtain ⟨i, hi, he⟩ := hid x hx
    rw [he]; exact (hf.new i hi).1
  have hGD : ∀ d, D d → (G.withN (N ++ N')).V d = G.V d ∧ (G.withN (N ++ N')).B d = G.B d ∧ (G.withN (N ++ N')).Z d = G.Z d := fun d hdD =>
    Gh.withN_out fun x hx he => hND x hx (he ▸ hdD)
  -- what lies at an id that changes
  have hat : ∀ d e, (∃ i, i < 64 ∧ d = fid + i) ∨ d ∈ ds → putF m (wr ++ wb') d = some e →
      (∃ y ∈ N ++ N', d = y.id ∧ e = ⟨true, y.c⟩) ∨ ∃ (i : Nat) (b : Nat) (cs : List PV), ds[i]? = some d ∧ css[i]? = some cs ∧ bl'[i]? = some b ∧ G.B d = some b ∧ e = ⟨true, .box cs⟩ := fun d e hu he => by
    rcases putF_sets (m := m) hsets d with ⟨hp, hno⟩ | ⟨c, hc, hp⟩
    · rcases hu with ⟨i, hi, rfl⟩ | hdm
      · rw [hp, (h.free (hf.new i hi).1).1] at he; cases he
      · exfalso
        obtain ⟨i, b, cs, hi, _⟩ := hdsown d hdm
        have hlt := (List.getElem?_eq_some_iff.1 hi).1
        exact hno (d, .set (.box css[i])) ((hmemw _).2 (.inr ⟨i, d, css[i], hi, List.getElem?_eq_getElem (by omega), rfl⟩)) rfl
    · rw [hp] at he
      injection he with he
      rcases (hmemw _).1 hc with ⟨y, hy, hyc⟩ | ⟨i, d', cs, hi, hcs, hyc⟩
      · injection hyc with hy1 hy2; injection hy2 with hy2
        exact .inl ⟨y, hy, hy1, by rw [← he, hy2]⟩
      · injection hyc with hy1 hy2; injection hy2 with hy2
        subst hy1
        have hlt := (List.getElem?_eq_some_iff.1 hi).1
        refine .inr ⟨i, _, cs, hi, hcs, List.getElem?_eq_getElem (by omega), (hd i d _ hi (List.getElem?_eq_getElem (by omega))).2, by rw [← he, hy2]⟩
  have hblk : ∀ y ∈ N ++ N', ∀ k, ownB (G.withN (N ++ N')) y.id ⟨true, y.c⟩ = some k → y.blk = some k := fun y hy k hk => by
    have := hH y hy
    have hsh := T.shape y hy
    cases hc : y.c with
    | row e sz xs =>
      simp only [hc] at this
      simp only [hc, ownB, this.1, Option.bind_some] at hk
      simp only [NE.blk, hc]
      exact hk
    | box cs =>
      simp only [hc] at this
      obtain ⟨b, hb1, hb2⟩ := this
      simp only [hc, ownB, hb2] at hk
      simp only [NE.blk, hc, hb1]
      exact hk
  have hltb : ∀ b ∈ bl', b < w.heap.size := fun b hbm => by
    obtain ⟨d, cs, _, hm, hB⟩ := hbown b hbm
    exact (h.ent d _ hm).lt (by simp [ownB, hB])
  have hnot : ∀ k, okP w m G k → k ∉ bl' := fun k hk hkb => by
    obtain ⟨d, cs, _, hm, hB⟩ := hbown k hkb
    exact hk.2.2 d _ hm (by simp [ownB, hB])
  have hown : ∀ d e k, (∃ i, i < 64 ∧ d = fid + i) ∨ d ∈ ds → putF m (wr ++ wb') d = some e → ownB (G.withN (N ++ N')) d e = some k → (k ∈ bs ++ bss ∧ ∃ y ∈ N ++ N', d = y.id ∧ y.blk = some k) ∨ (k ∈ bl' ∧ d ∈ ds ∧ G.B d = some k) := fun d e k hu he ho => by
    rcases hat d e hu he with ⟨y, hy, rfl, rfl⟩ | ⟨i, b, cs, hi, hcs, hbi, hB, rfl⟩
    · have := hblk y hy k ho
      exact .inl ⟨hbk y hy k this, y, hy, rfl, this⟩
    · have hdm := List.mem_of_getElem? hi
      simp only [ownB, (hGD d (hDd d hdm)).2.1, hB, Option.some.injEq] at ho
      subst ho
      exact .inr ⟨List.mem_of_getElem? hbi, hdm, hB⟩
  have hok : ∀ k, okB w w' (okP w m G) (bs ++ bss) k → okP w' (putF m (wr ++ wb')) (G.withN (N ++ N')) k := fun k hk' => by
    obtain ⟨h1, h2, h3⟩ := hk'
    refine ⟨h1.elim (fun h => h.1) (fun hge => h.all k (.inl (Nat.le_trans h.kept.size hge))), h2, fun d e he ho => ?_⟩
    by_cases hu : (∃ i, i < 64 ∧ d = fid + i) ∨ d ∈ ds
    · rcases hown d e k hu he ho with ⟨h4, _⟩ | ⟨h4, _⟩
      · exact h3 h4
      · rcases h1 with h1 | h1
        · exact hnot k h1 h4
        · have := hltb k h4; omega
    · rcases putF_sets (m := m) hsets d with ⟨hp, _⟩ | ⟨c, hc, _⟩
      · rw [hp] at he
        have hdD : D d := h.dom d (by
          have := h.ent d e he
          obtain ⟨own, c⟩ := e
          cases own <;> cases c <;> obtain ⟨x, hx, _⟩ := this <;> simp [hx])
        have ho' : ownB G d e = some k := by
          obtain ⟨g1, g2, _⟩ := hGD d hdD
          simpa [ownB, g1, g2] using ho
        rcases h1 with h1 | h1
        · exact h1.2.2 d e he ho'
        · have := (h.ent d e he).lt ho'; omega
      · exfalso
        apply hu
        rcases (hmemw _).1 hc with ⟨y, hy, hyc⟩ | ⟨i, d', cs, hi, hcs, hyc⟩
        · injection hyc with hy1 _
          obtain ⟨i, hi, he⟩ := hid y hy
          exact .inl ⟨i, hi, hy1.trans he⟩
        · injection hyc with hy1 _
          exact .inr (hy1 ▸ List.mem_of_getElem? hi)
  have hokA : Adv w' (okB w w' (okP w m G) (bs ++ bss)) (G.withN (N ++ N')) w' (okP w' (putF m (wr ++ wb')) (G.withN (N ++ N'))) (G.withN (N ++ N')) :=
    ⟨fun _ _ h => h, fun _ _ h => h, fun _ _ => rfl, fun k hk => ⟨hok k hk, rfl⟩, rfl⟩
  refine ⟨G.withN (N ++ N'), ?_⟩
  have step := h.step (fun d => (∃ i, i < 64 ∧ d = fid + i) ∨ d ∈ ds) (w' := w') (m' := putF m (wr ++ wb')) (G' := G.withN (N ++ N')) (D' := D') hGD hf.sub
    (fun d hdn hv => by
      by_cases hx : ∃ x ∈ N ++ N', x.id = d
      · obtain ⟨x, hx, rfl⟩ := hx
        obtain ⟨i, hi, he⟩ := hid x hx
        rw [he]; exact (hf.new i hi).2
      · have g := Gh.withN_out (G := G) (N := N ++ N') (d := d) (fun x hx' he => hx ⟨x, hx', he⟩)
        have fr := h.free hdn
        rw [g.1, g.2.1, fr.2.1, fr.2.2] at hv
        simp at hv)
    hk.os hk.tape hk.output hk.size rfl
    (fun k hkf => hk.same k hkf.1 (fun hkb => by
      obtain ⟨d, cs, _, hm, hB⟩ := hbown k hkb
      exact hkf.2 d _ hm (by simp [ownB, hB])))
    (fun d hu => by
      rcases putF_sets (m := m) hsets d with ⟨hp, _⟩ | ⟨c, hc, _⟩
      · exact hp
      · exfalso
        apply hu
        rcases (hmemw _).1 hc with ⟨y, hy, hyc⟩ | ⟨i, d', cs, hi, hcs, hyc⟩
        · injection hyc with hy1 _
          obtain ⟨i, hi, he⟩ := hid y hy
          exact .inl ⟨i, hi, hy1.trans he⟩
        · injection hyc with hy1 _
          exact .inr (hy1 ▸ List.mem_of_getElem? hi))
    (fun d e hu he k ho => hk.same k ((h.ent d e he).lt ho) (fun hkb => by
      obtain ⟨d', cs, hdm, hm, hB⟩ := hbown k hkb
      have := h.sep d d' e _ k he hm ho (by simp [ownB, hB])
      exact hu (.inr (this ▸ hdm))))
    (fun d e k hu he ho => by
      rcases hown d e k hu he ho with ⟨h4, _⟩ | ⟨h4, hdm, hB⟩
      · have := hge k h4
        exact ⟨fun hkf => by have := hkf.1; omega, fun d1 e1 _ h1 ho1 => by have := (h.ent d1 e1 h1).lt ho1; omega, .inl (Nat.le_trans h.kept.size this)⟩
      · obtain ⟨i, b, cs, _, _, hm, hB'⟩ := hdsown d hdm
        have ho' : ownB G d ⟨true, .box cs⟩ = some k := by simp [ownB, hB]
        exact ⟨fun hkf => hkf.2 d _ hm ho', fun d1 e1 hu1 h1 ho1 => hu1 (.inr ((h.sep d1 d e1 _ k h1 hm ho1 ho') ▸ hdm)), h.new d _ k hm ho'⟩)
    (fun d d' e e' k hu hu' he he' ho ho' => by
      rcases hown d e k hu he ho with ⟨h4, y, hy, rfl, hyk⟩ | ⟨h4, hdm, hB⟩ <;> rcases hown d' e' k hu' he' ho' with ⟨h5, y', hy', rfl, hyk'⟩ | ⟨h5, hdm', hB'⟩
      · rw [inj_of_nodup hbn y hy y' hy' k hyk hyk']
      · have := hge k h4; have := hltb k h5; omega
      · have := hge k h5; have := hltb k h4; omega
      · obtain ⟨_, _, _, _, _, hm, _⟩ := hdsown d hdm
        obtain ⟨_, _, _, _, _, hm', _⟩ := hdsown d' hdm'
        exact h.sep d d' _ _ k hm hm' (by simp [ownB, hB]) (by simp [ownB, hB']))
    (fun ha d e hu he => by
      rcases hat d e hu he with ⟨y, hy, rfl, rfl⟩ | ⟨i, b, cs, hi, hcs, hbi, hB, rfl⟩
      · exact (F _ hH y hy).okmono hok
      · have hdm := List.mem_of_getElem? hi
        obtain ⟨cur, t, fz, g1, g2, g3, g4⟩ := r2 (G.withN (N ++ N')) hH.right i b cs hbi hcs
        exact ⟨b, by rw [(hGD d (hDd d hdm)).2.1]; exact hB, cur, t, fz, g1, g2, g3, fun j p hp => let ⟨u, hu, hr⟩ := g4 j p hp; ⟨u, hu, hr.adv hokA⟩⟩)
  exact ⟨step.1, step.2, (r1 _ hH.left).adv hokA⟩
end Go.Den

/- Den, part R: a call, from the caller's side. -/
namespace Go.Den
variable {P : Program} {w0 w : World} {bl : List Nat} {D D' : Nat → Prop} {m m1 : Nat → Option Ent} {G : Gh}

/-! ### only frozen -/
def AllFz (wr : Wr) : Prop := ∀ x ∈ wr, x.2 = .fz
theorem AllFz.nil : AllFz [] := by simp [AllFz]
theorem AllFz.append {x y : Wr} (h : AllFz x) (k : AllFz y) : AllFz (x ++ y) := fun z hz => (List.mem_append.1 hz).elim (h z) (k z)
theorem putF_fz : ∀ {wr : Wr} {m : Nat → Option Ent}, AllFz wr → ∀ d e, putF m wr d = some e → ∃ e0, m d = some e0 ∧ ((e = e0 ∧ ∀ x ∈ wr, x.1 ≠ d) ∨ e = ⟨false, e0.c⟩)
  | [], m, _, d, e, h => ⟨e, h, .inl ⟨rfl, by simp⟩⟩
  | (d1, y) :: r, m, hz, d, e, h => by
    have hy := hz _ (List.mem_cons_self)
    simp only at hy
    subst hy
    simp only [putF] at h
    obtain ⟨e1, h1, h2⟩ := putF_fz (wr := r) (fun x hx => hz x (List.mem_cons_of_mem _ hx)) d e h
    by_cases hd : d = d1
    · subst hd
      cases hm : m d with
      | none => simp only [hm] at h1; cases h1
      | some e0 =>
        simp only [hm, upd_eq, Option.some.injEq] at h1
        subst h1
        refine ⟨e0, rfl, .inr ?_⟩
        rcases h2 with ⟨h2, _⟩ | h2 <;> rw [h2]
    · have : m d = some e1 := by
        cases hm : m d1 with
        | none => simpa only [hm] using h1
        | some e0 => simp only [hm, upd_ne _ _ hd] at h1; exact h1
      refine ⟨e1, this, h2.imp (fun ⟨a, b⟩ => ⟨a, fun x hx => (List.mem_cons.1 hx).elim (fun hx => by subst hx; exact fun he => hd he.symm) (b x)⟩) id⟩
theorem putF_fz_get : ∀ {wr : Wr} {m : Nat → Option Ent}, AllFz wr → ∀ d e0, m d = some e0 → (∀ x ∈ wr, x.1 ≠ d) → putF m wr d = some e0
  | [], m, _, d, e, h, _ => h
  | (d1, y) :: r, m, hz, d, e, h, hn => by
    have hy := hz _ (List.mem_cons_self)
    simp only at hy
    subst hy
    have hd : d ≠ d1 := fun he => hn _ (List.mem_cons_self) he.symm
    simp only [putF]
    refine putF_fz_get (wr := r) (fun x hx => hz x (List.mem_cons_of_mem _ hx)) d e ?_ (fun x hx => hn x (List.mem_cons_of_mem _ hx))
    cases hm : m d1 with
    | none => exact h
    | some e0 => simp only [upd_ne _ _ hd]; exact h
theorem RelW.fzs : ∀ {wr : Wr} {m : Nat → Option Ent}, AllFz wr → RelW w0 bl D w m G → RelW w0 bl D w (putF m wr) G ∧ Adv w (okP w m G) G w (okP w (putF m wr) G) G
  | [], _, _, h => ⟨h, Adv.refl _ _ _⟩
  | (d1, y) :: r, m, hz, h => by
    have hy := hz _ (List.mem_cons_self)
    simp only at hy
    subst hy
    obtain ⟨a1, a2⟩ := h.fz d1
    obtain ⟨b1, b2⟩ := RelW.fzs (wr := r) (fun x hx => hz x (List.mem_cons_of_mem _ hx)) a1
    exact ⟨b1, a2.trans b2⟩
theorem okP_fz {wr wr' : Wr} (hz : AllFz wr) (hz' : AllFz wr') (hs : ∀ x ∈ wr, x ∈ wr') {k : Nat} (h : okP w (putF m wr) G k) : okP w (putF m wr') G k := by
  refine ⟨h.1, h.2.1, fun d e he ho => ?_⟩
  obtain ⟨e0, h0, ⟨rfl, hn⟩ | rfl⟩ := putF_fz hz' d e he
  · exact h.2.2 d e (putF_fz_get hz d e h0 (fun x hx => hn x (hs x hx))) ho
  · simp [ownB] at ho
theorem seal0_fz {p q : PV} {wr : Wr} {l o} (hr : (seal0 p).run m = some ((q, wr), l, o)) : AllFz wr := by
  cases p with
  | h d =>
    obtain ⟨⟨own, c⟩, l', hm, hk⟩ := run_rdc hr
    cases c with
    | box => exact (run_fail hk).elim
    | row e sz xs =>
      have h1 := (run_ret hk).1
      injection h1 with h1 h2
      subst h2
      simp [AllFz]
  | _ =>
    simp only [seal0] at hr
    split at hr
    · have h1 := (run_ret hr).1
      injection h1 with h1 h2
      subst h2
      exact .nil
    · exact (run_fail hr).elim
theorem seal0L_fz {ps : List PV} : ∀ {qs : List PV} {wr : Wr} {l o}, (seal0L ps).run m = some ((qs, wr), l, o) → AllFz wr := by
  induction ps with
  | nil =>
    intro qs wr l o hr
    have h1 := (run_ret hr).1
    injection h1 with h1 h2
    subst h2
    exact .nil
  | cons p r ih =>
    intro qs wr l o hr
    obtain ⟨⟨q, wq⟩, l1, o1, l2, o2, hx, hr, _, _⟩ := run_bind hr
    obtain ⟨⟨qs', wq'⟩, l3, o3, l4, o4, hy, hr, _, _⟩ := run_bind hr
    have h1 := (run_ret hr).1
    injection h1 with h1 h2
    subst h2
    exact (seal0_fz hx).append (ih hy)
theorem sealLeaf_fz {p q : PV} {wr : Wr} {l o} (hr : (sealLeaf p).run m = some ((q, wr), l, o)) : AllFz wr := by
  cases p with
  | h d =>
    obtain ⟨⟨own, c⟩, l', hm, hk⟩ := run_rdc hr
    cases c with
    | box => exact (run_fail hk).elim
    | row e sz xs =>
      have h1 := (run_ret hk).1
      injection h1 with h1 h2
      subst h2
      simp [AllFz]
  | vw d len =>
    obtain ⟨⟨own, c⟩, l', hm, hk⟩ := run_rdc hr
    cases c with
    | box => exact (run_fail hk).elim
    | row e sz xs =>
      have h1 := (run_ret hk).1
      injection h1 with h1 h2
      subst h2
      simp [AllFz]
  | pb d off =>
    obtain ⟨⟨own, c⟩, l', hm, hk⟩ := run_rdc hr
    cases c with
    | row => exact (run_fail hk).elim
    | box cs =>
      simp only at hk
      split at hk
      · have h1 := (run_ret hk).1
        injection h1 with h1 h2
        subst h2
        simp [AllFz]
      · obtain ⟨⟨qs, wq⟩, l1, o1, l2, o2, hx, hk, _, _⟩ := run_bind hk
        have h1 := (run_ret hk).1
        injection h1 with h1 h2
        subst h2
        exact (seal0L_fz hx).append (by simp [AllFz])
  | _ =>
    simp only [sealLeaf] at hr
    split at hr
    · have h1 := (run_ret hr).1
      injection h1 with h1 h2
      subst h2
      exact .nil
    · exact (run_fail hr).elim
theorem sealL_fz {ps : List PV} : ∀ {qs : List PV} {wr : Wr} {l o}, (sealL ps).run m = some ((qs, wr), l, o) → AllFz wr := by
  induction ps with
  | nil =>
    intro qs wr l o hr
    have h1 := (run_ret hr).1
    injection h1 with h1 h2
    subst h2
    exact .nil
  | cons p r ih =>
    intro qs wr l o hr
    obtain ⟨⟨q, wq⟩, l1, o1, l2, o2, hx, hr, _, _⟩ := run_bind hr
    obtain ⟨⟨qs', wq'⟩, l3, o3, l4, o4, hy, hr, _, _⟩ := run_bind hr
    have h1 := (run_ret hr).1
    injection h1 with h1 h2
    subst h2
    exact (sealLeaf_fz hx).append (ih hy)
/-- A value, sealed for another's hands. -/
theorem sealV_sim (h : RelW w0 bl D w m G) {v : Value} {p q : PV} {wr : Wr} {l o} (hr : (sealV p).run m = some ((q, wr), l, o)) (hv : RepS w (okP w m G) G v p) :
    AllFz wr ∧ ∀ w' ok' G', (∀ k, okP w (putF m wr) G k → ok' k ∧ w'.heap[k]? = w.heap[k]?) → RepS w' ok' G' v q := by
  have leaf : ∀ {p}, RepL w (okP w m G) G v p → (sealLeaf p).run m = some ((q, wr), l, o) → AllFz wr ∧ ∀ w' ok' G', (∀ k, okP w (putF m wr) G k → ok' k ∧ w'.heap[k]? = w.heap[k]?) → RepS w' ok' G' v q := fun hv hr => by
    obtain ⟨_, _, _, a4, a5⟩ := sealLeaf_sim h (Fro.refl m) hr hv
    exact ⟨sealLeaf_fz hr, fun w' ok' G' hk => .leaf (.pl (a4.mono hk) a5)⟩
  have bad : plainLeaf p = false → (∀ d, p ≠ .h d) → (∀ d o, p ≠ .pb d o) → (∀ d o, p ≠ .vw d o) → (sealLeaf p).run m ≠ some ((q, wr), l, o) := fun h1 h2 h3 h4 hr => by
    cases p <;> simp_all [sealLeaf, RM.run, plainLeaf]
  cases hv with
  | undef => exact (bad rfl (by simp) (by simp) (by simp) hr).elim
  | leaf hv =>
    refine leaf hv ?_
    cases hv with
    | pl hv hp => cases p <;> first | exact hr | simp [plainLeaf] at hp
    | _ => exact hr
  | agg cells cs hl hv =>
    obtain ⟨⟨qs, wq⟩, l1, o1, l2, o2, hx, hr, _, _⟩ := run_bind hr
    have h1 := (run_ret hr).1
    injection h1 with h1 h2
    subst h1; subst h2
    obtain ⟨b1, b2, b3, b4, b5, b6⟩ := sealL_sim (vs := cells.toList) h (Fro.refl m) hx (by simpa using hl) (fun j v p h1 h2 => hv j v p (by simpa using h1) h2)
    refine ⟨sealL_fz hx, fun w' ok' G' hk => .agg cells qs (by rw [b4]; exact hl) (fun j v q h1 h2 => .pl ((b6 j v q (by simpa using h1) h2).mono hk) (b5 q (List.mem_of_getElem? h2)))⟩
  | fn f caps cs hl hv =>
    obtain ⟨⟨qs, wq⟩, l1, o1, l2, o2, hx, hr, _, _⟩ := run_bind hr
    have h1 := (run_ret hr).1
    injection h1 with h1 h2
    subst h1; subst h2
    obtain ⟨b1, b2, b3, b4, b5, b6⟩ := sealL_sim (vs := caps.toList) h (Fro.refl m) hx (by simpa using hl) (fun j v p h1 h2 => hv j v p (by simpa using h1) h2)
    refine ⟨sealL_fz hx, fun w' ok' G' hk => .fn f caps qs (by rw [b4]; exact hl) (fun j v q h1 h2 => .pl ((b6 j v q (by simpa using h1) h2).mono hk) (b5 q (List.mem_of_getElem? h2)))⟩
  | tup vs ps hl hv => exact (bad rfl (by simp) (by simp) (by simp) hr).elim

/-! ### what is handed over -/
structure LendOK (m : Nat → Option Ent) (args : List PV) (bs : List (Nat × List PV)) (y : List PV × Wr × Wr × List (Nat × List PV)) : Prop where
  len : y.1.length = args.length
  fz1 : AllFz y.2.1
  fz2 : AllFz y.2.2.1
  ext : ∃ new, y.2.2.2 = bs ++ new ∧ (new = [] → y.2.2.1 = []) ∧ ∀ x ∈ new, ∃ cs wr l o, m x.1 = some ⟨true, .box cs⟩ ∧ (sealL cs).run m = some ((x.2, wr), l, o) ∧ ∀ z ∈ wr, z ∈ y.2.2.1
  nodup : (bs.map (·.1)).Nodup → (y.2.2.2.map (·.1)).Nodup
  args : ∀ (i : Nat) p q, args[i]? = some p → y.1[i]? = some q → (∃ (d j : Nat) (cs : List PV), p = .pb d 0 ∧ q = .pb (lentId j) 0 ∧ y.2.2.2[j]? = some (d, cs)) ∨ ∃ wr l o, (sealV p).run m = some ((q, wr), l, o) ∧ ∀ z ∈ wr, z ∈ y.2.1
theorem sealV_fz {p q : PV} {wr : Wr} {l o} (hr : (sealV p).run m = some ((q, wr), l, o)) : AllFz wr := by
  cases p with
  | agg cs =>
    obtain ⟨⟨qs, wq⟩, l1, o1, l2, o2, hx, hr, _, _⟩ := run_bind hr
    have h1 := (run_ret hr).1
    injection h1 with h1 h2
    subst h2
    exact sealL_fz hx
  | fn f cs =>
    obtain ⟨⟨qs, wq⟩, l1, o1, l2, o2, hx, hr, _, _⟩ := run_bind hr
    have h1 := (run_ret hr).1
    injection h1 with h1 h2
    subst h2
    exact sealL_fz hx
  | _ => simp only [sealV] at hr; exact sealLeaf_fz hr
theorem lendA_ok : ∀ {args : List PV} {bs : List (Nat × List PV)} {y l o}, (lendA args bs).run m = some (y, l, o) → LendOK m args bs y
  | [], bs, y, l, o, hr => by
    have h1 := (run_ret hr).1
    subst h1
    exact ⟨rfl, .nil, .nil, ⟨[], by simp, fun _ => rfl, by simp⟩, id, by simp⟩
  | v :: r, bs, y, l, o, hr => by
    unfold lendA at hr
    split at hr
    · rename_i d
      obtain ⟨c, o1, hm, hr⟩ := run_own hr
      cases c with
      | row => exact (run_fail hr).elim
      | box cs =>
        simp only at hr
        split at hr
        · exact (run_fail hr).elim
        · rename_i hno
          obtain ⟨⟨qs, wq⟩, l1, o1, l2, o2, hx, hr, _, _⟩ := run_bind hr
          obtain ⟨z, l3, o3, l4, o4, hy, hr, _, _⟩ := run_bind hr
          have h1 := (run_ret hr).1
          subst h1
          have ih := lendA_ok hy
          obtain ⟨new, e1, e2, e3⟩ := ih.ext
          refine ⟨by simp [ih.len], ih.fz1, (sealL_fz hx).append ih.fz2, ⟨(d, qs) :: new, by simp [e1], by simp, fun x hx' => ?_⟩, fun hn => ih.nodup ?_, fun i p q hp hq => ?_⟩
          · rcases List.mem_cons.1 hx' with rfl | hx'
            · exact ⟨cs, wq, _, _, hm, hx, fun z hz => List.mem_append_left _ hz⟩
            · obtain ⟨cs', wr', l', o', a1, a2, a3⟩ := e3 x hx'
              exact ⟨cs', wr', l', o', a1, a2, fun z hz => List.mem_append_right _ (a3 z hz)⟩
          · rw [List.map_append, List.nodup_append]
            refine ⟨hn, by simp, fun a ha b hb => ?_⟩
            simp only [List.map_cons, List.map_nil, List.mem_singleton] at hb
            subst hb
            intro he
            subst he
            obtain ⟨x, hx1, hx2⟩ := List.mem_map.1 ha
            exact hno (List.any_eq_true.2 ⟨x, hx1, by simpa using hx2⟩)
          · cases i with
            | zero =>
              simp at hp hq
              subst hp; subst hq
              exact .inl ⟨d, bs.length, qs, rfl, rfl, by rw [e1]; simp⟩
            | succ i =>
              rcases ih.args i p q (by simpa using hp) (by simpa using hq) with ⟨d', j, cs', a1, a2, a3⟩ | ⟨wr', l', o', a1, a2⟩
              · exact .inl ⟨d', j, cs', a1, a2, a3⟩
              · exact .inr ⟨wr', l', o', a1, a2⟩
    · obtain ⟨⟨q0, wq⟩, l1, o1, l2, o2, hx, hr, _, _⟩ := run_bind hr
      obtain ⟨z, l3, o3, l4, o4, hy, hr, _, _⟩ := run_bind hr
      have h1 := (run_ret hr).1
      subst h1
      have ih := lendA_ok hy
      refine ⟨by simp [ih.len], (sealV_fz hx).append ih.fz1, ih.fz2, ih.ext, ih.nodup, fun i p q hp hq => ?_⟩
      cases i with
      | zero =>
        simp at hp hq
        subst hp; subst hq
        exact .inr ⟨wq, _, _, hx, fun z hz => List.mem_append_left _ hz⟩
      | succ i =>
        rcases ih.args i p q (by simpa using hp) (by simpa using hq) with ⟨d', j, cs', a1, a2, a3⟩ | ⟨wr', l', o', a1, a2⟩
        · exact .inl ⟨d', j, cs', a1, a2, a3⟩
        · exact .inr ⟨wr', l', o', a1, fun z hz => List.mem_append_right _ (a2 z hz)⟩

/-! ### a result that tells nothing of what was handed in -/
theorem Rep.indep {ok v p} (h : Rep w ok v p) (hs : sharesP p = false) (hp : plainLeaf p = true) (w' : World) (ok' : Nat → Prop) : Rep w' ok' v p := by
  cases h <;> simp [sharesP, plainLeaf] at hs hp
  · exact .int ..
  · exact .bool ..
  · exact .str ..
  · exact .nils
  · exact .nilp
  · exact .nilf
theorem RXL.indep {ok v p b} (h : RXL w ok v p b) (hs : sharesR p = false) (ok' : Nat → Prop) : RXL w ok' v p b := by
  cases h with
  | pl h hp => exact .pl (h.indep (by cases p <;> first | exact hs | simp [plainLeaf] at hp) hp _ _) hp
  | nil => exact .nil ..
  | nr h =>
    refine .nr ?_
    rcases h with ⟨h1, h2⟩ | ⟨g, c, cur, fz, h1, h2, h3, h4, h5, h6, h7, h8⟩
    · exact .inl ⟨h1, h2⟩
    · refine .inr ⟨g, c, cur, fz, h1, h2, h3, h4, h5, h6, h7, fun i x j p hx hp => ?_⟩
      obtain ⟨u, hu, hr⟩ := h8 i x j p hx hp
      have hm := List.mem_of_getElem? hx
      have hmp := List.mem_of_getElem? hp
      have hsp : sharesP p = false := by
        simp only [sharesR, List.any_eq_false] at hs
        have := hs x hm
        simp only [List.any_eq_true, not_exists, not_and] at this
        simpa using this p hmp
      exact ⟨u, hu, hr.indep hsp (h7 x hm p hmp) _ _⟩
theorem RXs.indep {ok vs ps bs} (h : RXs w ok vs ps bs) (hs : ps.any sharesR = false) (ok' : Nat → Prop) : RXs w ok' vs ps bs := by
  induction h with
  | nil => exact .nil
  | cons h r ih =>
    simp only [List.any_cons, Bool.or_eq_false_iff] at hs
    exact .cons (h.indep hs.1 ok') (ih hs.2)
def sharesV : PV → Bool
  | .agg cs => cs.any sharesLeaf
  | v => sharesLeaf v
theorem noNbP {p : PV} (hp : plainLeaf p = true) (hs : sharesLeaf p = false) : sharesR p = false := by
  cases p <;> first | exact hs | simp [plainLeaf] at hp
theorem RXs.noNb {ok vs ps bs} (h : RXs w ok vs ps bs) (hs : ps.any sharesLeaf = false) : ps.any sharesR = false := by
  induction h with
  | nil => rfl
  | cons h r ih =>
    simp only [List.any_cons, Bool.or_eq_false_iff] at hs ⊢
    refine ⟨?_, ih hs.2⟩
    cases h with
    | pl h hp => exact noNbP hp hs.1
    | nil => exact hs.1
    | nr => exact hs.1
theorem RXV.indep {ok v p b} (h : RXV w ok v p b) (hs : sharesV p = false) (ok' : Nat → Prop) : RXV w ok' v p b := by
  cases h with
  | leaf h =>
    refine .leaf (h.indep ?_ ok')
    cases h with
    | pl h hp => cases p <;> first | exact hs | simp [plainLeaf] at hp
    | nil => exact hs
    | nr => exact hs
  | agg h => exact .agg (h.indep (h.noNb hs) ok')
  | fn => simp [sharesV, sharesLeaf, sharesR, sharesP] at hs
  | nb hh hz h => exact .nb hh hz (h.indep hs ok')
theorem RXVs.indep {ok vs ps bs} (h : RXVs w ok vs ps bs) (hs : ps.any sharesV = false) (ok' : Nat → Prop) : RXVs w ok' vs ps bs := by
  induction h with
  | nil => exact .nil
  | cons h r ih =>
    simp only [List.any_cons, Bool.or_eq_false_iff] at hs
    exact .cons (h.indep hs.1 ok') (ih hs.2)
theorem RXR.indep {ok v p b} (h : RXR w ok v p b) (hs : shares p = false) (ok' : Nat → Prop) : RXR w ok' v p b := by
  cases h with
  | one h =>
    refine .one (h.indep ?_ ok')
    cases h with
    | leaf h => cases h with
      | pl h hp => cases p <;> first | exact hs | simp [plainLeaf] at hp
      | nil => exact hs
      | nr => exact hs
    | _ => exact hs
  | tup h =>
    rename_i us ps
    refine .tup (h.indep ?_ ok')
    refine Eq.trans ?_ hs
    simp only [shares]
    congr 1
theorem RXR.bool {ok v b bs} (h : RXR w ok v (.bool b) bs) : v = .bool b := by
  cases h with
  | one h => cases h with
    | leaf h => cases h with
      | pl h => cases h; rfl

/-! ### the call -/
def Entered (P : Program) (f : FuncId) : Prop := ∃ fn, P.funcs[f]? = some fn ∧ fn.name ≠ "runtime.NumGoroutine" ∧ fn.body.isNone = false
def ClipOk (P : Program) (f : FuncId) : Prop := ∀ w a n c, n ≤ c → Calls P f #[.slice a n c] w fun e w' => e = .returned (.slice a n n) ∧ w'.heap = w.heap ∧ w'.os = w.os ∧ w'.tape = w.tape ∧ w'.output = w.output
def RwOk (P : Program) (f : FuncId) (mv : Bool) (g : TypeId → Nat → List (List PV) → Option (List (List PV))) (ex : Array Value := #[]) : Prop :=
  (∀ w, Calls P f (#[.slice none 0 0] ++ ex) w fun e w' => e = .returned (match mv with | true => .slice none 0 0 | false => .tuple #[]) ∧ w'.heap = w.heap ∧ w'.os = w.os ∧ w'.tape = w.tape ∧ w'.output = w.output) ∧
  ∀ e sz xs ys, g e sz xs = some ys → ∀ w ok v, (∀ k, ok k → k < w.heap.size ∧ v.ownBlock ≠ some k) → RowAt w ok v e sz xs → Calls P f (#[v] ++ ex) w fun e1 w' =>
    w'.os = w.os ∧ w'.tape = w.tape ∧ w'.output = w.output ∧ w.heap.size ≤ w'.heap.size ∧ (∀ k, k < w.heap.size → v.ownBlock ≠ some k → w'.heap[k]? = w.heap[k]?) ∧
    ∃ v', e1 = .returned (match mv with | true => v' | false => .tuple #[]) ∧ v'.ownBlock = v.ownBlock ∧ (mv = false → v' = v) ∧ v'.oneCell' = true ∧ RowAt w' ok v' e sz ys
def BxOk (P : Program) (f : FuncId) (j : Nat) (g : List PV → TypeId → Nat → List (List PV) → Option (Option (List (List PV)) × PV)) : Prop :=
  (∀ rest e sz xs ys v, g rest e sz xs = some (some ys, v) → ∀ (w : World) (ok : Nat → Prop) (b : Nat) (cur : Array Value) (t : TypeId) (fz : Nat × Nat) (u : Value) (rv : Array Value), w.heap[b]? = some (.cells cur t fz) → cur[j]? = some u → u.ownBlock ≠ some b →
    (∀ k, ok k → k < w.heap.size ∧ u.ownBlock ≠ some k) → RowAt w ok u e sz xs → rv.size = rest.length → (∀ (i : Nat) x p, rv[i]? = some x → rest[i]? = some p → Rep w ok x p) → Calls P f (#[.pointer (some ⟨b, 0, none⟩)] ++ rv) w fun e1 w' =>
    w'.os = w.os ∧ w'.tape = w.tape ∧ w'.output = w.output ∧ w.heap.size ≤ w'.heap.size ∧ (∀ k, k < w.heap.size → u.ownBlock ≠ some k → w'.heap[k]? = w.heap[k]?) ∧ RowAt w' ok u e sz ys ∧ ∃ v', e1 = .returned v' ∧ plainLeaf v = true ∧ ∀ w2 ok2, Rep w2 ok2 v' v) ∧
  ∀ rest e sz xs v, g rest e sz xs = some (none, v) → ∀ (w : World) (ok : Nat → Prop) (b : Nat) (cur : Array Value) (t : TypeId) (fz : Nat × Nat) (a : Option Addr) (c : Nat) (rv : Array Value), w.heap[b]? = some (.cells cur t fz) → cur[j]? = some (.slice a xs.length c) →
    rv.size = rest.length → (∀ (i : Nat) x p, rv[i]? = some x → rest[i]? = some p → Rep w ok x p) → Calls P f (#[.pointer (some ⟨b, 0, none⟩)] ++ rv) w fun e1 w' =>
    w'.os = w.os ∧ w'.tape = w.tape ∧ w'.output = w.output ∧ w.heap.size ≤ w'.heap.size ∧ (∀ k, k < w.heap.size → w'.heap[k]? = w.heap[k]?) ∧ ∃ v', e1 = .returned v' ∧ plainLeaf v = true ∧ ∀ w2 ok2, Rep w2 ok2 v' v
structure Sound (E : Env) (call : Call) : Prop where
  call : ∀ f args lent res lent', call f args lent = some (res, lent') → Entered E.P f ∧ Contract E.P f args lent res lent'
  fn : ∀ f g, E.ext f = some (.fn g) → ∀ args res, g args = some res → Entered E.P f ∧ Contract E.P f args [] res []
  clip : ∀ f, E.ext f = some .clip → Entered E.P f ∧ ClipOk E.P f
  rw : ∀ f mv g, E.ext f = some (.rw mv g) → Entered E.P f ∧ RwOk E.P f mv g
  rwx : ∀ f mv c g, E.ext f = some (.rwx mv c g) → Entered E.P f ∧ RwOk E.P f mv g #[.func (.func c) #[] #[]]
  bx : ∀ f j g, E.ext f = some (.bx j g) → Entered E.P f ∧ BxOk E.P f j g

theorem nodup_map {α β : Type} {f : α → β} : ∀ {l : List α}, l.Nodup → (∀ a ∈ l, ∀ b ∈ l, f a = f b → a = b) → (l.map f).Nodup
  | [], _, _ => List.nodup_nil
  | x :: r, h, hi => by
    rw [List.nodup_cons] at h
    rw [List.map_cons, List.nodup_cons]
    refine ⟨fun hm => ?_, nodup_map h.2 (fun a ha b hb => hi a (List.mem_cons_of_mem _ ha) b (List.mem_cons_of_mem _ hb))⟩
    obtain ⟨y, hy, he⟩ := List.mem_map.1 hm
    exact h.1 (hi y (List.mem_cons_of_mem _ hy) x (List.mem_cons_self) he ▸ hy)

theorem call_sim {E : Env} (h : RelW w0 bl D w m G) {fid : Nat} (hf : Fr D D' fid) {f : FuncId} {args : List PV} {vs : Array Value} (ha : ArgsOk w (okP w m G) G vs args)
    {y : List PV × Wr × Wr × List (Nat × List PV)} {l1 o1} (hy : (lendA args []).run m = some (y, l1, o1)) (hno : (y.2.1 ++ y.2.2.1).any (fun z => y.2.2.2.any fun b => b.1 == z.1) = false)
    {r : PV} {lent : List (List PV)} (hc : Contract E.P f y.1 (y.2.2.2.map (·.2)) r lent) {v : PV} {w1 wb : Wr} {j j' : Nat} (h1 : impR fid 0 r = (v, w1, j)) (h2 : impB fid j (y.2.2.2.map (·.1)) lent = some (wb, j')) (h3 : j' ≤ 64) :
    Calls E.P f vs w fun e w' => ∃ v', e = .returned v' ∧ After w0 bl D' w m G v ((if shares r || !y.2.2.2.isEmpty then y.2.1 else []) ++ y.2.2.1 ++ w1 ++ wb) v' w' := by
  have L := lendA_ok hy
  obtain ⟨new, e1, e2, e3⟩ := L.ext
  have hz := L.fz1.append L.fz2
  obtain ⟨hR, hA⟩ := h.fzs hz
  rw [List.nil_append] at e1
  have hdsown : ∀ x ∈ y.2.2.2, ∃ cs b, m x.1 = some ⟨true, .box cs⟩ ∧ putF m (y.2.1 ++ y.2.2.1) x.1 = some ⟨true, .box cs⟩ ∧ G.B x.1 = some b := fun x hx => by
    obtain ⟨cs, wr, l, o, a1, a2, a3⟩ := e3 x (e1 ▸ hx)
    have hget : putF m (y.2.1 ++ y.2.2.1) x.1 = some ⟨true, .box cs⟩ := putF_fz_get hz _ _ a1 (fun z hz' he => by
      have : (y.2.1 ++ y.2.2.1).any (fun z => y.2.2.2.any fun b => b.1 == z.1) = true := List.any_eq_true.2 ⟨z, hz', List.any_eq_true.2 ⟨x, hx, by simpa using he.symm⟩⟩
      rw [hno] at this
      cases this)
    obtain ⟨b, hb, _⟩ := hR.ent _ _ hget
    exact ⟨cs, b, a1, hget, hb⟩
  let bl' := (y.2.2.2.map (·.1)).map fun d => (G.B d).getD 0
  have hbl : ∀ (i : Nat) b, bl'[i]? = some b → ∃ x, y.2.2.2[i]? = some x ∧ G.B x.1 = some b := fun i b hi => by
    simp only [bl', List.map_map, List.getElem?_map, Option.map_eq_some_iff] at hi
    obtain ⟨x, hx, he⟩ := hi
    obtain ⟨cs, b', _, _, hB⟩ := hdsown x (List.mem_of_getElem? hx)
    simp [hB] at he
    exact ⟨x, hx, by rw [hB, he]⟩
  have hnotin : ∀ k, okP w (putF m (y.2.1 ++ y.2.2.1)) G k → k < w.heap.size ∧ k ∉ bl' := fun k hk => ⟨hk.2.1, fun hkb => by
    obtain ⟨i, hi⟩ := List.mem_iff_getElem?.1 hkb
    obtain ⟨x, hx, hB⟩ := hbl i k hi
    obtain ⟨cs, b', _, hg, _⟩ := hdsown x (List.mem_of_getElem? hx)
    exact hk.2.2 _ _ hg (by simp [ownB, hB])⟩
  have hlent : LentOk w (okP w (putF m (y.2.1 ++ y.2.2.1)) G) bl' (y.2.2.2.map (·.2)) := by
    refine ⟨by simp [bl'], nodup_map (L.nodup (by simp)) (fun a ha b hb he => ?_), fun i b cs hb hcs => ?_⟩
    · obtain ⟨x, hx, rfl⟩ := List.mem_map.1 ha
      obtain ⟨x', hx', rfl⟩ := List.mem_map.1 hb
      obtain ⟨cs, b, _, hg, hB⟩ := hdsown x hx
      obtain ⟨cs', b', _, hg', hB'⟩ := hdsown x' hx'
      simp only [hB, hB', Option.getD_some] at he
      subst he
      exact hR.sep _ _ _ _ b hg hg' (by simp [ownB, hB]) (by simp [ownB, hB'])
    · obtain ⟨x, hx, hB⟩ := hbl i b hb
      simp only [List.getElem?_map, hx, Option.map_some, Option.some.injEq] at hcs
      subst hcs
      obtain ⟨cs0, wr, l, o, a1, a2, a3⟩ := e3 x (e1 ▸ List.mem_of_getElem? hx)
      obtain ⟨b', hB', cur, t, fz, g1, g2, g3, g4⟩ := h.ent _ _ a1
      rw [hB] at hB'
      injection hB' with hB'
      subst hB'
      obtain ⟨b1, b2, b3, b4, b5, b6⟩ := sealL_sim (vs := cur.toList) h (Fro.refl m) a2 (by simpa using g2) (fun j v p h1 h2 => by
        obtain ⟨u, hu, hr⟩ := g4 j p h2
        simp at h1
        rw [h1] at hu
        injection hu with hu
        exact hu ▸ hr)
      refine ⟨cur, t, fz, g1, by rw [b4, g2], g3, fun i p hp => ⟨b5 p (List.mem_of_getElem? hp), ?_⟩⟩
      have hi : i < cur.size := by have := (List.getElem?_eq_some_iff.1 hp).1; rw [b4] at this; omega
      refine ⟨cur[i], by simp [hi], (b6 i _ p (by simp [hi]) hp).mono fun k hk => ⟨okP_fz (sealL_fz a2) hz (fun z hz' => List.mem_append_right _ (a3 z hz')) hk, rfl⟩⟩
  have hargs : ArgsOk w (okP w (putF m (y.2.1 ++ y.2.2.1)) G) (Gl w (okP w (putF m (y.2.1 ++ y.2.2.1)) G) bl') vs y.1 := by
    refine ⟨by rw [L.len]; exact ha.1, fun i v q hv hq => ?_⟩
    have hlt : i < args.length := by have := (List.getElem?_eq_some_iff.1 hq).1; rw [L.len] at this; exact this
    have hp : args[i]? = some args[i] := List.getElem?_eq_getElem hlt
    have hS := ha.2 i v _ hv hp
    rcases L.args i _ q hp hq with ⟨d, j, cs, p1, rfl, p3⟩ | ⟨wr, l, o, p1, p2⟩
    · rw [p1] at hS
      obtain ⟨b, hB, rfl⟩ := hS.pb
      refine .leaf (.pb 0 ?_)
      show lentB bl' (lentId j) = some b
      rw [lentB_id]
      simp [bl', p3, hB]
    · obtain ⟨z1, z2⟩ := sealV_sim h p1 hS
      exact z2 w _ _ fun k hk => ⟨okP_fz z1 hz (fun z hz' => List.mem_append_left _ (p2 z hz')) hk, rfl⟩
  refine (hc w vs bl' _ hnotin hlent hargs).mono fun e w' ⟨v', he, hb⟩ => ⟨v', he, ?_⟩
  cases hsh : shares r || !y.2.2.2.isEmpty with
  | true =>
    obtain ⟨G', k1, k2, k3⟩ := hR.takeIn hf (ds := y.2.2.2.map (·.1)) (bl' := bl') (by simp [bl']) (fun i d b hd hb => by
      obtain ⟨x, hx, hB⟩ := hbl i b hb
      simp only [List.getElem?_map, hx, Option.map_some, Option.some.injEq] at hd
      subst hd
      obtain ⟨cs, _, _, hg, _⟩ := hdsown x (List.mem_of_getElem? hx)
      exact ⟨⟨cs, hg⟩, hB⟩) hb h1 h2 h3
    rw [← putF_append, ← List.append_assoc] at k1 k2 k3
    simp only [if_true]
    exact ⟨G', k1, hA.trans k2, k3⟩
  | false =>
    simp only [Bool.or_eq_false_iff, Bool.not_eq_false', List.isEmpty_iff] at hsh
    obtain ⟨hs1, hs2⟩ := hsh
    have hnew : y.2.2.1 = [] := e2 (by rw [← e1, hs2])
    obtain ⟨hk, bs, bss, hnd, hge, hx, hlx⟩ := hb
    have hbl0 : bl' = [] := by simp [bl', hs2]
    rw [hbl0] at hk hlx
    rw [hs2] at h2
    obtain ⟨G', k1, k2, k3⟩ := h.takeIn hf (ds := []) (bl' := []) rfl (by simp) ⟨hk, bs, bss, hnd, hge, hx.indep hs1 _, by cases hlx; exact .nil⟩ h1 h2 h3
    simp only [Bool.false_eq_true, if_false, hnew, List.append_nil, List.nil_append]
    exact ⟨G', k1, k2, k3⟩

theorem samePV_eq {a b : PV} (h : samePV a b = true) : a = b := by
  unfold samePV at h
  split at h <;> simp_all
theorem sameL_eq : ∀ {a b : List PV}, sameL a b = true → a = b := fun {a} => by
  induction a with
  | nil => intro b h; cases b with | nil => rfl | cons => simp [sameL] at h
  | cons x r ih =>
    intro b h
    cases b with
    | nil => simp [sameL] at h
    | cons y s =>
      simp only [sameL, Bool.and_eq_true] at h
      rw [samePV_eq h.1, ih h.2]
theorem putF_miss {d : Nat} : ∀ (a : Wr) (m : Nat → Option Ent), (∀ z ∈ a, z.1 ≠ d) → putF m a d = m d := fun a => by
  induction a with
  | nil => intro m _; rfl
  | cons z r ih =>
    intro m h
    obtain ⟨d', c⟩ := z
    have h1 : d' ≠ d := h _ List.mem_cons_self
    have h2 := fun m => ih m fun z hz => h z (List.mem_cons_of_mem _ hz)
    have h3 : ¬ d = d' := fun e => h1 e.symm
    cases c with
    | set c => simp only [putF, h2, upd, if_neg h3]
    | del => simp only [putF, h2, upd, if_neg h3]
    | fz =>
      simp only [putF, h2]
      cases m d' with
      | none => rfl
      | some e => simp only [upd, if_neg h3]
theorem retB_run {v v' : PV} {m : Nat → Option Ent} : ∀ (wb a : Wr) {wr l o}, (retB v a wb).run m = some ((v', wr), l, o) → v' = v ∧ putF m wr = putF m (a ++ wb) := fun wb => by
  induction wb with
  | nil =>
    intro a wr l o h
    have h1 := (run_ret h).1
    injection h1 with h1 h2
    exact ⟨h1, by rw [h2, List.append_nil]⟩
  | cons z r ih =>
    intro a wr l o h
    obtain ⟨d, x⟩ := z
    have step : ∀ {l o}, (retB v (a ++ [(d, x)]) r).run m = some ((v', wr), l, o) → v' = v ∧ putF m wr = putF m (a ++ (d, x) :: r) := fun h => by
      have h1 := ih _ h
      rw [List.append_assoc] at h1
      exact h1
    unfold retB at h
    split at h
    · rename_i xs
      split at h
      · exact step h
      · rename_i hno
        obtain ⟨c, o', hm, h⟩ := run_own h
        cases c with
        | box cs =>
          simp only at h
          split at h
          · rename_i hs
            have := sameL_eq hs
            subst this
            obtain ⟨h1, h2⟩ := ih a (by assumption)
            refine ⟨h1, ?_⟩
            rw [h2, putF_append, putF_append]
            simp only [putF]
            congr 1
            funext e
            simp only [upd]
            split
            · rename_i he
              subst he
              rw [putF_miss a m fun z hz hzd => hno (List.any_eq_true.2 ⟨z, hz, by simpa using hzd⟩), hm]
            · rfl
          · exact step (by assumption)
        | row => exact step h
    · exact step h
theorem rw_sim (h : RelW w0 bl D w m G) {fid : Nat} (hf : Fr D D' fid) {f : FuncId} {mv : Bool} {g : TypeId → Nat → List (List PV) → Option (List (List PV))} {ex : Array Value} (hR : RwOk P f mv g ex)
    {a : PV} {u : Value} (hu : RepS w (okP w m G) G u a) {v : PV} {wr : Wr} {l o} (hr : (rwSem mv g fid [a]).run m = some ((v, wr), l, o)) :
    Calls P f (#[u] ++ ex) w fun e w' => ∃ v', e = .returned v' ∧ After w0 bl D' w m G v wr v' w' := by
  obtain ⟨hn, hrw⟩ := hR
  unfold rwSem at hr
  split at hr
  · rename_i he
    injection he with he
    subst he
    have h1 := (run_ret hr).1
    injection h1 with h1 h2
    subst h1; subst h2
    have := hu.nils
    subst this
    refine (hn w).mono fun e w' ⟨he, q1, q2, q3, q4⟩ => ⟨_, he, ?_⟩
    obtain ⟨s1, s2⟩ := h.drawn q1 q2 q3 q4
    cases mv with
    | true => exact ⟨G, s1.widen hf.sub, s2, .leaf (.pl .nils rfl)⟩
    | false => exact ⟨G, s1.widen hf.sub, s2, .tup #[] [] rfl (by simp)⟩
  · rename_i d he
    injection he with he
    subst he
    obtain ⟨c, o1, hm, hr⟩ := run_own hr
    cases c with
    | box => exact (run_fail hr).elim
    | row e sz xs =>
      simp only at hr
      split at hr
      · rename_i ys hg
        obtain ⟨hV, _⟩ := hu.h
        obtain ⟨u', hV', hz, hrow⟩ := h.ent _ _ hm
        rw [hV] at hV'
        injection hV' with hV'
        subst hV'
        have hok : ∀ k, okP w m G k → k < w.heap.size ∧ u.ownBlock ≠ some k := fun k hk => ⟨hk.2.1, fun he => hk.2.2 d _ hm (by simp [ownB, hV, he])⟩
        refine (hrw e sz xs ys hg w _ u hok hrow).mono fun e1 w' ⟨q1, q2, q3, q4, q5, v', he, hb, hsame, h1c, hrow'⟩ => ⟨_, he, ?_⟩
        cases mv with
        | true =>
          have h1 := (run_ret hr).1
          injection h1 with h1 h2
          subst h1; subst h2
          obtain ⟨t1, t2⟩ := h.rowRwMove hf.zero.1 hf.sub hf.zero.2 hm hV q1 q2 q3 q4 q5 hb hrow'
          exact ⟨_, t1, t2, .leaf (.h (by simp [Gh.withV, upd_eq]) h1c)⟩
        | false =>
          have h1 := (run_ret hr).1
          injection h1 with h1 h2
          subst h1; subst h2
          have := hsame rfl
          subst this
          obtain ⟨t1, t2⟩ := h.rowRw hm hV hz q1 q2 q3 q4 q5 hrow'
          exact ⟨_, t1.widen hf.sub, t2, .tup #[] [] rfl (by simp)⟩
      · exact (run_fail hr).elim
  · exact (run_fail hr).elim
theorem RepS.plain {w ok G v p} (h : RepS w ok G v p) (hp : plainV p = true) : Rep w ok v p := by
  cases h with
  | undef => cases hp
  | leaf h =>
    have : plainLeaf p = true := by cases h <;> first | assumption | cases hp
    exact (RepS.leaf h).rep this
  | agg cells cs hl hv =>
    have hall : ∀ q ∈ cs, plainLeaf q = true := by simpa [plainV] using hp
    exact .agg cells cs hl hall fun j u q h1 h2 => (RepS.leaf (hv j u q h1 h2)).rep (hall q (List.mem_of_getElem? h2))
  | fn => cases hp
  | tup => cases hp
theorem bx_sim (h : RelW w0 bl D w m G) {fid : Nat} (hf : Fr D D' fid) {f : FuncId} {j : Nat} {g : List PV → TypeId → Nat → List (List PV) → Option (Option (List (List PV)) × PV)} (hR : BxOk P f j g)
    {args : List PV} {vs : Array Value} (ha : ArgsOk w (okP w m G) G vs args) {v : PV} {wr : Wr} {l o} (hr : (bxSem j g args).run m = some ((v, wr), l, o)) :
    Calls P f vs w fun e w' => ∃ v', e = .returned v' ∧ After w0 bl D' w m G v wr v' w' := by
  unfold bxSem at hr
  split at hr
  · rename_i d rest
    obtain ⟨c, o1, hm, hr⟩ := run_own hr
    cases c with
    | row => exact (run_fail hr).elim
    | box cs =>
      simp only at hr
      have hs : 0 < vs.size := by rw [ha.1]; simp
      have hv0 : vs[0]? = some vs[0] := by simp [hs]
      obtain ⟨b, hB, hvb⟩ := (ha.2 0 _ _ hv0 rfl).pb
      obtain ⟨b', hB', cur, t, fz, hh, hsz, hz, hc⟩ := h.ent _ _ hm
      rw [hB] at hB'
      injection hB' with hB'
      subst hB'
      have hvs : vs = #[.pointer (some ⟨b, 0, none⟩)] ++ vs.extract 1 vs.size := by
        refine Array.ext_getElem? fun i => ?_
        cases i with
        | zero => rw [hv0, hvb, Array.getElem?_append_left (by simp)]; rfl
        | succ i =>
          rw [Array.getElem?_append_right (by simp)]
          simp only [List.size_toArray, List.length_cons, List.length_nil, Nat.zero_add, Nat.add_sub_cancel]
          rw [Array.getElem?_extract]
          by_cases hi : i + 1 < vs.size
          · rw [if_pos (by omega), Nat.add_comm]
          · rw [if_neg (by omega)]
            exact Array.getElem?_eq_none (by omega)
      have hrs : (vs.extract 1 vs.size).size = rest.length := by
        have := ha.1
        simp at this ⊢
        omega
      have hrest : rest.all plainV = true → ∀ (i : Nat) x p, (vs.extract 1 vs.size)[i]? = some x → rest[i]? = some p → Rep w (okP w m G) x p := fun hpl i x p hx hp => by
        have hi : i < rest.length := (List.getElem?_eq_some_iff.1 hp).1
        have hi2 : i + 1 < vs.size := by have := ha.1; simp at this; omega
        rw [Array.getElem?_extract, if_pos (by omega), Nat.add_comm] at hx
        refine (ha.2 (i + 1) x p hx (by simpa using hp)).plain ?_
        exact List.all_eq_true.1 hpl p (List.mem_of_getElem? hp)
      have same : ∀ (a : Option Addr) (c : Nat) (e : TypeId) (sz : Nat) (xs : List (List PV)) (v : PV), cur[j]? = some (.slice a xs.length c) → (if (rest.all plainV) = true then g rest e sz xs else none) = some (none, v) → Calls P f vs w fun e w' => ∃ v', e = .returned v' ∧ After w0 bl D' w m G v [] v' w' := fun a c e sz xs v hu hg => by
        split at hg
        · rename_i hpl
          rw [hvs]
          refine (hR.2 rest e sz xs v hg w _ b cur t fz a c _ hh hu hrs (hrest hpl)).mono fun e1 w' ⟨q1, q2, q3, q4, q5, v', he, hpv, hrep⟩ => ⟨v', he, ?_⟩
          obtain ⟨t1, t2⟩ := h.step (fun _ => False) (fun _ _ => ⟨rfl, rfl, rfl⟩) (fun _ hd => hd) (fun d _ hd => h.dom d hd) q1 q2 q3 q4 rfl (fun k hk => q5 k hk.1) (fun _ _ => rfl) (fun d e1 _ he k ho => q5 k ((h.ent d e1 he).lt ho))
            (fun _ _ _ hu => hu.elim) (fun _ _ _ _ _ hu => hu.elim) (fun _ _ _ hu => hu.elim)
          exact ⟨_, t1.widen hf.sub, t2, .leaf (.pl (hrep _ _) hpv)⟩
        · cases hg
      split at hr
      · rename_i r hj
        obtain ⟨u, hu, hL⟩ := hc j _ hj
        have hV := (RepS.leaf hL).h.1
        obtain ⟨e2, o2, hm2, hr⟩ := run_rdc hr
        obtain ⟨own2, c2⟩ := e2
        cases c2 with
        | box => exact (run_fail hr).elim
        | row e sz xs =>
          simp only at hr
          split at hr
          · rename_i v0 hg
            have h1 := (run_ret hr).1
            injection h1 with h1 h2
            subst h1; subst h2
            have hsl : ∃ a c, u = .slice a xs.length c := by
              have hent := h.ent _ _ hm2
              cases own2 with
              | true =>
                obtain ⟨u', hV', _, hrow⟩ := hent
                rw [hV] at hV'
                injection hV' with hV'
                subst hV'
                rcases hrow with ⟨rfl, rfl⟩ | ⟨g, c, _, _, rfl, _⟩
                · exact ⟨none, 0, rfl⟩
                · exact ⟨_, _, rfl⟩
              | false =>
                obtain ⟨u', hV', hrep⟩ := hent.froRow
                rw [hV] at hV'
                injection hV' with hV'
                subst hV'
                cases hrep
                exact ⟨_, _, rfl⟩
            obtain ⟨a, c, rfl⟩ := hsl
            exact same a c e sz xs v hu hg
          · rename_i ys v0 hg
            obtain ⟨c3, o3, hm3, hr⟩ := run_own hr
            rw [hm2] at hm3
            injection hm3 with hm3
            injection hm3 with hm3 _
            subst hm3
            have h1 := (run_ret hr).1
            injection h1 with h1 h2
            subst h1; subst h2
            split at hg
            · rename_i hpl
              obtain ⟨u', hV', hzd, hrow⟩ := h.ent _ _ hm2
              rw [hV] at hV'
              injection hV' with hV'
              subst hV'
              have hne : u.ownBlock ≠ some b := fun he => by
                have := h.sep d r _ _ b hm hm2 (by simp [ownB, hB]) (by simp [ownB, hV, he])
                subst this
                rw [hm] at hm2
                cases hm2
              have hok : ∀ k, okP w m G k → k < w.heap.size ∧ u.ownBlock ≠ some k := fun k hk => ⟨hk.2.1, fun he => hk.2.2 r _ hm2 (by simp [ownB, hV, he])⟩
              rw [hvs]
              refine (hR.1 rest e sz xs ys v hg w _ b cur t fz u _ hh hu hne hok hrow hrs (hrest hpl)).mono fun e1 w' ⟨q1, q2, q3, q4, q5, hrow', v', he, hpv, hrep⟩ => ⟨v', he, ?_⟩
              obtain ⟨t1, t2⟩ := h.rowRw hm2 hV hzd q1 q2 q3 q4 q5 hrow'
              exact ⟨_, t1.widen hf.sub, t2, .leaf (.pl (hrep _ _) hpv)⟩
            · cases hg
          · exact (run_fail hr).elim
      · rename_i sz xs hj
        obtain ⟨u, hu, hL⟩ := hc j _ hj
        split at hr
        · rename_i v0 hg
          have h1 := (run_ret hr).1
          injection h1 with h1 h2
          subst h1; subst h2
          have hrep := (RepS.leaf hL).rep rfl
          cases hrep with
          | sl a c _ _ _ _ _ _ _ _ => exact same a c 0 sz xs v hu hg
        · exact (run_fail hr).elim
      · exact (run_fail hr).elim
  · exact (run_fail hr).elim
theorem callSem_sim {E : Env} {call : Call} (hS : Sound E call) (h : RelW w0 bl D w m G) {fid : Nat} (hf : Fr D D' fid) {f : FuncId} {args : List PV} {vs : Array Value} (ha : ArgsOk w (okP w m G) G vs args)
    {v : PV} {wr : Wr} {l o} (hr : (callSem E call fid f args).run m = some ((v, wr), l, o)) :
    Entered E.P f ∧ Calls E.P f vs w fun e w' => ∃ v', e = .returned v' ∧ After w0 bl D' w m G v wr v' w' := by
  unfold callSem at hr
  split at hr
  · rename_i hx
    obtain ⟨hen, hcl⟩ := hS.clip f hx
    refine ⟨hen, ?_⟩
    have hvs : ∀ {p}, args = [p] → ∃ u, vs = #[u] ∧ RepS w (okP w m G) G u p := fun {p} he => by
      subst he
      have := ha.1
      have hu : ∃ u, vs = #[u] := by
        rcases vs with ⟨_ | ⟨u, _ | ⟨u', r⟩⟩⟩ <;> simp at this
        exact ⟨u, rfl⟩
      obtain ⟨u, rfl⟩ := hu
      exact ⟨u, rfl, ha.2 0 u p rfl rfl⟩
    split at hr
    · obtain ⟨u, rfl, hu⟩ := hvs rfl
      have h1 := (run_ret hr).1
      injection h1 with h1 h2
      subst h1; subst h2
      have := hu.nils
      subst this
      refine (hcl w none 0 0 (Nat.le_refl _)).mono fun e w' ⟨he, q1, q2, q3, q4⟩ => ⟨_, he, ?_⟩
      obtain ⟨s1, s2⟩ := h.drawn q1 q2 q3 q4
      exact ⟨G, s1.widen hf.sub, s2, .leaf (.pl .nils rfl)⟩
    · rename_i sz xs
      obtain ⟨u, rfl, hu⟩ := hvs rfl
      have h1 := (run_ret hr).1
      injection h1 with h1 h2
      subst h1; subst h2
      have := hu.rep rfl
      cases this with
      | sl a c _ _ vs hc hz hp hr hv =>
        refine (hcl w a xs.length c hc).mono fun e w' ⟨he, q1, q2, q3, q4⟩ => ⟨_, he, ?_⟩
        obtain ⟨s1, s2⟩ := h.drawn q1 q2 q3 q4
        exact ⟨G, s1.widen hf.sub, s2, .leaf (.pl ((Rep.sl a xs.length sz xs vs (Nat.le_refl _) hz hp hr hv).mono s2.ok) rfl)⟩
    · rename_i d
      obtain ⟨u, rfl, hu⟩ := hvs rfl
      obtain ⟨c, o1, hm, hr⟩ := run_own hr
      cases c with
      | box => exact (run_fail hr).elim
      | row e sz xs =>
        have h1 := (run_ret hr).1
        injection h1 with h1 h2
        subst h1; subst h2
        obtain ⟨hV, _⟩ := hu.h
        obtain ⟨u', hV', hz, hrow⟩ := h.ent _ _ hm
        rw [hV] at hV'
        injection hV' with hV'
        subst hV'
        rcases hrow with ⟨rfl, rfl⟩ | ⟨g, c, cur, fz, rfl, f1, f2, f3, f4, f5, f6, f7⟩
        · refine (hcl w none 0 0 (Nat.le_refl _)).mono fun e' w' ⟨he, q1, q2, q3, q4⟩ => ⟨_, he, ?_⟩
          obtain ⟨s1, s2⟩ := h.drawn q1 q2 q3 q4
          obtain ⟨t1, t2⟩ := s1.nilMove (d := d) (e := e) (sz := sz) hf.zero.1 hf.sub hf.zero.2 (fun x hx => by
            rw [hm] at hx; injection hx with hx; subst hx; simp [ownB, hV, Value.ownBlock])
          exact ⟨_, t1, s2.trans t2, .leaf (.h (by simp [Gh.withV, upd_eq]) rfl)⟩
        · refine (hcl w (some ⟨g, 0, none⟩) xs.length c f2).mono fun e' w' ⟨he, q1, q2, q3, q4⟩ => ⟨_, he, ?_⟩
          obtain ⟨s1, s2⟩ := h.drawn q1 q2 q3 q4
          obtain ⟨t1, t2⟩ := s1.rowMove hf.zero.1 hf.sub hf.zero.2 hm hV (by rw [q1]; exact f1) f4 0 [] xs xs.length (Nat.le_refl _) (Nat.le_trans (Nat.mul_le_mul_right sz f2) f3) f5 f6 (fun i x j p hx hp => by
            obtain ⟨u, hu, hr⟩ := f7 i x j p hx hp
            exact ⟨u, hu, hr.mono s2.ok⟩)
          exact ⟨_, t1, s2.trans t2, .leaf (.h (by simp [Gh.withV, upd_eq]) rfl)⟩
    · exact (run_fail hr).elim
  · rename_i mv g hx
    obtain ⟨hen, hrw⟩ := hS.rw f mv g hx
    refine ⟨hen, ?_⟩
    have h1 : ∃ a, args = [a] := by
      unfold rwSem at hr
      split at hr
      · exact ⟨_, rfl⟩
      · exact ⟨_, rfl⟩
      · exact (run_fail hr).elim
    obtain ⟨a, rfl⟩ := h1
    have hvs : ∃ u, vs = #[u] := by
      have := ha.1
      rcases vs with ⟨_ | ⟨u, _ | ⟨u', r⟩⟩⟩ <;> simp at this
      exact ⟨u, rfl⟩
    obtain ⟨u, rfl⟩ := hvs
    exact rw_sim h hf hrw (ha.2 0 u a rfl rfl) hr
  · rename_i mv c g hx
    obtain ⟨hen, hrw⟩ := hS.rwx f mv c g hx
    refine ⟨hen, ?_⟩
    unfold rwxSem at hr
    split at hr
    · rename_i a c'
      split at hr
      · rename_i hc
        have hc : c' = c := by simpa using hc
        subst hc
        have hvs : ∃ u u', vs = #[u, u'] := by
          have := ha.1
          rcases vs with ⟨_ | ⟨u, _ | ⟨u', _ | ⟨u'', r⟩⟩⟩⟩ <;> simp at this
          exact ⟨u, u', rfl⟩
        obtain ⟨u, u', rfl⟩ := hvs
        have h2 := ha.2 1 u' (.fn c' []) rfl rfl
        have hu' : u' = .func (.func c') #[] #[] := by
          cases h2 with
          | leaf h => cases h with
            | pl h hp => cases hp
          | fn _ caps _ hl hv =>
            have hs : caps = #[] := Array.eq_empty_of_size_eq_zero hl
            rw [hs]
        subst hu'
        exact rw_sim h hf hrw (ha.2 0 u a rfl rfl) hr
      · exact (run_fail hr).elim
    · exact (run_fail hr).elim
  · rename_i j g hx
    obtain ⟨hen, hbx⟩ := hS.bx f j g hx
    exact ⟨hen, bx_sim h hf hbx ha hr⟩
  · rename_i x hx
    obtain ⟨y, l1, o1, l2, o2, hy, hr, _, _⟩ := run_bind hr
    split at hr
    · exact (run_fail hr).elim
    · rename_i hno
      have hno' : (y.2.1 ++ y.2.2.1).any (fun z => y.2.2.2.any fun b => b.1 == z.1) = false := by simpa using hno
      split at hr
      · exact (run_fail hr).elim
      · rename_i r lent hcall
        have hcon : Entered E.P f ∧ Contract E.P f y.1 (y.2.2.2.map (·.2)) r lent := by
          unfold callOf at hcall
          split at hcall
          · rename_i g hg
            split at hcall
            · rename_i hem
              split at hcall
              · rename_i r' hr'
                simp only [Option.some.injEq, Prod.mk.injEq] at hcall
                obtain ⟨rfl, rfl⟩ := hcall
                have := hS.fn f g hg _ _ hr'
                have hem' : y.2.2.2 = [] := by simpa using hem
                rw [hem']
                exact this
              · cases hcall
            · cases hcall
          · exact hS.call f _ _ _ _ hcall
        split at hr
        rename_i v1 w1 j hi
        split at hr
        · exact (run_fail hr).elim
        · rename_i wb j' hb
          split at hr
          · rename_i hj
            unfold endB at hr
            split at hr
            · obtain ⟨hv, hp⟩ := retB_run _ _ hr
              subst hv
              have h9 := call_sim h hf ha hy hno' hcon.2 hi hb hj
              refine ⟨hcon.1, h9.mono fun e w' ⟨v', he, q⟩ => ⟨v', he, ?_⟩⟩
              unfold After at q ⊢
              rw [hp]
              exact q
            · have h1 := (run_ret hr).1
              injection h1 with h1 h2
              subst h1; subst h2
              exact ⟨hcon.1, call_sim h hf ha hy hno' hcon.2 hi hb hj⟩
          · exact (run_fail hr).elim
end Go.Den

/- Den, part S: every operation. -/
namespace Go.Den
variable {P : Program} {w0 w : World} {bl : List Nat} {D D' : Nat → Prop} {m m1 : Nat → Option Ent} {G : Gh}

/-- What the machine does at an operation. -/
def Does (P : Program) (o : Oper) (a : Act) (w : World) (R : Value → World → Prop) : Prop :=
  (∃ v w', (execOp a.eval o).run P w = .ok (.value v) w' ∧ R v w') ∨ (∃ w', (execOp a.eval o).run P w = .ok .skip w' ∧ R Go.undef w') ∨
  ∃ f args, (execOp a.eval o).run P w = .ok (.enter f args) w ∧ Calls P f args w fun e w' => ∃ v, e = .returned v ∧ R v w'
theorem Does.wp {o : Oper} {a : Act} {R : Value → World → Prop} {K : Act → World → Prop} {Q : Exit → Act → World → Prop} (h : Does P o a w R) (hk : ∀ v w', R v w' → K (a.put o.dst v) w') : o.wp P a w K Q := by
  unfold Oper.wp
  rcases h with ⟨v, w', h1, h2⟩ | ⟨w', h1, h2⟩ | ⟨f, args, h1, h2⟩
  · rw [h1]; exact hk v w' h2
  · rw [h1]; exact hk _ w' h2
  · rw [h1, Oper.upon_enter]
    exact h2.mono fun e w' ⟨v, he, hr⟩ => by subst he; exact hk v w' hr
theorem Does.mono {o : Oper} {a : Act} {R R' : Value → World → Prop} (h : Does P o a w R) (hk : ∀ v w', R v w' → R' v w') : Does P o a w R' := by
  rcases h with ⟨v, w', h1, h2⟩ | ⟨w', h1, h2⟩ | ⟨f, args, h1, h2⟩
  · exact .inl ⟨v, w', h1, hk _ _ h2⟩
  · exact .inr (.inl ⟨w', h1, hk _ _ h2⟩)
  · exact .inr (.inr ⟨f, args, h1, h2.mono fun e w' ⟨v, he, hr⟩ => ⟨v, he, hk _ _ hr⟩⟩)

theorem builtinSem_sim (h : RelW w0 bl D w m G) {fid : Nat} (hf : Fr D D' fid) {b : Builtin} {ts : Array TypeId} {ty : TypeId} {cb : Array Bool} {args : List PV} {vs : Array Value} (ha : ArgsOk w (okP w m G) G vs args)
    {v : PV} {wr : Wr} {l o} (hr : (builtinSem P fid b ts args).run m = some ((v, wr), l, o)) :
    ∃ v' w', (builtin b ts ty cb vs).run P w = .ok (.value v') w' ∧ After w0 bl D' w m G v wr v' w' := by
  have one : ∀ {p}, args = [p] → ∃ u, vs = #[u] ∧ RepS w (okP w m G) G u p := fun {p} he => by
    subst he
    have := ha.1
    have hu : ∃ u, vs = #[u] := by
      rcases vs with ⟨_ | ⟨u, _ | ⟨u', r⟩⟩⟩ <;> simp at this
      exact ⟨u, rfl⟩
    obtain ⟨u, rfl⟩ := hu
    exact ⟨u, rfl, ha.2 0 u p rfl rfl⟩
  have two : ∀ {p q}, args = [p, q] → ∃ u x, vs = #[u, x] ∧ RepS w (okP w m G) G u p ∧ RepS w (okP w m G) G x q := fun {p q} he => by
    subst he
    have := ha.1
    have hu : ∃ u x, vs = #[u, x] := by
      rcases vs with ⟨_ | ⟨u, _ | ⟨u', _ | ⟨u'', r⟩⟩⟩⟩ <;> simp at this
      exact ⟨u, u', rfl⟩
    obtain ⟨u, x, rfl⟩ := hu
    exact ⟨u, x, rfl, ha.2 0 u p rfl rfl, ha.2 1 x q rfl rfl⟩
  unfold builtinSem at hr
  split at hr
  · split at hr
    · obtain ⟨u, rfl, hu⟩ := one rfl
      obtain ⟨v', h1, h2⟩ := lenS_sim (ty := ty) h hf.sub hr hu
      exact ⟨v', w, by simp [builtin, h1], h2⟩
    · exact (run_fail hr).elim
  · obtain ⟨v', h1, h2⟩ := minmax_sim (P := P) (ts := ts) (ty := ty) h hf.sub hr ha.1 ha.2
    exact ⟨v', w, by simp only at h1; simp [builtin, h1], h2⟩
  · obtain ⟨v', h1, h2⟩ := minmax_sim (P := P) (ts := ts) (ty := ty) h hf.sub hr ha.1 ha.2
    exact ⟨v', w, by simp only at h1; simp [builtin, h1], h2⟩
  · split at hr
    · split at hr
      · rename_i hts
        obtain ⟨u, x, rfl, hu, hx⟩ := two rfl
        have ht : ∃ t t', ts = #[t, t'] := by
          have : ts.size = 2 := by simpa using hts
          rcases ts with ⟨_ | ⟨t, _ | ⟨t', _ | ⟨t'', r⟩⟩⟩⟩ <;> simp at this
          exact ⟨t, t', rfl⟩
        obtain ⟨t, t', ht⟩ := ht
        obtain ⟨v', w', h1, h2⟩ := appendS_sim (ty := ty) h hf ht hr hu hx
        exact ⟨v', w', by simp [builtin, h1], h2⟩
      · exact (run_fail hr).elim
    · exact (run_fail hr).elim
  · exact (run_fail hr).elim

theorem run_callFunc_enter {f : FuncId} (h : Entered P f) (args : Array Value) : (callFunc f args).run P w = .ok (.enter f args) w := by
  obtain ⟨fn, h1, h2, h3⟩ := h
  have h4 : fn.body ≠ none := by intro h; simp [h] at h3
  simp [callFunc, h1, h2, h4]

theorem RepS.leafOf {ok v p} (h : RepS w ok G v p) (hp : okLeaf p = true) : RepL w ok G v p := by
  cases h with
  | leaf h => exact h
  | _ => simp [okLeaf] at hp
theorem run_v {s : Sem Value} {v : Value} {w' : World} (h : s.run P w = .ok v w') : (do pure (Next.value (← s)) : Sem Next).run P w = .ok (.value v) w' := by
  simp [h]
theorem opSem_sim {E : Env} {call : Call} (hS : Sound E call) (h : RelW w0 bl D w m G) {fid : Nat} (hf : Fr D D' fid) {a : Act} {g : Nat → Option PV} (hs : SlotsOk a w (okP w m G) G g) {oo : Oper}
    {v : PV} {wr : Wr} {l o} (hr : (opSem E call fid g oo.op).run m = some ((v, wr), l, o)) : Does E.P oo a w (After w0 bl D' w m G v wr) := by
  obtain ⟨dst, op, ty, pos, aft, grd⟩ := oo
  simp only at hr
  have ev : ∀ {x p}, evOp g x = some p → RepS w (okP w m G) G (a.eval x) p := fun hx => evOp_rep hs hx
  have quiet : ∀ {v v'}, RepS w (okP w m G) G v' v → After w0 bl D' w m G v [] v' w := fun hv => After.quiet h hf.sub hv
  have move : ∀ {x}, (retO (evOp g x)).run m = some ((v, wr), l, o) → After w0 bl D' w m G v wr (a.eval x) w := fun hr => by
    obtain ⟨h1, rfl⟩ := run_retO hr
    exact quiet (ev h1)
  cases op with
  | move x => exact .inl ⟨a.eval x, w, by simp [execOp], move hr⟩
  | assign x => exact .inl ⟨a.eval x, w, by simp [execOp], move hr⟩
  | pick c x y =>
    simp only [opSem] at hr
    split at hr
    · rename_i t hc
      have hb := (ev hc).bool
      cases t with
      | true => exact .inl ⟨a.eval x, w, by simp [execOp, hb, asBool], move hr⟩
      | false => exact .inl ⟨a.eval y, w, by simp [execOp, hb, asBool], move hr⟩
    · exact (run_fail hr).elim
  | alloc t =>
    simp only [opSem] at hr
    split at hr
    · rename_i cs hz
      have h1 := (run_ret hr).1
      injection h1 with h1 h2
      subst h1; subst h2
      obtain ⟨v', w', h1, h2⟩ := alloc_sim (P := E.P) h hf hz
      exact .inl ⟨v', w', by simp [execOp, h1], h2⟩
    · exact (run_fail hr).elim
  | box t x =>
    obtain ⟨cs, l1, o1, l2, o2, hx, hr, _, _⟩ := run_bind hr
    have hx := run_of hx
    have h1 := (run_ret hr).1
    injection h1 with h1 h2
    subst h1; subst h2
    cases he : evOp g x with
    | none => simp [he] at hx
    | some p =>
      simp only [he, Option.bind_some] at hx
      obtain ⟨v', w', h1, h2⟩ := box_sim (P := E.P) h hf (t := t) (ev he) hx
      exact .inl ⟨v', w', by simp [execOp, h1], h2⟩
  | build t ps =>
    obtain ⟨cs, l1, o1, l2, o2, hx, hr, _, _⟩ := run_bind hr
    have hp := evParts_ok hs (run_of hx)
    obtain ⟨v', h1, h2⟩ := buildS_sim (vs := ps.map fun x => (x.1, a.eval x.2)) h hf.sub hr (by simpa using hp)
    exact .inl ⟨v', w, by simp [execOp, h1], h2⟩
  | buildSlice t n ps =>
    obtain ⟨cs, l1, o1, l2, o2, hx, hr, _, _⟩ := run_bind hr
    have hp := evParts_ok hs (run_of hx)
    obtain ⟨v', w', h1, h2⟩ := buildSliceS_sim (vs := ps.map fun x => (x.1, a.eval x.2)) h hf hr (by simpa using hp)
    exact .inl ⟨v', w', by simp [execOp, h1], h2⟩
  | load t x =>
    obtain ⟨p, l1, o1, l2, o2, hx, hr, _, _⟩ := run_bind hr
    obtain ⟨v', h1, h2⟩ := loadS_sim h hf.sub hr (ev (run_of hx))
    exact .inl ⟨v', w, by simp [execOp, h1], h2⟩
  | store t x y =>
    obtain ⟨p, l1, o1, l2, o2, hx, hr, _, _⟩ := run_bind hr
    obtain ⟨q, l3, o3, l4, o4, hy, hr, _, _⟩ := run_bind hr
    have hy := run_of hy
    cases he : evOp g y with
    | none => simp [he] at hy
    | some p' =>
      simp only [he, Option.bind_some] at hy
      obtain ⟨rfl, w', h1, h2⟩ := storeS_sim h hf.sub hr (ev (run_of hx)) ((ev he).leaves hy)
      exact .inr (.inl ⟨w', by simp [execOp, h1], h2⟩)
  | nilCheck x =>
    obtain ⟨p, l1, o1, l2, o2, hx, hr, _, _⟩ := run_bind hr
    split at hr
    · rename_i hp
      have h1 := (run_ret hr).1
      injection h1 with h1 h2
      subst h1; subst h2
      have hS := ev (run_of hx)
      obtain ⟨ad, had⟩ := nilCheck_sim hS hp
      rw [had] at hS
      exact .inl ⟨_, w, by simp [execOp, had], quiet hS⟩
    · exact (run_fail hr).elim
  | binOp op t x y t2 =>
    obtain ⟨p, l1, o1, l2, o2, hx, hr, _, _⟩ := run_bind hr
    obtain ⟨q, l3, o3, l4, o4, hy, hr, _, _⟩ := run_bind hr
    obtain ⟨hv, rfl⟩ := run_retO hr
    obtain ⟨v', h1, h2⟩ := evBin_run hv (ev (run_of hx)) (ev (run_of hy)) x y
    exact .inl ⟨v', w, run_v h1, quiet h2⟩
  | unOp op t x =>
    obtain ⟨p, l1, o1, l2, o2, hx, hr, _, _⟩ := run_bind hr
    obtain ⟨hv, rfl⟩ := run_retO hr
    obtain ⟨v', h1, h2⟩ := evUn_run (P := E.P) hv (ev (run_of hx))
    exact .inl ⟨v', w, by simp [execOp, h1], quiet h2⟩
  | convert s t x =>
    obtain ⟨p, l1, o1, l2, o2, hx, hr, _, _⟩ := run_bind hr
    obtain ⟨v', w', h1, h2⟩ := convS_sim h hf hr (ev (run_of hx))
    exact .inl ⟨v', w', by simp [execOp, h1], h2⟩
  | makeFunc fn first caps =>
    cases fn with
    | func f =>
      simp only [opSem] at hr
      split at hr
      · rename_i hfi
        split at hr
        · rename_i cs hc
          split at hr
          case isFalse => exact (run_fail hr).elim
          rename_i hok
          have h1 := (run_ret hr).1
          injection h1 with h1 h2
          subst h1; subst h2
          have hfi : first = #[] := by simpa using hfi
          subst hfi
          obtain ⟨c1, c2⟩ := evOps_rep hs hc
          refine .inl ⟨.func (.func f) #[] (caps.map a.eval), w, by simp [execOp, Instr.makeFunc], quiet (.fn f _ cs (by simpa using c1) fun j v p h1 h2 => (c2 j v p (by simpa using h1) h2).leafOf (List.all_eq_true.1 hok p (List.mem_of_getElem? h2)))⟩
        · exact (run_fail hr).elim
      · exact (run_fail hr).elim
    | _ => exact (run_fail hr).elim
  | makeSlice t x y =>
    obtain ⟨p, l1, o1, l2, o2, hx, hr, _, _⟩ := run_bind hr
    obtain ⟨q, l3, o3, l4, o4, hy, hr, _, _⟩ := run_bind hr
    obtain ⟨v', w', h1, h2⟩ := makeS_sim h hf hr (ev (run_of hx)) (ev (run_of hy))
    exact .inl ⟨v', w', by simp [execOp, h1], h2⟩
  | slice t x lo hi mx =>
    obtain ⟨p, l1, o1, l2, o2, hx, hr, _, _⟩ := run_bind hr
    split at hr
    · obtain ⟨v', w', h1, h2⟩ := viewS_sim h hf.sub hr (ev (run_of hx)) (bdOk_map hs lo) (bdOk_map hs hi) (bdOk_map hs mx)
      exact .inl ⟨v', w', by simp [execOp, h1], h2⟩
    · obtain ⟨v', w', h1, h2⟩ := sliceS_sim h hf.sub hr (ev (run_of hx)) (bdOk_map hs lo) (bdOk_map hs hi) (bdOk_map hs mx)
      exact .inl ⟨v', w', by simp [execOp, h1], h2⟩
  | fieldAddr t x j =>
    obtain ⟨p, l1, o1, l2, o2, hx, hr, _, _⟩ := run_bind hr
    obtain ⟨v', h1, h2⟩ := fieldAddrS_sim h hf.sub hr (ev (run_of hx))
    exact .inl ⟨v', w, by simp [execOp, h1], h2⟩
  | field t x j =>
    obtain ⟨p, l1, o1, l2, o2, hx, hr, _, _⟩ := run_bind hr
    split at hr
    · rename_i off ft cs hf1
      obtain ⟨hv, rfl⟩ := run_retO hr
      obtain ⟨v', h1, h2⟩ := fieldS_sim h hf.sub hf1 hv (ev (run_of hx))
      exact .inl ⟨v', w, by simp [execOp, h1], h2⟩
    · exact (run_fail hr).elim
  | indexAddr t x i =>
    obtain ⟨p, l1, o1, l2, o2, hx, hr, _, _⟩ := run_bind hr
    obtain ⟨q, l3, o3, l4, o4, hy, hr, _, _⟩ := run_bind hr
    obtain ⟨v', h1, h2⟩ := indexAddrS_sim h hf.sub hr (ev (run_of hx)) (ev (run_of hy))
    exact .inl ⟨v', w, by simp [execOp, h1], h2⟩
  | index t x i =>
    obtain ⟨p, l1, o1, l2, o2, hx, hr, _, _⟩ := run_bind hr
    obtain ⟨q, l3, o3, l4, o4, hy, hr, _, _⟩ := run_bind hr
    obtain ⟨v', h1, h2⟩ := indexS_sim h hf.sub hr (ev (run_of hx)) (ev (run_of hy))
    exact .inl ⟨v', w, by simp [execOp, h1], h2⟩
  | extract x j =>
    obtain ⟨p, l1, o1, l2, o2, hx, hr, _, _⟩ := run_bind hr
    split at hr
    · rename_i vs
      obtain ⟨hv, rfl⟩ := run_retO hr
      have hS := ev (run_of hx)
      generalize hu : a.eval x = u at hS
      cases hS with
      | leaf h => cases h with | pl h hp => simp [plainLeaf] at hp
      | tup us _ hl hv' =>
        have hlt : j < us.size := by rw [hl]; exact (List.getElem?_eq_some_iff.1 hv).1
        refine .inl ⟨us[j], w, by simp [execOp, hu, Instr.extract, hlt], quiet (hv' j _ _ (by simp [hlt]) hv)⟩
    · exact (run_fail hr).elim
  | call c =>
    simp only [opSem] at hr
    split at hr
    · exact (run_fail hr).elim
    · rename_i args hargs
      obtain ⟨c1, c2⟩ := evOps_rep hs hargs
      have hA : ArgsOk w (okP w m G) G (c.args.map a.eval) args := ⟨by simpa using c1, fun j v p h1 h2 => c2 j v p (by simpa using h1) h2⟩
      split at hr
      · rename_i b hb
        have hcb : ∃ cb, ∀ w, (execOp a.eval ⟨dst, .call c, ty, pos, aft, grd⟩).run E.P w = (builtin b c.argTypes ty cb (c.args.map a.eval)).run E.P w := ⟨_, fun w => by simp only [execOp, resolve, hb]; rfl⟩
        obtain ⟨cb, hcb⟩ := hcb
        obtain ⟨v', w', h1, h2⟩ := builtinSem_sim (ty := ty) (cb := cb) h hf hA hr
        exact .inl ⟨v', w', (hcb w).trans h1, h2⟩
      · rename_i x hb
        obtain ⟨p, l1, o1, l2, o2, hx, hr, _, _⟩ := run_bind hr
        split at hr
        · rename_i f caps
          have hS := ev (run_of hx)
          generalize hu : a.eval x = u at hS
          cases hS with
          | leaf h => cases h with | pl h hp => simp [plainLeaf] at hp
          | fn _ cu _ hl hv' =>
            have hA2 : ArgsOk w (okP w m G) G (c.args.map a.eval ++ cu) (args ++ caps) := by
              refine ⟨by simp [hA.1, hl], fun j v p h1 h2 => ?_⟩
              have hsz : args.length = (c.args.map a.eval).size := hA.1.symm
              by_cases hj : j < args.length
              · rw [List.getElem?_append_left hj] at h2
                rw [Array.getElem?_append_left (by omega)] at h1
                exact hA.2 j v p h1 h2
              · rw [List.getElem?_append_right (by omega)] at h2
                rw [Array.getElem?_append_right (by omega)] at h1
                rw [hsz] at h2
                exact .leaf (hv' _ v p h1 h2)
            obtain ⟨hen, hcl⟩ := callSem_sim hS h hf hA2 hr
            refine .inr (.inr ⟨f, _, ?_, hcl⟩)
            simp only [execOp, resolve, hb, hu, Deferred.ofValue]
            simpa [invoke] using run_callFunc_enter hen _
        · exact (run_fail hr).elim
      · exact (run_fail hr).elim
  | _ => exact (run_fail hr).elim
end Go.Den

/- Den, part T: states as functions; one step; what a step looks at. -/
namespace Go.Den
variable {P : Program} {w0 w : World} {bl : List Nat} {A0 : Nat → Prop} {D D' : Nat → Prop} {m m1 : Nat → Option Ent} {G : Gh}

structure FS where
  g : Nat → Option PV
  m : Nat → Option Ent
def updO (g : Nat → Option PV) (dst : Option Tmp) (v : PV) : Nat → Option PV := match dst with | some t => upd g t (some v) | none => g
def FS.put (F : FS) (dst : Option Tmp) (v : PV) (wr : Wr) : FS := ⟨updO F.g dst v, putF F.m wr⟩
def St.fs (S : St) : FS := ⟨S.slot, S.at⟩
theorem get_cons {α : Type} (k : Nat) (v : α) (r : List (Nat × α)) : get ((k, v) :: r) = upd (get r) k (some v) := by
  funext i
  simp only [get, upd]
  by_cases h : k = i
  · subst h; simp
  · rw [if_neg (by simpa using h), if_neg (fun e => h e.symm)]
theorem atM_cons (k : Nat) (e : Option Ent) (r : List (Nat × Option Ent)) : atM ((k, e) :: r) = upd (atM r) k e := by
  funext i
  simp only [atM, get_cons, upd]
  by_cases h : i = k
  · simp [h]
  · simp [h]
theorem at_putM (m : List (Nat × Option Ent)) (d : Nat) (x : W1) : atM (putM m d x) = putF (atM m) [(d, x)] := by
  cases x with
  | set c => simp [putM, putF, atM_cons]
  | del => simp [putM, putF, atM_cons]
  | fz =>
    simp only [putM, putF]
    cases atM m d with
    | none => rfl
    | some e => simp [atM_cons]
theorem at_putMs : ∀ (wr : Wr) (m : List (Nat × Option Ent)), atM (putMs m wr) = putF (atM m) wr
  | [], _ => rfl
  | (d, x) :: r, m => by
    rw [putMs, at_putMs r, at_putM, ← putF_append]
    rfl
theorem St.fs_put (S : St) (dst : Option Tmp) (v : PV) (wr : Wr) : (S.put dst v wr).fs = S.fs.put dst v wr := by
  have h1 : (S.put dst v wr).at = putF S.at wr := at_putMs wr S.mem
  have h2 : (S.put dst v wr).slot = updO S.slot dst v := by
    cases dst with
    | none => rfl
    | some t => exact get_cons t v S.sl
  simp only [St.fs, FS.put, h1, h2]

def wantF (ops : Array Oper) (o : Oper) (g : Nat → Option PV) : Option Bool :=
  match o.guard with
  | none => some true
  | some (j, want) =>
    match ops[j]? with
    | some q =>
      match q.dst with
      | some t =>
        match g t with
        | some (.bool b) => some (b == want)
        | some .undef => some false
        | _ => none
      | none => none
    | none => none
def stepF (E : Env) (call : Call) (ops : Array Oper) (ep i : Nat) (o : Oper) (F : FS) : Option ((PV × Wr) × List Nat × List Nat) :=
  match wantF ops o F.g with
  | none => none
  | some false => some ((.undef, []), [], [])
  | some true => (opSem E call (ep * 33554432 + i * 64) F.g o.op).run F.m
theorem stepO_spec {E : Env} {call : Call} {ops : Array Oper} {i : Nat} {o : Oper} {S S1 : St} {t : Tr} (h : stepO E call ops i o S = some (S1, t)) :
    ∃ v wr rc ro, stepF E call ops S.ep i o S.fs = some ((v, wr), rc, ro) ∧ S1 = S.put o.dst v wr ∧ t = ⟨rc, ro, wrHard wr, wrSoft wr⟩ := by
  have hw : wantsO ops o S = wantF ops o S.fs.g := rfl
  unfold stepO at h
  rw [hw] at h
  unfold stepF
  split at h
  · cases h
  · rename_i hx
    injection h with h
    injection h with h1 h2
    exact ⟨.undef, [], [], [], by rw [hx], h1.symm, by rw [← h2]; rfl⟩
  · rename_i hx
    rw [hx]
    split at h
    · rename_i v wr rc ro hr
      injection h with h
      injection h with h1 h2
      exact ⟨v, wr, rc, ro, hr, h1.symm, h2.symm⟩
    · cases h

/-! ### the machine's side -/
structure Rel (w0 : World) (bl : List Nat) (A0 : Nat → Prop) (n : Nat) (D : Nat → Prop) (F : FS) (a : Act) (w : World) : Prop where
  ex : ∃ G, RelW w0 bl D w F.m G ∧ SlotsOk a w (okP w F.m G) G F.g ∧ G.A = A0
  size : a.tmps.size = n
  defers : a.defers = []
theorem Rel.widen {w0 bl A0 n D F a w} {D' : Nat → Prop} (h : Rel w0 bl A0 n D F a w) (hD : ∀ d, D d → D' d) : Rel w0 bl A0 n D' F a w := by
  obtain ⟨⟨G, h1, h2, h5⟩, h3, h4⟩ := h
  exact ⟨⟨G, h1.widen hD, h2, h5⟩, h3, h4⟩
theorem Rel.drawn {w0 bl A0 n D F a w} (h : Rel w0 bl A0 n D F a w) : Rel w0 bl A0 n D F a { w with drawn := w.drawn + 1 } := by
  obtain ⟨⟨G, h1, h2, h5⟩, h3, h4⟩ := h
  obtain ⟨k1, k2⟩ := h1.drawn (w' := { w with drawn := w.drawn + 1 }) rfl rfl rfl rfl
  exact ⟨⟨G, k1, fun t p hp => (h2 t p hp).adv k2, h5⟩, h3, h4⟩
theorem eval_put_tmp {a : Act} {d t : Tmp} {v : Value} (hd : d < a.tmps.size) : (a.put (some d) v).eval (.tmp t) = if t = d then v else a.eval (.tmp t) := by
  simp only [Act.put, Act.eval, Array.getD_eq_getD_getElem?, Array.getElem?_setIfInBounds]
  by_cases h : d = t
  · subst h; simp [hd]
  · rw [if_neg h, if_neg (fun e : t = d => h e.symm)]
theorem slots_put {a : Act} {w w' : World} {ok ok' : Nat → Prop} {G G' : Gh} {g : Nat → Option PV} (hs : SlotsOk a w ok G g) (ha : Adv w ok G w' ok' G') {dst : Option Tmp} {v : PV} {v' : Value} (hd : ∀ t, dst = some t → t < a.tmps.size) (hv : RepS w' ok' G' v' v) :
    SlotsOk (a.put dst v') w' ok' G' (updO g dst v) := by
  intro t p hp
  cases dst with
  | none => exact (hs t p hp).adv ha
  | some d =>
    rw [eval_put_tmp (hd d rfl)]
    simp only [updO, upd] at hp
    split at hp
    · injection hp with hp; subst hp; rename_i h; rw [if_pos h]; exact hv
    · rename_i h; rw [if_neg h]; exact (hs t p hp).adv ha
theorem put_size (a : Act) (dst : Option Tmp) (v : Value) : (a.put dst v).tmps.size = a.tmps.size ∧ (a.put dst v).defers = a.defers := by
  cases dst <;> simp [Act.put]
theorem RepS.undefd {ok v} (h : RepS w ok G v .undef) : v = Go.undef := by
  cases h with
  | undef => rfl
  | leaf h => cases h with | pl h hp => simp [plainLeaf] at hp
theorem wantF_run {ops : Array Oper} {o : Oper} {a : Act} {ok} {g : Nat → Option PV} (hs : SlotsOk a w ok G g) {b : Bool} (h : wantF ops o g = some b) : Region.wanted o (yielded ops a.tmps) = b := by
  unfold wantF at h
  unfold Region.wanted
  cases hg : o.guard with
  | none => simp [hg] at h; simp [h]
  | some x =>
    obtain ⟨j, want⟩ := x
    simp only [hg] at h ⊢
    split at h
    · rename_i q hq
      split at h
      · rename_i t ht
        split at h
        · rename_i c hc
          have := (hs t _ hc).bool
          simp only [Act.eval, Array.getD_eq_getD_getElem?] at this
          have hy : yielded ops a.tmps j = some c := by
            unfold yielded
            simp only [hq, ht, Option.bind_some]
            cases ht' : a.tmps[t]? with
            | none => rw [ht'] at this; simp [Go.undef] at this
            | some u => rw [ht'] at this; simp at this; rw [this]
          simp only [Option.some.injEq] at h
          subst h
          rw [hy]
          cases c <;> cases want <;> rfl
        · rename_i hc
          have := (hs t _ hc).undefd
          simp only [Act.eval, Array.getD_eq_getD_getElem?] at this
          have hy : yielded ops a.tmps j = none := by
            unfold yielded
            simp only [hq, ht, Option.bind_some]
            cases ht' : a.tmps[t]? with
            | none => rfl
            | some u => rw [ht'] at this; simp at this; rw [this]; rfl
          simp only [Option.some.injEq] at h
          subst h
          rw [hy]
          rfl
        · cases h
      · cases h
    · cases h
theorem step_sim {E : Env} {call : Call} (hS : Sound E call) {n : Nat} {F : FS} {a : Act} {ops : Array Oper} {ep i : Nat} {o : Oper} (h : Rel w0 bl A0 n D F a w) (hf : Fr D D' (ep * 33554432 + i * 64)) (hd : ∀ t, o.dst = some t → t < n)
    {v : PV} {wr : Wr} {rc ro : List Nat} (hst : stepF E call ops ep i o F = some ((v, wr), rc, ro)) :
    if Region.wanted o (yielded ops a.tmps) then Does E.P o a w (fun v' w' => Rel w0 bl A0 n D' (F.put o.dst v wr) (a.put o.dst v') w') else Rel w0 bl A0 n D' (F.put o.dst v wr) (a.put o.dst Go.undef) w := by
  obtain ⟨⟨G, h1, h2, h5⟩, h3, h4⟩ := h
  have hdst : ∀ t, o.dst = some t → t < a.tmps.size := fun t ht => by rw [h3]; exact hd t ht
  unfold stepF at hst
  split at hst
  · cases hst
  · rename_i hw
    rw [wantF_run h2 hw]
    injection hst with hst
    injection hst with hst1 hst2
    injection hst1 with hst1 hst3
    subst hst1; subst hst3
    simp only [Bool.false_eq_true, if_false]
    refine ⟨⟨G, h1.widen hf.sub, slots_put h2 (Adv.refl _ _ _) hdst .undef, h5⟩, (put_size ..).1.trans h3, (put_size ..).2.trans h4⟩
  · rename_i hw
    rw [wantF_run h2 hw]
    simp only [if_true]
    refine (opSem_sim hS h1 hf h2 hst).mono fun v' w' ⟨G', k1, k2, k3⟩ => ⟨⟨G', k1, slots_put h2 k2 hdst k3, k2.A.trans h5⟩, (put_size ..).1.trans h3, (put_size ..).2.trans h4⟩

/-! ### what a step looks at -/
theorem run_local {α : Type} : ∀ {x : RM α} {m m' : Nat → Option Ent} {b : α} {l o}, x.run m = some (b, l, o) → (∀ d ∈ l, (m' d).map (·.c) = (m d).map (·.c)) → (∀ d ∈ o, m' d = m d) → x.run m' = some (b, l, o) := by
  intro x
  induction x with
  | ret a => intro m m' b l o h _ _; exact h
  | fail => intro m m' b l o h _ _; exact h
  | rdc d k ih =>
    intro m m' b l o h hl ho
    simp only [RM.run] at h ⊢
    cases hm : m d with
    | none => simp [hm] at h
    | some e =>
      simp only [hm] at h
      cases hk : (k e.c).run m with
      | none => simp [hk] at h
      | some y =>
        obtain ⟨b', l', o'⟩ := y
        simp only [hk, Option.some.injEq, Prod.mk.injEq] at h
        obtain ⟨rfl, rfl, rfl⟩ := h
        have h1 := hl d (List.mem_cons_self)
        rw [hm] at h1
        cases hm' : m' d with
        | none => rw [hm'] at h1; simp at h1
        | some e' =>
          rw [hm'] at h1
          simp only [Option.map_some, Option.some.injEq] at h1
          simp only [h1]
          rw [ih _ hk (fun d hd => hl d (List.mem_cons_of_mem _ hd)) ho]
  | own d k ih =>
    intro m m' b l o h hl ho
    simp only [RM.run] at h ⊢
    cases hm : m d with
    | none => simp [hm] at h
    | some e =>
      obtain ⟨ow, c⟩ := e
      cases ow with
      | false => simp [hm] at h
      | true =>
        simp only [hm] at h
        cases hk : (k c).run m with
        | none => simp [hk] at h
        | some y =>
          obtain ⟨b', l', o'⟩ := y
          simp only [hk, Option.some.injEq, Prod.mk.injEq] at h
          obtain ⟨rfl, rfl, rfl⟩ := h
          have h1 := ho d (List.mem_cons_self)
          rw [hm] at h1
          rw [h1]
          simp only
          rw [ih _ hk hl (fun d hd => ho d (List.mem_cons_of_mem _ hd))]
theorem evOp_congr {g g' : Nat → Option PV} {x : Operand} (h : ∀ t, x = .tmp t → g t = g' t) : evOp g x = evOp g' x := by
  cases x with
  | tmp t => exact h t rfl
  | _ => rfl
theorem evOps_congr {g g' : Nat → Option PV} : ∀ {xs : List Operand}, (∀ t, .tmp t ∈ xs → g t = g' t) → evOps g xs = evOps g' xs
  | [], _ => rfl
  | x :: r, h => by
    rw [evOps, evOps, evOp_congr (g := g) (g' := g') fun t ht => h t (by simp [ht]), evOps_congr (xs := r) fun t ht => h t (List.mem_cons_of_mem _ ht)]
theorem evParts_congr {g g' : Nat → Option PV} : ∀ {xs : List (Nat × Operand)}, (∀ t, .tmp t ∈ xs.map (·.2) → g t = g' t) → evParts g xs = evParts g' xs
  | [], _ => rfl
  | (i, x) :: r, h => by
    rw [evParts, evParts, evOp_congr (g := g) (g' := g') fun t ht => h t (by simp [ht]), evParts_congr (xs := r) fun t ht => h t (by simp only [List.map_cons]; exact List.mem_cons_of_mem _ ht)]
theorem opSem_congr {E : Env} {call : Call} {fid : Nat} {g g' : Nat → Option PV} {op : Op} (h : ∀ t, .tmp t ∈ op.operands → g t = g' t) : opSem E call fid g op = opSem E call fid g' op := by
  have ev : ∀ x ∈ op.operands, evOp g x = evOp g' x := fun x hx => evOp_congr fun t ht => h t (ht ▸ hx)
  cases op with
  | move x => simp only [opSem, ev x (by simp [Op.operands])]
  | assign x => simp only [opSem, ev x (by simp [Op.operands])]
  | pick c x y => simp only [opSem, ev c (by simp [Op.operands]), ev x (by simp [Op.operands]), ev y (by simp [Op.operands])]
  | alloc t => rfl
  | box t x => simp only [opSem, ev x (by simp [Op.operands])]
  | build t ps => simp only [opSem, evParts_congr (g := g) (g' := g') (xs := ps.toList) fun t ht => h t (by simpa [Op.operands] using ht)]
  | buildSlice t n ps => simp only [opSem, evParts_congr (g := g) (g' := g') (xs := ps.toList) fun t ht => h t (by simpa [Op.operands] using ht)]
  | load t x => simp only [opSem, ev x (by simp [Op.operands])]
  | store t x y => simp only [opSem, ev x (by simp [Op.operands]), ev y (by simp [Op.operands])]
  | nilCheck x => simp only [opSem, ev x (by simp [Op.operands])]
  | binOp op t x y t2 => simp only [opSem, ev x (by simp [Op.operands]), ev y (by simp [Op.operands])]
  | unOp op t x => simp only [opSem, ev x (by simp [Op.operands])]
  | convert s t x => simp only [opSem, ev x (by simp [Op.operands])]
  | makeFunc fn first caps =>
    cases fn with
    | func f => simp only [opSem, evOps_congr (g := g) (g' := g') (xs := caps.toList) fun t ht => h t (by simp only [Op.operands, Array.mem_append]; exact .inr (by simpa using ht))]
    | _ => rfl
  | makeSlice t x y => simp only [opSem, ev x (by simp [Op.operands]), ev y (by simp [Op.operands])]
  | slice t x lo hi mx =>
    have h1 : lo.map (evOp g) = lo.map (evOp g') := by cases lo with | none => rfl | some y => simp [ev y (by simp [Op.operands])]
    have h2 : hi.map (evOp g) = hi.map (evOp g') := by cases hi with | none => rfl | some y => simp [ev y (by simp [Op.operands])]
    have h3 : mx.map (evOp g) = mx.map (evOp g') := by cases mx with | none => rfl | some y => simp [ev y (by simp [Op.operands])]
    simp only [opSem, ev x (by simp [Op.operands]), h1, h2, h3]
  | fieldAddr t x j => simp only [opSem, ev x (by simp [Op.operands])]
  | field t x j => simp only [opSem, ev x (by simp [Op.operands])]
  | indexAddr t x i => simp only [opSem, ev x (by simp [Op.operands]), ev i (by simp [Op.operands])]
  | index t x i => simp only [opSem, ev x (by simp [Op.operands]), ev i (by simp [Op.operands])]
  | extract x j => simp only [opSem, ev x (by simp [Op.operands])]
  | call c =>
    have h1 := evOps_congr (g := g) (g' := g') (xs := c.args.toList) fun t ht => h t (by simp only [Op.operands, Call.operands, Array.mem_append]; exact .inr (by simpa using ht))
    simp only [opSem, h1]
    cases hc : c.callee with
    | value x => simp only [ev x (by simp [Op.operands, Call.operands, hc])]
    | _ => rfl
  | _ => rfl
theorem mem_looksAt_op {ops : Array Oper} {o : Oper} {t : Tmp} (h : .tmp t ∈ o.op.operands) : t ∈ o.looksAt ops :=
  List.mem_append_left _ (List.mem_filterMap.2 ⟨.tmp t, by simpa using h, rfl⟩)
theorem wantF_congr {ops : Array Oper} {o : Oper} {g g' : Nat → Option PV} (h : ∀ t ∈ o.looksAt ops, g t = g' t) : wantF ops o g = wantF ops o g' := by
  unfold wantF
  cases hg : o.guard with
  | none => rfl
  | some x =>
    obtain ⟨j, want⟩ := x
    simp only
    cases hq : ops[j]? with
    | none => rfl
    | some q =>
      simp only
      cases ht : q.dst with
      | none => rfl
      | some t =>
        simp only
        rw [h t (List.mem_append_right _ (by simp [hg, hq, ht]))]
theorem stepF_local {E : Env} {call : Call} {ops : Array Oper} {ep i : Nat} {o : Oper} {F F' : FS} {x : PV × Wr} {rc ro : List Nat} (h : stepF E call ops ep i o F = some (x, rc, ro)) (hg : ∀ t ∈ o.looksAt ops, F'.g t = F.g t)
    (hl : ∀ d ∈ rc, (F'.m d).map (·.c) = (F.m d).map (·.c)) (ho : ∀ d ∈ ro, F'.m d = F.m d) : stepF E call ops ep i o F' = some (x, rc, ro) := by
  unfold stepF at *
  rw [wantF_congr hg, opSem_congr (g := F'.g) (g' := F.g) fun t ht => hg t (mem_looksAt_op ht)]
  split at h
  · cases h
  · exact h
  · exact run_local h hl ho
end Go.Den

/- Den, part U: a region's operations, in any order. -/
namespace Go.Den

/-! ### writes that do not meet -/
def frz (x : Option Ent) : Option Ent := x.map fun e => ⟨false, e.c⟩
theorem frz_frz (x : Option Ent) : frz (frz x) = frz x := by cases x <;> rfl
theorem frz_c (x : Option Ent) : (frz x).map (fun e : Ent => e.c) = x.map (fun e : Ent => e.c) := by cases x <;> rfl
def w1 (x : W1) (o : Option Ent) : Option Ent := match x with | .set c => some ⟨true, c⟩ | .del => none | .fz => frz o
theorem putF_one (m : Nat → Option Ent) (d1 : Nat) (x : W1) (d : Nat) : putF m [(d1, x)] d = if d = d1 then w1 x (m d) else m d := by
  cases x with
  | set c => simp [putF, upd, w1]
  | del => simp [putF, upd, w1]
  | fz =>
    simp only [putF, w1]
    cases hm : m d1 with
    | none =>
      by_cases h : d = d1
      · subst h; simp [hm, frz]
      · simp [h]
    | some e =>
      by_cases h : d = d1
      · subst h; simp [hm, frz, upd]
      · simp [h, upd]
theorem putF_cons (m : Nat → Option Ent) (x : Nat × W1) (r : Wr) : putF m (x :: r) = putF (putF m [x]) r := putF_append m [x] r
theorem putF_congr : ∀ {wr : Wr} {m m' : Nat → Option Ent} {d : Nat}, m d = m' d → putF m wr d = putF m' wr d
  | [], _, _, _, h => h
  | (d1, x) :: r, m, m', d, h => by
    rw [putF_cons, putF_cons m']
    exact putF_congr (wr := r) (by rw [putF_one, putF_one, h])
theorem wrHard_cons (d : Nat) (x : W1) (r : Wr) : wrHard ((d, x) :: r) = (match x with | .fz => wrHard r | _ => d :: wrHard r) := by
  cases x <;> simp [wrHard]
theorem wrSoft_cons (d : Nat) (x : W1) (r : Wr) : wrSoft ((d, x) :: r) = (match x with | .fz => d :: wrSoft r | _ => wrSoft r) := by
  cases x <;> simp [wrSoft]
theorem putF_soft : ∀ {wr : Wr} {m : Nat → Option Ent} {d : Nat}, d ∉ wrHard wr → putF m wr d = if d ∈ wrSoft wr then frz (m d) else m d
  | [], m, d, _ => by simp [putF, wrSoft]
  | (d1, x) :: r, m, d, h => by
    rw [wrHard_cons] at h
    rw [wrSoft_cons, putF_cons]
    cases x with
    | set c =>
      simp only [List.mem_cons, not_or] at h
      rw [putF_soft (wr := r) h.2, putF_one, if_neg h.1]
    | del =>
      simp only [List.mem_cons, not_or] at h
      rw [putF_soft (wr := r) h.2, putF_one, if_neg h.1]
    | fz =>
      simp only at h ⊢
      rw [putF_soft (wr := r) h, putF_one]
      by_cases hd : d = d1
      · subst hd
        simp only [List.mem_cons, true_or, if_true, w1]
        split
        · exact frz_frz _
        · rfl
      · simp only [List.mem_cons, hd, false_or, if_false]
theorem putF_keep {wr : Wr} {m : Nat → Option Ent} {d : Nat} (h1 : d ∉ wrHard wr) (h2 : d ∉ wrSoft wr) : putF m wr d = m d := by
  rw [putF_soft h1, if_neg h2]
theorem putF_keepC {wr : Wr} {m : Nat → Option Ent} {d : Nat} (h1 : d ∉ wrHard wr) : (putF m wr d).map (fun e : Ent => e.c) = (m d).map (fun e : Ent => e.c) := by
  rw [putF_soft h1]
  split
  · exact frz_c _
  · rfl
theorem putF_congrC : ∀ {wr : Wr} {m m' : Nat → Option Ent} {d : Nat}, (m d).map (fun e : Ent => e.c) = (m' d).map (fun e : Ent => e.c) → (putF m wr d).map (fun e : Ent => e.c) = (putF m' wr d).map (fun e : Ent => e.c)
  | [], _, _, _, h => h
  | (d1, x) :: r, m, m', d, h => by
    rw [putF_cons, putF_cons m']
    refine putF_congrC (wr := r) ?_
    rw [putF_one, putF_one]
    split
    · cases x with
      | set c => rfl
      | del => rfl
      | fz => simp only [w1]; rw [frz_c, frz_c, h]
    · exact h
theorem putF_comm {wi wk : Wr} {m : Nat → Option Ent} (h1 : ∀ d ∈ wrHard wi, d ∉ wrHard wk ∧ d ∉ wrSoft wk) (h2 : ∀ d ∈ wrHard wk, d ∉ wrHard wi ∧ d ∉ wrSoft wi) : putF (putF m wi) wk = putF (putF m wk) wi := by
  funext d
  by_cases hi : d ∈ wrHard wi
  · obtain ⟨a, b⟩ := h1 d hi
    rw [putF_keep a b]
    exact putF_congr (putF_keep a b).symm
  · by_cases hk : d ∈ wrHard wk
    · obtain ⟨a, b⟩ := h2 d hk
      rw [putF_keep (m := putF m wk) a b]
      exact putF_congr (putF_keep a b)
    · rw [putF_soft hk, putF_soft hi, putF_soft hi, putF_soft hk]
      split <;> split <;> rfl
theorem updO_comm {g : Nat → Option PV} {di dk : Option Tmp} {vi vk : PV} (h : ∀ d, di = some d → dk ≠ some d) : updO (updO g di vi) dk vk = updO (updO g dk vk) di vi := by
  cases di with
  | none => cases dk <;> rfl
  | some i =>
    cases dk with
    | none => rfl
    | some k =>
      have hne : k ≠ i := fun e => h i rfl (e ▸ rfl)
      funext t
      simp only [updO, upd]
      by_cases h1 : t = k <;> by_cases h2 : t = i <;> simp_all
theorem updO_ne {g : Nat → Option PV} {d : Option Tmp} {v : PV} {t : Nat} (h : d ≠ some t) : updO g d v t = g t := by
  cases d with
  | none => rfl
  | some i => exact upd_ne _ _ (fun e => h (e ▸ rfl))
theorem updO_congr {g g' : Nat → Option PV} {d : Option Tmp} {v : PV} {t : Nat} (h : g t = g' t) : updO g d v t = updO g' d v t := by
  cases d with
  | none => exact h
  | some i => simp only [updO, upd, h]

/-! ### what has been done so far -/
def dstO (ops : Array Oper) (k : Nat) : Option Tmp := (ops[k]?).bind (·.dst)
def accF (ops : Array Oper) (vals : Nat → PV × Wr) (L : Nat → Bool) (F0 : FS) : Nat → FS
  | 0 => F0
  | k + 1 => if L k then (accF ops vals L F0 k).put (dstO ops k) (vals k).1 (vals k).2 else accF ops vals L F0 k

def U1 (x y : Tr) : Prop := (∀ d ∈ x.w, d ∉ y.rc ∧ d ∉ y.ro ∧ d ∉ y.w ∧ d ∉ y.fz) ∧ ∀ d ∈ x.fz, d ∉ y.ro
structure Reg (E : Env) (call : Call) (ops : Array Oper) (ep : Nat) (F0 : FS) (vals : Nat → PV × Wr) (tr : Nat → Tr) (bef : Nat → Nat) : Prop where
  step : ∀ i o, ops[i]? = some o → stepF E call ops ep i o (accF ops vals (fun _ => true) F0 i) = some (vals i, (tr i).rc, (tr i).ro)
  w : ∀ i, i < ops.size → (tr i).w = wrHard (vals i).2 ∧ (tr i).fz = wrSoft (vals i).2
  back : ∀ (i : Nat) o, ops[i]? = some o → ∀ e ∈ o.after, Region.binds .any e = true → e.on < i
  befo : ∀ (j : Nat) o, ops[j]? = some o → ∀ i < ops.size, (bef j).testBit i = true → ∃ e ∈ o.after, Region.binds .any e = true ∧ (e.on = i ∨ (bef e.on).testBit i = true)
  pair : ∀ (i j : Nat) oi oj, i < j → ops[i]? = some oi → ops[j]? = some oj → (bef j).testBit i = true ∨ (oi.apart ops oj = true ∧ U1 (tr i) (tr j) ∧ U1 (tr j) (tr i))

section
variable {E : Env} {call : Call} {ops : Array Oper} {ep : Nat} {F0 : FS} {vals : Nat → PV × Wr} {tr : Nat → Tr} {bef : Nat → Nat}

/-- Whose edges are done are done. -/
def Closed (ops : Array Oper) (L : Nat → Bool) : Prop := ∀ (j : Nat) o, ops[j]? = some o → L j = true → ∀ e ∈ o.after, Region.binds .any e = true → L e.on = true
theorem Reg.before (h : Reg E call ops ep F0 vals tr bef) {L : Nat → Bool} (hc : Closed ops L) : ∀ (j : Nat) o, ops[j]? = some o → (∀ e ∈ o.after, Region.binds .any e = true → L e.on = true) → ∀ i < ops.size, (bef j).testBit i = true → L i = true := by
  intro j
  induction j using Nat.strongRecOn with
  | _ j ih =>
    intro o ho he i hi hb
    obtain ⟨e, h1, h2, h3⟩ := h.befo j o ho i hi hb
    have hl := he e h1 h2
    rcases h3 with h3 | h3
    · exact h3 ▸ hl
    · have hlt := h.back j o ho e h1 h2
      have hj := (Array.getElem?_eq_some_iff.1 ho).1
      have hon : ops[e.on]? = some ops[e.on] := by simp [show e.on < ops.size by omega]
      exact ih e.on hlt _ hon (hc e.on _ hon hl) i hi h3

theorem acc_slot {L : Nat → Bool} {t i n : Nat} (hi : i ≤ n) (h1 : ∀ k, k < i → L k = false → dstO ops k ≠ some t) (h2 : ∀ k, i ≤ k → k < n → L k = true → dstO ops k ≠ some t) :
    (accF ops vals L F0 n).g t = (accF ops vals (fun _ => true) F0 i).g t := by
  have p1 : ∀ k, k ≤ i → (accF ops vals L F0 k).g t = (accF ops vals (fun _ => true) F0 k).g t := by
    intro k
    induction k with
    | zero => intro _; rfl
    | succ k ih =>
      intro hk
      simp only [accF, if_true]
      cases hl : L k with
      | true => simp only [if_true]; exact updO_congr (ih (by omega))
      | false =>
        simp only [Bool.false_eq_true, if_false]
        rw [ih (by omega)]
        exact (updO_ne (h1 k (by omega) hl)).symm
  have p2 : ∀ k, i + k ≤ n → (accF ops vals L F0 (i + k)).g t = (accF ops vals L F0 i).g t := by
    intro k
    induction k with
    | zero => intro _; rfl
    | succ k ih =>
      intro hk
      rw [← Nat.add_assoc]
      simp only [accF]
      cases hl : L (i + k) with
      | true => simp only [if_true]; exact (updO_ne (h2 (i + k) (by omega) (by omega) hl)).trans (ih (by omega))
      | false => simp only [Bool.false_eq_true, if_false]; exact ih (by omega)
  have := p2 (n - i) (by omega)
  rw [show i + (n - i) = n by omega] at this
  rw [this, p1 i (Nat.le_refl _)]
theorem acc_own {L : Nat → Bool} {d i n : Nat} (hi : i ≤ n) (h1 : ∀ k, k < i → L k = false → d ∉ wrHard (vals k).2 ∧ d ∉ wrSoft (vals k).2) (h2 : ∀ k, i ≤ k → k < n → L k = true → d ∉ wrHard (vals k).2 ∧ d ∉ wrSoft (vals k).2) :
    (accF ops vals L F0 n).m d = (accF ops vals (fun _ => true) F0 i).m d := by
  have p1 : ∀ k, k ≤ i → (accF ops vals L F0 k).m d = (accF ops vals (fun _ => true) F0 k).m d := by
    intro k
    induction k with
    | zero => intro _; rfl
    | succ k ih =>
      intro hk
      simp only [accF, if_true]
      cases hl : L k with
      | true => simp only [if_true]; exact putF_congr (ih (by omega))
      | false =>
        simp only [Bool.false_eq_true, if_false]
        rw [ih (by omega)]
        exact (putF_keep (h1 k (by omega) hl).1 (h1 k (by omega) hl).2).symm
  have p2 : ∀ k, i + k ≤ n → (accF ops vals L F0 (i + k)).m d = (accF ops vals L F0 i).m d := by
    intro k
    induction k with
    | zero => intro _; rfl
    | succ k ih =>
      intro hk
      rw [← Nat.add_assoc]
      simp only [accF]
      cases hl : L (i + k) with
      | true =>
        obtain ⟨a, b⟩ := h2 (i + k) (by omega) (by omega) hl
        simp only [if_true]; exact (putF_keep a b).trans (ih (by omega))
      | false => simp only [Bool.false_eq_true, if_false]; exact ih (by omega)
  have := p2 (n - i) (by omega)
  rw [show i + (n - i) = n by omega] at this
  rw [this, p1 i (Nat.le_refl _)]
theorem acc_con {L : Nat → Bool} {d i n : Nat} (hi : i ≤ n) (h1 : ∀ k, k < i → L k = false → d ∉ wrHard (vals k).2) (h2 : ∀ k, i ≤ k → k < n → L k = true → d ∉ wrHard (vals k).2) :
    ((accF ops vals L F0 n).m d).map (fun e : Ent => e.c) = ((accF ops vals (fun _ => true) F0 i).m d).map (fun e : Ent => e.c) := by
  have p1 : ∀ k, k ≤ i → ((accF ops vals L F0 k).m d).map (fun e : Ent => e.c) = ((accF ops vals (fun _ => true) F0 k).m d).map (fun e : Ent => e.c) := by
    intro k
    induction k with
    | zero => intro _; rfl
    | succ k ih =>
      intro hk
      simp only [accF, if_true]
      cases hl : L k with
      | true => simp only [if_true]; exact putF_congrC (ih (by omega))
      | false =>
        simp only [Bool.false_eq_true, if_false]
        rw [ih (by omega)]
        exact (putF_keepC (h1 k (by omega) hl)).symm
  have p2 : ∀ k, i + k ≤ n → ((accF ops vals L F0 (i + k)).m d).map (fun e : Ent => e.c) = ((accF ops vals L F0 i).m d).map (fun e : Ent => e.c) := by
    intro k
    induction k with
    | zero => intro _; rfl
    | succ k ih =>
      intro hk
      rw [← Nat.add_assoc]
      simp only [accF]
      cases hl : L (i + k) with
      | true => simp only [if_true]; exact (putF_keepC (h2 (i + k) (by omega) (by omega) hl)).trans (ih (by omega))
      | false => simp only [Bool.false_eq_true, if_false]; exact ih (by omega)
  have := p2 (n - i) (by omega)
  rw [show i + (n - i) = n by omega] at this
  rw [this, p1 i (Nat.le_refl _)]

/-- Whoever is ready is apart from those that lie otherwise than in the text. -/
theorem Reg.apart (h : Reg E call ops ep F0 vals tr bef) {L : Nat → Bool} (hc : Closed ops L) {i : Nat} {o : Oper} (ho : ops[i]? = some o) (hi : L i = false) (hr : ∀ e ∈ o.after, Region.binds .any e = true → L e.on = true)
    {k : Nat} (hk : k < ops.size) (hw : (k < i ∧ L k = false) ∨ (i < k ∧ L k = true)) :
    (∀ t ∈ o.looksAt ops, dstO ops k ≠ some t) ∧ (∀ d, o.dst = some d → dstO ops k ≠ some d) ∧ U1 (tr k) (tr i) ∧ U1 (tr i) (tr k) := by
  have hok : ops[k]? = some ops[k] := by simp [hk]
  have hdk : dstO ops k = ops[k].dst := by simp [dstO, hok]
  have hil := (Array.getElem?_eq_some_iff.1 ho).1
  rcases hw with ⟨hlt, hL⟩ | ⟨hlt, hL⟩
  · rcases h.pair k i _ o hlt hok ho with hb | ⟨ha, hu⟩
    · have := h.before hc i o ho hr k hk hb
      rw [hL] at this; cases this
    · obtain ⟨a1, a2, a3⟩ := Oper.apart_spec ha
      exact ⟨fun t ht he => a1 t (by rw [← hdk]; exact he) ht, fun d hd he => a2 d (by rw [← hdk]; exact he) hd, hu.1, hu.2⟩
  · rcases h.pair i k o _ hlt ho hok with hb | ⟨ha, hu⟩
    · have := h.before hc k _ hok (hc k _ hok hL) i hil hb
      rw [hi] at this; cases this
    · obtain ⟨a1, a2, a3⟩ := Oper.apart_spec ha
      exact ⟨fun t ht he => a3 t (by rw [← hdk]; exact he) ht, fun d hd he => a2 d hd (by rw [← hdk]; exact he), hu.2, hu.1⟩

theorem Reg.stepAt (h : Reg E call ops ep F0 vals tr bef) {L : Nat → Bool} (hc : Closed ops L) {i : Nat} {o : Oper} (ho : ops[i]? = some o) (hi : L i = false) (hr : ∀ e ∈ o.after, Region.binds .any e = true → L e.on = true) :
    stepF E call ops ep i o (accF ops vals L F0 ops.size) = some (vals i, (tr i).rc, (tr i).ro) := by
  have hil := (Array.getElem?_eq_some_iff.1 ho).1
  have hA := fun {k} (hk : k < ops.size) hw => h.apart hc ho hi hr (k := k) hk hw
  have ne : ∀ {k}, i ≤ k → L k = true → i < k := fun {k} hk hl => by
    rcases Nat.lt_or_ge i k with h | h
    · exact h
    · have : k = i := by omega
      subst this; rw [hi] at hl; cases hl
  refine stepF_local (h.step i o ho) (fun t ht => ?_) (fun d hd => ?_) (fun d hd => ?_)
  · exact acc_slot (Nat.le_of_lt hil) (fun k hk hl => (hA (by omega) (.inl ⟨hk, hl⟩)).1 t ht) (fun k hk hkn hl => (hA hkn (.inr ⟨ne hk hl, hl⟩)).1 t ht)
  · have aux : ∀ {k}, k < ops.size → ((k < i ∧ L k = false) ∨ (i < k ∧ L k = true)) → d ∉ wrHard (vals k).2 := fun {k} hk hw hm => by
      rw [← (h.w k hk).1] at hm
      exact ((hA hk hw).2.2.1.1 d hm).1 hd
    exact acc_con (Nat.le_of_lt hil) (fun k hk hl => aux (by omega) (.inl ⟨hk, hl⟩)) (fun k hk hkn hl => aux hkn (.inr ⟨ne hk hl, hl⟩))
  · have aux : ∀ {k}, k < ops.size → ((k < i ∧ L k = false) ∨ (i < k ∧ L k = true)) → d ∉ wrHard (vals k).2 ∧ d ∉ wrSoft (vals k).2 := fun {k} hk hw => by
      rw [← (h.w k hk).1, ← (h.w k hk).2]
      exact ⟨fun hm => ((hA hk hw).2.2.1.1 d hm).2.1 hd, fun hm => (hA hk hw).2.2.1.2 d hm hd⟩
    exact acc_own (Nat.le_of_lt hil) (fun k hk hl => aux (by omega) (.inl ⟨hk, hl⟩)) (fun k hk hkn hl => aux hkn (.inr ⟨ne hk hl, hl⟩))

def setL (L : Nat → Bool) (i : Nat) : Nat → Bool := fun k => if k = i then true else L k
theorem acc_same {L L' : Nat → Bool} : ∀ {n : Nat}, (∀ k, k < n → L k = L' k) → accF ops vals L F0 n = accF ops vals L' F0 n
  | 0, _ => rfl
  | n + 1, h => by simp only [accF]; rw [acc_same (n := n) (fun k hk => h k (by omega)), h n (by omega)]
theorem Reg.put (h : Reg E call ops ep F0 vals tr bef) {L : Nat → Bool} (hc : Closed ops L) {i : Nat} {o : Oper} (ho : ops[i]? = some o) (hi : L i = false) (hr : ∀ e ∈ o.after, Region.binds .any e = true → L e.on = true) :
    accF ops vals (setL L i) F0 ops.size = (accF ops vals L F0 ops.size).put o.dst (vals i).1 (vals i).2 := by
  have hil := (Array.getElem?_eq_some_iff.1 ho).1
  have hdi : dstO ops i = o.dst := by simp [dstO, ho]
  have key : ∀ k, i + 1 + k ≤ ops.size → accF ops vals (setL L i) F0 (i + 1 + k) = (accF ops vals L F0 (i + 1 + k)).put o.dst (vals i).1 (vals i).2 := by
    intro k
    induction k with
    | zero =>
      intro _
      simp only [accF, setL, hi, Bool.false_eq_true, if_false, if_true]
      rw [hdi]
      congr 1
      exact acc_same fun k hk => by simp [setL, Nat.ne_of_lt hk]
    | succ k ih =>
      intro hk
      have ih := ih (by omega)
      rw [← Nat.add_assoc]
      simp only [accF]
      have hne : (i + 1 + k) ≠ i := by omega
      simp only [setL, if_neg hne]
      cases hl : L (i + 1 + k) with
      | false => simp only [Bool.false_eq_true, if_false]; exact ih
      | true =>
        simp only [if_true]
        rw [show accF ops vals (setL L i) F0 (i + 1 + k) = _ from ih]
        obtain ⟨_, a2, a3, a4⟩ := h.apart hc ho hi hr (k := i + 1 + k) (by omega) (.inr ⟨by omega, hl⟩)
        have w1 := h.w i hil
        have w2 := h.w (i + 1 + k) (by omega)
        simp only [FS.put]
        rw [updO_comm a2, putF_comm]
        · intro d hd
          rw [← w1.1] at hd
          rw [← w2.1, ← w2.2]
          exact (a4.1 d hd).2.2
        · intro d hd
          rw [← w2.1] at hd
          rw [← w1.1, ← w1.2]
          exact (a3.1 d hd).2.2
  have := key (ops.size - (i + 1)) (by omega)
  rw [show i + 1 + (ops.size - (i + 1)) = ops.size by omega] at this
  exact this
end

/-! ### all the orders -/
theorem nodup_lt : ∀ (n : Nat) (U : List Nat), U.Nodup → (∀ x ∈ U, x < n) → U.length ≤ n
  | 0, U, _, h => by
    cases U with
    | nil => simp
    | cons x r => exact absurd (h x (List.mem_cons_self)) (by omega)
  | n + 1, U, hn, h => by
    have h1 : (U.erase n).length ≤ n := nodup_lt n (U.erase n) (hn.erase n) (fun x hx => by
      have h2 := (hn.mem_erase_iff).1 hx
      have := h x h2.2
      have := h2.1
      omega)
    have := List.length_erase (a := n) (l := U)
    split at this <;> omega

def DL (D : Nat → Prop) (ep : Nat) (L : Nat → Bool) (n : Nat) (d : Nat) : Prop := D d ∨ ∃ i j, i < n ∧ L i = true ∧ j < 64 ∧ d = ep * 33554432 + i * 64 + j
theorem fr_DL {D : Nat → Prop} {ep n i : Nat} {L : Nat → Bool} (hD : ∀ d, D d → d < ep * 33554432) (hi : i < n) (hL : L i = false) : Fr (DL D ep L n) (DL D ep (setL L i) n) (ep * 33554432 + i * 64) := by
  refine ⟨fun d hd => ?_, fun j hj => ⟨fun hd => ?_, .inr ⟨i, j, hi, by simp [setL], hj, rfl⟩⟩⟩
  · rcases hd with hd | ⟨i', j, h1, h2, h3, h4⟩
    · exact .inl hd
    · refine .inr ⟨i', j, h1, ?_, h3, h4⟩
      simp only [setL]
      split
      · rfl
      · exact h2
  · rcases hd with hd | ⟨i', j', h1, h2, h3, h4⟩
    · have := hD _ hd; omega
    · have : i' = i := by omega
      subst this
      rw [hL] at h2; cases h2

section
variable {E : Env} {call : Call} {ops : Array Oper} {ep : Nat} {F0 : FS} {vals : Nat → PV × Wr} {tr : Nat → Tr} {bef : Nat → Nat} {w0 : World} {bl : List Nat} {A0 : Nat → Prop} {nt : Nat} {D : Nat → Prop} {Q : Exit → Act → World → Prop}

theorem mem_ready {listed : Array Bool} {i : Nat} (h : i ∈ Region.ready .any ops listed) : ∃ o, ops[i]? = some o ∧ i < ops.size ∧ listed.getD i true = false ∧ ∀ e ∈ o.after, Region.binds .any e = true → listed.getD e.on false = true := by
  unfold Region.ready at h
  rw [List.mem_filter] at h
  obtain ⟨h1, h2⟩ := h
  have hi : i < ops.size := by simpa using h1
  refine ⟨ops[i], by simp [hi], hi, ?_⟩
  simp only [Bool.and_eq_true, Bool.not_eq_true'] at h2
  refine ⟨h2.1, fun e he hb => ?_⟩
  have h3 := h2.2
  simp only [getElem?_pos, hi, Option.map_some, Option.getD_some, Array.all_eq_true_iff_forall_mem] at h3
  have := h3 e he
  simpa [hb] using this

theorem any_sim (hS : Sound E call) (hG : Reg E call ops ep F0 vals tr bef) (hD : ∀ d, D d → d < ep * 33554432) (hd : ∀ (i : Nat) o, ops[i]? = some o → ∀ t, o.dst = some t → t < nt)
    (hQ : ∀ a w, Rel w0 bl A0 nt (DL D ep (fun _ => true) ops.size) (accF ops vals (fun _ => true) F0 ops.size) a w → Q .normal a w) :
    ∀ (fuel : Nat) (listed : Array Bool), listed.size = ops.size → Closed ops (fun i => listed.getD i false) → (∀ U : List Nat, U.Nodup → (∀ i ∈ U, i < ops.size ∧ listed.getD i false = false) → U.length ≤ fuel) →
      ∀ a w, Rel w0 bl A0 nt (DL D ep (fun i => listed.getD i false) ops.size) (accF ops vals (fun i => listed.getD i false) F0 ops.size) a w → wpAny E.P .any ops Q fuel listed a w := by
  have fin : ∀ (listed : Array Bool), (∀ i, i < ops.size → listed.getD i false = true) → ∀ a w, Rel w0 bl A0 nt (DL D ep (fun i => listed.getD i false) ops.size) (accF ops vals (fun i => listed.getD i false) F0 ops.size) a w → Q .normal a w := fun listed hall a w hR => by
    refine hQ a w ?_
    rw [acc_same (L' := fun _ => true) (fun k hk => by simp [hall k hk])] at hR
    exact hR.widen fun d hd => hd.imp id fun ⟨i, j, h1, h2, h3⟩ => ⟨i, j, h1, rfl, h3⟩
  intro fuel
  induction fuel with
  | zero =>
    intro listed hsz hc hU a w hR
    have hall : ∀ i, i < ops.size → listed.getD i false = true := fun i hi => by
      cases hl : listed.getD i false with
      | true => rfl
      | false =>
        have := hU [i] (by simp) (fun k hk => by rw [List.mem_singleton.1 hk]; exact ⟨hi, hl⟩)
        simp at this
    refine ⟨?_, fin listed hall a w hR⟩
    apply List.eq_nil_iff_forall_not_mem.2
    intro i hi
    obtain ⟨o, _, hlt, hl, _⟩ := mem_ready hi
    have := hall i hlt
    simp only [Array.getD_eq_getD_getElem?] at hl this
    rw [show listed[i]? = some listed[i] by simp [show i < listed.size by omega]] at hl this
    simp at hl this
    rw [hl] at this; cases this
  | succ fuel ih =>
    intro listed hsz hc hU a w hR
    refine ⟨fun hrd => ?_, fun i hi => ?_⟩
    · refine fin listed ?_ a w hR
      intro i
      induction i using Nat.strongRecOn with
      | _ i ih2 =>
        intro hi
        cases hl : listed.getD i false with
        | true => rfl
        | false =>
          exfalso
          have hoi : ops[i]? = some ops[i] := by simp [hi]
          have : i ∈ Region.ready .any ops listed := by
            unfold Region.ready
            rw [List.mem_filter]
            refine ⟨by simpa using hi, ?_⟩
            have hl' : listed.getD i true = false := by
              simp only [Array.getD_eq_getD_getElem?] at hl ⊢
              rw [show listed[i]? = some listed[i] by simp [show i < listed.size by omega]] at hl ⊢
              simpa using hl
            rw [hl', hoi]
            simp only [Bool.not_false, Option.map_some, Option.getD_some, Bool.true_and, Array.all_eq_true_iff_forall_mem]
            intro e he
            cases hb : Region.binds .any e with
            | false => rfl
            | true =>
              have hlt := hG.back i _ hoi e he hb
              simp [ih2 e.on hlt (by omega)]
          rw [hrd] at this
          cases this
    · obtain ⟨o, ho, hlt, hl, hr⟩ := mem_ready hi
      have hl' : listed.getD i false = false := by
        simp only [Array.getD_eq_getD_getElem?] at hl ⊢
        rw [show listed[i]? = some listed[i] by simp [show i < listed.size by omega]] at hl ⊢
        simpa using hl
      have hset : (fun k => (listed.setIfInBounds i true).getD k false) = setL (fun k => listed.getD k false) i := by
        funext k
        simp only [setL, Array.getD_eq_getD_getElem?, Array.getElem?_setIfInBounds]
        by_cases hk : i = k
        · subst hk; simp [show i < listed.size by omega]
        · rw [if_neg hk, if_neg (fun e : k = i => hk e.symm)]
      have hst := step_sim (v := (vals i).1) (wr := (vals i).2) hS hR (fr_DL hD hlt hl') (hd i o ho) (hG.stepAt hc ho hl' hr)
      have hnext : ∀ a' w', Rel w0 bl A0 nt (DL D ep (setL (fun k => listed.getD k false) i) ops.size) ((accF ops vals (fun i => listed.getD i false) F0 ops.size).put o.dst (vals i).1 (vals i).2) a' w' → wpAny E.P .any ops Q fuel (listed.setIfInBounds i true) a' w' := fun a' w' hR' => by
        refine ih _ (by simp [hsz]) ?_ ?_ a' w' ?_
        · rw [hset]
          intro j oj hoj hj e he hb
          simp only [setL] at hj ⊢
          split
          · rfl
          · by_cases hji : j = i
            · subst hji
              rw [ho] at hoj
              injection hoj with hoj
              subst hoj
              exact hr e he hb
            · rw [if_neg hji] at hj
              exact hc j oj hoj hj e he hb
        · intro U hn hUm
          have hni : i ∉ U := fun hiU => by
            have := (hUm i hiU).2
            have h2 : (listed.setIfInBounds i true).getD i false = _ := congrFun hset i
            rw [h2] at this
            simp [setL] at this
          have := hU (i :: U) (List.nodup_cons.2 ⟨hni, hn⟩) (fun k hk => by
            rcases List.mem_cons.1 hk with rfl | hk
            · exact ⟨hlt, hl'⟩
            · refine ⟨(hUm k hk).1, ?_⟩
              have h3 := (hUm k hk).2
              have h2 : (listed.setIfInBounds i true).getD k false = _ := congrFun hset k
              rw [h2] at h3
              simp only [setL] at h3
              split at h3
              · cases h3
              · exact h3)
          simp at this
          omega
        · rw [hset, hG.put hc ho hl' hr]
          exact hR'
      unfold wpOp
      rw [ho]
      simp only
      split
      · rename_i hw
        rw [if_pos hw] at hst
        exact .inl (hst.wp fun v w' h => hnext _ w' h)
      · rename_i hw
        rw [if_neg hw] at hst
        exact hnext _ _ hst
end
end Go.Den

/- Den, part V: a region, as the evaluator runs it. -/
namespace Go.Den

/-! ### in the text's order -/
def valF (E : Env) (call : Call) (ops : Array Oper) (ep i : Nat) (F : FS) : PV × Wr :=
  match ops[i]? with
  | some o => match stepF E call ops ep i o F with | some (x, _) => x | none => (.undef, [])
  | none => (.undef, [])
def seqF (E : Env) (call : Call) (ops : Array Oper) (ep : Nat) (F0 : FS) : Nat → FS
  | 0 => F0
  | k + 1 => (seqF E call ops ep F0 k).put (dstO ops k) (valF E call ops ep k (seqF E call ops ep F0 k)).1 (valF E call ops ep k (seqF E call ops ep F0 k)).2
def valsF (E : Env) (call : Call) (ops : Array Oper) (ep : Nat) (F0 : FS) (i : Nat) : PV × Wr := valF E call ops ep i (seqF E call ops ep F0 i)
theorem accF_seq {E : Env} {call : Call} {ops : Array Oper} {ep : Nat} {F0 : FS} : ∀ k, accF ops (valsF E call ops ep F0) (fun _ => true) F0 k = seqF E call ops ep F0 k
  | 0 => rfl
  | k + 1 => by simp only [accF, if_true, accF_seq k, seqF, valsF]

theorem runO_spec {E : Env} {call : Call} {ops : Array Oper} {ep : Nat} {F0 : FS} : ∀ {l : List Oper} {i : Nat} {S S' : St} {trs : List Tr}, runO E call ops i l S = some (S', trs) → (∀ j, l[j]? = ops[i + j]?) → S.fs = seqF E call ops ep F0 i → S.ep = ep →
    S'.fs = seqF E call ops ep F0 (i + l.length) ∧ S'.ep = ep ∧ ∀ (j : Nat) o, l[j]? = some o → ∃ t, trs[j]? = some t ∧ stepF E call ops ep (i + j) o (seqF E call ops ep F0 (i + j)) = some (valsF E call ops ep F0 (i + j), t.rc, t.ro) ∧
      t.w = wrHard (valsF E call ops ep F0 (i + j)).2 ∧ t.fz = wrSoft (valsF E call ops ep F0 (i + j)).2
  | [], i, S, S', trs, h, _, hf, he => by
    simp only [runO, Option.some.injEq, Prod.mk.injEq] at h
    obtain ⟨rfl, rfl⟩ := h
    exact ⟨hf, he, by simp⟩
  | o :: r, i, S, S', trs, h, hl, hf, he => by
    simp only [runO] at h
    split at h
    · cases h
    · rename_i S1 t hst
      split at h
      · cases h
      · rename_i S2 ts hr
        simp only [Option.some.injEq, Prod.mk.injEq] at h
        obtain ⟨rfl, rfl⟩ := h
        obtain ⟨v, wr, rc, ro, h1, rfl, rfl⟩ := stepO_spec hst
        rw [he, hf] at h1
        have hoi : ops[i]? = some o := by have := hl 0; simpa using this.symm
        have hval : valsF E call ops ep F0 i = (v, wr) := by simp [valsF, valF, hoi, h1]
        have hput : (S.put o.dst v wr).fs = seqF E call ops ep F0 (i + 1) := by
          rw [St.fs_put, hf, seqF]
          have hval' : valF E call ops ep i (seqF E call ops ep F0 i) = (v, wr) := hval
          rw [hval']
          simp [dstO, hoi]
        obtain ⟨a1, a2, a3⟩ := runO_spec (l := r) (i := i + 1) hr (fun j => by have := hl (j + 1); simpa [Nat.add_assoc, Nat.add_comm 1 j] using this) hput he
        refine ⟨by rw [a1, List.length_cons, Nat.add_assoc, Nat.add_comm 1], a2, fun j o' hj => ?_⟩
        cases j with
        | zero =>
          simp at hj
          subst hj
          exact ⟨_, rfl, by rw [Nat.add_zero, hval]; exact h1, by rw [Nat.add_zero, hval], by rw [Nat.add_zero, hval]⟩
        | succ j =>
          obtain ⟨t, b1, b2, b3, b4⟩ := a3 j o' (by simpa using hj)
          rw [show i + 1 + j = i + (j + 1) by omega] at b2 b3 b4
          exact ⟨t, by simpa using b1, b2, b3, b4⟩

/-! ### what needs no memory -/
theorem run_ofb {α β : Type} {x : Option α} {f : α → RM β} {m : Nat → Option Ent} {r} (h : ((RM.of x).bind f).run m = some r) : ∃ a, x = some a ∧ (f a).run m = some r := by
  cases x with
  | none => simp [RM.of, RM.bind, RM.run] at h
  | some a => exact ⟨a, rfl, h⟩
def Quiet (r : (PV × Wr) × List Nat × List Nat) : Prop := r.1.2 = [] ∧ r.2.1 = [] ∧ r.2.2 = []
theorem retO_quiet {x : Option PV} {m r} (h : (retO x).run m = some r) : Quiet r := by
  cases x with
  | none => simp [retO, RM.run] at h
  | some a => simp only [retO, RM.run, Option.some.injEq] at h; subst h; exact ⟨rfl, rfl, rfl⟩
theorem ret_quiet {x : PV} {m r} (h : (RM.ret (x, ([] : Wr))).run m = some r) : Quiet r := by
  simp only [RM.run, Option.some.injEq] at h; subst h; exact ⟨rfl, rfl, rfl⟩
theorem fail_quiet {m : Nat → Option Ent} {r : (PV × Wr) × List Nat × List Nat} (h : (RM.fail : RM (PV × Wr)).run m = some r) : Quiet r := by
  simp [RM.run] at h
theorem idless_quiet {E : Env} {call : Call} {fid : Nat} {g : Nat → Option PV} {op : Op} (hi : idless op = true) {m r} (h : (opSem E call fid g op).run m = some r) : Quiet r := by
  cases op with
  | move x => exact retO_quiet h
  | assign x => exact retO_quiet h
  | pick c x y =>
    simp only [opSem] at h
    split at h
    · split at h <;> exact retO_quiet h
    · exact fail_quiet h
  | build t ps =>
    obtain ⟨a, _, h⟩ := run_ofb h
    simp only [buildS] at h
    split at h
    · split at h
      · exact ret_quiet h
      · exact fail_quiet h
    · exact fail_quiet h
  | binOp op t x y t2 =>
    obtain ⟨a, _, h⟩ := run_ofb h
    obtain ⟨b, _, h⟩ := run_ofb h
    exact retO_quiet h
  | unOp op t x =>
    obtain ⟨a, _, h⟩ := run_ofb h
    exact retO_quiet h
  | nilCheck x =>
    obtain ⟨a, _, h⟩ := run_ofb h
    split at h
    · exact ret_quiet h
    · exact fail_quiet h
  | makeFunc fn first caps =>
    cases fn with
    | func f =>
      simp only [opSem] at h
      split at h
      · split at h
        · split at h
          · exact ret_quiet h
          · exact fail_quiet h
        · exact fail_quiet h
      · exact fail_quiet h
    | _ => exact fail_quiet h
  | fieldAddr t x j =>
    obtain ⟨a, _, h⟩ := run_ofb h
    simp only [fieldAddrS] at h
    split at h
    · split at h
      · split at h
        · exact ret_quiet h
        · exact ret_quiet h
        · exact ret_quiet h
        · exact fail_quiet h
      · exact fail_quiet h
    · exact fail_quiet h
  | field t x j =>
    obtain ⟨a, _, h⟩ := run_ofb h
    split at h
    · exact retO_quiet h
    · exact fail_quiet h
  | index t x i =>
    obtain ⟨a, _, h⟩ := run_ofb h
    obtain ⟨b, _, h⟩ := run_ofb h
    simp only [indexS] at h
    split at h
    · split at h
      · split at h
        · exact ret_quiet h
        · exact fail_quiet h
      · exact fail_quiet h
    · exact fail_quiet h
  | extract x j =>
    obtain ⟨a, _, h⟩ := run_ofb h
    split at h
    · exact retO_quiet h
    · exact fail_quiet h
  | _ => simp [idless] at hi
theorem stepF_quiet {E : Env} {call : Call} {ops : Array Oper} {ep i : Nat} {o : Oper} {F : FS} (hi : idless o.op = true) {r} (h : stepF E call ops ep i o F = some r) : Quiet r := by
  unfold stepF at h
  split at h
  · cases h
  · simp only [Option.some.injEq] at h; subst h; exact ⟨rfl, rfl, rfl⟩
  · exact idless_quiet hi h

/-! ### what is checked -/
theorem meets_spec {a b : List Nat} (h : meets a b = false) : ∀ d ∈ a, d ∉ b := fun d ha hb => by
  have : meets a b = true := List.any_eq_true.2 ⟨d, ha, List.any_eq_true.2 ⟨d, hb, by simp⟩⟩
  rw [h] at this; cases this
theorem clash1_spec {x y : Tr} (h : clash1 x y = false) : U1 x y := by
  simp only [clash1, Bool.or_eq_false_iff] at h
  obtain ⟨⟨⟨⟨h1, h2⟩, h3⟩, h4⟩, h5⟩ := h
  exact ⟨fun d hd => ⟨meets_spec h1 d hd, meets_spec h2 d hd, meets_spec h3 d hd, meets_spec h4 d hd⟩, meets_spec h5⟩
theorem inner_spec {opsA : Array Oper} {bef : Array Nat} {oj : Oper} {j : Nat} : ∀ {l : List (Oper × Nat)} {acc : Option (List (Nat × Nat))} {ps : List (Nat × Nat)},
    l.foldr (init := acc) (fun (oi, i) acc => if i < j && !(bef.getD j 0).testBit i then (if !oi.apart opsA oj then none else if idless oi.op || idless oj.op then acc else acc.map ((i, j) :: ·)) else acc) = some ps →
    ∃ ps0, acc = some ps0 ∧ (∀ x ∈ ps0, x ∈ ps) ∧ ∀ oi i, (oi, i) ∈ l → i < j → (bef.getD j 0).testBit i = false → oi.apart opsA oj = true ∧ (idless oi.op = true ∨ idless oj.op = true ∨ (i, j) ∈ ps)
  | [], acc, ps, h => ⟨ps, h, fun _ h => h, by simp⟩
  | (o1, i1) :: r, acc, ps, h => by
    simp only [List.foldr_cons] at h
    split at h
    · rename_i hc
      split at h
      · cases h
      · rename_i hap
        have hap : o1.apart opsA oj = true := by simpa using hap
        split at h
        · rename_i hid
          obtain ⟨ps0, a1, a2, a3⟩ := inner_spec h
          refine ⟨ps0, a1, a2, fun oi i hm hij hb => ?_⟩
          rcases List.mem_cons.1 hm with hm | hm
          · injection hm with h1 h2
            subst h1; subst h2
            exact ⟨hap, (Bool.or_eq_true _ _ ▸ hid).imp id .inl⟩
          · exact a3 oi i hm hij hb
        · obtain ⟨ps1, h1, rfl⟩ := Option.map_eq_some_iff.1 h
          obtain ⟨ps0, a1, a2, a3⟩ := inner_spec h1
          refine ⟨ps0, a1, fun x hx => List.mem_cons_of_mem _ (a2 x hx), fun oi i hm hij hb => ?_⟩
          rcases List.mem_cons.1 hm with hm | hm
          · injection hm with h1 h2
            subst h1; subst h2
            exact ⟨hap, .inr (.inr (List.mem_cons_self))⟩
          · exact (a3 oi i hm hij hb).imp id fun h => h.imp id fun h => h.imp id fun h => List.mem_cons_of_mem _ h
    · rename_i hc
      obtain ⟨ps0, a1, a2, a3⟩ := inner_spec h
      refine ⟨ps0, a1, a2, fun oi i hm hij hb => ?_⟩
      rcases List.mem_cons.1 hm with hm | hm
      · injection hm with h1 h2
        subst h1; subst h2
        exact absurd (by rw [hb]; simp [hij]) hc
      · exact a3 oi i hm hij hb
theorem hardPairs_spec {L : List (Oper × Nat)} {opsA : Array Oper} {bef : Array Nat} : ∀ {l : List (Oper × Nat)} {ps : List (Nat × Nat)},
    l.foldr (init := some []) (fun (oj, j) acc => L.foldr (init := acc) (fun (oi, i) acc => if i < j && !(bef.getD j 0).testBit i then (if !oi.apart opsA oj then none else if idless oi.op || idless oj.op then acc else acc.map ((i, j) :: ·)) else acc)) = some ps →
    ∀ oj j, (oj, j) ∈ l → ∀ oi i, (oi, i) ∈ L → i < j → (bef.getD j 0).testBit i = false → oi.apart opsA oj = true ∧ (idless oi.op = true ∨ idless oj.op = true ∨ (i, j) ∈ ps)
  | [], _, _, _, _, hm => by simp at hm
  | (o1, j1) :: r, ps, h, oj, j, hm => by
    simp only [List.foldr_cons] at h
    obtain ⟨ps0, a1, a2, a3⟩ := inner_spec h
    rcases List.mem_cons.1 hm with hm | hm
    · injection hm with h1 h2
      subst h1; subst h2
      exact a3
    · intro oi i hi hij hb
      exact (hardPairs_spec a1 oj j hm oi i hi hij hb).imp id fun h => h.imp id fun h => h.imp id fun h => a2 _ h

theorem reg_of {E : Env} {call : Call} {ops : Array Oper} {S S' : St} {trs : List Tr} (hrun : runO E call ops 0 ops.toList S = some (S', trs)) (hok : drawOK ops trs = true) :
    Reg E call ops S.ep S.fs (valsF E call ops S.ep S.fs) (fun i => trs.getD i ⟨[], [], [], []⟩) (fun j => (Region.before ops).getD j 0) := by
  obtain ⟨_, _, hj⟩ := runO_spec (F0 := S.fs) (ep := S.ep) hrun (by simp) rfl rfl
  simp only [Nat.zero_add] at hj
  have hat : ∀ (i : Nat) o, ops[i]? = some o → stepF E call ops S.ep i o (seqF E call ops S.ep S.fs i) = some (valsF E call ops S.ep S.fs i, (trs.getD i ⟨[], [], [], []⟩).rc, (trs.getD i ⟨[], [], [], []⟩).ro) ∧
      (trs.getD i ⟨[], [], [], []⟩).w = wrHard (valsF E call ops S.ep S.fs i).2 ∧ (trs.getD i ⟨[], [], [], []⟩).fz = wrSoft (valsF E call ops S.ep S.fs i).2 ∧ ∃ t, trs[i]? = some t ∧ trs.getD i ⟨[], [], [], []⟩ = t := fun i o ho => by
    obtain ⟨t, b1, b2, b3, b4⟩ := hj i o (by simpa using ho)
    have : trs.getD i ⟨[], [], [], []⟩ = t := by simp [List.getD_eq_getElem?_getD, b1]
    rw [this]
    exact ⟨b2, b3, b4, t, b1, rfl⟩
  unfold drawOK at hok
  simp only [Bool.and_eq_true] at hok
  obtain ⟨⟨⟨_, hback⟩, hbef⟩, hpairs⟩ := hok
  have hmem : ∀ {i : Nat} {o : Oper}, ops[i]? = some o → (o, i) ∈ ops.toList.zipIdx := fun h => List.mem_zipIdx_iff_getElem?.2 (by simpa using h)
  refine ⟨fun i o ho => by rw [accF_seq]; exact (hat i o ho).1, fun i hi => have hs : ops[i]? = some ops[i] := by simp [hi]
    ⟨(hat i _ hs).2.1, (hat i _ hs).2.2.1⟩, fun i o ho e he hb => ?_, fun j o ho i hi hb => ?_, fun i j oi oj hij hoi hoj => ?_⟩
  · have := List.all_eq_true.1 hback _ (hmem ho)
    simp only [Array.all_eq_true_iff_forall_mem] at this
    have := this e he
    simpa [hb] using this
  · unfold befOK at hbef
    have := List.all_eq_true.1 hbef _ (hmem ho)
    simp only at this
    have := List.all_eq_true.1 this i (by simpa using hi)
    simp only [hb, Bool.not_true, Bool.false_or] at this
    rw [← Array.any_toList] at this
    obtain ⟨e, he, hee⟩ := List.any_eq_true.1 this
    have he : e ∈ o.after := by simpa using he
    simp only [Bool.and_eq_true, Bool.or_eq_true, beq_iff_eq] at hee
    exact ⟨e, he, hee.1, hee.2⟩
  · by_cases hb : ((Region.before ops).getD j 0).testBit i = true
    · exact .inl hb
    · right
      split at hpairs
      · cases hpairs
      · rename_i ps hps
        obtain ⟨h1, h2⟩ := hardPairs_spec hps oj j (hmem hoj) oi i (hmem hoi) hij (by simpa using hb)
        refine ⟨h1, ?_⟩
        have U0 : ∀ {x y : Tr}, x.rc = [] → x.ro = [] → x.w = [] → x.fz = [] → U1 x y ∧ U1 y x := fun {x y} a b c d => by
          refine ⟨⟨by rw [c]; simp, by rw [d]; simp⟩, fun k hk => ?_, fun k hk => ?_⟩
          · rw [a, b, c, d]; simp
          · rw [b]; simp
        have quiet : ∀ {i : Nat} {o : Oper}, ops[i]? = some o → idless o.op = true → (trs.getD i ⟨[], [], [], []⟩).rc = [] ∧ (trs.getD i ⟨[], [], [], []⟩).ro = [] ∧ (trs.getD i ⟨[], [], [], []⟩).w = [] ∧ (trs.getD i ⟨[], [], [], []⟩).fz = [] := fun {i o} ho hid => by
          obtain ⟨a, b, c, _⟩ := hat i o ho
          obtain ⟨q1, q2, q3⟩ := stepF_quiet hid a
          simp only at q1 q2 q3
          rw [b, c, q1]
          exact ⟨q2, q3, rfl, rfl⟩
        rcases h2 with h2 | h2 | h2
        · obtain ⟨a, b, c, d⟩ := quiet hoi h2
          exact U0 a b c d
        · obtain ⟨a, b, c, d⟩ := quiet hoj h2
          exact (U0 a b c d).symm
        · obtain ⟨_, _, _, t, ht, ht'⟩ := hat i oi hoi
          obtain ⟨_, _, _, t2, ht2, ht2'⟩ := hat j oj hoj
          have := List.all_eq_true.1 hpairs _ h2
          simp only [ht, ht2, Bool.not_eq_true', clash, Bool.or_eq_false_iff] at this
          simp only [ht', ht2']
          exact ⟨clash1_spec this.1, clash1_spec this.2⟩

/-! ### the region -/
theorem plain_sim {E : Env} {call : Call} {ops : Array Oper} {ep : Nat} {F0 : FS} {w0 : World} {bl : List Nat} {A0 : Nat → Prop} {nt : Nat} {D : Nat → Prop} {Q : Exit → Act → World → Prop} (hS : Sound E call)
    (hst : ∀ (i : Nat) o, ops[i]? = some o → ∃ rc ro, stepF E call ops ep i o (seqF E call ops ep F0 i) = some (valsF E call ops ep F0 i, rc, ro)) (hD : ∀ d, D d → d < ep * 33554432) (hd : ∀ (i : Nat) o, ops[i]? = some o → ∀ t, o.dst = some t → t < nt)
    (hQ : ∀ a w, Rel w0 bl A0 nt (DL D ep (fun _ => true) ops.size) (seqF E call ops ep F0 ops.size) a w → Q .normal a w) :
    ∀ (r k : Nat), k + r = ops.size → ∀ a w, Rel w0 bl A0 nt (DL D ep (fun i => decide (i < k)) ops.size) (seqF E call ops ep F0 k) a w → wpOps E.P ops Q (List.range' k r) a w := by
  intro r
  induction r with
  | zero =>
    intro k hk a w hR
    have : k = ops.size := by omega
    subst this
    exact hQ a w (hR.widen fun d hd => hd.imp id fun ⟨i, j, h1, h2, h3⟩ => ⟨i, j, h1, rfl, h3⟩)
  | succ r ih =>
    intro k hk a w hR
    rw [List.range'_succ, wpOps_cons]
    have hlt : k < ops.size := by omega
    have ho : ops[k]? = some ops[k] := by simp [hlt]
    obtain ⟨rc, ro, hs⟩ := hst k _ ho
    have hs := step_sim (v := (valsF E call ops ep F0 k).1) (wr := (valsF E call ops ep F0 k).2) hS hR (fr_DL hD hlt (by simp)) (hd k _ ho) hs
    have hnext : ∀ a' w', Rel w0 bl A0 nt (DL D ep (setL (fun i => decide (i < k)) k) ops.size) ((seqF E call ops ep F0 k).put ops[k].dst (valsF E call ops ep F0 k).1 (valsF E call ops ep F0 k).2) a' w' → wpOps E.P ops Q (List.range' (k + 1) r) a' w' := fun a' w' hR' => by
      refine ih (k + 1) (by omega) a' w' ?_
      have he : seqF E call ops ep F0 (k + 1) = (seqF E call ops ep F0 k).put ops[k].dst (valsF E call ops ep F0 k).1 (valsF E call ops ep F0 k).2 := by
        simp [seqF, valsF, dstO, ho]
      rw [he]
      refine hR'.widen fun d hd => hd.imp id fun ⟨i, j, h1, h2, h3⟩ => ⟨i, j, h1, ?_, h3⟩
      simp only [setL] at h2
      split at h2
      · rename_i hi; simp; omega
      · simp at h2 ⊢; omega
    unfold wpOp
    rw [ho]
    simp only
    split
    · rename_i hw
      rw [if_pos hw] at hs
      exact .inl (hs.wp fun v w' h => hnext _ w' h)
    · rename_i hw
      rw [if_neg hw] at hs
      exact hnext _ _ hs

theorem region_sim {E : Env} {call : Call} {ops : Array Oper} {draw : Bool} {id : Nat} {S S' : St} {trs : List Tr} {w0 w : World} {bl : List Nat} {A0 : Nat → Prop} {nt : Nat} {a : Act} {Q : Exit → Act → World → Prop} (hS : Sound E call) (hm : E.P.follows .mixedOrders = true)
    (hrun : runO E call ops 0 ops.toList S = some (S', trs)) (hok : (Nat.ble ops.size 524288 && (!draw || drawOK ops trs)) = true) (hd : ∀ (i : Nat) o, ops[i]? = some o → ∀ t, o.dst = some t → t < nt)
    (hR : Rel w0 bl A0 nt (fun d => d < S.ep * 33554432) S.fs a w) (hQ : ∀ a w, Rel w0 bl A0 nt (fun d => d < (S.ep + 1) * 33554432) S'.fs a w → Q .normal a w) : S'.ep = S.ep ∧ (Code.region id ops draw).wp E.P Q a w := by
  simp only [Bool.and_eq_true, Nat.ble_eq] at hok
  obtain ⟨hsz, hok⟩ := hok
  obtain ⟨h1, h2, h3⟩ := runO_spec (F0 := S.fs) (ep := S.ep) hrun (by simp) rfl rfl
  simp only [Nat.zero_add, Array.length_toList] at h1 h3
  refine ⟨h2, ?_⟩
  have hfin : ∀ a w, Rel w0 bl A0 nt (DL (fun d => d < S.ep * 33554432) S.ep (fun _ => true) ops.size) (seqF E call ops S.ep S.fs ops.size) a w → Q .normal a w := fun a w h => by
    refine hQ a w ?_
    rw [h1]
    refine h.widen fun d hd => ?_
    show d < (S.ep + 1) * 33554432
    rcases hd with hd | ⟨i, j, h1, _, h2, h3⟩
    · exact Nat.lt_of_lt_of_le hd (Nat.mul_le_mul_right _ (Nat.le_succ _))
    · have h4 : i < 524288 := Nat.lt_of_lt_of_le h1 hsz
      rw [h3, Nat.add_mul, Nat.add_assoc]
      refine Nat.add_lt_add_left ?_ _
      clear hQ hR hd hok hrun h hm hS hsz h1
      omega
  cases draw with
  | false =>
    refine wp_region ?_
    rw [List.range_eq_range']
    refine plain_sim hS (fun i o ho => ?_) (fun d hd => hd) hd hfin ops.size 0 (by omega) a w (hR.widen fun d hd => .inl hd)
    obtain ⟨t, _, b2, _⟩ := h3 i o (by simpa using ho)
    exact ⟨_, _, b2⟩
  | true =>
    simp only [Bool.not_true, Bool.false_or] at hok
    have hG := reg_of hrun hok
    refine wp_region_any hm (any_sim (w0 := w0) (bl := bl) (A0 := A0) hS hG (fun d hd => hd) hd (fun a w h => ?_) ops.size (Array.replicate ops.size false) (by simp) ?_ ?_ a _ ?_)
    · rw [accF_seq] at h
      exact hfin a w h
    · intro j o ho hj
      simp [Array.getElem?_replicate] at hj
      split at hj <;> simp at hj
    · intro U hn hU
      exact nodup_lt _ U hn fun x hx => (hU x hx).1
    · have h0 : accF ops (valsF E call ops S.ep S.fs) (fun i => (Array.replicate ops.size false).getD i false) S.fs ops.size = S.fs := by
        have : ∀ n, accF ops (valsF E call ops S.ep S.fs) (fun _ => false) S.fs n = S.fs := fun n => by
          induction n with
          | zero => rfl
          | succ n ih => simp [accF, ih]
        refine Eq.trans (acc_same fun k hk => ?_) (this ops.size)
        simp [hk]
      rw [h0]
      exact (hR.drawn).widen fun d hd => .inl hd
end Go.Den

/- Den, part W: at a loop's head all is named anew. -/
namespace Go.Den
variable {P : Program} {w0 w : World} {bl : List Nat} {A0 : Nat → Prop} {D : Nat → Prop} {m : Nat → Option Ent} {G : Gh} {ok : Nat → Prop}

/-- Who owned it. -/
inductive OwnL (m : Nat → Option Ent) (G : Gh) : List NE → List Nat → Prop
  | zero : OwnL m G [] []
  | skip {x N ds} (h : x.blk = none) (r : OwnL m G N ds) : OwnL m G (x :: N) ds
  | one {x N d ds} (h : ∀ k, x.blk = some k → ∃ e, m d = some e ∧ ownB G d e = some k) (r : OwnL m G N ds) : OwnL m G (x :: N) (d :: ds)
theorem OwnL.append {N ds N' ds'} (h : OwnL m G N ds) (k : OwnL m G N' ds') : OwnL m G (N ++ N') (ds ++ ds') := by
  induction h with
  | zero => exact k
  | skip h r ih => exact .skip h ih
  | one h r ih => exact .one h ih
theorem OwnL.owner {N ds} (h : OwnL m G N ds) : ∀ x ∈ N, ∀ k, x.blk = some k → ∃ d ∈ ds, ∃ e, m d = some e ∧ ownB G d e = some k := by
  induction h with
  | zero => intro x hx; simp at hx
  | skip h r ih =>
    intro x hx k hk
    rcases List.mem_cons.1 hx with rfl | hx
    · rw [h] at hk; cases hk
    · exact ih x hx k hk
  | one h r ih =>
    intro x hx k hk
    rcases List.mem_cons.1 hx with rfl | hx
    · obtain ⟨e, h1, h2⟩ := h k hk
      exact ⟨_, List.mem_cons_self, e, h1, h2⟩
    · obtain ⟨d, h1, h2⟩ := ih x hx k hk
      exact ⟨d, List.mem_cons_of_mem _ h1, h2⟩
theorem OwnL.nodup {N ds} (h : OwnL m G N ds) (hs : ∀ d d' e e' k, m d = some e → m d' = some e' → ownB G d e = some k → ownB G d' e' = some k → d = d') : ds.Nodup → (N.filterMap NE.blk).Nodup := by
  induction h with
  | zero => intro _; exact List.nodup_nil
  | skip h r ih => intro hn; rw [List.filterMap_cons_none h]; exact ih hn
  | one h r ih =>
    rename_i x N d ds
    intro hn
    rw [List.nodup_cons] at hn
    cases hb : x.blk with
    | none => rw [List.filterMap_cons_none hb]; exact ih hn.2
    | some k =>
      rw [List.filterMap_cons_some hb, List.nodup_cons]
      refine ⟨fun hm => ?_, ih hn.2⟩
      obtain ⟨y, hy, hyk⟩ := List.mem_filterMap.1 hm
      obtain ⟨e, h1, h2⟩ := h k hb
      obtain ⟨d', hd', e', h3, h4⟩ := r.owner y hy k hyk
      exact hn.1 (hs d d' e e' k h1 h3 h2 h4 ▸ hd')

/-- More may be read: what the frozen ones own. -/
structure OkF (m : Nat → Option Ent) (G : Gh) (ok ok2 : Nat → Prop) (fs : List Nat) : Prop where
  sub : ∀ k, ok k → ok2 k
  fs : ∀ d ∈ fs, ∀ e k, m d = some e → ownB G d e = some k → ok2 k
theorem OkF.left {ok2 fs fs'} (h : OkF m G ok ok2 (fs ++ fs')) : OkF m G ok ok2 fs := ⟨h.sub, fun d hd => h.fs d (List.mem_append_left _ hd)⟩
theorem OkF.right {ok2 fs fs'} (h : OkF m G ok ok2 (fs ++ fs')) : OkF m G ok ok2 fs' := ⟨h.sub, fun d hd => h.fs d (List.mem_append_right _ hd)⟩
/-- What is written down anew. -/
structure Anew (w : World) (ok : Nat → Prop) (m : Nat → Option Ent) (G : Gh) (ms : List (Nat × Ent)) (ds fs : List Nat) (N : List NE) : Prop where
  ms : ms = N.map fun x => (x.id, ⟨true, x.c⟩)
  own : OwnL m G N ds
  fits : ∀ ok2, OkF m G ok ok2 fs → Fits w ok2 N
  shape : ∀ x ∈ N, ∀ cs, x.c = .box cs → ∃ b, x.v = .pointer (some ⟨b, 0, none⟩)
  frows : ∀ d ∈ fs, ∃ e sz xs, m d = some ⟨true, .row e sz xs⟩
theorem Anew.nil : Anew w ok m G [] [] [] [] := ⟨rfl, .zero, fun _ _ _ _ x hx => by simp at hx, by simp, by simp⟩
theorem Anew.append {ms ds fs N ms' ds' fs' N'} (h : Anew w ok m G ms ds fs N) (k : Anew w ok m G ms' ds' fs' N') : Anew w ok m G (ms ++ ms') (ds ++ ds') (fs ++ fs') (N ++ N') :=
  ⟨by rw [h.ms, k.ms, List.map_append], h.own.append k.own, fun ok2 ho => (h.fits ok2 ho.left).append (k.fits ok2 ho.right), fun x hx cs hc => (List.mem_append.1 hx).elim (fun hx => h.shape x hx cs hc) (fun hx => k.shape x hx cs hc),
   fun d hd => (List.mem_append.1 hd).elim (h.frows d) (k.frows d)⟩

theorem normLeaf_sim {S : St} {dup : Nat → Bool} (he : ∀ d e, S.at d = some e → EntOk w ok G d e) {t j : Nat} {row : Option (TypeId × Nat)} {v : Value} {p q : PV} {ms : List (Nat × Ent)} {ds fs : List Nat} (hv : RepL w ok G v p) (h : normLeaf S dup t j row p = some (q, ms, ds, fs)) :
    ∃ N, Anew w ok S.at G ms ds fs N ∧ ∀ ok2 G', OkF S.at G ok ok2 fs → HoldsN G' N → RepL w ok2 G' v q := by
  have plain : ∀ {p}, RepL w ok G v p → (if plainLeaf p = true then some (p, ([] : List (Nat × Ent)), ([] : List Nat), ([] : List Nat)) else none) = some (q, ms, ds, fs) → ∃ N, Anew w ok S.at G ms ds fs N ∧ ∀ ok2 G', OkF S.at G ok ok2 fs → HoldsN G' N → RepL w ok2 G' v q := fun hv h => by
    split at h
    · rename_i hp
      simp only [Option.some.injEq, Prod.mk.injEq] at h
      obtain ⟨rfl, rfl, rfl, rfl⟩ := h
      exact ⟨[], .nil, fun ok2 G' ho _ => .pl (((RepS.leaf hv).rep hp).mono fun k hk => ⟨ho.sub k hk, rfl⟩) hp⟩
    · cases h
  unfold normLeaf at h
  split at h
  · rename_i d
    split at h
    · rename_i e sz xs hd
      obtain ⟨v', hV, hz, hrow⟩ := he d _ hd
      obtain ⟨hV', h1⟩ := (RepS.leaf hv).h
      rw [hV'] at hV
      injection hV with hV
      subst hV
      split at h
      · simp only [Option.some.injEq, Prod.mk.injEq] at h
        obtain ⟨rfl, rfl, rfl, rfl⟩ := h
        refine ⟨[], ⟨rfl, .zero, fun _ _ _ _ x hx => by simp at hx, by simp, fun x hx => by rw [List.mem_singleton.1 hx]; exact ⟨e, sz, xs, hd⟩⟩, fun ok2 G' ho _ => .pl (hrow.reads ho.sub fun k hk => ho.fs d (List.mem_singleton.2 rfl) _ k hd (by simpa [ownB, hV'] using hk)) rfl⟩
      · simp only [Option.some.injEq, Prod.mk.injEq] at h
        obtain ⟨rfl, rfl, rfl, rfl⟩ := h
        refine ⟨[⟨leafId t j, v, .row e sz xs⟩], ⟨rfl, .one (fun k hk => ⟨_, hd, by simpa [ownB, hV', NE.blk] using hk⟩) .zero, fun ok2 ho G' hG x hx => ?_, by simp, by simp⟩, fun ok2 G' _ hG => .h (hG _ (List.mem_singleton.2 rfl)).1 h1⟩
        simp at hx; subst hx
        obtain ⟨a, b⟩ := hG _ (List.mem_singleton.2 rfl)
        exact ⟨v, a, b, hrow.mono (fun k hk => ⟨ho.sub k hk, rfl⟩) fun _ _ => rfl⟩
    · rename_i e sz xs hd
      simp only [Option.some.injEq, Prod.mk.injEq] at h
      obtain ⟨rfl, rfl, rfl, rfl⟩ := h
      obtain ⟨v', hV, hz, hr, _⟩ := he d _ hd
      obtain ⟨hV', h1⟩ := (RepS.leaf hv).h
      rw [hV'] at hV
      injection hV with hV
      subst hV
      exact ⟨[], .nil, fun ok2 G' ho _ => .pl (hr.mono fun k hk => ⟨ho.sub k hk, rfl⟩) rfl⟩
    · cases h
  · split at h
    · rename_i e sz
      simp only [Option.some.injEq, Prod.mk.injEq] at h
      obtain ⟨rfl, rfl, rfl, rfl⟩ := h
      have := (RepS.leaf hv).nils
      subst this
      refine ⟨[⟨leafId t j, .slice none 0 0, .row e sz []⟩], ⟨rfl, .skip (by simp [NE.blk, Value.ownBlock]) .zero, fun ok2 _ G' hG x hx => ?_, by simp, by simp⟩, fun ok2 G' _ hG => .h (hG _ (List.mem_singleton.2 rfl)).1 rfl⟩
      simp at hx; subst hx
      obtain ⟨a, b⟩ := hG _ (List.mem_singleton.2 rfl)
      exact ⟨_, a, b, .inl ⟨rfl, rfl⟩⟩
    · simp only [Option.some.injEq, Prod.mk.injEq] at h
      obtain ⟨rfl, rfl, rfl, rfl⟩ := h
      exact ⟨[], .nil, fun ok2 G' ho _ => .pl (((RepS.leaf hv).rep rfl).mono fun k hk => ⟨ho.sub k hk, rfl⟩) rfl⟩
  · exact plain hv h
theorem normLeafs_sim {S : St} {dup : Nat → Bool} (he : ∀ d e, S.at d = some e → EntOk w ok G d e) {t : Nat} {rows : List (Nat × TypeId × Nat)} : ∀ {ps : List PV} {j : Nat} {vs : List Value} {qs : List PV} {ms : List (Nat × Ent)} {ds fs : List Nat}, vs.length = ps.length → (∀ (i : Nat) v p, vs[i]? = some v → ps[i]? = some p → RepL w ok G v p) → normLeafs S dup t rows j ps = some (qs, ms, ds, fs) →
    ∃ N, Anew w ok S.at G ms ds fs N ∧ qs.length = ps.length ∧ ∀ ok2 G', OkF S.at G ok ok2 fs → HoldsN G' N → ∀ (i : Nat) v q, vs[i]? = some v → qs[i]? = some q → RepL w ok2 G' v q
  | [], j, vs, qs, ms, ds, fs, hl, hv, h => by
    simp only [normLeafs, Option.some.injEq, Prod.mk.injEq] at h
    obtain ⟨rfl, rfl, rfl, rfl⟩ := h
    exact ⟨[], .nil, rfl, by simp⟩
  | p :: r, j, vs, qs, ms, ds, fs, hl, hv, h => by
    simp only [normLeafs] at h
    split at h
    · rename_i x y hx hy
      obtain ⟨q, m1, d1, f1⟩ := x
      obtain ⟨qs', m2, d2, f2⟩ := y
      simp only [Option.some.injEq, Prod.mk.injEq] at h
      obtain ⟨rfl, rfl, rfl, rfl⟩ := h
      cases vs with
      | nil => simp at hl
      | cons v vs =>
        obtain ⟨N, a1, a2⟩ := normLeaf_sim he (hv 0 v p rfl rfl) hx
        obtain ⟨N', b1, b2, b3⟩ := normLeafs_sim he (vs := vs) (by simpa using hl) (fun i v p h1 h2 => hv (i + 1) v p (by simpa using h1) (by simpa using h2)) hy
        refine ⟨N ++ N', a1.append b1, by simp [b2], fun ok2 G' ho hG i u q' hu hq => ?_⟩
        cases i with
        | zero => simp at hu hq; subst hu; subst hq; exact a2 ok2 G' ho.left hG.left
        | succ i => exact b3 ok2 G' ho.right hG.right i u q' (by simpa using hu) (by simpa using hq)
    · cases h

def LentB (G G' : Gh) : Prop := ∀ d, isLent d = true → G'.B d = G.B d
theorem normI_sim {S : St} {dup : Nat → Bool} {a : Act} (he : ∀ d e, S.at d = some e → EntOk w ok G d e) (hs : SlotsOk a w ok G S.slot) {n : NI} {sl : List (Nat × PV)} {ms : List (Nat × Ent)} {ds fs : List Nat} (h : normI S dup n = some (sl, ms, ds, fs)) :
    ∃ N q, Anew w ok S.at G ms ds fs N ∧ sl = [(n.t, q)] ∧ ∀ ok2 G', OkF S.at G ok ok2 fs → HoldsN G' N → LentB G G' → RepS w ok2 G' (a.eval (.tmp n.t)) q := by
  unfold normI at h
  split at h
  · cases h
  · rename_i v hv
    have hS := hs n.t v hv
    generalize a.eval (.tmp n.t) = u at hS ⊢
    have leaf : ∀ {v}, RepS w ok G u v → (match normLeaf S dup n.t 0 (get n.rows 0) v with | some (x, w, ds, fs) => some ([(n.t, x)], w, ds, fs) | none => (none : Option NR)) = some (sl, ms, ds, fs) → (∀ p, v = p → RepS w ok G u p → RepL w ok G u p) →
        ∃ N q, Anew w ok S.at G ms ds fs N ∧ sl = [(n.t, q)] ∧ ∀ ok2 G', OkF S.at G ok ok2 fs → HoldsN G' N → LentB G G' → RepS w ok2 G' u q := fun hS h hL => by
      split at h
      · rename_i x w1 d1 f1 hx
        simp only [Option.some.injEq, Prod.mk.injEq] at h
        obtain ⟨rfl, rfl, rfl, rfl⟩ := h
        obtain ⟨N, a1, a2⟩ := normLeaf_sim he (hL _ rfl hS) hx
        exact ⟨N, x, a1, rfl, fun ok2 G' ho hG _ => .leaf (a2 ok2 G' ho hG)⟩
      · cases h
    split at h
    · rename_i cs
      split at h
      · rename_i vs w1 d1 f1 hx
        simp only [Option.some.injEq, Prod.mk.injEq] at h
        obtain ⟨rfl, rfl, rfl, rfl⟩ := h
        cases hS with
        | leaf h => cases h with | pl h hp => simp [plainLeaf] at hp
        | agg cells _ hl hv =>
          obtain ⟨N, a1, a2, a3⟩ := normLeafs_sim he (vs := cells.toList) (by simpa using hl) (fun i v p h1 h2 => hv i v p (by simpa using h1) h2) hx
          exact ⟨N, .agg vs, a1, rfl, fun ok2 G' ho hG _ => .agg _ _ (by rw [a2]; exact hl) fun i v q h1 h2 => a3 ok2 G' ho hG i v q (by simpa using h1) h2⟩
      · cases h
    · rename_i f cs
      split at h
      · rename_i hall
        simp only [Option.some.injEq, Prod.mk.injEq] at h
        obtain ⟨rfl, rfl, rfl, rfl⟩ := h
        cases hS with
        | leaf h => cases h with | pl h hp => simp [plainLeaf] at hp
        | fn _ caps _ hl hv =>
          refine ⟨[], _, .nil, rfl, fun ok2 G' ho _ _ => .fn f caps cs hl fun i v p h1 h2 => ?_⟩
          have hp := List.all_eq_true.1 hall p (List.mem_of_getElem? h2)
          exact .pl (((RepS.leaf (hv i v p h1 h2)).rep hp).mono fun k hk => ⟨ho.sub k hk, rfl⟩) hp
      · cases h
    · rename_i d off
      obtain ⟨b, hb, rfl⟩ := hS.pb
      split at h
      · rename_i hlent
        simp only [Option.some.injEq, Prod.mk.injEq] at h
        obtain ⟨rfl, rfl, rfl, rfl⟩ := h
        exact ⟨[], _, .nil, rfl, fun ok2 G' _ _ hL => .leaf (.pb off ((hL d hlent).trans hb))⟩
      · split at h
        · rename_i cs hd
          split at h
          · rename_i vs w1 d1 f1 hx
            simp only [Option.some.injEq, Prod.mk.injEq] at h
            obtain ⟨rfl, rfl, rfl, rfl⟩ := h
            obtain ⟨b', hb', cur, ty, fz, g1, g2, g3, g4⟩ := he d _ hd
            rw [hb] at hb'
            injection hb' with hb'
            subst hb'
            obtain ⟨N, a1, a2, a3⟩ := normLeafs_sim he (vs := cur.toList) (by simpa using g2) (fun i v p h1 h2 => by
              obtain ⟨u, hu, hr⟩ := g4 i p h2
              simp at h1
              rw [h1] at hu
              injection hu with hu
              exact hu ▸ hr) hx
            refine ⟨⟨boxId n.t, .pointer (some ⟨b, 0, none⟩), .box vs⟩ :: N, _, ⟨by simp [a1.ms], .one (fun k hk => ⟨_, hd, by simpa [ownB, hb, NE.blk] using hk⟩) a1.own, fun ok2 ho G' hG x hx => ?_, fun x hx cs hc => (List.mem_cons.1 hx).elim (fun hx => hx ▸ ⟨b, rfl⟩) (fun hx => a1.shape x hx cs hc), a1.frows⟩, rfl, fun ok2 G' _ hG _ => ?_⟩
            · have hG' : HoldsN G' N := fun y hy => hG y (List.mem_cons_of_mem _ hy)
              rcases List.mem_cons.1 hx with rfl | hx
              · obtain ⟨b', hb', hB⟩ := hG _ (List.mem_cons_self)
                injection hb' with hb'; injection hb' with hb'; injection hb' with hb'
                subst hb'
                refine ⟨b, hB, cur, ty, fz, g1, by rw [a2, g2], g3, fun i p hp => ?_⟩
                have hi : i < cur.size := by have := (List.getElem?_eq_some_iff.1 hp).1; rw [a2] at this; omega
                exact ⟨cur[i], by simp [hi], a3 ok2 G' ho hG' i _ p (by simp [hi]) hp⟩
              · exact a1.fits ok2 ho G' hG' x hx
            · obtain ⟨b', hb', hB⟩ := hG _ (List.mem_cons_self)
              injection hb' with hb'; injection hb' with hb'; injection hb' with hb'
              subst hb'
              exact .leaf (.pb off hB)
          · cases h
        · cases h
    · rename_i h1 h2 h3
      refine leaf hS h fun p hp hS' => ?_
      subst hp
      cases hS' with
      | leaf h => exact h
      | undef => simp [normLeaf, plainLeaf] at h
      | agg cells cs => exact absurd rfl (h1 cs)
      | fn f caps cs => exact absurd rfl (h2 f cs)
      | tup vs ps => simp [normLeaf, plainLeaf] at h
theorem normL_sim {S : St} {dup : Nat → Bool} {a : Act} (he : ∀ d e, S.at d = some e → EntOk w ok G d e) (hs : SlotsOk a w ok G S.slot) : ∀ {L : List NI} {sl : List (Nat × PV)} {ms : List (Nat × Ent)} {ds fs : List Nat}, normL S dup L = some (sl, ms, ds, fs) →
    ∃ N, Anew w ok S.at G ms ds fs N ∧ ∀ ok2 G', OkF S.at G ok ok2 fs → HoldsN G' N → LentB G G' → ∀ x ∈ sl, RepS w ok2 G' (a.eval (.tmp x.1)) x.2
  | [], sl, ms, ds, fs, h => by
    simp only [normL, Option.some.injEq, Prod.mk.injEq] at h
    obtain ⟨rfl, rfl, rfl, rfl⟩ := h
    exact ⟨[], .nil, by simp⟩
  | n :: r, sl, ms, ds, fs, h => by
    simp only [normL] at h
    split at h
    · rename_i x y hx hy
      obtain ⟨s1, m1, d1, f1⟩ := x
      obtain ⟨s2, m2, d2, f2⟩ := y
      simp only [Option.some.injEq, Prod.mk.injEq] at h
      obtain ⟨rfl, rfl, rfl, rfl⟩ := h
      obtain ⟨N, q, a1, rfl, a2⟩ := normI_sim he hs hx
      obtain ⟨N', b1, b2⟩ := normL_sim he hs hy
      refine ⟨N ++ N', a1.append b1, fun ok2 G' ho hG hL x hx => ?_⟩
      simp only [List.singleton_append, List.mem_cons] at hx
      rcases hx with rfl | hx
      · exact a2 ok2 G' ho.left hG.left hL
      · exact b2 ok2 G' ho.right hG.right hL x hx
    · cases h
theorem normLent_spec {S : St} : ∀ {n : Nat} {r : List (Nat × Ent)}, normLent S n = some r → ∀ x ∈ r, ∃ j cs, j < n ∧ x = (lentId j, ⟨true, .box cs⟩) ∧ S.at (lentId j) = some ⟨true, .box cs⟩ ∧ ∀ p ∈ cs, plainLeaf p = true
  | 0, r, h, x, hx => by simp [normLent] at h; subst h; simp at hx
  | n + 1, r, h, x, hx => by
    simp only [normLent] at h
    split at h
    · rename_i cs r' hd hr
      split at h
      · rename_i hall
        simp only [Option.some.injEq] at h
        subst h
        rcases List.mem_cons.1 hx with rfl | hx
        · exact ⟨n, cs, Nat.lt_succ_self _, rfl, hd, fun p hp => List.all_eq_true.1 hall p hp⟩
        · obtain ⟨j, cs', h1, h2⟩ := normLent_spec hr x hx
          exact ⟨j, cs', by omega, h2⟩
      · cases h
    · cases h
theorem nodupB_spec : ∀ {l : List Nat}, nodupB l = true → l.Nodup
  | [], _ => List.nodup_nil
  | x :: r, h => by
    simp only [nodupB, Bool.and_eq_true, Bool.not_eq_true'] at h
    rw [List.nodup_cons]
    refine ⟨fun hx => ?_, nodupB_spec h.2⟩
    have : (r.any fun y => y == x) = true := List.any_eq_true.2 ⟨x, hx, by simp⟩
    rw [h.1] at this; cases this
theorem get_mem {α : Type} : ∀ {l : List (Nat × α)} {i : Nat} {v : α}, get l i = some v → (i, v) ∈ l
  | [], i, v, h => by simp [get] at h
  | (k, u) :: r, i, v, h => by
    simp only [get] at h
    split at h
    · rename_i hk
      have hk : k = i := by simpa using hk
      subst hk
      injection h with h
      subst h
      exact List.mem_cons_self
    · exact List.mem_cons_of_mem _ (get_mem h)
theorem isLent_iff {d : Nat} : isLent d = true ↔ 16777216 ≤ d ∧ d < 33554432 := by
  simp only [isLent, Bool.and_eq_true, Nat.ble_eq, Nat.blt_eq]

theorem norm_sim {S S1 : St} {L : List NI} {nt : Nat} {a : Act} (hn : norm bl.length S L = some S1) (hb : bl.length ≤ 64) (h : Rel w0 bl A0 nt D S.fs a w) : S1.ep = 1 ∧ Rel w0 bl A0 nt (fun d => d < 1 * 33554432) S1.fs a w := by
  obtain ⟨⟨G, hR, hs, h5⟩, h3, h4⟩ := h
  unfold norm at hn
  dsimp only at hn
  split at hn
  · rename_i sl ms ds fs lent hl hlent
    split at hn
    · rename_i hc
      simp only [Option.some.injEq] at hn
      subst hn
      simp only [Bool.and_eq_true] at hc
      obtain ⟨⟨⟨⟨hnew, hdsn⟩, hlow⟩, hnl⟩, hfd⟩ := hc
      obtain ⟨N, A, hslots⟩ := normL_sim (G := G) hR.ent hs hl
      have hidn : (N.map (·.id)).Nodup := by
        have := nodupB_spec hnew
        rw [A.ms, List.map_map] at this
        exact this
      have hidl : ∀ x ∈ N, x.id < 16777216 := fun x hx => by
        have := List.all_eq_true.1 hlow (x.id, ⟨true, x.c⟩) (by rw [A.ms]; exact List.mem_map.2 ⟨x, hx, rfl⟩)
        simpa using this
      have hdsl : ∀ d ∈ ds, isLent d = false := fun d hd => by simpa using List.all_eq_true.1 hnl d hd
      let G0 : Gh := ⟨fun _ => none, fun d => if isLent d then G.B d else none, fun _ => 0, G.A⟩
      have hH : HoldsN (G0.withN N) N := Gh.withN_holds hidn A.shape
      have hout : ∀ d, 16777216 ≤ d → (G0.withN N).V d = none ∧ (G0.withN N).B d = G0.B d := fun d hd => by
        have := Gh.withN_out (G := G0) (N := N) (d := d) (fun x hx he => by have := hidl x hx; omega)
        exact ⟨this.1, this.2.1⟩
      have hLB : LentB G (G0.withN N) := fun d hd => by
        rw [(hout d (isLent_iff.1 hd).1).2]
        simp [G0, hd]
      -- what is at an id
      have hat : ∀ d e, atM ((ms ++ lent).map fun x => (x.1, some x.2)) d = some e → (∃ x ∈ N, d = x.id ∧ e = ⟨true, x.c⟩) ∨ ∃ (j : Nat) (cs : List PV), j < bl.length ∧ d = lentId j ∧ e = ⟨true, .box cs⟩ ∧ S.at (lentId j) = some ⟨true, .box cs⟩ ∧ ∀ p ∈ cs, plainLeaf p = true := fun d e he => by
        unfold atM at he
        split at he
        · rename_i e' hg
          subst he
          obtain ⟨x, hx, hxe⟩ := List.mem_map.1 (get_mem hg)
          injection hxe with hx1 hx2
          injection hx2 with hx2
          rcases List.mem_append.1 hx with hx | hx
          · rw [A.ms] at hx
            obtain ⟨y, hy, rfl⟩ := List.mem_map.1 hx
            exact .inl ⟨y, hy, hx1.symm, hx2.symm⟩
          · obtain ⟨j, cs, h1, rfl, h2, h3⟩ := normLent_spec hlent x hx
            exact .inr ⟨j, cs, h1, hx1.symm, hx2.symm, h2, h3⟩
        · cases he
      have hlentB : ∀ j, j < bl.length → isLent (lentId j) = true := fun j hj => isLent_iff.2 (by simp only [lentId]; omega)
      -- who owns a block owned it before
      have hown : ∀ d e k, atM ((ms ++ lent).map fun x => (x.1, some x.2)) d = some e → ownB (G0.withN N) d e = some k → (∃ x ∈ N, d = x.id ∧ x.blk = some k ∧ ∃ d0 ∈ ds, ∃ e0, S.at d0 = some e0 ∧ ownB G d0 e0 = some k) ∨ (isLent d = true ∧ ∃ e0, S.at d = some e0 ∧ ownB G d e0 = some k) := fun d e k he ho => by
        rcases hat d e he with ⟨x, hx, rfl, rfl⟩ | ⟨j, cs, hj, rfl, rfl, hS, _⟩
        · have hk : x.blk = some k := by
            have := hH x hx
            cases hc : x.c with
            | row e sz xs =>
              simp only [hc] at this
              simp only [hc, ownB, this.1, Option.bind_some] at ho
              simp only [NE.blk, hc]
              exact ho
            | box cs =>
              simp only [hc] at this
              obtain ⟨b, hb1, hb2⟩ := this
              simp only [hc, ownB, hb2] at ho
              simp only [NE.blk, hc, hb1]
              exact ho
          exact .inl ⟨x, hx, rfl, hk, A.own.owner x hx k hk⟩
        · refine .inr ⟨hlentB j hj, _, hS, ?_⟩
          simp only [ownB] at ho ⊢
          rw [← hLB _ (hlentB j hj)]
          exact ho
      have hownE : ∀ d e k, atM ((ms ++ lent).map fun x => (x.1, some x.2)) d = some e → ownB (G0.withN N) d e = some k → ∃ d0 e0, S.at d0 = some e0 ∧ ownB G d0 e0 = some k := fun d e k he ho => by
        rcases hown d e k he ho with ⟨_, _, _, _, d0, _, e0, h1, h2⟩ | ⟨_, e0, h1, h2⟩
        · exact ⟨d0, e0, h1, h2⟩
        · exact ⟨d, e0, h1, h2⟩
      have hok : ∀ k, okP w S.at G k → okP w (atM ((ms ++ lent).map fun x => (x.1, some x.2))) (G0.withN N) k := fun k hk => ⟨hk.1, hk.2.1, fun d e he ho => by
        obtain ⟨d0, e0, h1, h2⟩ := hownE d e k he ho
        exact hk.2.2 d0 e0 h1 h2⟩
      have hF : OkF S.at G (okP w S.at G) (okP w (atM ((ms ++ lent).map fun x => (x.1, some x.2))) (G0.withN N)) fs := ⟨hok, fun d hd e k he ho => by
        refine ⟨hR.all k (hR.new d e k he ho), (hR.ent d e he).lt ho, fun d1 e1 he1 ho1 => ?_⟩
        rcases hown d1 e1 k he1 ho1 with ⟨_, _, _, _, d0, hd0, e0, h1, h2⟩ | ⟨hL, e0, h1, h2⟩
        · have := hR.sep d0 d e0 e k h1 he h2 ho
          subst this
          have h3 : (ds.any fun x => x == d0) = true := List.any_eq_true.2 ⟨d0, hd0, by simp⟩
          have h4 := List.all_eq_true.1 hfd d0 hd
          rw [h3] at h4
          cases h4
        · have := hR.sep d1 d e0 e k h1 he h2 ho
          subst this
          rcases hat d1 e1 he1 with ⟨x, hx, hxd, _⟩ | ⟨j, cs, hj, hxd, _, hS, _⟩
          · have := hidl x hx
            have := (isLent_iff.1 hL).1
            omega
          · obtain ⟨e2, sz2, xs2, h5⟩ := A.frows d1 hd
            rw [hxd, hS] at h5
            cases h5⟩
      have hadv : Adv w (okP w S.at G) (G0.withN N) w (okP w (atM ((ms ++ lent).map fun x => (x.1, some x.2))) (G0.withN N)) (G0.withN N) := ⟨fun _ _ h => h, fun _ _ h => h, fun _ _ => rfl, fun k hk => ⟨hok k hk, rfl⟩, rfl⟩
      refine ⟨rfl, ⟨G0.withN N, ⟨fun d e he => ?_, fun d d' e e' k he he' ho ho' => ?_, fun d hd => ?_, fun d e k he ho => ?_, hR.kept, fun j b hj => ?_, hR.all⟩, fun t p hp => ?_, h5⟩, h3, h4⟩
      · rcases hat d e he with ⟨x, hx, rfl, rfl⟩ | ⟨j, cs, hj, rfl, rfl, hS, hpl⟩
        · exact A.fits _ hF _ hH x hx
        · obtain ⟨b, hb, cur, ty, fz, g1, g2, g3, g4⟩ := hR.ent _ _ hS
          refine ⟨b, (hLB _ (hlentB j hj)).trans hb, cur, ty, fz, g1, g2, g3, fun i p hp => ?_⟩
          obtain ⟨u, hu, hr⟩ := g4 i p hp
          have hpp := hpl p (List.mem_of_getElem? hp)
          exact ⟨u, hu, .pl (((RepS.leaf hr).rep hpp).mono hadv.ok) hpp⟩
      · rcases hown d e k he ho with ⟨x, hx, rfl, hxk, d0, hd0, e0, h1, h2⟩ | ⟨hL, e0, h1, h2⟩ <;> rcases hown d' e' k he' ho' with ⟨x', hx', rfl, hxk', d1, hd1, e1, h1', h2'⟩ | ⟨hL', e1, h1', h2'⟩
        · rw [inj_of_nodup (A.own.nodup hR.sep (nodupB_spec hdsn)) x hx x' hx' k hxk hxk']
        · have := hR.sep d0 d' e0 e1 k h1 h1' h2 h2'
          subst this
          rw [hdsl _ hd0] at hL'; cases hL'
        · have := hR.sep d d1 e0 e1 k h1 h1' h2 h2'
          subst this
          rw [hdsl _ hd1] at hL; cases hL
        · exact hR.sep d d' e0 e1 k h1 h1' h2 h2'
      · show d < 1 * 33554432
        by_cases hd2 : 16777216 ≤ d
        · obtain ⟨o1, o2⟩ := hout d hd2
          rw [o1, o2] at hd
          have : isLent d = true := by
            cases hL : isLent d with
            | true => rfl
            | false => simp [G0, hL] at hd
          have := (isLent_iff.1 this).2
          omega
        · omega
      · obtain ⟨d0, e0, h1, h2⟩ := hownE d e k he ho
        exact hR.new d0 e0 k h1 h2
      · have hj' : j < bl.length := (List.getElem?_eq_some_iff.1 hj).1
        rw [hLB _ (hlentB j hj')]
        exact hR.lent j b hj
      · exact hslots _ _ hF hH hLB (t, p) (get_mem hp)
    · cases hn
  · cases hn
end Go.Den

/- Den, part X: code; a function's body; what it hands back. -/
namespace Go.Den
variable {P : Program} {w0 w : World} {bl : List Nat} {A0 : Nat → Prop} {D : Nat → Prop} {G : Gh} {ok : Nat → Prop}

/-! ### code -/
def dstOK (n : Nat) : Code → Bool
  | .region _ ops _ => ops.all fun o => match o.dst with | some t => Nat.blt t n | none => true
  | .seq a b => dstOK n a && dstOK n b
  | .cond _ a b => dstOK n a && dstOK n b
  | .block _ b => dstOK n b
  | .loop b => dstOK n b
  | _ => true
def exitOf : Out → Exit
  | .normal => .normal
  | .exit id => .exit id
  | .ret => .ret
def BelowE (ep d : Nat) : Prop := d < ep * 33554432
theorem code_sim {E : Env} {call : Call} (hS : Sound E call) (hm : E.P.follows .mixedOrders = true) {f : FuncId} {k n0 nt : Nat} (hb : bl.length ≤ 64) (hnt : n0 ≤ nt) : ∀ (c : Code) {S S' : St} {o : Out} {a : Act} {w : World}, denC E call f bl.length k c S = some (o, S') → dstOK n0 c = true → 1 ≤ S.ep →
    Rel w0 bl A0 nt (BelowE S.ep) S.fs a w → ∀ (Q : Exit → Act → World → Prop), (∀ a' w', 1 ≤ S'.ep → Rel w0 bl A0 nt (BelowE S'.ep) S'.fs a' w' → Q (exitOf o) a' w') → c.wp E.P Q a w := by
  intro c
  induction c with
  | skip =>
    intro S S' o a w h hd he hR Q hQ
    simp only [denC, Option.some.injEq, Prod.mk.injEq] at h
    obtain ⟨rfl, rfl⟩ := h
    exact wp_skip (hQ a w he hR)
  | exit id =>
    intro S S' o a w h hd he hR Q hQ
    simp only [denC, Option.some.injEq, Prod.mk.injEq] at h
    obtain ⟨rfl, rfl⟩ := h
    exact wp_exit (hQ a w he hR)
  | ret =>
    intro S S' o a w h hd he hR Q hQ
    simp only [denC, Option.some.injEq, Prod.mk.injEq] at h
    obtain ⟨rfl, rfl⟩ := h
    exact wp_ret (hQ a w he hR)
  | region id ops draw =>
    intro S S' o a w h hd he hR Q hQ
    simp only [denC] at h
    split at h
    · cases h
    · rename_i S1 trs hrun
      split at h
      · rename_i hok
        simp only [Option.some.injEq, Prod.mk.injEq] at h
        obtain ⟨rfl, rfl⟩ := h
        have hd' : ∀ (i : Nat) o, ops[i]? = some o → ∀ t, o.dst = some t → t < nt := fun i o ho t ht => by
          simp only [dstOK, Array.all_eq_true_iff_forall_mem] at hd
          have := hd o (Array.mem_of_getElem? ho)
          rw [ht] at this
          have : t < n0 := by simpa using this
          exact Nat.lt_of_lt_of_le this hnt
        have hep := (region_sim (id := id) (Q := fun _ _ _ => True) hS hm hrun hok hd' hR (fun _ _ _ => trivial)).1
        refine (region_sim hS hm hrun hok hd' hR (fun a' w' h' => hQ a' w' (Nat.le_add_left _ _) ?_)).2
        rw [← hep] at h'
        exact h'
      · cases h
  | seq x y ihx ihy =>
    intro S S' o a w h hd he hR Q hQ
    simp only [denC] at h
    simp only [dstOK, Bool.and_eq_true] at hd
    split at h
    · cases h
    · rename_i o1 S1 h1
      refine wp_seq (ihx h1 hd.1 he hR _ fun a' w' he' hR' => ?_)
      cases o1 with
      | normal => exact ihy h hd.2 he' hR' Q hQ
      | exit id =>
        simp only [Option.some.injEq, Prod.mk.injEq] at h
        obtain ⟨rfl, rfl⟩ := h
        exact hQ a' w' he' hR'
      | ret =>
        simp only [Option.some.injEq, Prod.mk.injEq] at h
        obtain ⟨rfl, rfl⟩ := h
        exact hQ a' w' he' hR'
  | cond c x y ihx ihy =>
    intro S S' o a w h hd he hR Q hQ
    simp only [denC] at h
    simp only [dstOK, Bool.and_eq_true] at hd
    split at h
    · rename_i t hc
      have hev : a.eval c = .bool t := by
        obtain ⟨G, _, hs, _⟩ := hR.ex
        exact (evOp_rep hs hc).bool
      cases t with
      | true => exact wp_cond hev (ihx h hd.1 he hR Q hQ)
      | false => exact wp_cond hev (ihy h hd.2 he hR Q hQ)
    · cases h
  | block id b ihb =>
    intro S S' o a w h hd he hR Q hQ
    simp only [denC] at h
    simp only [dstOK] at hd
    split at h
    · cases h
    · rename_i o1 S1 h1
      refine wp_block (ihb h1 hd he hR _ fun a' w' he' hR' => ?_)
      cases o1 with
      | normal =>
        simp only [Option.some.injEq, Prod.mk.injEq] at h
        obtain ⟨rfl, rfl⟩ := h
        exact hQ a' w' he' hR'
      | ret =>
        simp only [Option.some.injEq, Prod.mk.injEq] at h
        obtain ⟨rfl, rfl⟩ := h
        exact hQ a' w' he' hR'
      | exit id' =>
        simp only at h
        simp only [exitOf, Exit.inBlock]
        split at h
        · rename_i hid
          simp only [Option.some.injEq, Prod.mk.injEq] at h
          obtain ⟨rfl, rfl⟩ := h
          rw [if_pos (by simpa using hid)]
          exact hQ a' w' he' hR'
        · rename_i hid
          simp only [Option.some.injEq, Prod.mk.injEq] at h
          obtain ⟨rfl, rfl⟩ := h
          rw [if_neg (by simpa using hid)]
          exact hQ a' w' he' hR'
  | loop b ihb =>
    intro S S' o a w h hd he hR Q hQ
    simp only [denC] at h
    simp only [dstOK] at hd
    have key : ∀ (j : Nat) {S : St} {a : Act} {w : World}, iter (fun S => norm bl.length S (E.lv f (firstRid b))) (denC E call f bl.length k b) j S = some (o, S') → Rel w0 bl A0 nt (BelowE S.ep) S.fs a w → Code.rounds E.P b Q j a w := by
      intro j
      induction j with
      | zero => intro S a w h _; simp [iter] at h
      | succ j ih =>
        intro S a w h hR
        simp only [iter] at h
        split at h
        · cases h
        · rename_i S1 hn
          obtain ⟨hep, hR1⟩ := norm_sim hn hb hR
          split at h
          · cases h
          · rename_i o1 S2 hbody
            rw [rounds_succ]
            refine ihb hbody hd (by rw [hep]; exact Nat.le_refl _) (by rw [hep]; exact hR1) _ fun a' w' he' hR' => ?_
            cases o1 with
            | normal => exact ih h hR'
            | exit id =>
              simp only [Option.some.injEq, Prod.mk.injEq] at h
              obtain ⟨rfl, rfl⟩ := h
              exact hQ a' w' he' hR'
            | ret =>
              simp only [Option.some.injEq, Prod.mk.injEq] at h
              obtain ⟨rfl, rfl⟩ := h
              exact hQ a' w' he' hR'
    exact wp_loop_rounds k (key k h hR)
  | _ => intro S S' o a w h; simp [denC] at h

/-! ### results -/
theorem sem_bind_pure {α : Type} (x : Sem α) : Sem.bind x Sem.pure = x := by
  induction x with
  | frozen a k ih => simp only [Sem.bind]; congr 1; funext b; exact ih b
  | _ => simp_all [Sem.bind]
theorem sem_assoc {α β γ : Type} (x : Sem α) (f : α → Sem β) (g : β → Sem γ) : Sem.bind (Sem.bind x f) g = Sem.bind x fun a => Sem.bind (f a) g := by
  induction x with
  | frozen a k ih => simp only [Sem.bind]; congr 1; funext b; exact ih b
  | _ => simp_all [Sem.bind]
theorem lawfulSem : LawfulMonad Sem := LawfulMonad.mk' Sem (fun x => sem_bind_pure x) (fun _ _ => rfl) (fun x f g => sem_assoc x f g)
theorem run_mapM_list {α β : Type} {f : α → Sem β} {w : World} : ∀ {l : List α} {vs : List β}, l.length = vs.length → (∀ (i : Nat) (x : α) (v : β), l[i]? = some x → vs[i]? = some v → (f x).run P w = .ok v w) → (l.mapM f).run P w = .ok vs w
  | [], [], _, _ => by simp
  | x :: r, v :: vs, hl, h => by
    have h0 := h 0 x v rfl rfl
    have := run_mapM_list (l := r) (vs := vs) (by simpa using hl) (fun i x v h1 h2 => h (i+1) x v (by simpa using h1) (by simpa using h2))
    simp [h0, this]
theorem resO_sim {m : Nat → Option Ent} {S : St} {a : Act} (hm : S.at = m) (h : ∀ d e, m d = some e → EntOk w ok G d e) (hs : SlotsOk a w ok G S.slot) {x : ResultVar} {p : PV} (hr : resO P S x = some p) :
    ∃ v, ((match x with | .tmp t => pure (a.tmps.getD t Go.undef) | .cell b t => do loadVar t (← asAddr (a.tmps.getD b Go.undef))) : Sem Value).run P w = .ok v w ∧ RepS w ok G v p := by
  subst hm
  cases x with
  | tmp t => exact ⟨a.eval (.tmp t), by simp [Act.eval], hs t p hr⟩
  | cell b t =>
    simp only [resO] at hr
    split at hr
    · rename_i d off hd
      split at hr
      · rename_i own cs hat
        obtain ⟨b', hb', hv⟩ := (hs b _ hd).pb
        obtain ⟨b2, hb2, hc⟩ := (h d _ hat).box
        rw [hb'] at hb2
        injection hb2 with hb2
        subst hb2
        obtain ⟨v', h1, h2⟩ := loadC_run (P := P) (w := w) (ok := ok) (G := G) hr b' 0 (fun j p hp => by simpa using hc j p hp)
        rw [Nat.zero_add] at h1
        refine ⟨v', ?_, h2⟩
        have hv' : a.tmps.getD b Go.undef = .pointer (some ⟨b', off, none⟩) := hv
        simp only [hv']
        simpa [asAddr] using h1
      · cases hr
    · cases hr
theorem resOs_len {S : St} : ∀ {l : List ResultVar} {ps : List PV}, resOs P S l = some ps → l.length = ps.length ∧ ∀ (i : Nat) x p, l[i]? = some x → ps[i]? = some p → resO P S x = some p
  | [], ps, h => by simp [resOs] at h; subst h; simp
  | x :: r, ps, h => by
    simp only [resOs] at h
    split at h
    · rename_i v vs h1 h2
      simp only [Option.some.injEq] at h
      subst h
      obtain ⟨a1, a2⟩ := resOs_len h2
      refine ⟨by simp [a1], fun i y p hy hp => ?_⟩
      cases i with
      | zero => simp at hy hp; subst hy; subst hp; exact h1
      | succ i => exact a2 i y p (by simpa using hy) (by simpa using hp)
    · cases h
theorem results_sim {S : St} {a : Act} {fn : Func} (h : ∀ d e, S.at d = some e → EntOk w ok G d e) (hs : SlotsOk a w ok G S.slot) {ps : List PV} (hr : resOs P S fn.results.toList = some ps) :
    ∃ vs : List Value, vs.length = ps.length ∧ (∀ (i : Nat) v p, vs[i]? = some v → ps[i]? = some p → RepS w ok G v p) ∧ (results fn a.tmps).run P w = .ok (if h : vs.toArray.size = 1 then vs.toArray[0] else .tuple vs.toArray) w := by
  obtain ⟨h1, h2⟩ := resOs_len hr
  have hx : ∀ i : Nat, ∃ v : Value, ∀ x p, fn.results.toList[i]? = some x → ps[i]? = some p → ((match x with | .tmp t => pure (a.tmps.getD t Go.undef) | .cell b t => do loadVar t (← asAddr (a.tmps.getD b Go.undef))) : Sem Value).run P w = .ok v w ∧ RepS w ok G v p := fun i => by
    cases hxi : fn.results.toList[i]? with
    | none => exact ⟨Go.undef, fun x p hx => by cases hx⟩
    | some x =>
      cases hpi : ps[i]? with
      | none => exact ⟨Go.undef, fun x p _ hp => by cases hp⟩
      | some p =>
        obtain ⟨v, a1, a2⟩ := resO_sim rfl h hs (h2 i x p hxi hpi)
        refine ⟨v, fun x' p' hx hp => ?_⟩
        injection hx with hx; injection hp with hp
        subst hx; subst hp
        exact ⟨a1, a2⟩
  have hx := Classical.skolem.1 hx
  obtain ⟨fv, hfv⟩ := hx
  have hl : ((List.range ps.length).map fv).length = ps.length := by simp
  have hget : ∀ (i : Nat) v, ((List.range ps.length).map fv)[i]? = some v → i < ps.length ∧ v = fv i := fun i v hv => by
    have hi : i < ps.length := by have := (List.getElem?_eq_some_iff.1 hv).1; simpa using this
    simp [hi] at hv
    exact ⟨hi, hv.symm⟩
  refine ⟨(List.range ps.length).map fv, hl, fun i v p hv hp => ?_, ?_⟩
  · obtain ⟨hi, rfl⟩ := hget i v hv
    obtain ⟨x, hx⟩ : ∃ x, fn.results.toList[i]? = some x := ⟨_, List.getElem?_eq_getElem (by omega)⟩
    exact (hfv i x p hx hp).2
  · have := lawfulSem
    simp only [results]
    rw [Array.mapM_eq_mapM_toList]
    have hmm := run_mapM_list (P := P) (w := w) (l := fn.results.toList) (vs := (List.range ps.length).map fv) (f := fun x => ((match x with | .tmp t => pure (a.tmps.getD t Go.undef) | .cell b t => do loadVar t (← asAddr (a.tmps.getD b Go.undef))) : Sem Value)) (by rw [hl, h1]) (fun i x v hx hv => by
      obtain ⟨hi, rfl⟩ := hget i v hv
      exact (hfv i x ps[i] hx (List.getElem?_eq_getElem hi)).1)
    simp only [map_eq_pure_bind, Sem.run_bind]
    exact (congrArg (fun r : Result (List Value) => (r.andThen fun a w' => Sem.run P (pure a.toArray) w').andThen fun a w' => Sem.run P (pure (if h : a.size = 1 then a[0] else Value.tuple a)) w') hmm).trans rfl
end Go.Den

/- Den, part Y: a function, from its entry to its end. -/
namespace Go.Den
variable {P : Program} {w0 w : World} {bl : List Nat} {A0 : Nat → Prop} {D : Nat → Prop} {G : Gh}

/-! ### what is handed out -/
structure Exp (w0 : World) (m : Nat → Option Ent) (G : Gh) (u u' : List Nat) (bs : List Nat) : Prop where
  sub : ∀ d ∈ u, d ∈ u'
  own : ∀ k ∈ bs, ∃ d ∈ u', d ∉ u ∧ ∃ e, m d = some e ∧ ownB G d e = some k
  nodup : bs.Nodup
  ge : ∀ k ∈ bs, w0.heap.size ≤ k
theorem Exp.nil (w0 : World) (m : Nat → Option Ent) (G : Gh) (u : List Nat) : Exp w0 m G u u [] := ⟨fun _ h => h, by simp, List.nodup_nil, by simp⟩
theorem Exp.append {m : Nat → Option Ent} (hs : ∀ d d' e e' k, m d = some e → m d' = some e' → ownB G d e = some k → ownB G d' e' = some k → d = d') {u u1 u2 b1 b2} (h : Exp w0 m G u u1 b1) (k : Exp w0 m G u1 u2 b2) : Exp w0 m G u u2 (b1 ++ b2) := by
  refine ⟨fun d hd => k.sub d (h.sub d hd), fun x hx => ?_, ?_, fun x hx => (List.mem_append.1 hx).elim (h.ge x) (k.ge x)⟩
  · rcases List.mem_append.1 hx with hx | hx
    · obtain ⟨d, h1, h2, h3⟩ := h.own x hx
      exact ⟨d, k.sub d h1, h2, h3⟩
    · obtain ⟨d, h1, h2, h3⟩ := k.own x hx
      exact ⟨d, h1, fun hd => h2 (h.sub d hd), h3⟩
  · rw [List.nodup_append]
    refine ⟨h.nodup, k.nodup, fun a ha b hb he => ?_⟩
    subst he
    obtain ⟨d, h1, _, e, h3, h4⟩ := h.own a ha
    obtain ⟨d', k1, k2, e', k3, k4⟩ := k.own a hb
    exact k2 (hs d d' e e' a h3 k3 h4 k4 ▸ h1)
def OkSup (w : World) (m : Nat → Option Ent) (G : Gh) (ok : Nat → Prop) : Prop := ∀ k, okP w m G k → ok k
def LentIn (m : Nat → Option Ent) (G : Gh) (bl : List Nat) : Prop := ∀ k ∈ bl, ∃ d cs, isLent d = true ∧ m d = some ⟨true, .box cs⟩ ∧ G.B d = some k

theorem expLeaf_sim {S : St} (hR : RelW w0 bl D w S.at G) (hL : LentIn S.at G bl) {u u' : List Nat} {v : Value} {p q : PV} (hv : RepL w (okP w S.at G) G v p) (h : expLeaf S u p = some (q, u')) :
    ∃ b, Exp w0 S.at G u u' b ∧ ∀ ok', OkSup w S.at G ok' → RXL w ok' v q b := by
  have plain : (if plainLeaf p = true then some (p, u) else none) = some (q, u') → ∃ b, Exp w0 S.at G u u' b ∧ ∀ ok', OkSup w S.at G ok' → RXL w ok' v q b := fun h => by
    split at h
    · rename_i hp
      simp only [Option.some.injEq, Prod.mk.injEq] at h
      obtain ⟨rfl, rfl⟩ := h
      exact ⟨[], .nil .., fun ok' hk => .pl (((RepS.leaf hv).rep hp).mono fun k h => ⟨hk k h, rfl⟩) hp⟩
    · cases h
  unfold expLeaf at h
  split at h
  · rename_i d
    obtain ⟨hV, h1⟩ := (RepS.leaf hv).h
    split at h
    · rename_i e sz xs hd
      split at h
      · cases h
      · rename_i hnu
        have hnu : d ∉ u := fun hm => hnu (List.any_eq_true.2 ⟨d, hm, by simp⟩)
        simp only [Option.some.injEq, Prod.mk.injEq] at h
        obtain ⟨rfl, rfl⟩ := h
        obtain ⟨v', hV', hz, hrow⟩ := hR.ent d _ hd
        rw [hV] at hV'
        injection hV' with hV'
        subst hV'
        have hsub : ∀ x ∈ u, x ∈ d :: u := fun x hx => List.mem_cons_of_mem _ hx
        rcases hrow with ⟨rfl, rfl⟩ | ⟨g, c, cur, fz, rfl, f1, f2, f3, f4, f5, f6, f7⟩
        · exact ⟨[], ⟨hsub, by simp, List.nodup_nil, by simp⟩, fun _ _ => .nil e sz⟩
        · have hown : ownB G d ⟨true, .row e sz xs⟩ = some g := by simp [ownB, hV, Value.ownBlock]
          refine ⟨[g], ⟨hsub, fun k hk => ?_, by simp, fun k hk => ?_⟩, fun ok' hk => .nr (RowAt.mono (.inr ⟨g, c, cur, fz, rfl, f1, f2, f3, f4, f5, f6, f7⟩) (fun k h => ⟨hk k h, rfl⟩) fun _ _ => rfl)⟩
          · rw [List.mem_singleton.1 hk]
            exact ⟨d, List.mem_cons_self, hnu, _, hd, hown⟩
          · rw [List.mem_singleton.1 hk]
            rcases hR.new d _ g hd hown with h | h
            · exact h
            · exfalso
              obtain ⟨d', cs, _, h2, h3⟩ := hL g h
              have := hR.sep d d' _ _ g hd h2 hown (by simp [ownB, h3])
              subst this
              rw [hd] at h2
              cases h2
    · rename_i e sz xs hd
      simp only [Option.some.injEq, Prod.mk.injEq] at h
      obtain ⟨rfl, rfl⟩ := h
      obtain ⟨v', hV', hz, hr, _⟩ := hR.ent d _ hd
      rw [hV] at hV'
      injection hV' with hV'
      subst hV'
      exact ⟨[], .nil .., fun ok' hk => .pl (hr.mono fun k h => ⟨hk k h, rfl⟩) rfl⟩
    · cases h
  · exact plain h
theorem expL_sim {S : St} (hR : RelW w0 bl D w S.at G) (hL : LentIn S.at G bl) : ∀ {ps : List PV} {vs : List Value} {u u' : List Nat} {qs : List PV}, vs.length = ps.length → (∀ (i : Nat) v p, vs[i]? = some v → ps[i]? = some p → RepL w (okP w S.at G) G v p) → expL S u ps = some (qs, u') →
    ∃ b, Exp w0 S.at G u u' b ∧ ∀ ok', OkSup w S.at G ok' → RXs w ok' vs qs b
  | [], vs, u, u', qs, hl, _, h => by
    simp only [expL, Option.some.injEq, Prod.mk.injEq] at h
    obtain ⟨rfl, rfl⟩ := h
    have : vs = [] := List.length_eq_zero_iff.1 hl
    subst this
    exact ⟨[], .nil .., fun _ _ => .nil⟩
  | p :: r, vs, u, u', qs, hl, hv, h => by
    simp only [expL] at h
    split at h
    · cases h
    · rename_i x u1 hx
      split at h
      · cases h
      · rename_i xs u2 hxs
        simp only [Option.some.injEq, Prod.mk.injEq] at h
        obtain ⟨rfl, rfl⟩ := h
        cases vs with
        | nil => simp at hl
        | cons v vs =>
          obtain ⟨b1, a1, a2⟩ := expLeaf_sim hR hL (hv 0 v p rfl rfl) hx
          obtain ⟨b2, c1, c2⟩ := expL_sim hR hL (vs := vs) (by simpa using hl) (fun i v p h1 h2 => hv (i + 1) v p (by simpa using h1) (by simpa using h2)) hxs
          exact ⟨b1 ++ b2, a1.append hR.sep c1, fun ok' hk => .cons (a2 ok' hk) (c2 ok' hk)⟩
theorem expV_sim {S : St} (hR : RelW w0 bl D w S.at G) (hL : LentIn S.at G bl) {u u' : List Nat} {v : Value} {p q : PV} (hv : RepS w (okP w S.at G) G v p) (h : expV S u p = some (q, u')) :
    ∃ b, Exp w0 S.at G u u' b ∧ ∀ ok', OkSup w S.at G ok' → RXV w ok' v q b := by
  unfold expV at h
  split at h
  · rename_i cs
    split at h
    · rename_i xs u1 hx
      simp only [Option.some.injEq, Prod.mk.injEq] at h
      obtain ⟨rfl, rfl⟩ := h
      cases hv with
      | leaf h => cases h with | pl h hp => simp [plainLeaf] at hp
      | agg cells _ hl hv =>
        obtain ⟨b, a1, a2⟩ := expL_sim hR hL (vs := cells.toList) (by simpa using hl) (fun i v p h1 h2 => hv i v p (by simpa using h1) h2) hx
        exact ⟨b, a1, fun ok' hk => .agg (a2 ok' hk)⟩
    · cases h
  · rename_i f cs
    split at h
    · rename_i hall
      simp only [Option.some.injEq, Prod.mk.injEq] at h
      obtain ⟨rfl, rfl⟩ := h
      cases hv with
      | leaf h => cases h with | pl h hp => simp [plainLeaf] at hp
      | fn _ caps _ hl hv =>
        refine ⟨[], .nil .., fun ok' hk => .fn f caps cs hl fun j v p h1 h2 => ?_⟩
        have hp := List.all_eq_true.1 hall p (List.mem_of_getElem? h2)
        exact ⟨((RepS.leaf (hv j v p h1 h2)).rep hp).mono fun k h => ⟨hk k h, rfl⟩, hp⟩
    · cases h
  · rename_i d off
    obtain ⟨b, hb, rfl⟩ := hv.pb
    split at h
    · rename_i cs hd
      split at h
      · rename_i hc
        simp only [Bool.and_eq_true, beq_iff_eq, Bool.not_eq_true'] at hc
        obtain ⟨⟨rfl, hnl⟩, hnu⟩ := hc
        have hnu : d ∉ u := fun hm => by
          have : (u.any fun x => x == d) = true := List.any_eq_true.2 ⟨d, hm, by simp⟩
          rw [hnu] at this; cases this
        split at h
        · rename_i xs u1 hx
          simp only [Option.some.injEq, Prod.mk.injEq] at h
          obtain ⟨rfl, rfl⟩ := h
          obtain ⟨b', hb', cur, t, fz, g1, g2, g3, g4⟩ := hR.ent d _ hd
          rw [hb] at hb'
          injection hb' with hb'
          subst hb'
          have hown : ownB G d ⟨true, .box cs⟩ = some b := by simp [ownB, hb]
          have hE : Exp w0 S.at G u (d :: u) [b] := ⟨fun x hx => List.mem_cons_of_mem _ hx, fun k hk => by rw [List.mem_singleton.1 hk]; exact ⟨d, List.mem_cons_self, hnu, _, hd, hown⟩, by simp, fun k hk => by
            rw [List.mem_singleton.1 hk]
            rcases hR.new d _ b hd hown with h | h
            · exact h
            · exfalso
              obtain ⟨d', cs', hlt, h2, h3⟩ := hL b h
              have := hR.sep d d' _ _ b hd h2 hown (by simp [ownB, h3])
              subst this
              rw [hnl] at hlt; cases hlt⟩
          obtain ⟨b2, c1, c2⟩ := expL_sim hR hL (vs := cur.toList) (by simpa using g2) (fun i v p h1 h2 => by
            obtain ⟨u, hu, hr⟩ := g4 i p h2
            simp at h1
            rw [h1] at hu
            injection hu with hu
            exact hu ▸ hr) hx
          exact ⟨[b] ++ b2, hE.append hR.sep c1, fun ok' hk => .nb g1 g3 (c2 ok' hk)⟩
        · cases h
      · cases h
    · cases h
  · rename_i h1 h2 h3
    cases hv with
    | leaf hv =>
      obtain ⟨b, a1, a2⟩ := expLeaf_sim hR hL hv h
      exact ⟨b, a1, fun ok' hk => .leaf (a2 ok' hk)⟩
    | undef => simp [expLeaf, plainLeaf] at h
    | agg cells cs => exact absurd rfl (h1 cs)
    | fn f caps cs => exact absurd rfl (h2 f cs)
    | tup vs ps => simp [expLeaf, plainLeaf] at h
theorem expVs_sim {S : St} (hR : RelW w0 bl D w S.at G) (hL : LentIn S.at G bl) : ∀ {ps : List PV} {vs : List Value} {u u' : List Nat} {qs : List PV}, vs.length = ps.length → (∀ (i : Nat) v p, vs[i]? = some v → ps[i]? = some p → RepS w (okP w S.at G) G v p) → expVs S u ps = some (qs, u') →
    ∃ b, Exp w0 S.at G u u' b ∧ qs.length = ps.length ∧ ∀ ok', OkSup w S.at G ok' → RXVs w ok' vs qs b
  | [], vs, u, u', qs, hl, _, h => by
    simp only [expVs, Option.some.injEq, Prod.mk.injEq] at h
    obtain ⟨rfl, rfl⟩ := h
    have : vs = [] := List.length_eq_zero_iff.1 hl
    subst this
    exact ⟨[], .nil .., rfl, fun _ _ => .nil⟩
  | p :: r, vs, u, u', qs, hl, hv, h => by
    simp only [expVs] at h
    split at h
    · cases h
    · rename_i x u1 hx
      split at h
      · cases h
      · rename_i xs u2 hxs
        simp only [Option.some.injEq, Prod.mk.injEq] at h
        obtain ⟨rfl, rfl⟩ := h
        cases vs with
        | nil => simp at hl
        | cons v vs =>
          obtain ⟨b1, a1, a2⟩ := expV_sim hR hL (hv 0 v p rfl rfl) hx
          obtain ⟨b2, c1, c3, c2⟩ := expVs_sim hR hL (vs := vs) (by simpa using hl) (fun i v p h1 h2 => hv (i + 1) v p (by simpa using h1) (by simpa using h2)) hxs
          exact ⟨b1 ++ b2, a1.append hR.sep c1, by simp [c3], fun ok' hk => .cons (a2 ok' hk) (c2 ok' hk)⟩
theorem expB_boxes {S : St} : ∀ {ds : List Nat} {u u' : List Nat} {lent : List (List PV)}, expB S u ds = some (lent, u') → ∀ d ∈ ds, ∃ cs, S.at d = some ⟨true, .box cs⟩
  | [], _, _, _, _, d, hd => by simp at hd
  | d1 :: r, u, u', lent, h, d, hd => by
    simp only [expB] at h
    split at h
    · rename_i cs hat
      split at h
      · cases h
      · split at h
        · cases h
        · rename_i hr
          rcases List.mem_cons.1 hd with rfl | hd
          · exact ⟨cs, hat⟩
          · exact expB_boxes hr d hd
    · cases h
theorem expB_sim {S : St} (hR : RelW w0 bl D w S.at G) (hL : LentIn S.at G bl) : ∀ {ds bl' : List Nat} {u u' : List Nat} {lent : List (List PV)}, ds.length = bl'.length → (∀ (i : Nat) d b, ds[i]? = some d → bl'[i]? = some b → G.B d = some b) → expB S u ds = some (lent, u') →
    ∃ b, Exp w0 S.at G u u' b ∧ ∀ ok', OkSup w S.at G ok' → LX w ok' bl' lent b
  | [], bl', u, u', lent, hl, _, h => by
    simp only [expB, Option.some.injEq, Prod.mk.injEq] at h
    obtain ⟨rfl, rfl⟩ := h
    have : bl' = [] := List.length_eq_zero_iff.1 hl.symm
    subst this
    exact ⟨[], .nil .., fun _ _ => .nil⟩
  | d :: r, bl', u, u', lent, hl, hB, h => by
    cases bl' with
    | nil => simp at hl
    | cons b bl' =>
      simp only [expB] at h
      split at h
      · rename_i cs hat
        split at h
        · cases h
        · rename_i x u1 hx
          split at h
          · cases h
          · rename_i xs u2 hxs
            simp only [Option.some.injEq, Prod.mk.injEq] at h
            obtain ⟨rfl, rfl⟩ := h
            obtain ⟨b', hb', cur, t, fz, g1, g2, g3, g4⟩ := hR.ent d _ hat
            rw [hB 0 d b rfl rfl] at hb'
            injection hb' with hb'
            subst hb'
            obtain ⟨b1, a1, a2⟩ := expL_sim hR hL (vs := cur.toList) (by simpa using g2) (fun i v p h1 h2 => by
              obtain ⟨u, hu, hr⟩ := g4 i p h2
              simp at h1
              rw [h1] at hu
              injection hu with hu
              exact hu ▸ hr) hx
            obtain ⟨b2, c1, c2⟩ := expB_sim hR hL (ds := r) (bl' := bl') (by simpa using hl) (fun i d b h1 h2 => hB (i + 1) d b (by simpa using h1) (by simpa using h2)) hxs
            exact ⟨b1 ++ b2, a1.append hR.sep c1, fun ok' hk => .cons g1 g3 (a2 ok' hk) (c2 ok' hk)⟩
      · cases h

/-! ### the end -/
theorem finish_sim (hb : bl.length ≤ 64) {S : St} {fn : Func} {nt : Nat} {ok0 : Nat → Prop} {a : Act} (hR : Rel w0 bl (fun k => ok0 k ∨ w0.heap.size ≤ k ∨ k ∈ bl) nt D S.fs a w) {res : PV} {lent : List (List PV)} (h : finish P fn bl.length S = some (res, lent)) :
    a.defers = [] ∧ ∃ v, (results fn a.tmps).run P w = .ok v w ∧ Back w0 ok0 bl res lent v w := by
  obtain ⟨⟨G, hW, hs, hA⟩, _, hdf⟩ := hR
  refine ⟨hdf, ?_⟩
  unfold finish at h
  split at h
  · cases h
  · rename_i vs hres
    split at h
    · cases h
    · rename_i xs u hx
      split at h
      · cases h
      · rename_i lent' u2 hB
        obtain ⟨us, l1, l2, l3⟩ := results_sim (P := P) hW.ent hs hres
        have hl : ∀ (j : Nat) b, bl[j]? = some b → G.B (lentId j) = some b := hW.lent
        have hL : LentIn S.at G bl := fun k hk => by
          obtain ⟨j, hj⟩ := List.mem_iff_getElem?.1 hk
          have hlt := (List.getElem?_eq_some_iff.1 hj).1
          obtain ⟨cs, hcs⟩ := expB_boxes hB (lentId j) (List.mem_map.2 ⟨j, by simpa using hlt, rfl⟩)
          have h64 := hb
          exact ⟨lentId j, cs, isLent_iff.2 (by simp only [lentId]; omega), hcs, hl j k hj⟩
        obtain ⟨bs, e1, e2, e3⟩ := expVs_sim hW hL l1 (fun i v p h1 h2 => l2 i v p h1 h2) hx
        obtain ⟨bss, f1, f2⟩ := expB_sim hW hL (ds := (List.range bl.length).map lentId) (bl' := bl) (by simp) (fun i d b h1 h2 => by
          have hi : i < bl.length := (List.getElem?_eq_some_iff.1 h2).1
          simp [hi] at h1
          subst h1
          exact hl i b h2) hB
        have hE := e1.append hW.sep f1
        have hok : OkSup w S.at G (okB w0 w ok0 (bs ++ bss)) := fun k hk => by
          have hnb : k ∉ bl := fun hkb => by
            obtain ⟨d, cs, _, h2, h3⟩ := hL k hkb
            exact hk.2.2 d _ h2 (by simp [ownB, h3])
          refine ⟨?_, hk.2.1, fun hm => ?_⟩
          · have h1 := hk.1
            rw [hA] at h1
            rcases h1 with h1 | h1 | h1
            · exact .inl h1
            · exact .inr h1
            · exact absurd h1 hnb
          · obtain ⟨d, _, _, e, h3, h4⟩ := hE.own k hm
            exact hk.2.2 d e h3 h4
        refine ⟨_, l3, hW.kept, bs, bss, hE.nodup, hE.ge, ?_, ?_⟩
        · have hv := e3 _ hok
          split at h
          · rename_i x
            simp only [Option.some.injEq, Prod.mk.injEq] at h
            obtain ⟨rfl, rfl⟩ := h
            cases hv with
            | cons hv r => cases r with | nil => simp only [List.append_nil] at hv ⊢; exact .one hv
          · rename_i hne
            simp only [Option.some.injEq, Prod.mk.injEq] at h
            obtain ⟨rfl, rfl⟩ := h
            rw [dif_neg]
            · exact .tup (by simpa using hv)
            · intro h1
              have : xs.length = 1 := by rw [e2, ← l1]; simpa using h1
              match xs, this with
              | [x], _ => exact hne x rfl
        · have : lent = lent' := by
            split at h <;> simp only [Option.some.injEq, Prod.mk.injEq] at h <;> exact h.2.symm
          subst this
          exact f2 _ hok

/-! ### the beginning -/
structure EnvOK (E : Env) : Prop where
  mixed : E.P.follows .mixedOrders = true
  fns : ∀ f fn, E.fns f = some fn → E.P.funcs[f]? = some fn ∧ fn.name ≠ "runtime.NumGoroutine" ∧ ∃ c, fn.body = some c ∧ dstOK fn.ntmps c = true
  ext : ∀ f g, E.ext f = some (.fn g) → ∀ args res, g args = some res → Entered E.P f ∧ Contract E.P f args [] res []
  clip : ∀ f, E.ext f = some .clip → Entered E.P f ∧ ClipOk E.P f
  rw : ∀ f mv g, E.ext f = some (.rw mv g) → Entered E.P f ∧ RwOk E.P f mv g
  rwx : ∀ f mv c g, E.ext f = some (.rwx mv c g) → Entered E.P f ∧ RwOk E.P f mv g #[.func (.func c) #[] #[]]
  bx : ∀ f j g, E.ext f = some (.bx j g) → Entered E.P f ∧ BxOk E.P f j g

theorem get_zipIdx {α : Type} : ∀ {l : List α} {k i : Nat} {v : α}, get ((l.zipIdx k).map fun x => (x.2, x.1)) i = some v → k ≤ i ∧ l[i - k]? = some v := fun {l k i v} h => by
  have := get_mem h
  obtain ⟨x, hx, he⟩ := List.mem_map.1 this
  obtain ⟨y, j⟩ := x
  injection he with h1 h2
  subst h1; subst h2
  rw [List.mem_zipIdx_iff_le_and_getElem?_sub] at hx
  exact hx
theorem entry_rel {ok0 : Nat → Prop} {vs : Array Value} {args : List PV} {lent : List (List PV)} {nt : Nat} (hok : ∀ k, ok0 k → k < w.heap.size ∧ k ∉ bl) (hl : LentOk w ok0 bl lent) (ha : ArgsOk w ok0 (Gl w ok0 bl) vs args) (hlen : lent.length ≤ 64) :
    Rel w bl (fun k => ok0 k ∨ w.heap.size ≤ k ∨ k ∈ bl) (vs ++ Array.replicate (nt - vs.size) Go.undef).size (BelowE 1) (entry args lent).fs { tmps := vs ++ Array.replicate (nt - vs.size) Go.undef, defers := [] } w := by
  have hat : ∀ d e, (entry args lent).at d = some e → ∃ (j : Nat) (cs : List PV) (b : Nat), lent[j]? = some cs ∧ bl[j]? = some b ∧ d = lentId j ∧ e = ⟨true, .box cs⟩ := fun d e he => by
    have : atM (lent.zipIdx.map fun x => (lentId x.2, some ⟨true, .box x.1⟩)) d = some e := he
    unfold atM at this
    split at this
    · rename_i e' hg
      subst this
      obtain ⟨x, hx, hxe⟩ := List.mem_map.1 (get_mem hg)
      obtain ⟨cs, j⟩ := x
      rw [List.mem_zipIdx_iff_getElem?] at hx
      injection hxe with h1 h2
      injection h2 with h2
      have hlt : j < bl.length := by rw [hl.len]; exact (List.getElem?_eq_some_iff.1 hx).1
      exact ⟨j, cs, bl[j], hx, List.getElem?_eq_getElem hlt, h1.symm, h2.symm⟩
    · cases this
  have hown : ∀ d e k, (entry args lent).at d = some e → ownB (Gl w ok0 bl) d e = some k → ∃ j, d = lentId j ∧ bl[j]? = some k := fun d e k he ho => by
    obtain ⟨j, cs, b, h1, h2, rfl, rfl⟩ := hat d e he
    refine ⟨j, rfl, ?_⟩
    simp only [ownB, Gl, lentB_id] at ho
    exact ho
  have hokm : ∀ k, ok0 k → okP w (entry args lent).at (Gl w ok0 bl) k := fun k hk => ⟨.inl hk, (hok k hk).1, fun d e he ho => by
    obtain ⟨j, _, hj⟩ := hown d e k he ho
    exact (hok k hk).2 (List.mem_of_getElem? hj)⟩
  have hadv : Adv w ok0 (Gl w ok0 bl) w (okP w (entry args lent).at (Gl w ok0 bl)) (Gl w ok0 bl) := ⟨fun _ _ h => h, fun _ _ h => h, fun _ _ => rfl, fun k hk => ⟨hokm k hk, rfl⟩, rfl⟩
  refine ⟨⟨Gl w ok0 bl, ⟨fun d e he => ?_, fun d d' e e' k he he' ho ho' => ?_, fun d hd => ?_, fun d e k he ho => ?_, Kept.refl _ _, fun j b hj => ?_, fun k hk => .inr hk⟩, fun t p hp => ?_, rfl⟩, rfl, rfl⟩
  · obtain ⟨j, cs, b, h1, h2, rfl, rfl⟩ := hat d e he
    obtain ⟨cur, t, fz, g1, g2, g3, g4⟩ := hl.box j b cs h2 h1
    refine ⟨b, by simp only [Gl, lentB_id]; exact h2, cur, t, fz, g1, g2, g3, fun i p hp => ?_⟩
    obtain ⟨g5, u, hu, hr⟩ := g4 i p hp
    exact ⟨u, hu, .pl (hr.mono hadv.ok) g5⟩
  · obtain ⟨j, rfl, hj⟩ := hown d e k he ho
    obtain ⟨j', rfl, hj'⟩ := hown d' e' k he' ho'
    obtain ⟨i1, h1⟩ := List.getElem?_eq_some_iff.1 hj
    obtain ⟨i2, h2⟩ := List.getElem?_eq_some_iff.1 hj'
    have : j = j' := by
      have hp := List.pairwise_iff_getElem.1 hl.nodup
      rcases Nat.lt_trichotomy j j' with h | h | h
      · exact absurd (h1.trans h2.symm) (hp j j' i1 i2 h)
      · exact h
      · exact absurd (h2.trans h1.symm) (hp j' j i2 i1 h)
    rw [this]
  · rcases hd with hd | hd
    · simp [Gl] at hd
    · cases hb : (Gl w ok0 bl).B d with
      | none => exact absurd hb hd
      | some b =>
        obtain ⟨j, rfl, hj⟩ := lentB_some hb
        have := (List.getElem?_eq_some_iff.1 hj).1
        rw [hl.len] at this
        simp only [BelowE, lentId]
        omega
  · obtain ⟨j, _, hj⟩ := hown d e k he ho
    exact .inr (List.mem_of_getElem? hj)
  · simp only [Gl, lentB_id]; exact hj
  · have hp : get (args.zipIdx.map fun x => (x.2, x.1)) t = some p := hp
    obtain ⟨_, hp⟩ := get_zipIdx hp
    rw [Nat.sub_zero] at hp
    have hlt : t < vs.size := by rw [ha.1]; exact (List.getElem?_eq_some_iff.1 hp).1
    have hev : Act.eval { tmps := vs ++ Array.replicate (nt - vs.size) Go.undef, defers := [] } (.tmp t) = vs[t] := by
      simp [Act.eval, Array.getElem?_append_left hlt, hlt]
    rw [hev]
    exact (ha.2 t vs[t] p (by simp [hlt]) hp).adv hadv

theorem den_sim {E : Env} (hE : EnvOK E) : ∀ k, Sound E (den E k)
  | 0 => ⟨fun f args lent res lent' h => by simp [den] at h, hE.ext, hE.clip, hE.rw, hE.rwx, hE.bx⟩
  | k + 1 => by
    refine ⟨fun f args lent res lent' h => ?_, hE.ext, hE.clip, hE.rw, hE.rwx, hE.bx⟩
    have ih := den_sim hE k
    simp only [den] at h
    split at h
    · cases h
    · rename_i fn hfn
      obtain ⟨h1, h2, c, h3, h4⟩ := hE.fns f fn hfn
      refine ⟨⟨fn, h1, h2, by simp [h3]⟩, fun w vs bl ok0 hok hl ha => ?_⟩
      split at h
      · cases h
      · cases h
      · rename_i c' hc hlen
        rw [h3] at hc
        injection hc with hc
        subst hc
        have hlen : lent.length ≤ 64 := by simpa using hlen
        rw [← hl.len] at h hlen
        refine calls_of_wp h1 h3 ?_
        have hent := entry_rel (nt := fn.ntmps) hok hl ha (by rw [← hl.len]; exact hlen)
        have run : ∀ {o S}, denC E (den E k) f bl.length k c (entry args lent) = some (o, S) → (o = .normal ∨ o = .ret) → finish E.P fn bl.length S = some (res, lent') → c.wp E.P (bodyPost E.P fn fun e w' => ∃ v, e = .returned v ∧ Back w ok0 bl res lent' v w') { tmps := vs ++ Array.replicate (fn.ntmps - vs.size) Go.undef, defers := [] } w := fun {o S} hd ho hf => by
          refine code_sim (n0 := fn.ntmps) ih hE.mixed hlen (by simp; omega) c hd h4 (Nat.le_refl _) hent _ fun a' w' _ hR => ?_
          obtain ⟨d1, v, d2, d3⟩ := finish_sim hlen hR hf
          rcases ho with rfl | rfl
          · exact ⟨d1, v, d2, v, rfl, d3⟩
          · exact ⟨d1, v, d2, v, rfl, d3⟩
        split at h
        · rename_i S hd
          exact run hd (.inl rfl) h
        · rename_i S hd
          exact run hd (.inr rfl) h
        · cases h
end Go.Den

/- Den, part Z: an argument of which no more is looked at than its last eight bits. -/
namespace Go.Den

/-- The same, but for slots of T, which may hold a here and b there. -/
structure Tw (T : List Nat) (a b : PV) (S S' : St) : Prop where
  mem : S.mem = S'.mem
  ep : S.ep = S'.ep
  sl : ∀ t, S.slot t = S'.slot t ∨ (t ∈ T ∧ S.slot t = some a ∧ S'.slot t = some b)
def freeOf (T : List Nat) (x : Operand) : Bool := match x with | .tmp t => !T.contains t | _ => true
def tOp (T : List Nat) (o : Oper) : Bool :=
  (o.op.operands.toList.all (freeOf T)) ||
  match o.op with
  | .move _ | .assign _ => (match o.dst with | some d => T.contains d | none => false)
  | .binOp .and _ (.tmp _) (.const (.int _ n)) _ => n == 255
  | _ => false
def tC (T : List Nat) (lv : Nat → List NI) : Code → Bool
  | .region _ ops _ => ops.all (tOp T)
  | .seq x y => tC T lv x && tC T lv y
  | .cond _ x y => tC T lv x && tC T lv y
  | .block _ x => tC T lv x
  | .loop x => tC T lv x && (lv (firstRid x)).all fun n => !T.contains n.t
  | _ => true
def isI : PV → Bool | .int .. => true | _ => false
theorem Tw.refl (T : List Nat) (a b : PV) (S : St) : Tw T a b S S := ⟨rfl, rfl, fun _ => .inl rfl⟩

section
variable {E : Env} {call : Call} {T : List Nat} {a b : PV} {S S' : St}

theorem Tw.at_eq (h : Tw T a b S S') : S.at = S'.at := by funext d; simp only [St.at, h.mem]
theorem Tw.put (h : Tw T a b S S') {dst : Option Tmp} {v v' : PV} {w : Wr} (hv : v = v' ∨ ((∀ d, dst = some d → d ∈ T) ∧ v = a ∧ v' = b)) : Tw T a b (S.put dst v w) (S'.put dst v' w) := by
  refine ⟨by simp only [St.put, h.mem], h.ep, fun t => ?_⟩
  cases dst with
  | none => exact h.sl t
  | some d =>
    have h1 : (S.put (some d) v w).slot t = upd S.slot d (some v) t := congrFun (get_cons d v S.sl) t
    have h2 : (S'.put (some d) v' w).slot t = upd S'.slot d (some v') t := congrFun (get_cons d v' S'.sl) t
    rw [h1, h2]
    simp only [upd]
    by_cases ht : t = d
    · subst ht
      simp only [if_true]
      rcases hv with rfl | ⟨h3, rfl, rfl⟩
      · exact .inl rfl
      · exact .inr ⟨h3 t rfl, rfl, rfl⟩
    · simp only [if_neg ht]
      exact h.sl t
theorem Tw.ev (h : Tw T a b S S') (x : Operand) : evOp S.slot x = evOp S'.slot x ∨ (evOp S.slot x = some a ∧ evOp S'.slot x = some b) := by
  cases x with
  | tmp t => exact (h.sl t).imp id fun h => h.2
  | _ => exact .inl rfl
theorem Tw.wants (ha : isI a = true) (hb : isI b = true) (h : Tw T a b S S') (ops : Array Oper) (o : Oper) : wantsO ops o S = wantsO ops o S' := by
  unfold wantsO
  cases hg : o.guard with
  | none => rfl
  | some x =>
    obtain ⟨j, want⟩ := x
    simp only
    cases hq : ops[j]? with
    | none => rfl
    | some q =>
      simp only
      cases ht : q.dst with
      | none => rfl
      | some t =>
        simp only
        rcases h.sl t with h1 | ⟨_, h1, h2⟩
        · rw [h1]
        · rw [h1, h2]
          cases a <;> cases b <;> first | rfl | (simp [isI] at ha; done) | (simp [isI] at hb; done)
/-- the mask makes one of both -/
def Masked (P : Program) (a b : PV) : Prop := ∀ t k, evBin P .and t a (.int k 255) = evBin P .and t b (.int k 255)
theorem step_tw (ha : isI a = true) (hb : isI b = true) (hm : Masked E.P a b) {ops : Array Oper} {i : Nat} {o : Oper} (ho : tOp T o = true) (h : Tw T a b S S') {S1 : St} {t : Tr} (hs : stepO E call ops i o S = some (S1, t)) :
    ∃ S1', stepO E call ops i o S' = some (S1', t) ∧ Tw T a b S1 S1' := by
  unfold stepO at hs ⊢
  rw [← h.wants ha hb]
  split at hs
  · cases hs
  · injection hs with hs
    injection hs with h1 h2
    subst h1; subst h2
    exact ⟨_, rfl, h.put (.inl rfl)⟩
  · rw [← h.ep, ← h.at_eq]
    have same : opSem E call (S.ep * 33554432 + i * 64) S.slot o.op = opSem E call (S.ep * 33554432 + i * 64) S'.slot o.op →
        ∃ S1', (match (opSem E call (S.ep * 33554432 + i * 64) S'.slot o.op).run S.at with | some ((v, w), rc, ro) => some (S'.put o.dst v w, (⟨rc, ro, wrHard w, wrSoft w⟩ : Tr)) | none => none) = some (S1', t) ∧ Tw T a b S1 S1' := fun he => by
      rw [← he]
      split at hs
      · rename_i hrun
        injection hs with hs
        injection hs with h1 h2
        subst h1; subst h2
        rw [hrun]
        exact ⟨_, rfl, h.put (.inl rfl)⟩
      · cases hs
    unfold tOp at ho
    rw [Bool.or_eq_true] at ho
    rcases ho with ho | ho
    · refine same (opSem_congr fun t ht => ?_)
      have := List.all_eq_true.1 ho (.tmp t) (by simpa using ht)
      have hnt : t ∉ T := by simpa [freeOf] using this
      exact (h.sl t).resolve_right fun h => hnt h.1
    · have mv : ∀ x, (opSem E call (S.ep * 33554432 + i * 64) S.slot o.op = retO (evOp S.slot x)) → (opSem E call (S.ep * 33554432 + i * 64) S'.slot o.op = retO (evOp S'.slot x)) → (match o.dst with | some d => T.contains d | none => false) = true →
          ∃ S1', (match (opSem E call (S.ep * 33554432 + i * 64) S'.slot o.op).run S.at with | some ((v, w), rc, ro) => some (S'.put o.dst v w, (⟨rc, ro, wrHard w, wrSoft w⟩ : Tr)) | none => none) = some (S1', t) ∧ Tw T a b S1 S1' := fun x e1 e2 hd => by
        rcases h.ev x with h1 | ⟨h1, h2⟩
        · exact same (by rw [e1, e2, h1])
        · rw [e1, h1] at hs
          rw [e2, h2]
          simp only [retO, RM.run] at hs ⊢
          injection hs with hs
          injection hs with h3 h4
          subst h3; subst h4
          refine ⟨_, rfl, h.put (.inr ⟨fun d hd' => ?_, rfl, rfl⟩)⟩
          rw [hd'] at hd
          simpa using hd
      split at ho
      · rename_i x hop
        exact mv x (by rw [hop]; rfl) (by rw [hop]; rfl) ho
      · rename_i x hop
        exact mv x (by rw [hop]; rfl) (by rw [hop]; rfl) ho
      · rename_i ty x k n ty2 hop
        have hn : n = 255 := by simpa using ho
        subst hn
        refine same ?_
        rw [hop]
        rcases h.sl x with h1 | ⟨_, h1, h2⟩
        · simp only [opSem, evOp, h1]
        · simp only [opSem, evOp, h1, h2, RM.of, RM.bind, constPV, hm ty k]
      · cases ho
theorem run_tw (ha : isI a = true) (hb : isI b = true) (hm : Masked E.P a b) {ops : Array Oper} : ∀ {l : List Oper} {i : Nat} {S S' : St}, (∀ o ∈ l, tOp T o = true) → Tw T a b S S' → ∀ {S1 : St} {ts : List Tr}, runO E call ops i l S = some (S1, ts) → ∃ S1', runO E call ops i l S' = some (S1', ts) ∧ Tw T a b S1 S1'
  | [], i, S, S', _, h, S1, ts, hr => by
    simp only [runO, Option.some.injEq, Prod.mk.injEq] at hr
    obtain ⟨rfl, rfl⟩ := hr
    exact ⟨S', rfl, h⟩
  | o :: r, i, S, S', ho, h, S1, ts, hr => by
    simp only [runO] at hr ⊢
    split at hr
    · cases hr
    · rename_i S2 t hst
      obtain ⟨S2', e2, h2⟩ := step_tw ha hb hm (ho o (List.mem_cons_self)) h hst
      split at hr
      · cases hr
      · rename_i S3 ts' hr'
        simp only [Option.some.injEq, Prod.mk.injEq] at hr
        obtain ⟨rfl, rfl⟩ := hr
        obtain ⟨S3', e3, h3⟩ := run_tw ha hb hm (fun o ho' => ho o (List.mem_cons_of_mem _ ho')) h2 hr'
        exact ⟨S3', by simp [e2, e3], h3⟩
theorem normI_tw (h : Tw T a b S S') {dup : Nat → Bool} {n : NI} (hn : n.t ∉ T) : normI S dup n = normI S' dup n := by
  have h1 : S.slot n.t = S'.slot n.t := (h.sl n.t).resolve_right fun h => hn h.1
  have hat := h.at_eq
  have hleaf : ∀ (t j : Nat) row v, normLeaf S dup t j row v = normLeaf S' dup t j row v := fun t j row v => by unfold normLeaf; rw [hat]
  have hleafs : ∀ (t : Nat) rows (l : List PV) (j : Nat), normLeafs S dup t rows j l = normLeafs S' dup t rows j l := fun t rows l => by
    induction l with
    | nil => intro j; rfl
    | cons v r ih => intro j; simp only [normLeafs, hleaf, ih]
  unfold normI
  rw [h1, hat]
  simp only [hleaf, hleafs]
theorem norm_tw (h : Tw T a b S S') {n : Nat} {L : List NI} (hL : ∀ x ∈ L, x.t ∉ T) : norm n S L = norm n S' L := by
  have h1 : ∀ dup (L : List NI), (∀ x ∈ L, x.t ∉ T) → normL S dup L = normL S' dup L := fun dup L => by
    induction L with
    | nil => intro _; rfl
    | cons x r ih => intro hL; simp only [normL, normI_tw h (hL x (List.mem_cons_self)), ih fun y hy => hL y (List.mem_cons_of_mem _ hy)]
  have h2 : ∀ n, normLent S n = normLent S' n := fun n => by
    induction n with
    | zero => rfl
    | succ n ih => simp only [normLent, ih, h.at_eq]
  have hp : ∀ l, heldP S l = heldP S' l := fun l => by
    induction l with
    | nil => rfl
    | cons v r ih => cases v <;> simp only [heldP, ih]
  have h3 : ∀ (L : List NI), (∀ x ∈ L, x.t ∉ T) → L.flatMap (heldI S) = L.flatMap (heldI S') := fun L => by
    induction L with
    | nil => intro _; rfl
    | cons x r ih =>
      intro hL
      have hx : heldI S x = heldI S' x := by
        have : S.slot x.t = S'.slot x.t := (h.sl x.t).resolve_right fun h => hL x (List.mem_cons_self) h.1
        unfold heldI
        rw [this, h.at_eq]
        simp only [hp]
      rw [List.flatMap_cons, List.flatMap_cons, hx, ih fun y hy => hL y (List.mem_cons_of_mem _ hy)]
  unfold norm
  rw [h3 L hL]
  dsimp only
  rw [h1 _ L hL, h2 n]
theorem code_tw (ha : isI a = true) (hb : isI b = true) (hm : Masked E.P a b) {f : FuncId} {nl k : Nat} : ∀ (c : Code), tC T (E.lv f) c = true → ∀ {S S' : St}, Tw T a b S S' → ∀ {o : Out} {S1 : St}, denC E call f nl k c S = some (o, S1) → ∃ S1', denC E call f nl k c S' = some (o, S1') ∧ Tw T a b S1 S1' := by
  intro c
  induction c with
  | skip =>
    intro _ S S' h o S1 hr
    simp only [denC, Option.some.injEq, Prod.mk.injEq] at hr ⊢
    obtain ⟨rfl, rfl⟩ := hr
    exact ⟨S', ⟨rfl, rfl⟩, h⟩
  | exit id =>
    intro _ S S' h o S1 hr
    simp only [denC, Option.some.injEq, Prod.mk.injEq] at hr ⊢
    obtain ⟨rfl, rfl⟩ := hr
    exact ⟨S', ⟨rfl, rfl⟩, h⟩
  | ret =>
    intro _ S S' h o S1 hr
    simp only [denC, Option.some.injEq, Prod.mk.injEq] at hr ⊢
    obtain ⟨rfl, rfl⟩ := hr
    exact ⟨S', ⟨rfl, rfl⟩, h⟩
  | region id ops draw =>
    intro hc S S' h o S1 hr
    simp only [denC] at hr ⊢
    simp only [tC] at hc
    split at hr
    · cases hr
    · rename_i S2 ts hrun
      obtain ⟨S2', e2, h2⟩ := run_tw ha hb hm (fun o ho => by
        rw [Array.all_eq_true_iff_forall_mem] at hc
        exact hc o (by simpa using ho)) h hrun
      split at hr
      · rename_i hok
        simp only [Option.some.injEq, Prod.mk.injEq] at hr
        obtain ⟨rfl, rfl⟩ := hr
        simp only [e2, hok, if_true]
        exact ⟨_, rfl, h2.mem, by simp only [h2.ep], h2.sl⟩
      · cases hr
  | seq x y ihx ihy =>
    intro hc S S' h o S1 hr
    simp only [denC] at hr ⊢
    simp only [tC, Bool.and_eq_true] at hc
    split at hr
    · cases hr
    · rename_i o1 S2 hx
      obtain ⟨S2', e2, h2⟩ := ihx hc.1 h hx
      rw [e2]
      cases o1 with
      | normal => exact ihy hc.2 h2 hr
      | exit id =>
        simp only [Option.some.injEq, Prod.mk.injEq] at hr ⊢
        obtain ⟨rfl, rfl⟩ := hr
        exact ⟨S2', ⟨rfl, rfl⟩, h2⟩
      | ret =>
        simp only [Option.some.injEq, Prod.mk.injEq] at hr ⊢
        obtain ⟨rfl, rfl⟩ := hr
        exact ⟨S2', ⟨rfl, rfl⟩, h2⟩
  | cond c x y ihx ihy =>
    intro hc S S' h o S1 hr
    simp only [denC] at hr ⊢
    simp only [tC, Bool.and_eq_true] at hc
    rcases h.ev c with he | ⟨he, _⟩
    · rw [← he]
      split at hr
      · rename_i t ht
        cases t with
        | true => exact ihx hc.1 h hr
        | false => exact ihy hc.2 h hr
      · cases hr
    · rw [he] at hr
      cases a <;> first | (simp [isI] at ha; done) | (simp at hr; done)
  | block id x ihx =>
    intro hc S S' h o S1 hr
    simp only [denC] at hr ⊢
    simp only [tC] at hc
    split at hr
    · cases hr
    · rename_i o1 S2 hx
      obtain ⟨S2', e2, h2⟩ := ihx hc h hx
      rw [e2]
      cases o1 with
      | normal =>
        simp only [Option.some.injEq, Prod.mk.injEq] at hr ⊢
        obtain ⟨rfl, rfl⟩ := hr
        exact ⟨S2', ⟨rfl, rfl⟩, h2⟩
      | ret =>
        simp only [Option.some.injEq, Prod.mk.injEq] at hr ⊢
        obtain ⟨rfl, rfl⟩ := hr
        exact ⟨S2', ⟨rfl, rfl⟩, h2⟩
      | exit id' =>
        simp only at hr ⊢
        split at hr
        · rename_i hid
          simp only [Option.some.injEq, Prod.mk.injEq] at hr
          obtain ⟨rfl, rfl⟩ := hr
          simp only [hid, if_true]
          exact ⟨S2', rfl, h2⟩
        · rename_i hid
          simp only [Option.some.injEq, Prod.mk.injEq] at hr
          obtain ⟨rfl, rfl⟩ := hr
          simp only [hid]
          exact ⟨S2', rfl, h2⟩
  | loop x ihx =>
    intro hc S S' h o S1 hr
    simp only [denC] at hr ⊢
    simp only [tC, Bool.and_eq_true] at hc
    cases k with
    | zero => simp [iter] at hr
    | succ k =>
      simp only [iter] at hr ⊢
      rw [← norm_tw h (fun x hx => by simpa using List.all_eq_true.1 hc.2 x hx)]
      exact ⟨S1, hr, .refl ..⟩
  | _ => intro _ S S' _ o S1 hr; simp [denC] at hr

theorem expLeaf_at (hat : S.at = S'.at) (u : List Nat) (p : PV) : expLeaf S u p = expLeaf S' u p := by unfold expLeaf; rw [hat]
theorem expL_at (hat : S.at = S'.at) : ∀ (l : List PV) (u : List Nat), expL S u l = expL S' u l
  | [], _ => rfl
  | p :: r, u => by simp only [expL, expLeaf_at hat, expL_at hat r]
theorem expV_at (hat : S.at = S'.at) (u : List Nat) (p : PV) : expV S u p = expV S' u p := by
  unfold expV; rw [hat]; simp only [expL_at hat, expLeaf_at hat]
theorem expVs_at (hat : S.at = S'.at) : ∀ (l : List PV) (u : List Nat), expVs S u l = expVs S' u l
  | [], _ => rfl
  | p :: r, u => by simp only [expVs, expV_at hat, expVs_at hat r]
theorem expB_at (hat : S.at = S'.at) : ∀ (l : List Nat) (u : List Nat), expB S u l = expB S' u l
  | [], _ => rfl
  | d :: r, u => by simp only [expB, hat, expL_at hat, expB_at hat r]
def tRes (T : List Nat) : ResultVar → Bool | .tmp t => !T.contains t | .cell t _ => !T.contains t
theorem finish_tw (h : Tw T a b S S') {fn : Func} {n : Nat} (hr : ∀ x ∈ fn.results, tRes T x = true) : finish E.P fn n S = finish E.P fn n S' := by
  have hat := h.at_eq
  have h1 : ∀ (l : List ResultVar), (∀ x ∈ l, tRes T x = true) → resOs E.P S l = resOs E.P S' l := fun l => by
    induction l with
    | nil => intro _; rfl
    | cons x r ih =>
      intro hl
      have hx : resO E.P S x = resO E.P S' x := by
        have := hl x (List.mem_cons_self)
        cases x with
        | tmp t =>
          have ht : t ∉ T := by simpa [tRes] using this
          exact (h.sl t).resolve_right fun h => ht h.1
        | cell t ty =>
          have ht : t ∉ T := by simpa [tRes] using this
          simp only [resO, (h.sl t).resolve_right fun h => ht h.1, hat]
      simp only [resOs, hx, ih fun y hy => hl y (List.mem_cons_of_mem _ hy)]
  unfold finish
  rw [h1 _ fun x hx => hr x (by simpa using hx)]
  simp only [expVs_at hat, expB_at hat]
end

/-- What is shown at the masked one holds of all. -/
theorem den_tw {E : Env} {T : List Nat} {a b : PV} (ha : isI a = true) (hb : isI b = true) (hm : Masked E.P a b) {f : FuncId} {fn : Func} {c : Code} (hf : E.fns f = some fn) (hc : fn.body = some c) (ht : tC T (E.lv f) c = true) (hr : fn.results.all (tRes T) = true) (h0 : 0 ∈ T) {k : Nat} {r} (h : den E k f [a] [] = some r) : den E k f [b] [] = some r := by
  cases k with
  | zero => simp [den] at h
  | succ k =>
    simp only [den, hf, hc] at h ⊢
    have hr' : ∀ x ∈ fn.results, tRes T x = true := by rw [Array.all_eq_true_iff_forall_mem] at hr; exact hr
    have h1 : Tw T a b (entry [a] []) (entry [b] []) := ⟨rfl, rfl, fun t => by
      have e1 : (entry [a] []).slot t = upd (get []) 0 (some a) t := congrFun (get_cons 0 a []) t
      have e2 : (entry [b] []).slot t = upd (get []) 0 (some b) t := congrFun (get_cons 0 b []) t
      rw [e1, e2]
      simp only [upd]
      by_cases ht : t = 0
      · subst ht; exact .inr ⟨h0, by simp⟩
      · simp only [if_neg ht]; exact .inl trivial⟩
    split at h
    · cases h
    · cases h
    · rename_i c' hc' hl
      injection hc' with hc'
      subst hc'
      split at h
      · rename_i S1 hd
        obtain ⟨S1', e, h2⟩ := code_tw ha hb hm c ht h1 hd
        simp only [e, ← finish_tw (E := E) h2 hr']
        exact h
      · rename_i S1 hd
        obtain ⟨S1', e, h2⟩ := code_tw ha hb hm c ht h1 hd
        simp only [e, ← finish_tw (E := E) h2 hr']
        exact h
      · cases h
end Go.Den

/- Den, part Za: slices.Clone; from the evaluator's word to a law's statement. -/
namespace Go.Den
open Go.RowKit
variable {P : Program}

theorem kept_of {w w' : World} (h : Below w.heap.size w w') : Kept w w' [] := ⟨h.os, h.tape, h.output, h.size, fun k hk _ => h.block k hk⟩
theorem below_of {w w' : World} (h : Kept w w' []) : Below w.heap.size w w' := ⟨h.os, h.tape, h.output, h.size, fun k hk => h.same k hk (by simp)⟩

def RunsClone (P : Program) (f : FuncId) (e : TypeId) (size bytes : Nat) : Prop := ∀ (x : Addr) (n c : Nat) (news : List Value) (w : World), news.length = n * size → n ≤ maxLen → n * bytes ≤ 140737488355328 →
  (∀ (j : Nat) u, news[j]? = some u → w.cell? (x.add j) = some u) → (∀ u ∈ news, u.oneCell' = true) →
  Calls P f #[.slice (some x) n c] w fun e1 w' => ∃ v', e1 = .returned v' ∧ w'.ownsRow w.heap.size e size v' n news ∧ Below w.heap.size w w'
def RunsCloneNil (P : Program) (f : FuncId) : Prop := ∀ (n c : Nat) (w : World), Calls P f #[.slice none n c] w fun e w' => e = .returned (.slice none 0 0) ∧ w' = w

theorem one_arg {ok G} {w : World} {vs : Array Value} {p : PV} (ha : ArgsOk w ok G vs [p]) : ∃ u, vs = #[u] ∧ RepS w ok G u p := by
  have h1 := ha.1
  have hu : ∃ u, vs = #[u] := by
    rcases vs with ⟨_ | ⟨u, _ | ⟨u', r⟩⟩⟩ <;> simp at h1
    exact ⟨u, rfl⟩
  obtain ⟨u, rfl⟩ := hu
  exact ⟨u, rfl, ha.2 0 u p rfl rfl⟩
theorem mono_okB {w w' : World} {ok : Nat → Prop} {bs : List Nat} (hok : ∀ k, ok k → k < w.heap.size ∧ k ∉ ([] : List Nat)) (hb : Below w.heap.size w w') (hbs : ∀ k ∈ bs, w.heap.size ≤ k) : ∀ k, ok k → okB w w' ok bs k ∧ w'.heap[k]? = w.heap[k]? := fun k hk => by
  have h1 := (hok k hk).1
  exact ⟨⟨.inl hk, Nat.lt_of_lt_of_le h1 hb.size, fun hm => by have := hbs k hm; omega⟩, hb.block k h1⟩

theorem clone_contract {f : FuncId} {e : TypeId} {size bytes : Nat} (hsz : 0 < size) (h1 : RunsClone P f e size bytes) (h2 : RunsCloneNil P f) : ∀ args res, cloneF e size bytes args = some res → Contract P f args [] res [] := by
  intro args res hc w vs bl ok hok hl ha
  have hbl : bl = [] := List.length_eq_zero_iff.1 hl.len
  subst hbl
  unfold cloneF at hc
  split at hc
  · injection hc with hc
    subst hc
    obtain ⟨u, rfl, hu⟩ := one_arg ha
    have := hu.nils
    subst this
    refine (h2 0 0 w).mono fun e1 w' ⟨he, hw⟩ => ⟨_, he, ?_⟩
    subst hw
    exact ⟨Kept.refl _ _, [], [], List.nodup_nil, by simp, .one (.leaf (.nil e size)), .nil⟩
  · rename_i sz' xs
    split at hc
    · rename_i hcond
      injection hc with hc
      subst hc
      simp only [Bool.and_eq_true, beq_iff_eq, Nat.ble_eq] at hcond
      obtain ⟨rfl, hlim⟩ := hcond
      obtain ⟨u, rfl, hu⟩ := one_arg ha
      have := hu.rep rfl
      cases this with
      | sl a c _ _ vs hcap hz hp hr hv =>
        cases a with
        | none =>
          have hxs : xs = [] := by
            cases xs with
            | nil => rfl
            | cons x r =>
              have hx := hz x (List.mem_cons_self)
              obtain ⟨g, o, hg, _⟩ := hr 0 x 0 x[0] rfl (List.getElem?_eq_getElem (by omega))
              cases hg
          subst hxs
          refine (h2 _ c w).mono fun e1 w' ⟨he, hw⟩ => ⟨_, he, ?_⟩
          subst hw
          exact ⟨Kept.refl _ _, [], [], List.nodup_nil, by simp, .one (.leaf (.nil e sz')), .nil⟩
        | some x =>
          have hget : ∀ k, k < xs.length * sz' → ∃ y p, xs[k / sz']? = some y ∧ y[k % sz']? = some p := fun k hk => by
            have hi : k / sz' < xs.length := Nat.div_lt_of_lt_mul (by rw [Nat.mul_comm]; exact hk)
            have hy := List.getElem?_eq_getElem hi
            refine ⟨_, _, hy, List.getElem?_eq_getElem ?_⟩
            rw [hz _ (List.mem_of_getElem? hy)]
            exact Nat.mod_lt _ hsz
          have hnews : ∀ k, k < xs.length * sz' → ((List.range (xs.length * sz')).map fun k => vs (k / sz') (k % sz'))[k]? = some (vs (k / sz') (k % sz')) := fun k hk => by simp [hk]
          refine (h1 x xs.length c ((List.range (xs.length * sz')).map fun k => vs (k / sz') (k % sz')) w (by simp) (by unfold maxLen; rw [Nat.mul_succ] at hlim; omega) (by rw [Nat.mul_succ] at hlim; omega) (fun j u hj => ?_) (fun u hu => ?_)).mono fun e1 w' ⟨v', he, hown, hbel⟩ => ⟨v', he, ?_⟩
          · have hjl : j < xs.length * sz' := by have := (List.getElem?_eq_some_iff.1 hj).1; simpa using this
            rw [hnews j hjl] at hj
            injection hj with hj
            subst hj
            obtain ⟨y, p, hy, hpp⟩ := hget j hjl
            obtain ⟨g, o, hg, _, hcell⟩ := hr _ y _ p hy hpp
            injection hg with hg
            subst hg
            rw [add_off]
            rw [show j / sz' * sz' + j % sz' = j by rw [Nat.mul_comm]; exact Nat.div_add_mod j sz'] at hcell
            exact hcell
          · obtain ⟨k, hk, rfl⟩ := List.mem_map.1 hu
            obtain ⟨y, p, hy, hpp⟩ := hget k (by simpa using hk)
            exact ((hv _ y _ p hy hpp).one (hp y (List.mem_of_getElem? hy) p (List.mem_of_getElem? hpp))).1
          · obtain ⟨_, ⟨rfl, hn⟩ | ⟨g, cap, cur, rfl, hge, hheap, hnc, hcl, hcur, htake⟩⟩ := hown
            · have hxs : xs = [] := List.length_eq_zero_iff.1 hn
              subst hxs
              exact ⟨(kept_of hbel), [], [], List.nodup_nil, by simp, .one (.leaf (.nil e sz')), .nil⟩
            · have hb1 : ∀ k ∈ [g] ++ ([] : List Nat), w.heap.size ≤ k := fun k hk => by simp at hk; subst hk; exact hge
              refine ⟨(kept_of hbel), [g], [], by simp, hb1, .one (.leaf (.nr (.inr ⟨g, cap, cur, (0, 0), rfl, hheap, hnc, by rw [hcur]; exact Nat.le_refl _, noFz_zero _, hz, hp, fun i y j p hy hpp => ?_⟩))), .nil⟩
              have hi := (List.getElem?_eq_some_iff.1 hy).1
              have hj : j < sz' := by rw [← hz y (List.mem_of_getElem? hy)]; exact (List.getElem?_eq_some_iff.1 hpp).1
              have hij := mul_lt hi hj
              refine ⟨vs i j, ?_, (hv i y j p hy hpp).mono (mono_okB hok hbel hb1)⟩
              have h3 := hnews (i * sz' + j) hij
              rw [← htake, List.getElem?_take_of_lt hij] at h3
              have e1 : (i * sz' + j) / sz' = i := by rw [Nat.mul_comm, Nat.mul_add_div hsz, Nat.div_eq_of_lt hj, Nat.add_zero]
              have e2 : (i * sz' + j) % sz' = j := by rw [Nat.mul_comm, Nat.mul_add_mod, Nat.mod_eq_of_lt hj]
              rw [e1, e2] at h3
              simpa using h3
    · cases hc
  · cases hc

/-! ### a law -/
theorem law_calls {E : Env} (hE : EnvOK E) {k : Nat} {f : FuncId} {args : List PV} {w : World} {vs : Array Value} (h : den E k f args [] = some (.bool true, [])) (ha : ArgsOk w (fun k => k < w.heap.size) (Gl w (fun k => k < w.heap.size) []) vs args) :
    Calls E.P f vs w fun e w' => e = .returned (.bool true) ∧ Below w.heap.size w w' := by
  refine ((((den_sim hE k).call f args [] _ _ h).2 w vs [] (fun k => k < w.heap.size) (fun k hk => ⟨hk, by simp⟩) ⟨rfl, List.nodup_nil, by simp⟩ ha)).mono fun e w' ⟨v, he, hk, bs, bss, _, _, hx, _⟩ => ?_
  exact ⟨by rw [he, hx.bool], below_of hk⟩
theorem arg_int {w : World} {ok G} (k : IntKind) (n : Int) : RepS w ok G (.int k n) (.int k n) := .leaf (.pl (.int k n) rfl)
theorem arg_bool {w : World} {ok G} (b : Bool) : RepS w ok G (.bool b) (.bool b) := .leaf (.pl (.bool b) rfl)
theorem arg_str {w : World} {ok G} (s : ByteArray) : RepS w ok G (.string s) (.str s.data.toList) := .leaf (.pl (.str s) rfl)
/-- a slice of integers -/
def rowOf (k : IntKind) (zs : List Int) : PV := .sl 1 (zs.map fun z => [.int k z])
theorem arg_row {w : World} {G} {k : IntKind} {a : Option Addr} {len cap : Nat} {zs : List Int}
    (h : (a = none ∧ len = 0 ∧ cap = 0 ∧ zs = []) ∨ ∃ x, a = some x ∧ len ≤ cap ∧ cap ≤ maxLen ∧ zs.length = cap ∧ (∀ i, i < zs.length → w.cell? (x.add i) = some (.int k (zs.getD i 0))) ∧ ∀ n ∈ zs, (Lit.int k n).wf = true) :
    RepS w (fun k => k < w.heap.size) G (.slice a len cap) (rowOf k (zs.take len)) := by
  refine .leaf (.pl ?_ rfl)
  unfold rowOf
  have hlen : ((zs.take len).map fun z => [PV.int k z]).length = len := by
    rcases h with ⟨_, rfl, _, rfl⟩ | ⟨x, _, h1, _, h3, _⟩
    · rfl
    · simp; omega
  have hmem : ∀ x ∈ (zs.take len).map (fun z => [PV.int k z]), ∃ z, x = [.int k z] := fun x hx => by
    obtain ⟨z, _, rfl⟩ := List.mem_map.1 hx
    exact ⟨z, rfl⟩
  have base : Rep w (fun k => k < w.heap.size) (.slice a ((zs.take len).map fun z => [PV.int k z]).length cap) (.sl 1 ((zs.take len).map fun z => [.int k z])) := by
    refine .sl a cap 1 _ (fun i _ => .int k (zs.getD i 0)) ?_ (fun x hx => by obtain ⟨z, rfl⟩ := hmem x hx; rfl) (fun x hx p hp => by obtain ⟨z, rfl⟩ := hmem x hx; simp at hp; subst hp; rfl) (fun i x j p hx hp => ?_) (fun i x j p hx hp => ?_)
    · rcases h with ⟨_, rfl, rfl, rfl⟩ | ⟨x, _, h1, _, h3, _⟩
      · simp
      · rw [hlen]; exact h1
    · rcases h with ⟨_, rfl, _, rfl⟩ | ⟨y, rfl, h1, _, h3, h4, _⟩
      · simp at hx
      · have hi : i < len := by have := (List.getElem?_eq_some_iff.1 hx).1; rw [hlen] at this; exact this
        have hj : j = 0 := by
          obtain ⟨z, rfl⟩ := hmem x (List.mem_of_getElem? hx)
          cases j with
          | zero => rfl
          | succ j => simp at hp
        subst hj
        have hc := h4 i (by omega)
        have hs := World.cell?_spot (h4 0 (by omega))
        obtain ⟨g, o, s⟩ := y
        have hsn : s = none := by
          simpa [Addr.add] using hs
        subst hsn
        rw [add_off] at hc
        exact ⟨g, o, rfl, cell_lt hc, by simpa using hc⟩
    · have hxz : zs[i]? = some (zs.getD i 0) ∧ x = [.int k (zs.getD i 0)] := by
        rw [List.getElem?_map, Option.map_eq_some_iff] at hx
        obtain ⟨z, hz, rfl⟩ := hx
        rw [List.getElem?_take] at hz
        split at hz
        · have : zs.getD i 0 = z := by simp [List.getD_eq_getElem?_getD, hz]
          rw [this]; exact ⟨hz, rfl⟩
        · cases hz
      obtain ⟨_, rfl⟩ := hxz
      cases j with
      | zero => simp at hp; subst hp; exact .int ..
      | succ j => simp at hp
  rw [hlen] at base
  exact base

/-! ### a masked number -/
theorem masked (P : Program) (n : Int) : ∃ m : Nat, m < 256 ∧ Masked P (.int .i64 m) (.int .i64 n) := by
  let X : BitVec 64 := BitVec.ofInt 64 n &&& 255#64
  have hX : X &&& 255#64 = X := by
    show (BitVec.ofInt 64 n &&& 255#64) &&& 255#64 = _
    rw [BitVec.and_assoc, BitVec.and_self]
  have hlt : X.toNat < 256 := by
    show (BitVec.ofInt 64 n &&& 255#64).toNat < 256
    rw [BitVec.toNat_and]
    exact Nat.lt_of_le_of_lt Nat.and_le_right (by decide)
  refine ⟨X.toNat, hlt, fun t k => ?_⟩
  have h1 : BitVec.ofInt 64 (X.toNat : Int) = X := by simp
  have h2 : BitVec.ofInt 64 255 = 255#64 := by decide
  have key : BitVec.ofInt 64 (X.toNat : Int) &&& BitVec.ofInt 64 255 = BitVec.ofInt 64 n &&& BitVec.ofInt 64 255 := by rw [h1, h2, hX]
  have key2 : binInt .and .i64 (X.toNat : Int) 255 = binInt .and .i64 n 255 := by
    show some (PV.int .i64 (IntKind.i64.wrap (BitVec.ofInt 64 (X.toNat : Int) &&& BitVec.ofInt 64 255).toNat)) = some (PV.int .i64 (IntKind.i64.wrap (BitVec.ofInt 64 n &&& BitVec.ofInt 64 255).toNat))
    rw [key]
  simp only [evBin, key2]

/-! ### what the kernel is asked -/
def infoOK (P : Program) (e size bytes : Nat) : Bool := match P.info? e with | some i => (match i.zero with | some z => i.size == size && i.bytes == bytes && z.cells.size == size | none => false) | none => false
theorem info_of {P : Program} {e size bytes : Nat} (h : infoOK P e size bytes = true) : ∃ i0 z, P.info? e = some i0 ∧ i0.zero = some z ∧ i0.size = size ∧ i0.bytes = bytes ∧ z.cells.size = size ∧ ∀ w, (Go.sizeOf e).run P w = .ok size w := by
  unfold infoOK at h
  split at h
  · rename_i i hi
    split at h
    · rename_i z hz
      simp only [Bool.and_eq_true, beq_iff_eq] at h
      exact ⟨i, z, hi, hz, h.1.1, h.1.2, h.2, fun w => run_sizeOf' (by simp [tSize, hi, h.1.1]) w⟩
    · cases h
  · cases h
def fnOK (fn : Func) : Bool := !(fn.name == "runtime.NumGoroutine") && match fn.body with | some c => dstOK fn.ntmps c | none => false
theorem fn_of {P : Program} {f : FuncId} {fn : Func} (h1 : P.funcs[f]? = some fn) (h : fnOK fn = true) : P.funcs[f]? = some fn ∧ fn.name ≠ "runtime.NumGoroutine" ∧ ∃ c, fn.body = some c ∧ dstOK fn.ntmps c = true := by
  unfold fnOK at h
  simp only [Bool.and_eq_true, Bool.not_eq_true', beq_eq_false_iff_ne] at h
  obtain ⟨h2, h3⟩ := h
  split at h3
  · rename_i c hc
    exact ⟨h1, h2, c, hc, h3⟩
  · cases h3
theorem entered_of {P : Program} {f : FuncId} {fn : Func} (h1 : P.funcs[f]? = some fn) (h : fnOK fn = true) : Entered P f := by
  obtain ⟨a, b, c, d, _⟩ := fn_of h1 h
  exact ⟨fn, a, b, by simp [d]⟩
def tFn (T : List Nat) (lv : Nat → List NI) (fn : Func) : Bool := match fn.body with | some c => tC T lv c && fn.results.all (tRes T) && T.contains 0 | none => false
def saysTrue (x : Option (PV × List (List PV))) : Bool := match x with | some (.bool true, []) => true | _ => false
theorem says_true {x : Option (PV × List (List PV))} (h : saysTrue x = true) : x = some (.bool true, []) := by
  unfold saysTrue at h
  split at h
  · rfl
  · cases h
/-- A law of one masked number. -/
theorem forms_calls {E : Env} (hE : EnvOK E) (T : List Nat) {k : Nat} {f : FuncId} {fn : Func} (hf : E.fns f = some fn) (ht : tFn T (E.lv f) fn = true) (h : ((List.range 256).all fun m => saysTrue (den E k f [.int .i64 m] [])) = true) (a : Int) (w : World) :
    Calls E.P f #[.int .i64 a] w fun e w' => e = .returned (.bool true) ∧ Below w.heap.size w w' := by
  obtain ⟨m, hm, hM⟩ := masked E.P a
  have h1 := says_true (List.all_eq_true.1 h m (by simpa using hm))
  unfold tFn at ht
  split at ht
  · rename_i c hc
    simp only [Bool.and_eq_true] at ht
    have h2 := den_tw rfl rfl hM hf hc ht.1.1 ht.1.2 (by simpa using ht.2) h1
    refine law_calls hE h2 ⟨rfl, fun j v p hv hp => ?_⟩
    cases j with
    | zero => simp at hv hp; subst hv; subst hp; exact arg_int ..
    | succ j => simp at hv
  · cases ht

noncomputable def blk (E : Env) (k : Nat) (f : FuncId) (B i : Nat) : Bool := (List.range' (B * i) B).all fun m => saysTrue (den E k f [.int .i64 m] [])
theorem forms_blocks {E : Env} (hE : EnvOK E) (T : List Nat) {k : Nat} {f : FuncId} {fn : Func} (hf : E.fns f = some fn) (ht : tFn T (E.lv f) fn = true) (B : Nat) (hB : 256 % B = 0 ∧ 0 < B) (h : ∀ i, i < 256 / B → blk E k f B i = true) (a : Int) (w : World) :
    Calls E.P f #[.int .i64 a] w fun e w' => e = .returned (.bool true) ∧ Below w.heap.size w w' := by
  refine forms_calls (k := k) hE T hf ht (List.all_eq_true.2 fun m hm => ?_) a w
  have hm : m < 256 := by simpa using hm
  have hi : m / B < 256 / B := by
    rw [Nat.div_lt_iff_lt_mul hB.2]
    have := Nat.div_add_mod 256 B
    rw [hB.1, Nat.add_zero, Nat.mul_comm] at this
    omega
  have := List.all_eq_true.1 (h _ hi) m ?_
  · exact this
  · rw [List.mem_range'_1]
    have h1 := Nat.div_add_mod m B
    have h2 := Nat.mod_lt m hB.2
    omega
end Go.Den

/- Den, part Zb: an argument of which no more is looked at than what its last eight bits leave when divided. -/
namespace Go.Den
open Go.RowKit

/-- The same, but for slots of T1, which may hold a here and b there, and slots of T2: a1 and b1. -/
structure Tw2 (T1 T2 : List Nat) (a b a1 b1 : PV) (S S' : St) : Prop where
  mem : S.mem = S'.mem
  ep : S.ep = S'.ep
  sl : ∀ t, S.slot t = S'.slot t ∨ (t ∈ T1 ∧ S.slot t = some a ∧ S'.slot t = some b) ∨ (t ∈ T2 ∧ S.slot t = some a1 ∧ S'.slot t = some b1)
def inT (T : List Nat) (d : Option Tmp) : Bool := match d with | some d => T.contains d | none => false
def tOp2 (T1 T2 : List Nat) (o : Oper) : Bool :=
  (o.op.operands.toList.all (freeOf (T1 ++ T2))) ||
  match o.op with
  | .move (.tmp s) | .assign (.tmp s) => (!T1.contains s || inT T1 o.dst) && (!T2.contains s || inT T2 o.dst)
  | .binOp .and _ (.tmp s) (.const (.int _ n)) _ => n == 255 && !T2.contains s && inT T2 o.dst
  | .binOp .rem _ (.tmp s) y _ => !T1.contains s && freeOf (T1 ++ T2) y
  | _ => false
def chkRem (T2 : List Nat) (N : Int) (o : Oper) (g : Nat → Option PV) : Bool :=
  match o.op with
  | .binOp .rem _ (.tmp t) y _ => !T2.contains t || (match evOp g y with | some (.int .i64 n) => n == N | _ => false)
  | _ => true
def runOG (T2 : List Nat) (N : Int) (E : Env) (call : Call) (ops : Array Oper) : Nat → List Oper → St → Option (St × List Tr)
  | _, [], S => some (S, [])
  | i, o :: r, S =>
    match chkRem T2 N o S.slot with
    | false => none
    | true =>
      match stepO E call ops i o S with
      | none => none
      | some (S1, t) =>
        match runOG T2 N E call ops (i + 1) r S1 with
        | none => none
        | some (S2, ts) => some (S2, t :: ts)
def denCG (T2 : List Nat) (N : Int) (E : Env) (call : Call) (f : FuncId) (nl : Nat) (k : Nat) : Code → St → Option (Out × St)
  | .skip, S => some (.normal, S)
  | .region _ ops draw, S =>
    match runOG T2 N E call ops 0 ops.toList S with
    | none => none
    | some (S', tr) => if Nat.ble ops.size 524288 && (!draw || drawOK ops tr) then some (.normal, { S' with ep := S'.ep + 1 }) else none
  | .seq a b, S =>
    match denCG T2 N E call f nl k a S with
    | none => none
    | some (o, S1) => match o with | .normal => denCG T2 N E call f nl k b S1 | o => some (o, S1)
  | .cond c a b, S =>
    match evOp S.slot c with
    | some (.bool t) => (match t with | true => denCG T2 N E call f nl k a S | false => denCG T2 N E call f nl k b S)
    | _ => none
  | .block id b, S =>
    match denCG T2 N E call f nl k b S with
    | none => none
    | some (o, S1) => match o with | .exit id' => (if id' == id then some (.normal, S1) else some (.exit id', S1)) | o => some (o, S1)
  | .loop b, S => iter (fun S => norm nl S (E.lv f (firstRid b))) (denC E call f nl k b) k S
  | .exit id, S => some (.exit id, S)
  | .ret, S => some (.ret, S)
  | _, _ => none
def denG (T2 : List Nat) (N : Int) (E : Env) : Nat → Call
  | 0, _, _, _ => none
  | k + 1, f, args, lent =>
    match E.fns f with
    | none => none
    | some fn =>
      match fn.body, Nat.ble lent.length 64 with
      | none, _ | _, false => none
      | some c, true =>
        match denCG T2 N E (den E k) f lent.length k c (entry args lent) with
        | some (.normal, S) | some (.ret, S) => finish E.P fn lent.length S
        | _ => none
def tC2 (lv : Nat → List NI) (T1 T2 : List Nat) : Code → Bool
  | .region _ ops _ => ops.all (tOp2 T1 T2)
  | .seq x y => tC2 lv T1 T2 x && tC2 lv T1 T2 y
  | .cond _ x y => tC2 lv T1 T2 x && tC2 lv T1 T2 y
  | .block _ x => tC2 lv T1 T2 x
  | .loop b => (lv (firstRid b)).all fun n => !(T1 ++ T2).contains n.t
  | _ => true

structure Masks (P : Program) (N : Int) (a b a1 b1 : PV) : Prop where
  ia : isI a = true
  ib : isI b = true
  ia1 : isI a1 = true
  ib1 : isI b1 = true
  and : ∀ t k, evBin P .and t a (.int k 255) = evBin P .and t b (.int k 255) ∨ (evBin P .and t a (.int k 255) = some a1 ∧ evBin P .and t b (.int k 255) = some b1)
  rem : ∀ t, evBin P .rem t a1 (.int .i64 N) = evBin P .rem t b1 (.int .i64 N)

section
variable {E : Env} {call : Call} {T1 T2 : List Nat} {N : Int} {a b a1 b1 : PV} {S S' : St}
theorem Tw2.at_eq (h : Tw2 T1 T2 a b a1 b1 S S') : S.at = S'.at := by funext d; simp only [St.at, h.mem]
theorem Tw2.put (h : Tw2 T1 T2 a b a1 b1 S S') {dst : Option Tmp} {v v' : PV} {w : Wr} (hv : v = v' ∨ (inT T1 dst = true ∧ v = a ∧ v' = b) ∨ (inT T2 dst = true ∧ v = a1 ∧ v' = b1)) : Tw2 T1 T2 a b a1 b1 (S.put dst v w) (S'.put dst v' w) := by
  refine ⟨by simp only [St.put, h.mem], h.ep, fun t => ?_⟩
  cases dst with
  | none => exact h.sl t
  | some d =>
    have h1 : (S.put (some d) v w).slot t = upd S.slot d (some v) t := congrFun (get_cons d v S.sl) t
    have h2 : (S'.put (some d) v' w).slot t = upd S'.slot d (some v') t := congrFun (get_cons d v' S'.sl) t
    rw [h1, h2]
    simp only [upd]
    by_cases ht : t = d
    · subst ht
      simp only [if_true]
      rcases hv with rfl | ⟨h3, rfl, rfl⟩ | ⟨h3, rfl, rfl⟩
      · exact .inl rfl
      · exact .inr (.inl ⟨by simpa [inT] using h3, rfl, rfl⟩)
      · exact .inr (.inr ⟨by simpa [inT] using h3, rfl, rfl⟩)
    · simp only [if_neg ht]
      exact h.sl t
theorem isI_bool {v : PV} (h : isI v = true) (c : Bool) : v ≠ .bool c := by intro e; subst e; simp [isI] at h
theorem Tw2.wants (hM : Masks E.P N a b a1 b1) (h : Tw2 T1 T2 a b a1 b1 S S') (ops : Array Oper) (o : Oper) : wantsO ops o S = wantsO ops o S' := by
  unfold wantsO
  cases hg : o.guard with
  | none => rfl
  | some x =>
    obtain ⟨j, want⟩ := x
    simp only
    cases hq : ops[j]? with
    | none => rfl
    | some q =>
      simp only
      cases ht : q.dst with
      | none => rfl
      | some t =>
        simp only
        have int2 : ∀ {x y : PV}, isI x = true → isI y = true → (match some x with | some (.bool b) => some (b == want) | some .undef => some false | _ => (none : Option Bool)) = (match some y with | some (.bool b) => some (b == want) | some .undef => some false | _ => none) := fun {x y} hx hy => by
          cases x <;> cases y <;> first | rfl | (simp [isI] at hx; done) | (simp [isI] at hy; done)
        rcases h.sl t with h1 | ⟨_, h1, h2⟩ | ⟨_, h1, h2⟩
        · rw [h1]
        · rw [h1, h2]; exact int2 hM.ia hM.ib
        · rw [h1, h2]; exact int2 hM.ia1 hM.ib1
theorem step_tw2 (hM : Masks E.P N a b a1 b1) {ops : Array Oper} {i : Nat} {o : Oper} (ho : tOp2 T1 T2 o = true) (h : Tw2 T1 T2 a b a1 b1 S S') (hck : chkRem T2 N o S.slot = true) {S1 : St} {t : Tr} (hs : stepO E call ops i o S = some (S1, t)) :
    ∃ S1', stepO E call ops i o S' = some (S1', t) ∧ Tw2 T1 T2 a b a1 b1 S1 S1' := by
  unfold stepO at hs ⊢
  rw [← h.wants hM]
  split at hs
  · cases hs
  · injection hs with hs
    injection hs with h1 h2
    subst h1; subst h2
    exact ⟨_, rfl, h.put (.inl rfl)⟩
  · rw [← h.ep, ← h.at_eq]
    have same : opSem E call (S.ep * 33554432 + i * 64) S.slot o.op = opSem E call (S.ep * 33554432 + i * 64) S'.slot o.op →
        ∃ S1', (match (opSem E call (S.ep * 33554432 + i * 64) S'.slot o.op).run S.at with | some ((v, w), rc, ro) => some (S'.put o.dst v w, (⟨rc, ro, wrHard w, wrSoft w⟩ : Tr)) | none => none) = some (S1', t) ∧ Tw2 T1 T2 a b a1 b1 S1 S1' := fun he => by
      rw [← he]
      split at hs
      · rename_i hrun
        injection hs with hs
        injection hs with h1 h2
        subst h1; subst h2
        rw [hrun]
        exact ⟨_, rfl, h.put (.inl rfl)⟩
      · cases hs
    have differ : ∀ v v', opSem E call (S.ep * 33554432 + i * 64) S.slot o.op = .ret (v, []) → opSem E call (S.ep * 33554432 + i * 64) S'.slot o.op = .ret (v', []) → ((inT T1 o.dst = true ∧ v = a ∧ v' = b) ∨ (inT T2 o.dst = true ∧ v = a1 ∧ v' = b1)) →
        ∃ S1', (match (opSem E call (S.ep * 33554432 + i * 64) S'.slot o.op).run S.at with | some ((v, w), rc, ro) => some (S'.put o.dst v w, (⟨rc, ro, wrHard w, wrSoft w⟩ : Tr)) | none => none) = some (S1', t) ∧ Tw2 T1 T2 a b a1 b1 S1 S1' := fun v v' e1 e2 hv => by
      rw [e1] at hs
      rw [e2]
      simp only [RM.run] at hs ⊢
      injection hs with hs
      injection hs with h3 h4
      subst h3; subst h4
      exact ⟨_, rfl, h.put (.inr hv)⟩
    have free : ∀ x, freeOf (T1 ++ T2) x = true → evOp S.slot x = evOp S'.slot x := fun x hx => evOp_congr fun t ht => by
      subst ht
      have hn : t ∉ T1 ∧ t ∉ T2 := by simpa [freeOf, not_or] using hx
      rcases h.sl t with h1 | ⟨h1, _⟩ | ⟨h1, _⟩
      · exact h1
      · exact absurd h1 hn.1
      · exact absurd h1 hn.2
    unfold tOp2 at ho
    rw [Bool.or_eq_true] at ho
    rcases ho with ho | ho
    · refine same (opSem_congr fun t ht => ?_)
      exact free (.tmp t) (List.all_eq_true.1 ho (.tmp t) (by simpa using ht))
    · have mv : ∀ s, (∀ g, opSem E call (S.ep * 33554432 + i * 64) g o.op = retO (evOp g (.tmp s))) → ((!T1.contains s || inT T1 o.dst) && (!T2.contains s || inT T2 o.dst)) = true →
          ∃ S1', (match (opSem E call (S.ep * 33554432 + i * 64) S'.slot o.op).run S.at with | some ((v, w), rc, ro) => some (S'.put o.dst v w, (⟨rc, ro, wrHard w, wrSoft w⟩ : Tr)) | none => none) = some (S1', t) ∧ Tw2 T1 T2 a b a1 b1 S1 S1' := fun s e hd => by
        simp only [Bool.and_eq_true, Bool.or_eq_true, Bool.not_eq_true'] at hd
        rcases h.sl s with h1 | ⟨hm, h1, h2⟩ | ⟨hm, h1, h2⟩
        · exact same (by rw [e, e]; simp only [evOp, h1])
        · refine differ a b (by rw [e]; simp only [evOp, h1, retO]) (by rw [e]; simp only [evOp, h2, retO]) (.inl ⟨?_, rfl, rfl⟩)
          exact hd.1.resolve_left (by simp [hm])
        · refine differ a1 b1 (by rw [e]; simp only [evOp, h1, retO]) (by rw [e]; simp only [evOp, h2, retO]) (.inr ⟨?_, rfl, rfl⟩)
          exact hd.2.resolve_left (by simp [hm])
      split at ho
      · rename_i s hop
        exact mv s (fun g => by rw [hop]; rfl) ho
      · rename_i s hop
        exact mv s (fun g => by rw [hop]; rfl) ho
      · rename_i ty s k n ty2 hop
        simp only [Bool.and_eq_true, beq_iff_eq, Bool.not_eq_true'] at ho
        obtain ⟨⟨hn, hs2⟩, hd⟩ := ho
        subst hn
        have hs2 : s ∉ T2 := by simpa using hs2
        rcases h.sl s with h1 | ⟨_, h1, h2⟩ | ⟨hm, _⟩
        · refine same ?_
          rw [hop]
          simp only [opSem, evOp, h1]
        · rcases hM.and ty k with h3 | ⟨h3, h4⟩
          · refine same ?_
            rw [hop]
            simp only [opSem, evOp, h1, h2, RM.of, RM.bind, constPV, h3]
          · refine differ a1 b1 (by rw [hop]; simp only [opSem, evOp, h1, RM.of, RM.bind, constPV, h3, retO]) (by rw [hop]; simp only [opSem, evOp, h2, RM.of, RM.bind, constPV, h4, retO]) (.inr ⟨hd, rfl, rfl⟩)
        · exact absurd hm hs2
      · rename_i ty s y ty2 hop
        simp only [Bool.and_eq_true, Bool.not_eq_true'] at ho
        have hs1 : s ∉ T1 := by simpa using ho.1
        have hy := free y ho.2
        refine same ?_
        rw [hop]
        rcases h.sl s with h1 | ⟨hm, _⟩ | ⟨hm, h1, h2⟩
        · simp only [opSem, hy]
          simp only [evOp, h1]
        · exact absurd hm hs1
        · unfold chkRem at hck
          rw [hop] at hck
          simp only [Bool.or_eq_true, Bool.not_eq_true'] at hck
          rcases hck with hck | hck
          · exact absurd hm (by simpa using hck)
          · split at hck
            · rename_i n hn
              have hn' : n = N := by simpa using hck
              subst hn'
              simp only [opSem, ← hy, hn]
              simp only [evOp, h1, h2, RM.of, RM.bind, hM.rem ty]
            · cases hck
      · cases ho
theorem run_tw2 (hM : Masks E.P N a b a1 b1) {ops : Array Oper} : ∀ {l : List Oper} {i : Nat} {S S' : St}, (∀ o ∈ l, tOp2 T1 T2 o = true) → Tw2 T1 T2 a b a1 b1 S S' → ∀ {S1 : St} {ts : List Tr}, runOG T2 N E call ops i l S = some (S1, ts) → ∃ S1', runO E call ops i l S' = some (S1', ts) ∧ Tw2 T1 T2 a b a1 b1 S1 S1'
  | [], i, S, S', _, h, S1, ts, hr => by
    simp only [runOG, Option.some.injEq, Prod.mk.injEq] at hr
    obtain ⟨rfl, rfl⟩ := hr
    exact ⟨S', rfl, h⟩
  | o :: r, i, S, S', ho, h, S1, ts, hr => by
    simp only [runOG] at hr
    simp only [runO]
    split at hr
    · cases hr
    · rename_i hck
      split at hr
      · cases hr
      · rename_i S2 t hst
        obtain ⟨S2', e2, h2⟩ := step_tw2 hM (ho o (List.mem_cons_self)) h hck hst
        split at hr
        · cases hr
        · rename_i S3 ts' hr'
          simp only [Option.some.injEq, Prod.mk.injEq] at hr
          obtain ⟨rfl, rfl⟩ := hr
          obtain ⟨S3', e3, h3⟩ := run_tw2 hM (fun o ho' => ho o (List.mem_cons_of_mem _ ho')) h2 hr'
          exact ⟨S3', by simp [e2, e3], h3⟩
theorem normLeaf_at {S S' : St} (h : S.at = S'.at) (dup t j row v) : normLeaf S dup t j row v = normLeaf S' dup t j row v := by unfold normLeaf; rw [h]
theorem normLeafs_at {S S' : St} (h : S.at = S'.at) (dup t rows) : ∀ (l : List PV) (j : Nat), normLeafs S dup t rows j l = normLeafs S' dup t rows j l := fun l => by
  induction l with
  | nil => intro _; rfl
  | cons x r ih => intro j; simp only [normLeafs, normLeaf_at h, ih]
theorem normI_at {S S' : St} (h : S.at = S'.at) (dup) {n : NI} (hs : S.slot n.t = S'.slot n.t) : normI S dup n = normI S' dup n := by
  unfold normI
  rw [hs]
  simp only [h, normLeaf_at h, normLeafs_at h]
theorem normL_at {S S' : St} (h : S.at = S'.at) (dup) : ∀ (L : List NI), (∀ n ∈ L, S.slot n.t = S'.slot n.t) → normL S dup L = normL S' dup L := fun L => by
  induction L with
  | nil => intro _; rfl
  | cons x r ih => intro hs; simp only [normL, normI_at h dup (hs x List.mem_cons_self), ih fun n hn => hs n (List.mem_cons_of_mem _ hn)]
theorem normLent_at {S S' : St} (h : S.at = S'.at) : ∀ n, normLent S n = normLent S' n := fun n => by
  induction n with
  | zero => rfl
  | succ n ih => simp only [normLent, h, ih]
theorem heldP_at (S S' : St) : ∀ l, heldP S l = heldP S' l
  | [] => rfl
  | v :: r => by cases v <;> simp only [heldP, heldP_at S S' r]
theorem held_at {S S' : St} (h : S.at = S'.at) {L : List NI} (hs : ∀ n ∈ L, S.slot n.t = S'.slot n.t) : L.flatMap (heldI S) = L.flatMap (heldI S') := by
  induction L with
  | nil => rfl
  | cons x r ih =>
    have h1 : heldI S x = heldI S' x := by unfold heldI; rw [hs x List.mem_cons_self]; simp only [h, heldP_at S S']
    simp only [List.flatMap_cons, h1, ih fun n hn => hs n (List.mem_cons_of_mem _ hn)]
theorem norm_at {S S' : St} (h : S.at = S'.at) {L : List NI} (hs : ∀ n ∈ L, S.slot n.t = S'.slot n.t) (n : Nat) : norm n S L = norm n S' L := by
  unfold norm
  simp only [held_at h hs, normL_at h _ L hs, normLent_at h]
theorem iter_at {n : St → Option St} {b : St → Option (Out × St)} {S S' : St} (h : n S = n S') (k : Nat) : iter n b k S = iter n b k S' := by
  cases k with
  | zero => rfl
  | succ k => simp only [iter, h]
theorem code_tw2 (hM : Masks E.P N a b a1 b1) {f : FuncId} {nl k : Nat} : ∀ (c : Code), tC2 (E.lv f) T1 T2 c = true → ∀ {S S' : St}, Tw2 T1 T2 a b a1 b1 S S' → ∀ {o : Out} {S1 : St}, denCG T2 N E call f nl k c S = some (o, S1) → ∃ S1', denC E call f nl k c S' = some (o, S1') ∧ Tw2 T1 T2 a b a1 b1 S1 S1' := by
  intro c
  induction c with
  | skip =>
    intro _ S S' h o S1 hr
    simp only [denCG, Option.some.injEq, Prod.mk.injEq] at hr
    obtain ⟨rfl, rfl⟩ := hr
    exact ⟨S', rfl, h⟩
  | exit id =>
    intro _ S S' h o S1 hr
    simp only [denCG, Option.some.injEq, Prod.mk.injEq] at hr
    obtain ⟨rfl, rfl⟩ := hr
    exact ⟨S', rfl, h⟩
  | ret =>
    intro _ S S' h o S1 hr
    simp only [denCG, Option.some.injEq, Prod.mk.injEq] at hr
    obtain ⟨rfl, rfl⟩ := hr
    exact ⟨S', rfl, h⟩
  | region id ops draw =>
    intro hc S S' h o S1 hr
    simp only [denCG] at hr
    simp only [denC]
    simp only [tC2] at hc
    split at hr
    · cases hr
    · rename_i S2 ts hrun
      obtain ⟨S2', e2, h2⟩ := run_tw2 hM (fun o ho => by
        rw [Array.all_eq_true_iff_forall_mem] at hc
        exact hc o (by simpa using ho)) h hrun
      split at hr
      · rename_i hok
        simp only [Option.some.injEq, Prod.mk.injEq] at hr
        obtain ⟨rfl, rfl⟩ := hr
        simp only [e2, hok, if_true]
        exact ⟨_, rfl, h2.mem, by simp only [h2.ep], h2.sl⟩
      · cases hr
  | seq x y ihx ihy =>
    intro hc S S' h o S1 hr
    simp only [denCG] at hr
    simp only [denC]
    simp only [tC2, Bool.and_eq_true] at hc
    split at hr
    · cases hr
    · rename_i o1 S2 hx
      obtain ⟨S2', e2, h2⟩ := ihx hc.1 h hx
      rw [e2]
      cases o1 with
      | normal => exact ihy hc.2 h2 hr
      | exit id =>
        simp only [Option.some.injEq, Prod.mk.injEq] at hr
        obtain ⟨rfl, rfl⟩ := hr
        exact ⟨S2', rfl, h2⟩
      | ret =>
        simp only [Option.some.injEq, Prod.mk.injEq] at hr
        obtain ⟨rfl, rfl⟩ := hr
        exact ⟨S2', rfl, h2⟩
  | cond c x y ihx ihy =>
    intro hc S S' h o S1 hr
    simp only [denCG] at hr
    simp only [denC]
    simp only [tC2, Bool.and_eq_true] at hc
    have hev : evOp S.slot c = evOp S'.slot c ∨ ∃ v, isI v = true ∧ evOp S.slot c = some v := by
      cases c with
      | tmp t =>
        rcases h.sl t with h1 | ⟨_, h1, _⟩ | ⟨_, h1, _⟩
        · exact .inl h1
        · exact .inr ⟨a, hM.ia, h1⟩
        · exact .inr ⟨a1, hM.ia1, h1⟩
      | _ => exact .inl rfl
    rcases hev with he | ⟨v, hv, he⟩
    · rw [← he]
      split at hr
      · rename_i t ht
        rw [ht]
        cases t with
        | true => exact ihx hc.1 h hr
        | false => exact ihy hc.2 h hr
      · cases hr
    · rw [he] at hr
      cases v <;> first | (simp [isI] at hv; done) | (simp at hr; done)
  | block id x ihx =>
    intro hc S S' h o S1 hr
    simp only [denCG] at hr
    simp only [denC]
    simp only [tC2] at hc
    split at hr
    · cases hr
    · rename_i o1 S2 hx
      obtain ⟨S2', e2, h2⟩ := ihx hc h hx
      rw [e2]
      cases o1 with
      | normal =>
        simp only [Option.some.injEq, Prod.mk.injEq] at hr
        obtain ⟨rfl, rfl⟩ := hr
        exact ⟨S2', rfl, h2⟩
      | ret =>
        simp only [Option.some.injEq, Prod.mk.injEq] at hr
        obtain ⟨rfl, rfl⟩ := hr
        exact ⟨S2', rfl, h2⟩
      | exit id' =>
        simp only at hr ⊢
        split at hr
        · rename_i hid
          simp only [Option.some.injEq, Prod.mk.injEq] at hr
          obtain ⟨rfl, rfl⟩ := hr
          simp only [hid, if_true]
          exact ⟨S2', rfl, h2⟩
        · rename_i hid
          simp only [Option.some.injEq, Prod.mk.injEq] at hr
          obtain ⟨rfl, rfl⟩ := hr
          simp only [hid]
          exact ⟨S2', rfl, h2⟩
  | loop b _ =>
    intro hc S S' h o S1 hr
    simp only [denCG] at hr
    simp only [denC]
    simp only [tC2, List.all_eq_true, Bool.not_eq_true', List.contains_eq_mem, decide_eq_false_iff_not, List.mem_append, not_or] at hc
    have hn : ∀ n ∈ E.lv f (firstRid b), S.slot n.t = S'.slot n.t := fun n hn => by
      have h2 := hc n hn
      rcases h.sl n.t with h1 | ⟨h1, _⟩ | ⟨h1, _⟩
      · exact h1
      · exact absurd h1 h2.1
      · exact absurd h1 h2.2
    refine ⟨S1, ?_, rfl, rfl, fun t => .inl rfl⟩
    rw [← hr]
    exact iter_at (norm_at h.at_eq.symm (fun n hn' => (hn n hn').symm) nl) k
  | _ => intro _ S S' _ o S1 hr; simp [denCG] at hr
theorem finish_tw2 (h : Tw2 T1 T2 a b a1 b1 S S') {fn : Func} {n : Nat} (hr : ∀ x ∈ fn.results, tRes (T1 ++ T2) x = true) : finish E.P fn n S = finish E.P fn n S' := by
  have hat := h.at_eq
  have free : ∀ t, t ∉ T1 ++ T2 → S.slot t = S'.slot t := fun t ht => by
    simp only [List.mem_append, not_or] at ht
    rcases h.sl t with h1 | ⟨h1, _⟩ | ⟨h1, _⟩
    · exact h1
    · exact absurd h1 ht.1
    · exact absurd h1 ht.2
  have h1 : ∀ (l : List ResultVar), (∀ x ∈ l, tRes (T1 ++ T2) x = true) → resOs E.P S l = resOs E.P S' l := fun l => by
    induction l with
    | nil => intro _; rfl
    | cons x r ih =>
      intro hl
      have hx : resO E.P S x = resO E.P S' x := by
        have := hl x (List.mem_cons_self)
        cases x with
        | tmp t =>
          have ht : t ∉ T1 ++ T2 := by simpa [tRes] using this
          exact free t ht
        | cell t ty =>
          have ht : t ∉ T1 ++ T2 := by simpa [tRes] using this
          simp only [resO, free t ht, hat]
      simp only [resOs, hx, ih fun y hy => hl y (List.mem_cons_of_mem _ hy)]
  unfold finish
  rw [h1 _ fun x hx => hr x (by simpa using hx)]
  simp only [expVs_at hat, expB_at hat]
end
theorem den_tw2 {E : Env} {T1 T2 : List Nat} {N : Int} {a b a1 b1 : PV} (hM : Masks E.P N a b a1 b1) {f : FuncId} {fn : Func} {c : Code} (hf : E.fns f = some fn) (hc : fn.body = some c) (ht : tC2 (E.lv f) T1 T2 c = true) (hr : fn.results.all (tRes (T1 ++ T2)) = true) (h0 : 0 ∈ T1) {k : Nat} {r} (h : denG T2 N E k f [a] [] = some r) : den E k f [b] [] = some r := by
  cases k with
  | zero => simp [denG] at h
  | succ k =>
    simp only [denG, hf, hc] at h
    have hgoal : den E (k + 1) f [b] [] = (match denC E (den E k) f 0 k c (entry [b] []) with | some (.normal, S) | some (.ret, S) => finish E.P fn 0 S | _ => none) := by
      simp only [den, hf, hc]
      rfl
    rw [hgoal]
    have hr' : ∀ x ∈ fn.results, tRes (T1 ++ T2) x = true := by rw [Array.all_eq_true_iff_forall_mem] at hr; exact hr
    have h1 : Tw2 T1 T2 a b a1 b1 (entry [a] []) (entry [b] []) := ⟨rfl, rfl, fun t => by
      have e1 : (entry [a] []).slot t = upd (get []) 0 (some a) t := congrFun (get_cons 0 a []) t
      have e2 : (entry [b] []).slot t = upd (get []) 0 (some b) t := congrFun (get_cons 0 b []) t
      rw [e1, e2]
      simp only [upd]
      by_cases ht : t = 0
      · subst ht; exact .inr (.inl ⟨h0, by simp⟩)
      · simp only [if_neg ht]; exact .inl trivial⟩
    split at h
    · cases h
    · cases h
    · rename_i c' hc' hl
      injection hc' with hc'
      subst hc'
      split at h
      · rename_i S1 hd
        obtain ⟨S1', e, h2⟩ := code_tw2 hM c ht h1 hd
        have e : denC E (den E k) f 0 k c (entry [b] []) = _ := e
        rw [e]
        exact (finish_tw2 (E := E) h2 hr').symm.trans h
      · rename_i S1 hd
        obtain ⟨S1', e, h2⟩ := code_tw2 hM c ht h1 hd
        have e : denC E (den E k) f 0 k c (entry [b] []) = _ := e
        rw [e]
        exact (finish_tw2 (E := E) h2 hr').symm.trans h
      · cases h

theorem masks (P : Program) (N : Nat) (hN : 0 < N ∧ N ≤ 256) (n : Int) : ∃ m : Nat, m < N ∧ ∃ b1, Masks P N (.int .i64 m) (.int .i64 n) (.int .i64 m) b1 := by
  let X : BitVec 64 := BitVec.ofInt 64 n &&& 255#64
  have hlt : X.toNat < 256 := by
    show (BitVec.ofInt 64 n &&& 255#64).toNat < 256
    rw [BitVec.toNat_and]
    exact Nat.lt_of_le_of_lt Nat.and_le_right (by decide)
  have hm : X.toNat % N < N := Nat.mod_lt _ hN.1
  have h255 : BitVec.ofInt 64 255 = 255#64 := by decide
  have small : ∀ m : Nat, m < 256 → IntKind.i64.wrap (m : Int) = m := fun m hm => IntWalk.i64_in _ (by omega)
  have and_small : ∀ m : Nat, m < 256 → (BitVec.ofInt 64 (m : Int) &&& 255#64).toNat = m := fun m hm => by
    rw [BitVec.toNat_and]
    have : (BitVec.ofInt 64 (m : Int)).toNat = m := by simp; omega
    rw [this]
    show m &&& 255 = m
    rw [show (255 : Nat) = 2 ^ 8 - 1 by decide, Nat.and_two_pow_sub_one_eq_mod]
    omega
  refine ⟨X.toNat % N, hm, .int .i64 X.toNat, rfl, rfl, rfl, rfl, fun t k => ?_, fun t => ?_⟩
  · by_cases hk : k = .i64
    · subst hk
      refine .inr ⟨?_, ?_⟩
      · show some (PV.int .i64 (IntKind.i64.wrap (BitVec.ofInt 64 ((X.toNat % N : Nat) : Int) &&& BitVec.ofInt 64 255).toNat)) = _
        rw [h255, and_small _ (by omega), small _ (by omega)]
      · show some (PV.int .i64 (IntKind.i64.wrap (BitVec.ofInt 64 n &&& BitVec.ofInt 64 255).toNat)) = _
        rw [h255]
        show some (PV.int .i64 (IntKind.i64.wrap (X.toNat : Int))) = _
        rw [small _ hlt]
    · refine .inl ?_
      have : ¬ (IntKind.i64 = k) := fun e => hk e.symm
      simp only [evBin, this, if_false]
  · have hne : ¬ ((N : Int) = 0) := by omega
    show (if (N : Int) = 0 then none else some (PV.int .i64 (((X.toNat % N : Nat) : Int).tmod N))) = if (N : Int) = 0 then none else some (PV.int .i64 ((X.toNat : Int).tmod N))
    rw [if_neg hne, if_neg hne]
    congr 2
    rw [← Int.ofNat_tmod, ← Int.ofNat_tmod, Nat.mod_mod]
def tFn2 (lv : Nat → List NI) (T1 T2 : List Nat) (fn : Func) : Bool := match fn.body with | some c => tC2 lv T1 T2 c && fn.results.all (tRes (T1 ++ T2)) && T1.contains 0 | none => false
/-- A law of one number, masked and divided by how many rows there are. -/
theorem rows_calls {E : Env} (hE : EnvOK E) (T1 T2 : List Nat) (N : Nat) (hN : 0 < N ∧ N ≤ 256) {k : Nat} {f : FuncId} {fn : Func} (hf : E.fns f = some fn) (ht : tFn2 (E.lv f) T1 T2 fn = true) (h : ∀ m, m < N → saysTrue (denG T2 N E k f [.int .i64 (m : Nat)] []) = true) (a : Int) (w : World) :
    Calls E.P f #[.int .i64 a] w fun e w' => e = .returned (.bool true) ∧ Below w.heap.size w w' := by
  obtain ⟨m, hm, b1, hM⟩ := masks E.P N hN a
  have h1 := says_true (h m hm)
  unfold tFn2 at ht
  split at ht
  · rename_i c hc
    simp only [Bool.and_eq_true] at ht
    have h2 := den_tw2 hM hf hc ht.1.1 ht.1.2 (by simpa using ht.2) h1
    refine law_calls hE h2 ⟨rfl, fun j v p hv hp => ?_⟩
    cases j with
    | zero => simp at hv hp; subst hv; subst hp; exact arg_int ..
    | succ j => simp at hv
  · cases ht
noncomputable def blkG (E : Env) (T2 : List Nat) (N k : Nat) (f : FuncId) (i B : Nat) : Bool := (List.range' i B).all fun m => saysTrue (denG T2 N E k f [.int .i64 (m : Nat)] [])
theorem blkG_at {E : Env} {T2 : List Nat} {N k : Nat} {f : FuncId} {i B : Nat} (h : blkG E T2 N k f i B = true) {m : Nat} (h1 : i ≤ m) (h2 : m < i + B) : saysTrue (denG T2 N E k f [.int .i64 (m : Nat)] []) = true :=
  List.all_eq_true.1 h m (List.mem_range'_1.2 ⟨h1, h2⟩)
end Go.Den
