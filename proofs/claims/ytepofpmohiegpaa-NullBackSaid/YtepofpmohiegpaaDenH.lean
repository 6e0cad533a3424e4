/- Den, part H: sealing; stores; literals. -/
import Derived.Test.YtepofpmohiegpaaDenG
namespace Go.Den
variable {P : Program} {w0 w : World} {bl : List Nat} {D D' : Nat → Prop} {m m1 : Nat → Option Ent} {G : Gh}

/-- Some entries have been frozen since. -/
def Fro (m m1 : Nat → Option Ent) : Prop := ∀ d e, m d = some e → ∃ e1, m1 d = some e1 ∧ e1.c = e.c
theorem Fro.refl (m : Nat → Option Ent) : Fro m m := fun _ e h => ⟨e, h, rfl⟩
theorem Fro.fz {m m1 : Nat → Option Ent} (h : Fro m m1) (d : Nat) : Fro m (putF m1 [(d, .fz)]) := fun x e hx => by
  obtain ⟨e1, h1, h2⟩ := h x e hx
  simp only [putF]
  cases hd : m1 d with
  | none => exact ⟨e1, h1, h2⟩
  | some e2 =>
    by_cases hxd : x = d
    · subst hxd
      rw [hd] at h1; injection h1 with h1; subst h1
      exact ⟨⟨false, e2.c⟩, upd_eq _ _ _, h2⟩
    · exact ⟨e1, by simp only [upd_ne _ _ hxd]; exact h1, h2⟩

theorem RelW.fz (h : RelW w0 bl D w m G) (d : Nat) : RelW w0 bl D w (putF m [(d, .fz)]) G ∧ Adv w (okP w m G) G w (okP w (putF m [(d, .fz)]) G) G := by
  simp only [putF]
  cases hd : m d with
  | none => exact ⟨h, Adv.refl _ _ _⟩
  | some e => exact h.freeze hd

/-- A frozen row, read. -/
theorem EntOk.froRow {ok d e sz xs} (h : EntOk w ok G d ⟨false, .row e sz xs⟩) : ∃ v, G.V d = some v ∧ Rep w ok v (.sl sz xs) := by
  obtain ⟨v, hv, _, hr, _⟩ := h; exact ⟨v, hv, hr⟩

theorem sealLeaf_sim (h : RelW w0 bl D w m1 G) (hf : Fro m m1) {p q : PV} {v : Value} {wr : Wr} {l o} (hr : (sealLeaf p).run m = some ((q, wr), l, o)) (hv : RepL w (okP w m1 G) G v p) :
    RelW w0 bl D w (putF m1 wr) G ∧ Fro m (putF m1 wr) ∧ Adv w (okP w m1 G) G w (okP w (putF m1 wr) G) G ∧ Rep w (okP w (putF m1 wr) G) v q ∧ plainLeaf q = true := by
  have hplain : ∀ {p}, plainLeaf p = true → RepL w (okP w m1 G) G v p → Rep w (okP w m1 G) v p := fun hp hv => (RepS.leaf hv).rep hp
  cases p with
  | h d =>
    obtain ⟨e, l', hm, hk⟩ := run_rdc hr
    obtain ⟨own, c⟩ := e
    cases c with
    | box => exact (run_fail hk).elim
    | row e sz xs =>
      have h1 := (run_ret hk).1
      injection h1 with h1 h2
      subst h1; subst h2
      obtain ⟨hR, hA⟩ := h.fz d
      refine ⟨hR, hf.fz d, hA, ?_, rfl⟩
      obtain ⟨e1, h1, h2⟩ := hf d _ hm
      have h3 : putF m1 [(d, .fz)] d = some ⟨false, .row e sz xs⟩ := by
        simp only [putF, h1, upd_eq]
        rw [h2]
      obtain ⟨v', hv', hrep⟩ := (hR.ent d _ h3).froRow
      have := (RepS.leaf hv).h.1
      rw [hv'] at this
      injection this with this
      subst this
      exact hrep
  | pb d off =>
    obtain ⟨e, l', hm, hk⟩ := run_rdc hr
    obtain ⟨own, c⟩ := e
    cases c with
    | row => exact (run_fail hk).elim
    | box cs =>
      simp only at hk
      split at hk
      · rename_i hall
        have h1 := (run_ret hk).1
        injection h1 with h1 h2
        subst h1; subst h2
        obtain ⟨hR, hA⟩ := h.fz d
        refine ⟨hR, hf.fz d, hA, ?_, rfl⟩
        obtain ⟨e1, h1, h2⟩ := hf d _ hm
        have h3 : putF m1 [(d, .fz)] d = some ⟨false, .box cs⟩ := by
          simp only [putF, h1, upd_eq]
          rw [h2]
        obtain ⟨b, hb, hcell⟩ := hR.ent d _ h3
        obtain ⟨b', hb', rfl⟩ := (RepS.leaf hv).pb
        rw [hb] at hb'
        injection hb' with hb'
        subst hb'
        have hpl : ∀ p ∈ cs, plainLeaf p = true := by simpa using hall
        refine .pc _ _ (fun j => (w.cell? ⟨b, off + j, none⟩).getD Go.undef) (fun p hp => hpl p (List.mem_of_mem_drop hp)) (fun j p hp => ?_) (fun j p hp => ?_)
        · rw [List.getElem?_drop] at hp
          obtain ⟨hok, u, hu, _⟩ := hcell _ p hp
          exact ⟨b, off, rfl, hok, by rw [hu]; rfl⟩
        · rw [List.getElem?_drop] at hp
          obtain ⟨hok, u, hu, hL⟩ := hcell _ p hp
          rw [hu]
          exact (RepS.leaf hL).rep (hpl p (List.mem_of_getElem? hp))
      · exact (run_fail hk).elim
  | pe => simp only [sealLeaf, plainLeaf] at hr; exact (run_fail hr).elim
  | _ =>
    simp only [sealLeaf] at hr
    split at hr
    · rename_i hp
      have h1 := (run_ret hr).1
      injection h1 with h1 h2
      subst h1; subst h2
      exact ⟨h, hf, Adv.refl _ _ _, hplain hp hv, hp⟩
    · exact (run_fail hr).elim

theorem sealL_sim {ps : List PV} : ∀ {m1 : Nat → Option Ent} {qs : List PV} {vs : List Value} {wr : Wr} {l o}, RelW w0 bl D w m1 G → Fro m m1 → (sealL ps).run m = some ((qs, wr), l, o) → vs.length = ps.length → (∀ (j : Nat) v p, vs[j]? = some v → ps[j]? = some p → RepL w (okP w m1 G) G v p) →
    RelW w0 bl D w (putF m1 wr) G ∧ Fro m (putF m1 wr) ∧ Adv w (okP w m1 G) G w (okP w (putF m1 wr) G) G ∧ qs.length = ps.length ∧ (∀ q ∈ qs, plainLeaf q = true) ∧ ∀ (j : Nat) v q, vs[j]? = some v → qs[j]? = some q → Rep w (okP w (putF m1 wr) G) v q := by
  induction ps with
  | nil =>
    intro m1 qs vs wr l o h hf hr hl hv
    have h1 := (run_ret hr).1
    injection h1 with h1 h2
    subst h1; subst h2
    exact ⟨h, hf, Adv.refl _ _ _, rfl, by simp, by simp⟩
  | cons p r ih =>
    intro m1 qs vs wr l o h hf hr hl hv
    obtain ⟨x, l1, o1, l2, o2, hx, hr, _, _⟩ := run_bind hr
    obtain ⟨y, l3, o3, l4, o4, hy, hr, _, _⟩ := run_bind hr
    obtain ⟨q, wq⟩ := x
    obtain ⟨qs', wq'⟩ := y
    have h1 := (run_ret hr).1
    injection h1 with h1 h2
    subst h1; subst h2
    cases vs with
    | nil => simp at hl
    | cons v vs =>
      obtain ⟨a1, a2, a3, a4, a5⟩ := sealLeaf_sim h hf hx (hv 0 v p rfl rfl)
      obtain ⟨b1, b2, b3, b4, b5, b6⟩ := ih a1 a2 hy (by simpa using hl) (fun j v p h1 h2 => (hv (j + 1) v p (by simpa using h1) (by simpa using h2)).adv a3)
      rw [putF_append]
      refine ⟨b1, b2, a3.trans b3, by simp [b4], by simp; exact ⟨a5, b5⟩, fun j u q hu hq => ?_⟩
      cases j with
      | zero => simp at hu hq; subst hu; subst hq; exact a4.mono b3.ok
      | succ j => exact b6 j u q (by simpa using hu) (by simpa using hq)
theorem sealLL_sim {ps : List (List PV)} : ∀ {m1 : Nat → Option Ent} {qs : List (List PV)} {vs : List (List Value)} {wr : Wr} {l o}, RelW w0 bl D w m1 G → Fro m m1 → (sealLL ps).run m = some ((qs, wr), l, o) → vs.length = ps.length →
    (∀ (i : Nat) v p, vs[i]? = some v → ps[i]? = some p → v.length = p.length ∧ ∀ (j : Nat) u x, v[j]? = some u → p[j]? = some x → RepL w (okP w m1 G) G u x) →
    RelW w0 bl D w (putF m1 wr) G ∧ Fro m (putF m1 wr) ∧ Adv w (okP w m1 G) G w (okP w (putF m1 wr) G) G ∧ qs.length = ps.length ∧ (∀ q ∈ qs, ∀ x ∈ q, plainLeaf x = true) ∧
    (∀ (i : Nat) p q, ps[i]? = some p → qs[i]? = some q → q.length = p.length) ∧
    ∀ (i : Nat) v q, vs[i]? = some v → qs[i]? = some q → ∀ (j : Nat) u x, v[j]? = some u → q[j]? = some x → Rep w (okP w (putF m1 wr) G) u x := by
  induction ps with
  | nil =>
    intro m1 qs vs wr l o h hf hr hl hv
    have h1 := (run_ret hr).1
    injection h1 with h1 h2
    subst h1; subst h2
    exact ⟨h, hf, Adv.refl _ _ _, rfl, by simp, by simp, by simp⟩
  | cons p r ih =>
    intro m1 qs vs wr l o h hf hr hl hv
    obtain ⟨x, l1, o1, l2, o2, hx, hr, _, _⟩ := run_bind hr
    obtain ⟨y, l3, o3, l4, o4, hy, hr, _, _⟩ := run_bind hr
    obtain ⟨q, wq⟩ := x
    obtain ⟨qs', wq'⟩ := y
    have h1 := (run_ret hr).1
    injection h1 with h1 h2
    subst h1; subst h2
    cases vs with
    | nil => simp at hl
    | cons v vs =>
      obtain ⟨hl0, hv0⟩ := hv 0 v p rfl rfl
      obtain ⟨a1, a2, a3, a4, a5, a6⟩ := sealL_sim h hf hx hl0 hv0
      obtain ⟨b1, b2, b3, b4, b5, b6, b7⟩ := ih a1 a2 hy (by simpa using hl) (fun i v p h1 h2 => by
        obtain ⟨c1, c2⟩ := hv (i + 1) v p (by simpa using h1) (by simpa using h2)
        exact ⟨c1, fun j u x h3 h4 => (c2 j u x h3 h4).adv a3⟩)
      rw [putF_append]
      refine ⟨b1, b2, a3.trans b3, by simp [b4], fun q' hq' => ?_, fun i p' q' hp' hq' => ?_, fun i u q' hu hq' j z x hz hx => ?_⟩
      · simp at hq'
        rcases hq' with rfl | hq'
        · exact a5
        · exact b5 q' hq'
      · cases i with
        | zero => simp at hp' hq'; subst hp'; subst hq'; exact a4
        | succ i => exact b6 i p' q' (by simpa using hp') (by simpa using hq')
      · cases i with
        | zero => simp at hu hq'; subst hu; subst hq'; exact (a6 j z x hz hx).mono b3.ok
        | succ i => exact b7 i u q' (by simpa using hu) (by simpa using hq') j z x hz hx
end Go.Den
