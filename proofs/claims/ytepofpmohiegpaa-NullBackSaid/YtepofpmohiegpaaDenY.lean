/- Den, part Y: a function, from its entry to its end. -/
import Derived.Test.YtepofpmohiegpaaDenX
namespace Go.Den
variable {P : Program} {w0 w : World} {bl : List Nat} {A0 : Nat → Prop} {D : Nat → Prop} {G : Gh}

/-! ### what is handed out -/
structure Exp (w0 : World) (m : Nat → Option Ent) (G : Gh) (u u' : List Nat) (bs : List Nat) : Prop where
  sub : ∀ d ∈ u, d ∈ u'
  own : ∀ k ∈ bs, ∃ d ∈ u', d ∉ u ∧ ∃ e, m d = some e ∧ ownB G d e = some k
  nodup : bs.Nodup
  ge : ∀ k ∈ bs, w0.heap.size ≤ k
theorem Exp.nil (w0 : World) (m : Nat → Option Ent) (G : Gh) (u : List Nat) : Exp w0 m G u u [] := ⟨fun _ h => h, by simp, List.nodup_nil, by simp⟩
theorem Exp.append {m : Nat → Option Ent} (hs : ∀ d d' e e' k, m d = some e → m d' = some e' → ownB G d e = some k → ownB G d' e' = some k → d = d') {u u1 u2 b1 b2} (h : Exp w0 m G u u1 b1) (k : Exp w0 m G u1 u2 b2) : Exp w0 m G u u2 (b1 ++ b2) := by
  refine ⟨fun d hd => k.sub d (h.sub d hd), fun x hx => ?_, ?_, fun x hx => (List.mem_append.1 hx).elim (h.ge x) (k.ge x)⟩
  · rcases List.mem_append.1 hx with hx | hx
    · obtain ⟨d, h1, h2, h3⟩ := h.own x hx
      exact ⟨d, k.sub d h1, h2, h3⟩
    · obtain ⟨d, h1, h2, h3⟩ := k.own x hx
      exact ⟨d, h1, fun hd => h2 (h.sub d hd), h3⟩
  · rw [List.nodup_append]
    refine ⟨h.nodup, k.nodup, fun a ha b hb he => ?_⟩
    subst he
    obtain ⟨d, h1, _, e, h3, h4⟩ := h.own a ha
    obtain ⟨d', k1, k2, e', k3, k4⟩ := k.own a hb
    exact k2 (hs d d' e e' a h3 k3 h4 k4 ▸ h1)
def OkSup (w : World) (m : Nat → Option Ent) (G : Gh) (ok : Nat → Prop) : Prop := ∀ k, okP w m G k → ok k
def LentIn (m : Nat → Option Ent) (G : Gh) (bl : List Nat) : Prop := ∀ k ∈ bl, ∃ d cs, isLent d = true ∧ m d = some ⟨true, .box cs⟩ ∧ G.B d = some k

theorem expLeaf_sim {S : St} (hR : RelW w0 bl D w S.at G) (hL : LentIn S.at G bl) {u u' : List Nat} {v : Value} {p q : PV} (hv : RepL w (okP w S.at G) G v p) (h : expLeaf S u p = some (q, u')) :
    ∃ b, Exp w0 S.at G u u' b ∧ ∀ ok', OkSup w S.at G ok' → RXL w ok' v q b := by
  have plain : (if plainLeaf p = true then some (p, u) else none) = some (q, u') → ∃ b, Exp w0 S.at G u u' b ∧ ∀ ok', OkSup w S.at G ok' → RXL w ok' v q b := fun h => by
    split at h
    · rename_i hp
      simp only [Option.some.injEq, Prod.mk.injEq] at h
      obtain ⟨rfl, rfl⟩ := h
      exact ⟨[], .nil .., fun ok' hk => .pl (((RepS.leaf hv).rep hp).mono fun k h => ⟨hk k h, rfl⟩) hp⟩
    · cases h
  unfold expLeaf at h
  split at h
  · rename_i d
    obtain ⟨hV, h1⟩ := (RepS.leaf hv).h
    split at h
    · rename_i e sz xs hd
      split at h
      · cases h
      · rename_i hnu
        have hnu : d ∉ u := fun hm => hnu (List.any_eq_true.2 ⟨d, hm, by simp⟩)
        simp only [Option.some.injEq, Prod.mk.injEq] at h
        obtain ⟨rfl, rfl⟩ := h
        obtain ⟨v', hV', hz, hrow⟩ := hR.ent d _ hd
        rw [hV] at hV'
        injection hV' with hV'
        subst hV'
        have hsub : ∀ x ∈ u, x ∈ d :: u := fun x hx => List.mem_cons_of_mem _ hx
        rcases hrow with ⟨rfl, rfl⟩ | ⟨g, c, cur, fz, rfl, f1, f2, f3, f4, f5, f6, f7⟩
        · exact ⟨[], ⟨hsub, by simp, List.nodup_nil, by simp⟩, fun _ _ => .nil e sz⟩
        · have hown : ownB G d ⟨true, .row e sz xs⟩ = some g := by simp [ownB, hV, Value.ownBlock]
          refine ⟨[g], ⟨hsub, fun k hk => ?_, by simp, fun k hk => ?_⟩, fun ok' hk => .nr (RowAt.mono (.inr ⟨g, c, cur, fz, rfl, f1, f2, f3, f4, f5, f6, f7⟩) (fun k h => ⟨hk k h, rfl⟩) fun _ _ => rfl)⟩
          · rw [List.mem_singleton.1 hk]
            exact ⟨d, List.mem_cons_self, hnu, _, hd, hown⟩
          · rw [List.mem_singleton.1 hk]
            rcases hR.new d _ g hd hown with h | h
            · exact h
            · exfalso
              obtain ⟨d', cs, _, h2, h3⟩ := hL g h
              have := hR.sep d d' _ _ g hd h2 hown (by simp [ownB, h3])
              subst this
              rw [hd] at h2
              cases h2
    · rename_i e sz xs hd
      simp only [Option.some.injEq, Prod.mk.injEq] at h
      obtain ⟨rfl, rfl⟩ := h
      obtain ⟨v', hV', hz, hr, _⟩ := hR.ent d _ hd
      rw [hV] at hV'
      injection hV' with hV'
      subst hV'
      exact ⟨[], .nil .., fun ok' hk => .pl (hr.mono fun k h => ⟨hk k h, rfl⟩) rfl⟩
    · cases h
  · exact plain h
theorem expL_sim {S : St} (hR : RelW w0 bl D w S.at G) (hL : LentIn S.at G bl) : ∀ {ps : List PV} {vs : List Value} {u u' : List Nat} {qs : List PV}, vs.length = ps.length → (∀ (i : Nat) v p, vs[i]? = some v → ps[i]? = some p → RepL w (okP w S.at G) G v p) → expL S u ps = some (qs, u') →
    ∃ b, Exp w0 S.at G u u' b ∧ ∀ ok', OkSup w S.at G ok' → RXs w ok' vs qs b
  | [], vs, u, u', qs, hl, _, h => by
    simp only [expL, Option.some.injEq, Prod.mk.injEq] at h
    obtain ⟨rfl, rfl⟩ := h
    have : vs = [] := List.length_eq_zero_iff.1 hl
    subst this
    exact ⟨[], .nil .., fun _ _ => .nil⟩
  | p :: r, vs, u, u', qs, hl, hv, h => by
    simp only [expL] at h
    split at h
    · cases h
    · rename_i x u1 hx
      split at h
      · cases h
      · rename_i xs u2 hxs
        simp only [Option.some.injEq, Prod.mk.injEq] at h
        obtain ⟨rfl, rfl⟩ := h
        cases vs with
        | nil => simp at hl
        | cons v vs =>
          obtain ⟨b1, a1, a2⟩ := expLeaf_sim hR hL (hv 0 v p rfl rfl) hx
          obtain ⟨b2, c1, c2⟩ := expL_sim hR hL (vs := vs) (by simpa using hl) (fun i v p h1 h2 => hv (i + 1) v p (by simpa using h1) (by simpa using h2)) hxs
          exact ⟨b1 ++ b2, a1.append hR.sep c1, fun ok' hk => .cons (a2 ok' hk) (c2 ok' hk)⟩
theorem expV_sim {S : St} (hR : RelW w0 bl D w S.at G) (hL : LentIn S.at G bl) {u u' : List Nat} {v : Value} {p q : PV} (hv : RepS w (okP w S.at G) G v p) (h : expV S u p = some (q, u')) :
    ∃ b, Exp w0 S.at G u u' b ∧ ∀ ok', OkSup w S.at G ok' → RXV w ok' v q b := by
  unfold expV at h
  split at h
  · rename_i cs
    split at h
    · rename_i xs u1 hx
      simp only [Option.some.injEq, Prod.mk.injEq] at h
      obtain ⟨rfl, rfl⟩ := h
      cases hv with
      | leaf h => cases h with | pl h hp => simp [plainLeaf] at hp
      | agg cells _ hl hv =>
        obtain ⟨b, a1, a2⟩ := expL_sim hR hL (vs := cells.toList) (by simpa using hl) (fun i v p h1 h2 => hv i v p (by simpa using h1) h2) hx
        exact ⟨b, a1, fun ok' hk => .agg (a2 ok' hk)⟩
    · cases h
  · rename_i f cs
    split at h
    · rename_i hall
      simp only [Option.some.injEq, Prod.mk.injEq] at h
      obtain ⟨rfl, rfl⟩ := h
      cases hv with
      | leaf h => cases h with | pl h hp => simp [plainLeaf] at hp
      | fn _ caps _ hl hv =>
        refine ⟨[], .nil .., fun ok' hk => .fn f caps cs hl fun j v p h1 h2 => ?_⟩
        have hp := List.all_eq_true.1 hall p (List.mem_of_getElem? h2)
        exact ⟨((RepS.leaf (hv j v p h1 h2)).rep hp).mono fun k h => ⟨hk k h, rfl⟩, hp⟩
    · cases h
  · rename_i d off
    obtain ⟨b, hb, rfl⟩ := hv.pb
    split at h
    · rename_i cs hd
      split at h
      · rename_i hc
        simp only [Bool.and_eq_true, beq_iff_eq, Bool.not_eq_true'] at hc
        obtain ⟨⟨rfl, hnl⟩, hnu⟩ := hc
        have hnu : d ∉ u := fun hm => by
          have : (u.any fun x => x == d) = true := List.any_eq_true.2 ⟨d, hm, by simp⟩
          rw [hnu] at this; cases this
        split at h
        · rename_i xs u1 hx
          simp only [Option.some.injEq, Prod.mk.injEq] at h
          obtain ⟨rfl, rfl⟩ := h
          obtain ⟨b', hb', cur, t, fz, g1, g2, g3, g4⟩ := hR.ent d _ hd
          rw [hb] at hb'
          injection hb' with hb'
          subst hb'
          have hown : ownB G d ⟨true, .box cs⟩ = some b := by simp [ownB, hb]
          have hE : Exp w0 S.at G u (d :: u) [b] := ⟨fun x hx => List.mem_cons_of_mem _ hx, fun k hk => by rw [List.mem_singleton.1 hk]; exact ⟨d, List.mem_cons_self, hnu, _, hd, hown⟩, by simp, fun k hk => by
            rw [List.mem_singleton.1 hk]
            rcases hR.new d _ b hd hown with h | h
            · exact h
            · exfalso
              obtain ⟨d', cs', hlt, h2, h3⟩ := hL b h
              have := hR.sep d d' _ _ b hd h2 hown (by simp [ownB, h3])
              subst this
              rw [hnl] at hlt; cases hlt⟩
          obtain ⟨b2, c1, c2⟩ := expL_sim hR hL (vs := cur.toList) (by simpa using g2) (fun i v p h1 h2 => by
            obtain ⟨u, hu, hr⟩ := g4 i p h2
            simp at h1
            rw [h1] at hu
            injection hu with hu
            exact hu ▸ hr) hx
          exact ⟨[b] ++ b2, hE.append hR.sep c1, fun ok' hk => .nb g1 g3 (c2 ok' hk)⟩
        · cases h
      · cases h
    · cases h
  · rename_i h1 h2 h3
    cases hv with
    | leaf hv =>
      obtain ⟨b, a1, a2⟩ := expLeaf_sim hR hL hv h
      exact ⟨b, a1, fun ok' hk => .leaf (a2 ok' hk)⟩
    | undef => simp [expLeaf, plainLeaf] at h
    | agg cells cs => exact absurd rfl (h1 cs)
    | fn f caps cs => exact absurd rfl (h2 f cs)
    | tup vs ps => simp [expLeaf, plainLeaf] at h
theorem expVs_sim {S : St} (hR : RelW w0 bl D w S.at G) (hL : LentIn S.at G bl) : ∀ {ps : List PV} {vs : List Value} {u u' : List Nat} {qs : List PV}, vs.length = ps.length → (∀ (i : Nat) v p, vs[i]? = some v → ps[i]? = some p → RepS w (okP w S.at G) G v p) → expVs S u ps = some (qs, u') →
    ∃ b, Exp w0 S.at G u u' b ∧ qs.length = ps.length ∧ ∀ ok', OkSup w S.at G ok' → RXVs w ok' vs qs b
  | [], vs, u, u', qs, hl, _, h => by
    simp only [expVs, Option.some.injEq, Prod.mk.injEq] at h
    obtain ⟨rfl, rfl⟩ := h
    have : vs = [] := List.length_eq_zero_iff.1 hl
    subst this
    exact ⟨[], .nil .., rfl, fun _ _ => .nil⟩
  | p :: r, vs, u, u', qs, hl, hv, h => by
    simp only [expVs] at h
    split at h
    · cases h
    · rename_i x u1 hx
      split at h
      · cases h
      · rename_i xs u2 hxs
        simp only [Option.some.injEq, Prod.mk.injEq] at h
        obtain ⟨rfl, rfl⟩ := h
        cases vs with
        | nil => simp at hl
        | cons v vs =>
          obtain ⟨b1, a1, a2⟩ := expV_sim hR hL (hv 0 v p rfl rfl) hx
          obtain ⟨b2, c1, c3, c2⟩ := expVs_sim hR hL (vs := vs) (by simpa using hl) (fun i v p h1 h2 => hv (i + 1) v p (by simpa using h1) (by simpa using h2)) hxs
          exact ⟨b1 ++ b2, a1.append hR.sep c1, by simp [c3], fun ok' hk => .cons (a2 ok' hk) (c2 ok' hk)⟩
theorem expB_boxes {S : St} : ∀ {ds : List Nat} {u u' : List Nat} {lent : List (List PV)}, expB S u ds = some (lent, u') → ∀ d ∈ ds, ∃ cs, S.at d = some ⟨true, .box cs⟩
  | [], _, _, _, _, d, hd => by simp at hd
  | d1 :: r, u, u', lent, h, d, hd => by
    simp only [expB] at h
    split at h
    · rename_i cs hat
      split at h
      · cases h
      · split at h
        · cases h
        · rename_i hr
          rcases List.mem_cons.1 hd with rfl | hd
          · exact ⟨cs, hat⟩
          · exact expB_boxes hr d hd
    · cases h
theorem expB_sim {S : St} (hR : RelW w0 bl D w S.at G) (hL : LentIn S.at G bl) : ∀ {ds bl' : List Nat} {u u' : List Nat} {lent : List (List PV)}, ds.length = bl'.length → (∀ (i : Nat) d b, ds[i]? = some d → bl'[i]? = some b → G.B d = some b) → expB S u ds = some (lent, u') →
    ∃ b, Exp w0 S.at G u u' b ∧ ∀ ok', OkSup w S.at G ok' → LX w ok' bl' lent b
  | [], bl', u, u', lent, hl, _, h => by
    simp only [expB, Option.some.injEq, Prod.mk.injEq] at h
    obtain ⟨rfl, rfl⟩ := h
    have : bl' = [] := List.length_eq_zero_iff.1 hl.symm
    subst this
    exact ⟨[], .nil .., fun _ _ => .nil⟩
  | d :: r, bl', u, u', lent, hl, hB, h => by
    cases bl' with
    | nil => simp at hl
    | cons b bl' =>
      simp only [expB] at h
      split at h
      · rename_i cs hat
        split at h
        · cases h
        · rename_i x u1 hx
          split at h
          · cases h
          · rename_i xs u2 hxs
            simp only [Option.some.injEq, Prod.mk.injEq] at h
            obtain ⟨rfl, rfl⟩ := h
            obtain ⟨b', hb', cur, t, fz, g1, g2, g3, g4⟩ := hR.ent d _ hat
            rw [hB 0 d b rfl rfl] at hb'
            injection hb' with hb'
            subst hb'
            obtain ⟨b1, a1, a2⟩ := expL_sim hR hL (vs := cur.toList) (by simpa using g2) (fun i v p h1 h2 => by
              obtain ⟨u, hu, hr⟩ := g4 i p h2
              simp at h1
              rw [h1] at hu
              injection hu with hu
              exact hu ▸ hr) hx
            obtain ⟨b2, c1, c2⟩ := expB_sim hR hL (ds := r) (bl' := bl') (by simpa using hl) (fun i d b h1 h2 => hB (i + 1) d b (by simpa using h1) (by simpa using h2)) hxs
            exact ⟨b1 ++ b2, a1.append hR.sep c1, fun ok' hk => .cons g1 g3 (a2 ok' hk) (c2 ok' hk)⟩
      · cases h

/-! ### the end -/
theorem finish_sim (hb : bl.length ≤ 64) {S : St} {fn : Func} {nt : Nat} {ok0 : Nat → Prop} {a : Act} (hR : Rel w0 bl (fun k => ok0 k ∨ w0.heap.size ≤ k ∨ k ∈ bl) nt D S.fs a w) {res : PV} {lent : List (List PV)} (h : finish P fn bl.length S = some (res, lent)) :
    a.defers = [] ∧ ∃ v, (results fn a.tmps).run P w = .ok v w ∧ Back w0 ok0 bl res lent v w := by
  obtain ⟨⟨G, hW, hs, hA⟩, _, hdf⟩ := hR
  refine ⟨hdf, ?_⟩
  unfold finish at h
  split at h
  · cases h
  · rename_i vs hres
    split at h
    · cases h
    · rename_i xs u hx
      split at h
      · cases h
      · rename_i lent' u2 hB
        obtain ⟨us, l1, l2, l3⟩ := results_sim (P := P) hW.ent hs hres
        have hl : ∀ (j : Nat) b, bl[j]? = some b → G.B (lentId j) = some b := hW.lent
        have hL : LentIn S.at G bl := fun k hk => by
          obtain ⟨j, hj⟩ := List.mem_iff_getElem?.1 hk
          have hlt := (List.getElem?_eq_some_iff.1 hj).1
          obtain ⟨cs, hcs⟩ := expB_boxes hB (lentId j) (List.mem_map.2 ⟨j, by simpa using hlt, rfl⟩)
          have h64 := hb
          exact ⟨lentId j, cs, isLent_iff.2 (by simp only [lentId]; omega), hcs, hl j k hj⟩
        obtain ⟨bs, e1, e2, e3⟩ := expVs_sim hW hL l1 (fun i v p h1 h2 => l2 i v p h1 h2) hx
        obtain ⟨bss, f1, f2⟩ := expB_sim hW hL (ds := (List.range bl.length).map lentId) (bl' := bl) (by simp) (fun i d b h1 h2 => by
          have hi : i < bl.length := (List.getElem?_eq_some_iff.1 h2).1
          simp [hi] at h1
          subst h1
          exact hl i b h2) hB
        have hE := e1.append hW.sep f1
        have hok : OkSup w S.at G (okB w0 w ok0 (bs ++ bss)) := fun k hk => by
          have hnb : k ∉ bl := fun hkb => by
            obtain ⟨d, cs, _, h2, h3⟩ := hL k hkb
            exact hk.2.2 d _ h2 (by simp [ownB, h3])
          refine ⟨?_, hk.2.1, fun hm => ?_⟩
          · have h1 := hk.1
            rw [hA] at h1
            rcases h1 with h1 | h1 | h1
            · exact .inl h1
            · exact .inr h1
            · exact absurd h1 hnb
          · obtain ⟨d, _, _, e, h3, h4⟩ := hE.own k hm
            exact hk.2.2 d e h3 h4
        refine ⟨_, l3, hW.kept, bs, bss, hE.nodup, hE.ge, ?_, ?_⟩
        · have hv := e3 _ hok
          split at h
          · rename_i x
            simp only [Option.some.injEq, Prod.mk.injEq] at h
            obtain ⟨rfl, rfl⟩ := h
            cases hv with
            | cons hv r => cases r with | nil => simp only [List.append_nil] at hv ⊢; exact .one hv
          · rename_i hne
            simp only [Option.some.injEq, Prod.mk.injEq] at h
            obtain ⟨rfl, rfl⟩ := h
            rw [dif_neg]
            · exact .tup (by simpa using hv)
            · intro h1
              have : xs.length = 1 := by rw [e2, ← l1]; simpa using h1
              match xs, this with
              | [x], _ => exact hne x rfl
        · have : lent = lent' := by
            split at h <;> simp only [Option.some.injEq, Prod.mk.injEq] at h <;> exact h.2.symm
          subst this
          exact f2 _ hok

/-! ### the beginning -/
structure EnvOK (E : Env) : Prop where
  mixed : E.P.follows .mixedOrders = true
  fns : ∀ f fn, E.fns f = some fn → E.P.funcs[f]? = some fn ∧ fn.name ≠ "runtime.NumGoroutine" ∧ ∃ c, fn.body = some c ∧ dstOK fn.ntmps c = true
  ext : ∀ f g, E.ext f = some (.fn g) → ∀ args res, g args = some res → Entered E.P f ∧ Contract E.P f args [] res []
  clip : ∀ f, E.ext f = some .clip → Entered E.P f ∧ ClipOk E.P f

theorem get_zipIdx {α : Type} : ∀ {l : List α} {k i : Nat} {v : α}, get ((l.zipIdx k).map fun x => (x.2, x.1)) i = some v → k ≤ i ∧ l[i - k]? = some v := fun {l k i v} h => by
  have := get_mem h
  obtain ⟨x, hx, he⟩ := List.mem_map.1 this
  obtain ⟨y, j⟩ := x
  injection he with h1 h2
  subst h1; subst h2
  rw [List.mem_zipIdx_iff_le_and_getElem?_sub] at hx
  exact hx
theorem entry_rel {ok0 : Nat → Prop} {vs : Array Value} {args : List PV} {lent : List (List PV)} {nt : Nat} (hok : ∀ k, ok0 k → k < w.heap.size ∧ k ∉ bl) (hl : LentOk w ok0 bl lent) (ha : ArgsOk w ok0 (Gl w ok0 bl) vs args) (hlen : lent.length ≤ 64) :
    Rel w bl (fun k => ok0 k ∨ w.heap.size ≤ k ∨ k ∈ bl) (vs ++ Array.replicate (nt - vs.size) Go.undef).size (BelowE 1) (entry args lent).fs { tmps := vs ++ Array.replicate (nt - vs.size) Go.undef, defers := [] } w := by
  have hat : ∀ d e, (entry args lent).at d = some e → ∃ (j : Nat) (cs : List PV) (b : Nat), lent[j]? = some cs ∧ bl[j]? = some b ∧ d = lentId j ∧ e = ⟨true, .box cs⟩ := fun d e he => by
    have : atM (lent.zipIdx.map fun x => (lentId x.2, some ⟨true, .box x.1⟩)) d = some e := he
    unfold atM at this
    split at this
    · rename_i e' hg
      subst this
      obtain ⟨x, hx, hxe⟩ := List.mem_map.1 (get_mem hg)
      obtain ⟨cs, j⟩ := x
      rw [List.mem_zipIdx_iff_getElem?] at hx
      injection hxe with h1 h2
      injection h2 with h2
      have hlt : j < bl.length := by rw [hl.len]; exact (List.getElem?_eq_some_iff.1 hx).1
      exact ⟨j, cs, bl[j], hx, List.getElem?_eq_getElem hlt, h1.symm, h2.symm⟩
    · cases this
  have hown : ∀ d e k, (entry args lent).at d = some e → ownB (Gl w ok0 bl) d e = some k → ∃ j, d = lentId j ∧ bl[j]? = some k := fun d e k he ho => by
    obtain ⟨j, cs, b, h1, h2, rfl, rfl⟩ := hat d e he
    refine ⟨j, rfl, ?_⟩
    simp only [ownB, Gl, lentB_id] at ho
    exact ho
  have hokm : ∀ k, ok0 k → okP w (entry args lent).at (Gl w ok0 bl) k := fun k hk => ⟨.inl hk, (hok k hk).1, fun d e he ho => by
    obtain ⟨j, _, hj⟩ := hown d e k he ho
    exact (hok k hk).2 (List.mem_of_getElem? hj)⟩
  have hadv : Adv w ok0 (Gl w ok0 bl) w (okP w (entry args lent).at (Gl w ok0 bl)) (Gl w ok0 bl) := ⟨fun _ _ h => h, fun _ _ h => h, fun _ _ => rfl, fun k hk => ⟨hokm k hk, rfl⟩, rfl⟩
  refine ⟨⟨Gl w ok0 bl, ⟨fun d e he => ?_, fun d d' e e' k he he' ho ho' => ?_, fun d hd => ?_, fun d e k he ho => ?_, Kept.refl _ _, fun j b hj => ?_, fun k hk => .inr hk⟩, fun t p hp => ?_, rfl⟩, rfl, rfl⟩
  · obtain ⟨j, cs, b, h1, h2, rfl, rfl⟩ := hat d e he
    obtain ⟨cur, t, fz, g1, g2, g3, g4⟩ := hl.box j b cs h2 h1
    refine ⟨b, by simp only [Gl, lentB_id]; exact h2, cur, t, fz, g1, g2, g3, fun i p hp => ?_⟩
    obtain ⟨g5, u, hu, hr⟩ := g4 i p hp
    exact ⟨u, hu, .pl (hr.mono hadv.ok) g5⟩
  · obtain ⟨j, rfl, hj⟩ := hown d e k he ho
    obtain ⟨j', rfl, hj'⟩ := hown d' e' k he' ho'
    obtain ⟨i1, h1⟩ := List.getElem?_eq_some_iff.1 hj
    obtain ⟨i2, h2⟩ := List.getElem?_eq_some_iff.1 hj'
    have : j = j' := by
      have hp := List.pairwise_iff_getElem.1 hl.nodup
      rcases Nat.lt_trichotomy j j' with h | h | h
      · exact absurd (h1.trans h2.symm) (hp j j' i1 i2 h)
      · exact h
      · exact absurd (h2.trans h1.symm) (hp j' j i2 i1 h)
    rw [this]
  · rcases hd with hd | hd
    · simp [Gl] at hd
    · cases hb : (Gl w ok0 bl).B d with
      | none => exact absurd hb hd
      | some b =>
        obtain ⟨j, rfl, hj⟩ := lentB_some hb
        have := (List.getElem?_eq_some_iff.1 hj).1
        rw [hl.len] at this
        simp only [BelowE, lentId]
        omega
  · obtain ⟨j, _, hj⟩ := hown d e k he ho
    exact .inr (List.mem_of_getElem? hj)
  · simp only [Gl, lentB_id]; exact hj
  · have hp : get (args.zipIdx.map fun x => (x.2, x.1)) t = some p := hp
    obtain ⟨_, hp⟩ := get_zipIdx hp
    rw [Nat.sub_zero] at hp
    have hlt : t < vs.size := by rw [ha.1]; exact (List.getElem?_eq_some_iff.1 hp).1
    have hev : Act.eval { tmps := vs ++ Array.replicate (nt - vs.size) Go.undef, defers := [] } (.tmp t) = vs[t] := by
      simp [Act.eval, Array.getElem?_append_left hlt, hlt]
    rw [hev]
    exact (ha.2 t vs[t] p (by simp [hlt]) hp).adv hadv

theorem den_sim {E : Env} (hE : EnvOK E) : ∀ k, Sound E (den E k)
  | 0 => ⟨fun f args lent res lent' h => by simp [den] at h, hE.ext, hE.clip⟩
  | k + 1 => by
    refine ⟨fun f args lent res lent' h => ?_, hE.ext, hE.clip⟩
    have ih := den_sim hE k
    simp only [den] at h
    split at h
    · cases h
    · rename_i fn hfn
      obtain ⟨h1, h2, c, h3, h4⟩ := hE.fns f fn hfn
      refine ⟨⟨fn, h1, h2, by simp [h3]⟩, fun w vs bl ok0 hok hl ha => ?_⟩
      split at h
      · cases h
      · cases h
      · rename_i c' hc hlen
        rw [h3] at hc
        injection hc with hc
        subst hc
        have hlen : lent.length ≤ 64 := by simpa using hlen
        rw [← hl.len] at h hlen
        refine calls_of_wp h1 h3 ?_
        have hent := entry_rel (nt := fn.ntmps) hok hl ha (by rw [← hl.len]; exact hlen)
        have run : ∀ {o S}, denC E (den E k) f bl.length k c (entry args lent) = some (o, S) → (o = .normal ∨ o = .ret) → finish E.P fn bl.length S = some (res, lent') → c.wp E.P (bodyPost E.P fn fun e w' => ∃ v, e = .returned v ∧ Back w ok0 bl res lent' v w') { tmps := vs ++ Array.replicate (fn.ntmps - vs.size) Go.undef, defers := [] } w := fun {o S} hd ho hf => by
          refine code_sim (n0 := fn.ntmps) ih hE.mixed hlen (by simp; omega) c hd h4 (Nat.le_refl _) hent _ fun a' w' _ hR => ?_
          obtain ⟨d1, v, d2, d3⟩ := finish_sim hlen hR hf
          rcases ho with rfl | rfl
          · exact ⟨d1, v, d2, v, rfl, d3⟩
          · exact ⟨d1, v, d2, v, rfl, d3⟩
        split at h
        · rename_i S hd
          exact run hd (.inl rfl) h
        · rename_i S hd
          exact run hd (.inr rfl) h
        · cases h
end Go.Den
