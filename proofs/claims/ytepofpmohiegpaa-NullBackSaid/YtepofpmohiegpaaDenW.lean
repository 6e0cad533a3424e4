/- Den, part W: at a loop's head all is named anew. -/
import Derived.Test.YtepofpmohiegpaaDenV
namespace Go.Den
variable {P : Program} {w0 w : World} {bl : List Nat} {A0 : Nat → Prop} {D : Nat → Prop} {m : Nat → Option Ent} {G : Gh} {ok : Nat → Prop}

/-- Who owned it. -/
inductive OwnL (m : Nat → Option Ent) (G : Gh) : List NE → List Nat → Prop
  | zero : OwnL m G [] []
  | skip {x N ds} (h : x.blk = none) (r : OwnL m G N ds) : OwnL m G (x :: N) ds
  | one {x N d ds} (h : ∀ k, x.blk = some k → ∃ e, m d = some e ∧ ownB G d e = some k) (r : OwnL m G N ds) : OwnL m G (x :: N) (d :: ds)
theorem OwnL.append {N ds N' ds'} (h : OwnL m G N ds) (k : OwnL m G N' ds') : OwnL m G (N ++ N') (ds ++ ds') := by
  induction h with
  | zero => exact k
  | skip h r ih => exact .skip h ih
  | one h r ih => exact .one h ih
theorem OwnL.owner {N ds} (h : OwnL m G N ds) : ∀ x ∈ N, ∀ k, x.blk = some k → ∃ d ∈ ds, ∃ e, m d = some e ∧ ownB G d e = some k := by
  induction h with
  | zero => intro x hx; simp at hx
  | skip h r ih =>
    intro x hx k hk
    rcases List.mem_cons.1 hx with rfl | hx
    · rw [h] at hk; cases hk
    · exact ih x hx k hk
  | one h r ih =>
    intro x hx k hk
    rcases List.mem_cons.1 hx with rfl | hx
    · obtain ⟨e, h1, h2⟩ := h k hk
      exact ⟨_, List.mem_cons_self, e, h1, h2⟩
    · obtain ⟨d, h1, h2⟩ := ih x hx k hk
      exact ⟨d, List.mem_cons_of_mem _ h1, h2⟩
theorem OwnL.nodup {N ds} (h : OwnL m G N ds) (hs : ∀ d d' e e' k, m d = some e → m d' = some e' → ownB G d e = some k → ownB G d' e' = some k → d = d') : ds.Nodup → (N.filterMap NE.blk).Nodup := by
  induction h with
  | zero => intro _; exact List.nodup_nil
  | skip h r ih => intro hn; rw [List.filterMap_cons_none h]; exact ih hn
  | one h r ih =>
    rename_i x N d ds
    intro hn
    rw [List.nodup_cons] at hn
    cases hb : x.blk with
    | none => rw [List.filterMap_cons_none hb]; exact ih hn.2
    | some k =>
      rw [List.filterMap_cons_some hb, List.nodup_cons]
      refine ⟨fun hm => ?_, ih hn.2⟩
      obtain ⟨y, hy, hyk⟩ := List.mem_filterMap.1 hm
      obtain ⟨e, h1, h2⟩ := h k hb
      obtain ⟨d', hd', e', h3, h4⟩ := r.owner y hy k hyk
      exact hn.1 (hs d d' e e' k h1 h3 h2 h4 ▸ hd')

/-- More may be read: what the frozen ones own. -/
structure OkF (m : Nat → Option Ent) (G : Gh) (ok ok2 : Nat → Prop) (fs : List Nat) : Prop where
  sub : ∀ k, ok k → ok2 k
  fs : ∀ d ∈ fs, ∀ e k, m d = some e → ownB G d e = some k → ok2 k
theorem OkF.left {ok2 fs fs'} (h : OkF m G ok ok2 (fs ++ fs')) : OkF m G ok ok2 fs := ⟨h.sub, fun d hd => h.fs d (List.mem_append_left _ hd)⟩
theorem OkF.right {ok2 fs fs'} (h : OkF m G ok ok2 (fs ++ fs')) : OkF m G ok ok2 fs' := ⟨h.sub, fun d hd => h.fs d (List.mem_append_right _ hd)⟩
/-- What is written down anew. -/
structure Anew (w : World) (ok : Nat → Prop) (m : Nat → Option Ent) (G : Gh) (ms : List (Nat × Ent)) (ds fs : List Nat) (N : List NE) : Prop where
  ms : ms = N.map fun x => (x.id, ⟨true, x.c⟩)
  own : OwnL m G N ds
  fits : ∀ ok2, OkF m G ok ok2 fs → Fits w ok2 N
  shape : ∀ x ∈ N, ∀ cs, x.c = .box cs → ∃ b, x.v = .pointer (some ⟨b, 0, none⟩)
  frows : ∀ d ∈ fs, ∃ e sz xs, m d = some ⟨true, .row e sz xs⟩
theorem Anew.nil : Anew w ok m G [] [] [] [] := ⟨rfl, .zero, fun _ _ _ _ x hx => by simp at hx, by simp, by simp⟩
theorem Anew.append {ms ds fs N ms' ds' fs' N'} (h : Anew w ok m G ms ds fs N) (k : Anew w ok m G ms' ds' fs' N') : Anew w ok m G (ms ++ ms') (ds ++ ds') (fs ++ fs') (N ++ N') :=
  ⟨by rw [h.ms, k.ms, List.map_append], h.own.append k.own, fun ok2 ho => (h.fits ok2 ho.left).append (k.fits ok2 ho.right), fun x hx cs hc => (List.mem_append.1 hx).elim (fun hx => h.shape x hx cs hc) (fun hx => k.shape x hx cs hc),
   fun d hd => (List.mem_append.1 hd).elim (h.frows d) (k.frows d)⟩

theorem normLeaf_sim {S : St} {dup : Nat → Bool} (he : ∀ d e, S.at d = some e → EntOk w ok G d e) {t j : Nat} {row : Option (TypeId × Nat)} {v : Value} {p q : PV} {ms : List (Nat × Ent)} {ds fs : List Nat} (hv : RepL w ok G v p) (h : normLeaf S dup t j row p = some (q, ms, ds, fs)) :
    ∃ N, Anew w ok S.at G ms ds fs N ∧ ∀ ok2 G', OkF S.at G ok ok2 fs → HoldsN G' N → RepL w ok2 G' v q := by
  have plain : ∀ {p}, RepL w ok G v p → (if plainLeaf p = true then some (p, ([] : List (Nat × Ent)), ([] : List Nat), ([] : List Nat)) else none) = some (q, ms, ds, fs) → ∃ N, Anew w ok S.at G ms ds fs N ∧ ∀ ok2 G', OkF S.at G ok ok2 fs → HoldsN G' N → RepL w ok2 G' v q := fun hv h => by
    split at h
    · rename_i hp
      simp only [Option.some.injEq, Prod.mk.injEq] at h
      obtain ⟨rfl, rfl, rfl, rfl⟩ := h
      exact ⟨[], .nil, fun ok2 G' ho _ => .pl (((RepS.leaf hv).rep hp).mono fun k hk => ⟨ho.sub k hk, rfl⟩) hp⟩
    · cases h
  unfold normLeaf at h
  split at h
  · rename_i d
    split at h
    · rename_i e sz xs hd
      obtain ⟨v', hV, hz, hrow⟩ := he d _ hd
      obtain ⟨hV', h1⟩ := (RepS.leaf hv).h
      rw [hV'] at hV
      injection hV with hV
      subst hV
      split at h
      · simp only [Option.some.injEq, Prod.mk.injEq] at h
        obtain ⟨rfl, rfl, rfl, rfl⟩ := h
        refine ⟨[], ⟨rfl, .zero, fun _ _ _ _ x hx => by simp at hx, by simp, fun x hx => by rw [List.mem_singleton.1 hx]; exact ⟨e, sz, xs, hd⟩⟩, fun ok2 G' ho _ => .pl (hrow.reads ho.sub fun k hk => ho.fs d (List.mem_singleton.2 rfl) _ k hd (by simpa [ownB, hV'] using hk)) rfl⟩
      · simp only [Option.some.injEq, Prod.mk.injEq] at h
        obtain ⟨rfl, rfl, rfl, rfl⟩ := h
        refine ⟨[⟨leafId t j, v, .row e sz xs⟩], ⟨rfl, .one (fun k hk => ⟨_, hd, by simpa [ownB, hV', NE.blk] using hk⟩) .zero, fun ok2 ho G' hG x hx => ?_, by simp, by simp⟩, fun ok2 G' _ hG => .h (hG _ (List.mem_singleton.2 rfl)).1 h1⟩
        simp at hx; subst hx
        obtain ⟨a, b⟩ := hG _ (List.mem_singleton.2 rfl)
        exact ⟨v, a, b, hrow.mono (fun k hk => ⟨ho.sub k hk, rfl⟩) fun _ _ => rfl⟩
    · rename_i e sz xs hd
      simp only [Option.some.injEq, Prod.mk.injEq] at h
      obtain ⟨rfl, rfl, rfl, rfl⟩ := h
      obtain ⟨v', hV, hz, hr, _⟩ := he d _ hd
      obtain ⟨hV', h1⟩ := (RepS.leaf hv).h
      rw [hV'] at hV
      injection hV with hV
      subst hV
      exact ⟨[], .nil, fun ok2 G' ho _ => .pl (hr.mono fun k hk => ⟨ho.sub k hk, rfl⟩) rfl⟩
    · cases h
  · split at h
    · rename_i e sz
      simp only [Option.some.injEq, Prod.mk.injEq] at h
      obtain ⟨rfl, rfl, rfl, rfl⟩ := h
      have := (RepS.leaf hv).nils
      subst this
      refine ⟨[⟨leafId t j, .slice none 0 0, .row e sz []⟩], ⟨rfl, .skip (by simp [NE.blk, Value.ownBlock]) .zero, fun ok2 _ G' hG x hx => ?_, by simp, by simp⟩, fun ok2 G' _ hG => .h (hG _ (List.mem_singleton.2 rfl)).1 rfl⟩
      simp at hx; subst hx
      obtain ⟨a, b⟩ := hG _ (List.mem_singleton.2 rfl)
      exact ⟨_, a, b, .inl ⟨rfl, rfl⟩⟩
    · simp only [Option.some.injEq, Prod.mk.injEq] at h
      obtain ⟨rfl, rfl, rfl, rfl⟩ := h
      exact ⟨[], .nil, fun ok2 G' ho _ => .pl (((RepS.leaf hv).rep rfl).mono fun k hk => ⟨ho.sub k hk, rfl⟩) rfl⟩
  · exact plain hv h
theorem normLeafs_sim {S : St} {dup : Nat → Bool} (he : ∀ d e, S.at d = some e → EntOk w ok G d e) {t : Nat} {rows : List (Nat × TypeId × Nat)} : ∀ {ps : List PV} {j : Nat} {vs : List Value} {qs : List PV} {ms : List (Nat × Ent)} {ds fs : List Nat}, vs.length = ps.length → (∀ (i : Nat) v p, vs[i]? = some v → ps[i]? = some p → RepL w ok G v p) → normLeafs S dup t rows j ps = some (qs, ms, ds, fs) →
    ∃ N, Anew w ok S.at G ms ds fs N ∧ qs.length = ps.length ∧ ∀ ok2 G', OkF S.at G ok ok2 fs → HoldsN G' N → ∀ (i : Nat) v q, vs[i]? = some v → qs[i]? = some q → RepL w ok2 G' v q
  | [], j, vs, qs, ms, ds, fs, hl, hv, h => by
    simp only [normLeafs, Option.some.injEq, Prod.mk.injEq] at h
    obtain ⟨rfl, rfl, rfl, rfl⟩ := h
    exact ⟨[], .nil, rfl, by simp⟩
  | p :: r, j, vs, qs, ms, ds, fs, hl, hv, h => by
    simp only [normLeafs] at h
    split at h
    · rename_i x y hx hy
      obtain ⟨q, m1, d1, f1⟩ := x
      obtain ⟨qs', m2, d2, f2⟩ := y
      simp only [Option.some.injEq, Prod.mk.injEq] at h
      obtain ⟨rfl, rfl, rfl, rfl⟩ := h
      cases vs with
      | nil => simp at hl
      | cons v vs =>
        obtain ⟨N, a1, a2⟩ := normLeaf_sim he (hv 0 v p rfl rfl) hx
        obtain ⟨N', b1, b2, b3⟩ := normLeafs_sim he (vs := vs) (by simpa using hl) (fun i v p h1 h2 => hv (i + 1) v p (by simpa using h1) (by simpa using h2)) hy
        refine ⟨N ++ N', a1.append b1, by simp [b2], fun ok2 G' ho hG i u q' hu hq => ?_⟩
        cases i with
        | zero => simp at hu hq; subst hu; subst hq; exact a2 ok2 G' ho.left hG.left
        | succ i => exact b3 ok2 G' ho.right hG.right i u q' (by simpa using hu) (by simpa using hq)
    · cases h

def LentB (G G' : Gh) : Prop := ∀ d, isLent d = true → G'.B d = G.B d
theorem normI_sim {S : St} {dup : Nat → Bool} {a : Act} (he : ∀ d e, S.at d = some e → EntOk w ok G d e) (hs : SlotsOk a w ok G S.slot) {n : NI} {sl : List (Nat × PV)} {ms : List (Nat × Ent)} {ds fs : List Nat} (h : normI S dup n = some (sl, ms, ds, fs)) :
    ∃ N q, Anew w ok S.at G ms ds fs N ∧ sl = [(n.t, q)] ∧ ∀ ok2 G', OkF S.at G ok ok2 fs → HoldsN G' N → LentB G G' → RepS w ok2 G' (a.eval (.tmp n.t)) q := by
  unfold normI at h
  split at h
  · cases h
  · rename_i v hv
    have hS := hs n.t v hv
    generalize a.eval (.tmp n.t) = u at hS ⊢
    have leaf : ∀ {v}, RepS w ok G u v → (match normLeaf S dup n.t 0 (get n.rows 0) v with | some (x, w, ds, fs) => some ([(n.t, x)], w, ds, fs) | none => (none : Option NR)) = some (sl, ms, ds, fs) → (∀ p, v = p → RepS w ok G u p → RepL w ok G u p) →
        ∃ N q, Anew w ok S.at G ms ds fs N ∧ sl = [(n.t, q)] ∧ ∀ ok2 G', OkF S.at G ok ok2 fs → HoldsN G' N → LentB G G' → RepS w ok2 G' u q := fun hS h hL => by
      split at h
      · rename_i x w1 d1 f1 hx
        simp only [Option.some.injEq, Prod.mk.injEq] at h
        obtain ⟨rfl, rfl, rfl, rfl⟩ := h
        obtain ⟨N, a1, a2⟩ := normLeaf_sim he (hL _ rfl hS) hx
        exact ⟨N, x, a1, rfl, fun ok2 G' ho hG _ => .leaf (a2 ok2 G' ho hG)⟩
      · cases h
    split at h
    · rename_i cs
      split at h
      · rename_i vs w1 d1 f1 hx
        simp only [Option.some.injEq, Prod.mk.injEq] at h
        obtain ⟨rfl, rfl, rfl, rfl⟩ := h
        cases hS with
        | leaf h => cases h with | pl h hp => simp [plainLeaf] at hp
        | agg cells _ hl hv =>
          obtain ⟨N, a1, a2, a3⟩ := normLeafs_sim he (vs := cells.toList) (by simpa using hl) (fun i v p h1 h2 => hv i v p (by simpa using h1) h2) hx
          exact ⟨N, .agg vs, a1, rfl, fun ok2 G' ho hG _ => .agg _ _ (by rw [a2]; exact hl) fun i v q h1 h2 => a3 ok2 G' ho hG i v q (by simpa using h1) h2⟩
      · cases h
    · rename_i f cs
      split at h
      · rename_i hall
        simp only [Option.some.injEq, Prod.mk.injEq] at h
        obtain ⟨rfl, rfl, rfl, rfl⟩ := h
        cases hS with
        | leaf h => cases h with | pl h hp => simp [plainLeaf] at hp
        | fn _ caps _ hl hv =>
          refine ⟨[], _, .nil, rfl, fun ok2 G' ho _ _ => .fn f caps cs hl fun i v p h1 h2 => ?_⟩
          have hp := List.all_eq_true.1 hall p (List.mem_of_getElem? h2)
          exact .pl (((RepS.leaf (hv i v p h1 h2)).rep hp).mono fun k hk => ⟨ho.sub k hk, rfl⟩) hp
      · cases h
    · rename_i d off
      obtain ⟨b, hb, rfl⟩ := hS.pb
      split at h
      · rename_i hlent
        simp only [Option.some.injEq, Prod.mk.injEq] at h
        obtain ⟨rfl, rfl, rfl, rfl⟩ := h
        exact ⟨[], _, .nil, rfl, fun ok2 G' _ _ hL => .leaf (.pb off ((hL d hlent).trans hb))⟩
      · split at h
        · rename_i cs hd
          split at h
          · rename_i vs w1 d1 f1 hx
            simp only [Option.some.injEq, Prod.mk.injEq] at h
            obtain ⟨rfl, rfl, rfl, rfl⟩ := h
            obtain ⟨b', hb', cur, ty, fz, g1, g2, g3, g4⟩ := he d _ hd
            rw [hb] at hb'
            injection hb' with hb'
            subst hb'
            obtain ⟨N, a1, a2, a3⟩ := normLeafs_sim he (vs := cur.toList) (by simpa using g2) (fun i v p h1 h2 => by
              obtain ⟨u, hu, hr⟩ := g4 i p h2
              simp at h1
              rw [h1] at hu
              injection hu with hu
              exact hu ▸ hr) hx
            refine ⟨⟨boxId n.t, .pointer (some ⟨b, 0, none⟩), .box vs⟩ :: N, _, ⟨by simp [a1.ms], .one (fun k hk => ⟨_, hd, by simpa [ownB, hb, NE.blk] using hk⟩) a1.own, fun ok2 ho G' hG x hx => ?_, fun x hx cs hc => (List.mem_cons.1 hx).elim (fun hx => hx ▸ ⟨b, rfl⟩) (fun hx => a1.shape x hx cs hc), a1.frows⟩, rfl, fun ok2 G' _ hG _ => ?_⟩
            · have hG' : HoldsN G' N := fun y hy => hG y (List.mem_cons_of_mem _ hy)
              rcases List.mem_cons.1 hx with rfl | hx
              · obtain ⟨b', hb', hB⟩ := hG _ (List.mem_cons_self)
                injection hb' with hb'; injection hb' with hb'; injection hb' with hb'
                subst hb'
                refine ⟨b, hB, cur, ty, fz, g1, by rw [a2, g2], g3, fun i p hp => ?_⟩
                have hi : i < cur.size := by have := (List.getElem?_eq_some_iff.1 hp).1; rw [a2] at this; omega
                exact ⟨cur[i], by simp [hi], a3 ok2 G' ho hG' i _ p (by simp [hi]) hp⟩
              · exact a1.fits ok2 ho G' hG' x hx
            · obtain ⟨b', hb', hB⟩ := hG _ (List.mem_cons_self)
              injection hb' with hb'; injection hb' with hb'; injection hb' with hb'
              subst hb'
              exact .leaf (.pb off hB)
          · cases h
        · cases h
    · rename_i h1 h2 h3
      refine leaf hS h fun p hp hS' => ?_
      subst hp
      cases hS' with
      | leaf h => exact h
      | undef => simp [normLeaf, plainLeaf] at h
      | agg cells cs => exact absurd rfl (h1 cs)
      | fn f caps cs => exact absurd rfl (h2 f cs)
      | tup vs ps => simp [normLeaf, plainLeaf] at h
theorem normL_sim {S : St} {dup : Nat → Bool} {a : Act} (he : ∀ d e, S.at d = some e → EntOk w ok G d e) (hs : SlotsOk a w ok G S.slot) : ∀ {L : List NI} {sl : List (Nat × PV)} {ms : List (Nat × Ent)} {ds fs : List Nat}, normL S dup L = some (sl, ms, ds, fs) →
    ∃ N, Anew w ok S.at G ms ds fs N ∧ ∀ ok2 G', OkF S.at G ok ok2 fs → HoldsN G' N → LentB G G' → ∀ x ∈ sl, RepS w ok2 G' (a.eval (.tmp x.1)) x.2
  | [], sl, ms, ds, fs, h => by
    simp only [normL, Option.some.injEq, Prod.mk.injEq] at h
    obtain ⟨rfl, rfl, rfl, rfl⟩ := h
    exact ⟨[], .nil, by simp⟩
  | n :: r, sl, ms, ds, fs, h => by
    simp only [normL] at h
    split at h
    · rename_i x y hx hy
      obtain ⟨s1, m1, d1, f1⟩ := x
      obtain ⟨s2, m2, d2, f2⟩ := y
      simp only [Option.some.injEq, Prod.mk.injEq] at h
      obtain ⟨rfl, rfl, rfl, rfl⟩ := h
      obtain ⟨N, q, a1, rfl, a2⟩ := normI_sim he hs hx
      obtain ⟨N', b1, b2⟩ := normL_sim he hs hy
      refine ⟨N ++ N', a1.append b1, fun ok2 G' ho hG hL x hx => ?_⟩
      simp only [List.singleton_append, List.mem_cons] at hx
      rcases hx with rfl | hx
      · exact a2 ok2 G' ho.left hG.left hL
      · exact b2 ok2 G' ho.right hG.right hL x hx
    · cases h
theorem normLent_spec {S : St} : ∀ {n : Nat} {r : List (Nat × Ent)}, normLent S n = some r → ∀ x ∈ r, ∃ j cs, j < n ∧ x = (lentId j, ⟨true, .box cs⟩) ∧ S.at (lentId j) = some ⟨true, .box cs⟩ ∧ ∀ p ∈ cs, plainLeaf p = true
  | 0, r, h, x, hx => by simp [normLent] at h; subst h; simp at hx
  | n + 1, r, h, x, hx => by
    simp only [normLent] at h
    split at h
    · rename_i cs r' hd hr
      split at h
      · rename_i hall
        simp only [Option.some.injEq] at h
        subst h
        rcases List.mem_cons.1 hx with rfl | hx
        · exact ⟨n, cs, Nat.lt_succ_self _, rfl, hd, fun p hp => List.all_eq_true.1 hall p hp⟩
        · obtain ⟨j, cs', h1, h2⟩ := normLent_spec hr x hx
          exact ⟨j, cs', by omega, h2⟩
      · cases h
    · cases h
theorem nodupB_spec : ∀ {l : List Nat}, nodupB l = true → l.Nodup
  | [], _ => List.nodup_nil
  | x :: r, h => by
    simp only [nodupB, Bool.and_eq_true, Bool.not_eq_true'] at h
    rw [List.nodup_cons]
    refine ⟨fun hx => ?_, nodupB_spec h.2⟩
    have : (r.any fun y => y == x) = true := List.any_eq_true.2 ⟨x, hx, by simp⟩
    rw [h.1] at this; cases this
theorem get_mem {α : Type} : ∀ {l : List (Nat × α)} {i : Nat} {v : α}, get l i = some v → (i, v) ∈ l
  | [], i, v, h => by simp [get] at h
  | (k, u) :: r, i, v, h => by
    simp only [get] at h
    split at h
    · rename_i hk
      have hk : k = i := by simpa using hk
      subst hk
      injection h with h
      subst h
      exact List.mem_cons_self
    · exact List.mem_cons_of_mem _ (get_mem h)
theorem isLent_iff {d : Nat} : isLent d = true ↔ 16777216 ≤ d ∧ d < 33554432 := by
  simp only [isLent, Bool.and_eq_true, Nat.ble_eq, Nat.blt_eq]

theorem norm_sim {S S1 : St} {L : List NI} {nt : Nat} {a : Act} (hn : norm bl.length S L = some S1) (hb : bl.length ≤ 64) (h : Rel w0 bl A0 nt D S.fs a w) : S1.ep = 1 ∧ Rel w0 bl A0 nt (fun d => d < 1 * 33554432) S1.fs a w := by
  obtain ⟨⟨G, hR, hs, h5⟩, h3, h4⟩ := h
  unfold norm at hn
  dsimp only at hn
  split at hn
  · rename_i sl ms ds fs lent hl hlent
    split at hn
    · rename_i hc
      simp only [Option.some.injEq] at hn
      subst hn
      simp only [Bool.and_eq_true] at hc
      obtain ⟨⟨⟨⟨hnew, hdsn⟩, hlow⟩, hnl⟩, hfd⟩ := hc
      obtain ⟨N, A, hslots⟩ := normL_sim (G := G) hR.ent hs hl
      have hidn : (N.map (·.id)).Nodup := by
        have := nodupB_spec hnew
        rw [A.ms, List.map_map] at this
        exact this
      have hidl : ∀ x ∈ N, x.id < 16777216 := fun x hx => by
        have := List.all_eq_true.1 hlow (x.id, ⟨true, x.c⟩) (by rw [A.ms]; exact List.mem_map.2 ⟨x, hx, rfl⟩)
        simpa using this
      have hdsl : ∀ d ∈ ds, isLent d = false := fun d hd => by simpa using List.all_eq_true.1 hnl d hd
      let G0 : Gh := ⟨fun _ => none, fun d => if isLent d then G.B d else none, fun _ => 0, G.A⟩
      have hH : HoldsN (G0.withN N) N := Gh.withN_holds hidn A.shape
      have hout : ∀ d, 16777216 ≤ d → (G0.withN N).V d = none ∧ (G0.withN N).B d = G0.B d := fun d hd => by
        have := Gh.withN_out (G := G0) (N := N) (d := d) (fun x hx he => by have := hidl x hx; omega)
        exact ⟨this.1, this.2.1⟩
      have hLB : LentB G (G0.withN N) := fun d hd => by
        rw [(hout d (isLent_iff.1 hd).1).2]
        simp [G0, hd]
      -- what is at an id
      have hat : ∀ d e, atM ((ms ++ lent).map fun x => (x.1, some x.2)) d = some e → (∃ x ∈ N, d = x.id ∧ e = ⟨true, x.c⟩) ∨ ∃ (j : Nat) (cs : List PV), j < bl.length ∧ d = lentId j ∧ e = ⟨true, .box cs⟩ ∧ S.at (lentId j) = some ⟨true, .box cs⟩ ∧ ∀ p ∈ cs, plainLeaf p = true := fun d e he => by
        unfold atM at he
        split at he
        · rename_i e' hg
          subst he
          obtain ⟨x, hx, hxe⟩ := List.mem_map.1 (get_mem hg)
          injection hxe with hx1 hx2
          injection hx2 with hx2
          rcases List.mem_append.1 hx with hx | hx
          · rw [A.ms] at hx
            obtain ⟨y, hy, rfl⟩ := List.mem_map.1 hx
            exact .inl ⟨y, hy, hx1.symm, hx2.symm⟩
          · obtain ⟨j, cs, h1, rfl, h2, h3⟩ := normLent_spec hlent x hx
            exact .inr ⟨j, cs, h1, hx1.symm, hx2.symm, h2, h3⟩
        · cases he
      have hlentB : ∀ j, j < bl.length → isLent (lentId j) = true := fun j hj => isLent_iff.2 (by simp only [lentId]; omega)
      -- who owns a block owned it before
      have hown : ∀ d e k, atM ((ms ++ lent).map fun x => (x.1, some x.2)) d = some e → ownB (G0.withN N) d e = some k → (∃ x ∈ N, d = x.id ∧ x.blk = some k ∧ ∃ d0 ∈ ds, ∃ e0, S.at d0 = some e0 ∧ ownB G d0 e0 = some k) ∨ (isLent d = true ∧ ∃ e0, S.at d = some e0 ∧ ownB G d e0 = some k) := fun d e k he ho => by
        rcases hat d e he with ⟨x, hx, rfl, rfl⟩ | ⟨j, cs, hj, rfl, rfl, hS, _⟩
        · have hk : x.blk = some k := by
            have := hH x hx
            cases hc : x.c with
            | row e sz xs =>
              simp only [hc] at this
              simp only [hc, ownB, this.1, Option.bind_some] at ho
              simp only [NE.blk, hc]
              exact ho
            | box cs =>
              simp only [hc] at this
              obtain ⟨b, hb1, hb2⟩ := this
              simp only [hc, ownB, hb2] at ho
              simp only [NE.blk, hc, hb1]
              exact ho
          exact .inl ⟨x, hx, rfl, hk, A.own.owner x hx k hk⟩
        · refine .inr ⟨hlentB j hj, _, hS, ?_⟩
          simp only [ownB] at ho ⊢
          rw [← hLB _ (hlentB j hj)]
          exact ho
      have hownE : ∀ d e k, atM ((ms ++ lent).map fun x => (x.1, some x.2)) d = some e → ownB (G0.withN N) d e = some k → ∃ d0 e0, S.at d0 = some e0 ∧ ownB G d0 e0 = some k := fun d e k he ho => by
        rcases hown d e k he ho with ⟨_, _, _, _, d0, _, e0, h1, h2⟩ | ⟨_, e0, h1, h2⟩
        · exact ⟨d0, e0, h1, h2⟩
        · exact ⟨d, e0, h1, h2⟩
      have hok : ∀ k, okP w S.at G k → okP w (atM ((ms ++ lent).map fun x => (x.1, some x.2))) (G0.withN N) k := fun k hk => ⟨hk.1, hk.2.1, fun d e he ho => by
        obtain ⟨d0, e0, h1, h2⟩ := hownE d e k he ho
        exact hk.2.2 d0 e0 h1 h2⟩
      have hF : OkF S.at G (okP w S.at G) (okP w (atM ((ms ++ lent).map fun x => (x.1, some x.2))) (G0.withN N)) fs := ⟨hok, fun d hd e k he ho => by
        refine ⟨hR.all k (hR.new d e k he ho), (hR.ent d e he).lt ho, fun d1 e1 he1 ho1 => ?_⟩
        rcases hown d1 e1 k he1 ho1 with ⟨_, _, _, _, d0, hd0, e0, h1, h2⟩ | ⟨hL, e0, h1, h2⟩
        · have := hR.sep d0 d e0 e k h1 he h2 ho
          subst this
          have h3 : (ds.any fun x => x == d0) = true := List.any_eq_true.2 ⟨d0, hd0, by simp⟩
          have h4 := List.all_eq_true.1 hfd d0 hd
          rw [h3] at h4
          cases h4
        · have := hR.sep d1 d e0 e k h1 he h2 ho
          subst this
          rcases hat d1 e1 he1 with ⟨x, hx, hxd, _⟩ | ⟨j, cs, hj, hxd, _, hS, _⟩
          · have := hidl x hx
            have := (isLent_iff.1 hL).1
            omega
          · obtain ⟨e2, sz2, xs2, h5⟩ := A.frows d1 hd
            rw [hxd, hS] at h5
            cases h5⟩
      have hadv : Adv w (okP w S.at G) (G0.withN N) w (okP w (atM ((ms ++ lent).map fun x => (x.1, some x.2))) (G0.withN N)) (G0.withN N) := ⟨fun _ _ h => h, fun _ _ h => h, fun _ _ => rfl, fun k hk => ⟨hok k hk, rfl⟩, rfl⟩
      refine ⟨rfl, ⟨G0.withN N, ⟨fun d e he => ?_, fun d d' e e' k he he' ho ho' => ?_, fun d hd => ?_, fun d e k he ho => ?_, hR.kept, fun j b hj => ?_, hR.all⟩, fun t p hp => ?_, h5⟩, h3, h4⟩
      · rcases hat d e he with ⟨x, hx, rfl, rfl⟩ | ⟨j, cs, hj, rfl, rfl, hS, hpl⟩
        · exact A.fits _ hF _ hH x hx
        · obtain ⟨b, hb, cur, ty, fz, g1, g2, g3, g4⟩ := hR.ent _ _ hS
          refine ⟨b, (hLB _ (hlentB j hj)).trans hb, cur, ty, fz, g1, g2, g3, fun i p hp => ?_⟩
          obtain ⟨u, hu, hr⟩ := g4 i p hp
          have hpp := hpl p (List.mem_of_getElem? hp)
          exact ⟨u, hu, .pl (((RepS.leaf hr).rep hpp).mono hadv.ok) hpp⟩
      · rcases hown d e k he ho with ⟨x, hx, rfl, hxk, d0, hd0, e0, h1, h2⟩ | ⟨hL, e0, h1, h2⟩ <;> rcases hown d' e' k he' ho' with ⟨x', hx', rfl, hxk', d1, hd1, e1, h1', h2'⟩ | ⟨hL', e1, h1', h2'⟩
        · rw [inj_of_nodup (A.own.nodup hR.sep (nodupB_spec hdsn)) x hx x' hx' k hxk hxk']
        · have := hR.sep d0 d' e0 e1 k h1 h1' h2 h2'
          subst this
          rw [hdsl _ hd0] at hL'; cases hL'
        · have := hR.sep d d1 e0 e1 k h1 h1' h2 h2'
          subst this
          rw [hdsl _ hd1] at hL; cases hL
        · exact hR.sep d d' e0 e1 k h1 h1' h2 h2'
      · show d < 1 * 33554432
        by_cases hd2 : 16777216 ≤ d
        · obtain ⟨o1, o2⟩ := hout d hd2
          rw [o1, o2] at hd
          have : isLent d = true := by
            cases hL : isLent d with
            | true => rfl
            | false => simp [G0, hL] at hd
          have := (isLent_iff.1 this).2
          omega
        · omega
      · obtain ⟨d0, e0, h1, h2⟩ := hownE d e k he ho
        exact hR.new d0 e0 k h1 h2
      · have hj' : j < bl.length := (List.getElem?_eq_some_iff.1 hj).1
        rw [hLB _ (hlentB j hj')]
        exact hR.lent j b hj
      · exact hslots _ _ hF hH hLB (t, p) (get_mem hp)
    · cases hn
  · cases hn
end Go.Den
