/- Den, part C: how the machine's world stands to the evaluator's entries; the one law by which both go on. -/
import Derived.Test.YtepofpmohiegpaaDenB
namespace Go.Den

def ownB (G : Gh) (d : Nat) (e : Ent) : Option Nat :=
  match e.own with
  | false => none
  | true => match e.c with | .row .. => (G.V d).bind Value.ownBlock | .box _ => G.B d
/-- Nobody's own; and, of these, those that may be read. -/
def frP (w : World) (m : Nat → Option Ent) (G : Gh) (k : Nat) : Prop := k < w.heap.size ∧ ∀ d e, m d = some e → ownB G d e ≠ some k
def okP (w : World) (m : Nat → Option Ent) (G : Gh) (k : Nat) : Prop := G.A k ∧ frP w m G k
def noFz (fz : Nat × Nat) (n : Nat) : Prop := fz.1 = fz.2 ∨ n ≤ fz.1
theorem noFz.out {fz : Nat × Nat} {n : Nat} (h : noFz fz n) {o : Nat} (ho : o < n) : ¬ (fz.1 ≤ o ∧ o < fz.2) := by
  rcases h with h | h <;> omega
theorem noFz_zero (n : Nat) : noFz (0, 0) n := .inl rfl

def RowAt (w : World) (ok : Nat → Prop) (v : Value) (e : TypeId) (sz : Nat) (xs : List (List PV)) : Prop :=
  (v = .slice none 0 0 ∧ xs = []) ∨ ∃ g c cur fz, v = .slice (some ⟨g, 0, none⟩) xs.length c ∧ w.heap[g]? = some (.cells cur e fz) ∧ xs.length ≤ c ∧ c * sz ≤ cur.size ∧ noFz fz cur.size ∧
    (∀ x ∈ xs, x.length = sz) ∧ (∀ x ∈ xs, ∀ p ∈ x, plainLeaf p = true) ∧ ∀ (i : Nat) x (j : Nat) p, xs[i]? = some x → x[j]? = some p → ∃ u, cur[i * sz + j]? = some u ∧ Rep w ok u p
def BoxAt (w : World) (ok : Nat → Prop) (G : Gh) (b : Nat) (cs : List PV) : Prop :=
  ∃ cur t fz, w.heap[b]? = some (.cells cur t fz) ∧ cur.size = cs.length ∧ noFz fz cur.size ∧ ∀ (j : Nat) p, cs[j]? = some p → ∃ u, cur[j]? = some u ∧ RepL w ok G u p
def EntOk (w : World) (ok : Nat → Prop) (G : Gh) (d : Nat) : Ent → Prop
  | ⟨true, .row e sz xs⟩ => ∃ v, G.V d = some v ∧ G.Z d = sz ∧ RowAt w ok v e sz xs
  | ⟨false, .row _ sz xs⟩ => ∃ v, G.V d = some v ∧ G.Z d = sz ∧ Rep w ok v (.sl sz xs) ∧ (xs ≠ [] → ∃ g c, v = .slice (some ⟨g, 0, none⟩) xs.length c)
  | ⟨true, .box cs⟩ => ∃ b, G.B d = some b ∧ BoxAt w ok G b cs
  | ⟨false, .box cs⟩ => ∃ b, G.B d = some b ∧ ∀ (j : Nat) p, cs[j]? = some p → ok b ∧ ∃ u, w.cell? ⟨b, j, none⟩ = some u ∧ RepL w ok G u p

theorem RowAt.mono {w w' : World} {ok ok' : Nat → Prop} {v e sz xs} (h : RowAt w ok v e sz xs) (hk : ∀ k, ok k → ok' k ∧ w'.heap[k]? = w.heap[k]?) (hg : ∀ k, v.ownBlock = some k → w'.heap[k]? = w.heap[k]?) : RowAt w' ok' v e sz xs := by
  rcases h with h | ⟨g, c, cur, fz, rfl, h1, h2, h3, h4, h5, h6, h7⟩
  · exact .inl h
  · refine .inr ⟨g, c, cur, fz, rfl, (hg g (by simp [Value.ownBlock])).trans h1, h2, h3, h4, h5, h6, fun i x j p hx hp => ?_⟩
    obtain ⟨u, hu, hr⟩ := h7 i x j p hx hp
    exact ⟨u, hu, hr.mono hk⟩
theorem EntOk.adv {w w' ok ok' G G' d e} (h : EntOk w ok G d e) (ha : Adv w ok G w' ok' G') (hg : ∀ k, ownB G d e = some k → w'.heap[k]? = w.heap[k]?) : EntOk w' ok' G' d e := by
  obtain ⟨own, c⟩ := e
  cases own <;> cases c with
  | row e sz xs =>
    obtain ⟨v, hv, hz, hr⟩ := h
    refine ⟨v, ha.V d v hv, (ha.Z d (by rw [hv]; simp)).trans hz, ?_⟩
    first
      | exact ⟨hr.1.mono ha.ok, hr.2⟩
      | exact hr.mono ha.ok (fun k hk => hg k (by simp [ownB, hv, hk]))
  | box cs =>
    obtain ⟨b, hb, hr⟩ := h
    refine ⟨b, ha.B d b hb, ?_⟩
    first
      | (intro j p hp
         obtain ⟨hok, u, hu, hrep⟩ := hr j p hp
         exact ⟨(ha.ok b hok).1, u, by rw [cell_congr (ha.ok b hok).2]; exact hu, hrep.adv ha⟩)
      | (obtain ⟨cur, t, fz, h1, h2, h3, h4⟩ := hr
         exact ⟨cur, t, fz, (hg b (by simp [ownB, hb])).trans h1, h2, h3, fun j p hp => let ⟨u, hu, hrep⟩ := h4 j p hp; ⟨u, hu, hrep.adv ha⟩⟩)

/-- Nothing that was there before the call has changed, but for what was lent. -/
structure Kept (w0 w : World) (bl : List Nat) : Prop where
  os : w.os = w0.os
  tape : w.tape = w0.tape
  output : w.output = w0.output
  size : w0.heap.size ≤ w.heap.size
  same : ∀ k, k < w0.heap.size → k ∉ bl → w.heap[k]? = w0.heap[k]?
theorem Kept.refl (w : World) (bl : List Nat) : Kept w w bl := ⟨rfl, rfl, rfl, Nat.le_refl _, fun _ _ _ => rfl⟩

structure RelW (w0 : World) (bl : List Nat) (D : Nat → Prop) (w : World) (m : Nat → Option Ent) (G : Gh) : Prop where
  ent : ∀ d e, m d = some e → EntOk w (okP w m G) G d e
  sep : ∀ d d' e e' k, m d = some e → m d' = some e' → ownB G d e = some k → ownB G d' e' = some k → d = d'
  dom : ∀ d, G.V d ≠ none ∨ G.B d ≠ none → D d
  new : ∀ d e k, m d = some e → ownB G d e = some k → w0.heap.size ≤ k ∨ k ∈ bl
  kept : Kept w0 w bl
  lent : ∀ (j : Nat) b, bl[j]? = some b → G.B (lentId j) = some b
  all : ∀ k, w0.heap.size ≤ k ∨ k ∈ bl → G.A k

theorem EntOk.lt {w ok G d e k} (h : EntOk w ok G d e) (ho : ownB G d e = some k) : k < w.heap.size := by
  obtain ⟨own, c⟩ := e
  cases own with
  | false => simp [ownB] at ho
  | true =>
    cases c with
    | row e sz xs =>
      obtain ⟨v, hv, hz, hr⟩ := h
      simp only [ownB, hv, Option.bind_some] at ho
      rcases hr with ⟨rfl, _⟩ | ⟨g, c, cur, fz, rfl, h1, _⟩
      · simp [Value.ownBlock] at ho
      · simp only [Value.ownBlock, Option.some.injEq] at ho
        subst ho
        exact (Array.getElem?_eq_some_iff.1 h1).1
    | box cs =>
      obtain ⟨b, hb, cur, t, fz, h1, _⟩ := h
      simp only [ownB, hb, Option.some.injEq] at ho
      subst ho
      exact (Array.getElem?_eq_some_iff.1 h1).1

/-- THE ONE LAW: the entries in U change, the others stay. -/
theorem RelW.step {w0 bl D w m G} (h : RelW w0 bl D w m G) (U : Nat → Prop) {w' : World} {m' : Nat → Option Ent} {G' : Gh} {D' : Nat → Prop}
    (hV : ∀ d, D d → G'.V d = G.V d ∧ G'.B d = G.B d ∧ G'.Z d = G.Z d) (hD : ∀ d, D d → D' d) (hdom : ∀ d, ¬ D d → G'.V d ≠ none ∨ G'.B d ≠ none → D' d)
    (hos : w'.os = w.os) (htape : w'.tape = w.tape) (hout : w'.output = w.output) (hsize : w.heap.size ≤ w'.heap.size)
    (hA : G'.A = G.A) (hX : ∀ k, frP w m G k → w'.heap[k]? = w.heap[k]?)
    (hm : ∀ d, ¬ U d → m' d = m d)
    (hother : ∀ d e, ¬ U d → m d = some e → ∀ k, ownB G d e = some k → w'.heap[k]? = w.heap[k]?)
    (hnewown : ∀ d e k, U d → m' d = some e → ownB G' d e = some k → ¬ frP w m G k ∧ (∀ d1 e1, ¬ U d1 → m d1 = some e1 → ownB G d1 e1 ≠ some k) ∧ (w0.heap.size ≤ k ∨ k ∈ bl))
    (hsep : ∀ d d' e e' k, U d → U d' → m' d = some e → m' d' = some e' → ownB G' d e = some k → ownB G' d' e' = some k → d = d')
    (hent : Adv w (okP w m G) G w' (okP w' m' G') G' → ∀ d e, U d → m' d = some e → EntOk w' (okP w' m' G') G' d e) :
    RelW w0 bl D' w' m' G' ∧ Adv w (okP w m G) G w' (okP w' m' G') G' := by
  have hDm : ∀ d e, m d = some e → D d := fun d e he => h.dom d (by
    have := h.ent d e he
    obtain ⟨own, c⟩ := e
    cases own <;> cases c <;> obtain ⟨x, hx, _⟩ := this <;> simp [hx])
  have hoB : ∀ d e, m d = some e → ownB G' d e = ownB G d e := fun d e he => by
    obtain ⟨h1, h2, _⟩ := hV d (hDm d e he)
    simp [ownB, h1, h2]
  have hadv : Adv w (okP w m G) G w' (okP w' m' G') G' := by
    refine ⟨fun d v hv => ?_, fun d b hb => ?_, fun d hd => (hV d (h.dom d (.inl hd))).2.2, fun k hk => ⟨⟨by rw [hA]; exact hk.1, Nat.lt_of_lt_of_le hk.2.1 hsize, fun d e he ho => ?_⟩, hX k hk.2⟩, hA⟩
    · rw [(hV d (h.dom d (.inl (by rw [hv]; simp)))).1]; exact hv
    · rw [(hV d (h.dom d (.inr (by rw [hb]; simp)))).2.1]; exact hb
    · by_cases hu : U d
      · exact (hnewown d e k hu he ho).1 hk.2
      · rw [hm d hu] at he
        rw [hoB d e he] at ho
        exact hk.2.2 d e he ho
  refine ⟨⟨fun d e he => ?_, fun d d' e e' k he he' ho ho' => ?_, fun d hd => ?_, fun d e k he ho => ?_, ⟨hos.trans h.kept.os, htape.trans h.kept.tape, hout.trans h.kept.output, Nat.le_trans h.kept.size hsize, fun k hk hb => ?_⟩, fun j b hj => hadv.B _ _ (h.lent j b hj), fun k hk => by rw [hA]; exact h.all k hk⟩, hadv⟩
  · by_cases hu : U d
    · exact hent hadv d e hu he
    · rw [hm d hu] at he
      exact (h.ent d e he).adv hadv (hother d e hu he)
  · by_cases hu : U d <;> by_cases hu' : U d'
    · exact hsep d d' e e' k hu hu' he he' ho ho'
    · rw [hm d' hu'] at he'; rw [hoB d' e' he'] at ho'
      exact absurd ho' ((hnewown d e k hu he ho).2.1 d' e' hu' he')
    · rw [hm d hu] at he; rw [hoB d e he] at ho
      exact absurd ho ((hnewown d' e' k hu' he' ho').2.1 d e hu he)
    · rw [hm d hu] at he; rw [hm d' hu'] at he'; rw [hoB d e he] at ho; rw [hoB d' e' he'] at ho'
      exact h.sep d d' e e' k he he' ho ho'
  · by_cases hd' : D d
    · exact hD d hd'
    · exact hdom d hd' hd
  · by_cases hu : U d
    · exact (hnewown d e k hu he ho).2.2
    · rw [hm d hu] at he; rw [hoB d e he] at ho
      exact h.new d e k he ho
  · have : frP w m G k := ⟨Nat.lt_of_lt_of_le hk h.kept.size, fun d e he ho => by
      rcases h.new d e k he ho with h1 | h1
      · omega
      · exact hb h1⟩
    exact (hX k this).trans (h.kept.same k hk hb)

/-- Only what was drawn has changed. -/
theorem RelW.drawn {w0 bl D w m G w'} (h : RelW w0 bl D w m G) (hh : w'.heap = w.heap) (hos : w'.os = w.os) (ht : w'.tape = w.tape) (ho : w'.output = w.output) :
    RelW w0 bl D w' m G ∧ Adv w (okP w m G) G w' (okP w' m G) G :=
  h.step (fun _ => False) (fun _ _ => ⟨rfl, rfl, rfl⟩) (fun _ hd => hd) (fun d _ hd => h.dom d hd) hos ht ho (by rw [hh]; exact Nat.le_refl _) rfl (fun k _ => by rw [hh]) (fun _ _ => rfl) (fun _ _ _ _ _ _ => by rw [hh])
    (fun _ _ _ hu => hu.elim) (fun _ _ _ _ _ hu => hu.elim) (fun _ _ _ hu => hu.elim)
/-- More ids may be thought of. -/
theorem RelW.widen {w0 bl w m G} {D D' : Nat → Prop} (h : RelW w0 bl D w m G) (hD : ∀ d, D d → D' d) : RelW w0 bl D' w m G :=
  ⟨h.ent, h.sep, fun d hd => hD d (h.dom d hd), h.new, h.kept, h.lent, h.all⟩

theorem RelW.free {w0 bl D w m G d} (h : RelW w0 bl D w m G) (hd : ¬ D d) : m d = none ∧ G.V d = none ∧ G.B d = none := by
  have h1 : G.V d = none := Classical.byContradiction fun hc => hd (h.dom d (.inl hc))
  have h2 : G.B d = none := Classical.byContradiction fun hc => hd (h.dom d (.inr hc))
  refine ⟨?_, h1, h2⟩
  cases hm : m d with
  | none => rfl
  | some e =>
    have := h.ent d e hm
    obtain ⟨own, c⟩ := e
    cases own <;> cases c <;> obtain ⟨x, hx, _⟩ := this <;> simp_all

def upd {α : Type} (f : Nat → α) (d : Nat) (x : α) : Nat → α := fun i => if i = d then x else f i
theorem upd_eq {α : Type} (f : Nat → α) (d : Nat) (x : α) : upd f d x d = x := by simp [upd]
theorem upd_ne {α : Type} (f : Nat → α) {d i : Nat} (x : α) (h : i ≠ d) : upd f d x i = f i := by simp [upd, h]

/-- A new block for a new id. -/
def Gh.withV (G : Gh) (d : Nat) (v : Value) (z : Nat) : Gh := { V := upd G.V d (some v), B := G.B, Z := upd G.Z d z, A := G.A }
def Gh.withB (G : Gh) (d b : Nat) : Gh := { V := G.V, B := upd G.B d (some b), Z := G.Z, A := G.A }

theorem heap_new (w : World) (o : Obj) : (w.alloc o).heap[w.heap.size]? = some o := by
  show (w.heap.push o)[w.heap.size]? = some o
  simp
theorem heap_old (w : World) (o : Obj) {k : Nat} (h : k < w.heap.size) : (w.alloc o).heap[k]? = w.heap[k]? := by
  show (w.heap.push o)[k]? = w.heap[k]?
  simp [Array.getElem?_push, Nat.ne_of_lt h]
theorem size_alloc (w : World) (o : Obj) : (w.alloc o).heap.size = w.heap.size + 1 := by
  show (w.heap.push o).size = _
  simp

/-- A new row. -/
theorem RelW.newRowG {w0 bl D w m G} (h : RelW w0 bl D w m G) {fid : Nat} (hf : ¬ D fid) {D' : Nat → Prop} (hD : ∀ d, D d → D' d) (hD' : D' fid)
    {w' : World} {fz : Nat × Nat} (cur : Array Value) (e sz c : Nat) (xs : List (List PV)) (hnew : w'.heap[w.heap.size]? = some (.cells cur e fz)) (hold : ∀ k, k < w.heap.size → w'.heap[k]? = w.heap[k]?) (hsz : w.heap.size ≤ w'.heap.size) (hos : w'.os = w.os) (htape : w'.tape = w.tape) (hout : w'.output = w.output) (hfz : noFz fz cur.size)
    (hc : xs.length ≤ c) (hcur : c * sz ≤ cur.size) (hz : ∀ x ∈ xs, x.length = sz) (hp : ∀ x ∈ xs, ∀ p ∈ x, plainLeaf p = true)
    (hr : ∀ (i : Nat) x (j : Nat) p, xs[i]? = some x → x[j]? = some p → ∃ u, cur[i * sz + j]? = some u ∧ Rep w (okP w m G) u p) :
    RelW w0 bl D' w' (upd m fid (some ⟨true, .row e sz xs⟩)) (G.withV fid (.slice (some ⟨w.heap.size, 0, none⟩) xs.length c) sz) ∧
    Adv w (okP w m G) G w' (okP w' (upd m fid (some ⟨true, .row e sz xs⟩)) (G.withV fid (.slice (some ⟨w.heap.size, 0, none⟩) xs.length c) sz)) (G.withV fid (.slice (some ⟨w.heap.size, 0, none⟩) xs.length c) sz) := by
  have hne : ∀ d, D d → d ≠ fid := fun d hd he => hf (he ▸ hd)
  refine h.step (fun d => d = fid) (fun d hd => ⟨by simp [Gh.withV, upd_ne _ _ (hne d hd)], rfl, by simp [Gh.withV, upd_ne _ _ (hne d hd)]⟩) hD (fun d hd hv => ?_) hos htape hout hsz rfl (fun k hk => hold k hk.1)
    (fun d hd => upd_ne _ _ hd) (fun d e1 hd he k ho => hold k ((h.ent d e1 he).lt ho)) (fun d e1 k hu he ho => ?_) (fun d d' _ _ _ hu hu' => fun _ _ _ _ => hu.trans hu'.symm) (fun ha d e1 hu he => ?_)
  · by_cases hdf : d = fid
    · exact hdf ▸ hD'
    · have := h.free hd
      simp [Gh.withV, upd_ne _ _ hdf, this] at hv
  · subst hu
    simp only [upd_eq, Option.some.injEq] at he
    subst he
    simp only [ownB, Gh.withV, upd_eq, Option.bind_some, Value.ownBlock, Option.some.injEq] at ho
    subst ho
    exact ⟨fun hk => Nat.lt_irrefl _ hk.1, fun d1 e1 _ h1 ho => Nat.lt_irrefl _ ((h.ent d1 e1 h1).lt ho), .inl h.kept.size⟩
  · subst hu
    simp only [upd_eq, Option.some.injEq] at he
    subst he
    refine ⟨_, by simp [Gh.withV, upd_eq], by simp [Gh.withV, upd_eq], .inr ⟨_, c, cur, fz, rfl, hnew, hc, hcur, hfz, hz, hp, fun i x j p hx hp => ?_⟩⟩
    obtain ⟨u, hu, hrep⟩ := hr i x j p hx hp
    exact ⟨u, hu, hrep.mono ha.ok⟩
theorem RelW.newRow {w0 bl D w m G} (h : RelW w0 bl D w m G) {fid : Nat} (hf : ¬ D fid) {D' : Nat → Prop} (hD : ∀ d, D d → D' d) (hD' : D' fid)
    (cur : Array Value) (e sz c : Nat) (xs : List (List PV)) (hc : xs.length ≤ c) (hcur : c * sz ≤ cur.size) (hz : ∀ x ∈ xs, x.length = sz) (hp : ∀ x ∈ xs, ∀ p ∈ x, plainLeaf p = true)
    (hr : ∀ (i : Nat) x (j : Nat) p, xs[i]? = some x → x[j]? = some p → ∃ u, cur[i * sz + j]? = some u ∧ Rep w (okP w m G) u p) :
    RelW w0 bl D' (w.alloc (.cells cur e (0, 0))) (upd m fid (some ⟨true, .row e sz xs⟩)) (G.withV fid (.slice (some ⟨w.heap.size, 0, none⟩) xs.length c) sz) ∧
    Adv w (okP w m G) G (w.alloc (.cells cur e (0, 0))) (okP (w.alloc (.cells cur e (0, 0))) (upd m fid (some ⟨true, .row e sz xs⟩)) (G.withV fid (.slice (some ⟨w.heap.size, 0, none⟩) xs.length c) sz)) (G.withV fid (.slice (some ⟨w.heap.size, 0, none⟩) xs.length c) sz) :=
  h.newRowG hf hD hD' cur e sz c xs (heap_new w _) (fun _ hk => heap_old w _ hk) (by rw [size_alloc]; exact Nat.le_succ _) rfl rfl rfl (noFz_zero _) hc hcur hz hp hr

/-- A new variable. -/
theorem RelW.newBox {w0 bl D w m G} (h : RelW w0 bl D w m G) {fid : Nat} (hf : ¬ D fid) {D' : Nat → Prop} (hD : ∀ d, D d → D' d) (hD' : D' fid)
    (cur : Array Value) (t : TypeId) (cs : List PV) (hs : cur.size = cs.length)
    (hr : ∀ (j : Nat) p, cs[j]? = some p → ∃ u, cur[j]? = some u ∧ RepL w (okP w m G) G u p) :
    RelW w0 bl D' (w.alloc (.cells cur t (0, 0))) (upd m fid (some ⟨true, .box cs⟩)) (G.withB fid w.heap.size) ∧
    Adv w (okP w m G) G (w.alloc (.cells cur t (0, 0))) (okP (w.alloc (.cells cur t (0, 0))) (upd m fid (some ⟨true, .box cs⟩)) (G.withB fid w.heap.size)) (G.withB fid w.heap.size) := by
  have hne : ∀ d, D d → d ≠ fid := fun d hd he => hf (he ▸ hd)
  refine h.step (fun d => d = fid) (fun d hd => ⟨rfl, by simp [Gh.withB, upd_ne _ _ (hne d hd)], rfl⟩) hD (fun d hd hv => ?_) rfl rfl rfl (by rw [size_alloc]; exact Nat.le_succ _) rfl (fun k hk => heap_old w _ hk.1)
    (fun d hd => upd_ne _ _ hd) (fun d e1 hd he k ho => heap_old w _ ((h.ent d e1 he).lt ho)) (fun d e1 k hu he ho => ?_) (fun d d' _ _ _ hu hu' => fun _ _ _ _ => hu.trans hu'.symm) (fun ha d e1 hu he => ?_)
  · by_cases hdf : d = fid
    · exact hdf ▸ hD'
    · have := h.free hd
      simp [Gh.withB, upd_ne _ _ hdf, this] at hv
  · subst hu
    simp only [upd_eq, Option.some.injEq] at he
    subst he
    simp only [ownB, Gh.withB, upd_eq, Option.some.injEq] at ho
    subst ho
    exact ⟨fun hk => Nat.lt_irrefl _ hk.1, fun d1 e1 _ h1 ho => Nat.lt_irrefl _ ((h.ent d1 e1 h1).lt ho), .inl h.kept.size⟩
  · subst hu
    simp only [upd_eq, Option.some.injEq] at he
    subst he
    refine ⟨w.heap.size, by simp [Gh.withB, upd_eq], cur, t, (0, 0), heap_new w _, hs, noFz_zero _, fun j p hp => ?_⟩
    obtain ⟨u, hu, hrep⟩ := hr j p hp
    exact ⟨u, hu, hrep.adv ha⟩
end Go.Den
