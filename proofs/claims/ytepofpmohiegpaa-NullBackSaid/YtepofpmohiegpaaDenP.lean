/- Den, part P: what a call hands back, and how the caller takes it in. -/
import Derived.Test.YtepofpmohiegpaaDenO
namespace Go.Den
variable {P : Program}

/-! ### what is handed back -/
inductive RXL (w : World) (ok : Nat → Prop) : Value → PV → List Nat → Prop
  | pl {v p} (h : Rep w ok v p) (hp : plainLeaf p = true) : RXL w ok v p []
  | nil (e : TypeId) (sz : Nat) : RXL w ok (.slice none 0 0) (.nr e sz []) []
  | nr {g c e sz xs} (h : RowAt w ok (.slice (some ⟨g, 0, none⟩) xs.length c) e sz xs) : RXL w ok (.slice (some ⟨g, 0, none⟩) xs.length c) (.nr e sz xs) [g]
inductive RXs (w : World) (ok : Nat → Prop) : List Value → List PV → List Nat → Prop
  | nil : RXs w ok [] [] []
  | cons {v p b vs ps bs} (h : RXL w ok v p b) (r : RXs w ok vs ps bs) : RXs w ok (v :: vs) (p :: ps) (b ++ bs)
inductive RXV (w : World) (ok : Nat → Prop) : Value → PV → List Nat → Prop
  | leaf {v p b} (h : RXL w ok v p b) : RXV w ok v p b
  | agg {cells : Array Value} {cs bs} (h : RXs w ok cells.toList cs bs) : RXV w ok (.agg cells) (.agg cs) bs
  | fn (f : FuncId) (caps : Array Value) (cs : List PV) (hl : caps.size = cs.length) (hv : ∀ (j : Nat) v p, caps[j]? = some v → cs[j]? = some p → Rep w ok v p ∧ plainLeaf p = true) : RXV w ok (.func (.func f) #[] caps) (.fn f cs) []
  | nb {b cur t fz cs bs} (hh : w.heap[b]? = some (.cells cur t fz)) (hz : noFz fz cur.size) (h : RXs w ok cur.toList cs bs) : RXV w ok (.pointer (some ⟨b, 0, none⟩)) (.nb cs) (b :: bs)
inductive RXVs (w : World) (ok : Nat → Prop) : List Value → List PV → List Nat → Prop
  | nil : RXVs w ok [] [] []
  | cons {v p b vs ps bs} (h : RXV w ok v p b) (r : RXVs w ok vs ps bs) : RXVs w ok (v :: vs) (p :: ps) (b ++ bs)
inductive RXR (w : World) (ok : Nat → Prop) : Value → PV → List Nat → Prop
  | one {v p b} (h : RXV w ok v p b) : RXR w ok v p b
  | tup {vs : Array Value} {ps bs} (h : RXVs w ok vs.toList ps bs) : RXR w ok (.tuple vs) (.tup ps) bs
inductive LX (w : World) (ok : Nat → Prop) : List Nat → List (List PV) → List Nat → Prop
  | nil : LX w ok [] [] []
  | cons {b cur t fz cs bl lent b1 bs} (hh : w.heap[b]? = some (.cells cur t fz)) (hz : noFz fz cur.size) (h : RXs w ok cur.toList cs b1) (r : LX w ok bl lent bs) : LX w ok (b :: bl) (cs :: lent) (b1 ++ bs)

/-! ### taken in -/
structure NE where
  id : Nat
  v : Value
  c : Cont
def NE.blk (x : NE) : Option Nat :=
  match x.c with
  | .row .. => x.v.ownBlock
  | .box _ => match x.v with | .pointer (some a) => some a.block | _ => none
def HoldsN (G : Gh) (N : List NE) : Prop := ∀ x ∈ N, match x.c with
  | .row _ sz _ => G.V x.id = some x.v ∧ G.Z x.id = sz
  | .box _ => ∃ b, x.v = .pointer (some ⟨b, 0, none⟩) ∧ G.B x.id = some b
/-- What is taken in: these ids from j on, these blocks. -/
structure Taken (fid j : Nat) (wr : Wr) (j' : Nat) (bs : List Nat) (N : List NE) : Prop where
  wr : wr = N.map fun x => (x.id, .set x.c)
  j' : j' = j + N.length
  ids : N.map (·.id) = (List.range' (fid + j) N.length)
  blks : N.filterMap NE.blk = bs
  shape : ∀ x ∈ N, ∀ cs, x.c = .box cs → ∃ b, x.v = .pointer (some ⟨b, 0, none⟩)
theorem Taken.nil (fid j : Nat) : Taken fid j [] j [] [] := ⟨rfl, rfl, rfl, rfl, by simp⟩
theorem Taken.append {fid j wr j1 bs N wr' j2 bs' N'} (h : Taken fid j wr j1 bs N) (k : Taken fid j1 wr' j2 bs' N') : Taken fid j (wr ++ wr') j2 (bs ++ bs') (N ++ N') := by
  refine ⟨by rw [h.wr, k.wr, List.map_append], by rw [k.j', h.j', List.length_append]; omega, ?_, by rw [List.filterMap_append, h.blks, k.blks], fun x hx cs hc => ?_⟩
  case refine_2 => exact (List.mem_append.1 hx).elim (fun hx => h.shape x hx cs hc) (fun hx => k.shape x hx cs hc)
  rw [List.map_append, h.ids, k.ids, List.length_append, h.j', ← Nat.add_assoc, List.range'_append_1]

def Fits (w : World) (ok : Nat → Prop) (N : List NE) : Prop := ∀ G, HoldsN G N → ∀ x ∈ N, EntOk w ok G x.id ⟨true, x.c⟩
theorem HoldsN.left {G N N'} (h : HoldsN G (N ++ N')) : HoldsN G N := fun x hx => h x (by simp [hx])
theorem HoldsN.right {G N N'} (h : HoldsN G (N ++ N')) : HoldsN G N' := fun x hx => h x (by simp [hx])
theorem Fits.append {w ok N N'} (h : Fits w ok N) (k : Fits w ok N') : Fits w ok (N ++ N') := fun G hG x hx => by
  rcases List.mem_append.1 hx with hx | hx
  · exact h G hG.left x hx
  · exact k G hG.right x hx

theorem impLeaf_sim {w ok v p b} (h : RXL w ok v p b) (fid j : Nat) : ∃ N p' wr j', impLeaf fid j p = (p', wr, j') ∧ Taken fid j wr j' b N ∧ Fits w ok N ∧ ∀ G, HoldsN G N → RepL w ok G v p' := by
  cases h with
  | pl h hp =>
    have : impLeaf fid j p = (p, [], j) := by cases p <;> simp_all [impLeaf, plainLeaf]
    exact ⟨[], p, [], j, this, Taken.nil _ _, fun _ _ x hx => by simp at hx, fun G _ => .pl h hp⟩
  | nil e sz =>
    refine ⟨[⟨fid + j, .slice none 0 0, .row e sz []⟩], _, _, _, rfl, ⟨rfl, rfl, by simp, by simp [NE.blk, Value.ownBlock], by simp⟩, fun G hG x hx => ?_, fun G hG => ?_⟩
    · simp at hx; subst hx
      obtain ⟨h1, h2⟩ := hG _ (List.mem_singleton.2 rfl)
      exact ⟨_, h1, h2, .inl ⟨rfl, rfl⟩⟩
    · exact .h (hG _ (List.mem_singleton.2 rfl)).1 rfl
  | nr h =>
    rename_i g c e sz xs
    refine ⟨[⟨fid + j, .slice (some ⟨g, 0, none⟩) xs.length c, .row e sz xs⟩], _, _, _, rfl, ⟨rfl, rfl, by simp, by simp [NE.blk, Value.ownBlock], by simp⟩, fun G hG x hx => ?_, fun G hG => ?_⟩
    · simp at hx; subst hx
      obtain ⟨h1, h2⟩ := hG _ (List.mem_singleton.2 rfl)
      exact ⟨_, h1, h2, h⟩
    · exact .h (hG _ (List.mem_singleton.2 rfl)).1 rfl
theorem impL_sim {w ok vs ps bs} (h : RXs w ok vs ps bs) (fid : Nat) : ∀ j, ∃ N ps' wr j', impL fid j ps = (ps', wr, j') ∧ Taken fid j wr j' bs N ∧ Fits w ok N ∧ ps'.length = vs.length ∧ ∀ G, HoldsN G N → ∀ (i : Nat) v p, vs[i]? = some v → ps'[i]? = some p → RepL w ok G v p := by
  induction h with
  | nil => exact fun j => ⟨[], [], [], j, rfl, Taken.nil _ _, fun _ _ x hx => by simp at hx, rfl, by simp⟩
  | cons h r ih =>
    intro j
    obtain ⟨N, p', wr, j1, e1, t1, f1, r1⟩ := impLeaf_sim h fid j
    obtain ⟨N', ps', wr', j2, e2, t2, f2, l2, r2⟩ := ih j1
    refine ⟨N ++ N', p' :: ps', wr ++ wr', j2, by simp [impL, e1, e2], t1.append t2, f1.append f2, by simp [l2], fun G hG i v p hv hp => ?_⟩
    cases i with
    | zero => simp at hv hp; subst hv; subst hp; exact r1 G hG.left
    | succ i => exact r2 G hG.right i v p (by simpa using hv) (by simpa using hp)
theorem impV_sim {w ok v p b} (h : RXV w ok v p b) (fid j : Nat) : ∃ N p' wr j', impV fid j p = (p', wr, j') ∧ Taken fid j wr j' b N ∧ Fits w ok N ∧ ∀ G, HoldsN G N → RepS w ok G v p' := by
  cases h with
  | leaf h =>
    obtain ⟨N, p', wr, j1, e1, t1, f1, r1⟩ := impLeaf_sim h fid j
    refine ⟨N, p', wr, j1, ?_, t1, f1, fun G hG => .leaf (r1 G hG)⟩
    rw [← e1]
    cases h with
    | pl h hp => cases p <;> simp_all [impV, plainLeaf]
    | nil => rfl
    | nr => rfl
  | agg h =>
    rename_i cells cs
    obtain ⟨N, ps', wr, j1, e1, t1, f1, l1, r1⟩ := impL_sim h fid j
    exact ⟨N, .agg ps', wr, j1, by simp [impV, e1], t1, f1, fun G hG => .agg _ _ (by rw [l1]; simp) (fun i v p hv hp => r1 G hG i v p (by simpa using hv) hp)⟩
  | fn f caps cs hl hv =>
    exact ⟨[], .fn f cs, [], j, rfl, Taken.nil _ _, fun _ _ x hx => by simp at hx, fun G _ => .fn f caps cs hl (fun i v p h1 h2 => .pl (hv i v p h1 h2).1 (hv i v p h1 h2).2)⟩
  | nb hh hz h =>
    rename_i b cur t fz cs bs
    obtain ⟨N, ps', wr, j1, e1, t1, f1, l1, r1⟩ := impL_sim h fid (j + 1)
    refine ⟨⟨fid + j, .pointer (some ⟨b, 0, none⟩), .box ps'⟩ :: N, .pb (fid + j) 0, (fid + j, .set (.box ps')) :: wr, j1, by simp [impV, e1], ⟨by simp [t1.wr], by rw [t1.j', List.length_cons]; omega, ?_, by simp [NE.blk, t1.blks], fun x hx cs hc => (List.mem_cons.1 hx).elim (fun hx => hx ▸ ⟨b, rfl⟩) (fun hx => t1.shape x hx cs hc)⟩, fun G hG x hx => ?_, fun G hG => ?_⟩
    · rw [List.map_cons, t1.ids, List.length_cons, List.range'_succ]
      rfl
    · rcases List.mem_cons.1 hx with rfl | hx
      · obtain ⟨b', hb', hB⟩ := hG _ (List.mem_cons_self)
        injection hb' with hb'; injection hb' with hb'; injection hb' with hb'
        subst hb'
        refine ⟨b, hB, cur, t, fz, hh, by rw [l1]; simp, hz, fun i p hp => ?_⟩
        have hi : i < cur.size := by have := (List.getElem?_eq_some_iff.1 hp).1; rw [l1] at this; simpa using this
        exact ⟨cur[i], by simp [hi], r1 G (fun y hy => hG y (by simp [hy])) i _ p (by simp [hi]) hp⟩
      · exact f1 G (fun y hy => hG y (by simp [hy])) x hx
    · obtain ⟨b', hb', hB⟩ := hG _ (List.mem_cons_self)
      injection hb' with hb'; injection hb' with hb'; injection hb' with hb'
      subst hb'
      exact .leaf (.pb 0 hB)
theorem impVs_sim {w ok vs ps bs} (h : RXVs w ok vs ps bs) (fid : Nat) : ∀ j, ∃ N ps' wr j', impVs fid j ps = (ps', wr, j') ∧ Taken fid j wr j' bs N ∧ Fits w ok N ∧ ps'.length = vs.length ∧ ∀ G, HoldsN G N → ∀ (i : Nat) v p, vs[i]? = some v → ps'[i]? = some p → RepS w ok G v p := by
  induction h with
  | nil => exact fun j => ⟨[], [], [], j, rfl, Taken.nil _ _, fun _ _ x hx => by simp at hx, rfl, by simp⟩
  | cons h r ih =>
    intro j
    obtain ⟨N, p', wr, j1, e1, t1, f1, r1⟩ := impV_sim h fid j
    obtain ⟨N', ps', wr', j2, e2, t2, f2, l2, r2⟩ := ih j1
    refine ⟨N ++ N', p' :: ps', wr ++ wr', j2, by simp [impVs, e1, e2], t1.append t2, f1.append f2, by simp [l2], fun G hG i v p hv hp => ?_⟩
    cases i with
    | zero => simp at hv hp; subst hv; subst hp; exact r1 G hG.left
    | succ i => exact r2 G hG.right i v p (by simpa using hv) (by simpa using hp)
theorem impR_sim {w ok v p b} (h : RXR w ok v p b) (fid j : Nat) : ∃ N p' wr j', impR fid j p = (p', wr, j') ∧ Taken fid j wr j' b N ∧ Fits w ok N ∧ ∀ G, HoldsN G N → RepS w ok G v p' := by
  cases h with
  | one h =>
    obtain ⟨N, p', wr, j1, e1, t1, f1, r1⟩ := impV_sim h fid j
    refine ⟨N, p', wr, j1, ?_, t1, f1, r1⟩
    rw [← e1]
    cases h with
    | leaf h => cases h with
      | pl h hp => cases p <;> simp_all [impR, plainLeaf]
      | nil => rfl
      | nr => rfl
    | agg => rfl
    | fn => rfl
    | nb => rfl
  | tup h =>
    obtain ⟨N, ps', wr, j1, e1, t1, f1, l1, r1⟩ := impVs_sim h fid j
    exact ⟨N, .tup ps', wr, j1, by simp [impR, e1], t1, f1, fun G hG => .tup _ _ (by rw [l1]; simp) (fun i v p hv hp => r1 G hG i v p (by simpa using hv) hp)⟩
/-- The lent ones: new contents. -/
theorem impB_sim {w ok bl lent bs} (h : LX w ok bl lent bs) (fid : Nat) : ∀ (j : Nat) (ds : List Nat), ds.length = bl.length → ∃ (N : List NE) (wb : Wr) (j' : Nat) (css : List (List PV)) (wr : Wr), impB fid j ds lent = some (wb, j') ∧ Taken fid j wr j' bs N ∧ Fits w ok N ∧ css.length = ds.length ∧
    (∀ x, x ∈ wb ↔ x ∈ wr ∨ ∃ (i : Nat) (d : Nat) (cs : List PV), ds[i]? = some d ∧ css[i]? = some cs ∧ x = (d, .set (.box cs))) ∧
    ∀ (G : Gh), HoldsN G N → ∀ (i : Nat) b cs, bl[i]? = some b → css[i]? = some cs → BoxAt w ok G b cs := by
  induction h with
  | nil =>
    intro j ds hd
    have : ds = [] := List.length_eq_zero_iff.1 hd
    subst this
    exact ⟨[], [], j, [], [], rfl, Taken.nil _ _, fun _ _ x hx => by simp at hx, rfl, by simp, by simp⟩
  | cons hh hz h r ih =>
    intro j ds hd
    rename_i b cur t fz cs bl lent b1 bs
    cases ds with
    | nil => simp at hd
    | cons d ds =>
      obtain ⟨N, ps', wr, j1, e1, t1, f1, l1, r1⟩ := impL_sim h fid j
      obtain ⟨N', wb, j2, css, wr', e2, t2, f2, l2, m2, r2⟩ := ih j1 ds (by simpa using hd)
      refine ⟨N ++ N', (d, .set (.box ps')) :: wr ++ wb, j2, ps' :: css, wr ++ wr', by simp [impB, e1, e2], t1.append t2, f1.append f2, by simp [l2], fun x => ?_, fun G hG i b' cs' hb' hcs' => ?_⟩
      · simp only [List.cons_append, List.mem_cons, List.mem_append, m2]
        constructor
        · rintro (rfl | hx | hx | ⟨i, d', cs', h1, h2, h3⟩)
          · exact .inr ⟨0, d, ps', rfl, rfl, rfl⟩
          · exact .inl (.inl hx)
          · exact .inl (.inr hx)
          · exact .inr ⟨i + 1, d', cs', by simpa using h1, by simpa using h2, h3⟩
        · rintro ((hx | hx) | ⟨i, d', cs', h1, h2, h3⟩)
          · exact .inr (.inl hx)
          · exact .inr (.inr (.inl hx))
          · cases i with
            | zero => simp at h1 h2; subst h1; subst h2; exact .inl h3
            | succ i => exact .inr (.inr (.inr ⟨i, d', cs', by simpa using h1, by simpa using h2, h3⟩))
      · cases i with
        | zero =>
          simp at hb' hcs'
          subst hb'; subst hcs'
          refine ⟨cur, t, fz, hh, by rw [l1]; simp, hz, fun i p hp => ?_⟩
          have hi : i < cur.size := by have := (List.getElem?_eq_some_iff.1 hp).1; rw [l1] at this; simpa using this
          exact ⟨cur[i], by simp [hi], r1 G hG.left i _ p (by simp [hi]) hp⟩
        | succ i => exact r2 G hG.right i b' cs' (by simpa using hb') (by simpa using hcs')
end Go.Den
