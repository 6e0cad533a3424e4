/- Den, part T: states as functions; one step; what a step looks at. -/
import Derived.Test.YtepofpmohiegpaaDenS
namespace Go.Den
variable {P : Program} {w0 w : World} {bl : List Nat} {A0 : Nat → Prop} {D D' : Nat → Prop} {m m1 : Nat → Option Ent} {G : Gh}

structure FS where
  g : Nat → Option PV
  m : Nat → Option Ent
def updO (g : Nat → Option PV) (dst : Option Tmp) (v : PV) : Nat → Option PV := match dst with | some t => upd g t (some v) | none => g
def FS.put (F : FS) (dst : Option Tmp) (v : PV) (wr : Wr) : FS := ⟨updO F.g dst v, putF F.m wr⟩
def St.fs (S : St) : FS := ⟨S.slot, S.at⟩
theorem get_cons {α : Type} (k : Nat) (v : α) (r : List (Nat × α)) : get ((k, v) :: r) = upd (get r) k (some v) := by
  funext i
  simp only [get, upd]
  by_cases h : k = i
  · subst h; simp
  · rw [if_neg (by simpa using h), if_neg (fun e => h e.symm)]
theorem atM_cons (k : Nat) (e : Option Ent) (r : List (Nat × Option Ent)) : atM ((k, e) :: r) = upd (atM r) k e := by
  funext i
  simp only [atM, get_cons, upd]
  by_cases h : i = k
  · simp [h]
  · simp [h]
theorem at_putM (m : List (Nat × Option Ent)) (d : Nat) (x : W1) : atM (putM m d x) = putF (atM m) [(d, x)] := by
  cases x with
  | set c => simp [putM, putF, atM_cons]
  | del => simp [putM, putF, atM_cons]
  | fz =>
    simp only [putM, putF]
    cases atM m d with
    | none => rfl
    | some e => simp [atM_cons]
theorem at_putMs : ∀ (wr : Wr) (m : List (Nat × Option Ent)), atM (putMs m wr) = putF (atM m) wr
  | [], _ => rfl
  | (d, x) :: r, m => by
    rw [putMs, at_putMs r, at_putM, ← putF_append]
    rfl
theorem St.fs_put (S : St) (dst : Option Tmp) (v : PV) (wr : Wr) : (S.put dst v wr).fs = S.fs.put dst v wr := by
  have h1 : (S.put dst v wr).at = putF S.at wr := at_putMs wr S.mem
  have h2 : (S.put dst v wr).slot = updO S.slot dst v := by
    cases dst with
    | none => rfl
    | some t => exact get_cons t v S.sl
  simp only [St.fs, FS.put, h1, h2]

def wantF (ops : Array Oper) (o : Oper) (g : Nat → Option PV) : Option Bool :=
  match o.guard with
  | none => some true
  | some (j, want) =>
    match ops[j]? with
    | some q =>
      match q.dst with
      | some t =>
        match g t with
        | some (.bool b) => some (b == want)
        | some .undef => some false
        | _ => none
      | none => none
    | none => none
def stepF (E : Env) (call : Call) (ops : Array Oper) (ep i : Nat) (o : Oper) (F : FS) : Option ((PV × Wr) × List Nat × List Nat) :=
  match wantF ops o F.g with
  | none => none
  | some false => some ((.undef, []), [], [])
  | some true => (opSem E call (ep * 33554432 + i * 64) F.g o.op).run F.m
theorem stepO_spec {E : Env} {call : Call} {ops : Array Oper} {i : Nat} {o : Oper} {S S1 : St} {t : Tr} (h : stepO E call ops i o S = some (S1, t)) :
    ∃ v wr rc ro, stepF E call ops S.ep i o S.fs = some ((v, wr), rc, ro) ∧ S1 = S.put o.dst v wr ∧ t = ⟨rc, ro, wrHard wr, wrSoft wr⟩ := by
  have hw : wantsO ops o S = wantF ops o S.fs.g := rfl
  unfold stepO at h
  rw [hw] at h
  unfold stepF
  split at h
  · cases h
  · rename_i hx
    injection h with h
    injection h with h1 h2
    exact ⟨.undef, [], [], [], by rw [hx], h1.symm, by rw [← h2]; rfl⟩
  · rename_i hx
    rw [hx]
    split at h
    · rename_i v wr rc ro hr
      injection h with h
      injection h with h1 h2
      exact ⟨v, wr, rc, ro, hr, h1.symm, h2.symm⟩
    · cases h

/-! ### the machine's side -/
structure Rel (w0 : World) (bl : List Nat) (A0 : Nat → Prop) (n : Nat) (D : Nat → Prop) (F : FS) (a : Act) (w : World) : Prop where
  ex : ∃ G, RelW w0 bl D w F.m G ∧ SlotsOk a w (okP w F.m G) G F.g ∧ G.A = A0
  size : a.tmps.size = n
  defers : a.defers = []
theorem Rel.widen {w0 bl A0 n D F a w} {D' : Nat → Prop} (h : Rel w0 bl A0 n D F a w) (hD : ∀ d, D d → D' d) : Rel w0 bl A0 n D' F a w := by
  obtain ⟨⟨G, h1, h2, h5⟩, h3, h4⟩ := h
  exact ⟨⟨G, h1.widen hD, h2, h5⟩, h3, h4⟩
theorem Rel.drawn {w0 bl A0 n D F a w} (h : Rel w0 bl A0 n D F a w) : Rel w0 bl A0 n D F a { w with drawn := w.drawn + 1 } := by
  obtain ⟨⟨G, h1, h2, h5⟩, h3, h4⟩ := h
  obtain ⟨k1, k2⟩ := h1.drawn (w' := { w with drawn := w.drawn + 1 }) rfl rfl rfl rfl
  exact ⟨⟨G, k1, fun t p hp => (h2 t p hp).adv k2, h5⟩, h3, h4⟩
theorem eval_put_tmp {a : Act} {d t : Tmp} {v : Value} (hd : d < a.tmps.size) : (a.put (some d) v).eval (.tmp t) = if t = d then v else a.eval (.tmp t) := by
  simp only [Act.put, Act.eval, Array.getD_eq_getD_getElem?, Array.getElem?_setIfInBounds]
  by_cases h : d = t
  · subst h; simp [hd]
  · rw [if_neg h, if_neg (fun e : t = d => h e.symm)]
theorem slots_put {a : Act} {w w' : World} {ok ok' : Nat → Prop} {G G' : Gh} {g : Nat → Option PV} (hs : SlotsOk a w ok G g) (ha : Adv w ok G w' ok' G') {dst : Option Tmp} {v : PV} {v' : Value} (hd : ∀ t, dst = some t → t < a.tmps.size) (hv : RepS w' ok' G' v' v) :
    SlotsOk (a.put dst v') w' ok' G' (updO g dst v) := by
  intro t p hp
  cases dst with
  | none => exact (hs t p hp).adv ha
  | some d =>
    rw [eval_put_tmp (hd d rfl)]
    simp only [updO, upd] at hp
    split at hp
    · injection hp with hp; subst hp; rename_i h; rw [if_pos h]; exact hv
    · rename_i h; rw [if_neg h]; exact (hs t p hp).adv ha
theorem put_size (a : Act) (dst : Option Tmp) (v : Value) : (a.put dst v).tmps.size = a.tmps.size ∧ (a.put dst v).defers = a.defers := by
  cases dst <;> simp [Act.put]
theorem RepS.undefd {ok v} (h : RepS w ok G v .undef) : v = Go.undef := by
  cases h with
  | undef => rfl
  | leaf h => cases h with | pl h hp => simp [plainLeaf] at hp
theorem wantF_run {ops : Array Oper} {o : Oper} {a : Act} {ok} {g : Nat → Option PV} (hs : SlotsOk a w ok G g) {b : Bool} (h : wantF ops o g = some b) : Region.wanted o (yielded ops a.tmps) = b := by
  unfold wantF at h
  unfold Region.wanted
  cases hg : o.guard with
  | none => simp [hg] at h; simp [h]
  | some x =>
    obtain ⟨j, want⟩ := x
    simp only [hg] at h ⊢
    split at h
    · rename_i q hq
      split at h
      · rename_i t ht
        split at h
        · rename_i c hc
          have := (hs t _ hc).bool
          simp only [Act.eval, Array.getD_eq_getD_getElem?] at this
          have hy : yielded ops a.tmps j = some c := by
            unfold yielded
            simp only [hq, ht, Option.bind_some]
            cases ht' : a.tmps[t]? with
            | none => rw [ht'] at this; simp [Go.undef] at this
            | some u => rw [ht'] at this; simp at this; rw [this]
          simp only [Option.some.injEq] at h
          subst h
          rw [hy]
          cases c <;> cases want <;> rfl
        · rename_i hc
          have := (hs t _ hc).undefd
          simp only [Act.eval, Array.getD_eq_getD_getElem?] at this
          have hy : yielded ops a.tmps j = none := by
            unfold yielded
            simp only [hq, ht, Option.bind_some]
            cases ht' : a.tmps[t]? with
            | none => rfl
            | some u => rw [ht'] at this; simp at this; rw [this]; rfl
          simp only [Option.some.injEq] at h
          subst h
          rw [hy]
          rfl
        · cases h
      · cases h
    · cases h
theorem step_sim {E : Env} {call : Call} (hS : Sound E call) {n : Nat} {F : FS} {a : Act} {ops : Array Oper} {ep i : Nat} {o : Oper} (h : Rel w0 bl A0 n D F a w) (hf : Fr D D' (ep * 33554432 + i * 64)) (hd : ∀ t, o.dst = some t → t < n)
    {v : PV} {wr : Wr} {rc ro : List Nat} (hst : stepF E call ops ep i o F = some ((v, wr), rc, ro)) :
    if Region.wanted o (yielded ops a.tmps) then Does E.P o a w (fun v' w' => Rel w0 bl A0 n D' (F.put o.dst v wr) (a.put o.dst v') w') else Rel w0 bl A0 n D' (F.put o.dst v wr) (a.put o.dst Go.undef) w := by
  obtain ⟨⟨G, h1, h2, h5⟩, h3, h4⟩ := h
  have hdst : ∀ t, o.dst = some t → t < a.tmps.size := fun t ht => by rw [h3]; exact hd t ht
  unfold stepF at hst
  split at hst
  · cases hst
  · rename_i hw
    rw [wantF_run h2 hw]
    injection hst with hst
    injection hst with hst1 hst2
    injection hst1 with hst1 hst3
    subst hst1; subst hst3
    simp only [Bool.false_eq_true, if_false]
    refine ⟨⟨G, h1.widen hf.sub, slots_put h2 (Adv.refl _ _ _) hdst .undef, h5⟩, (put_size ..).1.trans h3, (put_size ..).2.trans h4⟩
  · rename_i hw
    rw [wantF_run h2 hw]
    simp only [if_true]
    refine (opSem_sim hS h1 hf h2 hst).mono fun v' w' ⟨G', k1, k2, k3⟩ => ⟨⟨G', k1, slots_put h2 k2 hdst k3, k2.A.trans h5⟩, (put_size ..).1.trans h3, (put_size ..).2.trans h4⟩

/-! ### what a step looks at -/
theorem run_local {α : Type} : ∀ {x : RM α} {m m' : Nat → Option Ent} {b : α} {l o}, x.run m = some (b, l, o) → (∀ d ∈ l, (m' d).map (·.c) = (m d).map (·.c)) → (∀ d ∈ o, m' d = m d) → x.run m' = some (b, l, o) := by
  intro x
  induction x with
  | ret a => intro m m' b l o h _ _; exact h
  | fail => intro m m' b l o h _ _; exact h
  | rdc d k ih =>
    intro m m' b l o h hl ho
    simp only [RM.run] at h ⊢
    cases hm : m d with
    | none => simp [hm] at h
    | some e =>
      simp only [hm] at h
      cases hk : (k e.c).run m with
      | none => simp [hk] at h
      | some y =>
        obtain ⟨b', l', o'⟩ := y
        simp only [hk, Option.some.injEq, Prod.mk.injEq] at h
        obtain ⟨rfl, rfl, rfl⟩ := h
        have h1 := hl d (List.mem_cons_self)
        rw [hm] at h1
        cases hm' : m' d with
        | none => rw [hm'] at h1; simp at h1
        | some e' =>
          rw [hm'] at h1
          simp only [Option.map_some, Option.some.injEq] at h1
          simp only [h1]
          rw [ih _ hk (fun d hd => hl d (List.mem_cons_of_mem _ hd)) ho]
  | own d k ih =>
    intro m m' b l o h hl ho
    simp only [RM.run] at h ⊢
    cases hm : m d with
    | none => simp [hm] at h
    | some e =>
      obtain ⟨ow, c⟩ := e
      cases ow with
      | false => simp [hm] at h
      | true =>
        simp only [hm] at h
        cases hk : (k c).run m with
        | none => simp [hk] at h
        | some y =>
          obtain ⟨b', l', o'⟩ := y
          simp only [hk, Option.some.injEq, Prod.mk.injEq] at h
          obtain ⟨rfl, rfl, rfl⟩ := h
          have h1 := ho d (List.mem_cons_self)
          rw [hm] at h1
          rw [h1]
          simp only
          rw [ih _ hk hl (fun d hd => ho d (List.mem_cons_of_mem _ hd))]
theorem evOp_congr {g g' : Nat → Option PV} {x : Operand} (h : ∀ t, x = .tmp t → g t = g' t) : evOp g x = evOp g' x := by
  cases x with
  | tmp t => exact h t rfl
  | _ => rfl
theorem evOps_congr {g g' : Nat → Option PV} : ∀ {xs : List Operand}, (∀ t, .tmp t ∈ xs → g t = g' t) → evOps g xs = evOps g' xs
  | [], _ => rfl
  | x :: r, h => by
    rw [evOps, evOps, evOp_congr (g := g) (g' := g') fun t ht => h t (by simp [ht]), evOps_congr (xs := r) fun t ht => h t (List.mem_cons_of_mem _ ht)]
theorem evParts_congr {g g' : Nat → Option PV} : ∀ {xs : List (Nat × Operand)}, (∀ t, .tmp t ∈ xs.map (·.2) → g t = g' t) → evParts g xs = evParts g' xs
  | [], _ => rfl
  | (i, x) :: r, h => by
    rw [evParts, evParts, evOp_congr (g := g) (g' := g') fun t ht => h t (by simp [ht]), evParts_congr (xs := r) fun t ht => h t (by simp only [List.map_cons]; exact List.mem_cons_of_mem _ ht)]
theorem opSem_congr {E : Env} {call : Call} {fid : Nat} {g g' : Nat → Option PV} {op : Op} (h : ∀ t, .tmp t ∈ op.operands → g t = g' t) : opSem E call fid g op = opSem E call fid g' op := by
  have ev : ∀ x ∈ op.operands, evOp g x = evOp g' x := fun x hx => evOp_congr fun t ht => h t (ht ▸ hx)
  cases op with
  | move x => simp only [opSem, ev x (by simp [Op.operands])]
  | assign x => simp only [opSem, ev x (by simp [Op.operands])]
  | pick c x y => simp only [opSem, ev c (by simp [Op.operands]), ev x (by simp [Op.operands]), ev y (by simp [Op.operands])]
  | alloc t => rfl
  | box t x => simp only [opSem, ev x (by simp [Op.operands])]
  | build t ps => simp only [opSem, evParts_congr (g := g) (g' := g') (xs := ps.toList) fun t ht => h t (by simpa [Op.operands] using ht)]
  | buildSlice t n ps => simp only [opSem, evParts_congr (g := g) (g' := g') (xs := ps.toList) fun t ht => h t (by simpa [Op.operands] using ht)]
  | load t x => simp only [opSem, ev x (by simp [Op.operands])]
  | store t x y => simp only [opSem, ev x (by simp [Op.operands]), ev y (by simp [Op.operands])]
  | nilCheck x => simp only [opSem, ev x (by simp [Op.operands])]
  | binOp op t x y t2 => simp only [opSem, ev x (by simp [Op.operands]), ev y (by simp [Op.operands])]
  | unOp op t x => simp only [opSem, ev x (by simp [Op.operands])]
  | convert s t x => simp only [opSem, ev x (by simp [Op.operands])]
  | makeFunc fn first caps =>
    cases fn with
    | func f => simp only [opSem, evOps_congr (g := g) (g' := g') (xs := caps.toList) fun t ht => h t (by simp only [Op.operands, Array.mem_append]; exact .inr (by simpa using ht))]
    | _ => rfl
  | makeSlice t x y => simp only [opSem, ev x (by simp [Op.operands]), ev y (by simp [Op.operands])]
  | slice t x lo hi mx =>
    have h1 : lo.map (evOp g) = lo.map (evOp g') := by cases lo with | none => rfl | some y => simp [ev y (by simp [Op.operands])]
    have h2 : hi.map (evOp g) = hi.map (evOp g') := by cases hi with | none => rfl | some y => simp [ev y (by simp [Op.operands])]
    have h3 : mx.map (evOp g) = mx.map (evOp g') := by cases mx with | none => rfl | some y => simp [ev y (by simp [Op.operands])]
    simp only [opSem, ev x (by simp [Op.operands]), h1, h2, h3]
  | fieldAddr t x j => simp only [opSem, ev x (by simp [Op.operands])]
  | field t x j => simp only [opSem, ev x (by simp [Op.operands])]
  | indexAddr t x i => simp only [opSem, ev x (by simp [Op.operands]), ev i (by simp [Op.operands])]
  | index t x i => simp only [opSem, ev x (by simp [Op.operands]), ev i (by simp [Op.operands])]
  | extract x j => simp only [opSem, ev x (by simp [Op.operands])]
  | call c =>
    have h1 := evOps_congr (g := g) (g' := g') (xs := c.args.toList) fun t ht => h t (by simp only [Op.operands, Call.operands, Array.mem_append]; exact .inr (by simpa using ht))
    simp only [opSem, h1]
    cases hc : c.callee with
    | value x => simp only [ev x (by simp [Op.operands, Call.operands, hc])]
    | _ => rfl
  | _ => rfl
theorem mem_looksAt_op {ops : Array Oper} {o : Oper} {t : Tmp} (h : .tmp t ∈ o.op.operands) : t ∈ o.looksAt ops :=
  List.mem_append_left _ (List.mem_filterMap.2 ⟨.tmp t, by simpa using h, rfl⟩)
theorem wantF_congr {ops : Array Oper} {o : Oper} {g g' : Nat → Option PV} (h : ∀ t ∈ o.looksAt ops, g t = g' t) : wantF ops o g = wantF ops o g' := by
  unfold wantF
  cases hg : o.guard with
  | none => rfl
  | some x =>
    obtain ⟨j, want⟩ := x
    simp only
    cases hq : ops[j]? with
    | none => rfl
    | some q =>
      simp only
      cases ht : q.dst with
      | none => rfl
      | some t =>
        simp only
        rw [h t (List.mem_append_right _ (by simp [hg, hq, ht]))]
theorem stepF_local {E : Env} {call : Call} {ops : Array Oper} {ep i : Nat} {o : Oper} {F F' : FS} {x : PV × Wr} {rc ro : List Nat} (h : stepF E call ops ep i o F = some (x, rc, ro)) (hg : ∀ t ∈ o.looksAt ops, F'.g t = F.g t)
    (hl : ∀ d ∈ rc, (F'.m d).map (·.c) = (F.m d).map (·.c)) (ho : ∀ d ∈ ro, F'.m d = F.m d) : stepF E call ops ep i o F' = some (x, rc, ro) := by
  unfold stepF at *
  rw [wantF_congr hg, opSem_congr (g := F'.g) (g' := F.g) fun t ht => hg t (mem_looksAt_op ht)]
  split at h
  · cases h
  · exact h
  · exact run_local h hl ho
end Go.Den
