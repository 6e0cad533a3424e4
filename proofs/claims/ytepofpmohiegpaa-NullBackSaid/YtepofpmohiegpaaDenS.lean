/- Den, part S: every operation. -/
import Derived.Test.YtepofpmohiegpaaDenR
namespace Go.Den
variable {P : Program} {w0 w : World} {bl : List Nat} {D D' : Nat → Prop} {m m1 : Nat → Option Ent} {G : Gh}

/-- What the machine does at an operation. -/
def Does (P : Program) (o : Oper) (a : Act) (w : World) (R : Value → World → Prop) : Prop :=
  (∃ v w', (execOp a.eval o).run P w = .ok (.value v) w' ∧ R v w') ∨ (∃ w', (execOp a.eval o).run P w = .ok .skip w' ∧ R Go.undef w') ∨
  ∃ f args, (execOp a.eval o).run P w = .ok (.enter f args) w ∧ Calls P f args w fun e w' => ∃ v, e = .returned v ∧ R v w'
theorem Does.wp {o : Oper} {a : Act} {R : Value → World → Prop} {K : Act → World → Prop} {Q : Exit → Act → World → Prop} (h : Does P o a w R) (hk : ∀ v w', R v w' → K (a.put o.dst v) w') : o.wp P a w K Q := by
  unfold Oper.wp
  rcases h with ⟨v, w', h1, h2⟩ | ⟨w', h1, h2⟩ | ⟨f, args, h1, h2⟩
  · rw [h1]; exact hk v w' h2
  · rw [h1]; exact hk _ w' h2
  · rw [h1, Oper.upon_enter]
    exact h2.mono fun e w' ⟨v, he, hr⟩ => by subst he; exact hk v w' hr
theorem Does.mono {o : Oper} {a : Act} {R R' : Value → World → Prop} (h : Does P o a w R) (hk : ∀ v w', R v w' → R' v w') : Does P o a w R' := by
  rcases h with ⟨v, w', h1, h2⟩ | ⟨w', h1, h2⟩ | ⟨f, args, h1, h2⟩
  · exact .inl ⟨v, w', h1, hk _ _ h2⟩
  · exact .inr (.inl ⟨w', h1, hk _ _ h2⟩)
  · exact .inr (.inr ⟨f, args, h1, h2.mono fun e w' ⟨v, he, hr⟩ => ⟨v, he, hk _ _ hr⟩⟩)

theorem builtinSem_sim (h : RelW w0 bl D w m G) {fid : Nat} (hf : Fr D D' fid) {b : Builtin} {ts : Array TypeId} {ty : TypeId} {cb : Array Bool} {args : List PV} {vs : Array Value} (ha : ArgsOk w (okP w m G) G vs args)
    {v : PV} {wr : Wr} {l o} (hr : (builtinSem P fid b ts args).run m = some ((v, wr), l, o)) :
    ∃ v' w', (builtin b ts ty cb vs).run P w = .ok (.value v') w' ∧ After w0 bl D' w m G v wr v' w' := by
  have one : ∀ {p}, args = [p] → ∃ u, vs = #[u] ∧ RepS w (okP w m G) G u p := fun {p} he => by
    subst he
    have := ha.1
    have hu : ∃ u, vs = #[u] := by
      rcases vs with ⟨_ | ⟨u, _ | ⟨u', r⟩⟩⟩ <;> simp at this
      exact ⟨u, rfl⟩
    obtain ⟨u, rfl⟩ := hu
    exact ⟨u, rfl, ha.2 0 u p rfl rfl⟩
  have two : ∀ {p q}, args = [p, q] → ∃ u x, vs = #[u, x] ∧ RepS w (okP w m G) G u p ∧ RepS w (okP w m G) G x q := fun {p q} he => by
    subst he
    have := ha.1
    have hu : ∃ u x, vs = #[u, x] := by
      rcases vs with ⟨_ | ⟨u, _ | ⟨u', _ | ⟨u'', r⟩⟩⟩⟩ <;> simp at this
      exact ⟨u, u', rfl⟩
    obtain ⟨u, x, rfl⟩ := hu
    exact ⟨u, x, rfl, ha.2 0 u p rfl rfl, ha.2 1 x q rfl rfl⟩
  unfold builtinSem at hr
  split at hr
  · split at hr
    · obtain ⟨u, rfl, hu⟩ := one rfl
      obtain ⟨v', h1, h2⟩ := lenS_sim (ty := ty) h hf.sub hr hu
      exact ⟨v', w, by simp [builtin, h1], h2⟩
    · exact (run_fail hr).elim
  · obtain ⟨v', h1, h2⟩ := minmax_sim (P := P) (ts := ts) (ty := ty) h hf.sub hr ha.1 ha.2
    exact ⟨v', w, by simp only at h1; simp [builtin, h1], h2⟩
  · obtain ⟨v', h1, h2⟩ := minmax_sim (P := P) (ts := ts) (ty := ty) h hf.sub hr ha.1 ha.2
    exact ⟨v', w, by simp only at h1; simp [builtin, h1], h2⟩
  · split at hr
    · split at hr
      · rename_i hts
        obtain ⟨u, x, rfl, hu, hx⟩ := two rfl
        have ht : ∃ t t', ts = #[t, t'] := by
          have : ts.size = 2 := by simpa using hts
          rcases ts with ⟨_ | ⟨t, _ | ⟨t', _ | ⟨t'', r⟩⟩⟩⟩ <;> simp at this
          exact ⟨t, t', rfl⟩
        obtain ⟨t, t', ht⟩ := ht
        obtain ⟨v', w', h1, h2⟩ := appendS_sim (ty := ty) h hf ht hr hu hx
        exact ⟨v', w', by simp [builtin, h1], h2⟩
      · exact (run_fail hr).elim
    · exact (run_fail hr).elim
  · exact (run_fail hr).elim

theorem run_callFunc_enter {f : FuncId} (h : Entered P f) (args : Array Value) : (callFunc f args).run P w = .ok (.enter f args) w := by
  obtain ⟨fn, h1, h2, h3⟩ := h
  have h4 : fn.body ≠ none := by intro h; simp [h] at h3
  simp [callFunc, h1, h2, h4]

theorem RepS.leafOf {ok v p} (h : RepS w ok G v p) (hp : okLeaf p = true) : RepL w ok G v p := by
  cases h with
  | leaf h => exact h
  | _ => simp [okLeaf] at hp
theorem run_v {s : Sem Value} {v : Value} {w' : World} (h : s.run P w = .ok v w') : (do pure (Next.value (← s)) : Sem Next).run P w = .ok (.value v) w' := by
  simp [h]
theorem opSem_sim {E : Env} {call : Call} (hS : Sound E call) (h : RelW w0 bl D w m G) {fid : Nat} (hf : Fr D D' fid) {a : Act} {g : Nat → Option PV} (hs : SlotsOk a w (okP w m G) G g) {oo : Oper}
    {v : PV} {wr : Wr} {l o} (hr : (opSem E call fid g oo.op).run m = some ((v, wr), l, o)) : Does E.P oo a w (After w0 bl D' w m G v wr) := by
  obtain ⟨dst, op, ty, pos, aft, grd⟩ := oo
  simp only at hr
  have ev : ∀ {x p}, evOp g x = some p → RepS w (okP w m G) G (a.eval x) p := fun hx => evOp_rep hs hx
  have quiet : ∀ {v v'}, RepS w (okP w m G) G v' v → After w0 bl D' w m G v [] v' w := fun hv => After.quiet h hf.sub hv
  have move : ∀ {x}, (retO (evOp g x)).run m = some ((v, wr), l, o) → After w0 bl D' w m G v wr (a.eval x) w := fun hr => by
    obtain ⟨h1, rfl⟩ := run_retO hr
    exact quiet (ev h1)
  cases op with
  | move x => exact .inl ⟨a.eval x, w, by simp [execOp], move hr⟩
  | assign x => exact .inl ⟨a.eval x, w, by simp [execOp], move hr⟩
  | pick c x y =>
    simp only [opSem] at hr
    split at hr
    · rename_i t hc
      have hb := (ev hc).bool
      cases t with
      | true => exact .inl ⟨a.eval x, w, by simp [execOp, hb, asBool], move hr⟩
      | false => exact .inl ⟨a.eval y, w, by simp [execOp, hb, asBool], move hr⟩
    · exact (run_fail hr).elim
  | alloc t =>
    simp only [opSem] at hr
    split at hr
    · rename_i cs hz
      have h1 := (run_ret hr).1
      injection h1 with h1 h2
      subst h1; subst h2
      obtain ⟨v', w', h1, h2⟩ := alloc_sim (P := E.P) h hf hz
      exact .inl ⟨v', w', by simp [execOp, h1], h2⟩
    · exact (run_fail hr).elim
  | box t x =>
    obtain ⟨cs, l1, o1, l2, o2, hx, hr, _, _⟩ := run_bind hr
    have hx := run_of hx
    have h1 := (run_ret hr).1
    injection h1 with h1 h2
    subst h1; subst h2
    cases he : evOp g x with
    | none => simp [he] at hx
    | some p =>
      simp only [he, Option.bind_some] at hx
      obtain ⟨v', w', h1, h2⟩ := box_sim (P := E.P) h hf (t := t) (ev he) hx
      exact .inl ⟨v', w', by simp [execOp, h1], h2⟩
  | build t ps =>
    obtain ⟨cs, l1, o1, l2, o2, hx, hr, _, _⟩ := run_bind hr
    have hp := evParts_ok hs (run_of hx)
    obtain ⟨v', h1, h2⟩ := buildS_sim (vs := ps.map fun x => (x.1, a.eval x.2)) h hf.sub hr (by simpa using hp)
    exact .inl ⟨v', w, by simp [execOp, h1], h2⟩
  | buildSlice t n ps =>
    obtain ⟨cs, l1, o1, l2, o2, hx, hr, _, _⟩ := run_bind hr
    have hp := evParts_ok hs (run_of hx)
    obtain ⟨v', w', h1, h2⟩ := buildSliceS_sim (vs := ps.map fun x => (x.1, a.eval x.2)) h hf hr (by simpa using hp)
    exact .inl ⟨v', w', by simp [execOp, h1], h2⟩
  | load t x =>
    obtain ⟨p, l1, o1, l2, o2, hx, hr, _, _⟩ := run_bind hr
    obtain ⟨v', h1, h2⟩ := loadS_sim h hf.sub hr (ev (run_of hx))
    exact .inl ⟨v', w, by simp [execOp, h1], h2⟩
  | store t x y =>
    obtain ⟨p, l1, o1, l2, o2, hx, hr, _, _⟩ := run_bind hr
    obtain ⟨q, l3, o3, l4, o4, hy, hr, _, _⟩ := run_bind hr
    have hy := run_of hy
    cases he : evOp g y with
    | none => simp [he] at hy
    | some p' =>
      simp only [he, Option.bind_some] at hy
      obtain ⟨rfl, w', h1, h2⟩ := storeS_sim h hf.sub hr (ev (run_of hx)) ((ev he).leaves hy)
      exact .inr (.inl ⟨w', by simp [execOp, h1], h2⟩)
  | nilCheck x =>
    obtain ⟨p, l1, o1, l2, o2, hx, hr, _, _⟩ := run_bind hr
    split at hr
    · rename_i hp
      have h1 := (run_ret hr).1
      injection h1 with h1 h2
      subst h1; subst h2
      have hS := ev (run_of hx)
      obtain ⟨ad, had⟩ := nilCheck_sim hS hp
      rw [had] at hS
      exact .inl ⟨_, w, by simp [execOp, had], quiet hS⟩
    · exact (run_fail hr).elim
  | binOp op t x y t2 =>
    obtain ⟨p, l1, o1, l2, o2, hx, hr, _, _⟩ := run_bind hr
    obtain ⟨q, l3, o3, l4, o4, hy, hr, _, _⟩ := run_bind hr
    obtain ⟨hv, rfl⟩ := run_retO hr
    obtain ⟨v', h1, h2⟩ := evBin_run hv (ev (run_of hx)) (ev (run_of hy)) x y
    exact .inl ⟨v', w, run_v h1, quiet h2⟩
  | unOp op t x =>
    obtain ⟨p, l1, o1, l2, o2, hx, hr, _, _⟩ := run_bind hr
    obtain ⟨hv, rfl⟩ := run_retO hr
    obtain ⟨v', h1, h2⟩ := evUn_run (P := E.P) hv (ev (run_of hx))
    exact .inl ⟨v', w, by simp [execOp, h1], quiet h2⟩
  | convert s t x =>
    obtain ⟨p, l1, o1, l2, o2, hx, hr, _, _⟩ := run_bind hr
    obtain ⟨v', w', h1, h2⟩ := convS_sim h hf hr (ev (run_of hx))
    exact .inl ⟨v', w', by simp [execOp, h1], h2⟩
  | makeFunc fn first caps =>
    cases fn with
    | func f =>
      simp only [opSem] at hr
      split at hr
      · rename_i hfi
        split at hr
        · rename_i cs hc
          split at hr
          case isFalse => exact (run_fail hr).elim
          rename_i hok
          have h1 := (run_ret hr).1
          injection h1 with h1 h2
          subst h1; subst h2
          have hfi : first = #[] := by simpa using hfi
          subst hfi
          obtain ⟨c1, c2⟩ := evOps_rep hs hc
          refine .inl ⟨.func (.func f) #[] (caps.map a.eval), w, by simp [execOp, Instr.makeFunc], quiet (.fn f _ cs (by simpa using c1) fun j v p h1 h2 => (c2 j v p (by simpa using h1) h2).leafOf (List.all_eq_true.1 hok p (List.mem_of_getElem? h2)))⟩
        · exact (run_fail hr).elim
      · exact (run_fail hr).elim
    | _ => exact (run_fail hr).elim
  | makeSlice t x y =>
    obtain ⟨p, l1, o1, l2, o2, hx, hr, _, _⟩ := run_bind hr
    obtain ⟨q, l3, o3, l4, o4, hy, hr, _, _⟩ := run_bind hr
    obtain ⟨v', w', h1, h2⟩ := makeS_sim h hf hr (ev (run_of hx)) (ev (run_of hy))
    exact .inl ⟨v', w', by simp [execOp, h1], h2⟩
  | slice t x lo hi mx =>
    obtain ⟨p, l1, o1, l2, o2, hx, hr, _, _⟩ := run_bind hr
    obtain ⟨v', w', h1, h2⟩ := sliceS_sim h hf.sub hr (ev (run_of hx)) (bdOk_map hs lo) (bdOk_map hs hi) (bdOk_map hs mx)
    exact .inl ⟨v', w', by simp [execOp, h1], h2⟩
  | fieldAddr t x j =>
    obtain ⟨p, l1, o1, l2, o2, hx, hr, _, _⟩ := run_bind hr
    obtain ⟨v', h1, h2⟩ := fieldAddrS_sim h hf.sub hr (ev (run_of hx))
    exact .inl ⟨v', w, by simp [execOp, h1], h2⟩
  | field t x j =>
    obtain ⟨p, l1, o1, l2, o2, hx, hr, _, _⟩ := run_bind hr
    split at hr
    · rename_i off ft cs hf1
      obtain ⟨hv, rfl⟩ := run_retO hr
      obtain ⟨v', h1, h2⟩ := fieldS_sim h hf.sub hf1 hv (ev (run_of hx))
      exact .inl ⟨v', w, by simp [execOp, h1], h2⟩
    · exact (run_fail hr).elim
  | indexAddr t x i =>
    obtain ⟨p, l1, o1, l2, o2, hx, hr, _, _⟩ := run_bind hr
    obtain ⟨q, l3, o3, l4, o4, hy, hr, _, _⟩ := run_bind hr
    obtain ⟨v', h1, h2⟩ := indexAddrS_sim h hf.sub hr (ev (run_of hx)) (ev (run_of hy))
    exact .inl ⟨v', w, by simp [execOp, h1], h2⟩
  | index t x i =>
    obtain ⟨p, l1, o1, l2, o2, hx, hr, _, _⟩ := run_bind hr
    obtain ⟨q, l3, o3, l4, o4, hy, hr, _, _⟩ := run_bind hr
    obtain ⟨v', h1, h2⟩ := indexS_sim h hf.sub hr (ev (run_of hx)) (ev (run_of hy))
    exact .inl ⟨v', w, by simp [execOp, h1], h2⟩
  | extract x j =>
    obtain ⟨p, l1, o1, l2, o2, hx, hr, _, _⟩ := run_bind hr
    split at hr
    · rename_i vs
      obtain ⟨hv, rfl⟩ := run_retO hr
      have hS := ev (run_of hx)
      generalize hu : a.eval x = u at hS
      cases hS with
      | leaf h => cases h with | pl h hp => simp [plainLeaf] at hp
      | tup us _ hl hv' =>
        have hlt : j < us.size := by rw [hl]; exact (List.getElem?_eq_some_iff.1 hv).1
        refine .inl ⟨us[j], w, by simp [execOp, hu, Instr.extract, hlt], quiet (hv' j _ _ (by simp [hlt]) hv)⟩
    · exact (run_fail hr).elim
  | call c =>
    simp only [opSem] at hr
    split at hr
    · exact (run_fail hr).elim
    · rename_i args hargs
      obtain ⟨c1, c2⟩ := evOps_rep hs hargs
      have hA : ArgsOk w (okP w m G) G (c.args.map a.eval) args := ⟨by simpa using c1, fun j v p h1 h2 => c2 j v p (by simpa using h1) h2⟩
      split at hr
      · rename_i b hb
        have hcb : ∃ cb, ∀ w, (execOp a.eval ⟨dst, .call c, ty, pos, aft, grd⟩).run E.P w = (builtin b c.argTypes ty cb (c.args.map a.eval)).run E.P w := ⟨_, fun w => by simp only [execOp, resolve, hb]; rfl⟩
        obtain ⟨cb, hcb⟩ := hcb
        obtain ⟨v', w', h1, h2⟩ := builtinSem_sim (ty := ty) (cb := cb) h hf hA hr
        exact .inl ⟨v', w', (hcb w).trans h1, h2⟩
      · rename_i x hb
        obtain ⟨p, l1, o1, l2, o2, hx, hr, _, _⟩ := run_bind hr
        split at hr
        · rename_i f caps
          have hS := ev (run_of hx)
          generalize hu : a.eval x = u at hS
          cases hS with
          | leaf h => cases h with | pl h hp => simp [plainLeaf] at hp
          | fn _ cu _ hl hv' =>
            have hA2 : ArgsOk w (okP w m G) G (c.args.map a.eval ++ cu) (args ++ caps) := by
              refine ⟨by simp [hA.1, hl], fun j v p h1 h2 => ?_⟩
              have hsz : args.length = (c.args.map a.eval).size := hA.1.symm
              by_cases hj : j < args.length
              · rw [List.getElem?_append_left hj] at h2
                rw [Array.getElem?_append_left (by omega)] at h1
                exact hA.2 j v p h1 h2
              · rw [List.getElem?_append_right (by omega)] at h2
                rw [Array.getElem?_append_right (by omega)] at h1
                rw [hsz] at h2
                exact .leaf (hv' _ v p h1 h2)
            obtain ⟨hen, hcl⟩ := callSem_sim hS h hf hA2 hr
            refine .inr (.inr ⟨f, _, ?_, hcl⟩)
            simp only [execOp, resolve, hb, hu, Deferred.ofValue]
            simpa [invoke] using run_callFunc_enter hen _
        · exact (run_fail hr).elim
      · exact (run_fail hr).elim
  | _ => exact (run_fail hr).elim
end Go.Den
