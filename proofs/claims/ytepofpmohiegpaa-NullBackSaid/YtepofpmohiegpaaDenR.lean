/- Den, part R: a call, from the caller's side. -/
import Derived.Test.YtepofpmohiegpaaDenQ
namespace Go.Den
variable {P : Program} {w0 w : World} {bl : List Nat} {D D' : Nat → Prop} {m m1 : Nat → Option Ent} {G : Gh}

/-! ### only frozen -/
def AllFz (wr : Wr) : Prop := ∀ x ∈ wr, x.2 = .fz
theorem AllFz.nil : AllFz [] := by simp [AllFz]
theorem AllFz.append {x y : Wr} (h : AllFz x) (k : AllFz y) : AllFz (x ++ y) := fun z hz => (List.mem_append.1 hz).elim (h z) (k z)
theorem putF_fz : ∀ {wr : Wr} {m : Nat → Option Ent}, AllFz wr → ∀ d e, putF m wr d = some e → ∃ e0, m d = some e0 ∧ ((e = e0 ∧ ∀ x ∈ wr, x.1 ≠ d) ∨ e = ⟨false, e0.c⟩)
  | [], m, _, d, e, h => ⟨e, h, .inl ⟨rfl, by simp⟩⟩
  | (d1, y) :: r, m, hz, d, e, h => by
    have hy := hz _ (List.mem_cons_self)
    simp only at hy
    subst hy
    simp only [putF] at h
    obtain ⟨e1, h1, h2⟩ := putF_fz (wr := r) (fun x hx => hz x (List.mem_cons_of_mem _ hx)) d e h
    by_cases hd : d = d1
    · subst hd
      cases hm : m d with
      | none => simp only [hm] at h1; cases h1
      | some e0 =>
        simp only [hm, upd_eq, Option.some.injEq] at h1
        subst h1
        refine ⟨e0, rfl, .inr ?_⟩
        rcases h2 with ⟨h2, _⟩ | h2 <;> rw [h2]
    · have : m d = some e1 := by
        cases hm : m d1 with
        | none => simpa only [hm] using h1
        | some e0 => simp only [hm, upd_ne _ _ hd] at h1; exact h1
      refine ⟨e1, this, h2.imp (fun ⟨a, b⟩ => ⟨a, fun x hx => (List.mem_cons.1 hx).elim (fun hx => by subst hx; exact fun he => hd he.symm) (b x)⟩) id⟩
theorem putF_fz_get : ∀ {wr : Wr} {m : Nat → Option Ent}, AllFz wr → ∀ d e0, m d = some e0 → (∀ x ∈ wr, x.1 ≠ d) → putF m wr d = some e0
  | [], m, _, d, e, h, _ => h
  | (d1, y) :: r, m, hz, d, e, h, hn => by
    have hy := hz _ (List.mem_cons_self)
    simp only at hy
    subst hy
    have hd : d ≠ d1 := fun he => hn _ (List.mem_cons_self) he.symm
    simp only [putF]
    refine putF_fz_get (wr := r) (fun x hx => hz x (List.mem_cons_of_mem _ hx)) d e ?_ (fun x hx => hn x (List.mem_cons_of_mem _ hx))
    cases hm : m d1 with
    | none => exact h
    | some e0 => simp only [upd_ne _ _ hd]; exact h
theorem RelW.fzs : ∀ {wr : Wr} {m : Nat → Option Ent}, AllFz wr → RelW w0 bl D w m G → RelW w0 bl D w (putF m wr) G ∧ Adv w (okP w m G) G w (okP w (putF m wr) G) G
  | [], _, _, h => ⟨h, Adv.refl _ _ _⟩
  | (d1, y) :: r, m, hz, h => by
    have hy := hz _ (List.mem_cons_self)
    simp only at hy
    subst hy
    obtain ⟨a1, a2⟩ := h.fz d1
    obtain ⟨b1, b2⟩ := RelW.fzs (wr := r) (fun x hx => hz x (List.mem_cons_of_mem _ hx)) a1
    exact ⟨b1, a2.trans b2⟩
theorem okP_fz {wr wr' : Wr} (hz : AllFz wr) (hz' : AllFz wr') (hs : ∀ x ∈ wr, x ∈ wr') {k : Nat} (h : okP w (putF m wr) G k) : okP w (putF m wr') G k := by
  refine ⟨h.1, h.2.1, fun d e he ho => ?_⟩
  obtain ⟨e0, h0, ⟨rfl, hn⟩ | rfl⟩ := putF_fz hz' d e he
  · exact h.2.2 d e (putF_fz_get hz d e h0 (fun x hx => hn x (hs x hx))) ho
  · simp [ownB] at ho
theorem sealLeaf_fz {p q : PV} {wr : Wr} {l o} (hr : (sealLeaf p).run m = some ((q, wr), l, o)) : AllFz wr := by
  cases p with
  | h d =>
    obtain ⟨⟨own, c⟩, l', hm, hk⟩ := run_rdc hr
    cases c with
    | box => exact (run_fail hk).elim
    | row e sz xs =>
      have h1 := (run_ret hk).1
      injection h1 with h1 h2
      subst h2
      simp [AllFz]
  | pb d off =>
    obtain ⟨⟨own, c⟩, l', hm, hk⟩ := run_rdc hr
    cases c with
    | row => exact (run_fail hk).elim
    | box cs =>
      simp only at hk
      split at hk
      · have h1 := (run_ret hk).1
        injection h1 with h1 h2
        subst h2
        simp [AllFz]
      · exact (run_fail hk).elim
  | _ =>
    simp only [sealLeaf] at hr
    split at hr
    · have h1 := (run_ret hr).1
      injection h1 with h1 h2
      subst h2
      exact .nil
    · exact (run_fail hr).elim
theorem sealL_fz {ps : List PV} : ∀ {qs : List PV} {wr : Wr} {l o}, (sealL ps).run m = some ((qs, wr), l, o) → AllFz wr := by
  induction ps with
  | nil =>
    intro qs wr l o hr
    have h1 := (run_ret hr).1
    injection h1 with h1 h2
    subst h2
    exact .nil
  | cons p r ih =>
    intro qs wr l o hr
    obtain ⟨⟨q, wq⟩, l1, o1, l2, o2, hx, hr, _, _⟩ := run_bind hr
    obtain ⟨⟨qs', wq'⟩, l3, o3, l4, o4, hy, hr, _, _⟩ := run_bind hr
    have h1 := (run_ret hr).1
    injection h1 with h1 h2
    subst h2
    exact (sealLeaf_fz hx).append (ih hy)
/-- A value, sealed for another's hands. -/
theorem sealV_sim (h : RelW w0 bl D w m G) {v : Value} {p q : PV} {wr : Wr} {l o} (hr : (sealV p).run m = some ((q, wr), l, o)) (hv : RepS w (okP w m G) G v p) :
    AllFz wr ∧ ∀ w' ok' G', (∀ k, okP w (putF m wr) G k → ok' k ∧ w'.heap[k]? = w.heap[k]?) → RepS w' ok' G' v q := by
  have leaf : ∀ {p}, RepL w (okP w m G) G v p → (sealLeaf p).run m = some ((q, wr), l, o) → AllFz wr ∧ ∀ w' ok' G', (∀ k, okP w (putF m wr) G k → ok' k ∧ w'.heap[k]? = w.heap[k]?) → RepS w' ok' G' v q := fun hv hr => by
    obtain ⟨_, _, _, a4, a5⟩ := sealLeaf_sim h (Fro.refl m) hr hv
    exact ⟨sealLeaf_fz hr, fun w' ok' G' hk => .leaf (.pl (a4.mono hk) a5)⟩
  have bad : plainLeaf p = false → (∀ d, p ≠ .h d) → (∀ d o, p ≠ .pb d o) → (sealLeaf p).run m ≠ some ((q, wr), l, o) := fun h1 h2 h3 hr => by
    cases p <;> simp_all [sealLeaf, RM.run, plainLeaf]
  cases hv with
  | undef => exact (bad rfl (by simp) (by simp) hr).elim
  | leaf hv =>
    refine leaf hv ?_
    cases hv with
    | pl hv hp => cases p <;> first | exact hr | simp [plainLeaf] at hp
    | _ => exact hr
  | agg cells cs hl hv =>
    obtain ⟨⟨qs, wq⟩, l1, o1, l2, o2, hx, hr, _, _⟩ := run_bind hr
    have h1 := (run_ret hr).1
    injection h1 with h1 h2
    subst h1; subst h2
    obtain ⟨b1, b2, b3, b4, b5, b6⟩ := sealL_sim (vs := cells.toList) h (Fro.refl m) hx (by simpa using hl) (fun j v p h1 h2 => hv j v p (by simpa using h1) h2)
    refine ⟨sealL_fz hx, fun w' ok' G' hk => .agg cells qs (by rw [b4]; exact hl) (fun j v q h1 h2 => .pl ((b6 j v q (by simpa using h1) h2).mono hk) (b5 q (List.mem_of_getElem? h2)))⟩
  | fn f caps cs hl hv =>
    obtain ⟨⟨qs, wq⟩, l1, o1, l2, o2, hx, hr, _, _⟩ := run_bind hr
    have h1 := (run_ret hr).1
    injection h1 with h1 h2
    subst h1; subst h2
    obtain ⟨b1, b2, b3, b4, b5, b6⟩ := sealL_sim (vs := caps.toList) h (Fro.refl m) hx (by simpa using hl) (fun j v p h1 h2 => hv j v p (by simpa using h1) h2)
    refine ⟨sealL_fz hx, fun w' ok' G' hk => .fn f caps qs (by rw [b4]; exact hl) (fun j v q h1 h2 => .pl ((b6 j v q (by simpa using h1) h2).mono hk) (b5 q (List.mem_of_getElem? h2)))⟩
  | tup vs ps hl hv => exact (bad rfl (by simp) (by simp) hr).elim

/-! ### what is handed over -/
structure LendOK (m : Nat → Option Ent) (args : List PV) (bs : List (Nat × List PV)) (y : List PV × Wr × Wr × List (Nat × List PV)) : Prop where
  len : y.1.length = args.length
  fz1 : AllFz y.2.1
  fz2 : AllFz y.2.2.1
  ext : ∃ new, y.2.2.2 = bs ++ new ∧ (new = [] → y.2.2.1 = []) ∧ ∀ x ∈ new, ∃ cs wr l o, m x.1 = some ⟨true, .box cs⟩ ∧ (sealL cs).run m = some ((x.2, wr), l, o) ∧ ∀ z ∈ wr, z ∈ y.2.2.1
  nodup : (bs.map (·.1)).Nodup → (y.2.2.2.map (·.1)).Nodup
  args : ∀ (i : Nat) p q, args[i]? = some p → y.1[i]? = some q → (∃ (d j : Nat) (cs : List PV), p = .pb d 0 ∧ q = .pb (lentId j) 0 ∧ y.2.2.2[j]? = some (d, cs)) ∨ ∃ wr l o, (sealV p).run m = some ((q, wr), l, o) ∧ ∀ z ∈ wr, z ∈ y.2.1
theorem sealV_fz {p q : PV} {wr : Wr} {l o} (hr : (sealV p).run m = some ((q, wr), l, o)) : AllFz wr := by
  cases p with
  | agg cs =>
    obtain ⟨⟨qs, wq⟩, l1, o1, l2, o2, hx, hr, _, _⟩ := run_bind hr
    have h1 := (run_ret hr).1
    injection h1 with h1 h2
    subst h2
    exact sealL_fz hx
  | fn f cs =>
    obtain ⟨⟨qs, wq⟩, l1, o1, l2, o2, hx, hr, _, _⟩ := run_bind hr
    have h1 := (run_ret hr).1
    injection h1 with h1 h2
    subst h2
    exact sealL_fz hx
  | _ => simp only [sealV] at hr; exact sealLeaf_fz hr
theorem lendA_ok : ∀ {args : List PV} {bs : List (Nat × List PV)} {y l o}, (lendA args bs).run m = some (y, l, o) → LendOK m args bs y
  | [], bs, y, l, o, hr => by
    have h1 := (run_ret hr).1
    subst h1
    exact ⟨rfl, .nil, .nil, ⟨[], by simp, fun _ => rfl, by simp⟩, id, by simp⟩
  | v :: r, bs, y, l, o, hr => by
    unfold lendA at hr
    split at hr
    · rename_i d
      obtain ⟨c, o1, hm, hr⟩ := run_own hr
      cases c with
      | row => exact (run_fail hr).elim
      | box cs =>
        simp only at hr
        split at hr
        · exact (run_fail hr).elim
        · rename_i hno
          obtain ⟨⟨qs, wq⟩, l1, o1, l2, o2, hx, hr, _, _⟩ := run_bind hr
          obtain ⟨z, l3, o3, l4, o4, hy, hr, _, _⟩ := run_bind hr
          have h1 := (run_ret hr).1
          subst h1
          have ih := lendA_ok hy
          obtain ⟨new, e1, e2, e3⟩ := ih.ext
          refine ⟨by simp [ih.len], ih.fz1, (sealL_fz hx).append ih.fz2, ⟨(d, qs) :: new, by simp [e1], by simp, fun x hx' => ?_⟩, fun hn => ih.nodup ?_, fun i p q hp hq => ?_⟩
          · rcases List.mem_cons.1 hx' with rfl | hx'
            · exact ⟨cs, wq, _, _, hm, hx, fun z hz => List.mem_append_left _ hz⟩
            · obtain ⟨cs', wr', l', o', a1, a2, a3⟩ := e3 x hx'
              exact ⟨cs', wr', l', o', a1, a2, fun z hz => List.mem_append_right _ (a3 z hz)⟩
          · rw [List.map_append, List.nodup_append]
            refine ⟨hn, by simp, fun a ha b hb => ?_⟩
            simp only [List.map_cons, List.map_nil, List.mem_singleton] at hb
            subst hb
            intro he
            subst he
            obtain ⟨x, hx1, hx2⟩ := List.mem_map.1 ha
            exact hno (List.any_eq_true.2 ⟨x, hx1, by simpa using hx2⟩)
          · cases i with
            | zero =>
              simp at hp hq
              subst hp; subst hq
              exact .inl ⟨d, bs.length, qs, rfl, rfl, by rw [e1]; simp⟩
            | succ i =>
              rcases ih.args i p q (by simpa using hp) (by simpa using hq) with ⟨d', j, cs', a1, a2, a3⟩ | ⟨wr', l', o', a1, a2⟩
              · exact .inl ⟨d', j, cs', a1, a2, a3⟩
              · exact .inr ⟨wr', l', o', a1, a2⟩
    · obtain ⟨⟨q0, wq⟩, l1, o1, l2, o2, hx, hr, _, _⟩ := run_bind hr
      obtain ⟨z, l3, o3, l4, o4, hy, hr, _, _⟩ := run_bind hr
      have h1 := (run_ret hr).1
      subst h1
      have ih := lendA_ok hy
      refine ⟨by simp [ih.len], (sealV_fz hx).append ih.fz1, ih.fz2, ih.ext, ih.nodup, fun i p q hp hq => ?_⟩
      cases i with
      | zero =>
        simp at hp hq
        subst hp; subst hq
        exact .inr ⟨wq, _, _, hx, fun z hz => List.mem_append_left _ hz⟩
      | succ i =>
        rcases ih.args i p q (by simpa using hp) (by simpa using hq) with ⟨d', j, cs', a1, a2, a3⟩ | ⟨wr', l', o', a1, a2⟩
        · exact .inl ⟨d', j, cs', a1, a2, a3⟩
        · exact .inr ⟨wr', l', o', a1, fun z hz => List.mem_append_right _ (a2 z hz)⟩

/-! ### a result that tells nothing of what was handed in -/
theorem Rep.indep {ok v p} (h : Rep w ok v p) (hs : sharesP p = false) (hp : plainLeaf p = true) (w' : World) (ok' : Nat → Prop) : Rep w' ok' v p := by
  cases h <;> simp [sharesP, plainLeaf] at hs hp
  · exact .int ..
  · exact .bool ..
  · exact .str ..
  · exact .nils
  · exact .nilp
  · exact .nilf
theorem RXL.indep {ok v p b} (h : RXL w ok v p b) (hs : sharesR p = false) (ok' : Nat → Prop) : RXL w ok' v p b := by
  cases h with
  | pl h hp => exact .pl (h.indep (by cases p <;> first | exact hs | simp [plainLeaf] at hp) hp _ _) hp
  | nil => exact .nil ..
  | nr h =>
    refine .nr ?_
    rcases h with ⟨h1, h2⟩ | ⟨g, c, cur, fz, h1, h2, h3, h4, h5, h6, h7, h8⟩
    · exact .inl ⟨h1, h2⟩
    · refine .inr ⟨g, c, cur, fz, h1, h2, h3, h4, h5, h6, h7, fun i x j p hx hp => ?_⟩
      obtain ⟨u, hu, hr⟩ := h8 i x j p hx hp
      have hm := List.mem_of_getElem? hx
      have hmp := List.mem_of_getElem? hp
      have hsp : sharesP p = false := by
        simp only [sharesR, List.any_eq_false] at hs
        have := hs x hm
        simp only [List.any_eq_true, not_exists, not_and] at this
        simpa using this p hmp
      exact ⟨u, hu, hr.indep hsp (h7 x hm p hmp) _ _⟩
theorem RXs.indep {ok vs ps bs} (h : RXs w ok vs ps bs) (hs : ps.any sharesR = false) (ok' : Nat → Prop) : RXs w ok' vs ps bs := by
  induction h with
  | nil => exact .nil
  | cons h r ih =>
    simp only [List.any_cons, Bool.or_eq_false_iff] at hs
    exact .cons (h.indep hs.1 ok') (ih hs.2)
def sharesV : PV → Bool
  | .agg cs => cs.any sharesLeaf
  | v => sharesLeaf v
theorem noNbP {p : PV} (hp : plainLeaf p = true) (hs : sharesLeaf p = false) : sharesR p = false := by
  cases p <;> first | exact hs | simp [plainLeaf] at hp
theorem RXs.noNb {ok vs ps bs} (h : RXs w ok vs ps bs) (hs : ps.any sharesLeaf = false) : ps.any sharesR = false := by
  induction h with
  | nil => rfl
  | cons h r ih =>
    simp only [List.any_cons, Bool.or_eq_false_iff] at hs ⊢
    refine ⟨?_, ih hs.2⟩
    cases h with
    | pl h hp => exact noNbP hp hs.1
    | nil => exact hs.1
    | nr => exact hs.1
theorem RXV.indep {ok v p b} (h : RXV w ok v p b) (hs : sharesV p = false) (ok' : Nat → Prop) : RXV w ok' v p b := by
  cases h with
  | leaf h =>
    refine .leaf (h.indep ?_ ok')
    cases h with
    | pl h hp => cases p <;> first | exact hs | simp [plainLeaf] at hp
    | nil => exact hs
    | nr => exact hs
  | agg h => exact .agg (h.indep (h.noNb hs) ok')
  | fn => simp [sharesV, sharesLeaf, sharesR, sharesP] at hs
  | nb hh hz h => exact .nb hh hz (h.indep hs ok')
theorem RXVs.indep {ok vs ps bs} (h : RXVs w ok vs ps bs) (hs : ps.any sharesV = false) (ok' : Nat → Prop) : RXVs w ok' vs ps bs := by
  induction h with
  | nil => exact .nil
  | cons h r ih =>
    simp only [List.any_cons, Bool.or_eq_false_iff] at hs
    exact .cons (h.indep hs.1 ok') (ih hs.2)
theorem RXR.indep {ok v p b} (h : RXR w ok v p b) (hs : shares p = false) (ok' : Nat → Prop) : RXR w ok' v p b := by
  cases h with
  | one h =>
    refine .one (h.indep ?_ ok')
    cases h with
    | leaf h => cases h with
      | pl h hp => cases p <;> first | exact hs | simp [plainLeaf] at hp
      | nil => exact hs
      | nr => exact hs
    | _ => exact hs
  | tup h =>
    rename_i us ps
    refine .tup (h.indep ?_ ok')
    refine Eq.trans ?_ hs
    simp only [shares]
    congr 1
theorem RXR.bool {ok v b bs} (h : RXR w ok v (.bool b) bs) : v = .bool b := by
  cases h with
  | one h => cases h with
    | leaf h => cases h with
      | pl h => cases h; rfl

/-! ### the call -/
def Entered (P : Program) (f : FuncId) : Prop := ∃ fn, P.funcs[f]? = some fn ∧ fn.name ≠ "runtime.NumGoroutine" ∧ fn.body.isNone = false
def ClipOk (P : Program) (f : FuncId) : Prop := ∀ w a n c, n ≤ c → Calls P f #[.slice a n c] w fun e w' => e = .returned (.slice a n n) ∧ w'.heap = w.heap ∧ w'.os = w.os ∧ w'.tape = w.tape ∧ w'.output = w.output
structure Sound (E : Env) (call : Call) : Prop where
  call : ∀ f args lent res lent', call f args lent = some (res, lent') → Entered E.P f ∧ Contract E.P f args lent res lent'
  fn : ∀ f g, E.ext f = some (.fn g) → ∀ args res, g args = some res → Entered E.P f ∧ Contract E.P f args [] res []
  clip : ∀ f, E.ext f = some .clip → Entered E.P f ∧ ClipOk E.P f

theorem nodup_map {α β : Type} {f : α → β} : ∀ {l : List α}, l.Nodup → (∀ a ∈ l, ∀ b ∈ l, f a = f b → a = b) → (l.map f).Nodup
  | [], _, _ => List.nodup_nil
  | x :: r, h, hi => by
    rw [List.nodup_cons] at h
    rw [List.map_cons, List.nodup_cons]
    refine ⟨fun hm => ?_, nodup_map h.2 (fun a ha b hb => hi a (List.mem_cons_of_mem _ ha) b (List.mem_cons_of_mem _ hb))⟩
    obtain ⟨y, hy, he⟩ := List.mem_map.1 hm
    exact h.1 (hi y (List.mem_cons_of_mem _ hy) x (List.mem_cons_self) he ▸ hy)

theorem call_sim {E : Env} (h : RelW w0 bl D w m G) {fid : Nat} (hf : Fr D D' fid) {f : FuncId} {args : List PV} {vs : Array Value} (ha : ArgsOk w (okP w m G) G vs args)
    {y : List PV × Wr × Wr × List (Nat × List PV)} {l1 o1} (hy : (lendA args []).run m = some (y, l1, o1)) (hno : (y.2.1 ++ y.2.2.1).any (fun z => y.2.2.2.any fun b => b.1 == z.1) = false)
    {r : PV} {lent : List (List PV)} (hc : Contract E.P f y.1 (y.2.2.2.map (·.2)) r lent) {v : PV} {w1 wb : Wr} {j j' : Nat} (h1 : impR fid 0 r = (v, w1, j)) (h2 : impB fid j (y.2.2.2.map (·.1)) lent = some (wb, j')) (h3 : j' ≤ 64) :
    Calls E.P f vs w fun e w' => ∃ v', e = .returned v' ∧ After w0 bl D' w m G v ((if shares r || !y.2.2.2.isEmpty then y.2.1 else []) ++ y.2.2.1 ++ w1 ++ wb) v' w' := by
  have L := lendA_ok hy
  obtain ⟨new, e1, e2, e3⟩ := L.ext
  have hz := L.fz1.append L.fz2
  obtain ⟨hR, hA⟩ := h.fzs hz
  rw [List.nil_append] at e1
  have hdsown : ∀ x ∈ y.2.2.2, ∃ cs b, m x.1 = some ⟨true, .box cs⟩ ∧ putF m (y.2.1 ++ y.2.2.1) x.1 = some ⟨true, .box cs⟩ ∧ G.B x.1 = some b := fun x hx => by
    obtain ⟨cs, wr, l, o, a1, a2, a3⟩ := e3 x (e1 ▸ hx)
    have hget : putF m (y.2.1 ++ y.2.2.1) x.1 = some ⟨true, .box cs⟩ := putF_fz_get hz _ _ a1 (fun z hz' he => by
      have : (y.2.1 ++ y.2.2.1).any (fun z => y.2.2.2.any fun b => b.1 == z.1) = true := List.any_eq_true.2 ⟨z, hz', List.any_eq_true.2 ⟨x, hx, by simpa using he.symm⟩⟩
      rw [hno] at this
      cases this)
    obtain ⟨b, hb, _⟩ := hR.ent _ _ hget
    exact ⟨cs, b, a1, hget, hb⟩
  let bl' := (y.2.2.2.map (·.1)).map fun d => (G.B d).getD 0
  have hbl : ∀ (i : Nat) b, bl'[i]? = some b → ∃ x, y.2.2.2[i]? = some x ∧ G.B x.1 = some b := fun i b hi => by
    simp only [bl', List.map_map, List.getElem?_map, Option.map_eq_some_iff] at hi
    obtain ⟨x, hx, he⟩ := hi
    obtain ⟨cs, b', _, _, hB⟩ := hdsown x (List.mem_of_getElem? hx)
    simp [hB] at he
    exact ⟨x, hx, by rw [hB, he]⟩
  have hnotin : ∀ k, okP w (putF m (y.2.1 ++ y.2.2.1)) G k → k < w.heap.size ∧ k ∉ bl' := fun k hk => ⟨hk.2.1, fun hkb => by
    obtain ⟨i, hi⟩ := List.mem_iff_getElem?.1 hkb
    obtain ⟨x, hx, hB⟩ := hbl i k hi
    obtain ⟨cs, b', _, hg, _⟩ := hdsown x (List.mem_of_getElem? hx)
    exact hk.2.2 _ _ hg (by simp [ownB, hB])⟩
  have hlent : LentOk w (okP w (putF m (y.2.1 ++ y.2.2.1)) G) bl' (y.2.2.2.map (·.2)) := by
    refine ⟨by simp [bl'], nodup_map (L.nodup (by simp)) (fun a ha b hb he => ?_), fun i b cs hb hcs => ?_⟩
    · obtain ⟨x, hx, rfl⟩ := List.mem_map.1 ha
      obtain ⟨x', hx', rfl⟩ := List.mem_map.1 hb
      obtain ⟨cs, b, _, hg, hB⟩ := hdsown x hx
      obtain ⟨cs', b', _, hg', hB'⟩ := hdsown x' hx'
      simp only [hB, hB', Option.getD_some] at he
      subst he
      exact hR.sep _ _ _ _ b hg hg' (by simp [ownB, hB]) (by simp [ownB, hB'])
    · obtain ⟨x, hx, hB⟩ := hbl i b hb
      simp only [List.getElem?_map, hx, Option.map_some, Option.some.injEq] at hcs
      subst hcs
      obtain ⟨cs0, wr, l, o, a1, a2, a3⟩ := e3 x (e1 ▸ List.mem_of_getElem? hx)
      obtain ⟨b', hB', cur, t, fz, g1, g2, g3, g4⟩ := h.ent _ _ a1
      rw [hB] at hB'
      injection hB' with hB'
      subst hB'
      obtain ⟨b1, b2, b3, b4, b5, b6⟩ := sealL_sim (vs := cur.toList) h (Fro.refl m) a2 (by simpa using g2) (fun j v p h1 h2 => by
        obtain ⟨u, hu, hr⟩ := g4 j p h2
        simp at h1
        rw [h1] at hu
        injection hu with hu
        exact hu ▸ hr)
      refine ⟨cur, t, fz, g1, by rw [b4, g2], g3, fun i p hp => ⟨b5 p (List.mem_of_getElem? hp), ?_⟩⟩
      have hi : i < cur.size := by have := (List.getElem?_eq_some_iff.1 hp).1; rw [b4] at this; omega
      refine ⟨cur[i], by simp [hi], (b6 i _ p (by simp [hi]) hp).mono fun k hk => ⟨okP_fz (sealL_fz a2) hz (fun z hz' => List.mem_append_right _ (a3 z hz')) hk, rfl⟩⟩
  have hargs : ArgsOk w (okP w (putF m (y.2.1 ++ y.2.2.1)) G) (Gl w (okP w (putF m (y.2.1 ++ y.2.2.1)) G) bl') vs y.1 := by
    refine ⟨by rw [L.len]; exact ha.1, fun i v q hv hq => ?_⟩
    have hlt : i < args.length := by have := (List.getElem?_eq_some_iff.1 hq).1; rw [L.len] at this; exact this
    have hp : args[i]? = some args[i] := List.getElem?_eq_getElem hlt
    have hS := ha.2 i v _ hv hp
    rcases L.args i _ q hp hq with ⟨d, j, cs, p1, rfl, p3⟩ | ⟨wr, l, o, p1, p2⟩
    · rw [p1] at hS
      obtain ⟨b, hB, rfl⟩ := hS.pb
      refine .leaf (.pb 0 ?_)
      show lentB bl' (lentId j) = some b
      rw [lentB_id]
      simp [bl', p3, hB]
    · obtain ⟨z1, z2⟩ := sealV_sim h p1 hS
      exact z2 w _ _ fun k hk => ⟨okP_fz z1 hz (fun z hz' => List.mem_append_left _ (p2 z hz')) hk, rfl⟩
  refine (hc w vs bl' _ hnotin hlent hargs).mono fun e w' ⟨v', he, hb⟩ => ⟨v', he, ?_⟩
  cases hsh : shares r || !y.2.2.2.isEmpty with
  | true =>
    obtain ⟨G', k1, k2, k3⟩ := hR.takeIn hf (ds := y.2.2.2.map (·.1)) (bl' := bl') (by simp [bl']) (fun i d b hd hb => by
      obtain ⟨x, hx, hB⟩ := hbl i b hb
      simp only [List.getElem?_map, hx, Option.map_some, Option.some.injEq] at hd
      subst hd
      obtain ⟨cs, _, _, hg, _⟩ := hdsown x (List.mem_of_getElem? hx)
      exact ⟨⟨cs, hg⟩, hB⟩) hb h1 h2 h3
    rw [← putF_append, ← List.append_assoc] at k1 k2 k3
    simp only [if_true]
    exact ⟨G', k1, hA.trans k2, k3⟩
  | false =>
    simp only [Bool.or_eq_false_iff, Bool.not_eq_false', List.isEmpty_iff] at hsh
    obtain ⟨hs1, hs2⟩ := hsh
    have hnew : y.2.2.1 = [] := e2 (by rw [← e1, hs2])
    obtain ⟨hk, bs, bss, hnd, hge, hx, hlx⟩ := hb
    have hbl0 : bl' = [] := by simp [bl', hs2]
    rw [hbl0] at hk hlx
    rw [hs2] at h2
    obtain ⟨G', k1, k2, k3⟩ := h.takeIn hf (ds := []) (bl' := []) rfl (by simp) ⟨hk, bs, bss, hnd, hge, hx.indep hs1 _, by cases hlx; exact .nil⟩ h1 h2 h3
    simp only [Bool.false_eq_true, if_false, hnew, List.append_nil, List.nil_append]
    exact ⟨G', k1, k2, k3⟩

theorem callSem_sim {E : Env} {call : Call} (hS : Sound E call) (h : RelW w0 bl D w m G) {fid : Nat} (hf : Fr D D' fid) {f : FuncId} {args : List PV} {vs : Array Value} (ha : ArgsOk w (okP w m G) G vs args)
    {v : PV} {wr : Wr} {l o} (hr : (callSem E call fid f args).run m = some ((v, wr), l, o)) :
    Entered E.P f ∧ Calls E.P f vs w fun e w' => ∃ v', e = .returned v' ∧ After w0 bl D' w m G v wr v' w' := by
  unfold callSem at hr
  split at hr
  · rename_i hx
    obtain ⟨hen, hcl⟩ := hS.clip f hx
    refine ⟨hen, ?_⟩
    have hvs : ∀ {p}, args = [p] → ∃ u, vs = #[u] ∧ RepS w (okP w m G) G u p := fun {p} he => by
      subst he
      have := ha.1
      have hu : ∃ u, vs = #[u] := by
        rcases vs with ⟨_ | ⟨u, _ | ⟨u', r⟩⟩⟩ <;> simp at this
        exact ⟨u, rfl⟩
      obtain ⟨u, rfl⟩ := hu
      exact ⟨u, rfl, ha.2 0 u p rfl rfl⟩
    split at hr
    · obtain ⟨u, rfl, hu⟩ := hvs rfl
      have h1 := (run_ret hr).1
      injection h1 with h1 h2
      subst h1; subst h2
      have := hu.nils
      subst this
      refine (hcl w none 0 0 (Nat.le_refl _)).mono fun e w' ⟨he, q1, q2, q3, q4⟩ => ⟨_, he, ?_⟩
      obtain ⟨s1, s2⟩ := h.drawn q1 q2 q3 q4
      exact ⟨G, s1.widen hf.sub, s2, .leaf (.pl .nils rfl)⟩
    · rename_i sz xs
      obtain ⟨u, rfl, hu⟩ := hvs rfl
      have h1 := (run_ret hr).1
      injection h1 with h1 h2
      subst h1; subst h2
      have := hu.rep rfl
      cases this with
      | sl a c _ _ vs hc hz hp hr hv =>
        refine (hcl w a xs.length c hc).mono fun e w' ⟨he, q1, q2, q3, q4⟩ => ⟨_, he, ?_⟩
        obtain ⟨s1, s2⟩ := h.drawn q1 q2 q3 q4
        exact ⟨G, s1.widen hf.sub, s2, .leaf (.pl ((Rep.sl a xs.length sz xs vs (Nat.le_refl _) hz hp hr hv).mono s2.ok) rfl)⟩
    · rename_i d
      obtain ⟨u, rfl, hu⟩ := hvs rfl
      obtain ⟨c, o1, hm, hr⟩ := run_own hr
      cases c with
      | box => exact (run_fail hr).elim
      | row e sz xs =>
        have h1 := (run_ret hr).1
        injection h1 with h1 h2
        subst h1; subst h2
        obtain ⟨hV, _⟩ := hu.h
        obtain ⟨u', hV', hz, hrow⟩ := h.ent _ _ hm
        rw [hV] at hV'
        injection hV' with hV'
        subst hV'
        rcases hrow with ⟨rfl, rfl⟩ | ⟨g, c, cur, fz, rfl, f1, f2, f3, f4, f5, f6, f7⟩
        · refine (hcl w none 0 0 (Nat.le_refl _)).mono fun e' w' ⟨he, q1, q2, q3, q4⟩ => ⟨_, he, ?_⟩
          obtain ⟨s1, s2⟩ := h.drawn q1 q2 q3 q4
          obtain ⟨t1, t2⟩ := s1.nilMove (d := d) (e := e) (sz := sz) hf.zero.1 hf.sub hf.zero.2 (fun x hx => by
            rw [hm] at hx; injection hx with hx; subst hx; simp [ownB, hV, Value.ownBlock])
          exact ⟨_, t1, s2.trans t2, .leaf (.h (by simp [Gh.withV, upd_eq]) rfl)⟩
        · refine (hcl w (some ⟨g, 0, none⟩) xs.length c f2).mono fun e' w' ⟨he, q1, q2, q3, q4⟩ => ⟨_, he, ?_⟩
          obtain ⟨s1, s2⟩ := h.drawn q1 q2 q3 q4
          obtain ⟨t1, t2⟩ := s1.rowMove hf.zero.1 hf.sub hf.zero.2 hm hV (by rw [q1]; exact f1) f4 0 [] xs xs.length (Nat.le_refl _) (Nat.le_trans (Nat.mul_le_mul_right sz f2) f3) f5 f6 (fun i x j p hx hp => by
            obtain ⟨u, hu, hr⟩ := f7 i x j p hx hp
            exact ⟨u, hu, hr.mono s2.ok⟩)
          exact ⟨_, t1, s2.trans t2, .leaf (.h (by simp [Gh.withV, upd_eq]) rfl)⟩
    · exact (run_fail hr).elim
  · rename_i x hx
    obtain ⟨y, l1, o1, l2, o2, hy, hr, _, _⟩ := run_bind hr
    split at hr
    · exact (run_fail hr).elim
    · rename_i hno
      have hno' : (y.2.1 ++ y.2.2.1).any (fun z => y.2.2.2.any fun b => b.1 == z.1) = false := by simpa using hno
      split at hr
      · exact (run_fail hr).elim
      · rename_i r lent hcall
        have hcon : Entered E.P f ∧ Contract E.P f y.1 (y.2.2.2.map (·.2)) r lent := by
          unfold callOf at hcall
          split at hcall
          · rename_i g hg
            split at hcall
            · rename_i hem
              split at hcall
              · rename_i r' hr'
                simp only [Option.some.injEq, Prod.mk.injEq] at hcall
                obtain ⟨rfl, rfl⟩ := hcall
                have := hS.fn f g hg _ _ hr'
                have hem' : y.2.2.2 = [] := by simpa using hem
                rw [hem']
                exact this
              · cases hcall
            · cases hcall
          · exact hS.call f _ _ _ _ hcall
        split at hr
        rename_i v1 w1 j hi
        split at hr
        · exact (run_fail hr).elim
        · rename_i wb j' hb
          split at hr
          · rename_i hj
            have h1 := (run_ret hr).1
            injection h1 with h1 h2
            subst h1; subst h2
            exact ⟨hcon.1, call_sim h hf ha hy hno' hcon.2 hi hb hj⟩
          · exact (run_fail hr).elim
end Go.Den
