/- Den, part X: code; a function's body; what it hands back. -/
import Derived.Test.YtepofpmohiegpaaDenW
namespace Go.Den
variable {P : Program} {w0 w : World} {bl : List Nat} {A0 : Nat → Prop} {D : Nat → Prop} {G : Gh} {ok : Nat → Prop}

/-! ### code -/
def dstOK (n : Nat) : Code → Bool
  | .region _ ops _ => ops.all fun o => match o.dst with | some t => Nat.blt t n | none => true
  | .seq a b => dstOK n a && dstOK n b
  | .cond _ a b => dstOK n a && dstOK n b
  | .block _ b => dstOK n b
  | .loop b => dstOK n b
  | _ => true
def exitOf : Out → Exit
  | .normal => .normal
  | .exit id => .exit id
  | .ret => .ret
def BelowE (ep d : Nat) : Prop := d < ep * 33554432
theorem code_sim {E : Env} {call : Call} (hS : Sound E call) (hm : E.P.follows .mixedOrders = true) {f : FuncId} {k n0 nt : Nat} (hb : bl.length ≤ 64) (hnt : n0 ≤ nt) : ∀ (c : Code) {S S' : St} {o : Out} {a : Act} {w : World}, denC E call f bl.length k c S = some (o, S') → dstOK n0 c = true → 1 ≤ S.ep →
    Rel w0 bl A0 nt (BelowE S.ep) S.fs a w → ∀ (Q : Exit → Act → World → Prop), (∀ a' w', 1 ≤ S'.ep → Rel w0 bl A0 nt (BelowE S'.ep) S'.fs a' w' → Q (exitOf o) a' w') → c.wp E.P Q a w := by
  intro c
  induction c with
  | skip =>
    intro S S' o a w h hd he hR Q hQ
    simp only [denC, Option.some.injEq, Prod.mk.injEq] at h
    obtain ⟨rfl, rfl⟩ := h
    exact wp_skip (hQ a w he hR)
  | exit id =>
    intro S S' o a w h hd he hR Q hQ
    simp only [denC, Option.some.injEq, Prod.mk.injEq] at h
    obtain ⟨rfl, rfl⟩ := h
    exact wp_exit (hQ a w he hR)
  | ret =>
    intro S S' o a w h hd he hR Q hQ
    simp only [denC, Option.some.injEq, Prod.mk.injEq] at h
    obtain ⟨rfl, rfl⟩ := h
    exact wp_ret (hQ a w he hR)
  | region id ops draw =>
    intro S S' o a w h hd he hR Q hQ
    simp only [denC] at h
    split at h
    · cases h
    · rename_i S1 trs hrun
      split at h
      · rename_i hok
        simp only [Option.some.injEq, Prod.mk.injEq] at h
        obtain ⟨rfl, rfl⟩ := h
        have hd' : ∀ (i : Nat) o, ops[i]? = some o → ∀ t, o.dst = some t → t < nt := fun i o ho t ht => by
          simp only [dstOK, Array.all_eq_true_iff_forall_mem] at hd
          have := hd o (Array.mem_of_getElem? ho)
          rw [ht] at this
          have : t < n0 := by simpa using this
          exact Nat.lt_of_lt_of_le this hnt
        have hep := (region_sim (id := id) (Q := fun _ _ _ => True) hS hm hrun hok hd' hR (fun _ _ _ => trivial)).1
        refine (region_sim hS hm hrun hok hd' hR (fun a' w' h' => hQ a' w' (Nat.le_add_left _ _) ?_)).2
        rw [← hep] at h'
        exact h'
      · cases h
  | seq x y ihx ihy =>
    intro S S' o a w h hd he hR Q hQ
    simp only [denC] at h
    simp only [dstOK, Bool.and_eq_true] at hd
    split at h
    · cases h
    · rename_i o1 S1 h1
      refine wp_seq (ihx h1 hd.1 he hR _ fun a' w' he' hR' => ?_)
      cases o1 with
      | normal => exact ihy h hd.2 he' hR' Q hQ
      | exit id =>
        simp only [Option.some.injEq, Prod.mk.injEq] at h
        obtain ⟨rfl, rfl⟩ := h
        exact hQ a' w' he' hR'
      | ret =>
        simp only [Option.some.injEq, Prod.mk.injEq] at h
        obtain ⟨rfl, rfl⟩ := h
        exact hQ a' w' he' hR'
  | cond c x y ihx ihy =>
    intro S S' o a w h hd he hR Q hQ
    simp only [denC] at h
    simp only [dstOK, Bool.and_eq_true] at hd
    split at h
    · rename_i t hc
      have hev : a.eval c = .bool t := by
        obtain ⟨G, _, hs, _⟩ := hR.ex
        exact (evOp_rep hs hc).bool
      cases t with
      | true => exact wp_cond hev (ihx h hd.1 he hR Q hQ)
      | false => exact wp_cond hev (ihy h hd.2 he hR Q hQ)
    · cases h
  | block id b ihb =>
    intro S S' o a w h hd he hR Q hQ
    simp only [denC] at h
    simp only [dstOK] at hd
    split at h
    · cases h
    · rename_i o1 S1 h1
      refine wp_block (ihb h1 hd he hR _ fun a' w' he' hR' => ?_)
      cases o1 with
      | normal =>
        simp only [Option.some.injEq, Prod.mk.injEq] at h
        obtain ⟨rfl, rfl⟩ := h
        exact hQ a' w' he' hR'
      | ret =>
        simp only [Option.some.injEq, Prod.mk.injEq] at h
        obtain ⟨rfl, rfl⟩ := h
        exact hQ a' w' he' hR'
      | exit id' =>
        simp only at h
        simp only [exitOf, Exit.inBlock]
        split at h
        · rename_i hid
          simp only [Option.some.injEq, Prod.mk.injEq] at h
          obtain ⟨rfl, rfl⟩ := h
          rw [if_pos (by simpa using hid)]
          exact hQ a' w' he' hR'
        · rename_i hid
          simp only [Option.some.injEq, Prod.mk.injEq] at h
          obtain ⟨rfl, rfl⟩ := h
          rw [if_neg (by simpa using hid)]
          exact hQ a' w' he' hR'
  | loop b ihb =>
    intro S S' o a w h hd he hR Q hQ
    simp only [denC] at h
    simp only [dstOK] at hd
    have key : ∀ (j : Nat) {S : St} {a : Act} {w : World}, iter (fun S => norm bl.length S (E.lv f (firstRid b))) (denC E call f bl.length k b) j S = some (o, S') → Rel w0 bl A0 nt (BelowE S.ep) S.fs a w → Code.rounds E.P b Q j a w := by
      intro j
      induction j with
      | zero => intro S a w h _; simp [iter] at h
      | succ j ih =>
        intro S a w h hR
        simp only [iter] at h
        split at h
        · cases h
        · rename_i S1 hn
          obtain ⟨hep, hR1⟩ := norm_sim hn hb hR
          split at h
          · cases h
          · rename_i o1 S2 hbody
            rw [rounds_succ]
            refine ihb hbody hd (by rw [hep]; exact Nat.le_refl _) (by rw [hep]; exact hR1) _ fun a' w' he' hR' => ?_
            cases o1 with
            | normal => exact ih h hR'
            | exit id =>
              simp only [Option.some.injEq, Prod.mk.injEq] at h
              obtain ⟨rfl, rfl⟩ := h
              exact hQ a' w' he' hR'
            | ret =>
              simp only [Option.some.injEq, Prod.mk.injEq] at h
              obtain ⟨rfl, rfl⟩ := h
              exact hQ a' w' he' hR'
    exact wp_loop_rounds k (key k h hR)
  | _ => intro S S' o a w h; simp [denC] at h

/-! ### results -/
theorem sem_bind_pure {α : Type} (x : Sem α) : Sem.bind x Sem.pure = x := by
  induction x with
  | frozen a k ih => simp only [Sem.bind]; congr 1; funext b; exact ih b
  | _ => simp_all [Sem.bind]
theorem sem_assoc {α β γ : Type} (x : Sem α) (f : α → Sem β) (g : β → Sem γ) : Sem.bind (Sem.bind x f) g = Sem.bind x fun a => Sem.bind (f a) g := by
  induction x with
  | frozen a k ih => simp only [Sem.bind]; congr 1; funext b; exact ih b
  | _ => simp_all [Sem.bind]
theorem lawfulSem : LawfulMonad Sem := LawfulMonad.mk' Sem (fun x => sem_bind_pure x) (fun _ _ => rfl) (fun x f g => sem_assoc x f g)
theorem run_mapM_list {α β : Type} {f : α → Sem β} {w : World} : ∀ {l : List α} {vs : List β}, l.length = vs.length → (∀ (i : Nat) (x : α) (v : β), l[i]? = some x → vs[i]? = some v → (f x).run P w = .ok v w) → (l.mapM f).run P w = .ok vs w
  | [], [], _, _ => by simp
  | x :: r, v :: vs, hl, h => by
    have h0 := h 0 x v rfl rfl
    have := run_mapM_list (l := r) (vs := vs) (by simpa using hl) (fun i x v h1 h2 => h (i+1) x v (by simpa using h1) (by simpa using h2))
    simp [h0, this]
theorem resO_sim {m : Nat → Option Ent} {S : St} {a : Act} (hm : S.at = m) (h : ∀ d e, m d = some e → EntOk w ok G d e) (hs : SlotsOk a w ok G S.slot) {x : ResultVar} {p : PV} (hr : resO P S x = some p) :
    ∃ v, ((match x with | .tmp t => pure (a.tmps.getD t Go.undef) | .cell b t => do loadVar t (← asAddr (a.tmps.getD b Go.undef))) : Sem Value).run P w = .ok v w ∧ RepS w ok G v p := by
  subst hm
  cases x with
  | tmp t => exact ⟨a.eval (.tmp t), by simp [Act.eval], hs t p hr⟩
  | cell b t =>
    simp only [resO] at hr
    split at hr
    · rename_i d off hd
      split at hr
      · rename_i own cs hat
        obtain ⟨b', hb', hv⟩ := (hs b _ hd).pb
        obtain ⟨b2, hb2, hc⟩ := (h d _ hat).box
        rw [hb'] at hb2
        injection hb2 with hb2
        subst hb2
        obtain ⟨v', h1, h2⟩ := loadC_run (P := P) (w := w) (ok := ok) (G := G) hr b' 0 (fun j p hp => by simpa using hc j p hp)
        rw [Nat.zero_add] at h1
        refine ⟨v', ?_, h2⟩
        have hv' : a.tmps.getD b Go.undef = .pointer (some ⟨b', off, none⟩) := hv
        simp only [hv']
        simpa [asAddr] using h1
      · cases hr
    · cases hr
theorem resOs_len {S : St} : ∀ {l : List ResultVar} {ps : List PV}, resOs P S l = some ps → l.length = ps.length ∧ ∀ (i : Nat) x p, l[i]? = some x → ps[i]? = some p → resO P S x = some p
  | [], ps, h => by simp [resOs] at h; subst h; simp
  | x :: r, ps, h => by
    simp only [resOs] at h
    split at h
    · rename_i v vs h1 h2
      simp only [Option.some.injEq] at h
      subst h
      obtain ⟨a1, a2⟩ := resOs_len h2
      refine ⟨by simp [a1], fun i y p hy hp => ?_⟩
      cases i with
      | zero => simp at hy hp; subst hy; subst hp; exact h1
      | succ i => exact a2 i y p (by simpa using hy) (by simpa using hp)
    · cases h
theorem results_sim {S : St} {a : Act} {fn : Func} (h : ∀ d e, S.at d = some e → EntOk w ok G d e) (hs : SlotsOk a w ok G S.slot) {ps : List PV} (hr : resOs P S fn.results.toList = some ps) :
    ∃ vs : List Value, vs.length = ps.length ∧ (∀ (i : Nat) v p, vs[i]? = some v → ps[i]? = some p → RepS w ok G v p) ∧ (results fn a.tmps).run P w = .ok (if h : vs.toArray.size = 1 then vs.toArray[0] else .tuple vs.toArray) w := by
  obtain ⟨h1, h2⟩ := resOs_len hr
  have hx : ∀ i : Nat, ∃ v : Value, ∀ x p, fn.results.toList[i]? = some x → ps[i]? = some p → ((match x with | .tmp t => pure (a.tmps.getD t Go.undef) | .cell b t => do loadVar t (← asAddr (a.tmps.getD b Go.undef))) : Sem Value).run P w = .ok v w ∧ RepS w ok G v p := fun i => by
    cases hxi : fn.results.toList[i]? with
    | none => exact ⟨Go.undef, fun x p hx => by cases hx⟩
    | some x =>
      cases hpi : ps[i]? with
      | none => exact ⟨Go.undef, fun x p _ hp => by cases hp⟩
      | some p =>
        obtain ⟨v, a1, a2⟩ := resO_sim rfl h hs (h2 i x p hxi hpi)
        refine ⟨v, fun x' p' hx hp => ?_⟩
        injection hx with hx; injection hp with hp
        subst hx; subst hp
        exact ⟨a1, a2⟩
  have hx := Classical.skolem.1 hx
  obtain ⟨fv, hfv⟩ := hx
  have hl : ((List.range ps.length).map fv).length = ps.length := by simp
  have hget : ∀ (i : Nat) v, ((List.range ps.length).map fv)[i]? = some v → i < ps.length ∧ v = fv i := fun i v hv => by
    have hi : i < ps.length := by have := (List.getElem?_eq_some_iff.1 hv).1; simpa using this
    simp [hi] at hv
    exact ⟨hi, hv.symm⟩
  refine ⟨(List.range ps.length).map fv, hl, fun i v p hv hp => ?_, ?_⟩
  · obtain ⟨hi, rfl⟩ := hget i v hv
    obtain ⟨x, hx⟩ : ∃ x, fn.results.toList[i]? = some x := ⟨_, List.getElem?_eq_getElem (by omega)⟩
    exact (hfv i x p hx hp).2
  · have := lawfulSem
    simp only [results]
    rw [Array.mapM_eq_mapM_toList]
    have hmm := run_mapM_list (P := P) (w := w) (l := fn.results.toList) (vs := (List.range ps.length).map fv) (f := fun x => ((match x with | .tmp t => pure (a.tmps.getD t Go.undef) | .cell b t => do loadVar t (← asAddr (a.tmps.getD b Go.undef))) : Sem Value)) (by rw [hl, h1]) (fun i x v hx hv => by
      obtain ⟨hi, rfl⟩ := hget i v hv
      exact (hfv i x ps[i] hx (List.getElem?_eq_getElem hi)).1)
    simp only [map_eq_pure_bind, Sem.run_bind]
    exact (congrArg (fun r : Result (List Value) => (r.andThen fun a w' => Sem.run P (pure a.toArray) w').andThen fun a w' => Sem.run P (pure (if h : a.size = 1 then a[0] else Value.tuple a)) w') hmm).trans rfl
end Go.Den
