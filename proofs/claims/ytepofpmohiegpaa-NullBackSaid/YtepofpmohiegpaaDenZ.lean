/- Den, part Z: an argument of which no more is looked at than its last eight bits. -/
import Derived.Test.YtepofpmohiegpaaDenY
namespace Go.Den

/-- The same, but for slots of T, which may hold a here and b there. -/
structure Tw (T : List Nat) (a b : PV) (S S' : St) : Prop where
  mem : S.mem = S'.mem
  ep : S.ep = S'.ep
  sl : ∀ t, S.slot t = S'.slot t ∨ (t ∈ T ∧ S.slot t = some a ∧ S'.slot t = some b)
def freeOf (T : List Nat) (x : Operand) : Bool := match x with | .tmp t => !T.contains t | _ => true
def tOp (T : List Nat) (o : Oper) : Bool :=
  (o.op.operands.toList.all (freeOf T)) ||
  match o.op with
  | .move _ | .assign _ => (match o.dst with | some d => T.contains d | none => false)
  | .binOp .and _ (.tmp _) (.const (.int _ n)) _ => n == 255
  | _ => false
def tC (T : List Nat) (lv : Nat → List NI) : Code → Bool
  | .region _ ops _ => ops.all (tOp T)
  | .seq x y => tC T lv x && tC T lv y
  | .cond _ x y => tC T lv x && tC T lv y
  | .block _ x => tC T lv x
  | .loop x => tC T lv x && (lv (firstRid x)).all fun n => !T.contains n.t
  | _ => true
def isI : PV → Bool | .int .. => true | _ => false
theorem Tw.refl (T : List Nat) (a b : PV) (S : St) : Tw T a b S S := ⟨rfl, rfl, fun _ => .inl rfl⟩

section
variable {E : Env} {call : Call} {T : List Nat} {a b : PV} {S S' : St}

theorem Tw.at_eq (h : Tw T a b S S') : S.at = S'.at := by funext d; simp only [St.at, h.mem]
theorem Tw.put (h : Tw T a b S S') {dst : Option Tmp} {v v' : PV} {w : Wr} (hv : v = v' ∨ ((∀ d, dst = some d → d ∈ T) ∧ v = a ∧ v' = b)) : Tw T a b (S.put dst v w) (S'.put dst v' w) := by
  refine ⟨by simp only [St.put, h.mem], h.ep, fun t => ?_⟩
  cases dst with
  | none => exact h.sl t
  | some d =>
    have h1 : (S.put (some d) v w).slot t = upd S.slot d (some v) t := congrFun (get_cons d v S.sl) t
    have h2 : (S'.put (some d) v' w).slot t = upd S'.slot d (some v') t := congrFun (get_cons d v' S'.sl) t
    rw [h1, h2]
    simp only [upd]
    by_cases ht : t = d
    · subst ht
      simp only [if_true]
      rcases hv with rfl | ⟨h3, rfl, rfl⟩
      · exact .inl rfl
      · exact .inr ⟨h3 t rfl, rfl, rfl⟩
    · simp only [if_neg ht]
      exact h.sl t
theorem Tw.ev (h : Tw T a b S S') (x : Operand) : evOp S.slot x = evOp S'.slot x ∨ (evOp S.slot x = some a ∧ evOp S'.slot x = some b) := by
  cases x with
  | tmp t => exact (h.sl t).imp id fun h => h.2
  | _ => exact .inl rfl
theorem Tw.wants (ha : isI a = true) (hb : isI b = true) (h : Tw T a b S S') (ops : Array Oper) (o : Oper) : wantsO ops o S = wantsO ops o S' := by
  unfold wantsO
  cases hg : o.guard with
  | none => rfl
  | some x =>
    obtain ⟨j, want⟩ := x
    simp only
    cases hq : ops[j]? with
    | none => rfl
    | some q =>
      simp only
      cases ht : q.dst with
      | none => rfl
      | some t =>
        simp only
        rcases h.sl t with h1 | ⟨_, h1, h2⟩
        · rw [h1]
        · rw [h1, h2]
          cases a <;> cases b <;> first | rfl | (simp [isI] at ha; done) | (simp [isI] at hb; done)
/-- the mask makes one of both -/
def Masked (P : Program) (a b : PV) : Prop := ∀ t k, evBin P .and t a (.int k 255) = evBin P .and t b (.int k 255)
theorem step_tw (ha : isI a = true) (hb : isI b = true) (hm : Masked E.P a b) {ops : Array Oper} {i : Nat} {o : Oper} (ho : tOp T o = true) (h : Tw T a b S S') {S1 : St} {t : Tr} (hs : stepO E call ops i o S = some (S1, t)) :
    ∃ S1', stepO E call ops i o S' = some (S1', t) ∧ Tw T a b S1 S1' := by
  unfold stepO at hs ⊢
  rw [← h.wants ha hb]
  split at hs
  · cases hs
  · injection hs with hs
    injection hs with h1 h2
    subst h1; subst h2
    exact ⟨_, rfl, h.put (.inl rfl)⟩
  · rw [← h.ep, ← h.at_eq]
    have same : opSem E call (S.ep * 33554432 + i * 64) S.slot o.op = opSem E call (S.ep * 33554432 + i * 64) S'.slot o.op →
        ∃ S1', (match (opSem E call (S.ep * 33554432 + i * 64) S'.slot o.op).run S.at with | some ((v, w), rc, ro) => some (S'.put o.dst v w, (⟨rc, ro, wrHard w, wrSoft w⟩ : Tr)) | none => none) = some (S1', t) ∧ Tw T a b S1 S1' := fun he => by
      rw [← he]
      split at hs
      · rename_i hrun
        injection hs with hs
        injection hs with h1 h2
        subst h1; subst h2
        rw [hrun]
        exact ⟨_, rfl, h.put (.inl rfl)⟩
      · cases hs
    unfold tOp at ho
    rw [Bool.or_eq_true] at ho
    rcases ho with ho | ho
    · refine same (opSem_congr fun t ht => ?_)
      have := List.all_eq_true.1 ho (.tmp t) (by simpa using ht)
      have hnt : t ∉ T := by simpa [freeOf] using this
      exact (h.sl t).resolve_right fun h => hnt h.1
    · have mv : ∀ x, (opSem E call (S.ep * 33554432 + i * 64) S.slot o.op = retO (evOp S.slot x)) → (opSem E call (S.ep * 33554432 + i * 64) S'.slot o.op = retO (evOp S'.slot x)) → (match o.dst with | some d => T.contains d | none => false) = true →
          ∃ S1', (match (opSem E call (S.ep * 33554432 + i * 64) S'.slot o.op).run S.at with | some ((v, w), rc, ro) => some (S'.put o.dst v w, (⟨rc, ro, wrHard w, wrSoft w⟩ : Tr)) | none => none) = some (S1', t) ∧ Tw T a b S1 S1' := fun x e1 e2 hd => by
        rcases h.ev x with h1 | ⟨h1, h2⟩
        · exact same (by rw [e1, e2, h1])
        · rw [e1, h1] at hs
          rw [e2, h2]
          simp only [retO, RM.run] at hs ⊢
          injection hs with hs
          injection hs with h3 h4
          subst h3; subst h4
          refine ⟨_, rfl, h.put (.inr ⟨fun d hd' => ?_, rfl, rfl⟩)⟩
          rw [hd'] at hd
          simpa using hd
      split at ho
      · rename_i x hop
        exact mv x (by rw [hop]; rfl) (by rw [hop]; rfl) ho
      · rename_i x hop
        exact mv x (by rw [hop]; rfl) (by rw [hop]; rfl) ho
      · rename_i ty x k n ty2 hop
        have hn : n = 255 := by simpa using ho
        subst hn
        refine same ?_
        rw [hop]
        rcases h.sl x with h1 | ⟨_, h1, h2⟩
        · simp only [opSem, evOp, h1]
        · simp only [opSem, evOp, h1, h2, RM.of, RM.bind, constPV, hm ty k]
      · cases ho
theorem run_tw (ha : isI a = true) (hb : isI b = true) (hm : Masked E.P a b) {ops : Array Oper} : ∀ {l : List Oper} {i : Nat} {S S' : St}, (∀ o ∈ l, tOp T o = true) → Tw T a b S S' → ∀ {S1 : St} {ts : List Tr}, runO E call ops i l S = some (S1, ts) → ∃ S1', runO E call ops i l S' = some (S1', ts) ∧ Tw T a b S1 S1'
  | [], i, S, S', _, h, S1, ts, hr => by
    simp only [runO, Option.some.injEq, Prod.mk.injEq] at hr
    obtain ⟨rfl, rfl⟩ := hr
    exact ⟨S', rfl, h⟩
  | o :: r, i, S, S', ho, h, S1, ts, hr => by
    simp only [runO] at hr ⊢
    split at hr
    · cases hr
    · rename_i S2 t hst
      obtain ⟨S2', e2, h2⟩ := step_tw ha hb hm (ho o (List.mem_cons_self)) h hst
      split at hr
      · cases hr
      · rename_i S3 ts' hr'
        simp only [Option.some.injEq, Prod.mk.injEq] at hr
        obtain ⟨rfl, rfl⟩ := hr
        obtain ⟨S3', e3, h3⟩ := run_tw ha hb hm (fun o ho' => ho o (List.mem_cons_of_mem _ ho')) h2 hr'
        exact ⟨S3', by simp [e2, e3], h3⟩
theorem normI_tw (h : Tw T a b S S') {dup : Nat → Bool} {n : NI} (hn : n.t ∉ T) : normI S dup n = normI S' dup n := by
  have h1 : S.slot n.t = S'.slot n.t := (h.sl n.t).resolve_right fun h => hn h.1
  have hat := h.at_eq
  have hleaf : ∀ (t j : Nat) row v, normLeaf S dup t j row v = normLeaf S' dup t j row v := fun t j row v => by unfold normLeaf; rw [hat]
  have hleafs : ∀ (t : Nat) rows (l : List PV) (j : Nat), normLeafs S dup t rows j l = normLeafs S' dup t rows j l := fun t rows l => by
    induction l with
    | nil => intro j; rfl
    | cons v r ih => intro j; simp only [normLeafs, hleaf, ih]
  unfold normI
  rw [h1, hat]
  simp only [hleaf, hleafs]
theorem norm_tw (h : Tw T a b S S') {n : Nat} {L : List NI} (hL : ∀ x ∈ L, x.t ∉ T) : norm n S L = norm n S' L := by
  have h1 : ∀ dup (L : List NI), (∀ x ∈ L, x.t ∉ T) → normL S dup L = normL S' dup L := fun dup L => by
    induction L with
    | nil => intro _; rfl
    | cons x r ih => intro hL; simp only [normL, normI_tw h (hL x (List.mem_cons_self)), ih fun y hy => hL y (List.mem_cons_of_mem _ hy)]
  have h2 : ∀ n, normLent S n = normLent S' n := fun n => by
    induction n with
    | zero => rfl
    | succ n ih => simp only [normLent, ih, h.at_eq]
  have hp : ∀ l, heldP S l = heldP S' l := fun l => by
    induction l with
    | nil => rfl
    | cons v r ih => cases v <;> simp only [heldP, ih]
  have h3 : ∀ (L : List NI), (∀ x ∈ L, x.t ∉ T) → L.flatMap (heldI S) = L.flatMap (heldI S') := fun L => by
    induction L with
    | nil => intro _; rfl
    | cons x r ih =>
      intro hL
      have hx : heldI S x = heldI S' x := by
        have : S.slot x.t = S'.slot x.t := (h.sl x.t).resolve_right fun h => hL x (List.mem_cons_self) h.1
        unfold heldI
        rw [this, h.at_eq]
        simp only [hp]
      rw [List.flatMap_cons, List.flatMap_cons, hx, ih fun y hy => hL y (List.mem_cons_of_mem _ hy)]
  unfold norm
  rw [h3 L hL]
  dsimp only
  rw [h1 _ L hL, h2 n]
theorem code_tw (ha : isI a = true) (hb : isI b = true) (hm : Masked E.P a b) {f : FuncId} {nl k : Nat} : ∀ (c : Code), tC T (E.lv f) c = true → ∀ {S S' : St}, Tw T a b S S' → ∀ {o : Out} {S1 : St}, denC E call f nl k c S = some (o, S1) → ∃ S1', denC E call f nl k c S' = some (o, S1') ∧ Tw T a b S1 S1' := by
  intro c
  induction c with
  | skip =>
    intro _ S S' h o S1 hr
    simp only [denC, Option.some.injEq, Prod.mk.injEq] at hr ⊢
    obtain ⟨rfl, rfl⟩ := hr
    exact ⟨S', ⟨rfl, rfl⟩, h⟩
  | exit id =>
    intro _ S S' h o S1 hr
    simp only [denC, Option.some.injEq, Prod.mk.injEq] at hr ⊢
    obtain ⟨rfl, rfl⟩ := hr
    exact ⟨S', ⟨rfl, rfl⟩, h⟩
  | ret =>
    intro _ S S' h o S1 hr
    simp only [denC, Option.some.injEq, Prod.mk.injEq] at hr ⊢
    obtain ⟨rfl, rfl⟩ := hr
    exact ⟨S', ⟨rfl, rfl⟩, h⟩
  | region id ops draw =>
    intro hc S S' h o S1 hr
    simp only [denC] at hr ⊢
    simp only [tC] at hc
    split at hr
    · cases hr
    · rename_i S2 ts hrun
      obtain ⟨S2', e2, h2⟩ := run_tw ha hb hm (fun o ho => by
        rw [Array.all_eq_true_iff_forall_mem] at hc
        exact hc o (by simpa using ho)) h hrun
      split at hr
      · rename_i hok
        simp only [Option.some.injEq, Prod.mk.injEq] at hr
        obtain ⟨rfl, rfl⟩ := hr
        simp only [e2, hok, if_true]
        exact ⟨_, rfl, h2.mem, by simp only [h2.ep], h2.sl⟩
      · cases hr
  | seq x y ihx ihy =>
    intro hc S S' h o S1 hr
    simp only [denC] at hr ⊢
    simp only [tC, Bool.and_eq_true] at hc
    split at hr
    · cases hr
    · rename_i o1 S2 hx
      obtain ⟨S2', e2, h2⟩ := ihx hc.1 h hx
      rw [e2]
      cases o1 with
      | normal => exact ihy hc.2 h2 hr
      | exit id =>
        simp only [Option.some.injEq, Prod.mk.injEq] at hr ⊢
        obtain ⟨rfl, rfl⟩ := hr
        exact ⟨S2', ⟨rfl, rfl⟩, h2⟩
      | ret =>
        simp only [Option.some.injEq, Prod.mk.injEq] at hr ⊢
        obtain ⟨rfl, rfl⟩ := hr
        exact ⟨S2', ⟨rfl, rfl⟩, h2⟩
  | cond c x y ihx ihy =>
    intro hc S S' h o S1 hr
    simp only [denC] at hr ⊢
    simp only [tC, Bool.and_eq_true] at hc
    rcases h.ev c with he | ⟨he, _⟩
    · rw [← he]
      split at hr
      · rename_i t ht
        cases t with
        | true => exact ihx hc.1 h hr
        | false => exact ihy hc.2 h hr
      · cases hr
    · rw [he] at hr
      cases a <;> first | (simp [isI] at ha; done) | (simp at hr; done)
  | block id x ihx =>
    intro hc S S' h o S1 hr
    simp only [denC] at hr ⊢
    simp only [tC] at hc
    split at hr
    · cases hr
    · rename_i o1 S2 hx
      obtain ⟨S2', e2, h2⟩ := ihx hc h hx
      rw [e2]
      cases o1 with
      | normal =>
        simp only [Option.some.injEq, Prod.mk.injEq] at hr ⊢
        obtain ⟨rfl, rfl⟩ := hr
        exact ⟨S2', ⟨rfl, rfl⟩, h2⟩
      | ret =>
        simp only [Option.some.injEq, Prod.mk.injEq] at hr ⊢
        obtain ⟨rfl, rfl⟩ := hr
        exact ⟨S2', ⟨rfl, rfl⟩, h2⟩
      | exit id' =>
        simp only at hr ⊢
        split at hr
        · rename_i hid
          simp only [Option.some.injEq, Prod.mk.injEq] at hr
          obtain ⟨rfl, rfl⟩ := hr
          simp only [hid, if_true]
          exact ⟨S2', rfl, h2⟩
        · rename_i hid
          simp only [Option.some.injEq, Prod.mk.injEq] at hr
          obtain ⟨rfl, rfl⟩ := hr
          simp only [hid]
          exact ⟨S2', rfl, h2⟩
  | loop x ihx =>
    intro hc S S' h o S1 hr
    simp only [denC] at hr ⊢
    simp only [tC, Bool.and_eq_true] at hc
    cases k with
    | zero => simp [iter] at hr
    | succ k =>
      simp only [iter] at hr ⊢
      rw [← norm_tw h (fun x hx => by simpa using List.all_eq_true.1 hc.2 x hx)]
      exact ⟨S1, hr, .refl ..⟩
  | _ => intro _ S S' _ o S1 hr; simp [denC] at hr

theorem expLeaf_at (hat : S.at = S'.at) (u : List Nat) (p : PV) : expLeaf S u p = expLeaf S' u p := by unfold expLeaf; rw [hat]
theorem expL_at (hat : S.at = S'.at) : ∀ (l : List PV) (u : List Nat), expL S u l = expL S' u l
  | [], _ => rfl
  | p :: r, u => by simp only [expL, expLeaf_at hat, expL_at hat r]
theorem expV_at (hat : S.at = S'.at) (u : List Nat) (p : PV) : expV S u p = expV S' u p := by
  unfold expV; rw [hat]; simp only [expL_at hat, expLeaf_at hat]
theorem expVs_at (hat : S.at = S'.at) : ∀ (l : List PV) (u : List Nat), expVs S u l = expVs S' u l
  | [], _ => rfl
  | p :: r, u => by simp only [expVs, expV_at hat, expVs_at hat r]
theorem expB_at (hat : S.at = S'.at) : ∀ (l : List Nat) (u : List Nat), expB S u l = expB S' u l
  | [], _ => rfl
  | d :: r, u => by simp only [expB, hat, expL_at hat, expB_at hat r]
def tRes (T : List Nat) : ResultVar → Bool | .tmp t => !T.contains t | .cell t _ => !T.contains t
theorem finish_tw (h : Tw T a b S S') {fn : Func} {n : Nat} (hr : ∀ x ∈ fn.results, tRes T x = true) : finish E.P fn n S = finish E.P fn n S' := by
  have hat := h.at_eq
  have h1 : ∀ (l : List ResultVar), (∀ x ∈ l, tRes T x = true) → resOs E.P S l = resOs E.P S' l := fun l => by
    induction l with
    | nil => intro _; rfl
    | cons x r ih =>
      intro hl
      have hx : resO E.P S x = resO E.P S' x := by
        have := hl x (List.mem_cons_self)
        cases x with
        | tmp t =>
          have ht : t ∉ T := by simpa [tRes] using this
          exact (h.sl t).resolve_right fun h => ht h.1
        | cell t ty =>
          have ht : t ∉ T := by simpa [tRes] using this
          simp only [resO, (h.sl t).resolve_right fun h => ht h.1, hat]
      simp only [resOs, hx, ih fun y hy => hl y (List.mem_cons_of_mem _ hy)]
  unfold finish
  rw [h1 _ fun x hx => hr x (by simpa using hx)]
  simp only [expVs_at hat, expB_at hat]
end

/-- What is shown at the masked one holds of all. -/
theorem den_tw {E : Env} {T : List Nat} {a b : PV} (ha : isI a = true) (hb : isI b = true) (hm : Masked E.P a b) {f : FuncId} {fn : Func} {c : Code} (hf : E.fns f = some fn) (hc : fn.body = some c) (ht : tC T (E.lv f) c = true) (hr : fn.results.all (tRes T) = true) (h0 : 0 ∈ T) {k : Nat} {r} (h : den E k f [a] [] = some r) : den E k f [b] [] = some r := by
  cases k with
  | zero => simp [den] at h
  | succ k =>
    simp only [den, hf, hc] at h ⊢
    have hr' : ∀ x ∈ fn.results, tRes T x = true := by rw [Array.all_eq_true_iff_forall_mem] at hr; exact hr
    have h1 : Tw T a b (entry [a] []) (entry [b] []) := ⟨rfl, rfl, fun t => by
      have e1 : (entry [a] []).slot t = upd (get []) 0 (some a) t := congrFun (get_cons 0 a []) t
      have e2 : (entry [b] []).slot t = upd (get []) 0 (some b) t := congrFun (get_cons 0 b []) t
      rw [e1, e2]
      simp only [upd]
      by_cases ht : t = 0
      · subst ht; exact .inr ⟨h0, by simp⟩
      · simp only [if_neg ht]; exact .inl trivial⟩
    split at h
    · cases h
    · cases h
    · rename_i c' hc' hl
      injection hc' with hc'
      subst hc'
      split at h
      · rename_i S1 hd
        obtain ⟨S1', e, h2⟩ := code_tw ha hb hm c ht h1 hd
        simp only [e, ← finish_tw (E := E) h2 hr']
        exact h
      · rename_i S1 hd
        obtain ⟨S1', e, h2⟩ := code_tw ha hb hm c ht h1 hd
        simp only [e, ← finish_tw (E := E) h2 hr']
        exact h
      · cases h
end Go.Den
