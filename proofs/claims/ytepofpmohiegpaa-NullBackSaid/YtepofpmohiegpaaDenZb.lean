/- Den, part Zb: an argument of which no more is looked at than what its last eight bits leave when divided. -/
import Derived.Test.YtepofpmohiegpaaDenZa
namespace Go.Den
open Go.RowKit

/-- The same, but for slots of T1, which may hold a here and b there, and slots of T2: a1 and b1. -/
structure Tw2 (T1 T2 : List Nat) (a b a1 b1 : PV) (S S' : St) : Prop where
  mem : S.mem = S'.mem
  ep : S.ep = S'.ep
  sl : ∀ t, S.slot t = S'.slot t ∨ (t ∈ T1 ∧ S.slot t = some a ∧ S'.slot t = some b) ∨ (t ∈ T2 ∧ S.slot t = some a1 ∧ S'.slot t = some b1)
def inT (T : List Nat) (d : Option Tmp) : Bool := match d with | some d => T.contains d | none => false
def tOp2 (T1 T2 : List Nat) (o : Oper) : Bool :=
  (o.op.operands.toList.all (freeOf (T1 ++ T2))) ||
  match o.op with
  | .move (.tmp s) | .assign (.tmp s) => (!T1.contains s || inT T1 o.dst) && (!T2.contains s || inT T2 o.dst)
  | .binOp .and _ (.tmp s) (.const (.int _ n)) _ => n == 255 && !T2.contains s && inT T2 o.dst
  | .binOp .rem _ (.tmp s) y _ => !T1.contains s && freeOf (T1 ++ T2) y
  | _ => false
def chkRem (T2 : List Nat) (N : Int) (o : Oper) (g : Nat → Option PV) : Bool :=
  match o.op with
  | .binOp .rem _ (.tmp t) y _ => !T2.contains t || (match evOp g y with | some (.int .i64 n) => n == N | _ => false)
  | _ => true
def runOG (T2 : List Nat) (N : Int) (E : Env) (call : Call) (ops : Array Oper) : Nat → List Oper → St → Option (St × List Tr)
  | _, [], S => some (S, [])
  | i, o :: r, S =>
    match chkRem T2 N o S.slot with
    | false => none
    | true =>
      match stepO E call ops i o S with
      | none => none
      | some (S1, t) =>
        match runOG T2 N E call ops (i + 1) r S1 with
        | none => none
        | some (S2, ts) => some (S2, t :: ts)
def denCG (T2 : List Nat) (N : Int) (E : Env) (call : Call) (f : FuncId) (nl : Nat) (k : Nat) : Code → St → Option (Out × St)
  | .skip, S => some (.normal, S)
  | .region _ ops draw, S =>
    match runOG T2 N E call ops 0 ops.toList S with
    | none => none
    | some (S', tr) => if Nat.ble ops.size 524288 && (!draw || drawOK ops tr) then some (.normal, { S' with ep := S'.ep + 1 }) else none
  | .seq a b, S =>
    match denCG T2 N E call f nl k a S with
    | none => none
    | some (o, S1) => match o with | .normal => denCG T2 N E call f nl k b S1 | o => some (o, S1)
  | .cond c a b, S =>
    match evOp S.slot c with
    | some (.bool t) => (match t with | true => denCG T2 N E call f nl k a S | false => denCG T2 N E call f nl k b S)
    | _ => none
  | .block id b, S =>
    match denCG T2 N E call f nl k b S with
    | none => none
    | some (o, S1) => match o with | .exit id' => (if id' == id then some (.normal, S1) else some (.exit id', S1)) | o => some (o, S1)
  | .exit id, S => some (.exit id, S)
  | .ret, S => some (.ret, S)
  | _, _ => none
def denG (T2 : List Nat) (N : Int) (E : Env) : Nat → Call
  | 0, _, _, _ => none
  | k + 1, f, args, lent =>
    match E.fns f with
    | none => none
    | some fn =>
      match fn.body, Nat.ble lent.length 64 with
      | none, _ | _, false => none
      | some c, true =>
        match denCG T2 N E (den E k) f lent.length k c (entry args lent) with
        | some (.normal, S) | some (.ret, S) => finish E.P fn lent.length S
        | _ => none
def tC2 (T1 T2 : List Nat) : Code → Bool
  | .region _ ops _ => ops.all (tOp2 T1 T2)
  | .seq x y => tC2 T1 T2 x && tC2 T1 T2 y
  | .cond _ x y => tC2 T1 T2 x && tC2 T1 T2 y
  | .block _ x => tC2 T1 T2 x
  | _ => true

structure Masks (P : Program) (N : Int) (a b a1 b1 : PV) : Prop where
  ia : isI a = true
  ib : isI b = true
  ia1 : isI a1 = true
  ib1 : isI b1 = true
  and : ∀ t k, evBin P .and t a (.int k 255) = evBin P .and t b (.int k 255) ∨ (evBin P .and t a (.int k 255) = some a1 ∧ evBin P .and t b (.int k 255) = some b1)
  rem : ∀ t, evBin P .rem t a1 (.int .i64 N) = evBin P .rem t b1 (.int .i64 N)

section
variable {E : Env} {call : Call} {T1 T2 : List Nat} {N : Int} {a b a1 b1 : PV} {S S' : St}
theorem Tw2.at_eq (h : Tw2 T1 T2 a b a1 b1 S S') : S.at = S'.at := by funext d; simp only [St.at, h.mem]
theorem Tw2.put (h : Tw2 T1 T2 a b a1 b1 S S') {dst : Option Tmp} {v v' : PV} {w : Wr} (hv : v = v' ∨ (inT T1 dst = true ∧ v = a ∧ v' = b) ∨ (inT T2 dst = true ∧ v = a1 ∧ v' = b1)) : Tw2 T1 T2 a b a1 b1 (S.put dst v w) (S'.put dst v' w) := by
  refine ⟨by simp only [St.put, h.mem], h.ep, fun t => ?_⟩
  cases dst with
  | none => exact h.sl t
  | some d =>
    have h1 : (S.put (some d) v w).slot t = upd S.slot d (some v) t := congrFun (get_cons d v S.sl) t
    have h2 : (S'.put (some d) v' w).slot t = upd S'.slot d (some v') t := congrFun (get_cons d v' S'.sl) t
    rw [h1, h2]
    simp only [upd]
    by_cases ht : t = d
    · subst ht
      simp only [if_true]
      rcases hv with rfl | ⟨h3, rfl, rfl⟩ | ⟨h3, rfl, rfl⟩
      · exact .inl rfl
      · exact .inr (.inl ⟨by simpa [inT] using h3, rfl, rfl⟩)
      · exact .inr (.inr ⟨by simpa [inT] using h3, rfl, rfl⟩)
    · simp only [if_neg ht]
      exact h.sl t
theorem isI_bool {v : PV} (h : isI v = true) (c : Bool) : v ≠ .bool c := by intro e; subst e; simp [isI] at h
theorem Tw2.wants (hM : Masks E.P N a b a1 b1) (h : Tw2 T1 T2 a b a1 b1 S S') (ops : Array Oper) (o : Oper) : wantsO ops o S = wantsO ops o S' := by
  unfold wantsO
  cases hg : o.guard with
  | none => rfl
  | some x =>
    obtain ⟨j, want⟩ := x
    simp only
    cases hq : ops[j]? with
    | none => rfl
    | some q =>
      simp only
      cases ht : q.dst with
      | none => rfl
      | some t =>
        simp only
        have int2 : ∀ {x y : PV}, isI x = true → isI y = true → (match some x with | some (.bool b) => some (b == want) | some .undef => some false | _ => (none : Option Bool)) = (match some y with | some (.bool b) => some (b == want) | some .undef => some false | _ => none) := fun {x y} hx hy => by
          cases x <;> cases y <;> first | rfl | (simp [isI] at hx; done) | (simp [isI] at hy; done)
        rcases h.sl t with h1 | ⟨_, h1, h2⟩ | ⟨_, h1, h2⟩
        · rw [h1]
        · rw [h1, h2]; exact int2 hM.ia hM.ib
        · rw [h1, h2]; exact int2 hM.ia1 hM.ib1
theorem step_tw2 (hM : Masks E.P N a b a1 b1) {ops : Array Oper} {i : Nat} {o : Oper} (ho : tOp2 T1 T2 o = true) (h : Tw2 T1 T2 a b a1 b1 S S') (hck : chkRem T2 N o S.slot = true) {S1 : St} {t : Tr} (hs : stepO E call ops i o S = some (S1, t)) :
    ∃ S1', stepO E call ops i o S' = some (S1', t) ∧ Tw2 T1 T2 a b a1 b1 S1 S1' := by
  unfold stepO at hs ⊢
  rw [← h.wants hM]
  split at hs
  · cases hs
  · injection hs with hs
    injection hs with h1 h2
    subst h1; subst h2
    exact ⟨_, rfl, h.put (.inl rfl)⟩
  · rw [← h.ep, ← h.at_eq]
    have same : opSem E call (S.ep * 33554432 + i * 64) S.slot o.op = opSem E call (S.ep * 33554432 + i * 64) S'.slot o.op →
        ∃ S1', (match (opSem E call (S.ep * 33554432 + i * 64) S'.slot o.op).run S.at with | some ((v, w), rc, ro) => some (S'.put o.dst v w, (⟨rc, ro, wrHard w, wrSoft w⟩ : Tr)) | none => none) = some (S1', t) ∧ Tw2 T1 T2 a b a1 b1 S1 S1' := fun he => by
      rw [← he]
      split at hs
      · rename_i hrun
        injection hs with hs
        injection hs with h1 h2
        subst h1; subst h2
        rw [hrun]
        exact ⟨_, rfl, h.put (.inl rfl)⟩
      · cases hs
    have differ : ∀ v v', opSem E call (S.ep * 33554432 + i * 64) S.slot o.op = .ret (v, []) → opSem E call (S.ep * 33554432 + i * 64) S'.slot o.op = .ret (v', []) → ((inT T1 o.dst = true ∧ v = a ∧ v' = b) ∨ (inT T2 o.dst = true ∧ v = a1 ∧ v' = b1)) →
        ∃ S1', (match (opSem E call (S.ep * 33554432 + i * 64) S'.slot o.op).run S.at with | some ((v, w), rc, ro) => some (S'.put o.dst v w, (⟨rc, ro, wrHard w, wrSoft w⟩ : Tr)) | none => none) = some (S1', t) ∧ Tw2 T1 T2 a b a1 b1 S1 S1' := fun v v' e1 e2 hv => by
      rw [e1] at hs
      rw [e2]
      simp only [RM.run] at hs ⊢
      injection hs with hs
      injection hs with h3 h4
      subst h3; subst h4
      exact ⟨_, rfl, h.put (.inr hv)⟩
    have free : ∀ x, freeOf (T1 ++ T2) x = true → evOp S.slot x = evOp S'.slot x := fun x hx => evOp_congr fun t ht => by
      subst ht
      have hn : t ∉ T1 ∧ t ∉ T2 := by simpa [freeOf, not_or] using hx
      rcases h.sl t with h1 | ⟨h1, _⟩ | ⟨h1, _⟩
      · exact h1
      · exact absurd h1 hn.1
      · exact absurd h1 hn.2
    unfold tOp2 at ho
    rw [Bool.or_eq_true] at ho
    rcases ho with ho | ho
    · refine same (opSem_congr fun t ht => ?_)
      exact free (.tmp t) (List.all_eq_true.1 ho (.tmp t) (by simpa using ht))
    · have mv : ∀ s, (∀ g, opSem E call (S.ep * 33554432 + i * 64) g o.op = retO (evOp g (.tmp s))) → ((!T1.contains s || inT T1 o.dst) && (!T2.contains s || inT T2 o.dst)) = true →
          ∃ S1', (match (opSem E call (S.ep * 33554432 + i * 64) S'.slot o.op).run S.at with | some ((v, w), rc, ro) => some (S'.put o.dst v w, (⟨rc, ro, wrHard w, wrSoft w⟩ : Tr)) | none => none) = some (S1', t) ∧ Tw2 T1 T2 a b a1 b1 S1 S1' := fun s e hd => by
        simp only [Bool.and_eq_true, Bool.or_eq_true, Bool.not_eq_true'] at hd
        rcases h.sl s with h1 | ⟨hm, h1, h2⟩ | ⟨hm, h1, h2⟩
        · exact same (by rw [e, e]; simp only [evOp, h1])
        · refine differ a b (by rw [e]; simp only [evOp, h1, retO]) (by rw [e]; simp only [evOp, h2, retO]) (.inl ⟨?_, rfl, rfl⟩)
          exact hd.1.resolve_left (by simp [hm])
        · refine differ a1 b1 (by rw [e]; simp only [evOp, h1, retO]) (by rw [e]; simp only [evOp, h2, retO]) (.inr ⟨?_, rfl, rfl⟩)
          exact hd.2.resolve_left (by simp [hm])
      split at ho
      · rename_i s hop
        exact mv s (fun g => by rw [hop]; rfl) ho
      · rename_i s hop
        exact mv s (fun g => by rw [hop]; rfl) ho
      · rename_i ty s k n ty2 hop
        simp only [Bool.and_eq_true, beq_iff_eq, Bool.not_eq_true'] at ho
        obtain ⟨⟨hn, hs2⟩, hd⟩ := ho
        subst hn
        have hs2 : s ∉ T2 := by simpa using hs2
        rcases h.sl s with h1 | ⟨_, h1, h2⟩ | ⟨hm, _⟩
        · refine same ?_
          rw [hop]
          simp only [opSem, evOp, h1]
        · rcases hM.and ty k with h3 | ⟨h3, h4⟩
          · refine same ?_
            rw [hop]
            simp only [opSem, evOp, h1, h2, RM.of, RM.bind, constPV, h3]
          · refine differ a1 b1 (by rw [hop]; simp only [opSem, evOp, h1, RM.of, RM.bind, constPV, h3, retO]) (by rw [hop]; simp only [opSem, evOp, h2, RM.of, RM.bind, constPV, h4, retO]) (.inr ⟨hd, rfl, rfl⟩)
        · exact absurd hm hs2
      · rename_i ty s y ty2 hop
        simp only [Bool.and_eq_true, Bool.not_eq_true'] at ho
        have hs1 : s ∉ T1 := by simpa using ho.1
        have hy := free y ho.2
        refine same ?_
        rw [hop]
        rcases h.sl s with h1 | ⟨hm, _⟩ | ⟨hm, h1, h2⟩
        · simp only [opSem, hy]
          simp only [evOp, h1]
        · exact absurd hm hs1
        · unfold chkRem at hck
          rw [hop] at hck
          simp only [Bool.or_eq_true, Bool.not_eq_true'] at hck
          rcases hck with hck | hck
          · exact absurd hm (by simpa using hck)
          · split at hck
            · rename_i n hn
              have hn' : n = N := by simpa using hck
              subst hn'
              simp only [opSem, ← hy, hn]
              simp only [evOp, h1, h2, RM.of, RM.bind, hM.rem ty]
            · cases hck
      · cases ho
theorem run_tw2 (hM : Masks E.P N a b a1 b1) {ops : Array Oper} : ∀ {l : List Oper} {i : Nat} {S S' : St}, (∀ o ∈ l, tOp2 T1 T2 o = true) → Tw2 T1 T2 a b a1 b1 S S' → ∀ {S1 : St} {ts : List Tr}, runOG T2 N E call ops i l S = some (S1, ts) → ∃ S1', runO E call ops i l S' = some (S1', ts) ∧ Tw2 T1 T2 a b a1 b1 S1 S1'
  | [], i, S, S', _, h, S1, ts, hr => by
    simp only [runOG, Option.some.injEq, Prod.mk.injEq] at hr
    obtain ⟨rfl, rfl⟩ := hr
    exact ⟨S', rfl, h⟩
  | o :: r, i, S, S', ho, h, S1, ts, hr => by
    simp only [runOG] at hr
    simp only [runO]
    split at hr
    · cases hr
    · rename_i hck
      split at hr
      · cases hr
      · rename_i S2 t hst
        obtain ⟨S2', e2, h2⟩ := step_tw2 hM (ho o (List.mem_cons_self)) h hck hst
        split at hr
        · cases hr
        · rename_i S3 ts' hr'
          simp only [Option.some.injEq, Prod.mk.injEq] at hr
          obtain ⟨rfl, rfl⟩ := hr
          obtain ⟨S3', e3, h3⟩ := run_tw2 hM (fun o ho' => ho o (List.mem_cons_of_mem _ ho')) h2 hr'
          exact ⟨S3', by simp [e2, e3], h3⟩
theorem code_tw2 (hM : Masks E.P N a b a1 b1) {f : FuncId} {nl k : Nat} : ∀ (c : Code), tC2 T1 T2 c = true → ∀ {S S' : St}, Tw2 T1 T2 a b a1 b1 S S' → ∀ {o : Out} {S1 : St}, denCG T2 N E call f nl k c S = some (o, S1) → ∃ S1', denC E call f nl k c S' = some (o, S1') ∧ Tw2 T1 T2 a b a1 b1 S1 S1' := by
  intro c
  induction c with
  | skip =>
    intro _ S S' h o S1 hr
    simp only [denCG, Option.some.injEq, Prod.mk.injEq] at hr
    obtain ⟨rfl, rfl⟩ := hr
    exact ⟨S', rfl, h⟩
  | exit id =>
    intro _ S S' h o S1 hr
    simp only [denCG, Option.some.injEq, Prod.mk.injEq] at hr
    obtain ⟨rfl, rfl⟩ := hr
    exact ⟨S', rfl, h⟩
  | ret =>
    intro _ S S' h o S1 hr
    simp only [denCG, Option.some.injEq, Prod.mk.injEq] at hr
    obtain ⟨rfl, rfl⟩ := hr
    exact ⟨S', rfl, h⟩
  | region id ops draw =>
    intro hc S S' h o S1 hr
    simp only [denCG] at hr
    simp only [denC]
    simp only [tC2] at hc
    split at hr
    · cases hr
    · rename_i S2 ts hrun
      obtain ⟨S2', e2, h2⟩ := run_tw2 hM (fun o ho => by
        rw [Array.all_eq_true_iff_forall_mem] at hc
        exact hc o (by simpa using ho)) h hrun
      split at hr
      · rename_i hok
        simp only [Option.some.injEq, Prod.mk.injEq] at hr
        obtain ⟨rfl, rfl⟩ := hr
        simp only [e2, hok, if_true]
        exact ⟨_, rfl, h2.mem, by simp only [h2.ep], h2.sl⟩
      · cases hr
  | seq x y ihx ihy =>
    intro hc S S' h o S1 hr
    simp only [denCG] at hr
    simp only [denC]
    simp only [tC2, Bool.and_eq_true] at hc
    split at hr
    · cases hr
    · rename_i o1 S2 hx
      obtain ⟨S2', e2, h2⟩ := ihx hc.1 h hx
      rw [e2]
      cases o1 with
      | normal => exact ihy hc.2 h2 hr
      | exit id =>
        simp only [Option.some.injEq, Prod.mk.injEq] at hr
        obtain ⟨rfl, rfl⟩ := hr
        exact ⟨S2', rfl, h2⟩
      | ret =>
        simp only [Option.some.injEq, Prod.mk.injEq] at hr
        obtain ⟨rfl, rfl⟩ := hr
        exact ⟨S2', rfl, h2⟩
  | cond c x y ihx ihy =>
    intro hc S S' h o S1 hr
    simp only [denCG] at hr
    simp only [denC]
    simp only [tC2, Bool.and_eq_true] at hc
    have hev : evOp S.slot c = evOp S'.slot c ∨ ∃ v, isI v = true ∧ evOp S.slot c = some v := by
      cases c with
      | tmp t =>
        rcases h.sl t with h1 | ⟨_, h1, _⟩ | ⟨_, h1, _⟩
        · exact .inl h1
        · exact .inr ⟨a, hM.ia, h1⟩
        · exact .inr ⟨a1, hM.ia1, h1⟩
      | _ => exact .inl rfl
    rcases hev with he | ⟨v, hv, he⟩
    · rw [← he]
      split at hr
      · rename_i t ht
        rw [ht]
        cases t with
        | true => exact ihx hc.1 h hr
        | false => exact ihy hc.2 h hr
      · cases hr
    · rw [he] at hr
      cases v <;> first | (simp [isI] at hv; done) | (simp at hr; done)
  | block id x ihx =>
    intro hc S S' h o S1 hr
    simp only [denCG] at hr
    simp only [denC]
    simp only [tC2] at hc
    split at hr
    · cases hr
    · rename_i o1 S2 hx
      obtain ⟨S2', e2, h2⟩ := ihx hc h hx
      rw [e2]
      cases o1 with
      | normal =>
        simp only [Option.some.injEq, Prod.mk.injEq] at hr
        obtain ⟨rfl, rfl⟩ := hr
        exact ⟨S2', rfl, h2⟩
      | ret =>
        simp only [Option.some.injEq, Prod.mk.injEq] at hr
        obtain ⟨rfl, rfl⟩ := hr
        exact ⟨S2', rfl, h2⟩
      | exit id' =>
        simp only at hr ⊢
        split at hr
        · rename_i hid
          simp only [Option.some.injEq, Prod.mk.injEq] at hr
          obtain ⟨rfl, rfl⟩ := hr
          simp only [hid, if_true]
          exact ⟨S2', rfl, h2⟩
        · rename_i hid
          simp only [Option.some.injEq, Prod.mk.injEq] at hr
          obtain ⟨rfl, rfl⟩ := hr
          simp only [hid]
          exact ⟨S2', rfl, h2⟩
  | _ => intro _ S S' _ o S1 hr; simp [denCG] at hr
theorem finish_tw2 (h : Tw2 T1 T2 a b a1 b1 S S') {fn : Func} {n : Nat} (hr : ∀ x ∈ fn.results, tRes (T1 ++ T2) x = true) : finish E.P fn n S = finish E.P fn n S' := by
  have hat := h.at_eq
  have free : ∀ t, t ∉ T1 ++ T2 → S.slot t = S'.slot t := fun t ht => by
    simp only [List.mem_append, not_or] at ht
    rcases h.sl t with h1 | ⟨h1, _⟩ | ⟨h1, _⟩
    · exact h1
    · exact absurd h1 ht.1
    · exact absurd h1 ht.2
  have h1 : ∀ (l : List ResultVar), (∀ x ∈ l, tRes (T1 ++ T2) x = true) → resOs E.P S l = resOs E.P S' l := fun l => by
    induction l with
    | nil => intro _; rfl
    | cons x r ih =>
      intro hl
      have hx : resO E.P S x = resO E.P S' x := by
        have := hl x (List.mem_cons_self)
        cases x with
        | tmp t =>
          have ht : t ∉ T1 ++ T2 := by simpa [tRes] using this
          exact free t ht
        | cell t ty =>
          have ht : t ∉ T1 ++ T2 := by simpa [tRes] using this
          simp only [resO, free t ht, hat]
      simp only [resOs, hx, ih fun y hy => hl y (List.mem_cons_of_mem _ hy)]
  unfold finish
  rw [h1 _ fun x hx => hr x (by simpa using hx)]
  simp only [expVs_at hat, expB_at hat]
end
theorem den_tw2 {E : Env} {T1 T2 : List Nat} {N : Int} {a b a1 b1 : PV} (hM : Masks E.P N a b a1 b1) {f : FuncId} {fn : Func} {c : Code} (hf : E.fns f = some fn) (hc : fn.body = some c) (ht : tC2 T1 T2 c = true) (hr : fn.results.all (tRes (T1 ++ T2)) = true) (h0 : 0 ∈ T1) {k : Nat} {r} (h : denG T2 N E k f [a] [] = some r) : den E k f [b] [] = some r := by
  cases k with
  | zero => simp [denG] at h
  | succ k =>
    simp only [denG, hf, hc] at h
    have hgoal : den E (k + 1) f [b] [] = (match denC E (den E k) f 0 k c (entry [b] []) with | some (.normal, S) | some (.ret, S) => finish E.P fn 0 S | _ => none) := by
      simp only [den, hf, hc]
      rfl
    rw [hgoal]
    have hr' : ∀ x ∈ fn.results, tRes (T1 ++ T2) x = true := by rw [Array.all_eq_true_iff_forall_mem] at hr; exact hr
    have h1 : Tw2 T1 T2 a b a1 b1 (entry [a] []) (entry [b] []) := ⟨rfl, rfl, fun t => by
      have e1 : (entry [a] []).slot t = upd (get []) 0 (some a) t := congrFun (get_cons 0 a []) t
      have e2 : (entry [b] []).slot t = upd (get []) 0 (some b) t := congrFun (get_cons 0 b []) t
      rw [e1, e2]
      simp only [upd]
      by_cases ht : t = 0
      · subst ht; exact .inr (.inl ⟨h0, by simp⟩)
      · simp only [if_neg ht]; exact .inl trivial⟩
    split at h
    · cases h
    · cases h
    · rename_i c' hc' hl
      injection hc' with hc'
      subst hc'
      split at h
      · rename_i S1 hd
        obtain ⟨S1', e, h2⟩ := code_tw2 hM c ht h1 hd
        have e : denC E (den E k) f 0 k c (entry [b] []) = _ := e
        rw [e]
        exact (finish_tw2 (E := E) h2 hr').symm.trans h
      · rename_i S1 hd
        obtain ⟨S1', e, h2⟩ := code_tw2 hM c ht h1 hd
        have e : denC E (den E k) f 0 k c (entry [b] []) = _ := e
        rw [e]
        exact (finish_tw2 (E := E) h2 hr').symm.trans h
      · cases h

theorem masks (P : Program) (N : Nat) (hN : 0 < N ∧ N ≤ 256) (n : Int) : ∃ m : Nat, m < N ∧ ∃ b1, Masks P N (.int .i64 m) (.int .i64 n) (.int .i64 m) b1 := by
  let X : BitVec 64 := BitVec.ofInt 64 n &&& 255#64
  have hlt : X.toNat < 256 := by
    show (BitVec.ofInt 64 n &&& 255#64).toNat < 256
    rw [BitVec.toNat_and]
    exact Nat.lt_of_le_of_lt Nat.and_le_right (by decide)
  have hm : X.toNat % N < N := Nat.mod_lt _ hN.1
  have h255 : BitVec.ofInt 64 255 = 255#64 := by decide
  have small : ∀ m : Nat, m < 256 → IntKind.i64.wrap (m : Int) = m := fun m hm => IntWalk.i64_in _ (by omega)
  have and_small : ∀ m : Nat, m < 256 → (BitVec.ofInt 64 (m : Int) &&& 255#64).toNat = m := fun m hm => by
    rw [BitVec.toNat_and]
    have : (BitVec.ofInt 64 (m : Int)).toNat = m := by simp; omega
    rw [this]
    show m &&& 255 = m
    rw [show (255 : Nat) = 2 ^ 8 - 1 by decide, Nat.and_two_pow_sub_one_eq_mod]
    omega
  refine ⟨X.toNat % N, hm, .int .i64 X.toNat, rfl, rfl, rfl, rfl, fun t k => ?_, fun t => ?_⟩
  · by_cases hk : k = .i64
    · subst hk
      refine .inr ⟨?_, ?_⟩
      · show some (PV.int .i64 (IntKind.i64.wrap (BitVec.ofInt 64 ((X.toNat % N : Nat) : Int) &&& BitVec.ofInt 64 255).toNat)) = _
        rw [h255, and_small _ (by omega), small _ (by omega)]
      · show some (PV.int .i64 (IntKind.i64.wrap (BitVec.ofInt 64 n &&& BitVec.ofInt 64 255).toNat)) = _
        rw [h255]
        show some (PV.int .i64 (IntKind.i64.wrap (X.toNat : Int))) = _
        rw [small _ hlt]
    · refine .inl ?_
      have : ¬ (IntKind.i64 = k) := fun e => hk e.symm
      simp only [evBin, this, if_false]
  · have hne : ¬ ((N : Int) = 0) := by omega
    show (if (N : Int) = 0 then none else some (PV.int .i64 (((X.toNat % N : Nat) : Int).tmod N))) = if (N : Int) = 0 then none else some (PV.int .i64 ((X.toNat : Int).tmod N))
    rw [if_neg hne, if_neg hne]
    congr 2
    rw [← Int.ofNat_tmod, ← Int.ofNat_tmod, Nat.mod_mod]
def tFn2 (T1 T2 : List Nat) (fn : Func) : Bool := match fn.body with | some c => tC2 T1 T2 c && fn.results.all (tRes (T1 ++ T2)) && T1.contains 0 | none => false
/-- A law of one number, masked and divided by how many rows there are. -/
theorem rows_calls {E : Env} (hE : EnvOK E) (T1 T2 : List Nat) (N : Nat) (hN : 0 < N ∧ N ≤ 256) {k : Nat} {f : FuncId} {fn : Func} (hf : E.fns f = some fn) (ht : tFn2 T1 T2 fn = true) (h : ∀ m, m < N → saysTrue (denG T2 N E k f [.int .i64 (m : Nat)] []) = true) (a : Int) (w : World) :
    Calls E.P f #[.int .i64 a] w fun e w' => e = .returned (.bool true) ∧ Below w.heap.size w w' := by
  obtain ⟨m, hm, b1, hM⟩ := masks E.P N hN a
  have h1 := says_true (h m hm)
  unfold tFn2 at ht
  split at ht
  · rename_i c hc
    simp only [Bool.and_eq_true] at ht
    have h2 := den_tw2 hM hf hc ht.1.1 ht.1.2 (by simpa using ht.2) h1
    refine law_calls hE h2 ⟨rfl, fun j v p hv hp => ?_⟩
    cases j with
    | zero => simp at hv hp; subst hv; subst hp; exact arg_int ..
    | succ j => simp at hv
  · cases ht
noncomputable def blkG (E : Env) (T2 : List Nat) (N k : Nat) (f : FuncId) (i B : Nat) : Bool := (List.range' i B).all fun m => saysTrue (denG T2 N E k f [.int .i64 (m : Nat)] [])
theorem blkG_at {E : Env} {T2 : List Nat} {N k : Nat} {f : FuncId} {i B : Nat} (h : blkG E T2 N k f i B = true) {m : Nat} (h1 : i ≤ m) (h2 : m < i + B) : saysTrue (denG T2 N E k f [.int .i64 (m : Nat)] []) = true :=
  List.all_eq_true.1 h m (List.mem_range'_1.2 ⟨h1, h2⟩)
end Go.Den
