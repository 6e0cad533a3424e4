/- Den, part Zc: the evaluator without fuel, and what a code comes to by its rules. -/
import Derived.Test.YtepofpmohiegpaaDenZb
namespace Go.Den
open Go

/-! ### more calls are told: more runs are -/
def Le (c1 c2 : Call) : Prop := ∀ f a l r, c1 f a l = some r → c2 f a l = some r
theorem run_bind_mono {α β : Type} {x : RM α} {f g : α → RM β} {m : Nat → Option Ent} (h : ∀ a z, (f a).run m = some z → (g a).run m = some z) :
    ∀ z, (x.bind f).run m = some z → (x.bind g).run m = some z := by
  induction x with
  | ret a => intro z hz; exact h a z hz
  | fail => intro z hz; exact hz
  | rdc d k ih =>
    intro z hz
    simp only [RM.bind, RM.run] at hz ⊢
    split at hz
    · rename_i e he
      split at hz
      · rename_i a l o hk
        rw [ih _ _ hk]
        exact hz
      · cases hz
    · cases hz
  | own d k ih =>
    intro z hz
    simp only [RM.bind, RM.run] at hz ⊢
    split at hz
    · rename_i e he
      split at hz
      · rename_i hown
        split at hz
        · rename_i a l o hk
          rw [ih _ _ hk]
          exact hz
        · cases hz
      · cases hz
    · cases hz
theorem callOf_mono {E : Env} {c1 c2 : Call} (hc : Le c1 c2) {f : FuncId} {x : Option Ext} {y} {r} (h : callOf E c1 f x y = some r) : callOf E c2 f x y = some r := by
  unfold callOf at h ⊢
  split
  · simpa using h
  · rename_i hx
    split at h
    · rename_i g; exact absurd rfl (hx g)
    · exact hc _ _ _ _ h
theorem callSem_mono {E : Env} {c1 c2 : Call} (hc : Le c1 c2) {fid f args m} : ∀ z, (callSem E c1 fid f args).run m = some z → (callSem E c2 fid f args).run m = some z := by
  intro z h
  unfold callSem at h ⊢
  split
  · rename_i hx; rw [hx] at h; exact h
  · rename_i hx
    split at h
    · rename_i hx'; exact absurd hx' hx
    · refine run_bind_mono (fun y z h => ?_) z h
      split at h
      · cases h
      · rename_i hn
        rw [if_neg hn]
        split at h
        · cases h
        · rename_i r lent hr
          rw [callOf_mono hc hr]
          exact h
theorem opSem_mono {E : Env} {c1 c2 : Call} (hc : Le c1 c2) {fid g op m} : ∀ z, (opSem E c1 fid g op).run m = some z → (opSem E c2 fid g op).run m = some z := by
  intro z h
  cases op with
  | call c =>
    simp only [opSem] at h ⊢
    split
    · rename_i hx; rw [hx] at h; exact h
    · rename_i args hx
      rw [hx] at h
      dsimp only at h
      split
      · rename_i hb; rw [hb] at h; exact h
      · rename_i hb
        rw [hb] at h
        refine run_bind_mono (fun a z h => ?_) z h
        split
        · exact callSem_mono hc _ h
        · rename_i hn
          split at h
          · rename_i f caps; exact absurd rfl (hn f caps)
          · exact h
      · rename_i h1 h2
        split at h
        · rename_i b hb; exact absurd hb (h1 b)
        · rename_i b hb; exact absurd hb (h2 b)
        · exact h
  | makeFunc fn first caps => cases fn <;> exact h
  | _ => exact h
theorem stepO_mono {E : Env} {c1 c2 : Call} (hc : Le c1 c2) {ops i o S z} (h : stepO E c1 ops i o S = some z) : stepO E c2 ops i o S = some z := by
  unfold stepO at h ⊢
  split
  · rename_i hw; rw [hw] at h; exact h
  · rename_i hw; rw [hw] at h; exact h
  · rename_i hw
    rw [hw] at h
    dsimp only at h
    split at h
    · rename_i hx; rw [opSem_mono hc _ hx]; exact h
    · cases h
theorem runO_mono {E : Env} {c1 c2 : Call} (hc : Le c1 c2) {ops} : ∀ (l : List Oper) (i : Nat) (S : St) (z), runO E c1 ops i l S = some z → runO E c2 ops i l S = some z := by
  intro l
  induction l with
  | nil => intro i S z h; exact h
  | cons o r ih =>
    intro i S z h
    simp only [runO] at h ⊢
    split at h
    · cases h
    · rename_i S1 t hx
      rw [stepO_mono hc hx]
      dsimp only
      split at h
      · cases h
      · rename_i S2 ts hy
        rw [ih _ _ _ hy]
        exact h
theorem iter_mono {n : St → Option St} {b1 b2 : St → Option (Out × St)} (hb : ∀ S z, b1 S = some z → b2 S = some z) : ∀ (k k' : Nat), k ≤ k' → ∀ S z, iter n b1 k S = some z → iter n b2 k' S = some z := by
  intro k
  induction k with
  | zero => intro k' _ S z h; cases h
  | succ k ih =>
    intro k' hk S z h
    obtain ⟨k', rfl⟩ : ∃ j, k' = j + 1 := ⟨k' - 1, by omega⟩
    simp only [iter] at h ⊢
    split at h
    · cases h
    · split at h
      · cases h
      · rename_i hx
        rw [hb _ _ hx]
        dsimp only
        split at h
        · exact ih k' (by omega) _ _ h
        · exact h
theorem denC_mono {E : Env} {c1 c2 : Call} (hc : Le c1 c2) {f nl k k'} (hk : k ≤ k') : ∀ (c : Code) (S : St) (z), denC E c1 f nl k c S = some z → denC E c2 f nl k' c S = some z := by
  intro c
  induction c with
  | region id ops draw =>
    intro S z h
    simp only [denC] at h ⊢
    split at h
    · cases h
    · rename_i hx
      rw [runO_mono hc _ _ _ _ hx]
      exact h
  | seq a b iha ihb =>
    intro S z h
    simp only [denC] at h ⊢
    split at h
    · cases h
    · rename_i hx
      rw [iha _ _ hx]
      dsimp only
      split at h
      · exact ihb _ _ h
      · exact h
  | cond c a b iha ihb =>
    intro S z h
    simp only [denC] at h ⊢
    split at h
    · rename_i t ht
      split at h
      · exact iha _ _ h
      · exact ihb _ _ h
    · cases h
  | block id b ih =>
    intro S z h
    simp only [denC] at h ⊢
    split at h
    · cases h
    · rename_i hx
      rw [ih _ _ hx]
      exact h
  | loop b ih =>
    intro S z h
    simp only [denC] at h ⊢
    exact iter_mono (fun S z => ih S z) _ _ hk _ _ h
  | skip => intro S z h; simpa only [denC] using h
  | exit id => intro S z h; simpa only [denC] using h
  | ret => intro S z h; simpa only [denC] using h
  | _ => intro S z h; simp only [denC] at h; cases h
theorem den_succ {E : Env} : ∀ k, Le (den E k) (den E (k + 1)) := by
  intro k
  induction k with
  | zero => intro f a l r h; cases h
  | succ k ih =>
    intro f a l r h
    rw [den] at h ⊢
    split at h
    · cases h
    · split at h
      · cases h
      · cases h
      · rename_i c hb hl
        split at h
        · rename_i S hx; rw [denC_mono ih (Nat.le_succ k) _ _ _ hx]; exact h
        · rename_i S hx; rw [denC_mono ih (Nat.le_succ k) _ _ _ hx]; exact h
        · cases h
theorem den_le {E : Env} {k k' : Nat} (h : k ≤ k') : Le (den E k) (den E k') := by
  induction h with
  | refl => exact fun _ _ _ _ h => h
  | step _ ih => exact fun f a l r h => den_succ _ _ _ _ _ (ih f a l r h)

/-! ### without fuel -/
open Classical in
noncomputable def dw (E : Env) : Call := fun f a l => if h : ∃ r, ∃ k, den E k f a l = some r then some h.choose else none
theorem dw_of {E : Env} {k f a l r} (h : den E k f a l = some r) : dw E f a l = some r := by
  have hex : ∃ r, ∃ k, den E k f a l = some r := ⟨r, k, h⟩
  simp only [dw, dif_pos hex]
  obtain ⟨k', hk'⟩ := hex.choose_spec
  have h1 := den_le (Nat.le_max_left k k') _ _ _ _ h
  have h2 := den_le (Nat.le_max_right k k') _ _ _ _ hk'
  rw [h1] at h2
  simpa using h2.symm
theorem of_dw {E : Env} {f a l r} (h : dw E f a l = some r) : ∃ k, den E k f a l = some r := by
  unfold dw at h
  split at h
  · rename_i hex
    obtain ⟨k', hk'⟩ := hex.choose_spec
    simp only [Option.some.injEq] at h
    exact ⟨k', h ▸ hk'⟩
  · cases h

theorem callSem_lim {E : Env} {fid f args m} {z} (h : (callSem E (dw E) fid f args).run m = some z) : ∃ k, (callSem E (den E k) fid f args).run m = some z := by
  -- the one call that is made
  by_cases hx : E.ext f = some .clip
  · refine ⟨0, ?_⟩
    unfold callSem at h ⊢
    rw [hx] at h ⊢
    exact h
  · have key : ∀ (c : Call), callSem E c fid f args = (lendA args []).bind fun y =>
        if (y.2.1 ++ y.2.2.1).any (fun z => y.2.2.2.any fun b => b.1 == z.1) then .fail else
        match callOf E c f (E.ext f) y with
        | none => .fail
        | some (r, lent) =>
          match impR fid 0 r with
          | (v, w, j) =>
            match impB fid j (y.2.2.2.map (·.1)) lent with
            | none => .fail
            | some (wb, j') => if j' ≤ 64 then .ret (v, (if shares r || !y.2.2.2.isEmpty then y.2.1 else []) ++ y.2.2.1 ++ w ++ wb) else .fail := by
      intro c
      unfold callSem
      split
      · rename_i h; exact absurd h hx
      · rfl
    have gen : ∀ (x : RM (List PV × Wr × Wr × List (Nat × List PV))) (F : Call → (List PV × Wr × Wr × List (Nat × List PV)) → RM (PV × Wr)),
        (∀ y z, (F (dw E) y).run m = some z → ∃ k, (F (den E k) y).run m = some z) →
        ∀ z, (x.bind (F (dw E))).run m = some z → ∃ k, (x.bind (F (den E k))).run m = some z := by
      intro x F hF
      induction x with
      | ret a => intro z hz; exact hF a z hz
      | fail => intro z hz; cases hz
      | rdc d k ih =>
        intro z hz
        simp only [RM.bind, RM.run] at hz ⊢
        split at hz
        · rename_i e he
          split at hz
          · rename_i a l o hk
            obtain ⟨k0, h0⟩ := ih _ _ hk
            exact ⟨k0, by simp only [h0]; exact hz⟩
          · cases hz
        · cases hz
      | own d k ih =>
        intro z hz
        simp only [RM.bind, RM.run] at hz ⊢
        split at hz
        · rename_i e he
          split at hz
          · rename_i hown
            split at hz
            · rename_i a l o hk
              obtain ⟨k0, h0⟩ := ih _ _ hk
              exact ⟨k0, by simp only [h0]; exact hz⟩
            · cases hz
          · cases hz
        · cases hz
    rw [key] at h
    simp only [key]
    refine gen _ (fun c y => if (y.2.1 ++ y.2.2.1).any (fun z => y.2.2.2.any fun b => b.1 == z.1) then .fail else
        match callOf E c f (E.ext f) y with
        | none => .fail
        | some (r, lent) =>
          match impR fid 0 r with
          | (v, w, j) =>
            match impB fid j (y.2.2.2.map (·.1)) lent with
            | none => .fail
            | some (wb, j') => if j' ≤ 64 then .ret (v, (if shares r || !y.2.2.2.isEmpty then y.2.1 else []) ++ y.2.2.1 ++ w ++ wb) else .fail) (fun y z hz => ?_) z h
    dsimp only at hz ⊢
    split at hz
    · cases hz
    · rename_i hn
      simp only [if_neg hn]
      split at hz
      · cases hz
      · rename_i r lent hr
        have : ∃ k, callOf E (den E k) f (E.ext f) y = some (r, lent) := by
          unfold callOf at hr ⊢
          split at hr
          · exact ⟨0, hr⟩
          · exact of_dw hr
        obtain ⟨k, hk⟩ := this
        exact ⟨k, by rw [hk]; exact hz⟩
theorem opSem_lim {E : Env} {fid g op m} {z} (h : (opSem E (dw E) fid g op).run m = some z) : ∃ k, (opSem E (den E k) fid g op).run m = some z := by
  cases op with
  | call c =>
    simp only [opSem] at h ⊢
    split at h
    · cases h
    · rename_i args hx
      split at h
      · exact ⟨0, h⟩
      · rename_i x hb
        cases hg : evOp g x with
        | none => rw [hg] at h; cases h
        | some v =>
          rw [hg] at h
          cases v with
          | fn f caps => exact callSem_lim h
          | _ => cases h
      · cases h
  | makeFunc fn first caps => cases fn <;> exact ⟨0, h⟩
  | _ => exact ⟨0, h⟩
theorem stepO_lim {E : Env} {ops i o S z} (h : stepO E (dw E) ops i o S = some z) : ∃ k, stepO E (den E k) ops i o S = some z := by
  unfold stepO at h ⊢
  split at h
  · cases h
  · exact ⟨0, h⟩
  · split at h
    · rename_i hx
      obtain ⟨k, hk⟩ := opSem_lim hx
      exact ⟨k, by rw [hk]; exact h⟩
    · cases h
theorem runO_lim {E : Env} {ops} : ∀ (l : List Oper) (i : Nat) (S : St) (z), runO E (dw E) ops i l S = some z → ∃ k, runO E (den E k) ops i l S = some z := by
  intro l
  induction l with
  | nil => intro i S z h; exact ⟨0, h⟩
  | cons o r ih =>
    intro i S z h
    simp only [runO] at h ⊢
    split at h
    · cases h
    · rename_i S1 t hx
      split at h
      · cases h
      · rename_i S2 ts hy
        obtain ⟨k1, h1⟩ := stepO_lim hx
        obtain ⟨k2, h2⟩ := ih _ _ _ hy
        refine ⟨max k1 k2, ?_⟩
        rw [stepO_mono (den_le (Nat.le_max_left _ _)) h1]
        dsimp only
        rw [runO_mono (den_le (Nat.le_max_right _ _)) _ _ _ _ h2]
        exact h
theorem iter_lim {n : St → Option St} {b : St → Option (Out × St)} {B : Nat → St → Option (Out × St)} (hm : ∀ k k', k ≤ k' → ∀ S z, B k S = some z → B k' S = some z)
    (hb : ∀ S z, b S = some z → ∃ k, B k S = some z) : ∀ (K : Nat), ∀ S z, iter n b K S = some z → ∃ k, iter n (B k) K S = some z := by
  intro K
  induction K with
  | zero => intro S z h; cases h
  | succ K ih =>
    intro S z h
    simp only [iter] at h ⊢
    split at h
    · cases h
    · rename_i S1 hn
      split at h
      · cases h
      · rename_i o S2 hx
        obtain ⟨k1, h1⟩ := hb _ _ hx
        split at h
        · obtain ⟨k2, h2⟩ := ih _ _ h
          refine ⟨max k1 k2, ?_⟩
          rw [hm _ _ (Nat.le_max_left k1 k2) _ _ h1]
          exact iter_mono (fun S z => hm _ _ (Nat.le_max_right k1 k2) S z) K K (Nat.le_refl _) _ _ h2
        · rename_i hne
          refine ⟨k1, ?_⟩
          rw [h1]
          dsimp only
          split
          · exact absurd rfl (hne)
          · exact h
theorem denC_lim {E : Env} {f nl K} : ∀ (c : Code) (S : St) (z), denC E (dw E) f nl K c S = some z → ∃ k, denC E (den E k) f nl K c S = some z := by
  intro c
  induction c with
  | region id ops draw =>
    intro S z h
    simp only [denC] at h ⊢
    split at h
    · cases h
    · rename_i hx
      obtain ⟨k, hk⟩ := runO_lim _ _ _ _ hx
      exact ⟨k, by rw [hk]; exact h⟩
  | seq a b iha ihb =>
    intro S z h
    simp only [denC] at h ⊢
    split at h
    · cases h
    · rename_i o S1 hx
      obtain ⟨k1, h1⟩ := iha _ _ hx
      split at h
      · obtain ⟨k2, h2⟩ := ihb _ _ h
        refine ⟨max k1 k2, ?_⟩
        rw [denC_mono (den_le (Nat.le_max_left k1 k2)) (Nat.le_refl _) _ _ _ h1]
        exact denC_mono (den_le (Nat.le_max_right k1 k2)) (Nat.le_refl _) _ _ _ h2
      · rename_i hne
        refine ⟨k1, ?_⟩
        rw [h1]
        dsimp only
        split
        · exact absurd rfl hne
        · exact h
  | cond c a b iha ihb =>
    intro S z h
    simp only [denC] at h ⊢
    split at h
    · rename_i t ht
      split at h
      · obtain ⟨k, hk⟩ := iha _ _ h; exact ⟨k, hk⟩
      · obtain ⟨k, hk⟩ := ihb _ _ h; exact ⟨k, hk⟩
    · cases h
  | block id b ih =>
    intro S z h
    simp only [denC] at h ⊢
    split at h
    · cases h
    · rename_i hx
      obtain ⟨k, hk⟩ := ih _ _ hx
      exact ⟨k, by rw [hk]; exact h⟩
  | loop b ih =>
    intro S z h
    simp only [denC] at h ⊢
    exact iter_lim (B := fun k => denC E (den E k) f nl K b) (fun k k' hk S z h => denC_mono (den_le hk) (Nat.le_refl _) _ _ _ h) (fun S z h => ih S z h) _ _ _ h
  | skip => intro S z h; exact ⟨0, by simpa only [denC] using h⟩
  | exit id => intro S z h; exact ⟨0, by simpa only [denC] using h⟩
  | ret => intro S z h; exact ⟨0, by simpa only [denC] using h⟩
  | _ => intro S z h; simp only [denC] at h; cases h

/-! ### what a code comes to -/
def Runs (E : Env) (f : FuncId) (nl : Nat) (c : Code) (S : St) (P : Out → St → Prop) : Prop :=
  ∃ K o S', denC E (dw E) f nl K c S = some (o, S') ∧ P o S'
theorem Le.refl (c : Call) : Le c c := fun _ _ _ _ h => h
theorem Runs.mono {E f nl c S} {P Q : Out → St → Prop} (h : Runs E f nl c S P) (hq : ∀ o S', P o S' → Q o S') : Runs E f nl c S Q := by
  obtain ⟨K, o, S', h1, h2⟩ := h
  exact ⟨K, o, S', h1, hq _ _ h2⟩
theorem runs_skip {E f nl S P} : Runs E f nl .skip S P = P .normal S :=
  propext ⟨fun ⟨_, _, _, h, hp⟩ => by simp only [denC, Option.some.injEq, Prod.mk.injEq] at h; obtain ⟨rfl, rfl⟩ := h; exact hp, fun h => ⟨0, _, _, rfl, h⟩⟩
theorem runs_exit {E f nl id S P} : Runs E f nl (.exit id) S P = P (.exit id) S :=
  propext ⟨fun ⟨_, _, _, h, hp⟩ => by simp only [denC, Option.some.injEq, Prod.mk.injEq] at h; obtain ⟨rfl, rfl⟩ := h; exact hp, fun h => ⟨0, _, _, rfl, h⟩⟩
theorem runs_ret {E f nl S P} : Runs E f nl .ret S P = P .ret S :=
  propext ⟨fun ⟨_, _, _, h, hp⟩ => by simp only [denC, Option.some.injEq, Prod.mk.injEq] at h; obtain ⟨rfl, rfl⟩ := h; exact hp, fun h => ⟨0, _, _, rfl, h⟩⟩
/-- what comes behind -/
def next (E : Env) (f : FuncId) (nl : Nat) (b : Code) (P : Out → St → Prop) : Out → St → Prop
  | .normal, S => Runs E f nl b S P
  | o, S => P o S
theorem runs_seq {E f nl a b S P} : Runs E f nl (.seq a b) S P = Runs E f nl a S (next E f nl b P) := by
  refine propext ⟨fun ⟨K, o, S', h, hp⟩ => ?_, fun ⟨K, o, S', h, hp⟩ => ?_⟩
  · simp only [denC] at h
    split at h
    · cases h
    · rename_i o1 S1 hx
      refine ⟨K, o1, S1, hx, ?_⟩
      split at h
      · exact ⟨K, o, S', h, hp⟩
      · rename_i hne
        obtain ⟨rfl, rfl⟩ : o1 = o ∧ S1 = S' := by simpa using h
        cases o1 with
        | normal => exact absurd rfl hne
        | _ => exact hp
  · cases o with
    | normal =>
      obtain ⟨K2, o2, S2, h2, hp2⟩ := hp
      refine ⟨max K K2, o2, S2, ?_, hp2⟩
      simp only [denC]
      rw [denC_mono (Le.refl _) (Nat.le_max_left K K2) _ _ _ h]
      exact denC_mono (Le.refl _) (Nat.le_max_right K K2) _ _ _ h2
    | _ => exact ⟨K, _, S', by simp only [denC, h], hp⟩
theorem next_normal {E f nl b P S} : next E f nl b P .normal S = Runs E f nl b S P := rfl
theorem next_exit {E f nl b P id S} : next E f nl b P (.exit id) S = P (.exit id) S := rfl
theorem next_ret {E f nl b P S} : next E f nl b P .ret S = P .ret S := rfl
/-- behind a block -/
def leave (id : Nat) (P : Out → St → Prop) : Out → St → Prop
  | .exit i, S => if i == id then P .normal S else P (.exit i) S
  | o, S => P o S
theorem leave_normal {id P S} : leave id P .normal S = P .normal S := rfl
theorem leave_exit {id P i S} : leave id P (.exit i) S = if i == id then P .normal S else P (.exit i) S := rfl
theorem leave_ret {id P S} : leave id P .ret S = P .ret S := rfl
theorem runs_block {E f nl id b S P} : Runs E f nl (.block id b) S P = Runs E f nl b S (leave id P) := by
  refine propext ⟨fun ⟨K, o, S', h, hp⟩ => ?_, fun ⟨K, o, S', h, hp⟩ => ?_⟩
  · simp only [denC] at h
    split at h
    · cases h
    · rename_i o1 S1 hx
      refine ⟨K, o1, S1, hx, ?_⟩
      cases o1 with
      | exit i =>
        dsimp only at h
        simp only [leave]
        split at h
        · rename_i hi
          obtain ⟨rfl, rfl⟩ : Out.normal = o ∧ S1 = S' := by simpa using h
          rw [if_pos hi]; exact hp
        · rename_i hi
          obtain ⟨rfl, rfl⟩ : Out.exit i = o ∧ S1 = S' := by simpa using h
          rw [if_neg hi]; exact hp
      | _ =>
        dsimp only at h
        simp only [Option.some.injEq, Prod.mk.injEq] at h
        obtain ⟨rfl, rfl⟩ := h
        exact hp
  · cases o with
    | exit i =>
      simp only [leave] at hp
      split at hp
      · rename_i hi; exact ⟨K, _, S', by simp only [denC, h]; rw [if_pos hi], hp⟩
      · rename_i hi; exact ⟨K, _, S', by simp only [denC, h]; rw [if_neg hi], hp⟩
    | _ => exact ⟨K, _, S', by simp only [denC, h], hp⟩
theorem runs_cond {E f nl c a b S P} : Runs E f nl (.cond c a b) S P = (match evOp S.slot c with | some (.bool t) => (match t with | true => Runs E f nl a S P | false => Runs E f nl b S P) | _ => False) := by
  refine propext ⟨fun ⟨K, o, S', h, hp⟩ => ?_, fun h => ?_⟩
  · simp only [denC] at h
    split at h
    · rename_i t ht
      rw [ht]
      split at h
      · exact ⟨K, o, S', h, hp⟩
      · exact ⟨K, o, S', h, hp⟩
    · cases h
  · split at h
    · rename_i t ht
      split at h
      · obtain ⟨K, o, S', h, hp⟩ := h; exact ⟨K, o, S', by simp only [denC, ht, h], hp⟩
      · obtain ⟨K, o, S', h, hp⟩ := h; exact ⟨K, o, S', by simp only [denC, ht, h], hp⟩
    · exact h.elim
theorem runs_region {E f nl id ops draw S P} : Runs E f nl (.region id ops draw) S P =
    (match runO E (dw E) ops 0 ops.toList S with
     | some (S', tr) => (Nat.ble ops.size 524288 && (!draw || drawOK ops tr)) = true ∧ P .normal { S' with ep := S'.ep + 1 }
     | none => False) := by
  refine propext ⟨fun ⟨K, o, S', h, hp⟩ => ?_, fun h => ?_⟩
  · simp only [denC] at h
    split at h
    · cases h
    · rename_i hx
      rw [hx]
      split at h
      · rename_i hk
        obtain ⟨rfl, rfl⟩ := by simpa only [Option.some.injEq, Prod.mk.injEq] using h
        exact ⟨hk, hp⟩
      · cases h
  · split at h
    · rename_i S1 tr hx
      exact ⟨0, _, _, by simp only [denC, hx]; rw [if_pos h.1], h.2⟩
    · exact h.elim
/-- A loop, by what its rounds begin with. -/
theorem runs_loop {E f nl b S P} {α : Type} (I : α → St) (μ : α → Nat) (a0 : α) (h0 : norm nl S (E.lv f (firstRid b)) = some (I a0)) (Q : α → Prop) (hQ : Q a0)
    (step : ∀ a, Q a → Runs E f nl b (I a) fun o S2 => match o with
      | .normal => ∃ a', Q a' ∧ μ a' < μ a ∧ norm nl S2 (E.lv f (firstRid b)) = some (I a')
      | o => P o S2) : Runs E f nl (.loop b) S P := by
  have key : ∀ n a, μ a ≤ n → Q a → ∀ S, norm nl S (E.lv f (firstRid b)) = some (I a) → ∃ K o S', iter (fun S => norm nl S (E.lv f (firstRid b))) (denC E (dw E) f nl K b) K S = some (o, S') ∧ P o S' := by
    intro n
    induction n with
    | zero =>
      intro a ha hq S hS
      obtain ⟨K, o, S', h, hp⟩ := step a hq
      cases o with
      | normal => obtain ⟨a', _, h2, _⟩ := hp; omega
      | _ =>
        refine ⟨K + 1, _, S', ?_, hp⟩
        simp only [iter, hS]
        rw [denC_mono (Le.refl _) (Nat.le_succ K) _ _ _ h]
    | succ n ih =>
      intro a ha hq S hS
      obtain ⟨K, o, S', h, hp⟩ := step a hq
      cases o with
      | normal =>
        obtain ⟨a', hq', h2, h3⟩ := hp
        obtain ⟨K2, o2, S2, h4, h5⟩ := ih a' (by omega) hq' S' h3
        refine ⟨max K K2 + 1, o2, S2, ?_, h5⟩
        simp only [iter, hS]
        rw [denC_mono (Le.refl _) (show K ≤ max K K2 + 1 by omega) _ _ _ h]
        exact iter_mono (fun S z hz => denC_mono (Le.refl _) (show K2 ≤ max K K2 + 1 by omega) _ _ _ hz) _ _ (show K2 ≤ max K K2 by omega) _ _ h4
      | _ =>
        refine ⟨K + 1, _, S', ?_, hp⟩
        simp only [iter, hS]
        rw [denC_mono (Le.refl _) (Nat.le_succ K) _ _ _ h]
  obtain ⟨K, o, S', h, hp⟩ := key (μ a0) a0 (Nat.le_refl _) hQ S h0
  exact ⟨K, o, S', by simp only [denC]; exact h, hp⟩
/-- A call is told. -/
theorem dw_intro {E : Env} {f : FuncId} {fn : Func} {c : Code} {args : List PV} {lent : List (List PV)} {r} (hf : E.fns f = some fn) (hc : fn.body = some c) (hl : lent.length ≤ 64)
    (h : Runs E f lent.length c (entry args lent) fun o S => match o with | .exit _ => False | _ => finish E.P fn lent.length S = some r) : dw E f args lent = some r := by
  obtain ⟨K, o, S, h1, h2⟩ := h
  obtain ⟨k, hk⟩ := denC_lim _ _ _ h1
  have hk := denC_mono (den_le (Nat.le_max_left k K)) (Nat.le_max_right k K) _ _ _ hk
  refine dw_of (k := max k K + 1) ?_
  rw [den, hf]
  dsimp only
  rw [hc, show Nat.ble lent.length 64 = true from by simpa using hl]
  dsimp only
  rw [hk]
  cases o with
  | exit i => exact h2.elim
  | _ => exact h2
end Go.Den
