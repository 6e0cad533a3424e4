/- Den: the evaluator and what is shown of it, parts Zc to Zm. -/
import Derived.Test.YtfgbklmmildakaaDenK2
import Derived.Laws.BitsLemmas
import Derived.Below
import Derived.Lib.BytesEntry
set_option linter.unusedSimpArgs false
set_option linter.unusedVariables false
/- Den, part Zc: the evaluator without fuel, and what a code comes to by its rules. -/
namespace Go.Den
open Go

/-! ### more calls are told: more runs are -/
def Le (c1 c2 : Call) : Prop := ∀ f a l r, c1 f a l = some r → c2 f a l = some r
theorem run_bind_mono {α β : Type} {x : RM α} {f g : α → RM β} {m : Nat → Option Ent} (h : ∀ a z, (f a).run m = some z → (g a).run m = some z) :
    ∀ z, (x.bind f).run m = some z → (x.bind g).run m = some z := by
  induction x with
  | ret a => intro z hz; exact h a z hz
  | fail => intro z hz; exact hz
  | rdc d k ih =>
    intro z hz
    simp only [RM.bind, RM.run] at hz ⊢
    split at hz
    · rename_i e he
      split at hz
      · rename_i a l o hk
        rw [ih _ _ hk]
        exact hz
      · cases hz
    · cases hz
  | own d k ih =>
    intro z hz
    simp only [RM.bind, RM.run] at hz ⊢
    split at hz
    · rename_i e he
      split at hz
      · rename_i hown
        split at hz
        · rename_i a l o hk
          rw [ih _ _ hk]
          exact hz
        · cases hz
      · cases hz
    · cases hz
theorem callOf_mono {E : Env} {c1 c2 : Call} (hc : Le c1 c2) {f : FuncId} {x : Option Ext} {y} {r} (h : callOf E c1 f x y = some r) : callOf E c2 f x y = some r := by
  unfold callOf at h ⊢
  split
  · simpa using h
  · rename_i hx
    split at h
    · rename_i g; exact absurd rfl (hx g)
    · exact hc _ _ _ _ h
theorem callSem_mono {E : Env} {c1 c2 : Call} (hc : Le c1 c2) {fid f args m} : ∀ z, (callSem E c1 fid f args).run m = some z → (callSem E c2 fid f args).run m = some z := by
  intro z h
  unfold callSem at h ⊢
  split
  · rename_i hx; rw [hx] at h; exact h
  · rename_i hx; rw [hx] at h; exact h
  · rename_i hx; rw [hx] at h; exact h
  · rename_i hx; rw [hx] at h; exact h
  · rename_i hxc hx hxx hxb
    split at h
    · rename_i hx'; exact (hxc hx').elim
    · rename_i hx'; exact (hx _ _ hx').elim
    · rename_i hx'; exact (hxx _ _ _ hx').elim
    · rename_i hx'; exact (hxb _ _ hx').elim
    · refine run_bind_mono (fun y z h => ?_) z h
      split at h
      · cases h
      · rename_i hn
        rw [if_neg hn]
        split at h
        · cases h
        · rename_i r lent hr
          rw [callOf_mono hc hr]
          exact h
theorem opSem_mono {E : Env} {c1 c2 : Call} (hc : Le c1 c2) {fid g op m} : ∀ z, (opSem E c1 fid g op).run m = some z → (opSem E c2 fid g op).run m = some z := by
  intro z h
  cases op with
  | call c =>
    simp only [opSem] at h ⊢
    split
    · rename_i hx; rw [hx] at h; exact h
    · rename_i args hx
      rw [hx] at h
      dsimp only at h
      split
      · rename_i hb; rw [hb] at h; exact h
      · rename_i hb
        rw [hb] at h
        refine run_bind_mono (fun a z h => ?_) z h
        split
        · exact callSem_mono hc _ h
        · rename_i hn
          split at h
          · rename_i f caps; exact absurd rfl (hn f caps)
          · exact h
      · rename_i h1 h2
        split at h
        · rename_i b hb; exact absurd hb (h1 b)
        · rename_i b hb; exact absurd hb (h2 b)
        · exact h
  | makeFunc fn first caps => cases fn <;> exact h
  | _ => exact h
theorem stepO_mono {E : Env} {c1 c2 : Call} (hc : Le c1 c2) {ops i o S z} (h : stepO E c1 ops i o S = some z) : stepO E c2 ops i o S = some z := by
  unfold stepO at h ⊢
  split
  · rename_i hw; rw [hw] at h; exact h
  · rename_i hw; rw [hw] at h; exact h
  · rename_i hw
    rw [hw] at h
    dsimp only at h
    split at h
    · rename_i hx; rw [opSem_mono hc _ hx]; exact h
    · cases h
theorem runO_mono {E : Env} {c1 c2 : Call} (hc : Le c1 c2) {ops} : ∀ (l : List Oper) (i : Nat) (S : St) (z), runO E c1 ops i l S = some z → runO E c2 ops i l S = some z := by
  intro l
  induction l with
  | nil => intro i S z h; exact h
  | cons o r ih =>
    intro i S z h
    simp only [runO] at h ⊢
    split at h
    · cases h
    · rename_i S1 t hx
      rw [stepO_mono hc hx]
      dsimp only
      split at h
      · cases h
      · rename_i S2 ts hy
        rw [ih _ _ _ hy]
        exact h
theorem iter_mono {n : St → Option St} {b1 b2 : St → Option (Out × St)} (hb : ∀ S z, b1 S = some z → b2 S = some z) : ∀ (k k' : Nat), k ≤ k' → ∀ S z, iter n b1 k S = some z → iter n b2 k' S = some z := by
  intro k
  induction k with
  | zero => intro k' _ S z h; cases h
  | succ k ih =>
    intro k' hk S z h
    obtain ⟨k', rfl⟩ : ∃ j, k' = j + 1 := ⟨k' - 1, by omega⟩
    simp only [iter] at h ⊢
    split at h
    · cases h
    · split at h
      · cases h
      · rename_i hx
        rw [hb _ _ hx]
        dsimp only
        split at h
        · exact ih k' (by omega) _ _ h
        · exact h
theorem denC_mono {E : Env} {c1 c2 : Call} (hc : Le c1 c2) {f nl k k'} (hk : k ≤ k') : ∀ (c : Code) (S : St) (z), denC E c1 f nl k c S = some z → denC E c2 f nl k' c S = some z := by
  intro c
  induction c with
  | region id ops draw =>
    intro S z h
    simp only [denC] at h ⊢
    split at h
    · cases h
    · rename_i hx
      rw [runO_mono hc _ _ _ _ hx]
      exact h
  | seq a b iha ihb =>
    intro S z h
    simp only [denC] at h ⊢
    split at h
    · cases h
    · rename_i hx
      rw [iha _ _ hx]
      dsimp only
      split at h
      · exact ihb _ _ h
      · exact h
  | cond c a b iha ihb =>
    intro S z h
    simp only [denC] at h ⊢
    split at h
    · rename_i t ht
      split at h
      · exact iha _ _ h
      · exact ihb _ _ h
    · cases h
  | block id b ih =>
    intro S z h
    simp only [denC] at h ⊢
    split at h
    · cases h
    · rename_i hx
      rw [ih _ _ hx]
      exact h
  | loop b ih =>
    intro S z h
    simp only [denC] at h ⊢
    exact iter_mono (fun S z => ih S z) _ _ hk _ _ h
  | skip => intro S z h; simpa only [denC] using h
  | exit id => intro S z h; simpa only [denC] using h
  | ret => intro S z h; simpa only [denC] using h
  | _ => intro S z h; simp only [denC] at h; cases h
theorem den_succ {E : Env} : ∀ k, Le (den E k) (den E (k + 1)) := by
  intro k
  induction k with
  | zero => intro f a l r h; cases h
  | succ k ih =>
    intro f a l r h
    rw [den] at h ⊢
    split at h
    · cases h
    · split at h
      · cases h
      · cases h
      · rename_i c hb hl
        split at h
        · rename_i S hx; rw [denC_mono ih (Nat.le_succ k) _ _ _ hx]; exact h
        · rename_i S hx; rw [denC_mono ih (Nat.le_succ k) _ _ _ hx]; exact h
        · cases h
theorem den_le {E : Env} {k k' : Nat} (h : k ≤ k') : Le (den E k) (den E k') := by
  induction h with
  | refl => exact fun _ _ _ _ h => h
  | step _ ih => exact fun f a l r h => den_succ _ _ _ _ _ (ih f a l r h)

/-! ### without fuel -/
open Classical in
noncomputable def dw (E : Env) : Call := fun f a l => if h : ∃ r, ∃ k, den E k f a l = some r then some h.choose else none
theorem dw_of {E : Env} {k f a l r} (h : den E k f a l = some r) : dw E f a l = some r := by
  have hex : ∃ r, ∃ k, den E k f a l = some r := ⟨r, k, h⟩
  simp only [dw, dif_pos hex]
  obtain ⟨k', hk'⟩ := hex.choose_spec
  have h1 := den_le (Nat.le_max_left k k') _ _ _ _ h
  have h2 := den_le (Nat.le_max_right k k') _ _ _ _ hk'
  rw [h1] at h2
  simpa using h2.symm
theorem of_dw {E : Env} {f a l r} (h : dw E f a l = some r) : ∃ k, den E k f a l = some r := by
  unfold dw at h
  split at h
  · rename_i hex
    obtain ⟨k', hk'⟩ := hex.choose_spec
    simp only [Option.some.injEq] at h
    exact ⟨k', h ▸ hk'⟩
  · cases h

theorem callSem_lim {E : Env} {fid f args m} {z} (h : (callSem E (dw E) fid f args).run m = some z) : ∃ k, (callSem E (den E k) fid f args).run m = some z := by
  -- the one call that is made
  by_cases hx : E.ext f = some .clip
  · refine ⟨0, ?_⟩
    unfold callSem at h ⊢
    rw [hx] at h ⊢
    exact h
  by_cases hw : ∃ mv g, E.ext f = some (.rw mv g)
  · obtain ⟨mv, g, hw⟩ := hw
    refine ⟨0, ?_⟩
    unfold callSem at h ⊢
    rw [hw] at h ⊢
    exact h
  by_cases hwx : ∃ mv c g, E.ext f = some (.rwx mv c g)
  · obtain ⟨mv, c, g, hwx⟩ := hwx
    refine ⟨0, ?_⟩
    unfold callSem at h ⊢
    rw [hwx] at h ⊢
    exact h
  by_cases hbx : ∃ j g, E.ext f = some (.bx j g)
  · obtain ⟨j, g, hbx⟩ := hbx
    refine ⟨0, ?_⟩
    unfold callSem at h ⊢
    rw [hbx] at h ⊢
    exact h
  · have key : ∀ (c : Call), callSem E c fid f args = (lendA args []).bind fun y =>
        if (y.2.1 ++ y.2.2.1).any (fun z => y.2.2.2.any fun b => b.1 == z.1) then .fail else
        match callOf E c f (E.ext f) y with
        | none => .fail
        | some (r, lent) =>
          match impR fid 0 r with
          | (v, w, j) =>
            match impB fid j (y.2.2.2.map (·.1)) lent with
            | none => .fail
            | some (wb, j') => if j' ≤ 64 then endB (E.ext f) v ((if shares r || !y.2.2.2.isEmpty then y.2.1 else []) ++ y.2.2.1 ++ w) wb else .fail := by
      intro c
      unfold callSem
      split
      · rename_i h; exact absurd h hx
      · rename_i h; exact absurd ⟨_, _, h⟩ hw
      · rename_i h; exact absurd ⟨_, _, _, h⟩ hwx
      · rename_i h; exact absurd ⟨_, _, h⟩ hbx
      · rfl
    have gen : ∀ (x : RM (List PV × Wr × Wr × List (Nat × List PV))) (F : Call → (List PV × Wr × Wr × List (Nat × List PV)) → RM (PV × Wr)),
        (∀ y z, (F (dw E) y).run m = some z → ∃ k, (F (den E k) y).run m = some z) →
        ∀ z, (x.bind (F (dw E))).run m = some z → ∃ k, (x.bind (F (den E k))).run m = some z := by
      intro x F hF
      induction x with
      | ret a => intro z hz; exact hF a z hz
      | fail => intro z hz; cases hz
      | rdc d k ih =>
        intro z hz
        simp only [RM.bind, RM.run] at hz ⊢
        split at hz
        · rename_i e he
          split at hz
          · rename_i a l o hk
            obtain ⟨k0, h0⟩ := ih _ _ hk
            exact ⟨k0, by simp only [h0]; exact hz⟩
          · cases hz
        · cases hz
      | own d k ih =>
        intro z hz
        simp only [RM.bind, RM.run] at hz ⊢
        split at hz
        · rename_i e he
          split at hz
          · rename_i hown
            split at hz
            · rename_i a l o hk
              obtain ⟨k0, h0⟩ := ih _ _ hk
              exact ⟨k0, by simp only [h0]; exact hz⟩
            · cases hz
          · cases hz
        · cases hz
    rw [key] at h
    simp only [key]
    refine gen _ (fun c y => if (y.2.1 ++ y.2.2.1).any (fun z => y.2.2.2.any fun b => b.1 == z.1) then .fail else
        match callOf E c f (E.ext f) y with
        | none => .fail
        | some (r, lent) =>
          match impR fid 0 r with
          | (v, w, j) =>
            match impB fid j (y.2.2.2.map (·.1)) lent with
            | none => .fail
            | some (wb, j') => if j' ≤ 64 then endB (E.ext f) v ((if shares r || !y.2.2.2.isEmpty then y.2.1 else []) ++ y.2.2.1 ++ w) wb else .fail) (fun y z hz => ?_) z h
    dsimp only at hz ⊢
    split at hz
    · cases hz
    · rename_i hn
      simp only [if_neg hn]
      split at hz
      · cases hz
      · rename_i r lent hr
        have : ∃ k, callOf E (den E k) f (E.ext f) y = some (r, lent) := by
          unfold callOf at hr ⊢
          split at hr
          · exact ⟨0, hr⟩
          · exact of_dw hr
        obtain ⟨k, hk⟩ := this
        exact ⟨k, by rw [hk]; exact hz⟩
theorem opSem_lim {E : Env} {fid g op m} {z} (h : (opSem E (dw E) fid g op).run m = some z) : ∃ k, (opSem E (den E k) fid g op).run m = some z := by
  cases op with
  | call c =>
    simp only [opSem] at h ⊢
    split at h
    · cases h
    · rename_i args hx
      split at h
      · exact ⟨0, h⟩
      · rename_i x hb
        cases hg : evOp g x with
        | none => rw [hg] at h; cases h
        | some v =>
          rw [hg] at h
          cases v with
          | fn f caps => exact callSem_lim h
          | _ => cases h
      · cases h
  | makeFunc fn first caps => cases fn <;> exact ⟨0, h⟩
  | _ => exact ⟨0, h⟩
theorem stepO_lim {E : Env} {ops i o S z} (h : stepO E (dw E) ops i o S = some z) : ∃ k, stepO E (den E k) ops i o S = some z := by
  unfold stepO at h ⊢
  split at h
  · cases h
  · exact ⟨0, h⟩
  · split at h
    · rename_i hx
      obtain ⟨k, hk⟩ := opSem_lim hx
      exact ⟨k, by rw [hk]; exact h⟩
    · cases h
theorem runO_lim {E : Env} {ops} : ∀ (l : List Oper) (i : Nat) (S : St) (z), runO E (dw E) ops i l S = some z → ∃ k, runO E (den E k) ops i l S = some z := by
  intro l
  induction l with
  | nil => intro i S z h; exact ⟨0, h⟩
  | cons o r ih =>
    intro i S z h
    simp only [runO] at h ⊢
    split at h
    · cases h
    · rename_i S1 t hx
      split at h
      · cases h
      · rename_i S2 ts hy
        obtain ⟨k1, h1⟩ := stepO_lim hx
        obtain ⟨k2, h2⟩ := ih _ _ _ hy
        refine ⟨max k1 k2, ?_⟩
        rw [stepO_mono (den_le (Nat.le_max_left _ _)) h1]
        dsimp only
        rw [runO_mono (den_le (Nat.le_max_right _ _)) _ _ _ _ h2]
        exact h
theorem iter_lim {n : St → Option St} {b : St → Option (Out × St)} {B : Nat → St → Option (Out × St)} (hm : ∀ k k', k ≤ k' → ∀ S z, B k S = some z → B k' S = some z)
    (hb : ∀ S z, b S = some z → ∃ k, B k S = some z) : ∀ (K : Nat), ∀ S z, iter n b K S = some z → ∃ k, iter n (B k) K S = some z := by
  intro K
  induction K with
  | zero => intro S z h; cases h
  | succ K ih =>
    intro S z h
    simp only [iter] at h ⊢
    split at h
    · cases h
    · rename_i S1 hn
      split at h
      · cases h
      · rename_i o S2 hx
        obtain ⟨k1, h1⟩ := hb _ _ hx
        split at h
        · obtain ⟨k2, h2⟩ := ih _ _ h
          refine ⟨max k1 k2, ?_⟩
          rw [hm _ _ (Nat.le_max_left k1 k2) _ _ h1]
          exact iter_mono (fun S z => hm _ _ (Nat.le_max_right k1 k2) S z) K K (Nat.le_refl _) _ _ h2
        · rename_i hne
          refine ⟨k1, ?_⟩
          rw [h1]
          dsimp only
          split
          · exact absurd rfl (hne)
          · exact h
theorem denC_lim {E : Env} {f nl K} : ∀ (c : Code) (S : St) (z), denC E (dw E) f nl K c S = some z → ∃ k, denC E (den E k) f nl K c S = some z := by
  intro c
  induction c with
  | region id ops draw =>
    intro S z h
    simp only [denC] at h ⊢
    split at h
    · cases h
    · rename_i hx
      obtain ⟨k, hk⟩ := runO_lim _ _ _ _ hx
      exact ⟨k, by rw [hk]; exact h⟩
  | seq a b iha ihb =>
    intro S z h
    simp only [denC] at h ⊢
    split at h
    · cases h
    · rename_i o S1 hx
      obtain ⟨k1, h1⟩ := iha _ _ hx
      split at h
      · obtain ⟨k2, h2⟩ := ihb _ _ h
        refine ⟨max k1 k2, ?_⟩
        rw [denC_mono (den_le (Nat.le_max_left k1 k2)) (Nat.le_refl _) _ _ _ h1]
        exact denC_mono (den_le (Nat.le_max_right k1 k2)) (Nat.le_refl _) _ _ _ h2
      · rename_i hne
        refine ⟨k1, ?_⟩
        rw [h1]
        dsimp only
        split
        · exact absurd rfl hne
        · exact h
  | cond c a b iha ihb =>
    intro S z h
    simp only [denC] at h ⊢
    split at h
    · rename_i t ht
      split at h
      · obtain ⟨k, hk⟩ := iha _ _ h; exact ⟨k, hk⟩
      · obtain ⟨k, hk⟩ := ihb _ _ h; exact ⟨k, hk⟩
    · cases h
  | block id b ih =>
    intro S z h
    simp only [denC] at h ⊢
    split at h
    · cases h
    · rename_i hx
      obtain ⟨k, hk⟩ := ih _ _ hx
      exact ⟨k, by rw [hk]; exact h⟩
  | loop b ih =>
    intro S z h
    simp only [denC] at h ⊢
    exact iter_lim (B := fun k => denC E (den E k) f nl K b) (fun k k' hk S z h => denC_mono (den_le hk) (Nat.le_refl _) _ _ _ h) (fun S z h => ih S z h) _ _ _ h
  | skip => intro S z h; exact ⟨0, by simpa only [denC] using h⟩
  | exit id => intro S z h; exact ⟨0, by simpa only [denC] using h⟩
  | ret => intro S z h; exact ⟨0, by simpa only [denC] using h⟩
  | _ => intro S z h; simp only [denC] at h; cases h

/-! ### what a code comes to -/
def Runs (E : Env) (f : FuncId) (nl : Nat) (c : Code) (S : St) (P : Out → St → Prop) : Prop :=
  ∃ K o S', denC E (dw E) f nl K c S = some (o, S') ∧ P o S'
theorem Le.refl (c : Call) : Le c c := fun _ _ _ _ h => h
theorem Runs.mono {E f nl c S} {P Q : Out → St → Prop} (h : Runs E f nl c S P) (hq : ∀ o S', P o S' → Q o S') : Runs E f nl c S Q := by
  obtain ⟨K, o, S', h1, h2⟩ := h
  exact ⟨K, o, S', h1, hq _ _ h2⟩
theorem runs_skip {E f nl S P} : Runs E f nl .skip S P = P .normal S :=
  propext ⟨fun ⟨_, _, _, h, hp⟩ => by simp only [denC, Option.some.injEq, Prod.mk.injEq] at h; obtain ⟨rfl, rfl⟩ := h; exact hp, fun h => ⟨0, _, _, rfl, h⟩⟩
theorem runs_exit {E f nl id S P} : Runs E f nl (.exit id) S P = P (.exit id) S :=
  propext ⟨fun ⟨_, _, _, h, hp⟩ => by simp only [denC, Option.some.injEq, Prod.mk.injEq] at h; obtain ⟨rfl, rfl⟩ := h; exact hp, fun h => ⟨0, _, _, rfl, h⟩⟩
theorem runs_ret {E f nl S P} : Runs E f nl .ret S P = P .ret S :=
  propext ⟨fun ⟨_, _, _, h, hp⟩ => by simp only [denC, Option.some.injEq, Prod.mk.injEq] at h; obtain ⟨rfl, rfl⟩ := h; exact hp, fun h => ⟨0, _, _, rfl, h⟩⟩
/-- what comes behind -/
def next (E : Env) (f : FuncId) (nl : Nat) (b : Code) (P : Out → St → Prop) : Out → St → Prop
  | .normal, S => Runs E f nl b S P
  | o, S => P o S
theorem runs_seq {E f nl a b S P} : Runs E f nl (.seq a b) S P = Runs E f nl a S (next E f nl b P) := by
  refine propext ⟨fun ⟨K, o, S', h, hp⟩ => ?_, fun ⟨K, o, S', h, hp⟩ => ?_⟩
  · simp only [denC] at h
    split at h
    · cases h
    · rename_i o1 S1 hx
      refine ⟨K, o1, S1, hx, ?_⟩
      split at h
      · exact ⟨K, o, S', h, hp⟩
      · rename_i hne
        obtain ⟨rfl, rfl⟩ : o1 = o ∧ S1 = S' := by simpa using h
        cases o1 with
        | normal => exact absurd rfl hne
        | _ => exact hp
  · cases o with
    | normal =>
      obtain ⟨K2, o2, S2, h2, hp2⟩ := hp
      refine ⟨max K K2, o2, S2, ?_, hp2⟩
      simp only [denC]
      rw [denC_mono (Le.refl _) (Nat.le_max_left K K2) _ _ _ h]
      exact denC_mono (Le.refl _) (Nat.le_max_right K K2) _ _ _ h2
    | _ => exact ⟨K, _, S', by simp only [denC, h], hp⟩
theorem next_normal {E f nl b P S} : next E f nl b P .normal S = Runs E f nl b S P := rfl
theorem next_exit {E f nl b P id S} : next E f nl b P (.exit id) S = P (.exit id) S := rfl
theorem next_ret {E f nl b P S} : next E f nl b P .ret S = P .ret S := rfl
/-- behind a block -/
def leave (id : Nat) (P : Out → St → Prop) : Out → St → Prop
  | .exit i, S => if i == id then P .normal S else P (.exit i) S
  | o, S => P o S
theorem leave_normal {id P S} : leave id P .normal S = P .normal S := rfl
theorem leave_exit {id P i S} : leave id P (.exit i) S = if i == id then P .normal S else P (.exit i) S := rfl
theorem leave_ret {id P S} : leave id P .ret S = P .ret S := rfl
theorem runs_block {E f nl id b S P} : Runs E f nl (.block id b) S P = Runs E f nl b S (leave id P) := by
  refine propext ⟨fun ⟨K, o, S', h, hp⟩ => ?_, fun ⟨K, o, S', h, hp⟩ => ?_⟩
  · simp only [denC] at h
    split at h
    · cases h
    · rename_i o1 S1 hx
      refine ⟨K, o1, S1, hx, ?_⟩
      cases o1 with
      | exit i =>
        dsimp only at h
        simp only [leave]
        split at h
        · rename_i hi
          obtain ⟨rfl, rfl⟩ : Out.normal = o ∧ S1 = S' := by simpa using h
          rw [if_pos hi]; exact hp
        · rename_i hi
          obtain ⟨rfl, rfl⟩ : Out.exit i = o ∧ S1 = S' := by simpa using h
          rw [if_neg hi]; exact hp
      | _ =>
        dsimp only at h
        simp only [Option.some.injEq, Prod.mk.injEq] at h
        obtain ⟨rfl, rfl⟩ := h
        exact hp
  · cases o with
    | exit i =>
      simp only [leave] at hp
      split at hp
      · rename_i hi; exact ⟨K, _, S', by simp only [denC, h]; rw [if_pos hi], hp⟩
      · rename_i hi; exact ⟨K, _, S', by simp only [denC, h]; rw [if_neg hi], hp⟩
    | _ => exact ⟨K, _, S', by simp only [denC, h], hp⟩
theorem runs_cond {E f nl c a b S P} : Runs E f nl (.cond c a b) S P = (match evOp S.slot c with | some (.bool t) => (match t with | true => Runs E f nl a S P | false => Runs E f nl b S P) | _ => False) := by
  refine propext ⟨fun ⟨K, o, S', h, hp⟩ => ?_, fun h => ?_⟩
  · simp only [denC] at h
    split at h
    · rename_i t ht
      rw [ht]
      split at h
      · exact ⟨K, o, S', h, hp⟩
      · exact ⟨K, o, S', h, hp⟩
    · cases h
  · split at h
    · rename_i t ht
      split at h
      · obtain ⟨K, o, S', h, hp⟩ := h; exact ⟨K, o, S', by simp only [denC, ht, h], hp⟩
      · obtain ⟨K, o, S', h, hp⟩ := h; exact ⟨K, o, S', by simp only [denC, ht, h], hp⟩
    · exact h.elim
theorem runs_region {E f nl id ops draw S P} : Runs E f nl (.region id ops draw) S P =
    (match runO E (dw E) ops 0 ops.toList S with
     | some (S', tr) => (Nat.ble ops.size 524288 && (!draw || drawOK ops tr)) = true ∧ P .normal { S' with ep := S'.ep + 1 }
     | none => False) := by
  refine propext ⟨fun ⟨K, o, S', h, hp⟩ => ?_, fun h => ?_⟩
  · simp only [denC] at h
    split at h
    · cases h
    · rename_i hx
      rw [hx]
      split at h
      · rename_i hk
        obtain ⟨rfl, rfl⟩ := by simpa only [Option.some.injEq, Prod.mk.injEq] using h
        exact ⟨hk, hp⟩
      · cases h
  · split at h
    · rename_i S1 tr hx
      exact ⟨0, _, _, by simp only [denC, hx]; rw [if_pos h.1], h.2⟩
    · exact h.elim
/-- A loop, by what its rounds begin with. -/
theorem runs_loop {E f nl b S P} {α : Type} (I : α → St) (μ : α → Nat) (a0 : α) (h0 : norm nl S (E.lv f (firstRid b)) = some (I a0)) (Q : α → Prop) (hQ : Q a0)
    (step : ∀ a, Q a → Runs E f nl b (I a) fun o S2 => match o with
      | .normal => ∃ a', Q a' ∧ μ a' < μ a ∧ norm nl S2 (E.lv f (firstRid b)) = some (I a')
      | o => P o S2) : Runs E f nl (.loop b) S P := by
  have key : ∀ n a, μ a ≤ n → Q a → ∀ S, norm nl S (E.lv f (firstRid b)) = some (I a) → ∃ K o S', iter (fun S => norm nl S (E.lv f (firstRid b))) (denC E (dw E) f nl K b) K S = some (o, S') ∧ P o S' := by
    intro n
    induction n with
    | zero =>
      intro a ha hq S hS
      obtain ⟨K, o, S', h, hp⟩ := step a hq
      cases o with
      | normal => obtain ⟨a', _, h2, _⟩ := hp; omega
      | _ =>
        refine ⟨K + 1, _, S', ?_, hp⟩
        simp only [iter, hS]
        rw [denC_mono (Le.refl _) (Nat.le_succ K) _ _ _ h]
    | succ n ih =>
      intro a ha hq S hS
      obtain ⟨K, o, S', h, hp⟩ := step a hq
      cases o with
      | normal =>
        obtain ⟨a', hq', h2, h3⟩ := hp
        obtain ⟨K2, o2, S2, h4, h5⟩ := ih a' (by omega) hq' S' h3
        refine ⟨max K K2 + 1, o2, S2, ?_, h5⟩
        simp only [iter, hS]
        rw [denC_mono (Le.refl _) (show K ≤ max K K2 + 1 by omega) _ _ _ h]
        exact iter_mono (fun S z hz => denC_mono (Le.refl _) (show K2 ≤ max K K2 + 1 by omega) _ _ _ hz) _ _ (show K2 ≤ max K K2 by omega) _ _ h4
      | _ =>
        refine ⟨K + 1, _, S', ?_, hp⟩
        simp only [iter, hS]
        rw [denC_mono (Le.refl _) (Nat.le_succ K) _ _ _ h]
  obtain ⟨K, o, S', h, hp⟩ := key (μ a0) a0 (Nat.le_refl _) hQ S h0
  exact ⟨K, o, S', by simp only [denC]; exact h, hp⟩
/-- A call is told. -/
theorem dw_intro {E : Env} {f : FuncId} {fn : Func} {c : Code} {args : List PV} {lent : List (List PV)} {r} (hf : E.fns f = some fn) (hc : fn.body = some c) (hl : lent.length ≤ 64)
    (h : Runs E f lent.length c (entry args lent) fun o S => match o with | .exit _ => False | _ => finish E.P fn lent.length S = some r) : dw E f args lent = some r := by
  obtain ⟨K, o, S, h1, h2⟩ := h
  obtain ⟨k, hk⟩ := denC_lim _ _ _ h1
  have hk := denC_mono (den_le (Nat.le_max_left k K)) (Nat.le_max_right k K) _ _ _ hk
  refine dw_of (k := max k K + 1) ?_
  rw [den, hf]
  dsimp only
  rw [hc, show Nat.ble lent.length 64 = true from by simpa using hl]
  dsimp only
  rw [hk]
  cases o with
  | exit i => exact h2.elim
  | _ => exact h2
end Go.Den

/- Den, part Zd: the rows by which simp walks a code. -/
namespace Go.Den
open Go
theorem get_at {α : Type} (k i : Nat) (v : α) (r : List (Nat × α)) : get ((k, v) :: r) i = if k == i then some v else get r i := rfl
theorem get_no {α : Type} (i : Nat) : get ([] : List (Nat × α)) i = none := rfl
theorem ble_eq (m n : Nat) : Nat.ble m n = decide (m ≤ n) := by
  cases h : Nat.ble m n
  · have : ¬ m ≤ n := fun hc => by simp [Nat.ble_eq_true_of_le hc] at h
    simp [this]
  · simp [Nat.le_of_ble_eq_true h]
theorem blt_eq (m n : Nat) : Nat.blt m n = decide (m < n) := ble_eq _ _
theorem wrap_u64 (n : Int) : IntKind.u64.wrap n = n % 18446744073709551616 := by simp [IntKind.wrap, IntKind.bits, IntKind.signed]
/-- A step: the number of what is new stays a number without names. -/
theorem stepO_mk (E : Env) (call : Call) (ops : Array Oper) (i : Nat) (o : Oper) (sl : List (Nat × PV)) (m : List (Nat × Option Ent)) (ep : Nat) : stepO E call ops i o ⟨sl, m, ep⟩ =
    match wantsO ops o ⟨sl, m, ep⟩ with
    | none => none
    | some false => some (St.put ⟨sl, m, ep⟩ o.dst .undef [], ⟨[], [], [], []⟩)
    | some true =>
      match (opSem E call (ep * 33554432 + i * 64) (St.slot ⟨sl, m, ep⟩) o.op).run (St.at ⟨sl, m, ep⟩) with
      | some ((v, w), rc, ro) => some (St.put ⟨sl, m, ep⟩ o.dst v w, ⟨rc, ro, wrHard w, wrSoft w⟩)
      | none => none := rfl
theorem lent0 : lentId 0 = 16777216 := rfl
theorem lent1 : lentId 1 = 16777217 := rfl
theorem lent2 : lentId 2 = 16777218 := rfl
theorem lent3 : lentId 3 = 16777219 := rfl
/-! bits, without a sign and with one -/
def band (w : Nat) (a b : Int) : Int := ((BitVec.ofInt w a &&& BitVec.ofInt w b).toNat : Int)
def bor (w : Nat) (a b : Int) : Int := ((BitVec.ofInt w a ||| BitVec.ofInt w b).toNat : Int)
def bxor (w : Nat) (a b : Int) : Int := ((BitVec.ofInt w a ^^^ BitVec.ofInt w b).toNat : Int)
def sand (a b : Int) : Int := (BitVec.ofInt 64 a &&& BitVec.ofInt 64 b).toInt
def sor (a b : Int) : Int := (BitVec.ofInt 64 a ||| BitVec.ofInt 64 b).toInt
def sxor (a b : Int) : Int := (BitVec.ofInt 64 a ^^^ BitVec.ofInt 64 b).toInt
theorem wu64 (x : BitVec 64) : IntKind.u64.wrap x.toNat = (x.toNat : Int) := by rw [wrap_u64]; have := x.isLt; omega
theorem wu8 (x : BitVec 8) : IntKind.u8.wrap x.toNat = (x.toNat : Int) := by rw [IntKind.wrap_u8]; have := x.isLt; omega
theorem wi64 (x : BitVec 64) : IntKind.i64.wrap x.toNat = x.toInt := by rw [IntKind.wrap_i64, BitVec.toInt_eq_toNat_cond]; have := x.isLt; split <;> omega
theorem bin_and_u8 (a b : Int) : binInt .and .u8 a b = some (.int .u8 (band 8 a b)) := congrArg (fun x => some (PV.int .u8 x)) (wu8 _)
theorem bin_or_u8 (a b : Int) : binInt .or .u8 a b = some (.int .u8 (bor 8 a b)) := congrArg (fun x => some (PV.int .u8 x)) (wu8 _)
theorem bin_xor_u8 (a b : Int) : binInt .xor .u8 a b = some (.int .u8 (bxor 8 a b)) := congrArg (fun x => some (PV.int .u8 x)) (wu8 _)
theorem bin_and_u64 (a b : Int) : binInt .and .u64 a b = some (.int .u64 (band 64 a b)) := congrArg (fun x => some (PV.int .u64 x)) (wu64 _)
theorem bin_or_u64 (a b : Int) : binInt .or .u64 a b = some (.int .u64 (bor 64 a b)) := congrArg (fun x => some (PV.int .u64 x)) (wu64 _)
theorem bin_xor_u64 (a b : Int) : binInt .xor .u64 a b = some (.int .u64 (bxor 64 a b)) := congrArg (fun x => some (PV.int .u64 x)) (wu64 _)
theorem bin_and_i64 (a b : Int) : binInt .and .i64 a b = some (.int .i64 (sand a b)) := congrArg (fun x => some (PV.int .i64 x)) (wi64 _)
theorem bin_or_i64 (a b : Int) : binInt .or .i64 a b = some (.int .i64 (sor a b)) := congrArg (fun x => some (PV.int .i64 x)) (wi64 _)
theorem bin_xor_i64 (a b : Int) : binInt .xor .i64 a b = some (.int .i64 (sxor a b)) := congrArg (fun x => some (PV.int .i64 x)) (wi64 _)
theorem bin_add (k : IntKind) (a b : Int) : binInt .add k a b = some (.int k (k.wrap (a + b))) := rfl
theorem bin_sub (k : IntKind) (a b : Int) : binInt .sub k a b = some (.int k (k.wrap (a - b))) := rfl
theorem bin_mul (k : IntKind) (a b : Int) : binInt .mul k a b = some (.int k (k.wrap (a * b))) := rfl
theorem bin_quo (k : IntKind) (a b : Int) : binInt .quo k a b = if b = 0 then none else some (.int k (k.wrap (a.tdiv b))) := rfl
theorem bin_rem (k : IntKind) (a b : Int) : binInt .rem k a b = if b = 0 then none else some (.int k (a.tmod b)) := rfl
theorem bin_eql (k : IntKind) (a b : Int) : binInt .eql k a b = some (.bool (decide (a = b))) := rfl
theorem bin_neq (k : IntKind) (a b : Int) : binInt .neq k a b = some (.bool (!decide (a = b))) := rfl
theorem bin_lss (k : IntKind) (a b : Int) : binInt .lss k a b = some (.bool (decide (a < b))) := rfl
theorem bin_leq (k : IntKind) (a b : Int) : binInt .leq k a b = some (.bool (decide (a ≤ b))) := rfl
theorem bin_gtr (k : IntKind) (a b : Int) : binInt .gtr k a b = some (.bool (decide (b < a))) := rfl
theorem bin_geq (k : IntKind) (a b : Int) : binInt .geq k a b = some (.bool (decide (b ≤ a))) := rfl
attribute [go_sem] bin_and_u8 bin_or_u8 bin_xor_u8 bin_and_u64 bin_or_u64 bin_xor_u64 bin_and_i64 bin_or_i64 bin_xor_i64 bin_add bin_sub bin_mul bin_quo bin_rem bin_eql bin_neq bin_lss bin_leq bin_gtr bin_geq
theorem str_add (a b : List UInt8) : binStr .add a b = if a.length + b.length ≤ 9223372036854775807 then some (.str (a ++ b)) else none := rfl
theorem str_eql (a b : List UInt8) : binStr .eql a b = some (.bool (a == b)) := rfl
theorem str_neq (a b : List UInt8) : binStr .neq a b = some (.bool (!(a == b))) := rfl
theorem str_lss (a b : List UInt8) : binStr .lss a b = some (.bool (Op.bytesLess a b)) := rfl
theorem str_leq (a b : List UInt8) : binStr .leq a b = some (.bool (Op.bytesLess a b || a == b)) := rfl
theorem str_gtr (a b : List UInt8) : binStr .gtr a b = some (.bool (!(Op.bytesLess a b || a == b))) := rfl
theorem str_geq (a b : List UInt8) : binStr .geq a b = some (.bool (!Op.bytesLess a b)) := rfl
theorem bb_t (b : Bool) : (b == true) = b := by cases b <;> rfl
theorem bb_f (b : Bool) : (b == false) = !b := by cases b <;> rfl
theorem tb_b (b : Bool) : (true == b) = b := by cases b <;> rfl
theorem fb_b (b : Bool) : (false == b) = !b := by cases b <;> rfl
/-! the evaluator's words, opened only where the form is known (so that nothing is opened under a binder) -/
def evBin' (P : Program) (op : BinOp) (t : TypeId) (x y : PV) : Option PV :=
  match x with
  | .int k a =>
    match y with
    | .int k' b =>
      match op with
      | .shl => if b < 0 then none else some (.int k (k.wrap (a * 2 ^ (min b.toNat k.bits))))
      | .shr => if b < 0 then none else some (.int k (a.fdiv (2 ^ (min b.toNat k.bits))))
      | _ => if k = k' then binInt op k a b else none
    | _ => none
  | .str a => match y with | .str b => binStr op a b | _ => none
  | .bool a =>
    match y with
    | .bool b =>
      match P.underlying t with
      | some .bool => match op with | .eql => some (.bool (a == b)) | .neq => some (.bool (!(a == b))) | _ => none
      | _ => none
    | _ => none
  | x =>
    match P.underlying t with
    | some (.pointer _) =>
      match y with
      | .nilp =>
        match op with
        | .eql => match x with | .nilp => some (.bool true) | x => if isPtr x then some (.bool false) else none
        | .neq => match x with | .nilp => some (.bool false) | x => if isPtr x then some (.bool true) else none
        | _ => none
      | _ => none
    | _ => none
def evUn' (op : UnOp) (x : PV) : Option PV :=
  match op with
  | .neg => match x with | .int k n => some (.int k (k.wrap (0 - n))) | _ => none
  | .not => match x with | .bool b => some (.bool (!b)) | _ => none
  | .xor => match x with | .int k n => some (.int k (k.wrap (BitVec.ofInt k.bits (if k.signed then -1 else k.max) ^^^ BitVec.ofInt k.bits n).toNat)) | _ => none
  | _ => none

def loadS' (P : Program) (t : TypeId) : PV → RM (PV × Wr)
  | .pb d off => .rdc d fun | .box cs => retO (loadC P t cs off) | _ => .fail
  | .pe d i off => .rdc d fun | .row _ _ xs => (match xs[i]? with | some cs => retO (loadC P t cs off) | none => .fail) | _ => .fail
  | .pc cs => retO (loadC P t cs 0)
  | _ => .fail
def storeS' (P : Program) (t : TypeId) (a : PV) (v : List PV) : RM (PV × Wr) :=
  match tSize P t with
  | none => .fail
  | some n =>
    if v.length == n then
      match a with
      | .pb d off => .own d fun
        | .box cs =>
          if off + n ≤ cs.length then
            (match isPtrT P t with
            | false => .ret (.undef, [(d, .set (.box (splice cs off v)))])
            | true => (sealL v).bind fun s => if (s.2.all fun x => !(x.1 == d)) = true then .ret (.undef, s.2 ++ [(d, .set (.box (splice cs off s.1)))]) else .fail)
          else .fail
        | _ => .fail
      | .pe d i off => .own d fun
        | .row e sz xs =>
          match xs[i]? with
          | some cs => (sealL v).bind fun s => if off + n ≤ cs.length ∧ (s.2.all fun x => !(x.1 == d)) = true then .ret (.undef, s.2 ++ [(d, .set (.row e sz (xs.set i (splice cs off s.1))))]) else .fail
          | none => .fail
        | _ => .fail
      | _ => .fail
    else .fail
def convS' (P : Program) (fid : Nat) (s t : TypeId) (a : PV) : RM (PV × Wr) :=
  match P.underlying s, P.underlying t with
  | some _, some (.int k) => match a with | .int _ n => .ret (.int k (k.wrap n), []) | _ => .fail
  | some .string, some .string => match a with | .str l => .ret (.str l, []) | _ => .fail
  | some .string, some (.slice e) =>
    match P.underlying e, a with
    | some (.int .u8), .str l => if tSize P e = some 1 then .ret (.h fid, [(fid, .set (.row e 1 (ofBytes l)))]) else .fail
    | _, _ => .fail
  | some (.slice _), some (.slice e') =>
    match P.underlying e', a with
    | some (.int .u8), .h d => if s == t then .own d fun | .row e1 sz xs => (if xs.isEmpty then .fail else .ret (.h d, [(d, .set (.row e1 sz xs))])) | _ => .fail else .fail
    | _, _ => .fail
  | some (.slice e), some .string =>
    match P.underlying e with
    | some (.int .u8) => (elemsOf 1 a).bind fun xs => retO (match toBytes xs with | some l => some (.str l) | none => none)
    | _ => .fail
  | _, _ => .fail
def makeS' (P : Program) (fid : Nat) (t : TypeId) (a b : PV) : RM (PV × Wr) :=
  match P.underlying t with
  | some (.slice e) =>
    match tZero P e, tSize P e, tBytes P e with
    | some z, some (n + 1), some by' =>
      if z.length == n + 1 then
      match a, b with
      | .int _ x, .int _ c => if 0 ≤ x ∧ x ≤ c ∧ c * (by' + 1) ≤ lim then .ret (.h fid, [(fid, .set (.row e (n + 1) (List.replicate x.toNat z)))]) else .fail
      | _, _ => .fail
      else .fail
    | _, _, _ => .fail
  | _ => .fail
def sliceS' (P : Program) (t : TypeId) (a : PV) (lo hi mx : Option (Option PV)) : RM (PV × Wr) :=
  match P.underlying t with
  | some .string =>
    match a, mx with
    | .str s, none => match bounds s.length lo hi none with | some (l, h) => .ret (.str ((s.take h).drop l), []) | none => .fail
    | _, _ => .fail
  | some (.slice e) =>
    match tSize P e, a with
    | some _, .nils => match bounds 0 lo hi mx with | some _ => .ret (.nils, []) | none => .fail
    | some n, .sl sz xs => match bounds xs.length lo hi mx with | some (l, h) => if sz == n then .ret (.sl sz ((xs.take h).drop l), []) else .fail | none => .fail
    | some n, .h d => .rdc d fun
      | .row _ sz xs =>
        match bounds xs.length lo hi mx with
        | some (l, h) => if sz == n then .ret (.sl sz ((xs.take h).drop l), [(d, .fz)]) else .fail
        | none => .fail
      | _ => .fail
    | _, _ => .fail
  | _ => .fail
def fieldAddrS' (P : Program) (t : TypeId) (j : Nat) (a : PV) : RM (PV × Wr) :=
  match tField P t j with
  | some (off, ft) =>
    match tSize P ft with
    | some (_ + 1) =>
      match a with
      | .pb d o => .ret (.pb d (o + off), [])
      | .pe d i o => .ret (.pe d i (o + off), [])
      | .pc cs => .ret (.pc (cs.drop off), [])
      | _ => .fail
    | _ => .fail
  | none => .fail
def indexAddrS' (P : Program) (t : TypeId) (a i : PV) : RM (PV × Wr) :=
  match P.underlying t with
  | some (.slice e) =>
    match tSize P e, i with
    | some (m + 1), .int _ n =>
      if 0 ≤ n then
        match a with
        | .sl sz xs => if sz == m + 1 then (match xs[n.toNat]? with | some cs => .ret (.pc cs, []) | none => .fail) else .fail
        | .h d => .rdc d fun | .row _ sz xs => if sz == m + 1 && decide (n.toNat < xs.length) then .ret (.pe d n.toNat 0, []) else .fail | _ => .fail
        | _ => .fail
      else .fail
    | _, _ => .fail
  | _ => .fail
def indexS' (P : Program) (t : TypeId) (a i : PV) : RM (PV × Wr) :=
  match P.underlying t, a, i with
  | some .string, .str s, .int _ n => if 0 ≤ n then (match s[n.toNat]? with | some c => .ret (.int .u8 c.toNat, []) | none => .fail) else .fail
  | _, _, _ => .fail
def lenS' (P : Program) (t : Option TypeId) (a : PV) : RM (PV × Wr) :=
  match t with
  | none => .fail
  | some t =>
    match P.underlying t with
    | some .string => match a with | .str s => .ret (.int .i64 s.length, []) | _ => .fail
    | some (.slice _) => (lenOf a).bind fun n => .ret (.int .i64 n, [])
    | _ => .fail
def appendS' (P : Program) (fid : Nat) (t t' : Option TypeId) (x y : PV) : RM (PV × Wr) :=
  match t, t' with
  | some t, some t' =>
    match P.underlying t, P.underlying t' with
    | some (.slice e), some u =>
      match tSize P e, tBytes P e, tZero P e with
      | some (n + 1), some b, some z =>
        if z.length == n + 1 then
          match u with
          | .string => match y with | .str s => if n == 0 then appendTo fid e 1 b (ofBytes s) x else .fail | _ => .fail
          | .slice _ => (elemsOf (n + 1) y).bind fun ys => appendTo fid e (n + 1) b ys x
          | _ => .fail
        else .fail
      | _, _, _ => .fail
    | _, _ => .fail
  | _, _ => .fail
def appendTo' (fid : Nat) (e n bytes : Nat) (ys : List (List PV)) (x : PV) : RM (PV × Wr) :=
  match x with
  | .nils => if ys.length * (bytes + 1) ≤ lim then .ret (.h fid, [(fid, .set (.row e n ys))]) else .fail
  | .h d => .own d fun
    | .row e' sz xs =>
      if e' == e && sz == n && decide ((xs.length + ys.length) * (bytes + 1) ≤ lim) then .ret (.h fid, [(d, .del), (fid, .set (.row e sz (xs ++ ys)))]) else .fail
    | _ => .fail
  | _ => .fail
def eqOut (e : Option Bool) : Option PV := match e with | some e => some (.bool e) | none => none
def neOut (e : Option Bool) : Option PV := match e with | some e => some (.bool (!e)) | none => none
def eqS (cs ds : List PV) : Option Nat → Option PV
  | some n => eqOut (eqInts n cs ds)
  | none => none
def neS (cs ds : List PV) : Option Nat → Option PV
  | some n => neOut (eqInts n cs ds)
  | none => none
theorem evBin_eqS (P : Program) (t : TypeId) (cs ds : List PV) : evBin P .eql t (.agg cs) (.agg ds) = eqS cs ds (intStruct P t) := by
  simp only [evBin, eqS, eqOut]
  cases intStruct P t <;> rfl
theorem evBin_neS (P : Program) (t : TypeId) (cs ds : List PV) : evBin P .neq t (.agg cs) (.agg ds) = neS cs ds (intStruct P t) := by
  simp only [evBin, neS, neOut]
  cases intStruct P t <;> rfl
theorem eqS_some (cs ds : List PV) (n : Nat) : eqS cs ds (some n) = eqOut (eqInts n cs ds) := rfl
theorem neS_some (cs ds : List PV) (n : Nat) : neS cs ds (some n) = neOut (eqInts n cs ds) := rfl
def eqC (a b : Int) : Option Bool → Option Bool
  | some e => some (decide (a = b) && e)
  | none => none
theorem eqInts_cons (n : Nat) (k : IntKind) (a b : Int) (r s : List PV) : eqInts (n + 1) (.int k a :: r) (.int k b :: s) = eqC a b (eqInts n r s) := by
  simp only [eqInts, if_true]
  cases eqInts n r s <;> rfl
theorem eqInts_nil : eqInts 0 [] [] = some true := rfl
theorem eqC_some (a b : Int) (e : Bool) : eqC a b (some e) = some (decide (a = b) && e) := rfl
theorem eqOut_some (e : Bool) : eqOut (some e) = some (.bool e) := rfl
theorem neOut_some (e : Bool) : neOut (some e) = some (.bool (!e)) := rfl
theorem gt0 (P : Program) (op : BinOp) (t : TypeId) (k k' : IntKind) (a b : Int) : evBin P op t (.int k a) (.int k' b) = evBin' P op t (.int k a) (.int k' b) := rfl
theorem gt1 (P : Program) (op : BinOp) (t : TypeId) (a b : List UInt8) : evBin P op t (.str a) (.str b) = evBin' P op t (.str a) (.str b) := rfl
theorem gt2 (P : Program) (op : BinOp) (t : TypeId) (a b : Bool) : evBin P op t (.bool a) (.bool b) = evBin' P op t (.bool a) (.bool b) := rfl
theorem gt3 (P : Program) (op : BinOp) (t : TypeId)  : evBin P op t .nilp .nilp = evBin' P op t .nilp .nilp := rfl
theorem gt4 (P : Program) (op : BinOp) (t : TypeId) (d o : Nat) : evBin P op t (.pb d o) .nilp = evBin' P op t (.pb d o) .nilp := rfl
theorem gt5 (P : Program) (op : BinOp) (t : TypeId) (d i o : Nat) : evBin P op t (.pe d i o) .nilp = evBin' P op t (.pe d i o) .nilp := rfl
theorem gt6 (P : Program) (op : BinOp) (t : TypeId) (cs : List PV) : evBin P op t (.pc cs) .nilp = evBin' P op t (.pc cs) .nilp := rfl
theorem gt7 (op : UnOp) (k : IntKind) (n : Int) : evUn op (.int k n) = evUn' op (.int k n) := rfl
theorem gt8 (op : UnOp) (b : Bool) : evUn op (.bool b) = evUn' op (.bool b) := rfl
theorem gt9 (P : Program) (t : TypeId) (d o : Nat) : loadS P t (.pb d o) = loadS' P t (.pb d o) := rfl
theorem gt10 (P : Program) (t : TypeId) (d i o : Nat) : loadS P t (.pe d i o) = loadS' P t (.pe d i o) := rfl
theorem gt11 (P : Program) (t : TypeId) (cs : List PV) : loadS P t (.pc cs) = loadS' P t (.pc cs) := rfl
theorem gt12 (P : Program) (t : TypeId) (d o : Nat) (x : PV) (r : List PV) : storeS P t (.pb d o) (x :: r) = storeS' P t (.pb d o) (x :: r) := rfl
theorem gt13 (P : Program) (t : TypeId) (d i o : Nat) (x : PV) (r : List PV) : storeS P t (.pe d i o) (x :: r) = storeS' P t (.pe d i o) (x :: r) := rfl
theorem gt14 (P : Program) (fid : Nat) (s t : TypeId) (k : IntKind) (n : Int) : convS P fid s t (.int k n) = convS' P fid s t (.int k n) := rfl
theorem gt15 (P : Program) (fid : Nat) (s t : TypeId) (l : List UInt8) : convS P fid s t (.str l) = convS' P fid s t (.str l) := rfl
theorem gt16 (P : Program) (fid : Nat) (s t : TypeId) (d : Nat) : convS P fid s t (.h d) = convS' P fid s t (.h d) := rfl
theorem gt17 (P : Program) (fid : Nat) (s t : TypeId)  : convS P fid s t .nils = convS' P fid s t .nils := rfl
theorem gt18 (P : Program) (fid : Nat) (s t : TypeId) (sz : Nat) (xs : List (List PV)) : convS P fid s t (.sl sz xs) = convS' P fid s t (.sl sz xs) := rfl
theorem gt19 (P : Program) (fid : Nat) (t : TypeId) (k k' : IntKind) (a b : Int) : makeS P fid t (.int k a) (.int k' b) = makeS' P fid t (.int k a) (.int k' b) := rfl
theorem gt20 (P : Program) (t : TypeId) (lo hi mx : Option (Option PV)) (l : List UInt8) : sliceS P t (.str l) lo hi mx = sliceS' P t (.str l) lo hi mx := rfl
def viewS' (P : Program) (t : TypeId) (a : PV) (lo hi mx : Option (Option PV)) : RM (PV × Wr) :=
  match P.underlying t with
  | some (.slice e) =>
    match tSize P e, a with
    | some n, .h d => .rdc d fun
      | .row _ sz xs =>
        match bounds xs.length lo hi mx with
        | some (l, h) => if sz == n && l == 0 then .ret (.vw d h, []) else .fail
        | none => .fail
      | _ => .fail
    | _, _ => .fail
  | _ => .fail
theorem gtv (P : Program) (t : TypeId) (lo hi mx : Option (Option PV)) (d : Nat) : viewS P t (.h d) lo hi mx = viewS' P t (.h d) lo hi mx := rfl
theorem gt21 (P : Program) (t : TypeId) (lo hi mx : Option (Option PV)) (d : Nat) : sliceS P t (.h d) lo hi mx = sliceS' P t (.h d) lo hi mx := rfl
theorem gt22 (P : Program) (t : TypeId) (lo hi mx : Option (Option PV))  : sliceS P t .nils lo hi mx = sliceS' P t .nils lo hi mx := rfl
theorem gt23 (P : Program) (t : TypeId) (lo hi mx : Option (Option PV)) (sz : Nat) (xs : List (List PV)) : sliceS P t (.sl sz xs) lo hi mx = sliceS' P t (.sl sz xs) lo hi mx := rfl
theorem gt24 (P : Program) (t : TypeId) (j : Nat) (d o : Nat) : fieldAddrS P t j (.pb d o) = fieldAddrS' P t j (.pb d o) := rfl
theorem gt25 (P : Program) (t : TypeId) (j : Nat) (d i o : Nat) : fieldAddrS P t j (.pe d i o) = fieldAddrS' P t j (.pe d i o) := rfl
theorem gt26 (P : Program) (t : TypeId) (j : Nat) (cs : List PV) : fieldAddrS P t j (.pc cs) = fieldAddrS' P t j (.pc cs) := rfl
theorem gt27 (P : Program) (t : TypeId) (k : IntKind) (n : Int) (d : Nat) : indexAddrS P t (.h d) (.int k n) = indexAddrS' P t (.h d) (.int k n) := rfl
theorem gt28 (P : Program) (t : TypeId) (k : IntKind) (n : Int) (sz : Nat) (xs : List (List PV)) : indexAddrS P t (.sl sz xs) (.int k n) = indexAddrS' P t (.sl sz xs) (.int k n) := rfl
theorem gt29 (P : Program) (t : TypeId) (k : IntKind) (n : Int) (l : List UInt8) : indexS P t (.str l) (.int k n) = indexS' P t (.str l) (.int k n) := rfl
theorem gt30 (P : Program) (t : Option TypeId) (l : List UInt8) : lenS P t (.str l) = lenS' P t (.str l) := rfl
theorem gt31 (P : Program) (t : Option TypeId) (d : Nat) : lenS P t (.h d) = lenS' P t (.h d) := rfl
theorem gt32 (P : Program) (t : Option TypeId)  : lenS P t .nils = lenS' P t .nils := rfl
theorem gt33 (P : Program) (t : Option TypeId) (sz : Nat) (xs : List (List PV)) : lenS P t (.sl sz xs) = lenS' P t (.sl sz xs) := rfl
theorem gt34 (P : Program) (fid : Nat) (t t' : Option TypeId) (y : PV) (d : Nat) : appendS P fid t t' (.h d) y = appendS' P fid t t' (.h d) y := rfl
theorem gt35 (P : Program) (fid : Nat) (t t' : Option TypeId) (y : PV)  : appendS P fid t t' .nils y = appendS' P fid t t' .nils y := rfl
theorem gt36 (fid e n bytes : Nat) (ys : List (List PV)) (d : Nat) : appendTo fid e n bytes ys (.h d) = appendTo' fid e n bytes ys (.h d) := rfl
theorem gt38 (fid e n bytes : Nat) (ys : List (List PV))  : appendTo fid e n bytes ys .nils = appendTo' fid e n bytes ys .nils := rfl
def callK (E : Env) (call : Call) (f : FuncId) (fid : Nat) (x : Option Ext) (y : List PV × Wr × Wr × List (Nat × List PV)) : RM (PV × Wr) :=
      if (y.2.1 ++ y.2.2.1).any (fun z => y.2.2.2.any fun b => b.1 == z.1) then .fail else
      match callOf E call f x y with
      | none => .fail
      | some (r, lent) =>
        match impR fid 0 r with
        | (v, w, j) =>
          match impB fid j (y.2.2.2.map (·.1)) lent with
          | none => .fail
          | some (wb, j') => if j' ≤ 64 then endB x v ((if shares r || !y.2.2.2.isEmpty then y.2.1 else []) ++ y.2.2.1 ++ w) wb else .fail
def callX (E : Env) (call : Call) (fid : Nat) (f : FuncId) (args : List PV) : Option Ext → RM (PV × Wr)
  | some .clip =>
    match args with
    | [.nils] => .ret (.nils, [])
    | [.sl sz xs] => .ret (.sl sz xs, [])
    | [.h d] => .own d fun
      | .row e sz xs => .ret (.h fid, [(d, .del), (fid, .set (.row e sz xs))])
      | _ => .fail
    | _ => .fail
  | some (.rw mv g) => rwSem mv g fid args
  | some (.rwx mv c g) => rwxSem mv c g fid args
  | some (.bx j g) => bxSem j g args
  | x => (lendA args []).bind (callK E call f fid x)
theorem callSem_x (E : Env) (call : Call) (fid : Nat) (f : FuncId) (args : List PV) : callSem E call fid f args = callX E call fid f args (E.ext f) := by
  unfold callSem callX
  rfl
theorem callX_none (E : Env) (call : Call) (fid : Nat) (f : FuncId) (args : List PV) : callX E call fid f args none = (lendA args []).bind (callK E call f fid none) := rfl
theorem callX_fn (E : Env) (call : Call) (fid : Nat) (f : FuncId) (args : List PV) (g : List PV → Option PV) : callX E call fid f args (some (.fn g)) = (lendA args []).bind (callK E call f fid (some (.fn g))) := rfl
theorem callX_cn (E : Env) (call : Call) (fid : Nat) (f : FuncId) : callX E call fid f [.nils] (some .clip) = .ret (.nils, []) := rfl
theorem callX_cs (E : Env) (call : Call) (fid : Nat) (f : FuncId) (sz : Nat) (xs : List (List PV)) : callX E call fid f [.sl sz xs] (some .clip) = .ret (.sl sz xs, []) := rfl
theorem callX_ch (E : Env) (call : Call) (fid : Nat) (f : FuncId) (d : Nat) : callX E call fid f [.h d] (some .clip) = .own d fun
      | .row e sz xs => .ret (.h fid, [(d, .del), (fid, .set (.row e sz xs))])
      | _ => .fail := rfl
theorem callX_rw (E : Env) (call : Call) (fid : Nat) (f : FuncId) (args : List PV) (mv : Bool) (g : TypeId → Nat → List (List PV) → Option (List (List PV))) : callX E call fid f args (some (.rw mv g)) = rwSem mv g fid args := rfl
theorem callX_rwx (E : Env) (call : Call) (fid : Nat) (f : FuncId) (args : List PV) (mv : Bool) (c : FuncId) (g : TypeId → Nat → List (List PV) → Option (List (List PV))) : callX E call fid f args (some (.rwx mv c g)) = rwxSem mv c g fid args := rfl
theorem callX_bx (E : Env) (call : Call) (fid : Nat) (f : FuncId) (args : List PV) (j : Nat) (g : List PV → TypeId → Nat → List (List PV) → Option (Option (List (List PV)) × PV)) : callX E call fid f args (some (.bx j g)) = bxSem j g args := rfl
def bxK (r : Nat) (e : TypeId) (sz : Nat) : Option (Option (List (List PV)) × PV) → RM (PV × Wr)
  | some (some ys, v) => .own r fun _ => .ret (v, [(r, .set (.row e sz ys))])
  | some (none, v) => .ret (v, [])
  | none => .fail
def bxS : Option (Option (List (List PV)) × PV) → RM (PV × Wr)
  | some (none, v) => .ret (v, [])
  | _ => .fail
def bxR (g : List PV → TypeId → Nat → List (List PV) → Option (Option (List (List PV)) × PV)) (rest : List PV) (r : Nat) : Cont → RM (PV × Wr)
  | .row e sz xs => bxK r e sz (if rest.all plainV then g rest e sz xs else none)
  | _ => .fail
def bxB (j : Nat) (g : List PV → TypeId → Nat → List (List PV) → Option (Option (List (List PV)) × PV)) (rest : List PV) : Cont → RM (PV × Wr)
  | .box cs => (match cs[j]? with | some (.h r) => .rdc r (bxR g rest r) | some (.sl sz xs) => bxS (if rest.all plainV then g rest 0 sz xs else none) | _ => .fail)
  | _ => .fail
theorem bxSem_pb (j : Nat) (g : List PV → TypeId → Nat → List (List PV) → Option (Option (List (List PV)) × PV)) (d : Nat) (rest : List PV) : bxSem j g (.pb d 0 :: rest) = .own d (bxB j g rest) := by
  refine congrArg (RM.own d) (funext fun c => ?_)
  cases c with
  | row => rfl
  | box cs =>
    unfold bxB
    dsimp only
    cases cs[j]? with
    | none => rfl
    | some v =>
      cases v with
      | h r =>
        refine congrArg (RM.rdc r) (funext fun c2 => ?_)
        cases c2 with
        | box => rfl
        | row e sz xs =>
          unfold bxR bxK
          dsimp only
          cases (if (rest.all plainV) = true then g rest e sz xs else none) with
          | none => rfl
          | some x => obtain ⟨_ | ys, v⟩ := x <;> rfl
      | sl sz xs =>
        unfold bxS
        dsimp only
        cases (if (rest.all plainV) = true then g rest 0 sz xs else none) with
        | none => rfl
        | some x => obtain ⟨_ | ys, v⟩ := x <;> rfl
      | _ => rfl
theorem bxB_box (j : Nat) (g : List PV → TypeId → Nat → List (List PV) → Option (Option (List (List PV)) × PV)) (rest : List PV) (cs : List PV) : bxB j g rest (.box cs) = (match cs[j]? with | some (.h r) => .rdc r (bxR g rest r) | some (.sl sz xs) => bxS (if rest.all plainV then g rest 0 sz xs else none) | _ => .fail) := rfl
theorem bxS_same (v : PV) : bxS (some (none, v)) = .ret (v, []) := rfl
theorem bxR_row (g : List PV → TypeId → Nat → List (List PV) → Option (Option (List (List PV)) × PV)) (rest : List PV) (r : Nat) (e : TypeId) (sz : Nat) (xs : List (List PV)) : bxR g rest r (.row e sz xs) = bxK r e sz (if rest.all plainV then g rest e sz xs else none) := rfl
def bxO (r : Nat) (e : TypeId) (sz : Nat) (ys : List (List PV)) (v : PV) : Cont → RM (PV × Wr) := fun _ => .ret (v, [(r, .set (.row e sz ys))])
theorem bxK_some (r : Nat) (e : TypeId) (sz : Nat) (ys : List (List PV)) (v : PV) : bxK r e sz (some (some ys, v)) = .own r (bxO r e sz ys v) := rfl
theorem bxO_c (r : Nat) (e : TypeId) (sz : Nat) (ys : List (List PV)) (v : PV) (c : Cont) : bxO r e sz ys v c = .ret (v, [(r, .set (.row e sz ys))]) := rfl
theorem bxK_same (r : Nat) (e : TypeId) (sz : Nat) (v : PV) : bxK r e sz (some (none, v)) = .ret (v, []) := rfl
theorem plainV_agg (cs : List PV) : plainV (.agg cs) = cs.all plainLeaf := rfl
theorem plainV_int (k : IntKind) (n : Int) : plainV (.int k n) = true := rfl
theorem rwxSem_eq (mv : Bool) (c : FuncId) (g : TypeId → Nat → List (List PV) → Option (List (List PV))) (fid : Nat) (a : PV) : rwxSem mv c g fid [a, .fn c []] = rwSem mv g fid [a] := by simp [rwxSem]
def rwK (mv : Bool) (fid d : Nat) (e : TypeId) (sz : Nat) : Option (List (List PV)) → RM (PV × Wr)
  | some ys => (match mv with | true => .ret (.h fid, [(d, .del), (fid, .set (.row e sz ys))]) | false => .ret (.tup [], [(d, .set (.row e sz ys))]))
  | none => .fail
theorem rwSem_nt (g : TypeId → Nat → List (List PV) → Option (List (List PV))) (fid : Nat) : rwSem true g fid [.nils] = .ret (.nils, []) := rfl
theorem rwSem_nf (g : TypeId → Nat → List (List PV) → Option (List (List PV))) (fid : Nat) : rwSem false g fid [.nils] = .ret (.tup [], []) := rfl
def rwF (mv : Bool) (g : TypeId → Nat → List (List PV) → Option (List (List PV))) (fid d : Nat) : Cont → RM (PV × Wr)
  | .row e sz xs => rwK mv fid d e sz (g e sz xs)
  | _ => .fail
theorem rwSem_h (mv : Bool) (g : TypeId → Nat → List (List PV) → Option (List (List PV))) (fid d : Nat) : rwSem mv g fid [.h d] = .own d (rwF mv g fid d) := by
  unfold rwSem
  simp only
  congr 1
theorem rwF_row (mv : Bool) (g : TypeId → Nat → List (List PV) → Option (List (List PV))) (fid d : Nat) (e : TypeId) (sz : Nat) (xs : List (List PV)) : rwF mv g fid d (.row e sz xs) = rwK mv fid d e sz (g e sz xs) := rfl
theorem rwK_t (fid d : Nat) (e : TypeId) (sz : Nat) (ys : List (List PV)) : rwK true fid d e sz (some ys) = .ret (.h fid, [(d, .del), (fid, .set (.row e sz ys))]) := rfl
theorem rwK_f (fid d : Nat) (e : TypeId) (sz : Nat) (ys : List (List PV)) : rwK false fid d e sz (some ys) = .ret (.tup [], [(d, .set (.row e sz ys))]) := rfl
theorem callK_mk (E : Env) (call : Call) (f : FuncId) (fid : Nat) (x : Option Ext) (a : List PV) (b c : Wr) (d : List (Nat × List PV)) : callK E call f fid x (a, b, c, d) =
      if (b ++ c).any (fun z => d.any fun b => b.1 == z.1) then .fail else
      match callOf E call f x (a, b, c, d) with
      | none => .fail
      | some (r, lent) =>
        match impR fid 0 r with
        | (v, w, j) =>
          match impB fid j (d.map (·.1)) lent with
          | none => .fail
          | some (wb, j') => if j' ≤ 64 then endB x v ((if shares r || !d.isEmpty then b else []) ++ c ++ w) wb else .fail := rfl
theorem callX_keep (E : Env) (call : Call) (fid : Nat) (f : FuncId) (args : List PV) : callX E call fid f args (some .keep) = (lendA args []).bind (callK E call f fid (some .keep)) := rfl
theorem callOf_keep (E : Env) (call : Call) (f : FuncId) (a : List PV) (b c : Wr) (d : List (Nat × List PV)) : callOf E call f (some .keep) (a, b, c, d) = call f a (d.map (·.2)) := rfl
theorem endB_none (v : PV) (a wb : Wr) : endB none v a wb = .ret (v, a ++ wb) := rfl
theorem endB_fn (g : List PV → Option PV) (v : PV) (a wb : Wr) : endB (some (.fn g)) v a wb = .ret (v, a ++ wb) := rfl
theorem endB_keep (v : PV) (a wb : Wr) : endB (some .keep) v a wb = retB v a wb := rfl
theorem retB_nil (v : PV) (a : Wr) : retB v a [] = .ret (v, a) := rfl
def retK (v : PV) (a : Wr) (d : Nat) (xs : List PV) (r : Wr) : Bool → RM (PV × Wr)
  | true => retB v (a ++ [(d, .set (.box xs))]) r
  | false => .own d fun
        | .box cs => if sameL cs xs then retB v a r else retB v (a ++ [(d, .set (.box xs))]) r
        | _ => retB v (a ++ [(d, .set (.box xs))]) r
theorem retB_box (v : PV) (a : Wr) (d : Nat) (xs : List PV) (r : Wr) : retB v a ((d, .set (.box xs)) :: r) = retK v a d xs r (a.any fun y => y.1 == d) := by
  simp only [retB]
  cases a.any fun y => y.1 == d <;> rfl
theorem retK_f (v : PV) (a : Wr) (d : Nat) (xs : List PV) (r : Wr) : retK v a d xs r false = .own d fun
        | .box cs => if sameL cs xs then retB v a r else retB v (a ++ [(d, .set (.box xs))]) r
        | _ => retB v (a ++ [(d, .set (.box xs))]) r := rfl
theorem retB_row (v : PV) (a : Wr) (d : Nat) (e : TypeId) (sz : Nat) (xs : List (List PV)) (r : Wr) : retB v a ((d, .set (.row e sz xs)) :: r) = retB v (a ++ [(d, .set (.row e sz xs))]) r := rfl
theorem callOf_none (E : Env) (call : Call) (f : FuncId) (a : List PV) (b c : Wr) (d : List (Nat × List PV)) : callOf E call f none (a, b, c, d) = call f a (d.map (·.2)) := rfl
theorem callOf_fn (E : Env) (call : Call) (f : FuncId) (g : List PV → Option PV) (a : List PV) (b c : Wr) (d : List (Nat × List PV)) : callOf E call f (some (.fn g)) (a, b, c, d) = if d.isEmpty then (match g a with | some r => some (r, []) | none => none) else none := rfl
attribute [go_sem] callX_bx bxSem_pb bxB_box bxR_row bxK_some bxO_c bxK_same bxS_same plainV_agg plainV_int
attribute [go_sem] callX_rw callX_rwx rwxSem_eq rwSem_nt rwSem_nf rwSem_h rwF_row rwK_t rwK_f
attribute [go_sem] callX_keep callOf_keep endB_none endB_fn endB_keep retB_nil retB_box retK_f retB_row sameL samePV
attribute [go_sem] evBin_eqS evBin_neS eqS_some neS_some eqInts_cons eqInts_nil eqC_some eqOut_some neOut_some
attribute [go_sem] gtv viewS' gt0 gt1 gt2 gt3 gt4 gt5 gt6 gt7 gt8 gt9 gt10 gt11 gt12 gt13 gt14 gt15 gt16 gt17 gt18 gt19 gt20 gt21 gt22 gt23 gt24 gt25 gt26 gt27 gt28 gt29 gt30 gt31 gt32 gt33 gt34 gt35 gt36 gt38 callSem_x callX_none callX_fn callX_cn callX_cs callX_ch callK_mk callOf_none callOf_fn evBin' evUn' loadS' storeS' convS' makeS' sliceS' fieldAddrS' indexAddrS' indexS' lenS' appendS' appendTo'
/-! the same without anything that stands behind a match (what stands there would be gone through anew at each step) -/
def runJ (t : Tr) : Option (St × List Tr) → Option (St × List Tr)
  | none => none
  | some (S2, ts) => some (S2, t :: ts)
def runK (E : Env) (call : Call) (ops : Array Oper) (i : Nat) (r : List Oper) : Option (St × Tr) → Option (St × List Tr)
  | none => none
  | some (S1, t) => runJ t (runO E call ops (i + 1) r S1)
theorem runJ_none (t : Tr) : runJ t none = none := rfl
theorem runJ_some (t : Tr) (S : St) (ts : List Tr) : runJ t (some (S, ts)) = some (S, t :: ts) := rfl
theorem runK_none (E : Env) (call : Call) (ops : Array Oper) (i : Nat) (r : List Oper) : runK E call ops i r none = none := rfl
theorem runK_some (E : Env) (call : Call) (ops : Array Oper) (i : Nat) (r : List Oper) (S : St) (t : Tr) : runK E call ops i r (some (S, t)) = runJ t (runO E call ops (i + 1) r S) := rfl
theorem runO_nil (E : Env) (call : Call) (ops : Array Oper) (i : Nat) (S : St) : runO E call ops i [] S = some (S, []) := rfl
theorem runO_cons (E : Env) (call : Call) (ops : Array Oper) (i : Nat) (o : Oper) (r : List Oper) (S : St) : runO E call ops i (o :: r) S = runK E call ops i r (stepO E call ops i o S) := by
  rw [runO]
  rcases stepO E call ops i o S with _ | ⟨S1, t⟩
  · rfl
  · rw [runK_some]
    rcases h : runO E call ops (i + 1) r S1 with _ | ⟨S2, ts⟩ <;> simp [runJ, h]
def stepR (dst : Option Tmp) (sl : List (Nat × PV)) (m : List (Nat × Option Ent)) (ep : Nat) : Option ((PV × Wr) × List Nat × List Nat) → Option (St × Tr)
  | some ((v, w), rc, ro) => some (St.put ⟨sl, m, ep⟩ dst v w, ⟨rc, ro, wrHard w, wrSoft w⟩)
  | none => none
theorem stepR_none (dst : Option Tmp) (sl : List (Nat × PV)) (m : List (Nat × Option Ent)) (ep : Nat) : stepR dst sl m ep none = none := rfl
theorem stepR_some (dst : Option Tmp) (sl : List (Nat × PV)) (m : List (Nat × Option Ent)) (ep : Nat) (v : PV) (w : Wr) (rc ro : List Nat) : stepR dst sl m ep (some ((v, w), rc, ro)) = some (St.put ⟨sl, m, ep⟩ dst v w, ⟨rc, ro, wrHard w, wrSoft w⟩) := rfl
def stepW (E : Env) (call : Call) (i : Nat) (o : Oper) (sl : List (Nat × PV)) (m : List (Nat × Option Ent)) (ep : Nat) : Option Bool → Option (St × Tr)
  | none => none
  | some false => some (St.put ⟨sl, m, ep⟩ o.dst .undef [], ⟨[], [], [], []⟩)
  | some true => stepR o.dst sl m ep ((opSem E call (ep * 33554432 + i * 64) (St.slot ⟨sl, m, ep⟩) o.op).run (St.at ⟨sl, m, ep⟩))
theorem stepW_none (E : Env) (call : Call) (i : Nat) (o : Oper) (sl : List (Nat × PV)) (m : List (Nat × Option Ent)) (ep : Nat) : stepW E call i o sl m ep none = none := rfl
theorem stepW_false (E : Env) (call : Call) (i : Nat) (o : Oper) (sl : List (Nat × PV)) (m : List (Nat × Option Ent)) (ep : Nat) : stepW E call i o sl m ep (some false) = some (St.put ⟨sl, m, ep⟩ o.dst .undef [], ⟨[], [], [], []⟩) := rfl
theorem stepW_true (E : Env) (call : Call) (i : Nat) (o : Oper) (sl : List (Nat × PV)) (m : List (Nat × Option Ent)) (ep : Nat) : stepW E call i o sl m ep (some true) = stepR o.dst sl m ep ((opSem E call (ep * 33554432 + i * 64) (St.slot ⟨sl, m, ep⟩) o.op).run (St.at ⟨sl, m, ep⟩)) := rfl
theorem stepO_w (E : Env) (call : Call) (ops : Array Oper) (i : Nat) (o : Oper) (sl : List (Nat × PV)) (m : List (Nat × Option Ent)) (ep : Nat) : stepO E call ops i o ⟨sl, m, ep⟩ = stepW E call i o sl m ep (wantsO ops o ⟨sl, m, ep⟩) := by
  rw [stepO_mk]
  rcases wantsO ops o ⟨sl, m, ep⟩ with _ | _ | _
  · rfl
  · rfl
  · rw [stepW_true]
    rcases (opSem E call (ep * 33554432 + i * 64) (St.slot ⟨sl, m, ep⟩) o.op).run (St.at ⟨sl, m, ep⟩) with _ | ⟨⟨v, w⟩, rc, ro⟩ <;> rfl
def regK (ops : Array Oper) (draw : Bool) (P : Out → St → Prop) : Option (St × List Tr) → Prop
  | some (S', tr) => (Nat.ble ops.size 524288 && (!draw || drawOK ops tr)) = true ∧ P .normal { S' with ep := S'.ep + 1 }
  | none => False
theorem regK_none (ops : Array Oper) (draw : Bool) (P : Out → St → Prop) : regK ops draw P none = False := rfl
theorem regK_some (ops : Array Oper) (draw : Bool) (P : Out → St → Prop) (sl : List (Nat × PV)) (m : List (Nat × Option Ent)) (ep : Nat) (tr : List Tr) : regK ops draw P (some (⟨sl, m, ep⟩, tr)) = ((Nat.ble ops.size 524288 && (!draw || drawOK ops tr)) = true ∧ P .normal ⟨sl, m, ep + 1⟩) := rfl
theorem runs_reg {E f nl id ops draw S P} : Runs E f nl (.region id ops draw) S P = regK ops draw P (runO E (dw E) ops 0 ops.toList S) := by
  rw [runs_region]
  rcases runO E (dw E) ops 0 ops.toList S with _ | ⟨S', tr⟩ <;> rfl
def condK (E : Env) (f : FuncId) (nl : Nat) (a b : Code) (S : St) (P : Out → St → Prop) : Option PV → Prop
  | some (.bool true) => Runs E f nl a S P
  | some (.bool false) => Runs E f nl b S P
  | _ => False
theorem condK_t (E : Env) (f : FuncId) (nl : Nat) (a b : Code) (S : St) (P : Out → St → Prop) : condK E f nl a b S P (some (.bool true)) = Runs E f nl a S P := rfl
theorem condK_f (E : Env) (f : FuncId) (nl : Nat) (a b : Code) (S : St) (P : Out → St → Prop) : condK E f nl a b S P (some (.bool false)) = Runs E f nl b S P := rfl
theorem runs_con {E f nl c a b S P} : Runs E f nl (.cond c a b) S P = condK E f nl a b S P (evOp S.slot c) := by
  rw [runs_cond]
  unfold condK
  rcases evOp S.slot c with _ | v
  · rfl
  · cases v with
    | bool t => cases t <;> rfl
    | _ => rfl
def runC {α : Type} (d : Nat) : Option (α × List Nat × List Nat) → Option (α × List Nat × List Nat)
  | some (a, l, o) => some (a, d :: l, o)
  | none => none
def runD {α : Type} (d : Nat) : Option (α × List Nat × List Nat) → Option (α × List Nat × List Nat)
  | some (a, l, o) => some (a, l, d :: o)
  | none => none
theorem runC_some {α : Type} (d : Nat) (a : α) (l o : List Nat) : runC d (some (a, l, o)) = some (a, d :: l, o) := rfl
theorem runC_none {α : Type} (d : Nat) : runC d (none : Option (α × List Nat × List Nat)) = none := rfl
theorem runD_some {α : Type} (d : Nat) (a : α) (l o : List Nat) : runD d (some (a, l, o)) = some (a, l, d :: o) := rfl
theorem runD_none {α : Type} (d : Nat) : runD d (none : Option (α × List Nat × List Nat)) = none := rfl
def runE {α : Type} (d : Nat) (k : Cont → RM α) (m : Nat → Option Ent) : Option Ent → Option (α × List Nat × List Nat)
  | some e => runC d ((k e.c).run m)
  | none => none
def runF {α : Type} (d : Nat) (k : Cont → RM α) (m : Nat → Option Ent) : Option Ent → Option (α × List Nat × List Nat)
  | some e => (match e.own with | true => runD d ((k e.c).run m) | false => none)
  | none => none
theorem runE_some {α : Type} (d : Nat) (k : Cont → RM α) (m : Nat → Option Ent) (o : Bool) (c : Cont) : runE d k m (some ⟨o, c⟩) = runC d ((k c).run m) := rfl
theorem runE_none {α : Type} (d : Nat) (k : Cont → RM α) (m : Nat → Option Ent) : runE d k m none = none := rfl
theorem runF_some {α : Type} (d : Nat) (k : Cont → RM α) (m : Nat → Option Ent) (c : Cont) : runF d k m (some ⟨true, c⟩) = runD d ((k c).run m) := rfl
theorem runF_not {α : Type} (d : Nat) (k : Cont → RM α) (m : Nat → Option Ent) (c : Cont) : runF d k m (some ⟨false, c⟩) = none := rfl
theorem runF_none {α : Type} (d : Nat) (k : Cont → RM α) (m : Nat → Option Ent) : runF d k m none = none := rfl
theorem rn_ret {α : Type} (a : α) (m : Nat → Option Ent) : (RM.ret a).run m = some (a, [], []) := rfl
theorem rn_fail {α : Type} (m : Nat → Option Ent) : (RM.fail : RM α).run m = none := rfl
theorem rn_rdc {α : Type} (d : Nat) (k : Cont → RM α) (m : Nat → Option Ent) : (RM.rdc d k).run m = runE d k m (m d) := by
  rw [RM.run]
  rcases m d with _ | e
  · rfl
  · show _ = runC d ((k e.c).run m)
    dsimp only
    rcases (k e.c).run m with _ | ⟨a, l, o⟩ <;> rfl
theorem rn_own {α : Type} (d : Nat) (k : Cont → RM α) (m : Nat → Option Ent) : (RM.own d k).run m = runF d k m (m d) := by
  rw [RM.run]
  rcases m d with _ | ⟨w, c⟩
  · rfl
  · cases w
    · rfl
    · show _ = runD d ((k c).run m)
      dsimp only
      rcases (k c).run m with _ | ⟨a, l, o⟩ <;> rfl
attribute [go_sem low] runs_reg
attribute [go_sem] runO_nil runO_cons runK_none runK_some runJ_none runJ_some stepO_w stepW_none stepW_false stepW_true stepR_none stepR_some regK_none regK_some runs_con condK_t condK_f rn_ret rn_fail rn_rdc rn_own runC_some runC_none runD_some runD_none runE_some runE_none runF_some runF_not runF_none
/-! each operation: what it looks at stands in front -/
def pickS : Option PV → Option PV → Option PV → RM (PV × Wr)
  | some (.bool true), a, _ => retO a
  | some (.bool false), _, b => retO b
  | _, _, _ => .fail
theorem pickS_t (a b : Option PV) : pickS (some (.bool true)) a b = retO a := rfl
theorem pickS_f (a b : Option PV) : pickS (some (.bool false)) a b = retO b := rfl
def bind1 (F : PV → RM (PV × Wr)) : Option PV → RM (PV × Wr)
  | some a => F a
  | none => .fail
def bind2 {α : Type} (F : PV → α → RM (PV × Wr)) : Option PV → Option α → RM (PV × Wr)
  | some a, some b => F a b
  | _, _ => .fail
theorem bind2_some {α : Type} (F : PV → α → RM (PV × Wr)) (a : PV) (b : α) : bind2 F (some a) (some b) = F a b := rfl
theorem bind1_some (F : PV → RM (PV × Wr)) (a : PV) : bind1 F (some a) = F a := rfl
def binF (P : Program) (op : BinOp) (t : TypeId) (a b : PV) : RM (PV × Wr) := retO (evBin P op t a b)
theorem binF_eq (P : Program) (op : BinOp) (t : TypeId) (a b : PV) : binF P op t a b = retO (evBin P op t a b) := rfl
def sliceF (E : Env) (t : TypeId) (lo hi mx : Option (Option PV)) (a : PV) : RM (PV × Wr) := if E.vw t = true then viewS E.P t a lo hi mx else sliceS E.P t a lo hi mx
theorem sliceF_eq (E : Env) (t : TypeId) (lo hi mx : Option (Option PV)) (a : PV) : sliceF E t lo hi mx a = if E.vw t = true then viewS E.P t a lo hi mx else sliceS E.P t a lo hi mx := rfl
def callB (P : Program) (fid : Nat) (b : Builtin) (ts : Array TypeId) : Option (List PV) → RM (PV × Wr)
  | some args => builtinSem P fid b ts args
  | none => .fail
theorem callB_some (P : Program) (fid : Nat) (b : Builtin) (ts : Array TypeId) (args : List PV) : callB P fid b ts (some args) = builtinSem P fid b ts args := rfl
def callV (E : Env) (call : Call) (fid : Nat) : Option PV → Option (List PV) → RM (PV × Wr)
  | some (.fn f caps), some args => callSem E call fid f (args ++ caps)
  | _, _ => .fail
theorem callV_fn (E : Env) (call : Call) (fid : Nat) (f : FuncId) (caps args : List PV) : callV E call fid (some (.fn f caps)) (some args) = callSem E call fid f (args ++ caps) := rfl
theorem op_move (E : Env) (call : Call) (fid : Nat) (g : Nat → Option PV) (x : Operand) : opSem E call fid g (.move x) = retO (evOp g x) := rfl
theorem op_assign (E : Env) (call : Call) (fid : Nat) (g : Nat → Option PV) (x : Operand) : opSem E call fid g (.assign x) = retO (evOp g x) := rfl
theorem op_pick (E : Env) (call : Call) (fid : Nat) (g : Nat → Option PV) (c a b : Operand) : opSem E call fid g (.pick c a b) = pickS (evOp g c) (evOp g a) (evOp g b) := by
  show (match evOp g c with | some (.bool t) => (match t with | true => retO (evOp g a) | false => retO (evOp g b)) | _ => .fail) = _
  rcases evOp g c with _ | v
  · rfl
  · cases v with
    | bool t => cases t <;> rfl
    | _ => rfl
theorem op_alloc (E : Env) (call : Call) (fid : Nat) (g : Nat → Option PV) (t : TypeId) : opSem E call fid g (.alloc t) = match tZero E.P t with | some cs => .ret (.pb fid 0, [(fid, .set (.box cs))]) | none => .fail := rfl
theorem op_box (E : Env) (call : Call) (fid : Nat) (g : Nat → Option PV) (t : TypeId) (x : Operand) : opSem E call fid g (.box t x) = (RM.of ((evOp g x).bind leavesO)).bind fun cs => .ret (.pb fid 0, [(fid, .set (.box cs))]) := rfl
theorem op_build (E : Env) (call : Call) (fid : Nat) (g : Nat → Option PV) (t : TypeId) (ps : Array (Nat × Operand)) : opSem E call fid g (.build t ps) = (RM.of (evParts g ps.toList)).bind (buildS E.P t) := rfl
theorem op_buildSlice (E : Env) (call : Call) (fid : Nat) (g : Nat → Option PV) (t : TypeId) (n : Nat) (ps : Array (Nat × Operand)) : opSem E call fid g (.buildSlice t n ps) = (RM.of (evParts g ps.toList)).bind (buildSliceS E.P fid t n) := rfl
theorem op_load (E : Env) (call : Call) (fid : Nat) (g : Nat → Option PV) (t : TypeId) (x : Operand) : opSem E call fid g (.load t x) = bind1 (loadS E.P t) (evOp g x) := by
  show (RM.of (evOp g x)).bind _ = _
  rcases evOp g x with _ | v <;> rfl
theorem op_store (E : Env) (call : Call) (fid : Nat) (g : Nat → Option PV) (t : TypeId) (x y : Operand) : opSem E call fid g (.store t x y) = bind2 (storeS E.P t) (evOp g x) ((evOp g y).bind leavesO) := by
  show (RM.of (evOp g x)).bind _ = _
  rcases evOp g x with _ | v
  · rfl
  · show (RM.of ((evOp g y).bind leavesO)).bind _ = _
    rcases (evOp g y).bind leavesO with _ | w <;> rfl
theorem op_nilCheck (E : Env) (call : Call) (fid : Nat) (g : Nat → Option PV) (x : Operand) : opSem E call fid g (.nilCheck x) = (RM.of (evOp g x)).bind fun v => if isPtr v then .ret (v, []) else .fail := rfl
theorem op_binOp (E : Env) (call : Call) (fid : Nat) (g : Nat → Option PV) (op : BinOp) (t : TypeId) (x y : Operand) (z : TypeId) : opSem E call fid g (.binOp op t x y z) = bind2 (binF E.P op t) (evOp g x) (evOp g y) := by
  show (RM.of (evOp g x)).bind _ = _
  rcases evOp g x with _ | v
  · rfl
  · show (RM.of (evOp g y)).bind _ = _
    rcases evOp g y with _ | w <;> rfl
theorem op_unOp (E : Env) (call : Call) (fid : Nat) (g : Nat → Option PV) (op : UnOp) (t : TypeId) (x : Operand) : opSem E call fid g (.unOp op t x) = (RM.of (evOp g x)).bind fun a => retO (evUn op a) := rfl
theorem op_convert (E : Env) (call : Call) (fid : Nat) (g : Nat → Option PV) (s t : TypeId) (x : Operand) : opSem E call fid g (.convert s t x) = bind1 (convS E.P fid s t) (evOp g x) := by
  show (RM.of (evOp g x)).bind _ = _
  rcases evOp g x with _ | v <;> rfl
theorem op_makeSlice (E : Env) (call : Call) (fid : Nat) (g : Nat → Option PV) (t : TypeId) (n c : Operand) : opSem E call fid g (.makeSlice t n c) = bind2 (makeS E.P fid t) (evOp g n) (evOp g c) := by
  show (RM.of (evOp g n)).bind _ = _
  rcases evOp g n with _ | v
  · rfl
  · show (RM.of (evOp g c)).bind _ = _
    rcases evOp g c with _ | w <;> rfl
theorem op_slice (E : Env) (call : Call) (fid : Nat) (g : Nat → Option PV) (t : TypeId) (x : Operand) (lo hi mx : Option Operand) : opSem E call fid g (.slice t x lo hi mx) = bind1 (sliceF E t (lo.map (evOp g)) (hi.map (evOp g)) (mx.map (evOp g))) (evOp g x) := by
  show (RM.of (evOp g x)).bind _ = _
  rcases evOp g x with _ | v <;> rfl
theorem op_fieldAddr (E : Env) (call : Call) (fid : Nat) (g : Nat → Option PV) (t : TypeId) (x : Operand) (j : Nat) : opSem E call fid g (.fieldAddr t x j) = bind1 (fieldAddrS E.P t j) (evOp g x) := by
  show (RM.of (evOp g x)).bind _ = _
  rcases evOp g x with _ | v <;> rfl
theorem op_field (E : Env) (call : Call) (fid : Nat) (g : Nat → Option PV) (t : TypeId) (x : Operand) (j : Nat) : opSem E call fid g (.field t x j) = (RM.of (evOp g x)).bind fun a =>
    match tField E.P t j, a with
    | some (off, ft), .agg cs => retO (loadC E.P ft cs off)
    | _, _ => .fail := rfl
theorem op_indexAddr (E : Env) (call : Call) (fid : Nat) (g : Nat → Option PV) (t : TypeId) (x i : Operand) : opSem E call fid g (.indexAddr t x i) = bind2 (indexAddrS E.P t) (evOp g x) (evOp g i) := by
  show (RM.of (evOp g x)).bind _ = _
  rcases evOp g x with _ | v
  · rfl
  · show (RM.of (evOp g i)).bind _ = _
    rcases evOp g i with _ | w <;> rfl
theorem op_index (E : Env) (call : Call) (fid : Nat) (g : Nat → Option PV) (t : TypeId) (x i : Operand) : opSem E call fid g (.index t x i) = bind2 (indexS E.P t) (evOp g x) (evOp g i) := by
  show (RM.of (evOp g x)).bind _ = _
  rcases evOp g x with _ | v
  · rfl
  · show (RM.of (evOp g i)).bind _ = _
    rcases evOp g i with _ | w <;> rfl
theorem op_extract (E : Env) (call : Call) (fid : Nat) (g : Nat → Option PV) (x : Operand) (j : Nat) : opSem E call fid g (.extract x j) = (RM.of (evOp g x)).bind fun
    | .tup vs => retO vs[j]?
    | _ => .fail := rfl
theorem op_makeFunc (E : Env) (call : Call) (fid : Nat) (g : Nat → Option PV) (f : FuncId) (first : Array Operand) (caps : Array Operand) : opSem E call fid g (.makeFunc (.func f) first caps) =
  if first.isEmpty then (match evOps g caps.toList with | some cs => (if cs.all okLeaf then .ret (.fn f cs, []) else .fail) | none => .fail) else .fail := rfl
theorem op_callB (E : Env) (call : Call) (fid : Nat) (g : Nat → Option PV) (b : Builtin) (args : Array Operand) (ts : Array TypeId) : opSem E call fid g (.call { callee := .builtin b, args := args, argTypes := ts }) = callB E.P fid b ts (evOps g args.toList) := by
  show (match evOps g args.toList with | none => _ | some a => _) = _
  rcases evOps g args.toList with _ | v <;> rfl
theorem op_callV (E : Env) (call : Call) (fid : Nat) (g : Nat → Option PV) (x : Operand) (args : Array Operand) (ts : Array TypeId) : opSem E call fid g (.call { callee := .value x, args := args, argTypes := ts }) = callV E call fid (evOp g x) (evOps g args.toList) := by
  show (match evOps g args.toList with | none => _ | some a => (RM.of (evOp g x)).bind _) = _
  rcases evOps g args.toList with _ | v
  · rcases evOp g x with _ | w
    · rfl
    · cases w <;> rfl
  · rcases evOp g x with _ | w
    · rfl
    · cases w <;> rfl
attribute [go_sem] pickS_t pickS_f bind2_some bind1_some binF_eq sliceF_eq callB_some callV_fn op_move op_assign op_pick op_alloc op_box op_build op_buildSlice op_load op_store op_nilCheck op_binOp op_unOp op_convert op_makeSlice op_slice op_fieldAddr op_field op_indexAddr op_index op_extract op_makeFunc op_callB op_callV
attribute [go_sem] runs_seq   runs_block runs_ret runs_exit runs_skip next leave   wantsO  evOp evOps evParts St.slot St.at atM get_at get_no retO RM.of RM.bind  St.put putMs putM constPV   IntKind.bits 
  finish resOs resO expVs expL expB entry ble_eq blt_eq wrap_u64 IntKind.wrap_u8 IntKind.wrap_i64 IntKind.signed
  mkv sealL sealLL  minmaxS   builtinSem loadC   splice fillF buildS    bnd bounds   buildSliceS
    lent0 lent1 lent2 lent3 impL impVs impB lim
  List.zipIdx_cons List.zipIdx_nil List.map_cons List.map_nil List.length_nil List.size_toArray List.length_cons Bool.false_eq_true Bool.not_false Bool.not_true Bool.true_or Bool.or_true Bool.false_or Bool.or_false Bool.and_true Bool.true_and Bool.false_and Bool.and_false
  decide_true decide_false true_and and_true false_and and_false List.range_zero List.isEmpty_nil List.isEmpty_cons List.any_nil List.any_cons List.all_nil List.all_cons List.append_nil List.nil_append List.cons_append List.filterMap_nil List.filterMap_cons
  List.getElem?_cons_zero List.getElem?_cons_succ List.getElem?_nil List.getElem?_toArray Option.isSome_none Option.isNone_none Option.map_none Option.map_some Option.bind_some Option.bind_none Option.isSome_some Option.isNone_some
  if_true if_false ite_true ite_false List.drop_zero List.drop_succ_cons List.take_zero List.take_succ_cons List.drop_nil List.take_nil beq_self_eq_true bb_t bb_f tb_b fb_b str_add str_eql str_neq str_lss str_leq str_gtr str_geq List.take_length ite_self or_false false_or or_true true_or or_self and_self not_true_eq_false not_false_eq_true ne_eq Bool.and_self Bool.or_self Bool.not_not
end Go.Den

/- Den, part Ze: numbers' bits, in the words of the walk. No program in sight. -/
namespace Go.Den
open Go
theorem bv_zero : BitVec.ofInt 64 0 = 0#64 := by decide
theorem bv_ones : BitVec.ofInt 64 18446744073709551615 = BitVec.allOnes 64 := by decide
theorem bv_m1 : BitVec.ofInt 64 (-1) = BitVec.allOnes 64 := by decide
theorem and_one (u : Int) : band 64 u 1 = u % 2 := by
  unfold band
  rw [BitVec.toNat_and, show (BitVec.ofInt 64 1).toNat = 1 from by decide, Nat.and_one_is_mod, BitVec.toNat_ofInt]
  omega
/-- what a number is, without a sign -/
def zig (n : Int) : Int := if n < 0 then -2 * n - 1 else 2 * n
def zag (u : Int) : Int := if u % 2 = 1 then -(u / 2) - 1 else u / 2
theorem zig_law {n : Int} (h0 : -9223372036854775808 ≤ n) (h1 : n < 9223372036854775808) :
    bxor 64 (n % 18446744073709551616 * 2 % 18446744073709551616) (n.fdiv 9223372036854775808 % 18446744073709551616) = zig n := by
  have hf : n.fdiv 9223372036854775808 = if n < 0 then -1 else 0 := by
    rw [Int.fdiv_eq_ediv_of_nonneg _ (by decide)]; split <;> omega
  rw [hf]
  unfold zig bxor
  split
  · rw [show ((-1 : Int) % 18446744073709551616) = 18446744073709551615 from by decide, bv_ones, BitVec.xor_allOnes, BitVec.toNat_not, BitVec.toNat_ofInt]
    omega
  · rw [show ((0 : Int) % 18446744073709551616) = 0 from by decide, bv_zero, BitVec.xor_zero, BitVec.toNat_ofInt]
    omega
theorem zag_law {u : Int} (h0 : 0 ≤ u) (h1 : u < 18446744073709551616) :
    sxor ((u.fdiv 2 + 9223372036854775808) % 18446744073709551616 - 9223372036854775808) ((0 - ((u % 2 + 9223372036854775808) % 18446744073709551616 - 9223372036854775808) + 9223372036854775808) % 18446744073709551616 - 9223372036854775808) = zag u := by
  rw [Int.fdiv_eq_ediv_of_nonneg _ (by decide)]
  unfold zag sxor
  rcases (show u % 2 = 0 ∨ u % 2 = 1 from by omega) with h | h
  · rw [h, show ((0 - ((0 + 9223372036854775808) % 18446744073709551616 - 9223372036854775808) + 9223372036854775808) % 18446744073709551616 - 9223372036854775808 : Int) = 0 from by decide, bv_zero, BitVec.xor_zero, if_neg (by decide), BitVec.toInt_ofInt, Int.bmod_def]
    omega
  · rw [h, show ((0 - ((1 + 9223372036854775808) % 18446744073709551616 - 9223372036854775808) + 9223372036854775808) % 18446744073709551616 - 9223372036854775808 : Int) = -1 from by decide, bv_m1, BitVec.xor_allOnes, BitVec.toInt_not, BitVec.toNat_ofInt, if_pos rfl, Int.bmod_def]
    omega
theorem zag_zig (n : Int) : zag (zig n) = n := by unfold zag zig; split <;> split <;> omega
theorem zig_odd (n : Int) : zig n % 2 = if n < 0 then 1 else 0 := by unfold zig; split <;> omega
theorem zig_lo (n : Int) : 0 ≤ zig n := by unfold zig; split <;> omega
theorem zig_hi {n : Int} (h0 : -9223372036854775808 ≤ n) (h1 : n < 9223372036854775808) : zig n < 18446744073709551616 := by unfold zig; split <;> omega
end Go.Den
namespace Go.Den
open Go Go.Proofs Go.RowKit
theorem wf_i64 {n : Int} (h : (Lit.int .i64 n).wf = true) : -9223372036854775808 ≤ n ∧ n < 9223372036854775808 := by
  simp [Lit.wf, IntKind.min, IntKind.max, IntKind.bits, IntKind.signed] at h; omega
theorem wf_u64 {n : Int} (h : (Lit.int .u64 n).wf = true) : 0 ≤ n ∧ n < 18446744073709551616 := by
  simp [Lit.wf, IntKind.min, IntKind.max, IntKind.bits, IntKind.signed] at h; omega
theorem wf_u8 {n : Int} (h : (Lit.int .u8 n).wf = true) : 0 ≤ n ∧ n < 256 := by
  simp [Lit.wf, IntKind.min, IntKind.max, IntKind.bits, IntKind.signed] at h; omega
/-- A law that comes to true. -/
theorem law_dw {E : Env} (hE : EnvOK E) {f : FuncId} {args : List PV} {w : World} {vs : Array Value} (h : dw E f args [] = some (.bool true, [])) (ha : ArgsOk w (fun k => k < w.heap.size) (Gl w (fun k => k < w.heap.size) []) vs args) :
    Calls E.P f vs w fun e w' => e = .returned (.bool true) ∧ Below w.heap.size w w' := by
  obtain ⟨k, hk⟩ := of_dw h
  exact law_calls hE hk ha
theorem args_nil {w : World} {ok G} : ArgsOk w ok G (List.toArray []) [] := ⟨rfl, fun j v p hv _ => by simp at hv⟩
theorem args_cons {w : World} {ok G} {v : Value} {p : PV} {vs : List Value} {ps : List PV} (h : RepS w ok G v p) (hr : ArgsOk w ok G vs.toArray ps) : ArgsOk w ok G (v :: vs).toArray (p :: ps) := by
  refine ⟨by simpa using hr.1, fun j v' p' hv hp => ?_⟩
  cases j with
  | zero => simp at hv hp; subst hv; subst hp; exact h
  | succ j => exact hr.2 j v' p' (by simpa using hv) (by simpa using hp)
end Go.Den
namespace Go.Den
open Go
/-! ### a number's bytes, seven bits each -/
def numN (u : Nat) : List Int := if u < 128 then [(u : Int)] else ((u % 128 + 128 : Nat) : Int) :: numN (u / 128)
termination_by u
decreasing_by omega
def num (u : Int) : List Int := numN u.toNat
theorem num_lt {u : Int} (h0 : 0 ≤ u) (h : u < 128) : num u = [u] := by
  unfold num
  rw [numN, if_pos (by omega), Int.toNat_of_nonneg h0]
theorem num_ge {u : Int} (h : 128 ≤ u) : num u = (u % 128 + 128) :: num (u / 128) := by
  unfold num
  rw [numN, if_neg (by omega)]
  congr 1
  · omega
  · congr 1; omega
theorem num_len (k : Nat) : ∀ {u : Int}, 0 ≤ u → u < 128 ^ (k + 1) → (num u).length ≤ k + 1 := by
  induction k with
  | zero => intro u h0 h; rw [num_lt h0 (by simpa using h)]; simp
  | succ k ih =>
    intro u h0 h
    by_cases hu : u < 128
    · rw [num_lt h0 hu]; simp
    · rw [num_ge (by omega), List.length_cons]
      have := ih (u := u / 128) (by omega) (by rw [Int.pow_succ] at h; omega)
      omega
theorem num_len10 {u : Int} (h0 : 0 ≤ u) (h : u < 18446744073709551616) : (num u).length ≤ 10 := num_len 9 h0 (Int.lt_of_lt_of_le h (by decide))
theorem num_pos (u : Int) : 1 ≤ (num u).length := by
  unfold num
  rw [numN]
  split <;> simp
theorem bor128 {u : Int} (_h : 0 ≤ u) : bor 8 (u % 256) 128 = u % 128 + 128 := by
  have key : ∀ x : BitVec 8, ((x ||| 128#8).toNat : Int) = x.toNat % 128 + 128 := by decide
  unfold bor
  rw [show BitVec.ofInt 8 128 = 128#8 from by decide, key, BitVec.toNat_ofInt]
  omega
end Go.Den
namespace Go.Den
open Go
def R8 (zs : List Int) : Prop := ∀ z ∈ zs, 0 ≤ z ∧ z < 256
theorem band127 {c : Int} (_h0 : 0 ≤ c) (_h1 : c < 256) : band 8 c 127 = c % 128 := by
  have key : ∀ x : BitVec 8, ((x &&& 127#8).toNat : Int) = x.toNat % 128 := by decide
  unfold band
  rw [show BitVec.ofInt 8 127 = 127#8 from by decide, key, BitVec.toNat_ofInt]
  omega
theorem bor_add {a b : Nat} (i : Nat) (hb : b < 2 ^ i) (h : 2 ^ i * a + b < 18446744073709551616) : bor 64 (b : Int) ((2 ^ i * a : Nat) : Int) = ((2 ^ i * a + b : Nat) : Int) := by
  unfold bor
  rw [BitVec.toNat_or, BitVec.toNat_ofInt, BitVec.toNat_ofInt]
  have e1 : ((b : Int) % ((2 ^ 64 : Nat) : Int)).toNat = b := by omega
  have e2 : (((2 ^ i * a : Nat) : Int) % ((2 ^ 64 : Nat) : Int)).toNat = 2 ^ i * a := by omega
  rw [e1, e2, Nat.or_comm, ← Nat.two_pow_add_eq_or_of_lt hb a]
theorem bor_shl {u c : Int} {i : Nat} (h0 : 0 ≤ u) (hu : u < 128 ^ i) (hc0 : 0 ≤ c) (hc : c < 128) (hi : i ≤ 9) (h9 : i = 9 → c ≤ 1) : bor 64 u (c * 2 ^ (7 * i) % 18446744073709551616) = u + c * 128 ^ i := by
  obtain ⟨b, rfl⟩ := Int.eq_ofNat_of_zero_le h0
  obtain ⟨a, rfl⟩ := Int.eq_ofNat_of_zero_le hc0
  have hp : ((128 : Int) ^ i) = ((2 ^ (7 * i) : Nat) : Int) := by rw [Nat.pow_mul]; push_cast; rfl
  have hlt : 2 ^ (7 * i) * a + b < 18446744073709551616 := by
    rw [hp] at hu
    have : b < 2 ^ (7 * i) := by omega
    have h3 : 2 ^ (7 * i) * a + b < 2 ^ (7 * i) * (a + 1) := by rw [Nat.mul_succ]; omega
    refine Nat.lt_of_lt_of_le h3 ?_
    by_cases h : i = 9
    · subst h
      have : a + 1 ≤ 2 := by have := h9 rfl; omega
      exact Nat.le_trans (Nat.mul_le_mul_left _ this) (by decide)
    · have h4 : a + 1 ≤ 128 := by omega
      have h5 : 7 * i ≤ 56 := by omega
      exact Nat.le_trans (Nat.mul_le_mul (Nat.pow_le_pow_right (by decide) h5) h4) (by decide)
  have e : ((a : Int) * 2 ^ (7 * i) % 18446744073709551616) = ((2 ^ (7 * i) * a : Nat) : Int) := by
    rw [Int.emod_eq_of_lt]
    · push_cast; rw [Int.mul_comm]
    · exact Int.mul_nonneg (by omega) (Int.pow_nonneg (by decide))
    · have : ((a : Int) * 2 ^ (7 * i)) = ((2 ^ (7 * i) * a : Nat) : Int) := by push_cast; rw [Int.mul_comm]
      rw [this]; omega
  rw [e, bor_add (7 * i) (by rw [hp] at hu; omega) hlt, hp]
  push_cast
  rw [Int.mul_comm (2 ^ (7 * i) : Int), Int.add_comm]
/-- a number off bytes: it, and what is behind -/
def pnum (i : Nat) (u : Int) : List Int → Option (Int × List Int)
  | [] => none
  | c :: r => if (i = 9 ∧ 1 < c) ∨ (0 < i ∧ c = 0) then none else if c < 128 then some (u + c % 128 * 128 ^ i, r) else pnum (i + 1) (u + c % 128 * 128 ^ i) r
end Go.Den
namespace Go.Den
open Go
theorem pnum_suffix : ∀ {zs : List Int} {i : Nat} {u v : Int} {r : List Int}, pnum i u zs = some (v, r) → ∃ pre, pre ≠ [] ∧ zs = pre ++ r
  | [], i, u, v, r, h => by simp [pnum] at h
  | c :: zs, i, u, v, r, h => by
    rw [pnum] at h
    split at h
    · cases h
    · split at h
      · simp only [Option.some.injEq, Prod.mk.injEq] at h
        exact ⟨[c], by simp, by simp [h.2]⟩
      · obtain ⟨pre, _, hp⟩ := pnum_suffix h
        exact ⟨c :: pre, by simp, by simp [hp]⟩
theorem pnum_len {zs : List Int} {i : Nat} {u v : Int} {r : List Int} (h : pnum i u zs = some (v, r)) : r.length < zs.length := by
  obtain ⟨pre, h1, rfl⟩ := pnum_suffix h
  have := List.length_pos_iff.2 h1
  simp; omega
theorem R8.tail {a b : List Int} (h : R8 (a ++ b)) : R8 b := fun z hz => h z (List.mem_append_right _ hz)
theorem R8.head {a b : List Int} (h : R8 (a ++ b)) : R8 a := fun z hz => h z (List.mem_append_left _ hz)
theorem R8.append {a b : List Int} (h : R8 a) (k : R8 b) : R8 (a ++ b) := fun z hz => (List.mem_append.1 hz).elim (h z) (k z)
theorem R8.take {a : List Int} (h : R8 a) (n : Nat) : R8 (a.take n) := fun z hz => h z (List.mem_of_mem_take hz)
theorem R8.drop {a : List Int} (h : R8 a) (n : Nat) : R8 (a.drop n) := fun z hz => h z (List.mem_of_mem_drop hz)
theorem pnum_R8 {zs : List Int} {i : Nat} {u v : Int} {r : List Int} (h : pnum i u zs = some (v, r)) (hz : R8 zs) : R8 r := by
  obtain ⟨pre, _, rfl⟩ := pnum_suffix h
  exact hz.tail
theorem pnum_nonneg : ∀ {zs : List Int} {i : Nat} {u v : Int} {r : List Int}, pnum i u zs = some (v, r) → 0 ≤ u → 0 ≤ v
  | [], i, u, v, r, h, _ => by simp [pnum] at h
  | c :: zs, i, u, v, r, h, hu => by
    have h3 : 0 ≤ u + c % 128 * 128 ^ i := Int.add_nonneg hu (Int.mul_nonneg (by omega) (Int.pow_nonneg (by decide)))
    rw [pnum] at h
    split at h
    · cases h
    · split at h
      · simp only [Option.some.injEq, Prod.mk.injEq] at h
        rw [← h.1]; exact h3
      · exact pnum_nonneg h h3
/-- what was told is read; what is cut within is not -/
theorem pnum_num (k : Nat) : ∀ {u : Int} {i : Nat} {a : Int} (r : List Int), 0 ≤ u → u < 128 ^ (k + 1) → (i + k ≤ 9) → (i + k = 9 → u < 2 * 128 ^ k) → (0 < i → 0 < u) → pnum i a (num u ++ r) = some (a + u * 128 ^ i, r) := by
  induction k with
  | zero =>
    intro u i a r h0 h1 hi h9 hz
    have hu : u < 128 := by simpa using h1
    rw [num_lt h0 hu, List.cons_append, pnum, if_neg, if_pos hu, List.nil_append]
    · rw [Int.emod_eq_of_lt h0 hu]
    · rintro (⟨h, h'⟩ | ⟨h, h'⟩)
      · have := h9 (by omega); simp at this; omega
      · have := hz h; omega
  | succ k ih =>
    intro u i a r h0 h1 hi h9 hz
    by_cases hu : u < 128
    · rw [num_lt h0 hu, List.cons_append, pnum, if_neg, if_pos hu, List.nil_append]
      · rw [Int.emod_eq_of_lt h0 hu]
      · rintro (⟨h, h'⟩ | ⟨h, h'⟩)
        · omega
        · have := hz h; omega
    · rw [num_ge (by omega), List.cons_append, pnum, if_neg, if_neg (by omega)]
      · rw [ih (u := u / 128) (i := i + 1) r (by omega) (by rw [Int.pow_succ] at h1; omega) (by omega) (fun h => by
          have := h9 (by omega)
          rw [Int.pow_succ] at this; omega) (fun _ => by omega)]
        congr 2
        rw [Int.pow_succ, show (u % 128 + 128) % 128 = u % 128 from by omega]
        have : u = u % 128 + 128 * (u / 128) := by omega
        have e : u * 128 ^ i = u % 128 * 128 ^ i + u / 128 * (128 ^ i * 128) := by
          conv => lhs; rw [this]
          rw [Int.add_mul, Int.mul_comm 128 (u / 128), Int.mul_assoc, Int.mul_comm 128 (128 ^ i)]
        omega
      · rintro (⟨h, h'⟩ | ⟨h, h'⟩)
        · omega
        · omega
theorem pnum_of_num {u : Int} (r : List Int) (h0 : 0 ≤ u) (h1 : u < 18446744073709551616) : pnum 0 0 (num u ++ r) = some (u, r) := by
  have := pnum_num 9 (i := 0) (a := 0) r h0 (Int.lt_of_lt_of_le h1 (by decide)) (by omega) (fun _ => Int.lt_of_lt_of_le h1 (by decide)) (by omega)
  simpa using this
theorem num_R8 (k : Nat) : ∀ {u : Int}, 0 ≤ u → u < 128 ^ (k + 1) → R8 (num u) := by
  induction k with
  | zero => intro u h0 h; rw [num_lt h0 (by simpa using h)]; intro z hz; simp at hz h; omega
  | succ k ih =>
    intro u h0 h
    by_cases hu : u < 128
    · rw [num_lt h0 hu]; intro z hz; simp at hz; omega
    · rw [num_ge (by omega)]
      intro z hz
      rcases List.mem_cons.1 hz with rfl | hz
      · omega
      · exact ih (u := u / 128) (by omega) (by rw [Int.pow_succ] at h; omega) z hz
theorem num_r8 {u : Int} (h0 : 0 ≤ u) (h : u < 18446744073709551616) : R8 (num u) := num_R8 9 h0 (Int.lt_of_lt_of_le h (by decide))
/-- cut within it is none -/
theorem pnum_cut : ∀ (k : Nat) {u : Int} {i : Nat} {a : Int} {n : Nat}, 0 ≤ u → u < 128 ^ (k + 1) → n < (num u).length → pnum i a ((num u).take n) = none := by
  intro k
  induction k with
  | zero => intro u i a n h0 h hn; rw [num_lt h0 (by simpa using h)] at hn ⊢; simp at hn; subst hn; rfl
  | succ k ih =>
    intro u i a n h0 h hn
    by_cases hu : u < 128
    · rw [num_lt h0 hu] at hn ⊢; simp at hn; subst hn; rfl
    · rw [num_ge (by omega)] at hn ⊢
      cases n with
      | zero => rfl
      | succ n =>
        rw [List.take_succ_cons, pnum]
        split
        · rfl
        · rw [if_neg (by omega)]
          exact ih (u := u / 128) (by omega) (by rw [Int.pow_succ] at h; omega) (by simpa using hn)
theorem pnum_cut10 {u : Int} {n : Nat} (h0 : 0 ≤ u) (h : u < 18446744073709551616) (hn : n < (num u).length) : pnum 0 0 ((num u).take n) = none := pnum_cut 9 h0 (Int.lt_of_lt_of_le h (by decide)) hn
end Go.Den
namespace Go.Den
open Go
theorem sand_mask (j : Nat) (hj : j < 64) (a : Int) : sand a ((2 ^ j - 1 : Nat) : Int) = a % ((2 ^ j : Nat) : Int) := by
  unfold sand
  have hp : 2 ^ j < 18446744073709551616 := by
    have : (2 : Nat) ^ j < 2 ^ 64 := Nat.pow_lt_pow_right (by decide) hj
    simpa using this
  have h1 : 0 < 2 ^ j := Nat.two_pow_pos j
  have e1 : (BitVec.ofInt 64 ((2 ^ j - 1 : Nat) : Int)).toNat = 2 ^ j - 1 := by
    rw [BitVec.toNat_ofInt]; omega
  have e2 : (BitVec.ofInt 64 a &&& BitVec.ofInt 64 ((2 ^ j - 1 : Nat) : Int)).toNat = (BitVec.ofInt 64 a).toNat % 2 ^ j := by
    rw [BitVec.toNat_and, e1, Nat.and_two_pow_sub_one_eq_mod]
  have hp63 : 2 ^ j ≤ 9223372036854775808 := by
    have : (2 : Nat) ^ j ≤ 2 ^ 63 := Nat.pow_le_pow_right (by decide) (by omega)
    simpa using this
  have h3 := Nat.mod_lt (BitVec.ofInt 64 a).toNat h1
  rw [BitVec.toInt_eq_toNat_of_lt (by rw [e2]; omega), e2, BitVec.toNat_ofInt]
  have hd : (2 : Int) ^ 64 = ((2 ^ j : Nat) : Int) * ((2 ^ (64 - j) : Nat) : Int) := by
    rw [← Int.natCast_mul, ← Nat.pow_add, show j + (64 - j) = 64 by omega]; rfl
  rw [Int.natCast_emod, Int.toNat_of_nonneg (Int.emod_nonneg _ (by decide))]
  show a % (((2 : Nat) ^ 64 : Nat) : Int) % _ = _
  rw [show ((((2 : Nat) ^ 64 : Nat)) : Int) = ((2 ^ j : Nat) : Int) * ((2 ^ (64 - j) : Nat) : Int) from by exact_mod_cast hd]
  rw [Int.emod_emod_of_dvd _ (Int.dvd_mul_right _ _)]
theorem sand1 (a : Int) : sand a 1 = a % 2 := sand_mask 1 (by decide) a
theorem sand3 (a : Int) : sand a 3 = a % 4 := sand_mask 2 (by decide) a
theorem sand7 (a : Int) : sand a 7 = a % 8 := sand_mask 3 (by decide) a
theorem sand15 (a : Int) : sand a 15 = a % 16 := sand_mask 4 (by decide) a
theorem sand31 (a : Int) : sand a 31 = a % 32 := sand_mask 5 (by decide) a
theorem sand63 (a : Int) : sand a 63 = a % 64 := sand_mask 6 (by decide) a
theorem sand127 (a : Int) : sand a 127 = a % 128 := sand_mask 7 (by decide) a
theorem sand255 (a : Int) : sand a 255 = a % 256 := sand_mask 8 (by decide) a
theorem sand65535 (a : Int) : sand a 65535 = a % 65536 := sand_mask 16 (by decide) a
attribute [go_sem] sand1 sand3 sand7 sand15 sand31 sand63 sand127 sand255 sand65535
end Go.Den
namespace Go.Den
open Go Go.Proofs Go.RowKit
def R64 (zs : List Int) : Prop := ∀ z ∈ zs, 0 ≤ z ∧ z < 18446744073709551616
def Ri64 (zs : List Int) : Prop := ∀ z ∈ zs, -9223372036854775808 ≤ z ∧ z < 9223372036854775808
def RowIs (k : IntKind) (w : World) (a : Option Addr) (len cap : Nat) (zs : List Int) : Prop :=
  (a = none ∧ len = 0 ∧ cap = 0 ∧ zs = []) ∨ ∃ x, a = some x ∧ len ≤ cap ∧ cap ≤ maxLen ∧ zs.length = cap ∧ (∀ i, i < zs.length → w.cell? (x.add i) = some (.int k (zs.getD i 0))) ∧ ∀ n ∈ zs, (Lit.int k n).wf = true
theorem row_wf {k : IntKind} {w : World} {a : Option Addr} {len cap : Nat} {zs : List Int} (h : RowIs k w a len cap zs) : ∀ z ∈ zs.take len, (Lit.int k z).wf = true := by
  intro z hz
  rcases h with ⟨_, _, _, rfl⟩ | ⟨x, _, _, _, _, _, h⟩
  · simp at hz
  · exact h z (List.mem_of_mem_take hz)
theorem row_R8 {w : World} {a : Option Addr} {len cap : Nat} {zs : List Int} (h : RowIs .u8 w a len cap zs) : R8 (zs.take len) := fun z hz => wf_u8 (row_wf h z hz)
theorem row_R64 {w : World} {a : Option Addr} {len cap : Nat} {zs : List Int} (h : RowIs .u64 w a len cap zs) : R64 (zs.take len) := fun z hz => wf_u64 (row_wf h z hz)
theorem row_Ri64 {w : World} {a : Option Addr} {len cap : Nat} {zs : List Int} (h : RowIs .i64 w a len cap zs) : Ri64 (zs.take len) := fun z hz => wf_i64 (row_wf h z hz)
theorem row_len {k : IntKind} {w : World} {a : Option Addr} {len cap : Nat} {zs : List Int} (h : RowIs k w a len cap zs) : (zs.take len).length ≤ maxLen := by
  rcases h with ⟨_, _, _, rfl⟩ | ⟨x, _, h1, h2, _⟩
  · simp
  · rw [List.length_take]; omega
end Go.Den

/- Den, part Zf: bytes.Compare, by the model's own entry. -/
namespace Go.Den
open Go Go.RowKit
variable {P : Program}
def bytesP : PV → Option (List UInt8)
  | .nils => some []
  | .sl 1 xs => toBytes xs
  | _ => none
def compareF : List PV → Option PV
  | [a, b] =>
    match bytesP a, bytesP b with
    | some x, some y => some (.int .i64 (Lib.compareBytes x y))
    | _, _ => none
  | _ => none
/-- What the bytes of a slice are. -/
def BytesAt (P : Program) (w : World) (v : Value) (l : List UInt8) : Prop := (Extern.Bytes.bytesOf v).run P w = .ok ⟨l.toArray⟩ w
def RunsCompare (P : Program) (f : FuncId) : Prop := ∀ (a b : Option Addr) (n c m d : Nat) (x y : List UInt8) (w : World), BytesAt P w (.slice a n c) x → BytesAt P w (.slice b m d) y →
  Calls P f #[.slice a n c, .slice b m d] w fun e w' => e = .returned (.int .i64 (Lib.compareBytes x y)) ∧ w' = w
theorem run_compareSl {w : World} {va vb : Value} {x y : List UInt8} (hx : BytesAt P w va x) (hy : BytesAt P w vb y) :
    (Extern.BytealgCompare.compare #[va, vb]).run P w = .ok (.int .i64 (Lib.compareBytes x y)) w := by
  change Sem.run P (do pure (goInt (Extern.BytealgCompare.cmp (← Extern.Bytes.bytesOf va) (← Extern.Bytes.bytesOf vb)))) w = _
  unfold BytesAt at hx hy
  simp only [Sem.run_bind, Sem.run_pure, hx, hy, Result.andThen]
  rw [Lib.cmp_eq]
  rfl
theorem bytesAt_of {w : World} {ok : Nat → Prop} {G : Gh} {v : Value} {p : PV} {l : List UInt8} (h : RepS w ok G v p) (hp : bytesP p = some l) : (∃ a n c, v = .slice a n c) ∧ BytesAt P w v l := by
  unfold bytesP at hp
  split at hp
  · injection hp with hp
    subst hp
    have := h.nils
    subst this
    refine ⟨⟨_, _, _, rfl⟩, ?_⟩
    simp only [BytesAt, Extern.Bytes.bytesOf, Sem.run_pure]
    rfl
  · rename_i xs
    obtain ⟨ns, rfl, rfl⟩ := toBytes_spec hp
    have h := h.rep rfl
    generalize hL : ns.map (fun n => [PV.int .u8 n]) = L at h
    cases h with
    | sl a c _ _ vs hc hz hpl hr hv =>
      refine ⟨⟨_, _, _, rfl⟩, ?_⟩
      subst hL
      cases a with
      | none =>
        have : ns = [] := by
          cases ns with
          | nil => rfl
          | cons n r =>
            obtain ⟨g, o, hg, _⟩ := hr 0 [.int .u8 n] 0 (.int .u8 n) rfl rfl
            cases hg
        subst this
        simp only [BytesAt, Extern.Bytes.bytesOf, Sem.run_pure]
        rfl
      | some x =>
        have hcell : ∀ j z, ns[j]? = some z → w.cell? (x.add j) = some (.int .u8 z) := fun j z hj => by
          have e : (ns.map fun n => [PV.int .u8 n])[j]? = some [.int .u8 z] := by simp [hj]
          obtain ⟨g, o, hg, _, hcell⟩ := hr j _ 0 (.int .u8 z) e rfl
          injection hg with hg
          subst hg
          have hv := hv j _ 0 (.int .u8 z) e rfl
          generalize vs j 0 = u at hv hcell
          cases hv
          rw [add_off]
          simpa using hcell
        have := Lib.run_loadBytesX (P := P) w ns x .empty hcell
        simp only [BytesAt, Extern.Bytes.bytesOf, List.length_map]
        rw [this]
        congr 1
        apply ByteArray.ext
        show (#[] : Array UInt8) ++ (Lib.bytesOf ns).toArray = _
        simp [Lib.bytesOf]
  · cases hp
theorem two_args {ok G} {w : World} {vs : Array Value} {p q : PV} (ha : ArgsOk w ok G vs [p, q]) : ∃ u v, vs = #[u, v] ∧ RepS w ok G u p ∧ RepS w ok G v q := by
  have h1 := ha.1
  have hu : ∃ u v, vs = #[u, v] := by
    rcases vs with ⟨_ | ⟨u, _ | ⟨v, _ | ⟨u', r⟩⟩⟩⟩ <;> simp at h1
    exact ⟨u, v, rfl⟩
  obtain ⟨u, v, rfl⟩ := hu
  exact ⟨u, v, rfl, ha.2 0 u p rfl rfl, ha.2 1 v q rfl rfl⟩
theorem compare_contract {f : FuncId} (h : RunsCompare P f) : ∀ args res, compareF args = some res → Contract P f args [] res [] := by
  intro args res hc w vs bl ok hok hl ha
  have hbl : bl = [] := List.length_eq_zero_iff.1 hl.len
  subst hbl
  unfold compareF at hc
  split at hc
  · rename_i a b
    split at hc
    · rename_i x y hx hy
      injection hc with hc
      subst hc
      obtain ⟨u, v, rfl, hu, hv⟩ := two_args ha
      obtain ⟨⟨a1, n, c, rfl⟩, h1⟩ := bytesAt_of (P := P) hu hx
      obtain ⟨⟨a2, m, d, rfl⟩, h2⟩ := bytesAt_of (P := P) hv hy
      refine (h a1 a2 n c m d x y w h1 h2).mono fun e w' ⟨he, hw⟩ => ⟨_, he, ?_⟩
      subst hw
      exact ⟨Kept.refl _ _, [], [], List.nodup_nil, by simp, .one (.leaf (.pl (.int _ _) rfl)), .nil⟩
    · cases hc
  · cases hc
/-! slices.Grow of a nil slice: a row of the call's own, of none -/
def growF (e : TypeId) (sz bytes : Nat) : List PV → Option PV
  | [.nils, .int .i64 n] => if 0 ≤ n ∧ n * (bytes + 1) ≤ 70368744177664 then some (.nr e sz []) else none
  | _ => none
def RunsGrow (P : Program) (f : FuncId) (e : TypeId) (size bytes : Nat) : Prop := ∀ (n : Nat) (w : World), n * bytes ≤ 140737488355328 → n ≤ 4611686018427387904 →
  Calls P f #[.slice none 0 0, .int .i64 n] w fun e1 w' => ∃ v', e1 = .returned v' ∧ w'.ownsRow w.heap.size e size v' 0 [] ∧ Below w.heap.size w w'
theorem grow_contract {f : FuncId} {e : TypeId} {size bytes : Nat} (h : RunsGrow P f e size bytes) : ∀ args res, growF e size bytes args = some res → Contract P f args [] res [] := by
  intro args res hc w vs bl ok hok hl ha
  have hbl : bl = [] := List.length_eq_zero_iff.1 hl.len
  subst hbl
  unfold growF at hc
  split at hc
  · rename_i n
    split at hc
    · rename_i hn
      injection hc with hc
      subst hc
      obtain ⟨m, rfl⟩ := Int.eq_ofNat_of_zero_le hn.1
      obtain ⟨u, v, rfl, hu, hv⟩ := two_args ha
      have := hu.nils
      subst this
      have hvi : v = .int .i64 m := by
        have := hv.rep rfl
        cases this
        rfl
      subst hvi
      have hmi : ((m * (bytes + 1) : Nat) : Int) ≤ 70368744177664 := by rw [Int.natCast_mul]; exact hn.2
      have hm : m * (bytes + 1) ≤ 70368744177664 := by omega
      rw [Nat.mul_succ] at hm
      refine (h m w (by omega) (by omega)).mono fun e1 w' ⟨v', he, hown, hbel⟩ => ⟨v', he, ?_⟩
      obtain ⟨_, ⟨rfl, _⟩ | ⟨g, cap, cur, rfl, hge, hheap, hnc, hcl, hcur, _⟩⟩ := hown
      · exact ⟨(kept_of hbel), [], [], List.nodup_nil, by simp, .one (.leaf (.nil e size)), .nil⟩
      · have hb1 : ∀ k ∈ [g] ++ ([] : List Nat), w.heap.size ≤ k := fun k hk => by simp at hk; subst hk; exact hge
        refine ⟨(kept_of hbel), [g], [], by simp, hb1, .one (.leaf (RXL.nr (xs := ([] : List (List PV))) (.inr ⟨g, cap, cur, (0, 0), rfl, hheap, ?_, by rw [hcur]; exact Nat.le_refl _, noFz_zero _, ?_, ?_, fun i y j p hy hpp => ?_⟩))), .nil⟩
        · exact hnc
        · intro x hx; cases hx
        · intro x hx; cases hx
        · simp at hy
    · cases hc
  · cases hc
/-! a table of numbers, looked up -/
def otherF : List PV → Option PV
  | [.int .i64 o] => if o = 1 then some (.int .i64 2) else if o = 2 then some (.int .i64 1) else if o = 3 then some (.int .i64 6) else if o = 4 then some (.int .i64 5) else if o = 5 then some (.int .i64 4) else if o = 6 then some (.int .i64 3) else none
  | _ => none
def RunsTab (P : Program) (f : FuncId) (o r : Int) : Prop := ∀ w : World, Calls P f #[.int .i64 o] w fun e w' => e = .returned (.int .i64 r) ∧ Below w.heap.size w w'
theorem other_contract {f : FuncId} (h1 : RunsTab P f 1 2) (h2 : RunsTab P f 2 1) (h3 : RunsTab P f 3 6) (h4 : RunsTab P f 4 5) (h5 : RunsTab P f 5 4) (h6 : RunsTab P f 6 3) : ∀ args res, otherF args = some res → Contract P f args [] res [] := by
  have key : ∀ {o r : Int}, RunsTab P f o r → Contract P f [.int .i64 o] [] (.int .i64 r) [] := fun {o r} h w vs bl ok hok hl ha => by
    have hbl : bl = [] := List.length_eq_zero_iff.1 hl.len
    subst hbl
    have hvs : vs = #[.int .i64 o] := by
      have hsz := ha.1
      rcases vs with ⟨_ | ⟨u, _ | ⟨u', t⟩⟩⟩ <;> simp at hsz
      have := (ha.2 0 u (.int .i64 o) rfl rfl).rep rfl
      cases this
      rfl
    subst hvs
    exact (h w).mono fun e w' ⟨he, hb⟩ => ⟨_, he, kept_of hb, [], [], List.nodup_nil, by simp, .one (.leaf (.pl (.int _ _) rfl)), .nil⟩
  intro args res hc
  unfold otherF at hc
  split at hc
  · repeat' split at hc
    all_goals first
      | (injection hc with hc; subst hc; rename_i e; subst e; first | exact key h1 | exact key h2 | exact key h3 | exact key h4 | exact key h5 | exact key h6)
      | cases hc
  · cases hc
end Go.Den

/- Den, part Zg: rows of numbers, in the words of the walk; a loop's head. -/
namespace Go.Den
open Go

/-! ### a loop's head -/
attribute [go_sem] norm normL normLeafs normLent twice nodupB leafId boxId isLent firstRid List.flatMap_cons List.flatMap_nil
theorem bne_int (a b : Int) : (a != b) = !decide (a = b) := rfl
theorem beq_int (a b : Int) : (a == b) = decide (a = b) := rfl
theorem beq_nat (a b : Nat) : (a == b) = decide (a = b) := rfl

theorem cast0 : ((0 : Nat) : Int) = 0 := rfl
theorem cast1 : ((1 : Nat) : Int) = 1 := rfl
theorem cast2 : ((2 : Nat) : Int) = 2 := rfl
theorem cast3 : ((3 : Nat) : Int) = 3 := rfl
theorem cast4 : ((4 : Nat) : Int) = 4 := rfl
theorem cast5 : ((5 : Nat) : Int) = 5 := rfl
theorem cast6 : ((6 : Nat) : Int) = 6 := rfl
theorem cast7 : ((7 : Nat) : Int) = 7 := rfl
theorem cast8 : ((8 : Nat) : Int) = 8 := rfl
theorem cast9 : ((9 : Nat) : Int) = 9 := rfl
theorem cast10 : ((10 : Nat) : Int) = 10 := rfl
theorem cast11 : ((11 : Nat) : Int) = 11 := rfl
theorem cast12 : ((12 : Nat) : Int) = 12 := rfl
theorem cast13 : ((13 : Nat) : Int) = 13 := rfl
theorem cast14 : ((14 : Nat) : Int) = 14 := rfl
theorem cast15 : ((15 : Nat) : Int) = 15 := rfl
theorem cast16 : ((16 : Nat) : Int) = 16 := rfl
theorem cast17 : ((17 : Nat) : Int) = 17 := rfl
theorem cast18 : ((18 : Nat) : Int) = 18 := rfl
theorem cast19 : ((19 : Nat) : Int) = 19 := rfl
theorem cast20 : ((20 : Nat) : Int) = 20 := rfl
theorem cast21 : ((21 : Nat) : Int) = 21 := rfl
theorem cast22 : ((22 : Nat) : Int) = 22 := rfl
theorem cast23 : ((23 : Nat) : Int) = 23 := rfl
theorem cast24 : ((24 : Nat) : Int) = 24 := rfl
theorem cast25 : ((25 : Nat) : Int) = 25 := rfl
theorem cast26 : ((26 : Nat) : Int) = 26 := rfl
theorem cast27 : ((27 : Nat) : Int) = 27 := rfl
theorem cast28 : ((28 : Nat) : Int) = 28 := rfl
theorem cast29 : ((29 : Nat) : Int) = 29 := rfl
theorem cast30 : ((30 : Nat) : Int) = 30 := rfl
theorem cast31 : ((31 : Nat) : Int) = 31 := rfl
theorem cast32 : ((32 : Nat) : Int) = 32 := rfl
theorem cast33 : ((33 : Nat) : Int) = 33 := rfl
theorem cast34 : ((34 : Nat) : Int) = 34 := rfl
theorem cast35 : ((35 : Nat) : Int) = 35 := rfl
theorem cast36 : ((36 : Nat) : Int) = 36 := rfl
theorem cast37 : ((37 : Nat) : Int) = 37 := rfl
theorem cast38 : ((38 : Nat) : Int) = 38 := rfl
theorem cast39 : ((39 : Nat) : Int) = 39 := rfl
theorem cast40 : ((40 : Nat) : Int) = 40 := rfl
theorem cast41 : ((41 : Nat) : Int) = 41 := rfl
theorem cast42 : ((42 : Nat) : Int) = 42 := rfl
theorem cast43 : ((43 : Nat) : Int) = 43 := rfl
theorem cast44 : ((44 : Nat) : Int) = 44 := rfl
theorem cast45 : ((45 : Nat) : Int) = 45 := rfl
theorem cast46 : ((46 : Nat) : Int) = 46 := rfl
theorem cast47 : ((47 : Nat) : Int) = 47 := rfl
theorem cast48 : ((48 : Nat) : Int) = 48 := rfl
theorem cast49 : ((49 : Nat) : Int) = 49 := rfl
theorem cast50 : ((50 : Nat) : Int) = 50 := rfl
theorem cast51 : ((51 : Nat) : Int) = 51 := rfl
theorem cast52 : ((52 : Nat) : Int) = 52 := rfl
theorem cast53 : ((53 : Nat) : Int) = 53 := rfl
theorem cast54 : ((54 : Nat) : Int) = 54 := rfl
theorem cast55 : ((55 : Nat) : Int) = 55 := rfl
theorem cast56 : ((56 : Nat) : Int) = 56 := rfl
theorem cast57 : ((57 : Nat) : Int) = 57 := rfl
theorem cast58 : ((58 : Nat) : Int) = 58 := rfl
theorem cast59 : ((59 : Nat) : Int) = 59 := rfl
theorem cast60 : ((60 : Nat) : Int) = 60 := rfl
theorem cast61 : ((61 : Nat) : Int) = 61 := rfl
theorem cast62 : ((62 : Nat) : Int) = 62 := rfl
theorem cast63 : ((63 : Nat) : Int) = 63 := rfl
theorem cast64 : ((64 : Nat) : Int) = 64 := rfl
theorem cast65 : ((65 : Nat) : Int) = 65 := rfl
theorem cast66 : ((66 : Nat) : Int) = 66 := rfl
theorem cast67 : ((67 : Nat) : Int) = 67 := rfl
theorem cast68 : ((68 : Nat) : Int) = 68 := rfl
theorem cast69 : ((69 : Nat) : Int) = 69 := rfl
theorem castLim : ((70368744177664 : Nat) : Int) = 70368744177664 := rfl
attribute [go_sem] castLim cast0 cast1 cast2 cast3 cast4 cast5 cast6 cast7 cast8 cast9 cast10 cast11 cast12 cast13 cast14 cast15 cast16 cast17 cast18 cast19 cast20 cast21 cast22 cast23 cast24 cast25 cast26 cast27 cast28 cast29 cast30 cast31 cast32 cast33 cast34 cast35 cast36 cast37 cast38 cast39 cast40 cast41 cast42 cast43 cast44 cast45 cast46 cast47 cast48 cast49 cast50 cast51 cast52 cast53 cast54 cast55 cast56 cast57 cast58 cast59 cast60 cast61 cast62 cast63 cast64 cast65 cast66 cast67 cast68 cast69
/-! ### rows of numbers -/
def ints (k : IntKind) (zs : List Int) : List (List PV) := zs.map fun z => [PV.int k z]
variable {k : IntKind}
theorem ints_length (zs : List Int) : (ints k zs).length = zs.length := by simp [ints]
theorem ints_get (zs : List Int) (i : Nat) : (ints k zs)[i]? = zs[i]?.map fun z => [PV.int k z] := by simp [ints]
theorem ints_set (zs : List Int) (i : Nat) (z : Int) : (ints k zs).set i [.int k z] = ints k (zs.set i z) := by simp [ints, List.map_set]
theorem ints_append (xs ys : List Int) : ints k xs ++ ints k ys = ints k (xs ++ ys) := by simp [ints]
theorem ints_snoc (zs : List Int) (z : Int) : ints k zs ++ [[.int k z]] = ints k (zs ++ [z]) := by simp [ints]
theorem ints_one (z : Int) : [[PV.int k z]] = ints k [z] := rfl
theorem ints_cons (z : Int) (zs : List Int) : [PV.int k z] :: ints k zs = ints k (z :: zs) := rfl
theorem ints_take (zs : List Int) (n : Nat) : (ints k zs).take n = ints k (zs.take n) := by simp [ints, List.map_take]
theorem ints_drop (zs : List Int) (n : Nat) : (ints k zs).drop n = ints k (zs.drop n) := by simp [ints, List.map_drop]
theorem ints_rep (n : Nat) (z : Int) : List.replicate n [PV.int k z] = ints k (List.replicate n z) := by simp [ints]
theorem ints_nil : ints k [] = [] := rfl
theorem ints_empty (zs : List Int) : (ints k zs).isEmpty = zs.isEmpty := by cases zs <;> rfl
theorem ints_shares (zs : List Int) : ((ints k zs).any fun x => x.any sharesP) = false := by
  rw [List.any_eq_false]
  intro x hx
  obtain ⟨z, _, rfl⟩ := List.mem_map.1 hx
  simp [sharesP]
theorem sealLL_ints (zs : List Int) : sealLL (ints k zs) = .ret (ints k zs, []) := by
  induction zs with
  | nil => rfl
  | cons z r ih =>
    show (sealL [PV.int k z]).bind _ = _
    show (sealLL (ints k r)).bind (fun y => RM.ret ([PV.int k z] :: y.1, [] ++ y.2)) = _
    rw [ih]
    rfl
def toU8 (z : Int) : UInt8 := UInt8.ofNat z.toNat
theorem toBytes_ints (zs : List Int) : toBytes (ints .u8 zs) = some (zs.map toU8) := by
  induction zs with
  | nil => rfl
  | cons z r ih =>
    show (match toBytes (ints .u8 r) with | some l => some (UInt8.ofNat z.toNat :: l) | none => none) = _
    rw [ih]
    rfl
theorem ofBytes_ints (l : List UInt8) : ofBytes l = ints .u8 (l.map fun b => (b.toNat : Int)) := by simp [ofBytes, ints]
theorem cloneF_sl (e b : Nat) (zs : List Int) (h : zs.length * (b + 1) ≤ 70368744177664) : cloneF e 1 b [.sl 1 (ints k zs)] = some (.nr e 1 (ints k zs)) := by
  simp only [cloneF, ints_length, beq_self_eq_true, Bool.true_and, ble_eq, h, decide_true, if_true]
theorem cloneF_nils (e sz b : Nat) : cloneF e sz b [.nils] = some (.nr e sz []) := rfl
def fillFrom (z : List PV) (parts : List (Nat × List PV)) (i : Nat) : Nat → List (List PV)
  | 0 => []
  | n + 1 => (get parts i).getD z :: fillFrom z parts (i + 1) n
theorem fillFrom_eq (z : List PV) (parts : List (Nat × List PV)) : ∀ (n i : Nat), fillFrom z parts i n = (List.range' i n).map fun j => (get parts j).getD z
  | 0, _ => rfl
  | n + 1, i => by rw [fillFrom, fillFrom_eq z parts n, List.range'_succ, List.map_cons]
theorem fillE_eq (z : List PV) (n : Nat) (parts : List (Nat × List PV)) : fillE z n parts = fillFrom z parts 0 n := by
  rw [fillFrom_eq, fillE, List.range_eq_range']
attribute [go_sem] nodupK fillE_eq fillFrom Option.getD_some Option.getD_none ints_length ints_get ints_set ints_append ints_one ints_cons ints_take ints_drop ints_rep ints_empty ints_shares sealLL_ints toBytes_ints ofBytes_ints beq_nat Int.toNat_natCast
end Go.Den

/- Den, part Zh: what the evaluator's rules say, form by form (so that simp goes on only where the form is known). -/
namespace Go.Den
open Go
def normOne (n : NI) : Option (PV × List (Nat × Ent) × List Nat × List Nat) → Option NR
  | some (x, w, ds, fs) => some ([(n.t, x)], w, ds, fs)
  | none => none
def normV (S : St) (dup : Nat → Bool) (n : NI) (v : PV) : Option NR :=
    match v with
    | .agg cs => match normLeafs S dup n.t n.rows 0 cs with | some (vs, w, ds, fs) => some ([(n.t, .agg vs)], w, ds, fs) | none => none
    | .fn _ cs => if cs.all plainLeaf then some ([(n.t, v)], [], [], []) else none
    | .pb d off =>
      if isLent d then some ([(n.t, v)], [], [], []) else
      match S.at d with
      | some ⟨true, .box cs⟩ => match normLeafs S dup n.t n.rows 0 cs with | some (vs, w, ds, fs) => some ([(n.t, .pb (boxId n.t) off)], (boxId n.t, ⟨true, .box vs⟩) :: w, d :: ds, fs) | none => none
      | _ => none
    | v => normOne n (normLeaf S dup n.t 0 (get n.rows 0) v)
theorem normI_eq (S : St) (dup : Nat → Bool) (n : NI) : normI S dup n = match S.slot n.t with | none => none | some v => normV S dup n v := by
  unfold normI
  rfl
def heldV (S : St) (v : PV) : List Nat :=
  match v with
  | .h d => [d]
  | .agg cs => heldP S cs
  | .pb d _ => (match S.at d with | some ⟨_, .box cs⟩ => heldP S cs | _ => [])
  | _ => []
theorem heldI_eq (S : St) (n : NI) : heldI S n = match S.slot n.t with | some v => heldV S v | none => [] := by
  unfold heldI heldV
  rcases S.slot n.t with _ | v
  · rfl
  · cases v <;> rfl
theorem plainLeaf_int (k : IntKind) (n : Int) : plainLeaf (PV.int k n) = true := rfl
theorem okLeaf_int (k : IntKind) (n : Int) : okLeaf (PV.int k n) = true := rfl
theorem leavesO_int (k : IntKind) (n : Int) : leavesO (PV.int k n) = some [(PV.int k n)] := rfl
theorem sharesP_int (k : IntKind) (n : Int) : sharesP (PV.int k n) = false := rfl
theorem sharesR_int (k : IntKind) (n : Int) : sharesR (PV.int k n) = false := rfl
theorem sharesLeaf_int (k : IntKind) (n : Int) : sharesLeaf (PV.int k n) = false := rfl
theorem shares_int (k : IntKind) (n : Int) : shares (PV.int k n) = false := rfl
theorem isPtr_int (k : IntKind) (n : Int) : isPtr (PV.int k n) = false := rfl
theorem impLeaf_int (k : IntKind) (n : Int) (fid j : Nat) : impLeaf fid j (PV.int k n) = ((PV.int k n), [], j) := rfl
theorem impV_int (k : IntKind) (n : Int) (fid j : Nat) : impV fid j (PV.int k n) = ((PV.int k n), [], j) := rfl
theorem impR_int (k : IntKind) (n : Int) (fid j : Nat) : impR fid j (PV.int k n) = ((PV.int k n), [], j) := rfl
theorem heldP_int (k : IntKind) (n : Int) (S : St) (r : List PV) : heldP S ((PV.int k n) :: r) = heldP S r := rfl
theorem plainLeaf_bool (b : Bool) : plainLeaf (PV.bool b) = true := rfl
theorem okLeaf_bool (b : Bool) : okLeaf (PV.bool b) = true := rfl
theorem leavesO_bool (b : Bool) : leavesO (PV.bool b) = some [(PV.bool b)] := rfl
theorem sharesP_bool (b : Bool) : sharesP (PV.bool b) = false := rfl
theorem sharesR_bool (b : Bool) : sharesR (PV.bool b) = false := rfl
theorem sharesLeaf_bool (b : Bool) : sharesLeaf (PV.bool b) = false := rfl
theorem shares_bool (b : Bool) : shares (PV.bool b) = false := rfl
theorem isPtr_bool (b : Bool) : isPtr (PV.bool b) = false := rfl
theorem impLeaf_bool (b : Bool) (fid j : Nat) : impLeaf fid j (PV.bool b) = ((PV.bool b), [], j) := rfl
theorem impV_bool (b : Bool) (fid j : Nat) : impV fid j (PV.bool b) = ((PV.bool b), [], j) := rfl
theorem impR_bool (b : Bool) (fid j : Nat) : impR fid j (PV.bool b) = ((PV.bool b), [], j) := rfl
theorem heldP_bool (b : Bool) (S : St) (r : List PV) : heldP S ((PV.bool b) :: r) = heldP S r := rfl
theorem plainLeaf_str (s : List UInt8) : plainLeaf (PV.str s) = true := rfl
theorem okLeaf_str (s : List UInt8) : okLeaf (PV.str s) = true := rfl
theorem leavesO_str (s : List UInt8) : leavesO (PV.str s) = some [(PV.str s)] := rfl
theorem sharesP_str (s : List UInt8) : sharesP (PV.str s) = false := rfl
theorem sharesR_str (s : List UInt8) : sharesR (PV.str s) = false := rfl
theorem sharesLeaf_str (s : List UInt8) : sharesLeaf (PV.str s) = false := rfl
theorem shares_str (s : List UInt8) : shares (PV.str s) = false := rfl
theorem isPtr_str (s : List UInt8) : isPtr (PV.str s) = false := rfl
theorem impLeaf_str (s : List UInt8) (fid j : Nat) : impLeaf fid j (PV.str s) = ((PV.str s), [], j) := rfl
theorem impV_str (s : List UInt8) (fid j : Nat) : impV fid j (PV.str s) = ((PV.str s), [], j) := rfl
theorem impR_str (s : List UInt8) (fid j : Nat) : impR fid j (PV.str s) = ((PV.str s), [], j) := rfl
theorem heldP_str (s : List UInt8) (S : St) (r : List PV) : heldP S ((PV.str s) :: r) = heldP S r := rfl
theorem plainLeaf_nils : plainLeaf (PV.nils) = true := rfl
theorem okLeaf_nils : okLeaf (PV.nils) = true := rfl
theorem leavesO_nils : leavesO (PV.nils) = some [(PV.nils)] := rfl
theorem sharesP_nils : sharesP (PV.nils) = false := rfl
theorem sharesR_nils : sharesR (PV.nils) = false := rfl
theorem sharesLeaf_nils : sharesLeaf (PV.nils) = false := rfl
theorem shares_nils : shares (PV.nils) = false := rfl
theorem isPtr_nils : isPtr (PV.nils) = false := rfl
theorem impLeaf_nils (fid j : Nat) : impLeaf fid j (PV.nils) = ((PV.nils), [], j) := rfl
theorem impV_nils (fid j : Nat) : impV fid j (PV.nils) = ((PV.nils), [], j) := rfl
theorem impR_nils (fid j : Nat) : impR fid j (PV.nils) = ((PV.nils), [], j) := rfl
theorem heldP_nils (S : St) (r : List PV) : heldP S ((PV.nils) :: r) = heldP S r := rfl
theorem plainLeaf_sl (sz : Nat) (xs : List (List PV)) : plainLeaf (PV.sl sz xs) = true := rfl
theorem okLeaf_sl (sz : Nat) (xs : List (List PV)) : okLeaf (PV.sl sz xs) = true := rfl
theorem leavesO_sl (sz : Nat) (xs : List (List PV)) : leavesO (PV.sl sz xs) = some [(PV.sl sz xs)] := rfl
theorem sharesP_sl (sz : Nat) (xs : List (List PV)) : sharesP (PV.sl sz xs) = true := rfl
theorem sharesR_sl (sz : Nat) (xs : List (List PV)) : sharesR (PV.sl sz xs) = true := rfl
theorem sharesLeaf_sl (sz : Nat) (xs : List (List PV)) : sharesLeaf (PV.sl sz xs) = true := rfl
theorem shares_sl (sz : Nat) (xs : List (List PV)) : shares (PV.sl sz xs) = true := rfl
theorem isPtr_sl (sz : Nat) (xs : List (List PV)) : isPtr (PV.sl sz xs) = false := rfl
theorem impLeaf_sl (sz : Nat) (xs : List (List PV)) (fid j : Nat) : impLeaf fid j (PV.sl sz xs) = ((PV.sl sz xs), [], j) := rfl
theorem impV_sl (sz : Nat) (xs : List (List PV)) (fid j : Nat) : impV fid j (PV.sl sz xs) = ((PV.sl sz xs), [], j) := rfl
theorem impR_sl (sz : Nat) (xs : List (List PV)) (fid j : Nat) : impR fid j (PV.sl sz xs) = ((PV.sl sz xs), [], j) := rfl
theorem heldP_sl (sz : Nat) (xs : List (List PV)) (S : St) (r : List PV) : heldP S ((PV.sl sz xs) :: r) = heldP S r := rfl
theorem plainLeaf_nilp : plainLeaf (PV.nilp) = true := rfl
theorem okLeaf_nilp : okLeaf (PV.nilp) = true := rfl
theorem leavesO_nilp : leavesO (PV.nilp) = some [(PV.nilp)] := rfl
theorem sharesP_nilp : sharesP (PV.nilp) = false := rfl
theorem sharesR_nilp : sharesR (PV.nilp) = false := rfl
theorem sharesLeaf_nilp : sharesLeaf (PV.nilp) = false := rfl
theorem shares_nilp : shares (PV.nilp) = false := rfl
theorem isPtr_nilp : isPtr (PV.nilp) = false := rfl
theorem impLeaf_nilp (fid j : Nat) : impLeaf fid j (PV.nilp) = ((PV.nilp), [], j) := rfl
theorem impV_nilp (fid j : Nat) : impV fid j (PV.nilp) = ((PV.nilp), [], j) := rfl
theorem impR_nilp (fid j : Nat) : impR fid j (PV.nilp) = ((PV.nilp), [], j) := rfl
theorem heldP_nilp (S : St) (r : List PV) : heldP S ((PV.nilp) :: r) = heldP S r := rfl
theorem plainLeaf_pc (cs : List PV) : plainLeaf (PV.pc cs) = true := rfl
theorem okLeaf_pc (cs : List PV) : okLeaf (PV.pc cs) = true := rfl
theorem leavesO_pc (cs : List PV) : leavesO (PV.pc cs) = some [(PV.pc cs)] := rfl
theorem sharesP_pc (cs : List PV) : sharesP (PV.pc cs) = true := rfl
theorem sharesR_pc (cs : List PV) : sharesR (PV.pc cs) = true := rfl
theorem sharesLeaf_pc (cs : List PV) : sharesLeaf (PV.pc cs) = true := rfl
theorem shares_pc (cs : List PV) : shares (PV.pc cs) = true := rfl
theorem isPtr_pc (cs : List PV) : isPtr (PV.pc cs) = true := rfl
theorem impLeaf_pc (cs : List PV) (fid j : Nat) : impLeaf fid j (PV.pc cs) = ((PV.pc cs), [], j) := rfl
theorem impV_pc (cs : List PV) (fid j : Nat) : impV fid j (PV.pc cs) = ((PV.pc cs), [], j) := rfl
theorem impR_pc (cs : List PV) (fid j : Nat) : impR fid j (PV.pc cs) = ((PV.pc cs), [], j) := rfl
theorem heldP_pc (cs : List PV) (S : St) (r : List PV) : heldP S ((PV.pc cs) :: r) = heldP S r := rfl
theorem plainLeaf_nilf : plainLeaf (PV.nilf) = true := rfl
theorem okLeaf_nilf : okLeaf (PV.nilf) = true := rfl
theorem leavesO_nilf : leavesO (PV.nilf) = some [(PV.nilf)] := rfl
theorem sharesP_nilf : sharesP (PV.nilf) = false := rfl
theorem sharesR_nilf : sharesR (PV.nilf) = false := rfl
theorem sharesLeaf_nilf : sharesLeaf (PV.nilf) = false := rfl
theorem shares_nilf : shares (PV.nilf) = false := rfl
theorem isPtr_nilf : isPtr (PV.nilf) = false := rfl
theorem impLeaf_nilf (fid j : Nat) : impLeaf fid j (PV.nilf) = ((PV.nilf), [], j) := rfl
theorem impV_nilf (fid j : Nat) : impV fid j (PV.nilf) = ((PV.nilf), [], j) := rfl
theorem impR_nilf (fid j : Nat) : impR fid j (PV.nilf) = ((PV.nilf), [], j) := rfl
theorem heldP_nilf (S : St) (r : List PV) : heldP S ((PV.nilf) :: r) = heldP S r := rfl
theorem plainLeaf_h (d : Nat) : plainLeaf (PV.h d) = false := rfl
theorem okLeaf_h (d : Nat) : okLeaf (PV.h d) = true := rfl
theorem leavesO_h (d : Nat) : leavesO (PV.h d) = some [(PV.h d)] := rfl
theorem sharesP_h (d : Nat) : sharesP (PV.h d) = false := rfl
theorem sharesR_h (d : Nat) : sharesR (PV.h d) = false := rfl
theorem sharesLeaf_h (d : Nat) : sharesLeaf (PV.h d) = false := rfl
theorem shares_h (d : Nat) : shares (PV.h d) = false := rfl
theorem isPtr_h (d : Nat) : isPtr (PV.h d) = false := rfl
theorem impLeaf_h (d : Nat) (fid j : Nat) : impLeaf fid j (PV.h d) = ((PV.h d), [], j) := rfl
theorem impV_h (d : Nat) (fid j : Nat) : impV fid j (PV.h d) = ((PV.h d), [], j) := rfl
theorem impR_h (d : Nat) (fid j : Nat) : impR fid j (PV.h d) = ((PV.h d), [], j) := rfl
theorem plainLeaf_pb (d : Nat) (off : Nat) : plainLeaf (PV.pb d off) = false := rfl
theorem okLeaf_pb (d : Nat) (off : Nat) : okLeaf (PV.pb d off) = true := rfl
theorem leavesO_pb (d : Nat) (off : Nat) : leavesO (PV.pb d off) = some [(PV.pb d off)] := rfl
theorem sharesP_pb (d : Nat) (off : Nat) : sharesP (PV.pb d off) = false := rfl
theorem sharesR_pb (d : Nat) (off : Nat) : sharesR (PV.pb d off) = false := rfl
theorem sharesLeaf_pb (d : Nat) (off : Nat) : sharesLeaf (PV.pb d off) = false := rfl
theorem shares_pb (d : Nat) (off : Nat) : shares (PV.pb d off) = false := rfl
theorem isPtr_pb (d : Nat) (off : Nat) : isPtr (PV.pb d off) = true := rfl
theorem impLeaf_pb (d : Nat) (off : Nat) (fid j : Nat) : impLeaf fid j (PV.pb d off) = ((PV.pb d off), [], j) := rfl
theorem impV_pb (d : Nat) (off : Nat) (fid j : Nat) : impV fid j (PV.pb d off) = ((PV.pb d off), [], j) := rfl
theorem impR_pb (d : Nat) (off : Nat) (fid j : Nat) : impR fid j (PV.pb d off) = ((PV.pb d off), [], j) := rfl
theorem heldP_pb (d : Nat) (off : Nat) (S : St) (r : List PV) : heldP S ((PV.pb d off) :: r) = heldP S r := rfl
theorem plainLeaf_pe (d : Nat) (i : Nat) (off : Nat) : plainLeaf (PV.pe d i off) = false := rfl
theorem okLeaf_pe (d : Nat) (i : Nat) (off : Nat) : okLeaf (PV.pe d i off) = true := rfl
theorem leavesO_pe (d : Nat) (i : Nat) (off : Nat) : leavesO (PV.pe d i off) = some [(PV.pe d i off)] := rfl
theorem sharesP_pe (d : Nat) (i : Nat) (off : Nat) : sharesP (PV.pe d i off) = false := rfl
theorem sharesR_pe (d : Nat) (i : Nat) (off : Nat) : sharesR (PV.pe d i off) = false := rfl
theorem sharesLeaf_pe (d : Nat) (i : Nat) (off : Nat) : sharesLeaf (PV.pe d i off) = false := rfl
theorem shares_pe (d : Nat) (i : Nat) (off : Nat) : shares (PV.pe d i off) = false := rfl
theorem isPtr_pe (d : Nat) (i : Nat) (off : Nat) : isPtr (PV.pe d i off) = true := rfl
theorem impLeaf_pe (d : Nat) (i : Nat) (off : Nat) (fid j : Nat) : impLeaf fid j (PV.pe d i off) = ((PV.pe d i off), [], j) := rfl
theorem impV_pe (d : Nat) (i : Nat) (off : Nat) (fid j : Nat) : impV fid j (PV.pe d i off) = ((PV.pe d i off), [], j) := rfl
theorem impR_pe (d : Nat) (i : Nat) (off : Nat) (fid j : Nat) : impR fid j (PV.pe d i off) = ((PV.pe d i off), [], j) := rfl
theorem heldP_pe (d : Nat) (i : Nat) (off : Nat) (S : St) (r : List PV) : heldP S ((PV.pe d i off) :: r) = heldP S r := rfl
theorem plainLeaf_undef : plainLeaf (PV.undef) = false := rfl
theorem okLeaf_undef : okLeaf (PV.undef) = false := rfl
theorem sharesP_undef : sharesP (PV.undef) = false := rfl
theorem sharesR_undef : sharesR (PV.undef) = false := rfl
theorem sharesLeaf_undef : sharesLeaf (PV.undef) = false := rfl
theorem shares_undef : shares (PV.undef) = false := rfl
theorem isPtr_undef : isPtr (PV.undef) = false := rfl
theorem impLeaf_undef (fid j : Nat) : impLeaf fid j (PV.undef) = ((PV.undef), [], j) := rfl
theorem impV_undef (fid j : Nat) : impV fid j (PV.undef) = ((PV.undef), [], j) := rfl
theorem impR_undef (fid j : Nat) : impR fid j (PV.undef) = ((PV.undef), [], j) := rfl
theorem heldP_undef (S : St) (r : List PV) : heldP S ((PV.undef) :: r) = heldP S r := rfl
theorem plainLeaf_fn (f : FuncId) (cs : List PV) : plainLeaf (PV.fn f cs) = false := rfl
theorem okLeaf_fn (f : FuncId) (cs : List PV) : okLeaf (PV.fn f cs) = false := rfl
theorem sharesP_fn (f : FuncId) (cs : List PV) : sharesP (PV.fn f cs) = true := rfl
theorem sharesR_fn (f : FuncId) (cs : List PV) : sharesR (PV.fn f cs) = true := rfl
theorem sharesLeaf_fn (f : FuncId) (cs : List PV) : sharesLeaf (PV.fn f cs) = true := rfl
theorem shares_fn (f : FuncId) (cs : List PV) : shares (PV.fn f cs) = true := rfl
theorem isPtr_fn (f : FuncId) (cs : List PV) : isPtr (PV.fn f cs) = false := rfl
theorem impLeaf_fn (f : FuncId) (cs : List PV) (fid j : Nat) : impLeaf fid j (PV.fn f cs) = ((PV.fn f cs), [], j) := rfl
theorem impV_fn (f : FuncId) (cs : List PV) (fid j : Nat) : impV fid j (PV.fn f cs) = ((PV.fn f cs), [], j) := rfl
theorem impR_fn (f : FuncId) (cs : List PV) (fid j : Nat) : impR fid j (PV.fn f cs) = ((PV.fn f cs), [], j) := rfl
theorem heldP_fn (f : FuncId) (cs : List PV) (S : St) (r : List PV) : heldP S ((PV.fn f cs) :: r) = heldP S r := rfl
theorem plainLeaf_agg (cs : List PV) : plainLeaf (PV.agg cs) = false := rfl
theorem okLeaf_agg (cs : List PV) : okLeaf (PV.agg cs) = false := rfl
theorem sharesP_agg (cs : List PV) : sharesP (PV.agg cs) = false := rfl
theorem sharesR_agg (cs : List PV) : sharesR (PV.agg cs) = false := rfl
theorem sharesLeaf_agg (cs : List PV) : sharesLeaf (PV.agg cs) = false := rfl
theorem isPtr_agg (cs : List PV) : isPtr (PV.agg cs) = false := rfl
theorem impLeaf_agg (cs : List PV) (fid j : Nat) : impLeaf fid j (PV.agg cs) = ((PV.agg cs), [], j) := rfl
theorem heldP_agg (cs : List PV) (S : St) (r : List PV) : heldP S ((PV.agg cs) :: r) = heldP S r := rfl
theorem plainLeaf_tup (vs : List PV) : plainLeaf (PV.tup vs) = false := rfl
theorem okLeaf_tup (vs : List PV) : okLeaf (PV.tup vs) = false := rfl
theorem sharesP_tup (vs : List PV) : sharesP (PV.tup vs) = false := rfl
theorem sharesR_tup (vs : List PV) : sharesR (PV.tup vs) = false := rfl
theorem sharesLeaf_tup (vs : List PV) : sharesLeaf (PV.tup vs) = false := rfl
theorem isPtr_tup (vs : List PV) : isPtr (PV.tup vs) = false := rfl
theorem impLeaf_tup (vs : List PV) (fid j : Nat) : impLeaf fid j (PV.tup vs) = ((PV.tup vs), [], j) := rfl
theorem impV_tup (vs : List PV) (fid j : Nat) : impV fid j (PV.tup vs) = ((PV.tup vs), [], j) := rfl
theorem heldP_tup (vs : List PV) (S : St) (r : List PV) : heldP S ((PV.tup vs) :: r) = heldP S r := rfl
theorem plainLeaf_nr (e : TypeId) (sz : Nat) (xs : List (List PV)) : plainLeaf (PV.nr e sz xs) = false := rfl
theorem okLeaf_nr (e : TypeId) (sz : Nat) (xs : List (List PV)) : okLeaf (PV.nr e sz xs) = false := rfl
theorem sharesP_nr (e : TypeId) (sz : Nat) (xs : List (List PV)) : sharesP (PV.nr e sz xs) = true := rfl
theorem isPtr_nr (e : TypeId) (sz : Nat) (xs : List (List PV)) : isPtr (PV.nr e sz xs) = false := rfl
theorem heldP_nr (e : TypeId) (sz : Nat) (xs : List (List PV)) (S : St) (r : List PV) : heldP S ((PV.nr e sz xs) :: r) = heldP S r := rfl
theorem plainLeaf_nb (cs : List PV) : plainLeaf (PV.nb cs) = false := rfl
theorem okLeaf_nb (cs : List PV) : okLeaf (PV.nb cs) = false := rfl
theorem sharesP_nb (cs : List PV) : sharesP (PV.nb cs) = true := rfl
theorem sharesR_nb (cs : List PV) : sharesR (PV.nb cs) = true := rfl
theorem isPtr_nb (cs : List PV) : isPtr (PV.nb cs) = false := rfl
theorem impLeaf_nb (cs : List PV) (fid j : Nat) : impLeaf fid j (PV.nb cs) = ((PV.nb cs), [], j) := rfl
theorem heldP_nb (cs : List PV) (S : St) (r : List PV) : heldP S ((PV.nb cs) :: r) = heldP S r := rfl
theorem sealLeaf_int (k : IntKind) (n : Int) : sealLeaf (PV.int k n) = .ret ((PV.int k n), []) := rfl
theorem sealV_int (k : IntKind) (n : Int) : sealV (PV.int k n) = .ret ((PV.int k n), []) := rfl
theorem expLeaf_int (k : IntKind) (n : Int) (S : St) (u : List Nat) : expLeaf S u (PV.int k n) = some ((PV.int k n), u) := rfl
theorem expV_int (k : IntKind) (n : Int) (S : St) (u : List Nat) : expV S u (PV.int k n) = some ((PV.int k n), u) := rfl
theorem normLeaf_int (k : IntKind) (n : Int) (S : St) (dup : Nat → Bool) (t j : Nat) (row : Option (TypeId × Nat)) : normLeaf S dup t j row (PV.int k n) = some ((PV.int k n), [], [], []) := rfl
theorem normV_int (k : IntKind) (n : Int) (S : St) (dup : Nat → Bool) (ni : NI) : normV S dup ni (PV.int k n) = normOne ni (normLeaf S dup ni.t 0 (get ni.rows 0) (PV.int k n)) := rfl
theorem heldV_int (k : IntKind) (n : Int) (S : St) : heldV S (PV.int k n) = [] := rfl
theorem lendA_int (k : IntKind) (n : Int) (r : List PV) (bs : List (Nat × List PV)) : lendA ((PV.int k n) :: r) bs = (lendA r bs).bind fun y => .ret ((PV.int k n) :: y.1, y.2.1, y.2.2) := rfl
theorem sealLeaf_bool (b : Bool) : sealLeaf (PV.bool b) = .ret ((PV.bool b), []) := rfl
theorem sealV_bool (b : Bool) : sealV (PV.bool b) = .ret ((PV.bool b), []) := rfl
theorem expLeaf_bool (b : Bool) (S : St) (u : List Nat) : expLeaf S u (PV.bool b) = some ((PV.bool b), u) := rfl
theorem expV_bool (b : Bool) (S : St) (u : List Nat) : expV S u (PV.bool b) = some ((PV.bool b), u) := rfl
theorem normLeaf_bool (b : Bool) (S : St) (dup : Nat → Bool) (t j : Nat) (row : Option (TypeId × Nat)) : normLeaf S dup t j row (PV.bool b) = some ((PV.bool b), [], [], []) := rfl
theorem normV_bool (b : Bool) (S : St) (dup : Nat → Bool) (ni : NI) : normV S dup ni (PV.bool b) = normOne ni (normLeaf S dup ni.t 0 (get ni.rows 0) (PV.bool b)) := rfl
theorem heldV_bool (b : Bool) (S : St) : heldV S (PV.bool b) = [] := rfl
theorem lendA_bool (b : Bool) (r : List PV) (bs : List (Nat × List PV)) : lendA ((PV.bool b) :: r) bs = (lendA r bs).bind fun y => .ret ((PV.bool b) :: y.1, y.2.1, y.2.2) := rfl
theorem sealLeaf_str (s : List UInt8) : sealLeaf (PV.str s) = .ret ((PV.str s), []) := rfl
theorem sealV_str (s : List UInt8) : sealV (PV.str s) = .ret ((PV.str s), []) := rfl
theorem expLeaf_str (s : List UInt8) (S : St) (u : List Nat) : expLeaf S u (PV.str s) = some ((PV.str s), u) := rfl
theorem expV_str (s : List UInt8) (S : St) (u : List Nat) : expV S u (PV.str s) = some ((PV.str s), u) := rfl
theorem normLeaf_str (s : List UInt8) (S : St) (dup : Nat → Bool) (t j : Nat) (row : Option (TypeId × Nat)) : normLeaf S dup t j row (PV.str s) = some ((PV.str s), [], [], []) := rfl
theorem normV_str (s : List UInt8) (S : St) (dup : Nat → Bool) (ni : NI) : normV S dup ni (PV.str s) = normOne ni (normLeaf S dup ni.t 0 (get ni.rows 0) (PV.str s)) := rfl
theorem heldV_str (s : List UInt8) (S : St) : heldV S (PV.str s) = [] := rfl
theorem lendA_str (s : List UInt8) (r : List PV) (bs : List (Nat × List PV)) : lendA ((PV.str s) :: r) bs = (lendA r bs).bind fun y => .ret ((PV.str s) :: y.1, y.2.1, y.2.2) := rfl
theorem sealLeaf_nils : sealLeaf (PV.nils) = .ret ((PV.nils), []) := rfl
theorem sealV_nils : sealV (PV.nils) = .ret ((PV.nils), []) := rfl
theorem expLeaf_nils (S : St) (u : List Nat) : expLeaf S u (PV.nils) = some ((PV.nils), u) := rfl
theorem expV_nils (S : St) (u : List Nat) : expV S u (PV.nils) = some ((PV.nils), u) := rfl
theorem normLeaf_nils (S : St) (dup : Nat → Bool) (t j : Nat) : normLeaf S dup t j none (PV.nils) = some ((PV.nils), [], [], []) := rfl
theorem normV_nils (S : St) (dup : Nat → Bool) (ni : NI) : normV S dup ni (PV.nils) = normOne ni (normLeaf S dup ni.t 0 (get ni.rows 0) (PV.nils)) := rfl
theorem heldV_nils (S : St) : heldV S (PV.nils) = [] := rfl
theorem lendA_nils (r : List PV) (bs : List (Nat × List PV)) : lendA ((PV.nils) :: r) bs = (lendA r bs).bind fun y => .ret ((PV.nils) :: y.1, y.2.1, y.2.2) := rfl
theorem sealLeaf_sl (sz : Nat) (xs : List (List PV)) : sealLeaf (PV.sl sz xs) = .ret ((PV.sl sz xs), []) := rfl
theorem sealV_sl (sz : Nat) (xs : List (List PV)) : sealV (PV.sl sz xs) = .ret ((PV.sl sz xs), []) := rfl
theorem expLeaf_sl (sz : Nat) (xs : List (List PV)) (S : St) (u : List Nat) : expLeaf S u (PV.sl sz xs) = some ((PV.sl sz xs), u) := rfl
theorem expV_sl (sz : Nat) (xs : List (List PV)) (S : St) (u : List Nat) : expV S u (PV.sl sz xs) = some ((PV.sl sz xs), u) := rfl
theorem normLeaf_sl (sz : Nat) (xs : List (List PV)) (S : St) (dup : Nat → Bool) (t j : Nat) (row : Option (TypeId × Nat)) : normLeaf S dup t j row (PV.sl sz xs) = some ((PV.sl sz xs), [], [], []) := rfl
theorem normV_sl (sz : Nat) (xs : List (List PV)) (S : St) (dup : Nat → Bool) (ni : NI) : normV S dup ni (PV.sl sz xs) = normOne ni (normLeaf S dup ni.t 0 (get ni.rows 0) (PV.sl sz xs)) := rfl
theorem heldV_sl (sz : Nat) (xs : List (List PV)) (S : St) : heldV S (PV.sl sz xs) = [] := rfl
theorem lendA_sl (sz : Nat) (xs : List (List PV)) (r : List PV) (bs : List (Nat × List PV)) : lendA ((PV.sl sz xs) :: r) bs = (lendA r bs).bind fun y => .ret ((PV.sl sz xs) :: y.1, y.2.1, y.2.2) := rfl
theorem sealLeaf_nilp : sealLeaf (PV.nilp) = .ret ((PV.nilp), []) := rfl
theorem sealV_nilp : sealV (PV.nilp) = .ret ((PV.nilp), []) := rfl
theorem expLeaf_nilp (S : St) (u : List Nat) : expLeaf S u (PV.nilp) = some ((PV.nilp), u) := rfl
theorem expV_nilp (S : St) (u : List Nat) : expV S u (PV.nilp) = some ((PV.nilp), u) := rfl
theorem normLeaf_nilp (S : St) (dup : Nat → Bool) (t j : Nat) (row : Option (TypeId × Nat)) : normLeaf S dup t j row (PV.nilp) = some ((PV.nilp), [], [], []) := rfl
theorem normV_nilp (S : St) (dup : Nat → Bool) (ni : NI) : normV S dup ni (PV.nilp) = normOne ni (normLeaf S dup ni.t 0 (get ni.rows 0) (PV.nilp)) := rfl
theorem heldV_nilp (S : St) : heldV S (PV.nilp) = [] := rfl
theorem lendA_nilp (r : List PV) (bs : List (Nat × List PV)) : lendA ((PV.nilp) :: r) bs = (lendA r bs).bind fun y => .ret ((PV.nilp) :: y.1, y.2.1, y.2.2) := rfl
theorem sealLeaf_pc (cs : List PV) : sealLeaf (PV.pc cs) = .ret ((PV.pc cs), []) := rfl
theorem sealV_pc (cs : List PV) : sealV (PV.pc cs) = .ret ((PV.pc cs), []) := rfl
theorem expLeaf_pc (cs : List PV) (S : St) (u : List Nat) : expLeaf S u (PV.pc cs) = some ((PV.pc cs), u) := rfl
theorem expV_pc (cs : List PV) (S : St) (u : List Nat) : expV S u (PV.pc cs) = some ((PV.pc cs), u) := rfl
theorem normLeaf_pc (cs : List PV) (S : St) (dup : Nat → Bool) (t j : Nat) (row : Option (TypeId × Nat)) : normLeaf S dup t j row (PV.pc cs) = some ((PV.pc cs), [], [], []) := rfl
theorem normV_pc (cs : List PV) (S : St) (dup : Nat → Bool) (ni : NI) : normV S dup ni (PV.pc cs) = normOne ni (normLeaf S dup ni.t 0 (get ni.rows 0) (PV.pc cs)) := rfl
theorem heldV_pc (cs : List PV) (S : St) : heldV S (PV.pc cs) = [] := rfl
theorem lendA_pc (cs : List PV) (r : List PV) (bs : List (Nat × List PV)) : lendA ((PV.pc cs) :: r) bs = (lendA r bs).bind fun y => .ret ((PV.pc cs) :: y.1, y.2.1, y.2.2) := rfl
theorem sealLeaf_nilf : sealLeaf (PV.nilf) = .ret ((PV.nilf), []) := rfl
theorem sealV_nilf : sealV (PV.nilf) = .ret ((PV.nilf), []) := rfl
theorem expLeaf_nilf (S : St) (u : List Nat) : expLeaf S u (PV.nilf) = some ((PV.nilf), u) := rfl
theorem expV_nilf (S : St) (u : List Nat) : expV S u (PV.nilf) = some ((PV.nilf), u) := rfl
theorem normLeaf_nilf (S : St) (dup : Nat → Bool) (t j : Nat) (row : Option (TypeId × Nat)) : normLeaf S dup t j row (PV.nilf) = some ((PV.nilf), [], [], []) := rfl
theorem normV_nilf (S : St) (dup : Nat → Bool) (ni : NI) : normV S dup ni (PV.nilf) = normOne ni (normLeaf S dup ni.t 0 (get ni.rows 0) (PV.nilf)) := rfl
theorem heldV_nilf (S : St) : heldV S (PV.nilf) = [] := rfl
theorem lendA_nilf (r : List PV) (bs : List (Nat × List PV)) : lendA ((PV.nilf) :: r) bs = (lendA r bs).bind fun y => .ret ((PV.nilf) :: y.1, y.2.1, y.2.2) := rfl
theorem leavesO_agg (cs : List PV) : leavesO (.agg cs) = some cs := rfl
theorem sharesR_nr (e : TypeId) (sz : Nat) (xs : List (List PV)) : sharesR (.nr e sz xs) = xs.any fun x => x.any sharesP := rfl
theorem sharesLeaf_nr (e : TypeId) (sz : Nat) (xs : List (List PV)) : sharesLeaf (.nr e sz xs) = xs.any fun x => x.any sharesP := rfl
theorem sharesLeaf_nb (cs : List PV) : sharesLeaf (.nb cs) = cs.any sharesR := rfl
theorem shares_nr (e : TypeId) (sz : Nat) (xs : List (List PV)) : shares (.nr e sz xs) = xs.any fun x => x.any sharesP := rfl
theorem shares_nb (cs : List PV) : shares (.nb cs) = cs.any sharesR := rfl
theorem shares_agg (cs : List PV) : shares (.agg cs) = cs.any sharesLeaf := rfl
def sharesE : PV → Bool
  | .agg cs => cs.any sharesLeaf
  | v => sharesLeaf v
theorem shares_tup (vs : List PV) : shares (.tup vs) = vs.any sharesE := by
  show (vs.any fun | .agg cs => cs.any sharesLeaf | v => sharesLeaf v) = _
  congr 1
theorem impLeaf_nr (e : TypeId) (sz : Nat) (xs : List (List PV)) (fid j : Nat) : impLeaf fid j (.nr e sz xs) = (.h (fid + j), [(fid + j, .set (.row e sz xs))], j + 1) := rfl
theorem impV_nr (e : TypeId) (sz : Nat) (xs : List (List PV)) (fid j : Nat) : impV fid j (.nr e sz xs) = (.h (fid + j), [(fid + j, .set (.row e sz xs))], j + 1) := rfl
theorem impR_nr (e : TypeId) (sz : Nat) (xs : List (List PV)) (fid j : Nat) : impR fid j (.nr e sz xs) = (.h (fid + j), [(fid + j, .set (.row e sz xs))], j + 1) := rfl
theorem impV_agg (cs : List PV) (fid j : Nat) : impV fid j (.agg cs) = (match impL fid j cs with | (xs, w, j1) => (.agg xs, w, j1)) := rfl
theorem impR_agg (cs : List PV) (fid j : Nat) : impR fid j (.agg cs) = (match impL fid j cs with | (xs, w, j1) => (.agg xs, w, j1)) := rfl
theorem impV_nb (cs : List PV) (fid j : Nat) : impV fid j (.nb cs) = (match impL fid (j + 1) cs with | (xs, w, j1) => (.pb (fid + j) 0, (fid + j, .set (.box xs)) :: w, j1)) := rfl
theorem impR_nb (cs : List PV) (fid j : Nat) : impR fid j (.nb cs) = (match impL fid (j + 1) cs with | (xs, w, j1) => (.pb (fid + j) 0, (fid + j, .set (.box xs)) :: w, j1)) := rfl
theorem impR_tup (vs : List PV) (fid j : Nat) : impR fid j (.tup vs) = (match impVs fid j vs with | (xs, w, j1) => (.tup xs, w, j1)) := rfl
theorem sealLeaf_vw (d n : Nat) : sealLeaf (.vw d n) = .rdc d fun | .row _ sz xs => .ret (.sl sz (xs.take n), [(d, .fz)]) | _ => .fail := rfl
theorem sealV_vw (d n : Nat) : sealV (.vw d n) = .rdc d fun | .row _ sz xs => .ret (.sl sz (xs.take n), [(d, .fz)]) | _ => .fail := rfl
theorem lendA_vw (d n : Nat) (r : List PV) (bs : List (Nat × List PV)) : lendA (.vw d n :: r) bs = (sealV (.vw d n)).bind fun x => (lendA r bs).bind fun y => .ret (x.1 :: y.1, x.2 ++ y.2.1, y.2.2) := rfl
theorem sealLeaf_h (d : Nat) : sealLeaf (.h d) = .rdc d fun | .row _ sz xs => .ret (.sl sz xs, [(d, .fz)]) | _ => .fail := rfl
theorem sealLeaf_pb (d off : Nat) : sealLeaf (.pb d off) = .rdc d fun | .box cs => if cs.all plainLeaf then .ret (.pc (cs.drop off), [(d, .fz)]) else (seal0L cs).bind fun x => .ret (.pc (x.1.drop off), x.2 ++ [(d, .fz)]) | _ => .fail := rfl
theorem sealV_h (d : Nat) : sealV (.h d) = .rdc d fun | .row _ sz xs => .ret (.sl sz xs, [(d, .fz)]) | _ => .fail := rfl
theorem sealV_pb (d off : Nat) : sealV (.pb d off) = .rdc d fun | .box cs => if cs.all plainLeaf then .ret (.pc (cs.drop off), [(d, .fz)]) else (seal0L cs).bind fun x => .ret (.pc (x.1.drop off), x.2 ++ [(d, .fz)]) | _ => .fail := rfl
theorem sealV_agg (cs : List PV) : sealV (.agg cs) = (sealL cs).bind fun x => .ret (.agg x.1, x.2) := rfl
theorem sealV_fn (f : FuncId) (cs : List PV) : sealV (.fn f cs) = (sealL cs).bind fun x => .ret (.fn f x.1, x.2) := rfl
theorem lendA_nil (bs : List (Nat × List PV)) : lendA [] bs = .ret ([], [], [], bs) := rfl
theorem lendA_h (d : Nat) (r : List PV) (bs : List (Nat × List PV)) : lendA (.h d :: r) bs = (sealV (.h d)).bind fun x => (lendA r bs).bind fun y => .ret (x.1 :: y.1, x.2 ++ y.2.1, y.2.2) := rfl
theorem lendA_agg (cs : List PV) (r : List PV) (bs : List (Nat × List PV)) : lendA (.agg cs :: r) bs = (sealV (.agg cs)).bind fun x => (lendA r bs).bind fun y => .ret (x.1 :: y.1, x.2 ++ y.2.1, y.2.2) := rfl
theorem lendA_fn (f : FuncId) (cs : List PV) (r : List PV) (bs : List (Nat × List PV)) : lendA (.fn f cs :: r) bs = (sealV (.fn f cs)).bind fun x => (lendA r bs).bind fun y => .ret (x.1 :: y.1, x.2 ++ y.2.1, y.2.2) := rfl
theorem lendA_pb (d : Nat) (r : List PV) (bs : List (Nat × List PV)) : lendA (.pb d 0 :: r) bs = .own d fun
      | .box cs =>
        if bs.any fun b => b.1 == d then .fail else
        (sealL cs).bind fun x => (lendA r (bs ++ [(d, x.1)])).bind fun y => .ret (.pb (lentId bs.length) 0 :: y.1, y.2.1, x.2 ++ y.2.2.1, y.2.2.2)
      | _ => .fail := rfl
theorem expLeaf_h (S : St) (u : List Nat) (d : Nat) : expLeaf S u (.h d) = (match S.at d with
    | some ⟨true, .row e sz xs⟩ => if u.any (· == d) then none else some (.nr e sz xs, d :: u)
    | some ⟨false, .row _ sz xs⟩ => some (.sl sz xs, u)
    | _ => none) := rfl
theorem expV_h (S : St) (u : List Nat) (d : Nat) : expV S u (.h d) = expLeaf S u (.h d) := rfl
theorem expV_agg (S : St) (u : List Nat) (cs : List PV) : expV S u (.agg cs) = (match expL S u cs with | some (xs, u) => some (.agg xs, u) | none => none) := rfl
theorem expV_fn (S : St) (u : List Nat) (f : FuncId) (cs : List PV) : expV S u (.fn f cs) = if cs.all plainLeaf then some (.fn f cs, u) else none := rfl
theorem expV_pb (S : St) (u : List Nat) (d off : Nat) : expV S u (.pb d off) = (match S.at d with
    | some ⟨true, .box cs⟩ =>
      if off == 0 && !isLent d && !(u.any (· == d)) then (match expL S (d :: u) cs with | some (xs, u) => some (.nb xs, u) | none => none) else none
    | _ => none) := rfl
theorem normLeaf_h (S : St) (dup : Nat → Bool) (t j : Nat) (row : Option (TypeId × Nat)) (d : Nat) : normLeaf S dup t j row (.h d) = (match S.at d with
    | some ⟨true, .row e sz xs⟩ => if dup d then some (.sl sz xs, [], [], [d]) else some (.h (leafId t j), [(leafId t j, ⟨true, .row e sz xs⟩)], [d], [])
    | some ⟨false, .row _ sz xs⟩ => some (.sl sz xs, [], [], [])
    | _ => none) := by rcases row with _ | ⟨e, sz⟩ <;> rfl
theorem normLeaf_nils_row (S : St) (dup : Nat → Bool) (t j : Nat) (e : TypeId) (sz : Nat) : normLeaf S dup t j (some (e, sz)) .nils = some (.h (leafId t j), [(leafId t j, ⟨true, .row e sz []⟩)], [], []) := rfl
theorem normV_h (S : St) (dup : Nat → Bool) (n : NI) (d : Nat) : normV S dup n (.h d) = normOne n (normLeaf S dup n.t 0 (get n.rows 0) (.h d)) := rfl
theorem normV_agg (S : St) (dup : Nat → Bool) (n : NI) (cs : List PV) : normV S dup n (.agg cs) = (match normLeafs S dup n.t n.rows 0 cs with | some (vs, w, ds, fs) => some ([(n.t, .agg vs)], w, ds, fs) | none => none) := rfl
theorem normV_fn (S : St) (dup : Nat → Bool) (n : NI) (f : FuncId) (cs : List PV) : normV S dup n (.fn f cs) = if cs.all plainLeaf then some ([(n.t, .fn f cs)], [], [], []) else none := rfl
theorem normV_pb (S : St) (dup : Nat → Bool) (n : NI) (d off : Nat) : normV S dup n (.pb d off) = (if isLent d then some ([(n.t, .pb d off)], [], [], []) else
      match S.at d with
      | some ⟨true, .box cs⟩ => match normLeafs S dup n.t n.rows 0 cs with | some (vs, w, ds, fs) => some ([(n.t, .pb (boxId n.t) off)], (boxId n.t, ⟨true, .box vs⟩) :: w, d :: ds, fs) | none => none
      | _ => none) := rfl
theorem heldV_h (S : St) (d : Nat) : heldV S (.h d) = [d] := rfl
theorem heldV_agg (S : St) (cs : List PV) : heldV S (.agg cs) = heldP S cs := rfl
theorem heldV_fn (S : St) (f : FuncId) (cs : List PV) : heldV S (.fn f cs) = [] := rfl
theorem heldV_pb (S : St) (d off : Nat) : heldV S (.pb d off) = (match S.at d with | some ⟨_, .box cs⟩ => heldP S cs | _ => []) := rfl
theorem heldP_h (S : St) (d : Nat) (r : List PV) : heldP S (.h d :: r) = d :: heldP S r := rfl
theorem heldP_nil (S : St) : heldP S [] = [] := rfl
theorem lenOf_nils : lenOf .nils = .ret 0 := rfl
theorem lenOf_sl (sz : Nat) (xs : List (List PV)) : lenOf (.sl sz xs) = .ret xs.length := rfl
theorem lenOf_h (d : Nat) : lenOf (.h d) = .rdc d fun | .row _ _ xs => .ret xs.length | _ => .fail := rfl
theorem elemsOf_nils (n : Nat) : elemsOf n .nils = .ret [] := rfl
theorem elemsOf_sl (n sz : Nat) (xs : List (List PV)) : elemsOf n (.sl sz xs) = if sz == n then .ret xs else .fail := rfl
theorem elemsOf_h (n d : Nat) : elemsOf n (.h d) = .rdc d fun | .row _ sz xs => if sz == n then .ret xs else .fail | _ => .fail := rfl
attribute [go_sem] plainLeaf_int okLeaf_int leavesO_int sharesP_int sharesR_int sharesLeaf_int shares_int isPtr_int impLeaf_int impV_int impR_int heldP_int
attribute [go_sem] plainLeaf_bool okLeaf_bool leavesO_bool sharesP_bool sharesR_bool sharesLeaf_bool shares_bool isPtr_bool impLeaf_bool impV_bool impR_bool heldP_bool
attribute [go_sem] plainLeaf_str okLeaf_str leavesO_str sharesP_str sharesR_str sharesLeaf_str shares_str isPtr_str impLeaf_str impV_str impR_str heldP_str
attribute [go_sem] plainLeaf_nils okLeaf_nils leavesO_nils sharesP_nils sharesR_nils sharesLeaf_nils shares_nils isPtr_nils impLeaf_nils impV_nils impR_nils heldP_nils
attribute [go_sem] plainLeaf_sl okLeaf_sl leavesO_sl sharesP_sl sharesR_sl sharesLeaf_sl shares_sl isPtr_sl impLeaf_sl impV_sl impR_sl heldP_sl
attribute [go_sem] plainLeaf_nilp okLeaf_nilp leavesO_nilp sharesP_nilp sharesR_nilp sharesLeaf_nilp shares_nilp isPtr_nilp impLeaf_nilp impV_nilp impR_nilp heldP_nilp
attribute [go_sem] plainLeaf_pc okLeaf_pc leavesO_pc sharesP_pc sharesR_pc sharesLeaf_pc shares_pc isPtr_pc impLeaf_pc impV_pc impR_pc heldP_pc
attribute [go_sem] plainLeaf_nilf okLeaf_nilf leavesO_nilf sharesP_nilf sharesR_nilf sharesLeaf_nilf shares_nilf isPtr_nilf impLeaf_nilf impV_nilf impR_nilf heldP_nilf
attribute [go_sem] plainLeaf_h okLeaf_h leavesO_h sharesP_h sharesR_h sharesLeaf_h shares_h isPtr_h impLeaf_h impV_h impR_h plainLeaf_pb
attribute [go_sem] okLeaf_pb leavesO_pb sharesP_pb sharesR_pb sharesLeaf_pb shares_pb isPtr_pb impLeaf_pb impV_pb impR_pb heldP_pb plainLeaf_pe
attribute [go_sem] okLeaf_pe leavesO_pe sharesP_pe sharesR_pe sharesLeaf_pe shares_pe isPtr_pe impLeaf_pe impV_pe impR_pe heldP_pe plainLeaf_undef
attribute [go_sem] okLeaf_undef sharesP_undef sharesR_undef sharesLeaf_undef shares_undef isPtr_undef impLeaf_undef impV_undef impR_undef heldP_undef plainLeaf_fn okLeaf_fn
attribute [go_sem] sharesP_fn sharesR_fn sharesLeaf_fn shares_fn isPtr_fn impLeaf_fn impV_fn impR_fn heldP_fn plainLeaf_agg okLeaf_agg sharesP_agg
attribute [go_sem] sharesR_agg sharesLeaf_agg isPtr_agg impLeaf_agg heldP_agg plainLeaf_tup okLeaf_tup sharesP_tup sharesR_tup sharesLeaf_tup isPtr_tup impLeaf_tup
attribute [go_sem] impV_tup heldP_tup plainLeaf_nr okLeaf_nr sharesP_nr isPtr_nr heldP_nr plainLeaf_nb okLeaf_nb sharesP_nb sharesR_nb isPtr_nb
attribute [go_sem] impLeaf_nb heldP_nb sealLeaf_int sealV_int expLeaf_int expV_int normLeaf_int normV_int heldV_int lendA_int sealLeaf_bool sealV_bool
attribute [go_sem] expLeaf_bool expV_bool normLeaf_bool normV_bool heldV_bool lendA_bool sealLeaf_str sealV_str expLeaf_str expV_str normLeaf_str normV_str
attribute [go_sem] heldV_str lendA_str sealLeaf_nils sealV_nils expLeaf_nils expV_nils normLeaf_nils normV_nils heldV_nils lendA_nils sealLeaf_sl sealV_sl
attribute [go_sem] expLeaf_sl expV_sl normLeaf_sl normV_sl heldV_sl lendA_sl sealLeaf_nilp sealV_nilp expLeaf_nilp expV_nilp normLeaf_nilp normV_nilp
attribute [go_sem] heldV_nilp lendA_nilp sealLeaf_pc sealV_pc expLeaf_pc expV_pc normLeaf_pc normV_pc heldV_pc lendA_pc sealLeaf_nilf sealV_nilf
attribute [go_sem] expLeaf_nilf expV_nilf normLeaf_nilf normV_nilf heldV_nilf lendA_nilf normI_eq heldI_eq normOne leavesO_agg sharesR_nr sharesLeaf_nr
attribute [go_sem] sharesLeaf_nb shares_nr shares_nb shares_agg shares_tup sharesE impLeaf_nr impV_nr impR_nr impV_agg impR_agg impV_nb
attribute [go_sem] sealLeaf_vw sealV_vw lendA_vw impR_nb impR_tup sealLeaf_h sealLeaf_pb sealV_h sealV_pb sealV_agg sealV_fn lendA_nil lendA_h lendA_agg lendA_fn
attribute [go_sem] lendA_pb expLeaf_h expV_h expV_agg expV_fn expV_pb normLeaf_h normLeaf_nils_row normV_h normV_agg normV_fn normV_pb
attribute [go_sem] heldV_h heldV_agg heldV_fn heldV_pb heldP_h heldP_nil lenOf_nils lenOf_sl lenOf_h elemsOf_nils elemsOf_sl elemsOf_h

/-! ### bytes, or none -/
def bl : Option (List Int) → PV
  | none => .nils
  | some zs => .sl 1 (ints .u8 zs)
def bz (o : Option (List Int)) : List Int := o.getD []
theorem bz_none : bz none = [] := rfl
theorem bz_some (zs : List Int) : bz (some zs) = zs := rfl
variable (o : Option (List Int))
theorem plainLeaf_bl : plainLeaf (bl o) = true := by cases o <;> rfl
theorem okLeaf_bl : okLeaf (bl o) = true := by cases o <;> rfl
theorem leavesO_bl : leavesO (bl o) = some [bl o] := by cases o <;> rfl
theorem sealLeaf_bl : sealLeaf (bl o) = .ret (bl o, []) := by cases o <;> rfl
theorem sealV_bl : sealV (bl o) = .ret (bl o, []) := by cases o <;> rfl
theorem expLeaf_bl (S : St) (u : List Nat) : expLeaf S u (bl o) = some (bl o, u) := by cases o <;> rfl
theorem expV_bl (S : St) (u : List Nat) : expV S u (bl o) = some (bl o, u) := by cases o <;> rfl
theorem normLeaf_bl (S : St) (dup : Nat → Bool) (t j : Nat) : normLeaf S dup t j none (bl o) = some (bl o, [], [], []) := by cases o <;> rfl
theorem normV_bl (S : St) (dup : Nat → Bool) (n : NI) : normV S dup n (bl o) = normOne n (normLeaf S dup n.t 0 (get n.rows 0) (bl o)) := by cases o <;> rfl
theorem heldV_bl (S : St) : heldV S (bl o) = [] := by cases o <;> rfl
theorem heldP_bl (S : St) (r : List PV) : heldP S (bl o :: r) = heldP S r := by cases o <;> rfl
theorem lendA_bl (r : List PV) (bs : List (Nat × List PV)) : lendA (bl o :: r) bs = (lendA r bs).bind fun y => .ret (bl o :: y.1, y.2.1, y.2.2) := by cases o <;> rfl
theorem impLeaf_bl (fid j : Nat) : impLeaf fid j (bl o) = (bl o, [], j) := by cases o <;> rfl
theorem impV_bl (fid j : Nat) : impV fid j (bl o) = (bl o, [], j) := by cases o <;> rfl
theorem impR_bl (fid j : Nat) : impR fid j (bl o) = (bl o, [], j) := by cases o <;> rfl
theorem lenOf_bl : lenOf (bl o) = .ret (bz o).length := by cases o with | none => rfl | some zs => simp [bl, lenOf, bz, ints_length]
theorem elemsOf_bl : elemsOf 1 (bl o) = .ret (ints .u8 (bz o)) := by cases o <;> rfl
theorem bytesP_bl : bytesP (bl o) = some ((bz o).map toU8) := by cases o with | none => rfl | some zs => exact toBytes_ints zs
theorem cloneF_bl (e : TypeId) (h : (bz o).length ≤ 1000000000000) : cloneF e 1 1 [bl o] = some (.nr e 1 (ints .u8 (bz o))) := by
  cases o with
  | none => rfl
  | some zs => exact cloneF_sl e 1 zs (by simp only [bz_some] at h; omega)
theorem bl_sl (zs : List Int) : PV.sl 1 (ints .u8 zs) = bl (some zs) := rfl
theorem lenS_bl (P : Program) (t : Option TypeId) : lenS P t (bl o) = lenS' P t (bl o) := rfl
theorem convS_bl (P : Program) (fid : Nat) (s t : TypeId) : convS P fid s t (bl o) = convS' P fid s t (bl o) := rfl
attribute [go_sem] lenS_bl convS_bl plainLeaf_bl okLeaf_bl leavesO_bl sealLeaf_bl sealV_bl expLeaf_bl expV_bl normLeaf_bl normV_bl heldV_bl heldP_bl lendA_bl impLeaf_bl impV_bl impR_bl lenOf_bl elemsOf_bl bytesP_bl bz_none bz_some
/-! ### frozen, if the result shares -/
def fzIf (c : Bool) (d : Nat) (m : List (Nat × Option Ent)) : List (Nat × Option Ent) := if c = true then putM m d .fz else m
theorem get_fzIf (c : Bool) (d : Nat) (m : List (Nat × Option Ent)) (k : Nat) : get (fzIf c d m) k = if k = d then (match get m d with | some (some e) => some (some ⟨e.own && !c, e.c⟩) | r => r) else get m k := by
  cases c
  · simp only [fzIf, Bool.false_eq_true, if_false, Bool.not_false, Bool.and_true]
    split
    · rename_i h
      subst h
      split
      · rename_i e he; exact he
      · rfl
    · rfl
  · simp only [fzIf, if_true, putM, atM, Bool.not_true, Bool.and_false]
    cases hg : get m d with
    | none =>
      simp only []
      split
      · rename_i h; subst h; exact hg
      · rfl
    | some e =>
      cases e with
      | none =>
        simp only []
        split
        · rename_i h; subst h; exact hg
        · rfl
      | some e =>
        simp only [get]
        by_cases h : k = d
        · subst h; simp
        · have : (d == k) = false := by simp; exact fun he => h he.symm
          simp [this, h]
theorem putMs_if (m : List (Nat × Option Ent)) (c : Bool) (d : Nat) (A w : Wr) : putMs m ((if c = true then (d, .fz) :: A else []) ++ w) = putMs (fzIf c d m) ((if c = true then A else []) ++ w) := by cases c <;> rfl
theorem putMs_if1 (m : List (Nat × Option Ent)) (c : Bool) (d : Nat) (A : Wr) : putMs m (if c = true then (d, .fz) :: A else []) = putMs (fzIf c d m) (if c = true then A else []) := by cases c <;> rfl
theorem wrHard_nil : wrHard [] = [] := rfl
theorem wrHard_set (d : Nat) (c : Cont) (w : Wr) : wrHard ((d, .set c) :: w) = d :: wrHard w := rfl
theorem wrHard_del (d : Nat) (w : Wr) : wrHard ((d, .del) :: w) = d :: wrHard w := rfl
theorem wrHard_fz (d : Nat) (w : Wr) : wrHard ((d, .fz) :: w) = wrHard w := rfl
theorem wrHard_if (c : Bool) (d : Nat) (A w : Wr) : wrHard ((if c = true then (d, .fz) :: A else []) ++ w) = wrHard ((if c = true then A else []) ++ w) := by cases c <;> rfl
theorem wrHard_if1 (c : Bool) (d : Nat) (A : Wr) : wrHard (if c = true then (d, .fz) :: A else []) = wrHard (if c = true then A else []) := by cases c <;> rfl
theorem wrSoft_nil : wrSoft [] = [] := rfl
theorem wrSoft_set (d : Nat) (c : Cont) (w : Wr) : wrSoft ((d, .set c) :: w) = wrSoft w := rfl
theorem wrSoft_del (d : Nat) (w : Wr) : wrSoft ((d, .del) :: w) = wrSoft w := rfl
theorem wrSoft_fz (d : Nat) (w : Wr) : wrSoft ((d, .fz) :: w) = d :: wrSoft w := rfl
theorem wrSoft_if (c : Bool) (d : Nat) (A w : Wr) : wrSoft ((if c = true then (d, .fz) :: A else []) ++ w) = (if c = true then [d] else []) ++ wrSoft ((if c = true then A else []) ++ w) := by cases c <;> rfl
theorem wrSoft_if1 (c : Bool) (d : Nat) (A : Wr) : wrSoft (if c = true then (d, .fz) :: A else []) = (if c = true then [d] else []) ++ wrSoft (if c = true then A else []) := by cases c <;> rfl
attribute [go_sem] get_fzIf putMs_if putMs_if1 wrHard_nil wrHard_set wrHard_del wrHard_fz wrHard_if wrHard_if1 wrSoft_nil wrSoft_set wrSoft_del wrSoft_fz wrSoft_if wrSoft_if1
end Go.Den

/- Den, part Zi: columns and values, and what is said of them. No program in sight. -/
namespace Go.Den
open Go
structure Col where
  name : List UInt8
  kind : Int
  null : Bool
structure Val where
  null : Bool
  kind : Int
  int : Int
  bytes : Option (List Int)
def Col.pv (c : Col) : List PV := [.str c.name, .int .i64 c.kind, .bool c.null]
def Val.pv (v : Val) : List PV := [.bool v.null, .int .i64 v.kind, .int .i64 v.int, bl v.bytes]
def Val.b (v : Val) : List UInt8 := (bz v.bytes).map toU8
def isV (v : Val) : Bool :=
  if v.kind = 1 then (if v.null then decide (v.int = 0) && decide ((bz v.bytes).length = 0) else decide ((bz v.bytes).length = 0))
  else if v.kind = 2 then (if v.null then decide (v.int = 0) && decide ((bz v.bytes).length = 0) else decide (v.int = 0) && decide ((bz v.bytes).length ≤ 64))
  else false
def holds (c : Col) (v : Val) : Bool := isV v && (decide (v.kind = c.kind) && (c.null || !v.null))
def fits (s : List Col) (r : List Val) : Bool := decide (r.length = s.length) && (List.zipWith holds s r).all id
def cmpI (a b : Int) : Int := if a < b then -1 else if b < a then 1 else 0
def rankV (v : Val) : Int := if v.null then 0 else 1
def cmpV (a b : Val) : Int :=
  if cmpI (rankV a) (rankV b) ≠ 0 ∨ a.null = true then cmpI (rankV a) (rankV b)
  else if a.kind = 1 then cmpI a.int b.int else if a.kind = 2 then Lib.compareBytes a.b b.b else 0
def cmpRows : List Val → List Val → Int
  | [], [] => 0
  | [], _ :: _ => -1
  | _ :: _, [] => 1
  | a :: r, b :: s => if cmpV a b ≠ 0 then cmpV a b else cmpRows r s
def sameV (a b : Val) : Bool := a.null == b.null && (decide (a.kind = b.kind) && (decide (a.int = b.int) && a.b == b.b))
def sameR (a b : List Val) : Bool := decide (a.length = b.length) && (List.zipWith sameV a b).all id
theorem map_get {α : Type} (f : α → List PV) (l : List α) (i : Nat) : (l.map f)[i]? = l[i]?.map f := List.getElem?_map ..
attribute [go_sem] List.length_map map_get Col.pv Val.pv
end Go.Den

/- Den, part Zj: bits in bytes. No program in sight. -/
namespace Go.Den
open Go
/-! ### numbers of bits, the greatest ahead -/
def val (d : Nat → Nat) : Nat → Nat
  | 0 => 0
  | k + 1 => 2 * val d k + d k
theorem val_ext {d e : Nat → Nat} : ∀ {k : Nat}, (∀ t, t < k → d t = e t) → val d k = val e k
  | 0, _ => rfl
  | k + 1, h => by rw [val, val, val_ext (k := k) fun t ht => h t (by omega), h k (by omega)]
theorem val_lt {d : Nat → Nat} (h : ∀ t, d t ≤ 1) : ∀ k, val d k < 2 ^ k
  | 0 => by simp [val]
  | k + 1 => by have := val_lt h k; have := h k; rw [val, Nat.pow_succ]; omega
theorem val_div {d : Nat → Nat} (h : ∀ t, d t ≤ 1) (k : Nat) : ∀ m, val d (k + m) / 2 ^ m = val d k
  | 0 => by simp
  | m + 1 => by
    have h1 := h (k + m)
    rw [← Nat.add_assoc, val, Nat.pow_succ, Nat.mul_comm (2 ^ m) 2, ← Nat.div_div_eq_div_mul, show (2 * val d (k + m) + d (k + m)) / 2 = val d (k + m) by omega, val_div h k m]
theorem val_bit {d : Nat → Nat} (h : ∀ t, d t ≤ 1) {k n : Nat} (hk : k < n) : val d n / 2 ^ (n - 1 - k) % 2 = d k := by
  have := val_div h (k + 1) (n - 1 - k)
  rw [show k + 1 + (n - 1 - k) = n by omega] at this
  rw [this, val]
  have := h k
  omega
theorem val_zeros {d : Nat → Nat} (k : Nat) : ∀ m, (∀ t, k ≤ t → t < k + m → d t = 0) → val d (k + m) = val d k * 2 ^ m
  | 0, _ => by simp
  | m + 1, h => by
    rw [← Nat.add_assoc, val, val_zeros k m fun t h1 h2 => h t h1 (by omega), h (k + m) (by omega) (by omega), Nat.pow_succ]
    rw [Nat.add_zero, Nat.mul_comm 2, Nat.mul_assoc]
def bitN (x i : Nat) : Nat := x / 2 ^ i % 2
theorem bitN_le (x i : Nat) : bitN x i ≤ 1 := by unfold bitN; omega
theorem val_of (x n : Nat) : ∀ k, k ≤ n → val (fun t => bitN x (n - 1 - t)) k = x / 2 ^ (n - k) % 2 ^ k
  | 0, _ => by simp [val, Nat.mod_one]
  | k + 1, hk => by
    rw [val, val_of x n k (by omega), bitN, Nat.pow_succ, Nat.mul_comm (2 ^ k) 2, Nat.mod_mul, show n - 1 - k = n - (k + 1) by omega]
    have : x / 2 ^ (n - k) = x / 2 ^ (n - (k + 1)) / 2 := by
      rw [Nat.div_div_eq_div_mul, ← Nat.pow_succ, show (n - (k + 1)).succ = n - k by omega]
    rw [this]; omega
theorem val_word (x n : Nat) : val (fun t => bitN x (n - 1 - t)) n = x % 2 ^ n := by
  rw [val_of x n n (Nat.le_refl _), Nat.sub_self, Nat.pow_zero, Nat.div_one]
/-! ### in bytes -/
def bitAt (zs : List Int) (p : Nat) : Nat := bitN (zs.getD (p / 8) 0).toNat (7 - p % 8)
theorem bitAt_le (zs : List Int) (p : Nat) : bitAt zs p ≤ 1 := bitN_le _ _
/-- the number at a place of bits -/
def rd (zs : List Int) (s k : Nat) : Nat := val (fun t => bitAt zs (s + t)) k
theorem rd_zero (zs : List Int) (s : Nat) : rd zs s 0 = 0 := rfl
theorem rd_succ (zs : List Int) (s k : Nat) : rd zs s (k + 1) = 2 * rd zs s k + bitAt zs (s + k) := rfl
theorem rd_lt (zs : List Int) (s k : Nat) : rd zs s k < 2 ^ k := val_lt (fun t => bitAt_le zs (s + t)) k
/-- the bits below a place, the others none -/
def cutF (f : Nat → Nat) (A p : Nat) : Nat := if p < A then f p else 0
def pbyte (f : Nat → Nat) (A j : Nat) : Nat := val (fun k => cutF f A (8 * j + k)) 8
def packed (f : Nat → Nat) (A L : Nat) : List Int := (List.range L).map fun j => (pbyte f A j : Int)
variable {f : Nat → Nat}
theorem cutF_le (h : ∀ p, f p ≤ 1) (A p : Nat) : cutF f A p ≤ 1 := by unfold cutF; split <;> simp [h]
theorem pbyte_lt (h : ∀ p, f p ≤ 1) (A j : Nat) : pbyte f A j < 256 := val_lt (fun t => cutF_le h A (8 * j + t)) 8
theorem packed_length (f : Nat → Nat) (A L : Nat) : (packed f A L).length = L := by simp [packed]
theorem packed_get {A L j : Nat} (h : j < L) : (packed f A L)[j]? = some (pbyte f A j : Int) := by simp [packed, h]
theorem packed_R8 (h : ∀ p, f p ≤ 1) (A L : Nat) : R8 (packed f A L) := by
  intro z hz
  obtain ⟨j, _, rfl⟩ := List.mem_map.1 hz
  have := pbyte_lt h A j
  omega
theorem packed_zero (f : Nat → Nat) (L : Nat) : packed f 0 L = List.replicate L 0 := by
  have h0 : ∀ j, pbyte f 0 j = 0 := fun j => by
    have := val_zeros (d := fun k => cutF f 0 (8 * j + k)) 0 8 (fun t _ _ => by simp [cutF])
    rw [Nat.zero_add] at this
    rw [pbyte, this]; simp [val]
  simp only [packed, h0]
  exact List.map_const' .. |>.trans (by simp)
/-- one bit more -/
theorem pbyte_step {A : Nat} : pbyte f A (A / 8) = val (fun k => cutF f A (8 * (A / 8) + k)) (A % 8) * 2 ^ (8 - A % 8) ∧ pbyte f (A + 1) (A / 8) = pbyte f A (A / 8) + f A * 2 ^ (7 - A % 8) := by
  have hr : A % 8 < 8 := Nat.mod_lt _ (by decide)
  have hA : 8 * (A / 8) + A % 8 = A := Nat.div_add_mod A 8
  have e1 : pbyte f A (A / 8) = val (fun k => cutF f A (8 * (A / 8) + k)) (A % 8) * 2 ^ (8 - A % 8) := by
    have := val_zeros (d := fun k => cutF f A (8 * (A / 8) + k)) (A % 8) (8 - A % 8) (fun t h1 h2 => if_neg (by omega))
    rw [show A % 8 + (8 - A % 8) = 8 by omega] at this
    exact this
  refine ⟨e1, ?_⟩
  have e2 : pbyte f (A + 1) (A / 8) = val (fun k => cutF f (A + 1) (8 * (A / 8) + k)) (A % 8 + 1) * 2 ^ (7 - A % 8) := by
    have := val_zeros (d := fun k => cutF f (A + 1) (8 * (A / 8) + k)) (A % 8 + 1) (7 - A % 8) (fun t h1 h2 => if_neg (by omega))
    rw [show A % 8 + 1 + (7 - A % 8) = 8 by omega] at this
    exact this
  rw [e1, e2, val]
  have e3 : val (fun k => cutF f (A + 1) (8 * (A / 8) + k)) (A % 8) = val (fun k => cutF f A (8 * (A / 8) + k)) (A % 8) := val_ext fun t ht => by
    simp only [cutF]; rw [if_pos (by omega), if_pos (by omega)]
  have e4 : cutF f (A + 1) (8 * (A / 8) + A % 8) = f A := by rw [hA]; simp [cutF]
  rw [e3, e4, Nat.add_mul, show 8 - A % 8 = 7 - A % 8 + 1 by omega, Nat.pow_succ, Nat.mul_comm 2, Nat.mul_assoc, Nat.mul_comm 2]
theorem pbyte_other {A j : Nat} (h : j ≠ A / 8) : pbyte f (A + 1) j = pbyte f A j := by
  refine val_ext fun t ht => ?_
  simp only [cutF]
  have : (8 * j + t < A + 1) = (8 * j + t < A) := by
    simp only [eq_iff_iff]; constructor
    · intro h1; refine Nat.lt_of_le_of_ne (by omega) fun h2 => h ?_; omega
    · intro h1; omega
  simp only [this]
theorem packed_set {A L : Nat} (hA : A / 8 < L) : (packed f A L).set (A / 8) ((pbyte f A (A / 8) : Nat) + (f A * 2 ^ (7 - A % 8) : Nat) : Int) = packed f (A + 1) L := by
  apply List.ext_getElem?
  intro j
  rw [List.getElem?_set]
  by_cases hj : j < L
  · rw [packed_get hj, packed_length]
    split
    · rename_i h; subst h; rw [packed_get hA, pbyte_step.2]; push_cast; rfl
    · rename_i h; rw [packed_get hj, pbyte_other (fun he => h he.symm)]
  · have h1 : (packed f A L)[j]? = none := List.getElem?_eq_none (by rw [packed_length]; omega)
    have h2 : (packed f (A + 1) L)[j]? = none := List.getElem?_eq_none (by rw [packed_length]; omega)
    rw [h1, h2, if_neg (by omega)]
theorem bor8 {a b i : Nat} (hb : b < 2 ^ i) (h : 2 ^ i * a + b < 256) : bor 8 ((2 ^ i * a : Nat) : Int) (b : Int) = ((2 ^ i * a + b : Nat) : Int) := by
  unfold bor
  rw [BitVec.toNat_or, BitVec.toNat_ofInt, BitVec.toNat_ofInt]
  have e1 : (((2 ^ i * a : Nat) : Int) % ((2 ^ 8 : Nat) : Int)).toNat = 2 ^ i * a := by omega
  have e2 : ((b : Int) % ((2 ^ 8 : Nat) : Int)).toNat = b := by omega
  rw [e1, e2, ← Nat.two_pow_add_eq_or_of_lt hb a]
theorem bor_pbyte (h : ∀ p, f p ≤ 1) (A : Nat) : bor 8 (pbyte f A (A / 8) : Nat) ((f A * 2 ^ (7 - A % 8) : Nat) : Int) = (pbyte f A (A / 8) : Nat) + ((f A * 2 ^ (7 - A % 8) : Nat) : Int) := by
  have hr : A % 8 < 8 := Nat.mod_lt _ (by decide)
  have h1 := pbyte_step (f := f) (A := A)
  have h2 := pbyte_lt h (A + 1) (A / 8)
  rw [h1.2, h1.1] at h2
  rw [h1.1, Nat.mul_comm (val _ _)]
  rw [Nat.mul_comm (val _ _)] at h2
  rw [bor8 (i := 8 - A % 8) _ h2]
  · push_cast; rfl
  · have := h A
    rw [show 8 - A % 8 = 7 - A % 8 + 1 by omega, Nat.pow_succ]
    have h3 : f A * 2 ^ (7 - A % 8) ≤ 1 * 2 ^ (7 - A % 8) := Nat.mul_le_mul_right _ this
    have h4 : 0 < 2 ^ (7 - A % 8) := Nat.two_pow_pos _
    omega
theorem bitAt_packed (h : ∀ p, f p ≤ 1) {A L p : Nat} (hp : p / 8 < L) : bitAt (packed f A L) p = cutF f A p := by
  unfold bitAt
  rw [List.getD_eq_getElem?_getD, packed_get hp, Option.getD_some, Int.toNat_natCast]
  have hr : p % 8 < 8 := Nat.mod_lt _ (by decide)
  have := val_bit (d := fun k => cutF f A (8 * (p / 8) + k)) (fun t => cutF_le h A _) hr
  rw [show 8 - 1 - p % 8 = 7 - p % 8 by omega, Nat.div_add_mod] at this
  exact this
/-! ### how wide -/
def width (u : Nat) : Nat := if u = 0 then 0 else Nat.log2 u + 1
theorem width_shift {u : Nat} (k : Nat) (h : 2 ^ k ≤ u) : width u = width (u / 2 ^ k) + k := by
  have hp := Nat.two_pow_pos k
  have h0 : u ≠ 0 := by omega
  have h1 : u / 2 ^ k ≠ 0 := by
    have := Nat.div_pos h hp; omega
  simp only [width, if_neg h0, if_neg h1]
  have h2 : k ≤ Nat.log2 u := (Nat.le_log2 h0).2 h
  have h3 : Nat.log2 (u / 2 ^ k) = Nat.log2 u - k := by
    apply Nat.le_antisymm
    · have h4 : u / 2 ^ k < 2 ^ (Nat.log2 u - k + 1) := by
        rw [Nat.div_lt_iff_lt_mul hp, ← Nat.pow_add, show Nat.log2 u - k + 1 + k = Nat.log2 u + 1 by omega]
        exact (Nat.log2_lt h0).1 (Nat.lt_succ_self _)
      have := (Nat.log2_lt h1).2 h4
      omega
    · refine (Nat.le_log2 h1).2 ?_
      rw [Nat.le_div_iff_mul_le hp, ← Nat.pow_add, show Nat.log2 u - k + k = Nat.log2 u by omega]
      exact (Nat.le_log2 h0).1 (Nat.le_refl _)
  omega
theorem width_le {u n : Nat} (h : u < 2 ^ n) : width u ≤ n := by
  unfold width
  split
  · omega
  · rename_i h0; exact (Nat.log2_lt h0).2 h
theorem width_lt (u : Nat) : u < 2 ^ width u := by
  unfold width
  split
  · rename_i h; subst h; decide
  · rename_i h; exact (Nat.log2_lt h).1 (Nat.lt_succ_self _)
theorem width_ge {u : Nat} (h : u ≠ 0) : 2 ^ (width u - 1) ≤ u := by
  unfold width
  rw [if_neg h]
  exact (Nat.le_log2 h).1 (by omega)
end Go.Den
namespace Go.Den
open Go
def heldN (n : Int) : Nat := if n < 0 then 0 else if 64 < n then 64 else n.toNat
theorem heldN_le (n : Int) : heldN n ≤ 64 := by unfold heldN; split <;> (try split) <;> omega
def bitsF (n : Nat) (l : List Int) (p : Nat) : Nat := bitN (l.getD (p / n) 0).toNat (n - 1 - p % n)
theorem bitsF_le (n : Nat) (l : List Int) (p : Nat) : bitsF n l p ≤ 1 := bitN_le _ _
def packL (n : Nat) (l : List Int) : List Int := packed (bitsF n l) (n * l.length) ((n * l.length + 7) / 8)
theorem packL_length (n : Nat) (l : List Int) : (packL n l).length = (n * l.length + 7) / 8 := packed_length ..
theorem packL_R8 (n : Nat) (l : List Int) : R8 (packL n l) := packed_R8 (bitsF_le n l) _ _
theorem rd_packL {n i : Nat} {l : List Int} (hi : i < l.length) (hn : 0 < n) : rd (packL n l) (n * i) n = (l.getD i 0).toNat % 2 ^ n := by
  rw [← val_word]
  refine val_ext fun t ht => ?_
  have h1 : n * i + t < n * l.length := by
    have : n * (i + 1) ≤ n * l.length := Nat.mul_le_mul_left n hi
    rw [Nat.mul_succ] at this; omega
  rw [packL, bitAt_packed (bitsF_le n l) (by omega), cutF, if_pos h1, bitsF, Nat.mul_add_div hn, Nat.div_eq_of_lt ht, Nat.mul_add_mod, Nat.mod_eq_of_lt ht]
  rfl
theorem tdiv_nat (a b : Nat) : ((a : Int).tdiv (b : Int)) = ((a / b : Nat) : Int) := rfl
theorem tmod_nat (a b : Nat) : ((a : Int).tmod (b : Int)) = ((a % b : Nat) : Int) := rfl
theorem tdiv8 (a : Nat) : ((a : Int).tdiv 8) = ((a / 8 : Nat) : Int) := rfl
theorem tmod8 (a : Nat) : ((a : Int).tmod 8) = ((a % 8 : Nat) : Int) := rfl
theorem fdiv_nat (a b : Nat) : ((a : Int).fdiv (b : Int)) = ((a / b : Nat) : Int) := by
  rw [Int.fdiv_eq_ediv_of_nonneg _ (by omega)]; rfl
theorem fdiv_pow (a k : Nat) : ((a : Int).fdiv (2 ^ k)) = ((a / 2 ^ k : Nat) : Int) := by
  rw [show ((2 : Int) ^ k) = ((2 ^ k : Nat) : Int) by push_cast; rfl, fdiv_nat]
end Go.Den
namespace Go.Den
open Go
/-! ### all numbers of bytes -/
def unpP (m : Nat) (zs : List Int) (c i : Nat) : List Int := (List.range c).map fun j => if j < i then (rd zs (m * j) m : Int) else 0
def unpL (m : Nat) (zs : List Int) (c : Nat) : List Int := (List.range c).map fun j => (rd zs (m * j) m : Int)
theorem unpP_zero (m : Nat) (zs : List Int) (c : Nat) : unpP m zs c 0 = List.replicate c 0 := by
  simp only [unpP, Nat.not_lt_zero, if_false]
  exact List.map_const' .. |>.trans (by simp)
theorem unpP_end (m : Nat) (zs : List Int) (c : Nat) : unpP m zs c c = unpL m zs c := by
  refine List.map_congr_left fun j hj => ?_
  rw [if_pos (List.mem_range.1 hj)]
theorem unpP_length (m : Nat) (zs : List Int) (c i : Nat) : (unpP m zs c i).length = c := by simp [unpP]
theorem unpL_length (m : Nat) (zs : List Int) (c : Nat) : (unpL m zs c).length = c := by simp [unpL]
theorem unpP_get {m : Nat} {zs : List Int} {c i j : Nat} (h : j < c) : (unpP m zs c i)[j]? = some (if j < i then (rd zs (m * j) m : Int) else 0) := by simp [unpP, h]
theorem unpP_set {m : Nat} {zs : List Int} {c i : Nat} (h : i < c) : (unpP m zs c i).set i (rd zs (m * i) m : Int) = unpP m zs c (i + 1) := by
  apply List.ext_getElem?
  intro j
  rw [List.getElem?_set]
  by_cases hj : j < c
  · rw [unpP_get hj, unpP_get hj, unpP_length]
    split
    · rename_i h; subst h; rw [if_pos (by omega)]
    · rename_i hne
      congr 1
      by_cases h1 : j < i
      · rw [if_pos h1, if_pos (by omega)]
      · rw [if_neg h1, if_neg (by omega)]
  · rw [List.getElem?_eq_none (l := unpP m zs c (i + 1)) (by rw [unpP_length]; omega), List.getElem?_eq_none (l := unpP m zs c i) (by rw [unpP_length]; omega), if_neg (by omega)]
theorem unpL_R64 {m : Nat} (hm : m ≤ 64) (zs : List Int) (c : Nat) : R64 (unpL m zs c) := by
  intro z hz
  obtain ⟨j, _, rfl⟩ := List.mem_map.1 hz
  have h1 := rd_lt zs (m * j) m
  have h2 : 2 ^ m ≤ 2 ^ 64 := Nat.pow_le_pow_right (by decide) hm
  omega
theorem toU8_inj : ∀ {a b : List Int}, R8 a → R8 b → a.map toU8 = b.map toU8 → a = b
  | [], [], _, _, _ => rfl
  | [], _ :: _, _, _, h => by cases h
  | _ :: _, [], _, _, h => by cases h
  | x :: a, y :: b, ha, hb, h => by
    simp only [List.map_cons, List.cons.injEq] at h
    have hx := ha x List.mem_cons_self
    have hy := hb y List.mem_cons_self
    have h1 : x = y := by
      have := congrArg UInt8.toNat h.1
      simp only [toU8, UInt8.toNat_ofNat'] at this
      omega
    rw [h1, toU8_inj (fun z hz => ha z (List.mem_cons_of_mem _ hz)) (fun z hz => hb z (List.mem_cons_of_mem _ hz)) h.2]
theorem toU8_beq {a b : List Int} (ha : R8 a) (hb : R8 b) : (a.map toU8 == b.map toU8) = decide (a = b) := by
  by_cases h : a = b
  · subst h; simp
  · rw [decide_eq_false h]
    exact beq_eq_false_iff_ne.2 fun he => h (toU8_inj ha hb he)
/-- packed, and read again -/
theorem unpL_packL {m : Nat} {l : List Int} (h64 : R64 l) (hm : 0 < m) : unpL m (packL m l) l.length = l.map fun x => x % ((2 ^ m : Nat) : Int) := by
  apply List.ext_getElem?
  intro j
  simp only [unpL, List.getElem?_map]
  by_cases hj : j < l.length
  · rw [List.getElem?_range hj, Option.map_some, rd_packL hj hm, List.getElem?_eq_getElem hj, Option.map_some, List.getD_eq_getElem?_getD, List.getElem?_eq_getElem hj, Option.getD_some]
    have := h64 _ (List.getElem_mem hj)
    obtain ⟨n, hn⟩ := Int.eq_ofNat_of_zero_le this.1
    rw [hn]; rfl
  · rw [List.getElem?_eq_none (l := List.range l.length) (by simp; omega), List.getElem?_eq_none (l := l) (by omega)]
    rfl
theorem bitN_mod {x m i : Nat} (h : i < m) : bitN (x % 2 ^ m) i = bitN x i := by
  unfold bitN
  rw [show m = i + (m - i) by omega, Nat.pow_add, Nat.mod_mul_right_div_self]
  rw [show m - i = (m - i - 1) + 1 by omega, Nat.pow_succ, Nat.mul_comm (2 ^ (m - i - 1)) 2, Nat.mod_mul_right_mod]
theorem packed_ext {f g : Nat → Nat} {A L : Nat} (h : ∀ p, p < A → f p = g p) : packed f A L = packed g A L := by
  refine List.map_congr_left fun j _ => congrArg (fun x : Nat => (x : Int)) (val_ext fun t _ => ?_)
  simp only [cutF]
  split
  · rename_i h1; exact h _ h1
  · rfl
theorem packL_mod {m : Nat} {l : List Int} (h64 : R64 l) : packL m (l.map fun x => x % ((2 ^ m : Nat) : Int)) = packL m l := by
  unfold packL
  rw [List.length_map]
  refine packed_ext fun p hp => ?_
  unfold bitsF
  by_cases hm : m = 0
  · subst hm; simp at hp
  have hm : 0 < m := by omega
  have hj : p / m < l.length := Nat.div_lt_of_lt_mul hp
  rw [List.getD_eq_getElem?_getD, List.getD_eq_getElem?_getD, List.getElem?_map, List.getElem?_eq_getElem hj, Option.map_some, Option.getD_some, Option.getD_some]
  have := h64 _ (List.getElem_mem hj)
  obtain ⟨n, hn⟩ := Int.eq_ofNat_of_zero_le this.1
  have hpm := Nat.mod_lt p hm
  rw [hn, ← Int.natCast_emod, Int.toNat_natCast, Int.toNat_natCast, bitN_mod (by omega)]
end Go.Den
namespace Go.Den
open Go
def unpack (n : Int) (zs : List Int) (c : Int) : Option (List Int) :=
  if c < 0 ∨ 65535 < c ∨ zs.length ≠ (heldN n * c.toNat + 7) / 8 then none
  else if packL (heldN n) (unpL (heldN n) zs c.toNat) = zs then some (unpL (heldN n) zs c.toNat) else none
def atB (n : Int) (zs : List Int) (i : Int) : Option Nat :=
  if i < 0 ∨ (65535 ≤ i ∧ heldN n = 0) then none
  else if heldN n = 0 then some 0
  else if (zs.length : Int) * 8 ≤ i ∨ ((zs.length : Int) * 8 < heldN n * (i + 1)) then none else some (rd zs (heldN n * i.toNat) (heldN n))
def len8 : List UInt8 := [0, 1, 2, 2, 3, 3, 3, 3, 4, 4, 4, 4, 4, 4, 4, 4] ++ List.replicate 16 5 ++ List.replicate 32 6 ++ List.replicate 64 7 ++ List.replicate 128 8
theorem len8_get {u : Nat} (h : u < 256) : len8[u]? = some (UInt8.ofNat (width u)) := by
  have : ∀ u : Fin 256, len8[u.val]? = some (UInt8.ofNat (width u.val)) := by decide +kernel
  exact this ⟨u, h⟩
end Go.Den
namespace Go.Den
open Go
theorem heldN_nat {m : Nat} (h : m ≤ 64) : heldN (m : Int) = m := by unfold heldN; rw [if_neg (by omega), if_neg (by omega)]; omega
theorem width8 {u : Nat} (h : u < 256) : width u ≤ 8 := width_le (n := 8) h
end Go.Den
namespace Go.Den
open Go
theorem width_pos {u : Nat} (h : u ≠ 0) : 0 < width u := by unfold width; rw [if_neg h]; omega
theorem width_div {u : Nat} : u / 2 ^ width u = 0 := Nat.div_eq_of_lt (width_lt u)
theorem width_div1 {u : Nat} (h : u ≠ 0) : u / 2 ^ (width u - 1) = 1 := by
  have h1 := width_lt u
  have h2 := width_ge h
  have h3 := width_pos h
  refine Nat.div_eq_of_lt_le (by omega) ?_
  rw [show width u = width u - 1 + 1 by omega, Nat.pow_succ] at h1
  omega
theorem atB_pack {m : Nat} {l : List Int} {i : Nat} (hm : m ≤ 64) (hi : i < l.length) (h65 : i < 65535) : atB m (packL m l) i = some ((l.getD i 0).toNat % 2 ^ m) := by
  unfold atB
  rw [heldN_nat hm]
  by_cases h0 : m = 0
  · subst h0
    rw [if_neg (by omega), if_pos rfl, Nat.pow_zero, Nat.mod_one]
  · have h1 : m * (i + 1) ≤ m * l.length := Nat.mul_le_mul_left m hi
    have h2 : 1 * (i + 1) ≤ m * (i + 1) := Nat.mul_le_mul_right _ (by omega)
    rw [if_neg (by omega), if_neg h0, packL_length, if_neg, Int.toNat_natCast, rd_packL hi (by omega)]
    rw [show (m : Int) * ((i : Int) + 1) = ((m * (i + 1) : Nat) : Int) by push_cast; rfl]
    omega
end Go.Den
namespace Go.Den
open Go
theorem unpL_zero (zs : List Int) (c : Nat) : unpL 0 zs c = List.replicate c 0 := by
  simp only [unpL, rd_zero, Int.natCast_zero]
  exact List.map_const' .. |>.trans (by simp)
theorem unpL_mod {m : Nat} {l : List Int} (h64 : R64 l) : unpL m (packL m l) l.length = l.map fun x => x % ((2 ^ m : Nat) : Int) := by
  by_cases hm : m = 0
  · subst hm
    rw [unpL_zero]
    simp only [Nat.pow_zero, Int.natCast_one, Int.emod_one]
    exact (List.map_const' ..).symm
  · exact unpL_packL h64 (by omega)
theorem unpack_packL {m : Nat} {l : List Int} (h64 : R64 l) (hm : m ≤ 64) (hl : l.length ≤ 65535) : unpack m (packL m l) l.length = some (l.map fun x => x % ((2 ^ m : Nat) : Int)) := by
  unfold unpack
  rw [heldN_nat hm, Int.toNat_natCast, if_neg (by rw [packL_length]; omega), unpL_mod h64, packL_mod h64, if_pos rfl]
theorem band_mask {a : Int} (h0 : 0 ≤ a) (h1 : a < 18446744073709551616) (j : Nat) (hj : j ≤ 64) : band 64 a ((2 ^ j - 1 : Nat) : Int) = a % ((2 ^ j : Nat) : Int) := by
  obtain ⟨n, rfl⟩ := Int.eq_ofNat_of_zero_le h0
  unfold band
  have hp : 2 ^ j ≤ 2 ^ 64 := Nat.pow_le_pow_right (by decide) hj
  have hq := Nat.two_pow_pos j
  rw [BitVec.toNat_and, BitVec.toNat_ofInt, BitVec.toNat_ofInt]
  have e1 : (((2 ^ j - 1 : Nat) : Int) % ((2 ^ 64 : Nat) : Int)).toNat = 2 ^ j - 1 := by omega
  have e2 : ((n : Int) % ((2 ^ 64 : Nat) : Int)).toNat = n := by omega
  rw [e1, e2, Nat.and_two_pow_sub_one_eq_mod]
  rfl
end Go.Den
namespace Go.Den
open Go
def maxW (l : List Int) : Nat := l.foldl (fun n x => max n (width x.toNat)) 0
theorem maxW_snoc (l : List Int) (x : Int) : maxW (l ++ [x]) = max (maxW l) (width x.toNat) := by simp [maxW]
theorem foldl_ge (l : List Int) : ∀ n, n ≤ l.foldl (fun n x => max n (width x.toNat)) n := by
  induction l with
  | nil => intro n; exact Nat.le_refl _
  | cons y r ih => intro n; exact Nat.le_trans (Nat.le_max_left _ _) (ih _)
theorem maxW_ge {l : List Int} {x : Int} (h : x ∈ l) : width x.toNat ≤ maxW l := by
  have key : ∀ (l : List Int) (n : Nat), x ∈ l → width x.toNat ≤ l.foldl (fun n x => max n (width x.toNat)) n := by
    intro l
    induction l with
    | nil => intro n h; cases h
    | cons y r ih =>
      intro n h
      rcases List.mem_cons.1 h with rfl | h
      · exact Nat.le_trans (Nat.le_max_right _ _) (foldl_ge r _)
      · exact ih _ h
  exact key l 0 h
theorem maxW_le {l : List Int} (h64 : R64 l) : maxW l ≤ 64 := by
  have key : ∀ (l : List Int) (n : Nat), R64 l → n ≤ 64 → l.foldl (fun n x => max n (width x.toNat)) n ≤ 64 := by
    intro l
    induction l with
    | nil => intro n _ h; exact h
    | cons y r ih =>
      intro n h hn
      refine ih _ (fun z hz => h z (List.mem_cons_of_mem _ hz)) ?_
      have := h y List.mem_cons_self
      have := width_le (u := y.toNat) (n := 64) (by omega)
      show max n (width y.toNat) ≤ 64
      omega
  exact key l 0 h64 (by omega)
theorem mod_fits {l : List Int} (h64 : R64 l) {m : Nat} (hm : maxW l ≤ m) : (l.map fun x => x % ((2 ^ m : Nat) : Int)) = l := by
  conv => rhs; rw [← List.map_id l]
  refine List.map_congr_left fun x hx => ?_
  obtain ⟨n, rfl⟩ := Int.eq_ofNat_of_zero_le (h64 x hx).1
  have h1 := maxW_ge hx
  have h2 := width_lt ((n : Int).toNat)
  rw [Int.toNat_natCast] at h1 h2
  have h3 : 2 ^ width n ≤ 2 ^ m := Nat.pow_le_pow_right (by decide) (by omega)
  rw [← Int.natCast_emod, Nat.mod_eq_of_lt (by omega)]
  rfl
end Go.Den
namespace Go.Den
open Go
def bitL (f : Nat → Nat) (A : Nat) : List Int := (List.range A).map fun p => (f p : Int)
theorem bitL_length (f : Nat → Nat) (A : Nat) : (bitL f A).length = A := by simp [bitL]
theorem bitL_get {f : Nat → Nat} {A p : Nat} (h : p < A) : (bitL f A)[p]? = some (f p : Int) := by simp [bitL, h]
theorem bitL_succ (f : Nat → Nat) (A : Nat) : bitL f (A + 1) = bitL f A ++ [(f A : Int)] := by simp [bitL, List.range_succ]
theorem unpL_take {m : Nat} {zs : List Int} {c i : Nat} (h : i < c) : (unpL m zs c).take (i + 1) = (unpL m zs c).take i ++ [(rd zs (m * i) m : Int)] := by
  rw [List.take_add_one]
  congr 1
  simp [unpL, h]
theorem width_div_ne {u n : Nat} : u / 2 ^ n ≠ 0 ↔ n < width u := by
  constructor
  · intro h
    refine Nat.lt_of_not_le fun hle => h (Nat.div_eq_of_lt (Nat.lt_of_lt_of_le (width_lt u) (Nat.pow_le_pow_right (by decide) hle)))
  · intro h h0
    have h1 : u ≠ 0 := fun he => by subst he; simp [width] at h
    have h2 : 2 ^ n ≤ u := Nat.le_trans (Nat.pow_le_pow_right (by decide) (by omega)) (width_ge h1)
    have := Nat.div_pos h2 (Nat.two_pow_pos n)
    omega
end Go.Den

/- Den, part Zk: schemas and rows of numbers. No program in sight. -/
namespace Go.Den
open Go
def nameN (i : Nat) : List UInt8 := ([[97], [98, 98], [99, 99, 99], [110, 117, 108, 108], [97, 110, 100]] : List (List UInt8)).getD i []
def keyCol : Col := ⟨[107, 101, 121], 1, false⟩
def colN (n : Int) (i : Nat) : Col := ⟨nameN i, n.fdiv (2 ^ (8 + 2 * i)) % 2 + 1, decide (n.fdiv (2 ^ (9 + 2 * i)) % 2 = 1)⟩
def colsN (n : Int) (i : Nat) : List Col := keyCol :: (List.range i).map (colN n)
def manyN (n : Int) : Nat := (n % 256 % 6).toNat
def schemaN (n : Int) : List Col := colsN n (manyN n)
theorem manyN_lt (n : Int) : manyN n < 6 := by unfold manyN; omega
theorem colsN_length (n : Int) (i : Nat) : (colsN n i).length = i + 1 := by simp [colsN]
theorem schemaN_length (n : Int) : (schemaN n).length ≤ 6 := by have := manyN_lt n; rw [schemaN, colsN_length]; omega
theorem schemaN_pos (n : Int) : 1 ≤ (schemaN n).length := by rw [schemaN, colsN_length]; omega
theorem colsN_succ (n : Int) (i : Nat) : colsN n (i + 1) = colsN n i ++ [colN n i] := by simp [colsN, List.range_succ]
def intV (n : Int) : Int :=
  if n.fdiv 64 % 16 = 0 then (n * 712544676207699905 + 9223372036854775808) % 18446744073709551616 - 9223372036854775808
  else if n.fdiv 64 % 16 = 1 then -(n.fdiv 8 % 8) else if n.fdiv 64 % 16 = 2 then 9223372036854775807 - n.fdiv 8 % 8 else n.fdiv 8 % 8
def bytesV (n : Int) : List Int := (([97, 98, 99, 97, 98, 99, 97, 98] : List Int).take (n.fdiv 8 % 4 + n.fdiv 32 % 4).toNat).drop (n.fdiv 8 % 4).toNat
def valueN (c : Col) (n : Int) : Val :=
  if c.null = true ∧ n % 8 = 0 then ⟨true, c.kind, 0, none⟩ else if c.kind = 1 then ⟨false, c.kind, intV n, none⟩ else ⟨false, c.kind, 0, some (bytesV n)⟩
def rowE (n : Int) (i : Nat) (c : Col) : Val := if i = 0 then ⟨false, 1, n % 16, none⟩ else valueN c (sxor (n.fdiv (2 ^ (3 * i))) (n.fdiv 131072))
def rowN (s : List Col) (n : Int) : List Val := s.mapIdx (rowE n)
theorem rowN_length (s : List Col) (n : Int) : (rowN s n).length = s.length := by simp [rowN]
theorem rowN_get {s : List Col} {n : Int} {i : Nat} {c : Col} (h : s[i]? = some c) : (rowN s n)[i]? = some (rowE n i c) := by simp [rowN, h]
end Go.Den

/- Den, part Zl: the order of values, and of rows, is one. No program in sight. -/
namespace Go.Den
open Go
theorem cmpI_anti (a b : Int) : cmpI b a = -cmpI a b := by unfold cmpI; split <;> split <;> first | omega | (split <;> omega) | rfl
theorem cmpI_zero {a b : Int} : cmpI a b = 0 ↔ a = b := by
  unfold cmpI; split
  · constructor <;> intro h <;> omega
  · split <;> constructor <;> intro h <;> omega
theorem cmpI_trans {a b c : Int} (h : cmpI a b ≤ 0) (k : cmpI b c ≤ 0) : cmpI a c ≤ 0 := by
  unfold cmpI at *
  repeat (first | omega | split at h | split at k | split)
theorem cmpI_range (a b : Int) : -1 ≤ cmpI a b ∧ cmpI a b ≤ 1 := by
  unfold cmpI; split
  · omega
  · split <;> omega
theorem u8_tri (a b : UInt8) : a < b ∧ ¬ b < a ∧ a ≠ b ∨ a = b ∧ ¬ a < b ∧ ¬ b < a ∨ b < a ∧ ¬ a < b ∧ a ≠ b := by
  rcases Nat.lt_trichotomy a.toNat b.toNat with h | h | h
  · exact .inl ⟨h, by simp only [UInt8.lt_iff_toNat_lt]; omega, fun e => by rw [e] at h; omega⟩
  · have : a = b := UInt8.toNat_inj.1 h
    subst this
    exact .inr (.inl ⟨rfl, UInt8.lt_irrefl _, UInt8.lt_irrefl _⟩)
  · exact .inr (.inr ⟨h, by simp only [UInt8.lt_iff_toNat_lt]; omega, fun e => by rw [e] at h; omega⟩)
open Go.Lib (compareBytes)
theorem cb_anti : ∀ a b : List UInt8, compareBytes b a = -compareBytes a b
  | [], [] => rfl
  | [], _ :: _ => rfl
  | _ :: _, [] => rfl
  | x :: a, y :: b => by
    have ih := cb_anti a b
    simp only [compareBytes]
    rcases u8_tri x y with ⟨h1, h2, _⟩ | ⟨rfl, h1, _⟩ | ⟨h1, h2, _⟩
    · simp [h1, h2]
    · simp [h1, ih]
    · simp [h1, h2]
theorem cb_zero : ∀ {a b : List UInt8}, compareBytes a b = 0 ↔ a = b
  | [], [] => by simp [compareBytes]
  | [], _ :: _ => by simp [compareBytes]
  | _ :: _, [] => by simp [compareBytes]
  | x :: a, y :: b => by
    have ih := cb_zero (a := a) (b := b)
    simp only [compareBytes]
    rcases u8_tri x y with ⟨h1, h2, h3⟩ | ⟨rfl, h1, _⟩ | ⟨h1, h2, h3⟩
    · simp [h1, h3]
    · simp [h1, ih]
    · simp [h1, h2, h3]
theorem cb_range : ∀ a b : List UInt8, -1 ≤ compareBytes a b ∧ compareBytes a b ≤ 1
  | [], [] => by simp [compareBytes]
  | [], _ :: _ => by simp [compareBytes]
  | _ :: _, [] => by simp [compareBytes]
  | x :: a, y :: b => by
    have ih := cb_range a b
    simp only [compareBytes]
    split
    · omega
    · split
      · omega
      · exact ih
theorem cb_trans : ∀ {a b c : List UInt8}, compareBytes a b ≤ 0 → compareBytes b c ≤ 0 → compareBytes a c ≤ 0
  | [], _, [], _, _ => by simp [compareBytes]
  | [], _, _ :: _, _, _ => by simp [compareBytes]
  | _ :: _, [], _, h, _ => by simp [compareBytes] at h
  | _ :: _, _ :: _, [], _, k => by simp [compareBytes] at k
  | x :: a, y :: b, z :: c, h, k => by
    have ih := cb_trans (a := a) (b := b) (c := c)
    simp only [compareBytes] at h k ⊢
    rcases u8_tri x y with ⟨h1, h2, _⟩ | ⟨rfl, h1, _⟩ | ⟨h1, h2, _⟩
    · rcases u8_tri y z with ⟨k1, k2, _⟩ | ⟨rfl, k1, _⟩ | ⟨k1, k2, _⟩
      · have : x < z := UInt8.lt_trans h1 k1
        simp [this]
      · simp [h1]
      · simp [k1, k2] at k
    · rcases u8_tri x z with ⟨k1, k2, _⟩ | ⟨rfl, k1, _⟩ | ⟨k1, k2, _⟩
      · simp [k1]
      · simp only [k1, if_false, h1] at h k ⊢; exact ih h k
      · simp [k1, k2] at k
    · simp [h1, h2] at h
theorem cmpV_range (a b : Val) : -1 ≤ cmpV a b ∧ cmpV a b ≤ 1 := by
  unfold cmpV
  split
  · exact cmpI_range _ _
  · split
    · exact cmpI_range _ _
    · split
      · exact cb_range _ _
      · omega
theorem cmpV_nn {a b : Val} (ha : a.null = false) (hb : b.null = false) : cmpV a b = if a.kind = 1 then cmpI a.int b.int else if a.kind = 2 then compareBytes a.b b.b else 0 := by
  have e : cmpI (rankV a) (rankV b) = 0 := by simp [rankV, ha, hb, cmpI]
  unfold cmpV
  rw [if_neg (by simp [e, ha])]
theorem cmpV_tn {a b : Val} (ha : a.null = true) (hb : b.null = false) : cmpV a b = -1 := by
  unfold cmpV
  rw [if_pos (.inr ha)]
  simp [rankV, ha, hb, cmpI]
theorem cmpV_nt {a b : Val} (ha : a.null = false) (hb : b.null = true) : cmpV a b = 1 := by
  unfold cmpV
  have e : cmpI (rankV a) (rankV b) = 1 := by simp [rankV, ha, hb, cmpI]
  rw [if_pos (.inl (by simp [e])), e]
theorem cmpV_tt {a b : Val} (ha : a.null = true) (hb : b.null = true) : cmpV a b = 0 := by
  unfold cmpV
  rw [if_pos (.inr ha)]
  simp [rankV, ha, hb, cmpI]
theorem cmpV_anti {a b : Val} (hk : a.kind = b.kind) : cmpV b a = -cmpV a b := by
  cases ha : a.null <;> cases hb : b.null
  · rw [cmpV_nn ha hb, cmpV_nn hb ha, ← hk]
    split
    · exact cmpI_anti _ _
    · split
      · exact cb_anti _ _
      · rfl
  · rw [cmpV_nt ha hb, cmpV_tn hb ha]
  · rw [cmpV_tn ha hb, cmpV_nt hb ha]; rfl
  · rw [cmpV_tt ha hb, cmpV_tt hb ha]; rfl
theorem cmpV_trans {a b c : Val} (hk : a.kind = b.kind) (h : cmpV a b ≤ 0) (k : cmpV b c ≤ 0) : cmpV a c ≤ 0 := by
  cases ha : a.null <;> cases hb : b.null <;> cases hc : c.null
  · rw [cmpV_nn ha hb] at h; rw [cmpV_nn hb hc, ← hk] at k; rw [cmpV_nn ha hc]
    split at h
    · rename_i h1; rw [if_pos h1] at k ⊢; exact cmpI_trans h k
    · rename_i h1
      rw [if_neg h1] at k ⊢
      split at h
      · rename_i h2; rw [if_pos h2] at k ⊢; exact cb_trans h k
      · rename_i h2; rw [if_neg h2]; omega
  · rw [cmpV_nt hb hc] at k; omega
  · rw [cmpV_nt ha hb] at h; omega
  · rw [cmpV_nt ha hb] at h; omega
  · rw [cmpV_tn ha hc]; omega
  · rw [cmpV_nt hb hc] at k; omega
  · rw [cmpV_tn ha hc]; omega
  · rw [cmpV_tt ha hc]; omega
/-- alike in kinds, and such as may be -/
theorem cmpV_zero {a b : Val} (hk : a.kind = b.kind) (ha : isV a = true) (hb : isV b = true) : cmpV a b = 0 ↔ sameV a b = true := by
  have e0 : ∀ {v : Val}, isV v = true → v.null = true → v.int = 0 ∧ v.b = [] := fun {v} h hn => by
    unfold isV at h
    split at h
    · simp [hn] at h; exact ⟨h.1, by simp [Val.b, h.2]⟩
    · split at h
      · simp [hn] at h; exact ⟨h.1, by simp [Val.b, h.2]⟩
      · cases h
  have e1 : ∀ {v : Val}, isV v = true → v.null = false → v.kind = 1 → v.b = [] := fun {v} h hn hk => by
    unfold isV at h
    simp [hk, hn] at h; simp [Val.b, h]
  have e2 : ∀ {v : Val}, isV v = true → v.null = false → v.kind ≠ 1 → v.kind = 2 ∧ v.int = 0 := fun {v} h hn hk => by
    unfold isV at h
    simp [hk, hn] at h; exact ⟨h.1, h.2.1⟩
  cases na : a.null <;> cases nb : b.null
  · rw [cmpV_nn na nb]
    by_cases h1 : a.kind = 1
    · rw [if_pos h1, cmpI_zero]
      simp [sameV, na, nb, hk, e1 ha na h1, e1 hb nb (hk ▸ h1)]
    · have h2 := e2 ha na h1
      have h3 := e2 hb nb (hk ▸ h1)
      rw [if_neg h1, if_pos h2.1, cb_zero]
      simp [sameV, na, nb, hk, h2.2, h3.2]
  · rw [cmpV_nt na nb]; simp [sameV, na, nb]
  · rw [cmpV_tn na nb]; simp [sameV, na, nb]
  · rw [cmpV_tt na nb]
    simp [sameV, na, nb, hk, e0 ha na, e0 hb nb]
/-! rows -/
def kinds (r : List Val) : List Int := r.map Val.kind
theorem cmpRows_anti : ∀ {a b : List Val}, kinds a = kinds b → cmpRows b a = -cmpRows a b
  | [], [], _ => rfl
  | [], _ :: _, h => by simp [kinds] at h
  | _ :: _, [], h => by simp [kinds] at h
  | x :: a, y :: b, h => by
    simp only [kinds, List.map_cons, List.cons.injEq] at h
    have ih := cmpRows_anti (a := a) (b := b) h.2
    have hx := cmpV_anti h.1
    simp only [cmpRows]
    by_cases h0 : cmpV x y = 0
    · rw [if_neg (by rw [hx, h0]; decide), if_neg (by simp [h0]), ih]
    · rw [if_pos (by rw [hx]; omega), if_pos h0, hx]
theorem cmpRows_range : ∀ a b : List Val, -1 ≤ cmpRows a b ∧ cmpRows a b ≤ 1
  | [], [] => by simp [cmpRows]
  | [], _ :: _ => by simp [cmpRows]
  | _ :: _, [] => by simp [cmpRows]
  | x :: a, y :: b => by
    simp only [cmpRows]
    split
    · exact cmpV_range _ _
    · exact cmpRows_range a b
theorem cmpRows_trans : ∀ {a b c : List Val}, kinds a = kinds b → kinds b = kinds c → cmpRows a b ≤ 0 → cmpRows b c ≤ 0 → cmpRows a c ≤ 0
  | [], [], [], _, _, _, _ => by simp [cmpRows]
  | [], _ :: _, _, h, _, _, _ => by simp [kinds] at h
  | _ :: _, [], _, h, _, _, _ => by simp [kinds] at h
  | [], [], _ :: _, _, h, _, _ => by simp [kinds] at h
  | _ :: _, _ :: _, [], _, h, _, _ => by simp [kinds] at h
  | x :: a, y :: b, z :: c, h, k, hi, hj => by
    simp only [kinds, List.map_cons, List.cons.injEq] at h k
    have ih := cmpRows_trans (a := a) (b := b) (c := c) h.2 k.2
    simp only [cmpRows] at hi hj ⊢
    have hxy : cmpV x y ≤ 0 := by split at hi <;> omega
    have hyz : cmpV y z ≤ 0 := by split at hj <;> omega
    have hxz := cmpV_trans h.1 hxy hyz
    split
    · exact hxz
    · rename_i h0
      have h0 : cmpV x z = 0 := by omega
      have hzx : cmpV z x = 0 := by rw [cmpV_anti (h.1.trans k.1), h0]; rfl
      -- all are the same
      have hyx : cmpV y x ≤ 0 := cmpV_trans k.1 hyz (by omega)
      have e1 : cmpV x y = 0 := by have := cmpV_anti h.1; omega
      have hzy : cmpV z y ≤ 0 := cmpV_trans (h.1.trans k.1).symm (by omega) hxy
      have e2 : cmpV y z = 0 := by have := cmpV_anti k.1; omega
      rw [if_neg (by simp [e1])] at hi
      rw [if_neg (by simp [e2])] at hj
      exact ih hi hj
theorem cmpRows_zero : ∀ {a b : List Val}, kinds a = kinds b → (∀ v ∈ a, isV v = true) → (∀ v ∈ b, isV v = true) → (cmpRows a b = 0 ↔ sameR a b = true)
  | [], [], _, _, _ => by simp [cmpRows, sameR]
  | [], _ :: _, h, _, _ => by simp [kinds] at h
  | _ :: _, [], h, _, _ => by simp [kinds] at h
  | x :: a, y :: b, h, ha, hb => by
    simp only [kinds, List.map_cons, List.cons.injEq] at h
    have ih := cmpRows_zero (a := a) (b := b) h.2 (fun v hv => ha v (List.mem_cons_of_mem _ hv)) (fun v hv => hb v (List.mem_cons_of_mem _ hv))
    have hx := cmpV_zero h.1 (ha x List.mem_cons_self) (hb y List.mem_cons_self)
    have hlen : a.length = b.length := by have := congrArg List.length h.2; simpa using this
    simp only [sameR, hlen, decide_true, Bool.true_and] at ih
    simp only [cmpRows, sameR, List.length_cons, hlen, decide_true, Bool.true_and, List.zipWith_cons_cons, List.all_cons, id]
    by_cases h0 : cmpV x y = 0
    · rw [if_neg (by simp [h0]), ih, hx.1 h0]; simp
    · rw [if_pos h0]
      have : sameV x y = false := by cases hs : sameV x y; rfl; exact absurd (hx.2 hs) h0
      simp [this, h0]
/-! rows of numbers -/
theorem colN_kind (n : Int) (i : Nat) : (colN n i).kind = 1 ∨ (colN n i).kind = 2 := by
  simp only [colN]; omega
theorem schemaN_kind {n : Int} {c : Col} (h : c ∈ schemaN n) : c.kind = 1 ∨ c.kind = 2 := by
  simp only [schemaN, colsN, List.mem_cons, List.mem_map] at h
  rcases h with rfl | ⟨i, _, rfl⟩
  · exact .inl rfl
  · exact colN_kind n i
theorem schemaN_zero (n : Int) : (schemaN n)[0]? = some keyCol := rfl
theorem valueN_kind (c : Col) (n : Int) : (valueN c n).kind = c.kind := by unfold valueN; split <;> (try split) <;> rfl
theorem valueN_isV {c : Col} (h : c.kind = 1 ∨ c.kind = 2) (n : Int) : isV (valueN c n) = true := by
  unfold valueN
  split
  · rcases h with h | h <;> simp [isV, h, bz]
  · split
    · rename_i h1; simp [isV, h1, bz]
    · rename_i h1
      have h2 : c.kind = 2 := h.resolve_left h1
      have : (bytesV n).length ≤ 64 := by
        simp only [bytesV, List.length_drop, List.length_take, List.length_cons, List.length_nil]; omega
      simp [isV, h2, bz, this]
theorem valueN_holds {c : Col} (h : c.kind = 1 ∨ c.kind = 2) (n : Int) : holds c (valueN c n) = true := by
  have h1 := valueN_isV h n
  have h2 := valueN_kind c n
  unfold holds
  rw [h1, h2]
  simp only [decide_true, Bool.true_and]
  unfold valueN
  split
  · rename_i h3; simp [h3.1]
  · split <;> simp
theorem rowE_holds {n m : Int} {i : Nat} {c : Col} (h : (schemaN n)[i]? = some c) : holds c (rowE m i c) = true := by
  unfold rowE
  split
  · rename_i h0
    subst h0
    rw [schemaN_zero] at h
    injection h with h
    subst h
    rfl
  · exact valueN_holds (schemaN_kind (List.mem_of_getElem? h)) _
theorem holds_isV {c : Col} {v : Val} (h : holds c v = true) : isV v = true ∧ v.kind = c.kind := by
  simp [holds] at h; exact ⟨h.1, h.2.1⟩
theorem rowN_isV (n m : Int) : ∀ v ∈ rowN (schemaN n) m, isV v = true := fun v hv => by
  obtain ⟨i, hi⟩ := List.getElem?_of_mem hv
  have hl : i < (schemaN n).length := by have := (List.getElem?_eq_some_iff.1 hi).1; rwa [rowN_length] at this
  have hc : (schemaN n)[i]? = some (schemaN n)[i] := List.getElem?_eq_getElem hl
  rw [rowN_get hc] at hi
  injection hi with hi
  subst hi
  exact (holds_isV (rowE_holds hc)).1
theorem rowN_kinds (n m : Int) : kinds (rowN (schemaN n) m) = (schemaN n).map Col.kind := by
  apply List.ext_getElem?
  intro i
  simp only [kinds, List.getElem?_map]
  by_cases hl : i < (schemaN n).length
  · have hc : (schemaN n)[i]? = some (schemaN n)[i] := List.getElem?_eq_getElem hl
    rw [rowN_get hc, hc]
    exact congrArg some (holds_isV (rowE_holds hc)).2
  · rw [List.getElem?_eq_none (l := schemaN n) (by omega), List.getElem?_eq_none (l := rowN (schemaN n) m) (by rw [rowN_length]; omega)]
    rfl
end Go.Den
namespace Go.Den
open Go
theorem fits_rowN (n m : Int) : fits (schemaN n) (rowN (schemaN n) m) = true := by
  unfold fits
  rw [rowN_length]
  simp only [decide_true, Bool.true_and, List.all_eq_true]
  intro b hb
  obtain ⟨i, hi⟩ := List.getElem?_of_mem hb
  rw [List.getElem?_zipWith] at hi
  cases hc : (schemaN n)[i]? with
  | none => rw [hc] at hi; simp at hi
  | some c =>
    rw [hc, rowN_get hc] at hi
    simp only [Option.some.injEq] at hi
    rw [← hi]
    exact rowE_holds hc
theorem fits_len {s : List Col} {r : List Val} (h : r.length ≠ s.length) : fits s r = false := by
  unfold fits
  rw [decide_eq_false h, Bool.false_and]
theorem fits_set {s : List Col} {r : List Val} (h : fits s r = true) {k : Nat} {c : Col} (hc : s[k]? = some c) (w : Val) : fits s (r.set k w) = holds c w := by
  simp only [fits, Bool.and_eq_true, decide_eq_true_eq] at h
  obtain ⟨hl, ha⟩ := h
  rw [List.all_eq_true] at ha
  have hk : k < s.length := (List.getElem?_eq_some_iff.1 hc).1
  unfold fits
  rw [List.length_set, decide_eq_true hl, Bool.true_and]
  have hget : (List.zipWith holds s (r.set k w))[k]? = some (holds c w) := by
    rw [List.getElem?_zipWith, hc, List.getElem?_set_self (by omega)]
  cases hw : holds c w with
  | false =>
    rw [hw] at hget
    rw [List.all_eq_false]
    exact ⟨false, List.mem_of_getElem? hget, by simp⟩
  | true =>
    rw [List.all_eq_true]
    intro b hb
    obtain ⟨i, hi⟩ := List.getElem?_of_mem hb
    by_cases hik : i = k
    · subst hik
      rw [hget, hw] at hi
      injection hi with hi
      rw [← hi]; rfl
    · rw [List.getElem?_zipWith, List.getElem?_set_ne (Ne.symm hik)] at hi
      refine ha b (List.mem_of_getElem? (i := i) ?_)
      rw [List.getElem?_zipWith]; exact hi
theorem take_map (r : List Val) (n : Nat) : (r.map Val.pv).take n = (r.take n).map Val.pv := List.map_take.symm
theorem snoc_bl (r : List Val) (a : Bool) (b c : Int) (o : Option (List Int)) : r.map Val.pv ++ [[.bool a, .int .i64 b, .int .i64 c, bl o]] = (r ++ [(⟨a, b, c, o⟩ : Val)]).map Val.pv := by simp [Val.pv]
theorem set_bl (r : List Val) (k : Nat) (a : Bool) (b c : Int) (o : Option (List Int)) : (r.map Val.pv).set k [.bool a, .int .i64 b, .int .i64 c, bl o] = (r.set k (⟨a, b, c, o⟩ : Val)).map Val.pv := by simp [Val.pv, List.map_set]
theorem set_nils (r : List Val) (k : Nat) (a : Bool) (b c : Int) : (r.map Val.pv).set k [.bool a, .int .i64 b, .int .i64 c, .nils] = (r.set k (⟨a, b, c, none⟩ : Val)).map Val.pv := set_bl r k a b c none
theorem set_sl (r : List Val) (k : Nat) (a : Bool) (b c : Int) (zs : List Int) : (r.map Val.pv).set k [.bool a, .int .i64 b, .int .i64 c, .sl 1 (ints .u8 zs)] = (r.set k (⟨a, b, c, some zs⟩ : Val)).map Val.pv := set_bl r k a b c (some zs)
end Go.Den

/- Den, part Zm: rows of bools, and their bytes. No program in sight. -/
namespace Go.Den
open Go
def bools (bs : List Bool) : List (List PV) := bs.map fun b => [PV.bool b]
theorem bools_length (bs : List Bool) : (bools bs).length = bs.length := by simp [bools]
theorem bools_get (bs : List Bool) (i : Nat) : (bools bs)[i]? = bs[i]?.map fun b => [PV.bool b] := by simp [bools]
theorem bools_set (bs : List Bool) (i : Nat) (b : Bool) : (bools bs).set i [.bool b] = bools (bs.set i b) := by simp [bools, List.map_set]
theorem bools_append (xs ys : List Bool) : bools xs ++ bools ys = bools (xs ++ ys) := by simp [bools]
theorem bools_one (b : Bool) : [[PV.bool b]] = bools [b] := rfl
theorem bools_cons (b : Bool) (bs : List Bool) : [PV.bool b] :: bools bs = bools (b :: bs) := rfl
theorem bools_take (bs : List Bool) (n : Nat) : (bools bs).take n = bools (bs.take n) := by simp [bools, List.map_take]
theorem bools_drop (bs : List Bool) (n : Nat) : (bools bs).drop n = bools (bs.drop n) := by simp [bools, List.map_drop]
theorem bools_rep (n : Nat) (b : Bool) : List.replicate n [PV.bool b] = bools (List.replicate n b) := by simp [bools]
theorem bools_empty (bs : List Bool) : (bools bs).isEmpty = bs.isEmpty := by cases bs <;> rfl
theorem bools_shares (bs : List Bool) : ((bools bs).any fun x => x.any sharesP) = false := by
  rw [List.any_eq_false]
  intro x hx
  obtain ⟨z, _, rfl⟩ := List.mem_map.1 hx
  simp [sharesP]
theorem sealLL_bools (bs : List Bool) : sealLL (bools bs) = .ret (bools bs, []) := by
  induction bs with
  | nil => rfl
  | cons z r ih =>
    show (sealL [PV.bool z]).bind _ = _
    show (sealLL (bools r)).bind (fun y => RM.ret ([PV.bool z] :: y.1, [] ++ y.2)) = _
    rw [ih]
    rfl
attribute [go_sem] bools_length bools_get bools_set bools_append bools_one bools_cons bools_take bools_drop bools_rep bools_empty bools_shares sealLL_bools
/-! ### their bytes -/
def bitI (b : Bool) : Int := if b then 1 else 0
def countL (l : List Bool) : Nat := l.count true
def encN (l : List Bool) : List Int := num l.length ++ (if countL l = 0 then [0] else if countL l = l.length then [1] else [2] ++ packL 1 (l.map bitI))
def boolsN (l : List Int) (how : Int) : List Bool := (l.take 60).map fun z => decide (how % 4 = 1) || (decide (1 < how % 4) && decide (z % 2 = 1))
def mixedN (zs : List Int) (n : Nat) : Option (List Bool) :=
  if zs.length < (n + 7) / 8 then none else match unpack 1 (zs.take ((n + 7) / 8)) n with | some ws => some (ws.map fun u => decide (u = 1)) | none => none
def tellN (t : Int) (b : List Int) (n : Nat) : Option (List Bool) :=
  if t = 0 then some (List.replicate n false) else if t = 1 then some (List.replicate n true) else if t = 2 then mixedN b n else none
def decN (zs : List Int) : Option (List Bool × List Int) :=
  match pnum 0 0 zs with
  | none => none
  | some (n, r) =>
    if 65535 < n then none else
    match r with
    | [] => none
    | t :: b =>
      match tellN t b n.toNat with
      | none => none
      | some l => if (encN l).length ≤ zs.length ∧ encN l = zs.take (encN l).length then some (l, zs.drop (encN l).length) else none
theorem bits_R64 (l : List Bool) : R64 (l.map bitI) := fun z hz => by
  obtain ⟨b, _, rfl⟩ := List.mem_map.1 hz
  cases b <;> decide
theorem countL_le (l : List Bool) : countL l ≤ l.length := List.count_le_length
theorem countL_zero {l : List Bool} (h : countL l = 0) : l = List.replicate l.length false := by
  refine List.eq_replicate_iff.2 ⟨rfl, fun b hb => ?_⟩
  cases b
  · rfl
  · exact absurd hb (List.count_eq_zero.1 h)
theorem countL_all {l : List Bool} (h : countL l = l.length) : l = List.replicate l.length true :=
  List.eq_replicate_iff.2 ⟨rfl, fun b hb => (List.count_eq_length.1 h b hb).symm⟩
theorem bits_back (l : List Bool) : (l.map bitI).map (fun u => decide (u = 1)) = l := by
  rw [List.map_map]
  conv => rhs; rw [← List.map_id l]
  exact List.map_congr_left fun b _ => by cases b <;> rfl
theorem bits_mod (l : List Bool) : ((l.map bitI).map fun x => x % ((2 ^ 1 : Nat) : Int)) = l.map bitI := by
  rw [List.map_map]
  exact List.map_congr_left fun b _ => by cases b <;> rfl
theorem mixed_back (l : List Bool) (more : List Int) (hl : l.length ≤ 65535) : mixedN (packL 1 (l.map bitI) ++ more) l.length = some l := by
  have hlen : (packL 1 (l.map bitI)).length = (l.length + 7) / 8 := by rw [packL_length, List.length_map, Nat.one_mul]
  have hu := unpack_packL (m := 1) (bits_R64 l) (by decide) (by simpa using hl)
  rw [List.length_map, bits_mod] at hu
  unfold mixedN
  rw [if_neg (by rw [List.length_append]; omega), ← hlen, List.take_left]
  have hu' : unpack 1 (packL 1 (l.map bitI)) (l.length : Int) = some (l.map bitI) := hu
  rw [hu']
  simp only [bits_back]
theorem dec_enc (l : List Bool) (more : List Int) (hl : l.length ≤ 65535) : decN (encN l ++ more) = some (l, more) := by
  have h0 : (0 : Int) ≤ l.length := by omega
  have h1 : (l.length : Int) < 18446744073709551616 := by omega
  have key : ∀ t b, encN l = num l.length ++ (t :: b) → tellN t (b ++ more) l.length = some l → decN (encN l ++ more) = some (l, more) := by
    intro t b he ht
    have e : encN l ++ more = num l.length ++ (t :: (b ++ more)) := by rw [he, List.append_assoc]; rfl
    unfold decN
    rw [e, pnum_of_num _ h0 h1]
    dsimp only
    rw [if_neg (by omega), Int.toNat_natCast, ht]
    dsimp only
    rw [← e, if_pos ⟨by rw [List.length_append]; omega, by rw [List.take_left]⟩, List.drop_left]
  by_cases c0 : countL l = 0
  · refine key 0 [] (by rw [encN, if_pos c0]) ?_
    rw [tellN, if_pos rfl, ← countL_zero c0]
  · by_cases c1 : countL l = l.length
    · refine key 1 [] (by rw [encN, if_neg c0, if_pos c1]) ?_
      rw [tellN, if_neg (by decide), if_pos rfl, ← countL_all c1]
    · refine key 2 (packL 1 (l.map bitI)) (by rw [encN, if_neg c0, if_neg c1]; rfl) ?_
      rw [tellN, if_neg (by decide), if_neg (by decide), if_pos rfl, mixed_back l more hl]
theorem encN_R8 (l : List Bool) (hl : l.length ≤ 65535) : R8 (encN l) := by
  unfold encN
  refine (num_r8 (by omega) (by omega)).append ?_
  split
  · intro z hz; simp at hz; omega
  · split
    · intro z hz; simp at hz; omega
    · intro z hz
      rcases List.mem_append.1 hz with h | h
      · simp at h; omega
      · exact packL_R8 _ _ z h
theorem encN_len (l : List Bool) (hl : l.length ≤ 65535) : (encN l).length ≤ 10000 := by
  have h1 := num_len10 (u := (l.length : Int)) (by omega) (by omega)
  unfold encN
  rw [List.length_append]
  split
  · simp; omega
  · split
    · simp; omega
    · rw [List.length_append, packL_length, List.length_map]; simp; omega
end Go.Den
namespace Go.Den
open Go
def updT (n i : Nat) : List Bool := (List.range n).map fun j => decide (j < i)
theorem updT_zero (n : Nat) : updT n 0 = List.replicate n false := by
  simp only [updT, Nat.not_lt_zero, decide_false]
  exact List.map_const' .. |>.trans (by simp)
theorem updT_end (n : Nat) : updT n n = List.replicate n true := by
  refine List.eq_replicate_iff.2 ⟨by simp [updT], fun b hb => ?_⟩
  obtain ⟨j, hj, rfl⟩ := List.mem_map.1 hb
  simpa using hj
theorem updT_length (n i : Nat) : (updT n i).length = n := by simp [updT]
theorem updT_get {n i j : Nat} (h : j < n) : (updT n i)[j]? = some (decide (j < i)) := by simp [updT, h]
theorem updT_set {n i : Nat} (h : i < n) : (updT n i).set i true = updT n (i + 1) := by
  apply List.ext_getElem?
  intro j
  rw [List.getElem?_set]
  by_cases hj : j < n
  · rw [updT_get hj, updT_get hj, updT_length]
    split
    · rename_i h; subst h; simp
    · rename_i hne
      congr 1
      exact decide_eq_decide.2 (by omega)
  · rw [List.getElem?_eq_none (l := updT n (i + 1)) (by rw [updT_length]; omega), List.getElem?_eq_none (l := updT n i) (by rw [updT_length]; omega), if_neg (by omega)]
end Go.Den
namespace Go.Den
open Go
/-- a number's bytes are these alone -/
theorem pnum_canon : ∀ {zs : List Int} {i : Nat} {u v : Int} {r : List Int}, R8 zs → pnum i u zs = some (v, r) → ∃ w : Int, 0 ≤ w ∧ (0 < i → 0 < w) ∧ v = u + w * 128 ^ i ∧ zs = num w ++ r
  | [], i, u, v, r, _, h => by simp [pnum] at h
  | c :: zs, i, u, v, r, h8, h => by
    have hc := h8 c List.mem_cons_self
    rw [pnum] at h
    split at h
    · cases h
    · rename_i hbad
      split at h
      · rename_i hlt
        simp only [Option.some.injEq, Prod.mk.injEq] at h
        refine ⟨c, hc.1, fun hi => ?_, ?_, ?_⟩
        · by_cases h0 : c = 0
          · exact absurd (.inr ⟨hi, h0⟩) hbad
          · omega
        · rw [← h.1, Int.emod_eq_of_lt hc.1 hlt]
        · rw [num_lt hc.1 hlt, ← h.2]; rfl
      · rename_i hge
        obtain ⟨w, hw0, hwi, hv, hz⟩ := pnum_canon (fun z hz => h8 z (List.mem_cons_of_mem _ hz)) h
        have hw1 := hwi (by omega)
        refine ⟨c % 128 + 128 * w, by omega, fun _ => by omega, ?_, ?_⟩
        · rw [hv, Int.pow_succ, Int.add_mul, Int.mul_comm 128 w, Int.mul_assoc w 128, Int.mul_comm 128 (128 ^ i)]; omega
        · rw [num_ge (by omega), hz, show (c % 128 + 128 * w) % 128 + 128 = c by omega, show (c % 128 + 128 * w) / 128 = w by omega]; rfl
theorem pnum_num_eq {zs : List Int} {v : Int} {r : List Int} (h8 : R8 zs) (h : pnum 0 0 zs = some (v, r)) : zs = num v ++ r := by
  obtain ⟨w, _, _, hv, hz⟩ := pnum_canon h8 h
  have : v = w := by rw [hv]; simp
  rw [this]; exact hz
end Go.Den
