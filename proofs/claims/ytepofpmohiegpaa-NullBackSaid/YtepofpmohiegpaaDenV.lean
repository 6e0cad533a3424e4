/- Den, part V: a region, as the evaluator runs it. -/
import Derived.Test.YtepofpmohiegpaaDenU
import Derived.LoopN
namespace Go.Den

/-! ### in the text's order -/
def valF (E : Env) (call : Call) (ops : Array Oper) (ep i : Nat) (F : FS) : PV × Wr :=
  match ops[i]? with
  | some o => match stepF E call ops ep i o F with | some (x, _) => x | none => (.undef, [])
  | none => (.undef, [])
def seqF (E : Env) (call : Call) (ops : Array Oper) (ep : Nat) (F0 : FS) : Nat → FS
  | 0 => F0
  | k + 1 => (seqF E call ops ep F0 k).put (dstO ops k) (valF E call ops ep k (seqF E call ops ep F0 k)).1 (valF E call ops ep k (seqF E call ops ep F0 k)).2
def valsF (E : Env) (call : Call) (ops : Array Oper) (ep : Nat) (F0 : FS) (i : Nat) : PV × Wr := valF E call ops ep i (seqF E call ops ep F0 i)
theorem accF_seq {E : Env} {call : Call} {ops : Array Oper} {ep : Nat} {F0 : FS} : ∀ k, accF ops (valsF E call ops ep F0) (fun _ => true) F0 k = seqF E call ops ep F0 k
  | 0 => rfl
  | k + 1 => by simp only [accF, if_true, accF_seq k, seqF, valsF]

theorem runO_spec {E : Env} {call : Call} {ops : Array Oper} {ep : Nat} {F0 : FS} : ∀ {l : List Oper} {i : Nat} {S S' : St} {trs : List Tr}, runO E call ops i l S = some (S', trs) → (∀ j, l[j]? = ops[i + j]?) → S.fs = seqF E call ops ep F0 i → S.ep = ep →
    S'.fs = seqF E call ops ep F0 (i + l.length) ∧ S'.ep = ep ∧ ∀ (j : Nat) o, l[j]? = some o → ∃ t, trs[j]? = some t ∧ stepF E call ops ep (i + j) o (seqF E call ops ep F0 (i + j)) = some (valsF E call ops ep F0 (i + j), t.rc, t.ro) ∧
      t.w = wrHard (valsF E call ops ep F0 (i + j)).2 ∧ t.fz = wrSoft (valsF E call ops ep F0 (i + j)).2
  | [], i, S, S', trs, h, _, hf, he => by
    simp only [runO, Option.some.injEq, Prod.mk.injEq] at h
    obtain ⟨rfl, rfl⟩ := h
    exact ⟨hf, he, by simp⟩
  | o :: r, i, S, S', trs, h, hl, hf, he => by
    simp only [runO] at h
    split at h
    · cases h
    · rename_i S1 t hst
      split at h
      · cases h
      · rename_i S2 ts hr
        simp only [Option.some.injEq, Prod.mk.injEq] at h
        obtain ⟨rfl, rfl⟩ := h
        obtain ⟨v, wr, rc, ro, h1, rfl, rfl⟩ := stepO_spec hst
        rw [he, hf] at h1
        have hoi : ops[i]? = some o := by have := hl 0; simpa using this.symm
        have hval : valsF E call ops ep F0 i = (v, wr) := by simp [valsF, valF, hoi, h1]
        have hput : (S.put o.dst v wr).fs = seqF E call ops ep F0 (i + 1) := by
          rw [St.fs_put, hf, seqF]
          have hval' : valF E call ops ep i (seqF E call ops ep F0 i) = (v, wr) := hval
          rw [hval']
          simp [dstO, hoi]
        obtain ⟨a1, a2, a3⟩ := runO_spec (l := r) (i := i + 1) hr (fun j => by have := hl (j + 1); simpa [Nat.add_assoc, Nat.add_comm 1 j] using this) hput he
        refine ⟨by rw [a1, List.length_cons, Nat.add_assoc, Nat.add_comm 1], a2, fun j o' hj => ?_⟩
        cases j with
        | zero =>
          simp at hj
          subst hj
          exact ⟨_, rfl, by rw [Nat.add_zero, hval]; exact h1, by rw [Nat.add_zero, hval], by rw [Nat.add_zero, hval]⟩
        | succ j =>
          obtain ⟨t, b1, b2, b3, b4⟩ := a3 j o' (by simpa using hj)
          rw [show i + 1 + j = i + (j + 1) by omega] at b2 b3 b4
          exact ⟨t, by simpa using b1, b2, b3, b4⟩

/-! ### what needs no memory -/
theorem run_ofb {α β : Type} {x : Option α} {f : α → RM β} {m : Nat → Option Ent} {r} (h : ((RM.of x).bind f).run m = some r) : ∃ a, x = some a ∧ (f a).run m = some r := by
  cases x with
  | none => simp [RM.of, RM.bind, RM.run] at h
  | some a => exact ⟨a, rfl, h⟩
def Quiet (r : (PV × Wr) × List Nat × List Nat) : Prop := r.1.2 = [] ∧ r.2.1 = [] ∧ r.2.2 = []
theorem retO_quiet {x : Option PV} {m r} (h : (retO x).run m = some r) : Quiet r := by
  cases x with
  | none => simp [retO, RM.run] at h
  | some a => simp only [retO, RM.run, Option.some.injEq] at h; subst h; exact ⟨rfl, rfl, rfl⟩
theorem ret_quiet {x : PV} {m r} (h : (RM.ret (x, ([] : Wr))).run m = some r) : Quiet r := by
  simp only [RM.run, Option.some.injEq] at h; subst h; exact ⟨rfl, rfl, rfl⟩
theorem fail_quiet {m : Nat → Option Ent} {r : (PV × Wr) × List Nat × List Nat} (h : (RM.fail : RM (PV × Wr)).run m = some r) : Quiet r := by
  simp [RM.run] at h
theorem idless_quiet {E : Env} {call : Call} {fid : Nat} {g : Nat → Option PV} {op : Op} (hi : idless op = true) {m r} (h : (opSem E call fid g op).run m = some r) : Quiet r := by
  cases op with
  | move x => exact retO_quiet h
  | assign x => exact retO_quiet h
  | pick c x y =>
    simp only [opSem] at h
    split at h
    · split at h <;> exact retO_quiet h
    · exact fail_quiet h
  | build t ps =>
    obtain ⟨a, _, h⟩ := run_ofb h
    simp only [buildS] at h
    split at h
    · split at h
      · exact ret_quiet h
      · exact fail_quiet h
    · exact fail_quiet h
  | binOp op t x y t2 =>
    obtain ⟨a, _, h⟩ := run_ofb h
    obtain ⟨b, _, h⟩ := run_ofb h
    exact retO_quiet h
  | unOp op t x =>
    obtain ⟨a, _, h⟩ := run_ofb h
    exact retO_quiet h
  | nilCheck x =>
    obtain ⟨a, _, h⟩ := run_ofb h
    split at h
    · exact ret_quiet h
    · exact fail_quiet h
  | makeFunc fn first caps =>
    cases fn with
    | func f =>
      simp only [opSem] at h
      split at h
      · split at h
        · split at h
          · exact ret_quiet h
          · exact fail_quiet h
        · exact fail_quiet h
      · exact fail_quiet h
    | _ => exact fail_quiet h
  | fieldAddr t x j =>
    obtain ⟨a, _, h⟩ := run_ofb h
    simp only [fieldAddrS] at h
    split at h
    · split at h
      · split at h
        · exact ret_quiet h
        · exact ret_quiet h
        · exact ret_quiet h
        · exact fail_quiet h
      · exact fail_quiet h
    · exact fail_quiet h
  | field t x j =>
    obtain ⟨a, _, h⟩ := run_ofb h
    split at h
    · exact retO_quiet h
    · exact fail_quiet h
  | index t x i =>
    obtain ⟨a, _, h⟩ := run_ofb h
    obtain ⟨b, _, h⟩ := run_ofb h
    simp only [indexS] at h
    split at h
    · split at h
      · split at h
        · exact ret_quiet h
        · exact fail_quiet h
      · exact fail_quiet h
    · exact fail_quiet h
  | extract x j =>
    obtain ⟨a, _, h⟩ := run_ofb h
    split at h
    · exact retO_quiet h
    · exact fail_quiet h
  | _ => simp [idless] at hi
theorem stepF_quiet {E : Env} {call : Call} {ops : Array Oper} {ep i : Nat} {o : Oper} {F : FS} (hi : idless o.op = true) {r} (h : stepF E call ops ep i o F = some r) : Quiet r := by
  unfold stepF at h
  split at h
  · cases h
  · simp only [Option.some.injEq] at h; subst h; exact ⟨rfl, rfl, rfl⟩
  · exact idless_quiet hi h

/-! ### what is checked -/
theorem meets_spec {a b : List Nat} (h : meets a b = false) : ∀ d ∈ a, d ∉ b := fun d ha hb => by
  have : meets a b = true := List.any_eq_true.2 ⟨d, ha, List.any_eq_true.2 ⟨d, hb, by simp⟩⟩
  rw [h] at this; cases this
theorem clash1_spec {x y : Tr} (h : clash1 x y = false) : U1 x y := by
  simp only [clash1, Bool.or_eq_false_iff] at h
  obtain ⟨⟨⟨⟨h1, h2⟩, h3⟩, h4⟩, h5⟩ := h
  exact ⟨fun d hd => ⟨meets_spec h1 d hd, meets_spec h2 d hd, meets_spec h3 d hd, meets_spec h4 d hd⟩, meets_spec h5⟩
theorem inner_spec {opsA : Array Oper} {bef : Array Nat} {oj : Oper} {j : Nat} : ∀ {l : List (Oper × Nat)} {acc : Option (List (Nat × Nat))} {ps : List (Nat × Nat)},
    l.foldr (init := acc) (fun (oi, i) acc => if i < j && !(bef.getD j 0).testBit i then (if !oi.apart opsA oj then none else if idless oi.op || idless oj.op then acc else acc.map ((i, j) :: ·)) else acc) = some ps →
    ∃ ps0, acc = some ps0 ∧ (∀ x ∈ ps0, x ∈ ps) ∧ ∀ oi i, (oi, i) ∈ l → i < j → (bef.getD j 0).testBit i = false → oi.apart opsA oj = true ∧ (idless oi.op = true ∨ idless oj.op = true ∨ (i, j) ∈ ps)
  | [], acc, ps, h => ⟨ps, h, fun _ h => h, by simp⟩
  | (o1, i1) :: r, acc, ps, h => by
    simp only [List.foldr_cons] at h
    split at h
    · rename_i hc
      split at h
      · cases h
      · rename_i hap
        have hap : o1.apart opsA oj = true := by simpa using hap
        split at h
        · rename_i hid
          obtain ⟨ps0, a1, a2, a3⟩ := inner_spec h
          refine ⟨ps0, a1, a2, fun oi i hm hij hb => ?_⟩
          rcases List.mem_cons.1 hm with hm | hm
          · injection hm with h1 h2
            subst h1; subst h2
            exact ⟨hap, (Bool.or_eq_true _ _ ▸ hid).imp id .inl⟩
          · exact a3 oi i hm hij hb
        · obtain ⟨ps1, h1, rfl⟩ := Option.map_eq_some_iff.1 h
          obtain ⟨ps0, a1, a2, a3⟩ := inner_spec h1
          refine ⟨ps0, a1, fun x hx => List.mem_cons_of_mem _ (a2 x hx), fun oi i hm hij hb => ?_⟩
          rcases List.mem_cons.1 hm with hm | hm
          · injection hm with h1 h2
            subst h1; subst h2
            exact ⟨hap, .inr (.inr (List.mem_cons_self))⟩
          · exact (a3 oi i hm hij hb).imp id fun h => h.imp id fun h => h.imp id fun h => List.mem_cons_of_mem _ h
    · rename_i hc
      obtain ⟨ps0, a1, a2, a3⟩ := inner_spec h
      refine ⟨ps0, a1, a2, fun oi i hm hij hb => ?_⟩
      rcases List.mem_cons.1 hm with hm | hm
      · injection hm with h1 h2
        subst h1; subst h2
        exact absurd (by rw [hb]; simp [hij]) hc
      · exact a3 oi i hm hij hb
theorem hardPairs_spec {L : List (Oper × Nat)} {opsA : Array Oper} {bef : Array Nat} : ∀ {l : List (Oper × Nat)} {ps : List (Nat × Nat)},
    l.foldr (init := some []) (fun (oj, j) acc => L.foldr (init := acc) (fun (oi, i) acc => if i < j && !(bef.getD j 0).testBit i then (if !oi.apart opsA oj then none else if idless oi.op || idless oj.op then acc else acc.map ((i, j) :: ·)) else acc)) = some ps →
    ∀ oj j, (oj, j) ∈ l → ∀ oi i, (oi, i) ∈ L → i < j → (bef.getD j 0).testBit i = false → oi.apart opsA oj = true ∧ (idless oi.op = true ∨ idless oj.op = true ∨ (i, j) ∈ ps)
  | [], _, _, _, _, hm => by simp at hm
  | (o1, j1) :: r, ps, h, oj, j, hm => by
    simp only [List.foldr_cons] at h
    obtain ⟨ps0, a1, a2, a3⟩ := inner_spec h
    rcases List.mem_cons.1 hm with hm | hm
    · injection hm with h1 h2
      subst h1; subst h2
      exact a3
    · intro oi i hi hij hb
      exact (hardPairs_spec a1 oj j hm oi i hi hij hb).imp id fun h => h.imp id fun h => h.imp id fun h => a2 _ h

theorem reg_of {E : Env} {call : Call} {ops : Array Oper} {S S' : St} {trs : List Tr} (hrun : runO E call ops 0 ops.toList S = some (S', trs)) (hok : drawOK ops trs = true) :
    Reg E call ops S.ep S.fs (valsF E call ops S.ep S.fs) (fun i => trs.getD i ⟨[], [], [], []⟩) (fun j => (Region.before ops).getD j 0) := by
  obtain ⟨_, _, hj⟩ := runO_spec (F0 := S.fs) (ep := S.ep) hrun (by simp) rfl rfl
  simp only [Nat.zero_add] at hj
  have hat : ∀ (i : Nat) o, ops[i]? = some o → stepF E call ops S.ep i o (seqF E call ops S.ep S.fs i) = some (valsF E call ops S.ep S.fs i, (trs.getD i ⟨[], [], [], []⟩).rc, (trs.getD i ⟨[], [], [], []⟩).ro) ∧
      (trs.getD i ⟨[], [], [], []⟩).w = wrHard (valsF E call ops S.ep S.fs i).2 ∧ (trs.getD i ⟨[], [], [], []⟩).fz = wrSoft (valsF E call ops S.ep S.fs i).2 ∧ ∃ t, trs[i]? = some t ∧ trs.getD i ⟨[], [], [], []⟩ = t := fun i o ho => by
    obtain ⟨t, b1, b2, b3, b4⟩ := hj i o (by simpa using ho)
    have : trs.getD i ⟨[], [], [], []⟩ = t := by simp [List.getD_eq_getElem?_getD, b1]
    rw [this]
    exact ⟨b2, b3, b4, t, b1, rfl⟩
  unfold drawOK at hok
  simp only [Bool.and_eq_true] at hok
  obtain ⟨⟨⟨_, hback⟩, hbef⟩, hpairs⟩ := hok
  have hmem : ∀ {i : Nat} {o : Oper}, ops[i]? = some o → (o, i) ∈ ops.toList.zipIdx := fun h => List.mem_zipIdx_iff_getElem?.2 (by simpa using h)
  refine ⟨fun i o ho => by rw [accF_seq]; exact (hat i o ho).1, fun i hi => have hs : ops[i]? = some ops[i] := by simp [hi]
    ⟨(hat i _ hs).2.1, (hat i _ hs).2.2.1⟩, fun i o ho e he hb => ?_, fun j o ho i hi hb => ?_, fun i j oi oj hij hoi hoj => ?_⟩
  · have := List.all_eq_true.1 hback _ (hmem ho)
    simp only [Array.all_eq_true_iff_forall_mem] at this
    have := this e he
    simpa [hb] using this
  · unfold befOK at hbef
    have := List.all_eq_true.1 hbef _ (hmem ho)
    simp only at this
    have := List.all_eq_true.1 this i (by simpa using hi)
    simp only [hb, Bool.not_true, Bool.false_or] at this
    rw [← Array.any_toList] at this
    obtain ⟨e, he, hee⟩ := List.any_eq_true.1 this
    have he : e ∈ o.after := by simpa using he
    simp only [Bool.and_eq_true, Bool.or_eq_true, beq_iff_eq] at hee
    exact ⟨e, he, hee.1, hee.2⟩
  · by_cases hb : ((Region.before ops).getD j 0).testBit i = true
    · exact .inl hb
    · right
      split at hpairs
      · cases hpairs
      · rename_i ps hps
        obtain ⟨h1, h2⟩ := hardPairs_spec hps oj j (hmem hoj) oi i (hmem hoi) hij (by simpa using hb)
        refine ⟨h1, ?_⟩
        have U0 : ∀ {x y : Tr}, x.rc = [] → x.ro = [] → x.w = [] → x.fz = [] → U1 x y ∧ U1 y x := fun {x y} a b c d => by
          refine ⟨⟨by rw [c]; simp, by rw [d]; simp⟩, fun k hk => ?_, fun k hk => ?_⟩
          · rw [a, b, c, d]; simp
          · rw [b]; simp
        have quiet : ∀ {i : Nat} {o : Oper}, ops[i]? = some o → idless o.op = true → (trs.getD i ⟨[], [], [], []⟩).rc = [] ∧ (trs.getD i ⟨[], [], [], []⟩).ro = [] ∧ (trs.getD i ⟨[], [], [], []⟩).w = [] ∧ (trs.getD i ⟨[], [], [], []⟩).fz = [] := fun {i o} ho hid => by
          obtain ⟨a, b, c, _⟩ := hat i o ho
          obtain ⟨q1, q2, q3⟩ := stepF_quiet hid a
          simp only at q1 q2 q3
          rw [b, c, q1]
          exact ⟨q2, q3, rfl, rfl⟩
        rcases h2 with h2 | h2 | h2
        · obtain ⟨a, b, c, d⟩ := quiet hoi h2
          exact U0 a b c d
        · obtain ⟨a, b, c, d⟩ := quiet hoj h2
          exact (U0 a b c d).symm
        · obtain ⟨_, _, _, t, ht, ht'⟩ := hat i oi hoi
          obtain ⟨_, _, _, t2, ht2, ht2'⟩ := hat j oj hoj
          have := List.all_eq_true.1 hpairs _ h2
          simp only [ht, ht2, Bool.not_eq_true', clash, Bool.or_eq_false_iff] at this
          simp only [ht', ht2']
          exact ⟨clash1_spec this.1, clash1_spec this.2⟩

/-! ### the region -/
theorem plain_sim {E : Env} {call : Call} {ops : Array Oper} {ep : Nat} {F0 : FS} {w0 : World} {bl : List Nat} {A0 : Nat → Prop} {nt : Nat} {D : Nat → Prop} {Q : Exit → Act → World → Prop} (hS : Sound E call)
    (hst : ∀ (i : Nat) o, ops[i]? = some o → ∃ rc ro, stepF E call ops ep i o (seqF E call ops ep F0 i) = some (valsF E call ops ep F0 i, rc, ro)) (hD : ∀ d, D d → d < ep * 33554432) (hd : ∀ (i : Nat) o, ops[i]? = some o → ∀ t, o.dst = some t → t < nt)
    (hQ : ∀ a w, Rel w0 bl A0 nt (DL D ep (fun _ => true) ops.size) (seqF E call ops ep F0 ops.size) a w → Q .normal a w) :
    ∀ (r k : Nat), k + r = ops.size → ∀ a w, Rel w0 bl A0 nt (DL D ep (fun i => decide (i < k)) ops.size) (seqF E call ops ep F0 k) a w → wpOps E.P ops Q (List.range' k r) a w := by
  intro r
  induction r with
  | zero =>
    intro k hk a w hR
    have : k = ops.size := by omega
    subst this
    exact hQ a w (hR.widen fun d hd => hd.imp id fun ⟨i, j, h1, h2, h3⟩ => ⟨i, j, h1, rfl, h3⟩)
  | succ r ih =>
    intro k hk a w hR
    rw [List.range'_succ, wpOps_cons]
    have hlt : k < ops.size := by omega
    have ho : ops[k]? = some ops[k] := by simp [hlt]
    obtain ⟨rc, ro, hs⟩ := hst k _ ho
    have hs := step_sim (v := (valsF E call ops ep F0 k).1) (wr := (valsF E call ops ep F0 k).2) hS hR (fr_DL hD hlt (by simp)) (hd k _ ho) hs
    have hnext : ∀ a' w', Rel w0 bl A0 nt (DL D ep (setL (fun i => decide (i < k)) k) ops.size) ((seqF E call ops ep F0 k).put ops[k].dst (valsF E call ops ep F0 k).1 (valsF E call ops ep F0 k).2) a' w' → wpOps E.P ops Q (List.range' (k + 1) r) a' w' := fun a' w' hR' => by
      refine ih (k + 1) (by omega) a' w' ?_
      have he : seqF E call ops ep F0 (k + 1) = (seqF E call ops ep F0 k).put ops[k].dst (valsF E call ops ep F0 k).1 (valsF E call ops ep F0 k).2 := by
        simp [seqF, valsF, dstO, ho]
      rw [he]
      refine hR'.widen fun d hd => hd.imp id fun ⟨i, j, h1, h2, h3⟩ => ⟨i, j, h1, ?_, h3⟩
      simp only [setL] at h2
      split at h2
      · rename_i hi; simp; omega
      · simp at h2 ⊢; omega
    unfold wpOp
    rw [ho]
    simp only
    split
    · rename_i hw
      rw [if_pos hw] at hs
      exact .inl (hs.wp fun v w' h => hnext _ w' h)
    · rename_i hw
      rw [if_neg hw] at hs
      exact hnext _ _ hs

theorem region_sim {E : Env} {call : Call} {ops : Array Oper} {draw : Bool} {id : Nat} {S S' : St} {trs : List Tr} {w0 w : World} {bl : List Nat} {A0 : Nat → Prop} {nt : Nat} {a : Act} {Q : Exit → Act → World → Prop} (hS : Sound E call) (hm : E.P.follows .mixedOrders = true)
    (hrun : runO E call ops 0 ops.toList S = some (S', trs)) (hok : (Nat.ble ops.size 524288 && (!draw || drawOK ops trs)) = true) (hd : ∀ (i : Nat) o, ops[i]? = some o → ∀ t, o.dst = some t → t < nt)
    (hR : Rel w0 bl A0 nt (fun d => d < S.ep * 33554432) S.fs a w) (hQ : ∀ a w, Rel w0 bl A0 nt (fun d => d < (S.ep + 1) * 33554432) S'.fs a w → Q .normal a w) : S'.ep = S.ep ∧ (Code.region id ops draw).wp E.P Q a w := by
  simp only [Bool.and_eq_true, Nat.ble_eq] at hok
  obtain ⟨hsz, hok⟩ := hok
  obtain ⟨h1, h2, h3⟩ := runO_spec (F0 := S.fs) (ep := S.ep) hrun (by simp) rfl rfl
  simp only [Nat.zero_add, Array.length_toList] at h1 h3
  refine ⟨h2, ?_⟩
  have hfin : ∀ a w, Rel w0 bl A0 nt (DL (fun d => d < S.ep * 33554432) S.ep (fun _ => true) ops.size) (seqF E call ops S.ep S.fs ops.size) a w → Q .normal a w := fun a w h => by
    refine hQ a w ?_
    rw [h1]
    refine h.widen fun d hd => ?_
    show d < (S.ep + 1) * 33554432
    rcases hd with hd | ⟨i, j, h1, _, h2, h3⟩
    · exact Nat.lt_of_lt_of_le hd (Nat.mul_le_mul_right _ (Nat.le_succ _))
    · have h4 : i < 524288 := Nat.lt_of_lt_of_le h1 hsz
      rw [h3, Nat.add_mul, Nat.add_assoc]
      refine Nat.add_lt_add_left ?_ _
      clear hQ hR hd hok hrun h hm hS hsz h1
      omega
  cases draw with
  | false =>
    refine wp_region ?_
    rw [List.range_eq_range']
    refine plain_sim hS (fun i o ho => ?_) (fun d hd => hd) hd hfin ops.size 0 (by omega) a w (hR.widen fun d hd => .inl hd)
    obtain ⟨t, _, b2, _⟩ := h3 i o (by simpa using ho)
    exact ⟨_, _, b2⟩
  | true =>
    simp only [Bool.not_true, Bool.false_or] at hok
    have hG := reg_of hrun hok
    refine wp_region_any hm (any_sim (w0 := w0) (bl := bl) (A0 := A0) hS hG (fun d hd => hd) hd (fun a w h => ?_) ops.size (Array.replicate ops.size false) (by simp) ?_ ?_ a _ ?_)
    · rw [accF_seq] at h
      exact hfin a w h
    · intro j o ho hj
      simp [Array.getElem?_replicate] at hj
      split at hj <;> simp at hj
    · intro U hn hU
      exact nodup_lt _ U hn fun x hx => (hU x hx).1
    · have h0 : accF ops (valsF E call ops S.ep S.fs) (fun i => (Array.replicate ops.size false).getD i false) S.fs ops.size = S.fs := by
        have : ∀ n, accF ops (valsF E call ops S.ep S.fs) (fun _ => false) S.fs n = S.fs := fun n => by
          induction n with
          | zero => rfl
          | succ n ih => simp [accF, ih]
        refine Eq.trans (acc_same fun k hk => ?_) (this ops.size)
        simp [hk]
      rw [h0]
      exact (hR.drawn).widen fun d hd => .inl hd
end Go.Den
