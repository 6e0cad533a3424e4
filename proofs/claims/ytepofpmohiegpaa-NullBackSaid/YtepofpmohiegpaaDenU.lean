/- Den, part U: a region's operations, in any order. -/
import Derived.Test.YtepofpmohiegpaaDenT
namespace Go.Den

/-! ### writes that do not meet -/
def frz (x : Option Ent) : Option Ent := x.map fun e => ⟨false, e.c⟩
theorem frz_frz (x : Option Ent) : frz (frz x) = frz x := by cases x <;> rfl
theorem frz_c (x : Option Ent) : (frz x).map (fun e : Ent => e.c) = x.map (fun e : Ent => e.c) := by cases x <;> rfl
def w1 (x : W1) (o : Option Ent) : Option Ent := match x with | .set c => some ⟨true, c⟩ | .del => none | .fz => frz o
theorem putF_one (m : Nat → Option Ent) (d1 : Nat) (x : W1) (d : Nat) : putF m [(d1, x)] d = if d = d1 then w1 x (m d) else m d := by
  cases x with
  | set c => simp [putF, upd, w1]
  | del => simp [putF, upd, w1]
  | fz =>
    simp only [putF, w1]
    cases hm : m d1 with
    | none =>
      by_cases h : d = d1
      · subst h; simp [hm, frz]
      · simp [h]
    | some e =>
      by_cases h : d = d1
      · subst h; simp [hm, frz, upd]
      · simp [h, upd]
theorem putF_cons (m : Nat → Option Ent) (x : Nat × W1) (r : Wr) : putF m (x :: r) = putF (putF m [x]) r := putF_append m [x] r
theorem putF_congr : ∀ {wr : Wr} {m m' : Nat → Option Ent} {d : Nat}, m d = m' d → putF m wr d = putF m' wr d
  | [], _, _, _, h => h
  | (d1, x) :: r, m, m', d, h => by
    rw [putF_cons, putF_cons m']
    exact putF_congr (wr := r) (by rw [putF_one, putF_one, h])
theorem wrHard_cons (d : Nat) (x : W1) (r : Wr) : wrHard ((d, x) :: r) = (match x with | .fz => wrHard r | _ => d :: wrHard r) := by
  cases x <;> simp [wrHard]
theorem wrSoft_cons (d : Nat) (x : W1) (r : Wr) : wrSoft ((d, x) :: r) = (match x with | .fz => d :: wrSoft r | _ => wrSoft r) := by
  cases x <;> simp [wrSoft]
theorem putF_soft : ∀ {wr : Wr} {m : Nat → Option Ent} {d : Nat}, d ∉ wrHard wr → putF m wr d = if d ∈ wrSoft wr then frz (m d) else m d
  | [], m, d, _ => by simp [putF, wrSoft]
  | (d1, x) :: r, m, d, h => by
    rw [wrHard_cons] at h
    rw [wrSoft_cons, putF_cons]
    cases x with
    | set c =>
      simp only [List.mem_cons, not_or] at h
      rw [putF_soft (wr := r) h.2, putF_one, if_neg h.1]
    | del =>
      simp only [List.mem_cons, not_or] at h
      rw [putF_soft (wr := r) h.2, putF_one, if_neg h.1]
    | fz =>
      simp only at h ⊢
      rw [putF_soft (wr := r) h, putF_one]
      by_cases hd : d = d1
      · subst hd
        simp only [List.mem_cons, true_or, if_true, w1]
        split
        · exact frz_frz _
        · rfl
      · simp only [List.mem_cons, hd, false_or, if_false]
theorem putF_keep {wr : Wr} {m : Nat → Option Ent} {d : Nat} (h1 : d ∉ wrHard wr) (h2 : d ∉ wrSoft wr) : putF m wr d = m d := by
  rw [putF_soft h1, if_neg h2]
theorem putF_keepC {wr : Wr} {m : Nat → Option Ent} {d : Nat} (h1 : d ∉ wrHard wr) : (putF m wr d).map (fun e : Ent => e.c) = (m d).map (fun e : Ent => e.c) := by
  rw [putF_soft h1]
  split
  · exact frz_c _
  · rfl
theorem putF_congrC : ∀ {wr : Wr} {m m' : Nat → Option Ent} {d : Nat}, (m d).map (fun e : Ent => e.c) = (m' d).map (fun e : Ent => e.c) → (putF m wr d).map (fun e : Ent => e.c) = (putF m' wr d).map (fun e : Ent => e.c)
  | [], _, _, _, h => h
  | (d1, x) :: r, m, m', d, h => by
    rw [putF_cons, putF_cons m']
    refine putF_congrC (wr := r) ?_
    rw [putF_one, putF_one]
    split
    · cases x with
      | set c => rfl
      | del => rfl
      | fz => simp only [w1]; rw [frz_c, frz_c, h]
    · exact h
theorem putF_comm {wi wk : Wr} {m : Nat → Option Ent} (h1 : ∀ d ∈ wrHard wi, d ∉ wrHard wk ∧ d ∉ wrSoft wk) (h2 : ∀ d ∈ wrHard wk, d ∉ wrHard wi ∧ d ∉ wrSoft wi) : putF (putF m wi) wk = putF (putF m wk) wi := by
  funext d
  by_cases hi : d ∈ wrHard wi
  · obtain ⟨a, b⟩ := h1 d hi
    rw [putF_keep a b]
    exact putF_congr (putF_keep a b).symm
  · by_cases hk : d ∈ wrHard wk
    · obtain ⟨a, b⟩ := h2 d hk
      rw [putF_keep (m := putF m wk) a b]
      exact putF_congr (putF_keep a b)
    · rw [putF_soft hk, putF_soft hi, putF_soft hi, putF_soft hk]
      split <;> split <;> rfl
theorem updO_comm {g : Nat → Option PV} {di dk : Option Tmp} {vi vk : PV} (h : ∀ d, di = some d → dk ≠ some d) : updO (updO g di vi) dk vk = updO (updO g dk vk) di vi := by
  cases di with
  | none => cases dk <;> rfl
  | some i =>
    cases dk with
    | none => rfl
    | some k =>
      have hne : k ≠ i := fun e => h i rfl (e ▸ rfl)
      funext t
      simp only [updO, upd]
      by_cases h1 : t = k <;> by_cases h2 : t = i <;> simp_all
theorem updO_ne {g : Nat → Option PV} {d : Option Tmp} {v : PV} {t : Nat} (h : d ≠ some t) : updO g d v t = g t := by
  cases d with
  | none => rfl
  | some i => exact upd_ne _ _ (fun e => h (e ▸ rfl))
theorem updO_congr {g g' : Nat → Option PV} {d : Option Tmp} {v : PV} {t : Nat} (h : g t = g' t) : updO g d v t = updO g' d v t := by
  cases d with
  | none => exact h
  | some i => simp only [updO, upd, h]

/-! ### what has been done so far -/
def dstO (ops : Array Oper) (k : Nat) : Option Tmp := (ops[k]?).bind (·.dst)
def accF (ops : Array Oper) (vals : Nat → PV × Wr) (L : Nat → Bool) (F0 : FS) : Nat → FS
  | 0 => F0
  | k + 1 => if L k then (accF ops vals L F0 k).put (dstO ops k) (vals k).1 (vals k).2 else accF ops vals L F0 k

def U1 (x y : Tr) : Prop := (∀ d ∈ x.w, d ∉ y.rc ∧ d ∉ y.ro ∧ d ∉ y.w ∧ d ∉ y.fz) ∧ ∀ d ∈ x.fz, d ∉ y.ro
structure Reg (E : Env) (call : Call) (ops : Array Oper) (ep : Nat) (F0 : FS) (vals : Nat → PV × Wr) (tr : Nat → Tr) (bef : Nat → Nat) : Prop where
  step : ∀ i o, ops[i]? = some o → stepF E call ops ep i o (accF ops vals (fun _ => true) F0 i) = some (vals i, (tr i).rc, (tr i).ro)
  w : ∀ i, i < ops.size → (tr i).w = wrHard (vals i).2 ∧ (tr i).fz = wrSoft (vals i).2
  back : ∀ (i : Nat) o, ops[i]? = some o → ∀ e ∈ o.after, Region.binds .any e = true → e.on < i
  befo : ∀ (j : Nat) o, ops[j]? = some o → ∀ i < ops.size, (bef j).testBit i = true → ∃ e ∈ o.after, Region.binds .any e = true ∧ (e.on = i ∨ (bef e.on).testBit i = true)
  pair : ∀ (i j : Nat) oi oj, i < j → ops[i]? = some oi → ops[j]? = some oj → (bef j).testBit i = true ∨ (oi.apart ops oj = true ∧ U1 (tr i) (tr j) ∧ U1 (tr j) (tr i))

section
variable {E : Env} {call : Call} {ops : Array Oper} {ep : Nat} {F0 : FS} {vals : Nat → PV × Wr} {tr : Nat → Tr} {bef : Nat → Nat}

/-- Whose edges are done are done. -/
def Closed (ops : Array Oper) (L : Nat → Bool) : Prop := ∀ (j : Nat) o, ops[j]? = some o → L j = true → ∀ e ∈ o.after, Region.binds .any e = true → L e.on = true
theorem Reg.before (h : Reg E call ops ep F0 vals tr bef) {L : Nat → Bool} (hc : Closed ops L) : ∀ (j : Nat) o, ops[j]? = some o → (∀ e ∈ o.after, Region.binds .any e = true → L e.on = true) → ∀ i < ops.size, (bef j).testBit i = true → L i = true := by
  intro j
  induction j using Nat.strongRecOn with
  | _ j ih =>
    intro o ho he i hi hb
    obtain ⟨e, h1, h2, h3⟩ := h.befo j o ho i hi hb
    have hl := he e h1 h2
    rcases h3 with h3 | h3
    · exact h3 ▸ hl
    · have hlt := h.back j o ho e h1 h2
      have hj := (Array.getElem?_eq_some_iff.1 ho).1
      have hon : ops[e.on]? = some ops[e.on] := by simp [show e.on < ops.size by omega]
      exact ih e.on hlt _ hon (hc e.on _ hon hl) i hi h3

theorem acc_slot {L : Nat → Bool} {t i n : Nat} (hi : i ≤ n) (h1 : ∀ k, k < i → L k = false → dstO ops k ≠ some t) (h2 : ∀ k, i ≤ k → k < n → L k = true → dstO ops k ≠ some t) :
    (accF ops vals L F0 n).g t = (accF ops vals (fun _ => true) F0 i).g t := by
  have p1 : ∀ k, k ≤ i → (accF ops vals L F0 k).g t = (accF ops vals (fun _ => true) F0 k).g t := by
    intro k
    induction k with
    | zero => intro _; rfl
    | succ k ih =>
      intro hk
      simp only [accF, if_true]
      cases hl : L k with
      | true => simp only [if_true]; exact updO_congr (ih (by omega))
      | false =>
        simp only [Bool.false_eq_true, if_false]
        rw [ih (by omega)]
        exact (updO_ne (h1 k (by omega) hl)).symm
  have p2 : ∀ k, i + k ≤ n → (accF ops vals L F0 (i + k)).g t = (accF ops vals L F0 i).g t := by
    intro k
    induction k with
    | zero => intro _; rfl
    | succ k ih =>
      intro hk
      rw [← Nat.add_assoc]
      simp only [accF]
      cases hl : L (i + k) with
      | true => simp only [if_true]; exact (updO_ne (h2 (i + k) (by omega) (by omega) hl)).trans (ih (by omega))
      | false => simp only [Bool.false_eq_true, if_false]; exact ih (by omega)
  have := p2 (n - i) (by omega)
  rw [show i + (n - i) = n by omega] at this
  rw [this, p1 i (Nat.le_refl _)]
theorem acc_own {L : Nat → Bool} {d i n : Nat} (hi : i ≤ n) (h1 : ∀ k, k < i → L k = false → d ∉ wrHard (vals k).2 ∧ d ∉ wrSoft (vals k).2) (h2 : ∀ k, i ≤ k → k < n → L k = true → d ∉ wrHard (vals k).2 ∧ d ∉ wrSoft (vals k).2) :
    (accF ops vals L F0 n).m d = (accF ops vals (fun _ => true) F0 i).m d := by
  have p1 : ∀ k, k ≤ i → (accF ops vals L F0 k).m d = (accF ops vals (fun _ => true) F0 k).m d := by
    intro k
    induction k with
    | zero => intro _; rfl
    | succ k ih =>
      intro hk
      simp only [accF, if_true]
      cases hl : L k with
      | true => simp only [if_true]; exact putF_congr (ih (by omega))
      | false =>
        simp only [Bool.false_eq_true, if_false]
        rw [ih (by omega)]
        exact (putF_keep (h1 k (by omega) hl).1 (h1 k (by omega) hl).2).symm
  have p2 : ∀ k, i + k ≤ n → (accF ops vals L F0 (i + k)).m d = (accF ops vals L F0 i).m d := by
    intro k
    induction k with
    | zero => intro _; rfl
    | succ k ih =>
      intro hk
      rw [← Nat.add_assoc]
      simp only [accF]
      cases hl : L (i + k) with
      | true =>
        obtain ⟨a, b⟩ := h2 (i + k) (by omega) (by omega) hl
        simp only [if_true]; exact (putF_keep a b).trans (ih (by omega))
      | false => simp only [Bool.false_eq_true, if_false]; exact ih (by omega)
  have := p2 (n - i) (by omega)
  rw [show i + (n - i) = n by omega] at this
  rw [this, p1 i (Nat.le_refl _)]
theorem acc_con {L : Nat → Bool} {d i n : Nat} (hi : i ≤ n) (h1 : ∀ k, k < i → L k = false → d ∉ wrHard (vals k).2) (h2 : ∀ k, i ≤ k → k < n → L k = true → d ∉ wrHard (vals k).2) :
    ((accF ops vals L F0 n).m d).map (fun e : Ent => e.c) = ((accF ops vals (fun _ => true) F0 i).m d).map (fun e : Ent => e.c) := by
  have p1 : ∀ k, k ≤ i → ((accF ops vals L F0 k).m d).map (fun e : Ent => e.c) = ((accF ops vals (fun _ => true) F0 k).m d).map (fun e : Ent => e.c) := by
    intro k
    induction k with
    | zero => intro _; rfl
    | succ k ih =>
      intro hk
      simp only [accF, if_true]
      cases hl : L k with
      | true => simp only [if_true]; exact putF_congrC (ih (by omega))
      | false =>
        simp only [Bool.false_eq_true, if_false]
        rw [ih (by omega)]
        exact (putF_keepC (h1 k (by omega) hl)).symm
  have p2 : ∀ k, i + k ≤ n → ((accF ops vals L F0 (i + k)).m d).map (fun e : Ent => e.c) = ((accF ops vals L F0 i).m d).map (fun e : Ent => e.c) := by
    intro k
    induction k with
    | zero => intro _; rfl
    | succ k ih =>
      intro hk
      rw [← Nat.add_assoc]
      simp only [accF]
      cases hl : L (i + k) with
      | true => simp only [if_true]; exact (putF_keepC (h2 (i + k) (by omega) (by omega) hl)).trans (ih (by omega))
      | false => simp only [Bool.false_eq_true, if_false]; exact ih (by omega)
  have := p2 (n - i) (by omega)
  rw [show i + (n - i) = n by omega] at this
  rw [this, p1 i (Nat.le_refl _)]

/-- Whoever is ready is apart from those that lie otherwise than in the text. -/
theorem Reg.apart (h : Reg E call ops ep F0 vals tr bef) {L : Nat → Bool} (hc : Closed ops L) {i : Nat} {o : Oper} (ho : ops[i]? = some o) (hi : L i = false) (hr : ∀ e ∈ o.after, Region.binds .any e = true → L e.on = true)
    {k : Nat} (hk : k < ops.size) (hw : (k < i ∧ L k = false) ∨ (i < k ∧ L k = true)) :
    (∀ t ∈ o.looksAt ops, dstO ops k ≠ some t) ∧ (∀ d, o.dst = some d → dstO ops k ≠ some d) ∧ U1 (tr k) (tr i) ∧ U1 (tr i) (tr k) := by
  have hok : ops[k]? = some ops[k] := by simp [hk]
  have hdk : dstO ops k = ops[k].dst := by simp [dstO, hok]
  have hil := (Array.getElem?_eq_some_iff.1 ho).1
  rcases hw with ⟨hlt, hL⟩ | ⟨hlt, hL⟩
  · rcases h.pair k i _ o hlt hok ho with hb | ⟨ha, hu⟩
    · have := h.before hc i o ho hr k hk hb
      rw [hL] at this; cases this
    · obtain ⟨a1, a2, a3⟩ := Oper.apart_spec ha
      exact ⟨fun t ht he => a1 t (by rw [← hdk]; exact he) ht, fun d hd he => a2 d (by rw [← hdk]; exact he) hd, hu.1, hu.2⟩
  · rcases h.pair i k o _ hlt ho hok with hb | ⟨ha, hu⟩
    · have := h.before hc k _ hok (hc k _ hok hL) i hil hb
      rw [hi] at this; cases this
    · obtain ⟨a1, a2, a3⟩ := Oper.apart_spec ha
      exact ⟨fun t ht he => a3 t (by rw [← hdk]; exact he) ht, fun d hd he => a2 d hd (by rw [← hdk]; exact he), hu.2, hu.1⟩

theorem Reg.stepAt (h : Reg E call ops ep F0 vals tr bef) {L : Nat → Bool} (hc : Closed ops L) {i : Nat} {o : Oper} (ho : ops[i]? = some o) (hi : L i = false) (hr : ∀ e ∈ o.after, Region.binds .any e = true → L e.on = true) :
    stepF E call ops ep i o (accF ops vals L F0 ops.size) = some (vals i, (tr i).rc, (tr i).ro) := by
  have hil := (Array.getElem?_eq_some_iff.1 ho).1
  have hA := fun {k} (hk : k < ops.size) hw => h.apart hc ho hi hr (k := k) hk hw
  have ne : ∀ {k}, i ≤ k → L k = true → i < k := fun {k} hk hl => by
    rcases Nat.lt_or_ge i k with h | h
    · exact h
    · have : k = i := by omega
      subst this; rw [hi] at hl; cases hl
  refine stepF_local (h.step i o ho) (fun t ht => ?_) (fun d hd => ?_) (fun d hd => ?_)
  · exact acc_slot (Nat.le_of_lt hil) (fun k hk hl => (hA (by omega) (.inl ⟨hk, hl⟩)).1 t ht) (fun k hk hkn hl => (hA hkn (.inr ⟨ne hk hl, hl⟩)).1 t ht)
  · have aux : ∀ {k}, k < ops.size → ((k < i ∧ L k = false) ∨ (i < k ∧ L k = true)) → d ∉ wrHard (vals k).2 := fun {k} hk hw hm => by
      rw [← (h.w k hk).1] at hm
      exact ((hA hk hw).2.2.1.1 d hm).1 hd
    exact acc_con (Nat.le_of_lt hil) (fun k hk hl => aux (by omega) (.inl ⟨hk, hl⟩)) (fun k hk hkn hl => aux hkn (.inr ⟨ne hk hl, hl⟩))
  · have aux : ∀ {k}, k < ops.size → ((k < i ∧ L k = false) ∨ (i < k ∧ L k = true)) → d ∉ wrHard (vals k).2 ∧ d ∉ wrSoft (vals k).2 := fun {k} hk hw => by
      rw [← (h.w k hk).1, ← (h.w k hk).2]
      exact ⟨fun hm => ((hA hk hw).2.2.1.1 d hm).2.1 hd, fun hm => (hA hk hw).2.2.1.2 d hm hd⟩
    exact acc_own (Nat.le_of_lt hil) (fun k hk hl => aux (by omega) (.inl ⟨hk, hl⟩)) (fun k hk hkn hl => aux hkn (.inr ⟨ne hk hl, hl⟩))

def setL (L : Nat → Bool) (i : Nat) : Nat → Bool := fun k => if k = i then true else L k
theorem acc_same {L L' : Nat → Bool} : ∀ {n : Nat}, (∀ k, k < n → L k = L' k) → accF ops vals L F0 n = accF ops vals L' F0 n
  | 0, _ => rfl
  | n + 1, h => by simp only [accF]; rw [acc_same (n := n) (fun k hk => h k (by omega)), h n (by omega)]
theorem Reg.put (h : Reg E call ops ep F0 vals tr bef) {L : Nat → Bool} (hc : Closed ops L) {i : Nat} {o : Oper} (ho : ops[i]? = some o) (hi : L i = false) (hr : ∀ e ∈ o.after, Region.binds .any e = true → L e.on = true) :
    accF ops vals (setL L i) F0 ops.size = (accF ops vals L F0 ops.size).put o.dst (vals i).1 (vals i).2 := by
  have hil := (Array.getElem?_eq_some_iff.1 ho).1
  have hdi : dstO ops i = o.dst := by simp [dstO, ho]
  have key : ∀ k, i + 1 + k ≤ ops.size → accF ops vals (setL L i) F0 (i + 1 + k) = (accF ops vals L F0 (i + 1 + k)).put o.dst (vals i).1 (vals i).2 := by
    intro k
    induction k with
    | zero =>
      intro _
      simp only [accF, setL, hi, Bool.false_eq_true, if_false, if_true]
      rw [hdi]
      congr 1
      exact acc_same fun k hk => by simp [setL, Nat.ne_of_lt hk]
    | succ k ih =>
      intro hk
      have ih := ih (by omega)
      rw [← Nat.add_assoc]
      simp only [accF]
      have hne : (i + 1 + k) ≠ i := by omega
      simp only [setL, if_neg hne]
      cases hl : L (i + 1 + k) with
      | false => simp only [Bool.false_eq_true, if_false]; exact ih
      | true =>
        simp only [if_true]
        rw [show accF ops vals (setL L i) F0 (i + 1 + k) = _ from ih]
        obtain ⟨_, a2, a3, a4⟩ := h.apart hc ho hi hr (k := i + 1 + k) (by omega) (.inr ⟨by omega, hl⟩)
        have w1 := h.w i hil
        have w2 := h.w (i + 1 + k) (by omega)
        simp only [FS.put]
        rw [updO_comm a2, putF_comm]
        · intro d hd
          rw [← w1.1] at hd
          rw [← w2.1, ← w2.2]
          exact (a4.1 d hd).2.2
        · intro d hd
          rw [← w2.1] at hd
          rw [← w1.1, ← w1.2]
          exact (a3.1 d hd).2.2
  have := key (ops.size - (i + 1)) (by omega)
  rw [show i + 1 + (ops.size - (i + 1)) = ops.size by omega] at this
  exact this
end

/-! ### all the orders -/
theorem nodup_lt : ∀ (n : Nat) (U : List Nat), U.Nodup → (∀ x ∈ U, x < n) → U.length ≤ n
  | 0, U, _, h => by
    cases U with
    | nil => simp
    | cons x r => exact absurd (h x (List.mem_cons_self)) (by omega)
  | n + 1, U, hn, h => by
    have h1 : (U.erase n).length ≤ n := nodup_lt n (U.erase n) (hn.erase n) (fun x hx => by
      have h2 := (hn.mem_erase_iff).1 hx
      have := h x h2.2
      have := h2.1
      omega)
    have := List.length_erase (a := n) (l := U)
    split at this <;> omega

def DL (D : Nat → Prop) (ep : Nat) (L : Nat → Bool) (n : Nat) (d : Nat) : Prop := D d ∨ ∃ i j, i < n ∧ L i = true ∧ j < 64 ∧ d = ep * 33554432 + i * 64 + j
theorem fr_DL {D : Nat → Prop} {ep n i : Nat} {L : Nat → Bool} (hD : ∀ d, D d → d < ep * 33554432) (hi : i < n) (hL : L i = false) : Fr (DL D ep L n) (DL D ep (setL L i) n) (ep * 33554432 + i * 64) := by
  refine ⟨fun d hd => ?_, fun j hj => ⟨fun hd => ?_, .inr ⟨i, j, hi, by simp [setL], hj, rfl⟩⟩⟩
  · rcases hd with hd | ⟨i', j, h1, h2, h3, h4⟩
    · exact .inl hd
    · refine .inr ⟨i', j, h1, ?_, h3, h4⟩
      simp only [setL]
      split
      · rfl
      · exact h2
  · rcases hd with hd | ⟨i', j', h1, h2, h3, h4⟩
    · have := hD _ hd; omega
    · have : i' = i := by omega
      subst this
      rw [hL] at h2; cases h2

section
variable {E : Env} {call : Call} {ops : Array Oper} {ep : Nat} {F0 : FS} {vals : Nat → PV × Wr} {tr : Nat → Tr} {bef : Nat → Nat} {w0 : World} {bl : List Nat} {A0 : Nat → Prop} {nt : Nat} {D : Nat → Prop} {Q : Exit → Act → World → Prop}

theorem mem_ready {listed : Array Bool} {i : Nat} (h : i ∈ Region.ready .any ops listed) : ∃ o, ops[i]? = some o ∧ i < ops.size ∧ listed.getD i true = false ∧ ∀ e ∈ o.after, Region.binds .any e = true → listed.getD e.on false = true := by
  unfold Region.ready at h
  rw [List.mem_filter] at h
  obtain ⟨h1, h2⟩ := h
  have hi : i < ops.size := by simpa using h1
  refine ⟨ops[i], by simp [hi], hi, ?_⟩
  simp only [Bool.and_eq_true, Bool.not_eq_true'] at h2
  refine ⟨h2.1, fun e he hb => ?_⟩
  have h3 := h2.2
  simp only [getElem?_pos, hi, Option.map_some, Option.getD_some, Array.all_eq_true_iff_forall_mem] at h3
  have := h3 e he
  simpa [hb] using this

theorem any_sim (hS : Sound E call) (hG : Reg E call ops ep F0 vals tr bef) (hD : ∀ d, D d → d < ep * 33554432) (hd : ∀ (i : Nat) o, ops[i]? = some o → ∀ t, o.dst = some t → t < nt)
    (hQ : ∀ a w, Rel w0 bl A0 nt (DL D ep (fun _ => true) ops.size) (accF ops vals (fun _ => true) F0 ops.size) a w → Q .normal a w) :
    ∀ (fuel : Nat) (listed : Array Bool), listed.size = ops.size → Closed ops (fun i => listed.getD i false) → (∀ U : List Nat, U.Nodup → (∀ i ∈ U, i < ops.size ∧ listed.getD i false = false) → U.length ≤ fuel) →
      ∀ a w, Rel w0 bl A0 nt (DL D ep (fun i => listed.getD i false) ops.size) (accF ops vals (fun i => listed.getD i false) F0 ops.size) a w → wpAny E.P .any ops Q fuel listed a w := by
  have fin : ∀ (listed : Array Bool), (∀ i, i < ops.size → listed.getD i false = true) → ∀ a w, Rel w0 bl A0 nt (DL D ep (fun i => listed.getD i false) ops.size) (accF ops vals (fun i => listed.getD i false) F0 ops.size) a w → Q .normal a w := fun listed hall a w hR => by
    refine hQ a w ?_
    rw [acc_same (L' := fun _ => true) (fun k hk => by simp [hall k hk])] at hR
    exact hR.widen fun d hd => hd.imp id fun ⟨i, j, h1, h2, h3⟩ => ⟨i, j, h1, rfl, h3⟩
  intro fuel
  induction fuel with
  | zero =>
    intro listed hsz hc hU a w hR
    have hall : ∀ i, i < ops.size → listed.getD i false = true := fun i hi => by
      cases hl : listed.getD i false with
      | true => rfl
      | false =>
        have := hU [i] (by simp) (fun k hk => by rw [List.mem_singleton.1 hk]; exact ⟨hi, hl⟩)
        simp at this
    refine ⟨?_, fin listed hall a w hR⟩
    apply List.eq_nil_iff_forall_not_mem.2
    intro i hi
    obtain ⟨o, _, hlt, hl, _⟩ := mem_ready hi
    have := hall i hlt
    simp only [Array.getD_eq_getD_getElem?] at hl this
    rw [show listed[i]? = some listed[i] by simp [show i < listed.size by omega]] at hl this
    simp at hl this
    rw [hl] at this; cases this
  | succ fuel ih =>
    intro listed hsz hc hU a w hR
    refine ⟨fun hrd => ?_, fun i hi => ?_⟩
    · refine fin listed ?_ a w hR
      intro i
      induction i using Nat.strongRecOn with
      | _ i ih2 =>
        intro hi
        cases hl : listed.getD i false with
        | true => rfl
        | false =>
          exfalso
          have hoi : ops[i]? = some ops[i] := by simp [hi]
          have : i ∈ Region.ready .any ops listed := by
            unfold Region.ready
            rw [List.mem_filter]
            refine ⟨by simpa using hi, ?_⟩
            have hl' : listed.getD i true = false := by
              simp only [Array.getD_eq_getD_getElem?] at hl ⊢
              rw [show listed[i]? = some listed[i] by simp [show i < listed.size by omega]] at hl ⊢
              simpa using hl
            rw [hl', hoi]
            simp only [Bool.not_false, Option.map_some, Option.getD_some, Bool.true_and, Array.all_eq_true_iff_forall_mem]
            intro e he
            cases hb : Region.binds .any e with
            | false => rfl
            | true =>
              have hlt := hG.back i _ hoi e he hb
              simp [ih2 e.on hlt (by omega)]
          rw [hrd] at this
          cases this
    · obtain ⟨o, ho, hlt, hl, hr⟩ := mem_ready hi
      have hl' : listed.getD i false = false := by
        simp only [Array.getD_eq_getD_getElem?] at hl ⊢
        rw [show listed[i]? = some listed[i] by simp [show i < listed.size by omega]] at hl ⊢
        simpa using hl
      have hset : (fun k => (listed.setIfInBounds i true).getD k false) = setL (fun k => listed.getD k false) i := by
        funext k
        simp only [setL, Array.getD_eq_getD_getElem?, Array.getElem?_setIfInBounds]
        by_cases hk : i = k
        · subst hk; simp [show i < listed.size by omega]
        · rw [if_neg hk, if_neg (fun e : k = i => hk e.symm)]
      have hst := step_sim (v := (vals i).1) (wr := (vals i).2) hS hR (fr_DL hD hlt hl') (hd i o ho) (hG.stepAt hc ho hl' hr)
      have hnext : ∀ a' w', Rel w0 bl A0 nt (DL D ep (setL (fun k => listed.getD k false) i) ops.size) ((accF ops vals (fun i => listed.getD i false) F0 ops.size).put o.dst (vals i).1 (vals i).2) a' w' → wpAny E.P .any ops Q fuel (listed.setIfInBounds i true) a' w' := fun a' w' hR' => by
        refine ih _ (by simp [hsz]) ?_ ?_ a' w' ?_
        · rw [hset]
          intro j oj hoj hj e he hb
          simp only [setL] at hj ⊢
          split
          · rfl
          · by_cases hji : j = i
            · subst hji
              rw [ho] at hoj
              injection hoj with hoj
              subst hoj
              exact hr e he hb
            · rw [if_neg hji] at hj
              exact hc j oj hoj hj e he hb
        · intro U hn hUm
          have hni : i ∉ U := fun hiU => by
            have := (hUm i hiU).2
            have h2 : (listed.setIfInBounds i true).getD i false = _ := congrFun hset i
            rw [h2] at this
            simp [setL] at this
          have := hU (i :: U) (List.nodup_cons.2 ⟨hni, hn⟩) (fun k hk => by
            rcases List.mem_cons.1 hk with rfl | hk
            · exact ⟨hlt, hl'⟩
            · refine ⟨(hUm k hk).1, ?_⟩
              have h3 := (hUm k hk).2
              have h2 : (listed.setIfInBounds i true).getD k false = _ := congrFun hset k
              rw [h2] at h3
              simp only [setL] at h3
              split at h3
              · cases h3
              · exact h3)
          simp at this
          omega
        · rw [hset, hG.put hc ho hl' hr]
          exact hR'
      unfold wpOp
      rw [ho]
      simp only
      split
      · rename_i hw
        rw [if_pos hw] at hst
        exact .inl (hst.wp fun v w' h => hnext _ w' h)
      · rename_i hw
        rw [if_neg hw] at hst
        exact hnext _ _ hst
end
end Go.Den
