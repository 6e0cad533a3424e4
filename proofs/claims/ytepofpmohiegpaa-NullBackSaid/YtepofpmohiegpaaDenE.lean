/- Den, part E: the plain operations, each shown once: what the machine yields is what the evaluator says. -/
import Derived.Test.YtepofpmohiegpaaDenD
import Derived.Laws.Slices
import Derived.Laws.BytesString
namespace Go.Den
variable {P : Program}

/-! ### types -/
theorem run_sizeOf' {t : TypeId} {n : Nat} (h : tSize P t = some n) (w : World) : (Go.sizeOf t).run P w = .ok n w := by
  unfold tSize at h
  cases hi : P.info? t with
  | none => simp [hi] at h
  | some i => simp [hi] at h; simp [Go.sizeOf, typeInfo, hi, h]
theorem run_isAgg {t : TypeId} {g : Bool} (h : tAgg P t = some g) (w : World) : (isAgg t).run P w = .ok g w := by
  unfold tAgg at h
  cases hu : P.underlying t with
  | none => simp [hu] at h
  | some d => cases d <;> simp [hu] at h <;> simp [isAgg, run_underlying hu, h]
theorem run_zero {t : TypeId} {cs : List PV} (h : tZero P t = some cs) : ∃ z, (∀ w, (zeroValue t).run P w = .ok z w) ∧ constsPV z.cells.toList = some cs := by
  unfold tZero at h
  cases hi : P.info? t with
  | none => simp [hi] at h
  | some i =>
    cases hz : i.zero with
    | none => simp [hi, hz] at h
    | some z => exact ⟨z, fun w => by simp [zeroValue, typeInfo, hi, hz], by simpa [hi, hz] using h⟩
theorem constPV_rep {v : Value} {p : PV} (h : constPV v = some p) (w : World) (ok : Nat → Prop) : Rep w ok v p ∧ plainLeaf p = true := by
  unfold constPV at h
  split at h <;> simp at h <;> subst h
  · exact ⟨.int .., rfl⟩
  · exact ⟨.bool .., rfl⟩
  · exact ⟨.str .., rfl⟩
  · exact ⟨.nils, rfl⟩
  · exact ⟨.nilp, rfl⟩
  · exact ⟨.nilf, rfl⟩
theorem constsPV_rep : ∀ {vs : List Value} {ps : List PV}, constsPV vs = some ps → ∀ (w : World) (ok : Nat → Prop), vs.length = ps.length ∧ (∀ p ∈ ps, plainLeaf p = true) ∧ ∀ (j : Nat) p, ps[j]? = some p → ∃ v, vs[j]? = some v ∧ Rep w ok v p
  | [], ps, h, w, ok => by simp [constsPV] at h; subst h; simp
  | v :: r, ps, h, w, ok => by
    simp only [constsPV] at h
    cases h1 : constPV v with
    | none => simp [h1] at h
    | some x =>
      cases h2 : constsPV r with
      | none => simp [h1, h2] at h
      | some xs =>
        simp [h1, h2] at h
        subst h
        obtain ⟨i1, i2, i3⟩ := constsPV_rep h2 w ok
        obtain ⟨c1, c2⟩ := constPV_rep h1 w ok
        refine ⟨by simp [i1], by simp; exact ⟨c2, i2⟩, fun j p hp => ?_⟩
        cases j with
        | zero => simp at hp; subst hp; exact ⟨v, by simp, c1⟩
        | succ j => simp at hp; simpa using i3 j p hp

/-! ### operands -/
def SlotsOk (a : Act) (w : World) (ok : Nat → Prop) (G : Gh) (g : Nat → Option PV) : Prop := ∀ t p, g t = some p → RepS w ok G (a.eval (.tmp t)) p
theorem evOp_rep {a w ok G g} (hs : SlotsOk a w ok G g) {x : Operand} {p : PV} (h : evOp g x = some p) : RepS w ok G (a.eval x) p := by
  cases x with
  | tmp t => exact hs t p h
  | const v => obtain ⟨h1, h2⟩ := constPV_rep h w ok; exact h1.S h2
  | global _ => simp [evOp] at h
  | func f => simp [evOp] at h; subst h; exact .fn f #[] [] rfl (by simp)
theorem evOps_rep {a w ok G g} (hs : SlotsOk a w ok G g) : ∀ {xs : List Operand} {ps : List PV}, evOps g xs = some ps → xs.length = ps.length ∧ ∀ (j : Nat) v p, (xs.map a.eval)[j]? = some v → ps[j]? = some p → RepS w ok G v p
  | [], ps, h => by simp [evOps] at h; subst h; simp
  | x :: r, ps, h => by
    simp only [evOps] at h
    cases h1 : evOp g x with
    | none => simp [h1] at h
    | some y =>
      cases h2 : evOps g r with
      | none => simp [h1, h2] at h
      | some ys =>
        simp [h1, h2] at h
        subst h
        obtain ⟨i1, i2⟩ := evOps_rep hs h2
        refine ⟨by simp [i1], fun j v p hv hp => ?_⟩
        cases j with
        | zero => simp at hv hp; subst hv; subst hp; exact evOp_rep hs h1
        | succ j => simp only [List.map_cons, List.getElem?_cons_succ] at hv hp; exact i2 j v p hv hp

/-- Out of a slot of a known form. -/
theorem RepS.int {w ok G v k n} (h : RepS w ok G v (.int k n)) : v = .int k n := by cases h with | leaf h => cases h with | pl h => cases h; rfl
theorem RepS.bool {w ok G v b} (h : RepS w ok G v (.bool b)) : v = .bool b := by cases h with | leaf h => cases h with | pl h => cases h; rfl
theorem RepS.str {w ok G v l} (h : RepS w ok G v (.str l)) : ∃ s, v = .string s ∧ s.data.toList = l := by cases h with | leaf h => cases h with | pl h => cases h; exact ⟨_, rfl, rfl⟩
theorem RepS.nils {w ok G v} (h : RepS w ok G v .nils) : v = .slice none 0 0 := by cases h with | leaf h => cases h with | pl h => cases h; rfl
theorem RepS.nilp {w ok G v} (h : RepS w ok G v .nilp) : v = .pointer none := by cases h with | leaf h => cases h with | pl h => cases h; rfl
theorem RepS.h {w ok G v d} (h : RepS w ok G v (.h d)) : G.V d = some v ∧ v.oneCell' = true := by cases h with | leaf h => cases h with | pl h => cases h | h h h1 => exact ⟨h, h1⟩
theorem RepS.pb {w ok G v d o} (h : RepS w ok G v (.pb d o)) : ∃ b, G.B d = some b ∧ v = .pointer (some ⟨b, o, none⟩) := by
  cases h with | leaf h => cases h with | pl h => cases h | pb _ h => exact ⟨_, h, rfl⟩
theorem RepS.pe {w ok G v d i o} (h : RepS w ok G v (.pe d i o)) : ∃ g n c, G.V d = some (.slice (some ⟨g, 0, none⟩) n c) ∧ v = .pointer (some ⟨g, i * G.Z d + o, none⟩) := by
  cases h with | leaf h => cases h with | pl h => cases h | pe _ _ h => exact ⟨_, _, _, h, rfl⟩
theorem RepS.rep {w ok G v p} (h : RepS w ok G v p) (hp : plainLeaf p = true) : Rep w ok v p := by
  cases h with
  | undef => simp [plainLeaf] at hp
  | leaf h => cases h with
    | pl h => exact h
    | _ => simp [plainLeaf] at hp
  | _ => simp [plainLeaf] at hp

/-! ### footprints read -/
theorem run_ret {α : Type} {a b : α} {m l o} (h : (RM.ret a).run m = some (b, l, o)) : b = a ∧ l = [] ∧ o = [] := by
  simp [RM.run] at h; exact ⟨h.1.symm, h.2.1, h.2.2⟩
theorem run_fail {α : Type} {b : α} {m l o} (h : (RM.fail : RM α).run m = some (b, l, o)) : False := by simp [RM.run] at h
theorem run_rdc {α : Type} {d : Nat} {k : Cont → RM α} {b : α} {m l o} (h : (RM.rdc d k).run m = some (b, l, o)) : ∃ e l', m d = some e ∧ (k e.c).run m = some (b, l', o) := by
  simp only [RM.run] at h
  cases hm : m d with
  | none => simp [hm] at h
  | some e =>
    simp only [hm] at h
    cases hk : (k e.c).run m with
    | none => simp [hk] at h
    | some x => obtain ⟨b', l', o'⟩ := x; simp [hk] at h; obtain ⟨rfl, rfl, rfl⟩ := h; exact ⟨e, l', rfl, hk⟩
theorem run_own {α : Type} {d : Nat} {k : Cont → RM α} {b : α} {m l o} (h : (RM.own d k).run m = some (b, l, o)) : ∃ c o', m d = some ⟨true, c⟩ ∧ (k c).run m = some (b, l, o') := by
  simp only [RM.run] at h
  cases hm : m d with
  | none => simp [hm] at h
  | some e =>
    obtain ⟨ow, c⟩ := e
    cases ow with
    | false => simp [hm] at h
    | true =>
      simp only [hm] at h
      cases hk : (k c).run m with
      | none => simp [hk] at h
      | some x => obtain ⟨b', l', o'⟩ := x; simp [hk] at h; obtain ⟨rfl, rfl, rfl⟩ := h; exact ⟨c, o', rfl, hk⟩
theorem run_bind {α β : Type} {x : RM α} {f : α → RM β} {b : β} {m : Nat → Option Ent} {l o} (h : (x.bind f).run m = some (b, l, o)) : ∃ a l1 o1 l2 o2, x.run m = some (a, l1, o1) ∧ (f a).run m = some (b, l2, o2) ∧ l = l1 ++ l2 ∧ o = o1 ++ o2 := by
  induction x generalizing l o with
  | ret a => exact ⟨a, [], [], l, o, rfl, h, rfl, rfl⟩
  | fail => exact (run_fail h).elim
  | rdc d k ih =>
    simp only [RM.bind, RM.run] at h
    cases hm : m d with
    | none => simp [hm] at h
    | some e =>
      simp only [hm] at h
      cases hk : ((k e.c).bind f).run m with
      | none => simp [hk] at h
      | some x =>
        obtain ⟨b', l', o'⟩ := x
        simp [hk] at h
        obtain ⟨rfl, rfl, rfl⟩ := h
        obtain ⟨a, l1, o1, l2, o2, h1, h2, rfl, rfl⟩ := ih _ hk
        exact ⟨a, d :: l1, o1, l2, o2, by simp [RM.run, hm, h1], h2, rfl, rfl⟩
  | own d k ih =>
    simp only [RM.bind, RM.run] at h
    cases hm : m d with
    | none => simp [hm] at h
    | some e =>
      simp only [hm] at h
      obtain ⟨ow, c⟩ := e
      cases ow with
      | false => simp at h
      | true =>
        simp only at h
        cases hk : ((k c).bind f).run m with
        | none => simp [hk] at h
        | some x =>
          obtain ⟨b', l', o'⟩ := x
          simp [hk] at h
          obtain ⟨rfl, rfl, rfl⟩ := h
          obtain ⟨a, l1, o1, l2, o2, h1, h2, rfl, rfl⟩ := ih _ hk
          exact ⟨a, l1, d :: o1, l2, o2, by simp [RM.run, hm, h1], h2, rfl, rfl⟩
theorem run_of {α : Type} {x : Option α} {b : α} {m l o} (h : (RM.of x).run m = some (b, l, o)) : x = some b := by
  cases x with
  | none => exact (run_fail h).elim
  | some a => rw [(run_ret h).1]
theorem run_retO {x : Option PV} {v : PV} {wr : Wr} {m l o} (h : (retO x).run m = some ((v, wr), l, o)) : x = some v ∧ wr = [] := by
  cases x with
  | none => exact (run_fail h).elim
  | some a => have := (run_ret h).1; simp at this; exact ⟨by rw [this.1], this.2⟩

/-! ### what an operation is shown to do -/
def putF (m : Nat → Option Ent) : Wr → Nat → Option Ent
  | [] => m
  | (d, .set c) :: r => putF (upd m d (some ⟨true, c⟩)) r
  | (d, .del) :: r => putF (upd m d none) r
  | (d, .fz) :: r => putF (match m d with | some e => upd m d (some ⟨false, e.c⟩) | none => m) r
theorem putF_append (m : Nat → Option Ent) : ∀ (x y : Wr), putF m (x ++ y) = putF (putF m x) y
  | [], _ => rfl
  | (d, c) :: r, y => by cases c <;> simp [putF, putF_append]

/-- Behind it: a value, a world, and all is told on. -/
def After (w0 : World) (bl : List Nat) (D' : Nat → Prop) (w : World) (m : Nat → Option Ent) (G : Gh) (v : PV) (wr : Wr) (v' : Value) (w' : World) : Prop :=
  ∃ G', RelW w0 bl D' w' (putF m wr) G' ∧ Adv w (okP w m G) G w' (okP w' (putF m wr) G') G' ∧ RepS w' (okP w' (putF m wr) G') G' v' v

/-- Nothing is written. -/
theorem After.quiet {w0 bl D w m G v v'} (h : RelW w0 bl D w m G) {D' : Nat → Prop} (hD : ∀ d, D d → D' d) (hv : RepS w (okP w m G) G v' v) : After w0 bl D' w m G v [] v' w :=
  ⟨G, h.widen hD, Adv.refl _ _ _, hv⟩

/-! ### load -/
theorem mkv_rep {w ok G} {agg : Bool} {cs : List PV} {v : PV} (h : mkv agg cs = some v) {us : List Value} (hl : us.length = cs.length) (hr : ∀ (j : Nat) u p, us[j]? = some u → cs[j]? = some p → RepL w ok G u p) :
    (agg = true ∧ v = .agg cs ∧ RepS w ok G (.agg us.toArray) v) ∨ (agg = false ∧ ∃ u p, us = [u] ∧ cs = [p] ∧ v = p ∧ RepS w ok G u v) := by
  cases agg with
  | true => simp [mkv] at h; subst h; exact .inl ⟨rfl, rfl, .agg _ _ (by simpa using hl) (fun j v p h1 h2 => hr j v p (by simpa using h1) h2)⟩
  | false =>
    match cs, us, h, hl with
    | [p], [u], h, _ => simp [mkv] at h; subst h; exact .inr ⟨rfl, u, p, rfl, rfl, rfl, .leaf (hr 0 u p rfl rfl)⟩
theorem loadC_run {w ok G} {t : TypeId} {cs : List PV} {off : Nat} {v : PV} (h : loadC P t cs off = some v) (b o : Nat) (hr : ∀ (j : Nat) p, cs[j]? = some p → ∃ u, w.cell? ⟨b, o + j, none⟩ = some u ∧ RepL w ok G u p) :
    ∃ v', (loadVar t ⟨b, o + off, none⟩).run P w = .ok v' w ∧ RepS w ok G v' v := by
  unfold loadC at h
  cases hn : tSize P t with
  | none => simp [hn] at h
  | some n =>
    cases hg : tAgg P t with
    | none => simp [hn, hg] at h
    | some g =>
      simp only [hn, hg] at h
      split at h
      · rename_i hle
        have hex : ∃ us : List Value, us.length = ((cs.drop off).take n).length ∧ ∀ (j : Nat) u p, us[j]? = some u → ((cs.drop off).take n)[j]? = some p → w.cell? ⟨b, o + off + j, none⟩ = some u ∧ RepL w ok G u p := by
          refine ⟨(List.range n).map fun j => (w.cell? ⟨b, o + off + j, none⟩).getD Go.undef, by simp; omega, fun j u p hu hp => ?_⟩
          have hj : j < n := by have := (List.getElem?_eq_some_iff.1 hp).1; simp at this; omega
          rw [List.getElem?_take_of_lt hj, List.getElem?_drop] at hp
          obtain ⟨u', h1, h2⟩ := hr (off + j) p hp
          rw [← Nat.add_assoc] at h1
          simp [hj] at hu
          rw [h1] at hu
          simp at hu
          subst hu
          exact ⟨h1, h2⟩
        obtain ⟨us, hl, hus⟩ := hex
        have hlen : us.length = n := by rw [hl]; simp; omega
        rcases mkv_rep h hl (fun j u p h1 h2 => (hus j u p h1 h2).2) with ⟨rfl, rfl, hS⟩ | ⟨rfl, u, p, rfl, hcs, rfl, hS⟩
        · refine ⟨_, ?_, hS⟩
          have hld := run_loadCells_list (P := P) w ⟨b, o + off, none⟩ us (fun j u hu => by
            rw [add_off]
            obtain ⟨p, hp⟩ : ∃ p, ((cs.drop off).take n)[j]? = some p := by
              have := (List.getElem?_eq_some_iff.1 hu).1
              exact ⟨_, List.getElem?_eq_getElem (by omega)⟩
            exact (hus j u p hu hp).1)
          rw [hlen] at hld
          simp [loadVar, run_isAgg hg, run_sizeOf' hn, hld]
        · refine ⟨u, ?_, hS⟩
          have := (hus 0 u v rfl (by rw [hcs]; rfl)).1
          simp only [Nat.add_zero] at this
          simp [loadVar, run_isAgg hg, this]
      · cases h
end Go.Den
