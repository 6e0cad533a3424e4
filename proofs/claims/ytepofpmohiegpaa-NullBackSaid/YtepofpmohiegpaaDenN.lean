/- Den, part N: cuts, make, conversions, the smaller and the greater. -/
import Derived.Test.YtepofpmohiegpaaDenM
import Derived.IntWalk
namespace Go.Den
variable {P : Program} {w0 w : World} {bl : List Nat} {D D' : Nat → Prop} {m : Nat → Option Ent} {G : Gh}

theorem appendS_sim (h : RelW w0 bl D w m G) {fid : Nat} (hf : Fr D D' fid) {ts : Array TypeId} {ty : TypeId} {t t' : TypeId} (ht : ts = #[t, t']) {x y v : PV} {wr : Wr} {l o} {x' y' : Value} (hr : (appendS P fid ts[0]? ts[1]? x y).run m = some ((v, wr), l, o)) (hx : RepS w (okP w m G) G x' x) (hy : RepS w (okP w m G) G y' y) :
    ∃ v' w', (Builtin.append_ ts ty #[x', y']).run P w = .ok v' w' ∧ After w0 bl D' w m G v wr v' w' := by
  subst ht
  simp only [appendS, List.getElem?_toArray, List.getElem?_cons_zero, List.getElem?_cons_succ] at hr
  split at hr
  · rename_i e u hu hu'
    split at hr
    · rename_i n b z hs hb hz
      split at hr
      · rename_i hzn
        have hzn : z.length = n + 1 := by simpa using hzn
        split at hr
        · split at hr
          · split at hr
            · rename_i hn
              have hn : n = 0 := by simpa using hn
              subst hn
              obtain ⟨s, rfl, rfl⟩ := hy.str
              exact appendTo_sim h hf hu hu' (.inl rfl) hs hb hz hzn hr hx (ofBytes_laid _ _) (str_gives s)
            · exact (run_fail hr).elim
          · exact (run_fail hr).elim
        · rename_i e'
          obtain ⟨ys, a1, a2, a3, a4, hys, hr, _, _⟩ := run_bind hr
          obtain ⟨news, _, _, _, _, hl, hg⟩ := elemsOf_gives (P := P) h (Nat.succ_pos n) hys hy
          exact appendTo_sim h hf hu hu' (.inr ⟨e', rfl⟩) hs hb hz hzn hr hx hl hg
        · exact (run_fail hr).elim
      · exact (run_fail hr).elim
    · exact (run_fail hr).elim
  · exact (run_fail hr).elim

/-! ### cuts -/
/-- An operand that may be left out. -/
def BdOk (w : World) (ok : Nat → Prop) (G : Gh) (v' : Option Value) (v : Option (Option PV)) : Prop :=
  (v = none ∧ v' = none) ∨ ∃ x' x, v' = some x' ∧ v = some x ∧ ∀ p, x = some p → RepS w ok G x' p
theorem bdOk_map {a ok g} (hs : SlotsOk a w ok G g) (x : Option Operand) : BdOk w ok G (x.map a.eval) (x.map (evOp g)) := by
  cases x with
  | none => exact .inl ⟨rfl, rfl⟩
  | some x => exact .inr ⟨_, _, rfl, rfl, fun p hp => evOp_rep hs hp⟩
theorem bnd_run {ok} {v' : Option Value} {v : Option (Option PV)} (hv : BdOk w ok G v' v) {li dflt n lim' : Nat} (h : bnd v li dflt = some n) (hle : li ≤ lim') :
    (v' = none ∧ n = dflt) ∨ ∃ x', v' = some x' ∧ n ≤ li ∧ ∀ code, (Instr.sliceBound x' lim' code).run P w = .ok n w := by
  rcases hv with ⟨rfl, rfl⟩ | ⟨x', x, rfl, rfl, hx⟩
  · simp [bnd] at h; exact .inl ⟨rfl, h.symm⟩
  · simp only [bnd] at h
    cases x with
    | none => simp at h
    | some p =>
      cases p with
      | int k i =>
        simp only at h
        split at h
        · rename_i hi
          injection h with h
          subst h
          have := (hx _ rfl).int
          subst this
          exact .inr ⟨_, rfl, by omega, fun code => by simp [Instr.sliceBound, asIntOf, hi.1]; omega⟩
        · cases h
      | _ => simp at h
theorem bounds_run {ok} {lo' hi' mx' : Option Value} {lo hi mx : Option (Option PV)} (hlo : BdOk w ok G lo' lo) (hhi : BdOk w ok G hi' hi) (hmx : BdOk w ok G mx' mx) {n cap l h : Nat} (hb : bounds n lo hi mx = some (l, h)) (hc : n ≤ cap) (isS : Bool) :
    l ≤ h ∧ h ≤ n ∧ ∃ m', h ≤ m' ∧ m' ≤ cap ∧ (Instr.sliceBounds isS n cap lo' hi' mx').run P w = .ok (l, h, m') w := by
  unfold bounds at hb
  split at hb
  · cases hb
  · rename_i hsn
    cases h1 : bnd mx n n with
    | none => simp [h1] at hb
    | some m =>
      cases h2 : bnd hi m n with
      | none => simp [h1, h2] at hb
      | some hh =>
        cases h3 : bnd lo hh 0 with
        | none => simp [h1, h2, h3] at hb
        | some ll =>
          simp [h1, h2, h3] at hb
          obtain ⟨rfl, rfl⟩ := hb
          have r1 := bnd_run (P := P) hmx h1 hc
          rcases r1 with ⟨rfl, rfl⟩ | ⟨mv, rfl, hmle, hmrun⟩
          · -- no max
            rcases hmx with ⟨rfl, _⟩ | ⟨_, _, h0, _⟩
            · rcases bnd_run (P := P) hhi h2 hc with ⟨rfl, rfl⟩ | ⟨hv, rfl, hhle, hhrun⟩
              · rcases bnd_run (P := P) hlo h3 (Nat.le_refl _) with ⟨rfl, rfl⟩ | ⟨lv, rfl, hlle, hlrun⟩
                · exact ⟨Nat.zero_le _, Nat.le_refl _, cap, hc, Nat.le_refl _, by simp [Instr.sliceBounds]⟩
                · exact ⟨hlle, Nat.le_refl _, cap, hc, Nat.le_refl _, by simp [Instr.sliceBounds, hlrun]⟩
              · rcases bnd_run (P := P) hlo h3 (Nat.le_refl _) with ⟨rfl, rfl⟩ | ⟨lv, rfl, hlle, hlrun⟩
                · exact ⟨Nat.zero_le _, hhle, cap, by omega, Nat.le_refl _, by simp [Instr.sliceBounds, hhrun]⟩
                · exact ⟨hlle, hhle, cap, by omega, Nat.le_refl _, by simp [Instr.sliceBounds, hhrun, hlrun]⟩
            · cases h0
          · rcases bnd_run (P := P) hhi h2 (Nat.le_refl _) with ⟨rfl, rfl⟩ | ⟨hv, rfl, hhle, hhrun⟩
            · exfalso
              rcases hmx with ⟨_, h0⟩ | ⟨_, _, _, rfl, _⟩
              · cases h0
              · rcases hhi with ⟨rfl, _⟩ | ⟨_, _, h0, _⟩
                · simp at hsn
                · cases h0
            · rcases bnd_run (P := P) hlo h3 (Nat.le_refl _) with ⟨rfl, rfl⟩ | ⟨lv, rfl, hlle, hlrun⟩
              · exact ⟨Nat.zero_le _, by omega, m, hhle, by omega, by simp [Instr.sliceBounds, hmrun, hhrun]⟩
              · exact ⟨hlle, by omega, m, hhle, by omega, by simp [Instr.sliceBounds, hmrun, hhrun, hlrun]⟩

/-- A part of what is read. -/
theorem Rep.cut {ok} {a : Option Addr} {n c sz l h m' : Nat} {xs : List (List PV)} {v0 : Value} (hr : Rep w ok v0 (.sl sz xs)) (hv0 : v0 = .slice a xs.length c) (hl : l ≤ h) (hh : h ≤ xs.length) (hm : h ≤ m') (hn : n = h - l) :
    Rep w ok (.slice (if m' = l then a else a.map (·.add (l * sz))) n (m' - l)) (.sl sz ((xs.take h).drop l)) := by
  subst hn
  cases hr with
  | sl a' c' _ _ vs hc hz hp hcell hv =>
    injection hv0 with ha' _ hc'
    subst hc'
    subst ha'
    have hlen : ((xs.take h).drop l).length = h - l := by simp; omega
    have key : ∀ (i : Nat) x, ((xs.take h).drop l)[i]? = some x → xs[l + i]? = some x ∧ l + i < h := fun i x hx => by
      rw [List.getElem?_drop] at hx
      have hlt : l + i < h := by have := (List.getElem?_eq_some_iff.1 hx).1; simp at this; omega
      rw [List.getElem?_take_of_lt hlt] at hx
      exact ⟨hx, hlt⟩
    have := Rep.sl (w := w) (ok := ok) (if m' = l then a' else a'.map (·.add (l * sz))) (m' - l) sz ((xs.take h).drop l) (fun i j => vs (l + i) j) (by rw [hlen]; omega) (fun x hx => hz x (List.mem_of_mem_take (List.mem_of_mem_drop hx))) (fun x hx => hp x (List.mem_of_mem_take (List.mem_of_mem_drop hx)))
      (fun i x j p hx hpp => by
        obtain ⟨hx', hlt⟩ := key i x hx
        obtain ⟨g, o, rfl, hok, hcc⟩ := hcell (l + i) x j p hx' hpp
        refine ⟨g, o + l * sz, ?_, hok, ?_⟩
        · rw [if_neg (by omega)]
          simp [add_off]
        · rw [← hcc]
          congr 2
          rw [Nat.add_mul]
          omega)
      (fun i x j p hx hpp => hv (l + i) x j p (key i x hx).1 hpp)
    rw [hlen] at this
    exact this
theorem sliceS_sim (h : RelW w0 bl D w m G) (hD : ∀ d, D d → D' d) {t : TypeId} {a v : PV} {lo hi mx : Option (Option PV)} {lo' hi' mx' : Option Value} {wr : Wr} {l o} {a' : Value} (hr : (sliceS P t a lo hi mx).run m = some ((v, wr), l, o)) (ha : RepS w (okP w m G) G a' a)
    (hlo : BdOk w (okP w m G) G lo' lo) (hhi : BdOk w (okP w m G) G hi' hi) (hmx : BdOk w (okP w m G) G mx' mx) :
    ∃ v' w', (Instr.sliceAt t a' lo' hi' mx').run P w = .ok v' w' ∧ After w0 bl D' w m G v wr v' w' := by
  unfold sliceS at hr
  split at hr
  · rename_i hu
    split at hr
    · split at hr
      · rename_i l1 h1 hb
        have h1' := (run_ret hr).1
        injection h1' with h1' h2
        subst h1'; subst h2
        obtain ⟨s, rfl, rfl⟩ := ha.str
        have hls : s.data.toList.length = s.size := by rw [Array.length_toList]; rfl
        rw [hls] at hb
        rcases hmx with ⟨_, rfl⟩ | ⟨_, _, _, h0, _⟩
        · obtain ⟨b1, b2, m', b3, _, b4⟩ := bounds_run (P := P) hlo hhi (mx := none) (.inl ⟨rfl, rfl⟩) hb (Nat.le_refl _) false
          refine ⟨.string (s.extract l1 h1), w, by simp [Instr.sliceAt, Instr.slice, run_underlying hu, b4], After.quiet h hD ?_⟩
          have := Rep.str (w := w) (ok := okP w m G) (s.extract l1 h1)
          rw [Lib.extract_data, ← List.drop_take] at this
          exact .leaf (.pl this rfl)
        · cases h0
      · exact (run_fail hr).elim
    · exact (run_fail hr).elim
  · rename_i e hu
    have krun : ∀ (ad : Option Addr) (n c l h m' sz : Nat), tSize P e = some sz → (Instr.sliceBounds true n c lo' hi' mx').run P w = .ok (l, h, m') w →
        (Instr.sliceAt t (.slice ad n c) lo' hi' mx').run P w = .ok (.slice (if m' = l then ad else ad.map (·.add (l * sz))) (h - l) (m' - l)) w := fun ad n c l h m' sz hs hb => by
      simp [Instr.sliceAt, Instr.slice, run_underlying hu, hb, run_sizeOf' hs]
    split at hr
    · rename_i sz hs
      split at hr
      · rename_i lh hb
        obtain ⟨l1, h1⟩ := lh
        have h1' := (run_ret hr).1
        injection h1' with h1' h2
        subst h1'; subst h2
        have := ha.nils; subst this
        obtain ⟨b1, b2, m', b3, b5, b4⟩ := bounds_run (P := P) hlo hhi hmx hb (Nat.le_refl 0) true
        have hh0 : h1 = 0 := by omega
        have hl0 : l1 = 0 := by omega
        subst hh0; subst hl0
        have hm0 : m' = 0 := by omega
        subst hm0
        exact ⟨_, w, krun none 0 0 0 0 0 sz hs b4, After.quiet h hD (.leaf (.pl .nils rfl))⟩
      · exact (run_fail hr).elim
    · rename_i sz' sz xs hs
      split at hr
      · rename_i l1 h1 hb
        split at hr
        · rename_i hsz
          have hsz : sz = sz' := by simpa using hsz
          subst hsz
          have h1' := (run_ret hr).1
          injection h1' with h1' h2
          subst h1'; subst h2
          have hrep := ha.rep rfl
          cases hrep with
          | sl ad c _ _ vs hc hz hp hcell hv =>
            obtain ⟨b1, b2, m', b3, b5, b4⟩ := bounds_run (P := P) hlo hhi hmx hb hc true
            exact ⟨_, w, krun ad _ c _ _ _ sz hs b4, After.quiet h hD (.leaf (.pl ((Rep.sl ad c sz xs vs hc hz hp hcell hv).cut rfl b1 b2 b3 rfl) rfl))⟩
        · exact (run_fail hr).elim
      · exact (run_fail hr).elim
    · rename_i sz' d hs
      obtain ⟨e1, l', hm, hk⟩ := run_rdc hr
      obtain ⟨own, c⟩ := e1
      cases c with
      | box => exact (run_fail hk).elim
      | row e' sz xs =>
        simp only at hk
        split at hk
        · rename_i l1 h1 hb
          split at hk
          · rename_i hsz
            have hsz : sz = sz' := by simpa using hsz
            subst hsz
            have h1' := (run_ret hk).1
            injection h1' with h1' h2
            subst h1'; subst h2
            obtain ⟨hR, hA⟩ := h.fz d
            have h3 : putF m [(d, .fz)] d = some ⟨false, .row e' sz xs⟩ := by simp only [putF, hm, upd_eq]
            obtain ⟨v', hv', hrep⟩ := (hR.ent d _ h3).froRow
            have := ha.h.1
            rw [hv'] at this; injection this with this; subst this
            cases hrep with
            | sl ad c _ _ vs hc hz hp hcell hv =>
              obtain ⟨b1, b2, m', b3, b5, b4⟩ := bounds_run (P := P) hlo hhi hmx hb hc true
              exact ⟨_, w, krun ad _ c _ _ _ sz hs b4, G, hR.widen hD, hA, .leaf (.pl ((Rep.sl ad c sz xs vs hc hz hp hcell hv).cut rfl b1 b2 b3 rfl) rfl)⟩
          · exact (run_fail hk).elim
        · exact (run_fail hk).elim
    · exact (run_fail hr).elim
  · exact (run_fail hr).elim
end Go.Den
