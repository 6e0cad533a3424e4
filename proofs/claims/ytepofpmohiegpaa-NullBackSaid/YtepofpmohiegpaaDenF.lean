/- Den, part F: loads, stores, variables, fields, places. -/
import Derived.Test.YtepofpmohiegpaaDenE
namespace Go.Den
variable {P : Program} {w0 w : World} {bl : List Nat} {D D' : Nat → Prop} {m : Nat → Option Ent} {G : Gh}

/-- Ids that are new. -/
structure Fr (D D' : Nat → Prop) (fid : Nat) : Prop where
  sub : ∀ d, D d → D' d
  new : ∀ j, j < 64 → ¬ D (fid + j) ∧ D' (fid + j)
theorem Fr.zero {D D' fid} (h : Fr D D' fid) : ¬ D fid ∧ D' fid := by simpa using h.new 0 (by decide)

theorem EntOk.box {ok d own cs} (h : EntOk w ok G d ⟨own, .box cs⟩) : ∃ b, G.B d = some b ∧ ∀ (j : Nat) p, cs[j]? = some p → ∃ u, w.cell? ⟨b, j, none⟩ = some u ∧ RepL w ok G u p := by
  cases own with
  | true =>
    obtain ⟨b, hb, cur, t, fz, h1, h2, h3, h4⟩ := h
    exact ⟨b, hb, fun j p hp => let ⟨u, hu, hr⟩ := h4 j p hp; ⟨u, by rw [cell_of_heap h1, hu], hr⟩⟩
  | false =>
    obtain ⟨b, hb, h1⟩ := h
    exact ⟨b, hb, fun j p hp => (h1 j p hp).2⟩
theorem EntOk.row {ok d own e sz xs} (h : EntOk w ok G d ⟨own, .row e sz xs⟩) : ∃ v, G.V d = some v ∧ G.Z d = sz ∧ (∀ x ∈ xs, x.length = sz) ∧ (∀ x ∈ xs, ∀ p ∈ x, plainLeaf p = true) ∧ ∃ a c, v = .slice a xs.length c ∧ xs.length ≤ c ∧
    (xs ≠ [] → ∃ g, a = some ⟨g, 0, none⟩) ∧
    ∀ (i : Nat) x (j : Nat) p, xs[i]? = some x → x[j]? = some p → ∃ g, a = some ⟨g, 0, none⟩ ∧ ∃ u, w.cell? ⟨g, i * sz + j, none⟩ = some u ∧ Rep w ok u p := by
  cases own with
  | true =>
    obtain ⟨v, hv, hz, hr⟩ := h
    refine ⟨v, hv, hz, ?_⟩
    rcases hr with ⟨rfl, rfl⟩ | ⟨g, c, cur, fz, rfl, h1, h2, h3, h4, h5, h6, h7⟩
    · exact ⟨by simp, by simp, none, 0, rfl, Nat.le_refl _, by simp, by simp⟩
    · exact ⟨h5, h6, some ⟨g, 0, none⟩, c, rfl, h2, fun _ => ⟨g, rfl⟩, fun i x j p hx hp => ⟨g, rfl, let ⟨u, hu, hr⟩ := h7 i x j p hx hp; ⟨u, by rw [cell_of_heap h1, hu], hr⟩⟩⟩
  | false =>
    obtain ⟨v, hv, hz, hr, hf⟩ := h
    cases hr with
    | sl a c _ _ vs hc hz' hp' hr' hv' =>
      refine ⟨_, hv, hz, hz', hp', a, c, rfl, hc, fun hne => ?_, fun i x j p hx hp => ?_⟩
      · obtain ⟨g, c', hg⟩ := hf hne
        injection hg with hg
        exact ⟨g, hg⟩
      · obtain ⟨g, o, ha, _, hcell⟩ := hr' i x j p hx hp
        obtain ⟨g', c', hg⟩ := hf (by intro h0; simp [h0] at hx)
        injection hg with hg
        rw [ha] at hg
        injection hg with hg
        injection hg with hg1 hg2
        subst hg1; subst hg2
        exact ⟨g, ha, _, by simpa using hcell, hv' i x j p hx hp⟩

/-! ### load -/
theorem loadS_sim (h : RelW w0 bl D w m G) (hD : ∀ d, D d → D' d) {t : TypeId} {a v : PV} {wr : Wr} {l o a'} (hr : (loadS P t a).run m = some ((v, wr), l, o)) (ha : RepS w (okP w m G) G a' a) :
    ∃ v', (Instr.loadAt t a').run P w = .ok v' w ∧ After w0 bl D' w m G v wr v' w := by
  cases a with
  | pb d off =>
    obtain ⟨e, l', hm, hk⟩ := run_rdc hr
    obtain ⟨own, c⟩ := e
    cases c with
    | row => exact (run_fail hk).elim
    | box cs =>
      obtain ⟨hl, rfl⟩ := run_retO hk
      obtain ⟨b, hb, rfl⟩ := ha.pb
      obtain ⟨b', hb', hc⟩ := (h.ent d _ hm).box
      rw [hb] at hb'
      injection hb' with hb'
      subst hb'
      obtain ⟨v', hv', hS⟩ := loadC_run (P := P) (w := w) (ok := okP w m G) (G := G) hl b 0 (fun j p hp => by simpa using hc j p hp)
      rw [Nat.zero_add] at hv'
      exact ⟨v', by simpa [Instr.loadAt, Instr.sureAddr] using hv', After.quiet h hD hS⟩
  | pe d i off =>
    obtain ⟨e, l', hm, hk⟩ := run_rdc hr
    obtain ⟨own, c⟩ := e
    cases c with
    | box => exact (run_fail hk).elim
    | row e sz xs =>
      simp only at hk
      cases hx : xs[i]? with
      | none => simp only [hx] at hk; exact (run_fail hk).elim
      | some cs =>
        simp only [hx] at hk
        obtain ⟨hl, rfl⟩ := run_retO hk
        obtain ⟨g, n, c, hV, rfl⟩ := ha.pe
        obtain ⟨v1, hV1, hz, hlen, hpl, a1, c1, rfl, _, _, hcell⟩ := (h.ent d _ hm).row
        rw [hV] at hV1
        injection hV1 with hV1
        injection hV1 with ha1 hn1 hc1
        subst ha1
        obtain ⟨v', hv', hS⟩ := loadC_run (P := P) (w := w) (ok := okP w m G) (G := G) hl g (i * sz) (fun j p hp => by
          obtain ⟨g', hg', u, hu, hrep⟩ := hcell i cs j p hx hp
          injection hg' with hg'; injection hg' with hg'; subst hg'
          exact ⟨u, hu, .pl hrep (hpl cs (List.mem_of_getElem? hx) p (List.mem_of_getElem? hp))⟩)
        rw [hz]
        exact ⟨v', by simpa [Instr.loadAt, Instr.sureAddr] using hv', After.quiet h hD hS⟩
  | pc cs =>
    obtain ⟨hl, rfl⟩ := run_retO hr
    have := ha.rep rfl
    cases this with
    | pc ad _ vs hpl hcell hv =>
      by_cases hcs : cs = []
      · subst hcs
        simp only [loadC] at hl
        cases hn : tSize P t with
        | none => simp [hn] at hl
        | some n =>
          cases hg : tAgg P t with
          | none => simp [hn, hg] at hl
          | some g =>
            simp only [hn, hg, Nat.zero_add, List.length_nil, Nat.le_zero] at hl
            split at hl
            · rename_i h0
              subst h0
              cases g with
              | false => simp [mkv] at hl
              | true =>
                simp [mkv] at hl
                subst hl
                have hld := run_loadCells_list (P := P) w ad [] (by simp)
                simp only [List.length_nil] at hld
                exact ⟨.agg #[], by simp [Instr.loadAt, Instr.sureAddr, loadVar, run_isAgg hg, run_sizeOf' hn, hld], After.quiet h hD (.agg _ _ rfl (by simp))⟩
            · cases hl
      · obtain ⟨p0, hp0⟩ : ∃ p, cs[0]? = some p := by cases cs with | nil => exact absurd rfl hcs | cons x r => exact ⟨x, rfl⟩
        obtain ⟨g, o, rfl, _, _⟩ := hcell 0 p0 hp0
        obtain ⟨v', hv', hS⟩ := loadC_run (P := P) (w := w) (ok := okP w m G) (G := G) hl g o (fun j p hp => by
          obtain ⟨g', o', he, _, hc⟩ := hcell j p hp
          injection he with he1 he2; subst he1; subst he2
          exact ⟨_, hc, .pl (hv j p hp) (hpl p (List.mem_of_getElem? hp))⟩)
        exact ⟨v', by simpa [Instr.loadAt, Instr.sureAddr] using hv', After.quiet h hD hS⟩
  | _ => exact (run_fail hr).elim

/-! ### variables -/
theorem alloc_sim (h : RelW w0 bl D w m G) {fid : Nat} (hf : Fr D D' fid) {t : TypeId} {cs : List PV} (hz : tZero P t = some cs) :
    ∃ v' w', (Instr.alloc t true (.tuple #[])).run P w = .ok v' w' ∧ After w0 bl D' w m G (.pb fid 0) [(fid, .set (.box cs))] v' w' := by
  obtain ⟨z, hzr, hzc⟩ := run_zero hz
  obtain ⟨h1, h2, h3⟩ := constsPV_rep hzc w (okP w m G)
  obtain ⟨hR, hA⟩ := h.newBox hf.zero.1 hf.sub hf.zero.2 z.cells t cs (by simpa using h1) (fun j p hp => by
    obtain ⟨u, hu, hr⟩ := h3 j p hp
    exact ⟨u, by simpa using hu, .pl hr (h2 p (List.mem_of_getElem? hp))⟩)
  exact ⟨.pointer (some ⟨w.heap.size, 0, none⟩), _, by simp [Instr.alloc, hzr, newVar, newRow, newObj, Sem.run], _, hR, hA, .leaf (.pb 0 (by simp [Gh.withB, upd_eq]))⟩
theorem box_sim (h : RelW w0 bl D w m G) {fid : Nat} (hf : Fr D D' fid) {t : TypeId} {x : Value} {p : PV} {cs : List PV} (hx : RepS w (okP w m G) G x p) (hl : leavesO p = some cs) :
    ∃ v' w', (Instr.box t x).run P w = .ok v' w' ∧ After w0 bl D' w m G (.pb fid 0) [(fid, .set (.box cs))] v' w' := by
  obtain ⟨h1, h2⟩ := hx.leaves hl
  obtain ⟨hR, hA⟩ := h.newBox hf.zero.1 hf.sub hf.zero.2 x.cells t cs h1 (fun j p hp => by
    have hj : j < x.cells.size := by rw [h1]; exact (List.getElem?_eq_some_iff.1 hp).1
    exact ⟨x.cells[j], by simp [hj], h2 j _ p (by simp [hj]) hp⟩)
  exact ⟨.pointer (some ⟨w.heap.size, 0, none⟩), _, by simp [Instr.box, newVar, newRow, newObj, Sem.run], _, hR, hA, .leaf (.pb 0 (by simp [Gh.withB, upd_eq]))⟩

/-! ### fields, places -/
theorem tField_run {t : TypeId} {j off : Nat} {ft : TypeId} (h : tField P t j = some (off, ft)) : ∃ fs f, P.underlying t = some (.struct fs) ∧ fs[j]? = some f ∧ f.offset = off ∧ f.type = ft := by
  unfold tField at h
  cases hu : P.underlying t with
  | none => simp [hu] at h
  | some d =>
    cases d with
    | struct fs =>
      cases hf : fs[j]? with
      | none => simp [hu, hf] at h
      | some f => simp [hu, hf] at h; exact ⟨fs, f, rfl, hf, h.1, h.2⟩
    | _ => simp [hu] at h
theorem fieldAddrS_sim (h : RelW w0 bl D w m G) (hD : ∀ d, D d → D' d) {t : TypeId} {j : Nat} {a v : PV} {wr : Wr} {l o a'} (hr : (fieldAddrS P t j a).run m = some ((v, wr), l, o)) (ha : RepS w (okP w m G) G a' a) :
    ∃ v', (Instr.fieldAt t a' j).run P w = .ok v' w ∧ After w0 bl D' w m G v wr v' w := by
  unfold fieldAddrS at hr
  cases hfd : tField P t j with
  | none => simp only [hfd] at hr; exact (run_fail hr).elim
  | some x =>
    obtain ⟨off, ft⟩ := x
    simp only [hfd] at hr
    cases hs : tSize P ft with
    | none => simp only [hs] at hr; exact (run_fail hr).elim
    | some n =>
      cases n with
      | zero => simp only [hs] at hr; exact (run_fail hr).elim
      | succ n =>
        simp only [hs] at hr
        obtain ⟨fs, f, hu, hf, rfl, rfl⟩ := tField_run hfd
        have key : ∀ ad : Addr, (Instr.fieldAt t (.pointer (some ad)) j).run P w = .ok (.pointer (some (ad.add f.offset))) w := fun ad => by
          simp [Instr.fieldAt, run_underlying hu, hf, Instr.sureAddr, fieldPlace, run_sizeOf' hs]
        cases a with
        | pb d o =>
          obtain ⟨h1, -⟩ := run_ret hr
          injection h1 with h1 h2
          subst h1; subst h2
          obtain ⟨b, hb, rfl⟩ := ha.pb
          refine ⟨_, key _, After.quiet h hD ?_⟩
          rw [add_off]
          exact .leaf (.pb _ hb)
        | pe d i o =>
          obtain ⟨h1, -⟩ := run_ret hr
          injection h1 with h1 h2
          subst h1; subst h2
          obtain ⟨g, n, c, hV, rfl⟩ := ha.pe
          refine ⟨_, key _, After.quiet h hD ?_⟩
          rw [add_off, Nat.add_assoc]
          exact .leaf (.pe _ _ hV)
        | pc cs =>
          obtain ⟨h1, -⟩ := run_ret hr
          injection h1 with h1 h2
          subst h1; subst h2
          have := ha.rep rfl
          cases this with
          | pc ad _ vs hpl hcell hv =>
            refine ⟨_, key _, After.quiet h hD (.leaf (.pl (.pc _ _ (fun j => vs (f.offset + j)) (fun p hp => hpl p (List.mem_of_mem_drop hp)) (fun j p hp => ?_) (fun j p hp => ?_)) rfl))⟩
            · rw [List.getElem?_drop] at hp
              obtain ⟨g, o, rfl, hok, hc⟩ := hcell _ p hp
              exact ⟨g, o + f.offset, add_off .., hok, by rw [Nat.add_assoc]; exact hc⟩
            · rw [List.getElem?_drop] at hp
              exact hv _ p hp
        | _ => exact (run_fail hr).elim
theorem fieldS_sim (h : RelW w0 bl D w m G) (hD : ∀ d, D d → D' d) {t : TypeId} {j off : Nat} {ft : TypeId} {cs : List PV} {v : PV} (hf : tField P t j = some (off, ft)) (hl : loadC P ft cs off = some v) {a'} (ha : RepS w (okP w m G) G a' (.agg cs)) :
    ∃ v', (Instr.field t a' j).run P w = .ok v' w ∧ After w0 bl D' w m G v [] v' w := by
  obtain ⟨fs, f, hu, hfj, rfl, rfl⟩ := tField_run hf
  cases ha with
  | leaf ha => cases ha with | pl _ hp => simp [plainLeaf] at hp
  | agg cells _ hsz hv =>
    unfold loadC at hl
    cases hn : tSize P f.type with
    | none => simp [hn] at hl
    | some n =>
      cases hg : tAgg P f.type with
      | none => simp [hn, hg] at hl
      | some g =>
        simp only [hn, hg] at hl
        split at hl
        · rename_i hle
          rcases mkv_rep (w := w) (ok := okP w m G) (G := G) hl (us := (cells.toList.drop f.offset).take n) (by simp; omega) (fun j u p hu hp => by
            rw [List.getElem?_take] at hu hp
            split at hu
            · rename_i hj
              rw [if_pos hj, List.getElem?_drop] at hp
              rw [List.getElem?_drop] at hu
              exact hv _ u p (by simpa using hu) hp
            · cases hu) with ⟨rfl, rfl, hS⟩ | ⟨rfl, u, p, hus, hcs, rfl, hS⟩
          · refine ⟨_, ?_, After.quiet h hD hS⟩
            simp [Instr.field, run_underlying hu, hfj, asAgg, part, run_isAgg hg, run_sizeOf' hn]
            apply Array.ext'
            simp
          · refine ⟨u, ?_, After.quiet h hD hS⟩
            have : cells[f.offset]? = some u := by
              have h0 : ((cells.toList.drop f.offset).take n)[0]? = some u := by rw [hus]; rfl
              rw [List.getElem?_take] at h0
              split at h0
              · simpa using h0
              · cases h0
            simp [Instr.field, run_underlying hu, hfj, asAgg, part, run_isAgg hg, this]
        · cases hl
  
theorem nilCheck_sim {a' : Value} {ok a} (ha : RepS w ok G a' a) (hp : isPtr a = true) : ∃ x, a' = .pointer (some x) := by
  cases a <;> simp [isPtr] at hp
  · obtain ⟨b, _, rfl⟩ := ha.pb; exact ⟨_, rfl⟩
  · obtain ⟨g, _, _, _, rfl⟩ := ha.pe; exact ⟨_, rfl⟩
  · have := ha.rep rfl; cases this; exact ⟨_, rfl⟩

theorem indexAddrS_sim (h : RelW w0 bl D w m G) (hD : ∀ d, D d → D' d) {t : TypeId} {a i v : PV} {wr : Wr} {l o a' i'} (hr : (indexAddrS P t a i).run m = some ((v, wr), l, o)) (ha : RepS w (okP w m G) G a' a) (hi : RepS w (okP w m G) G i' i) :
    ∃ v', (Instr.indexAt t a' i').run P w = .ok v' w ∧ After w0 bl D' w m G v wr v' w := by
  unfold indexAddrS at hr
  cases hu : P.underlying t with
  | none => simp only [hu] at hr; exact (run_fail hr).elim
  | some d =>
    cases d with
    | slice e =>
      simp only [hu] at hr
      cases hn : tSize P e with
      | none => simp only [hn] at hr; exact (run_fail hr).elim
      | some n =>
        cases n with
        | zero => simp only [hn] at hr; exact (run_fail hr).elim
        | succ n =>
          simp only [hn] at hr
          cases i with
          | int k x =>
            simp only at hr
            have := hi.int
            subst this
            split at hr
            · rename_i h0
              cases a with
              | sl sz xs =>
                simp only at hr
                split at hr
                · rename_i hsz
                  have hsz : sz = n + 1 := by simpa using hsz
                  subst hsz
                  cases hx : xs[x.toNat]? with
                  | none => simp only [hx] at hr; exact (run_fail hr).elim
                  | some cs =>
                    simp only [hx] at hr
                    obtain ⟨h1, -⟩ := run_ret hr
                    injection h1 with h1 h2
                    subst h1; subst h2
                    have := ha.rep rfl
                    cases this with
                    | sl ad c _ _ vs hc hz hpl hcell hv =>
                      have hmem := List.mem_of_getElem? hx
                      have hlen := hz cs hmem
                      obtain ⟨p0, hp0⟩ : ∃ p, cs[0]? = some p := ⟨_, List.getElem?_eq_getElem (by omega)⟩
                      obtain ⟨g, o, rfl, _, _⟩ := hcell _ cs 0 p0 hx hp0
                      have hlt : x.toNat < xs.length := (List.getElem?_eq_some_iff.1 hx).1
                      have hlt' : x < (xs.length : Int) := by omega
                      refine ⟨.pointer (some ⟨g, o + x.toNat * (n + 1), none⟩), by simp [Instr.indexAt, asIntOf, run_underlying hu, h0, hlt', run_sizeOf' hn, add_off], After.quiet h hD (.leaf (.pl (.pc _ _ (vs x.toNat) (fun p hp => hpl cs hmem p hp) (fun j p hp => ?_) (fun j p hp => hv _ cs j p hx hp)) rfl))⟩
                      obtain ⟨g', o', he, hok, hcc⟩ := hcell _ cs j p hx hp
                      injection he with he; injection he with he1 he2; subst he1; subst he2
                      exact ⟨g, _, rfl, hok, by rw [Nat.add_assoc]; exact hcc⟩
                · exact (run_fail hr).elim
              | h d =>
                obtain ⟨e1, l', hm, hk⟩ := run_rdc hr
                obtain ⟨own, c⟩ := e1
                cases c with
                | box => exact (run_fail hk).elim
                | row e' sz xs =>
                  simp only at hk
                  split at hk
                  · rename_i hsz
                    simp only [Bool.and_eq_true, beq_iff_eq, decide_eq_true_eq] at hsz
                    obtain ⟨rfl, hlt⟩ := hsz
                    obtain ⟨h1, -⟩ := run_ret hk
                    injection h1 with h1 h2
                    subst h1; subst h2
                    obtain ⟨hV, -⟩ := ha.h
                    obtain ⟨v1, hV1, hz, hlen, hpl, a1, c1, rfl, _, hne, hcell⟩ := (h.ent d _ hm).row
                    rw [hV] at hV1
                    injection hV1 with hV1
                    subst hV1
                    obtain ⟨g, rfl⟩ := hne (by intro h0; simp [h0] at hlt)
                    have hlt' : x < (xs.length : Int) := by omega
                    refine ⟨.pointer (some ⟨g, x.toNat * (n + 1), none⟩), by simp [Instr.indexAt, asIntOf, run_underlying hu, h0, hlt', run_sizeOf' hn, add_off], After.quiet h hD ?_⟩
                    have := RepL.pe (w := w) (ok := okP w m G) x.toNat 0 hV
                    rw [hz, Nat.add_zero] at this
                    exact .leaf this
                  · exact (run_fail hk).elim
              | _ => exact (run_fail hr).elim
            · exact (run_fail hr).elim
          | _ => exact (run_fail hr).elim
    | _ => simp only [hu] at hr; exact (run_fail hr).elim

theorem indexS_sim (h : RelW w0 bl D w m G) (hD : ∀ d, D d → D' d) {t : TypeId} {a i v : PV} {wr : Wr} {l o a' i'} (hr : (indexS P t a i).run m = some ((v, wr), l, o)) (ha : RepS w (okP w m G) G a' a) (hi : RepS w (okP w m G) G i' i) :
    ∃ v', (Instr.index t a' i').run P w = .ok v' w ∧ After w0 bl D' w m G v wr v' w := by
  unfold indexS at hr
  split at hr
  · rename_i hu
    split at hr
    · rename_i h0
      split at hr
      · rename_i c hc
        obtain ⟨h1, -⟩ := run_ret hr
        injection h1 with h1 h2
        subst h1; subst h2
        obtain ⟨s, rfl, rfl⟩ := ha.str
        have := hi.int
        subst this
        refine ⟨.int .u8 c.toNat, ?_, After.quiet h hD (.leaf (.pl (.int ..) rfl))⟩
        rename_i n _
        have hs : s[n.toNat]? = some c := by
          have h2 := (List.getElem?_eq_some_iff.1 hc)
          obtain ⟨hlt, he⟩ := h2
          have hlt' : n.toNat < s.size := by simpa using hlt
          rw [getElem?_pos s n.toNat hlt']
          congr 1
        simp [Instr.index, asIntOf, run_underlying hu, h0, hs]
      · exact (run_fail hr).elim
    · exact (run_fail hr).elim
  · exact (run_fail hr).elim
end Go.Den
