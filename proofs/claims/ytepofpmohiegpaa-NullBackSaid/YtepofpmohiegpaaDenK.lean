/- Den, part K: stores. -/
import Derived.Test.YtepofpmohiegpaaDenJ
namespace Go.Den
variable {P : Program} {w0 w : World} {bl : List Nat} {D D' : Nat → Prop} {m : Nat → Option Ent} {G : Gh}

theorem frozen_of {w : World} {g o : Nat} {cur : Array Value} {t : TypeId} {fz : Nat × Nat} (h : w.heap[g]? = some (.cells cur t fz)) (hz : noFz fz cur.size) (ho : o < cur.size) : w.frozen? ⟨g, o, none⟩ = false := by
  obtain ⟨lo, hi⟩ := fz
  have h1 := hz.out ho
  simp only at h1
  cases hb : w.frozen? ⟨g, o, none⟩ with
  | false => rfl
  | true =>
    simp [World.frozen?, h] at hb
    exact absurd hb h1
theorem storeCells_run {w : World} {g o : Nat} {cur : Array Value} {t : TypeId} {fz : Nat × Nat} (h : w.heap[g]? = some (.cells cur t fz)) (hz : noFz fz cur.size) (vs : List Value) (hle : o + vs.length ≤ cur.size) (h1 : ∀ v ∈ vs, v.oneCell' = true) :
    (storeCells ⟨g, o, none⟩ vs).run P w = .ok () (w.setCells g o vs) := by
  have := run_storeCells_cells (P := P) g o vs 0 w (fun j hj => by
    rw [cell_of_heap h]
    simp; omega) (fun j hj => frozen_of h hz (by omega)) h1
  simpa using this
theorem CellsOk.ex {R : Value → PV → Prop} {cur : Array Value} {cs : List PV} (h : CellsOk R cur cs) (j : Nat) (p : PV) (hp : cs[j]? = some p) : ∃ u, cur[j]? = some u ∧ R u p := by
  have hj : j < cur.size := by rw [h.1]; exact (List.getElem?_eq_some_iff.1 hp).1
  exact ⟨cur[j], by simp [hj], h.2 j _ p (by simp [hj]) hp⟩

theorem storeS_sim (h : RelW w0 bl D w m G) (hD : ∀ d, D d → D' d) {t : TypeId} {a : PV} {v : List PV} {r : PV} {wr : Wr} {l o} {a' x' : Value} (hr : (storeS P t a v).run m = some ((r, wr), l, o)) (ha : RepS w (okP w m G) G a' a)
    (hx : x'.cells.size = v.length ∧ ∀ (j : Nat) u q, x'.cells[j]? = some u → v[j]? = some q → RepL w (okP w m G) G u q) :
    r = .undef ∧ ∃ w', (Instr.storeAt t a' x').run P w = .ok () w' ∧ After w0 bl D' w m G r wr Go.undef w' := by
  unfold storeS at hr
  have hone : ∀ u ∈ x'.cells.toList, u.oneCell' = true := fun u hu => by
    obtain ⟨j, hj⟩ := List.getElem?_of_mem hu
    have hjl : j < v.length := by have := (List.getElem?_eq_some_iff.1 hj).1; simp at this; omega
    exact (hx.2 j u _ (by simpa using hj) (List.getElem?_eq_getElem hjl)).one.1
  cases hn : tSize P t with
  | none => simp only [hn] at hr; exact (run_fail hr).elim
  | some n =>
    simp only [hn] at hr
    split at hr
    · rename_i hlen
      have hlen : v.length = n := by simpa using hlen
      have hrun : ∀ ad : Addr, (Instr.storeAt t (.pointer (some ad)) x').run P w = (storeCells ad x'.cells.toList).run P w := fun ad => by
        simp [Instr.storeAt, Instr.sureAddr, storeVar, run_sizeOf' hn, hx.1, hlen]
      cases a with
      | pb d off =>
        obtain ⟨c, l', hm, hk⟩ := run_own hr
        cases c with
        | row => exact (run_fail hk).elim
        | box cs =>
          simp only at hk
          split at hk
          · rename_i hle
            have h1 := (run_ret hk).1
            injection h1 with h1 h2
            subst h1; subst h2
            obtain ⟨b, hb, rfl⟩ := ha.pb
            obtain ⟨b', hb', cur, t1, fz, hh, hs, hz, hc⟩ := h.ent d _ hm
            rw [hb] at hb'
            injection hb' with hb'
            subst hb'
            have hco : CellsOk (RepL w (okP w m G) G) cur cs := ⟨hs, fun j u p hu hp => by
              obtain ⟨u', hu', hL⟩ := hc j p hp
              rw [hu] at hu'; injection hu' with hu'; subst hu'; exact hL⟩
            have hset := hco.set (v := x'.cells.toList) (ps := v) (off := off) (by simpa using hx.1) (fun j u p hu hp => hx.2 j u p (by simpa using hu) hp) (by omega)
            obtain ⟨hR, hA⟩ := h.boxSet hm hb hh hz off x'.cells.toList (splice cs off v) (splice_length (by omega)) hs hset.ex
            exact ⟨rfl, _, (hrun _).trans (storeCells_run hh hz _ (by simp; omega) hone), G, hR.widen hD, hA, .undef⟩
          · exact (run_fail hk).elim
      | pe d i off =>
        obtain ⟨c, l', hm, hk⟩ := run_own hr
        cases c with
        | box => exact (run_fail hk).elim
        | row e sz xs =>
          simp only at hk
          cases hxi : xs[i]? with
          | none => simp only [hxi] at hk; exact (run_fail hk).elim
          | some cs =>
            simp only [hxi] at hk
            obtain ⟨y, a1, a2, a3, a4, hy, hk, _, _⟩ := run_bind hk
            obtain ⟨qs, wq⟩ := y
            simp only at hk
            split at hk
            · rename_i hle
              obtain ⟨hle, hall⟩ := hle
              have h1 := (run_ret hk).1
              injection h1 with h1 h2
              subst h1; subst h2
              obtain ⟨g1, g2, g3, g4, g5, g6⟩ := sealL_sim (vs := x'.cells.toList) h (Fro.refl m) hy (by simpa using hx.1) (fun j u p hu hp => hx.2 j u p (by simpa using hu) hp)
              obtain ⟨g, n', c', hV, rfl⟩ := ha.pe
              have hm1 : putF m wq d = some ⟨true, .row e sz xs⟩ := by
                have hkeep : ∀ (wq : Wr) (m : Nat → Option Ent), (wq.all fun x => !(x.1 == d)) = true → putF m wq d = m d := by
                  intro wq
                  induction wq with
                  | nil => intro m _; rfl
                  | cons x r ih =>
                    intro m hx
                    obtain ⟨k, x⟩ := x
                    simp only [List.all_cons, Bool.and_eq_true, Bool.not_eq_true', beq_eq_false_iff_ne] at hx
                    have hne : d ≠ k := fun h => hx.1 h.symm
                    cases x with
                    | set c => simp only [putF]; rw [ih _ hx.2, upd_ne _ _ hne]
                    | del => simp only [putF]; rw [ih _ hx.2, upd_ne _ _ hne]
                    | fz =>
                      simp only [putF]
                      rw [ih _ hx.2]
                      cases m k with
                      | none => rfl
                      | some e => simp only [upd_ne _ _ hne]
                rw [hkeep wq m hall, hm]
              obtain ⟨v1, hV1, hz, hrow⟩ := g1.ent d _ hm1
              rw [hV] at hV1
              injection hV1 with hV1
              subst hV1
              rcases hrow with ⟨h0, _⟩ | ⟨g', c1, cur, fz, hv1, hh, hc1, hcur, hfz, hlen1, hpl, hcell⟩
              · cases h0
              · injection hv1 with hg hn' hc'
                injection hg with hg
                injection hg with hg
                subst hg; subst hn'; subst hc'
                have hi : i < xs.length := (List.getElem?_eq_some_iff.1 hxi).1
                have hcs : cs.length = sz := hlen1 cs (List.mem_of_getElem? hxi)
                have hib : i * sz + sz ≤ cur.size := by
                  have : (i + 1) * sz ≤ c' * sz := Nat.mul_le_mul_right _ (by omega)
                  rw [Nat.add_mul] at this
                  omega
                have hlx : x'.cells.toList.length = n := by simp; omega
                have hrep : ∀ (k : Nat) x (j : Nat) p, (xs.set i (splice cs off qs))[k]? = some x → x[j]? = some p → ∃ u, (arrSet cur (i * sz + off) x'.cells.toList)[k * sz + j]? = some u ∧ Rep w (okP w (putF m wq) G) u p := by
                  intro k x j p hk hp
                  by_cases hki : k = i
                  · subst hki
                    rw [List.getElem?_set_self hi] at hk
                    injection hk with hk
                    subst hk
                    rw [splice_get _ _ _ _ (by omega)] at hp
                    split at hp
                    · rename_i hj
                      obtain ⟨j', rfl⟩ : ∃ j', j = off + j' := ⟨j - off, by omega⟩
                      rw [Nat.add_sub_cancel_left] at hp
                      obtain ⟨u, hu⟩ : ∃ u, x'.cells.toList[j']? = some u := ⟨_, List.getElem?_eq_getElem (by omega)⟩
                      refine ⟨u, ?_, g6 j' u p hu hp⟩
                      rw [show k * sz + (off + j') = k * sz + off + j' by omega]
                      exact arrSet_in _ _ _ (by omega) j' u hu
                    · rename_i hj
                      obtain ⟨u, hu, hr⟩ := hcell k cs j p hxi hp
                      refine ⟨u, ?_, hr⟩
                      rw [arrSet_out _ _ _ _ (by omega)]
                      exact hu
                  · rw [List.getElem?_set_ne (fun h => hki h.symm)] at hk
                    obtain ⟨u, hu, hr⟩ := hcell k x j p hk hp
                    have hj : j < sz := by have := (List.getElem?_eq_some_iff.1 hp).1; rw [hlen1 x (List.mem_of_getElem? hk)] at this; exact this
                    refine ⟨u, ?_, hr⟩
                    rw [arrSet_out _ _ _ _ (by
                      rcases Nat.lt_or_gt_of_ne hki with h | h
                      · have : (k + 1) * sz ≤ i * sz := Nat.mul_le_mul_right _ h
                        rw [Nat.add_mul] at this
                        omega
                      · have : (i + 1) * sz ≤ k * sz := Nat.mul_le_mul_right _ h
                        rw [Nat.add_mul] at this
                        omega)]
                    exact hu
                obtain ⟨hR, hA⟩ := g1.rowSet hm1 hV hh hfz (i * sz + off) x'.cells.toList (xs.set i (splice cs off qs)) (by simp) hc1 hcur (fun x hx => by
                    rcases List.mem_or_eq_of_mem_set hx with hx | rfl
                    · exact hlen1 x hx
                    · rw [splice_length (by omega), hcs]) (fun x hx p hp => by
                    rcases List.mem_or_eq_of_mem_set hx with hx | rfl
                    · exact hpl x hx p hp
                    · simp only [splice, List.mem_append] at hp
                      rcases hp with (hp | hp) | hp
                      · exact hpl cs (List.mem_of_getElem? hxi) p (List.mem_of_mem_take hp)
                      · exact g5 p hp
                      · exact hpl cs (List.mem_of_getElem? hxi) p (List.mem_of_mem_drop hp)) hz hrep
                have hw : putF m (wq ++ [(d, .set (.row e sz (xs.set i (splice cs off qs))))]) = upd (putF m wq) d (some ⟨true, .row e sz (xs.set i (splice cs off qs))⟩) := by rw [putF_append]; rfl
                refine ⟨rfl, w.setCells g (i * sz + off) x'.cells.toList, ?_, G, ?_, ?_, .undef⟩
                · rw [hrun, hz]
                  exact storeCells_run hh hfz _ (by omega) hone
                · rw [hw]; exact hR.widen hD
                · rw [hw]; exact g3.trans hA
            · exact (run_fail hk).elim
      | _ => exact (run_fail hr).elim
    · exact (run_fail hr).elim
end Go.Den
