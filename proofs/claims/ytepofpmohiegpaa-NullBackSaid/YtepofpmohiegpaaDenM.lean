/- Den, part M: append. -/
import Derived.Test.YtepofpmohiegpaaDenL
namespace Go.Den
variable {P : Program} {w0 w : World} {bl : List Nat} {D D' : Nat → Prop} {m : Nat → Option Ent} {G : Gh}

theorem upd_upd {α : Type} (f : Nat → α) (d : Nat) (x y : α) : upd (upd f d x) d y = upd f d y := by
  funext i; by_cases h : i = d <;> simp [upd, h]
theorem tInfo {e : TypeId} {n b : Nat} {z : List PV} (h1 : tSize P e = some n) (h2 : tBytes P e = some b) (h3 : tZero P e = some z) : ∃ i zv, P.info? e = some i ∧ i.size = n ∧ i.bytes = b ∧ i.zero = some zv ∧ constsPV zv.cells.toList = some z := by
  unfold tSize at h1
  cases hi : P.info? e with
  | none => simp [hi] at h1
  | some i =>
    simp [hi] at h1
    simp [tBytes, hi] at h2
    cases hz : i.zero with
    | none => simp [tZero, hi, hz] at h3
    | some zv => exact ⟨i, zv, rfl, h1, h2, hz, by simpa [tZero, hi, hz] using h3⟩
theorem Laid.one {ok n ys news} (h : Laid w ok n ys news) : ∀ v ∈ news, v.oneCell' = true := fun v hv => by
  obtain ⟨k, hk⟩ := List.getElem?_of_mem hv
  have hkl : k < ys.length * n := by rw [← h.1]; exact (List.getElem?_eq_some_iff.1 hk).1
  have hn : 0 < n := Nat.pos_of_ne_zero fun h0 => by subst h0; simp at hkl
  have hi : k / n < ys.length := Nat.div_lt_of_lt_mul (by rw [Nat.mul_comm]; exact hkl)
  obtain ⟨y, hy⟩ : ∃ y, ys[k / n]? = some y := ⟨_, List.getElem?_eq_getElem hi⟩
  obtain ⟨p, hp⟩ : ∃ p, y[k % n]? = some p := ⟨_, List.getElem?_eq_getElem (by rw [h.2.1 y (List.mem_of_getElem? hy)]; exact Nat.mod_lt _ hn)⟩
  obtain ⟨u, hu, hr⟩ := h.2.2.2 _ y _ p hy hp
  rw [show k / n * n + k % n = k by rw [Nat.mul_comm]; exact Nat.div_add_mod k n, hk] at hu
  injection hu with hu
  subst hu
  exact (hr.one (h.2.2.1 y (List.mem_of_getElem? hy) p (List.mem_of_getElem? hp))).1
theorem Laid.mono {w' ok ok' n ys news} (h : Laid w ok n ys news) (hk : ∀ k, ok k → ok' k ∧ w'.heap[k]? = w.heap[k]?) : Laid w' ok' n ys news :=
  ⟨h.1, h.2.1, h.2.2.1, fun i y j p hy hp => let ⟨u, hu, hr⟩ := h.2.2.2 i y j p hy hp; ⟨u, hu, hr.mono hk⟩⟩
/-- One behind the other. -/
theorem Laid.append {ok n xs ys olds news} (h : Laid w ok n xs olds) (k : Laid w ok n ys news) : Laid w ok n (xs ++ ys) (olds ++ news) := by
  refine ⟨by rw [List.length_append, List.length_append, h.1, k.1, Nat.add_mul], fun y hy => ?_, fun y hy => ?_, fun i y j p hy hp => ?_⟩
  · rcases List.mem_append.1 hy with hy | hy
    · exact h.2.1 y hy
    · exact k.2.1 y hy
  · rcases List.mem_append.1 hy with hy | hy
    · exact h.2.2.1 y hy
    · exact k.2.2.1 y hy
  · by_cases hi : i < xs.length
    · rw [List.getElem?_append_left hi] at hy
      obtain ⟨u, hu, hr⟩ := h.2.2.2 i y j p hy hp
      have hj : j < n := by rw [← h.2.1 y (List.mem_of_getElem? hy)]; exact (List.getElem?_eq_some_iff.1 hp).1
      have := mul_lt hi hj
      exact ⟨u, by rw [List.getElem?_append_left (by rw [h.1]; exact this)]; exact hu, hr⟩
    · rw [List.getElem?_append_right (by omega)] at hy
      obtain ⟨u, hu, hr⟩ := k.2.2.2 _ y j p hy hp
      have hge : xs.length * n ≤ i * n := Nat.mul_le_mul_right _ (by omega)
      refine ⟨u, ?_, hr⟩
      rw [List.getElem?_append_right (by rw [h.1]; omega), h.1]
      rw [← hu]
      congr 1
      rw [Nat.sub_mul]
      omega
/-- A row's cells, as a list. -/
theorem rowAt_laid {ok : Nat → Prop} {e sz : Nat} {xs : List (List PV)} {g c : Nat} {cur : Array Value} {fz : Nat × Nat} (_hh : w.heap[g]? = some (.cells cur e fz)) (hc : xs.length ≤ c) (hcur : c * sz ≤ cur.size) (hz : ∀ x ∈ xs, x.length = sz) (hp : ∀ x ∈ xs, ∀ p ∈ x, plainLeaf p = true)
    (hr : ∀ (i : Nat) x (j : Nat) p, xs[i]? = some x → x[j]? = some p → ∃ u, cur[i * sz + j]? = some u ∧ Rep w ok u p) : Laid w ok sz xs (cur.toList.take (xs.length * sz)) := by
  have hle : xs.length * sz ≤ cur.size := Nat.le_trans (Nat.mul_le_mul_right _ hc) hcur
  refine ⟨by simp; omega, hz, hp, fun i x j p hx hpp => ?_⟩
  obtain ⟨u, hu, hrep⟩ := hr i x j p hx hpp
  have hi := (List.getElem?_eq_some_iff.1 hx).1
  have hj : j < sz := by rw [← hz x (List.mem_of_getElem? hx)]; exact (List.getElem?_eq_some_iff.1 hpp).1
  have hij := mul_lt hi hj
  exact ⟨u, by rw [List.getElem?_take_of_lt hij]; simpa using hu, hrep⟩
/-- A new row out of a list of values, and what lies behind it. -/
theorem newRow_laid (h : RelW w0 bl D w m G) {fid : Nat} (hf : Fr D D' fid) {e sz c : Nat} {xs : List (List PV)} {vs : List Value} {rest : Array Value} {w' : World} (hl : Laid w (okP w m G) sz xs vs) (hc : xs.length ≤ c) (hrest : rest.size = (c - xs.length) * sz)
    (hw : w'.heap = w.heap.push (.cells (vs.toArray ++ rest) e (0, 0))) (hos : w'.os = w.os) (htape : w'.tape = w.tape) (hout : w'.output = w.output) :
    RelW w0 bl D' w' (upd m fid (some ⟨true, .row e sz xs⟩)) (G.withV fid (.slice (some ⟨w.heap.size, 0, none⟩) xs.length c) sz) ∧
    Adv w (okP w m G) G w' (okP w' (upd m fid (some ⟨true, .row e sz xs⟩)) (G.withV fid (.slice (some ⟨w.heap.size, 0, none⟩) xs.length c) sz)) (G.withV fid (.slice (some ⟨w.heap.size, 0, none⟩) xs.length c) sz) := by
  refine h.newRowG hf.zero.1 hf.sub hf.zero.2 (vs.toArray ++ rest) e sz c xs (fz := (0, 0)) (by rw [hw]; simp) (fun k hk => by rw [hw]; simp [Array.getElem?_push, Nat.ne_of_lt hk]) (by rw [hw]; simp) hos htape hout (noFz_zero _) hc ?_ hl.2.1 hl.2.2.1 (fun i x j p hx hp => ?_)
  · simp [hl.1, hrest, ← Nat.add_mul]
    exact Nat.mul_le_mul_right _ (by omega)
  · obtain ⟨u, hu, hr⟩ := hl.2.2.2 i x j p hx hp
    refine ⟨u, ?_, hr⟩
    have := (List.getElem?_eq_some_iff.1 hu).1
    rw [Array.getElem?_append_left (by simpa using this)]
    simpa using hu

theorem appendTo_sim (h : RelW w0 bl D w m G) {fid : Nat} (hf : Fr D D' fid) {t t' ty e : TypeId} {n b : Nat} {u : TypeDesc} {z : List PV} (hu : P.underlying t = some (.slice e)) (hu' : P.underlying t' = some u) (hu2 : u = .string ∨ ∃ e', u = .slice e')
    (hs : tSize P e = some n) (hb : tBytes P e = some b) (hz : tZero P e = some z) (hzn : z.length = n) {x v : PV} {wr : Wr} {l o} {x' y' : Value} {ys : List (List PV)} {news : List Value}
    (hr : (appendTo fid e n b ys x).run m = some ((v, wr), l, o)) (hx : RepS w (okP w m G) G x' x) (hl : Laid w (okP w m G) n ys news) (hg : Gives P w n ys.length news y') :
    ∃ v' w', (Builtin.append_ #[t, t'] ty #[x', y']).run P w = .ok v' w' ∧ After w0 bl D' w m G v wr v' w' := by
  obtain ⟨i, zv, hi, rfl, rfl, hzi, hzc⟩ := tInfo hs hb hz
  have hzs : zv.cells.size = i.size := by
    obtain ⟨c1, _⟩ := constsPV_rep hzc w (okP w m G)
    rw [← hzn]; simpa using c1
  -- a nil one, of whatever id
  have nilCase : ∀ d, (∀ x, m d = some x → ownB G d x = none) → ys.length * (i.bytes + 1) ≤ lim →
      ∃ v' w', (Builtin.append_ #[t, t'] ty #[.slice none 0 0, y']).run P w = .ok v' w' ∧ ∃ G', RelW w0 bl D' w' (upd (upd m d none) fid (some ⟨true, .row e i.size ys⟩)) G' ∧ Adv w (okP w m G) G w' (okP w' (upd (upd m d none) fid (some ⟨true, .row e i.size ys⟩)) G') G' ∧
        RepS w' (okP w' (upd (upd m d none) fid (some ⟨true, .row e i.size ys⟩)) G') G' v' (.h fid) := by
    intro d hd hlim
    by_cases h0 : ys = []
    · subst h0
      obtain ⟨hR, hA⟩ := h.nilMove (e := e) (sz := i.size) hf.zero.1 hf.sub hf.zero.2 hd
      exact ⟨_, w, append_nothing hu hu' hu2 hi hg, _, hR, hA, .leaf (.h (by simp [Gh.withV, upd_eq]) rfl)⟩
    · have hpos : 0 < ys.length := List.length_pos_iff.2 h0
      obtain ⟨c, rest, hc, hrest, hrun⟩ := append_grow (ty := ty) hu hu' hu2 hi hzi (base := none) (sLen := 0) (sCap := 0) (olds := []) hg (fun w' _ => by simp [Builtin.firstCells]) (by omega) (by rw [Nat.zero_add]; exact hlim)
      obtain ⟨h1, a1⟩ := h.gone d
      obtain ⟨hR, hA⟩ := newRow_laid (w' := w.drew.alloc (.cells (news.toArray ++ rest) e (0, 0))) h1 hf (hl.mono a1.ok) (c := c) (rest := rest) (e := e) (by omega) (by rw [hrest, hzs, Nat.zero_add]) rfl rfl rfl rfl
      refine ⟨.slice (some ⟨w.heap.size, 0, none⟩) ys.length c, w.drew.alloc (.cells (news.toArray ++ rest) e (0, 0)), by simpa using hrun, G.withV fid (.slice (some ⟨w.heap.size, 0, none⟩) ys.length c) i.size, hR, a1.trans hA, .leaf (.h (by simp [Gh.withV, upd_eq]) rfl)⟩
  cases x with
  | nils =>
    simp only [appendTo] at hr
    split at hr
    · rename_i hlim
      have h1 := (run_ret hr).1
      injection h1 with h1 h2
      subst h1; subst h2
      have := hx.nils; subst this
      obtain ⟨hm0, hV0, hB0⟩ := h.free hf.zero.1
      obtain ⟨v', w', hrun, G', hR, hA, hS⟩ := nilCase fid (fun x hx => by rw [hm0] at hx; cases hx) hlim
      rw [upd_upd] at hR hA hS
      exact ⟨v', w', hrun, G', hR, hA, hS⟩
    · exact (run_fail hr).elim
  | h d =>
    obtain ⟨c, l', hm, hk⟩ := run_own hr
    cases c with
    | box => exact (run_fail hk).elim
    | row e' sz xs =>
      simp only at hk
      split at hk
      · rename_i hc
        simp only [Bool.and_eq_true, beq_iff_eq, decide_eq_true_eq] at hc
        obtain ⟨⟨rfl, rfl⟩, hlim⟩ := hc
        have h1 := (run_ret hk).1
        injection h1 with h1 h2
        subst h1; subst h2
        have hV := hx.h.1
        obtain ⟨v1, hV1, hzd, hrow⟩ := h.ent d _ hm
        rw [hV] at hV1; injection hV1 with hV1; subst hV1
        rcases hrow with ⟨rfl, rfl⟩ | ⟨g, cap, cur, fz, rfl, hh, hcap, hcur, hfz, hlen, hpl, hcell⟩
        · rw [List.length_nil, Nat.zero_add] at hlim
          obtain ⟨v', w', hrun, G', hR, hA, hS⟩ := nilCase d (fun x hx => by rw [hm] at hx; injection hx with hx; subst hx; simp [ownB, hV, Value.ownBlock]) hlim
          exact ⟨v', w', hrun, G', by simpa [putF] using hR, by simpa [putF] using hA, by simpa [putF] using hS⟩
        · have hol := rowAt_laid (w := w) (ok := okP w m G) hh hcap hcur hlen hpl hcell
          have hall := hol.append hl
          have hl3 : (xs ++ ys).length = xs.length + ys.length := List.length_append
          by_cases hroom : xs.length + ys.length ≤ cap
          · have hle : xs.length * i.size + news.length ≤ cur.size := by
              rw [hl.1, ← Nat.add_mul]
              exact Nat.le_trans (Nat.mul_le_mul_right _ hroom) hcur
            have hrun := append_room (ty := ty) hu hu' hu2 hi hg hroom hh hfz hle hl.one
            obtain ⟨hR, hA⟩ := h.rowMove hf.zero.1 hf.sub hf.zero.2 hm hV hh hfz (xs.length * i.size) news (xs ++ ys) cap (by rw [hl3]; exact hroom) hcur hall.2.1 hall.2.2.1 (fun k x j p hk hp => by
              obtain ⟨u, hu, hr⟩ := hall.2.2.2 k x j p hk hp
              refine ⟨u, ?_, hr⟩
              by_cases hlt : k * i.size + j < xs.length * i.size
              · rw [List.getElem?_append_left (by rw [hol.1]; exact hlt), List.getElem?_take_of_lt hlt] at hu
                rw [arrSet_out _ _ _ _ (by omega)]
                simpa using hu
              · rw [List.getElem?_append_right (by rw [hol.1]; omega), hol.1] at hu
                have := arrSet_in news (xs.length * i.size) cur hle _ u hu
                rwa [show xs.length * i.size + (k * i.size + j - xs.length * i.size) = k * i.size + j by omega] at this)
            exact ⟨_, _, hrun, _, hR, hA, .leaf (.h (by simp [Gh.withV, upd_eq, hl3]) rfl)⟩
          · obtain ⟨c, rest, hc, hrest, hrun⟩ := append_grow (ty := ty) hu hu' hu2 hi hzi (base := some ⟨g, 0, none⟩) (sLen := xs.length) (sCap := cap) (olds := cur.toList.take (xs.length * i.size)) hg (fun w' hw' => by
                have := run_loadCells_list (P := P) w' ⟨g, 0, none⟩ (cur.toList.take (xs.length * i.size)) (fun j v hj => by
                  have hjl : j < xs.length * i.size := by have := (List.getElem?_eq_some_iff.1 hj).1; rw [hol.1] at this; exact this
                  rw [List.getElem?_take_of_lt hjl] at hj
                  rw [add_off, Nat.zero_add, cell_same hw', cell_of_heap hh]
                  simpa using hj)
                rw [hol.1] at this
                simpa [Builtin.firstCells] using this) (by omega) hlim
            obtain ⟨h1, a1⟩ := h.gone d
            obtain ⟨hR, hA⟩ := newRow_laid (w' := w.drew.alloc (.cells ((cur.toList.take (xs.length * i.size) ++ news).toArray ++ rest) e' (0, 0))) h1 hf (hall.mono a1.ok) (c := c) (rest := rest) (e := e') (by rw [hl3]; exact hc) (by rw [hrest, hzs, hl3]) rfl rfl rfl rfl
            refine ⟨.slice (some ⟨w.heap.size, 0, none⟩) (xs.length + ys.length) c, w.drew.alloc (.cells ((cur.toList.take (xs.length * i.size) ++ news).toArray ++ rest) e' (0, 0)), ?_, G.withV fid (.slice (some ⟨w.heap.size, 0, none⟩) (xs ++ ys).length c) i.size, hR, a1.trans hA, .leaf (.h (by simp [Gh.withV, upd_eq]) rfl)⟩
            rw [hrun]
            congr 3
            apply Array.ext'
            simp
      · exact (run_fail hk).elim
  | _ => exact (run_fail hr).elim
end Go.Den
