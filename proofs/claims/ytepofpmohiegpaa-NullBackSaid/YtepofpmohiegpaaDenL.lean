/- Den, part L: lengths, cuts, appends. -/
import Derived.Test.YtepofpmohiegpaaDenK
namespace Go.Den
variable {P : Program} {w0 w : World} {bl : List Nat} {D D' : Nat → Prop} {m : Nat → Option Ent} {G : Gh}

/-- What a slice's value is, whatever it is told by. -/
theorem lenOf_val (h : RelW w0 bl D w m G) {a : PV} {a' : Value} {n : Nat} {l o} (hr : (Den.lenOf a).run m = some (n, l, o)) (ha : RepS w (okP w m G) G a' a) : ∃ ad c, a' = .slice ad n c ∧ n ≤ c := by
  cases a with
  | nils => have := (run_ret hr).1; subst this; have := ha.nils; subst this; exact ⟨none, 0, rfl, Nat.le_refl _⟩
  | sl sz xs =>
    have := (run_ret hr).1; subst this
    have := ha.rep rfl
    cases this with
    | sl ad c _ _ vs hc => exact ⟨ad, c, rfl, hc⟩
  | h d =>
    obtain ⟨e, l', hm, hk⟩ := run_rdc hr
    obtain ⟨own, c⟩ := e
    cases c with
    | box => exact (run_fail hk).elim
    | row e sz xs =>
      have := (run_ret hk).1; subst this
      obtain ⟨v, hv, _, _, _, ad, c, rfl, hc, _⟩ := (h.ent d _ hm).row
      have := ha.h.1
      rw [hv] at this; injection this with this; subst this
      exact ⟨ad, c, rfl, hc⟩
  | _ => exact (run_fail hr).elim
theorem lenS_sim (h : RelW w0 bl D w m G) (hD : ∀ d, D d → D' d) {ts : Array TypeId} {ty : TypeId} {a v : PV} {wr : Wr} {l o} {a' : Value} (hr : (lenS P ts[0]? a).run m = some ((v, wr), l, o)) (ha : RepS w (okP w m G) G a' a) :
    ∃ v', (Builtin.len_ ts ty #[a']).run P w = .ok v' w ∧ After w0 bl D' w m G v wr v' w := by
  unfold lenS at hr
  cases ht : ts[0]? with
  | none => simp only [ht] at hr; exact (run_fail hr).elim
  | some t =>
    simp only [ht] at hr
    split at hr
    · rename_i hu
      split at hr
      · have h1 := (run_ret hr).1
        injection h1 with h1 h2
        subst h1; subst h2
        obtain ⟨s, rfl, rfl⟩ := ha.str
        have hl : (s.data.toList.length : Int) = (s.size : Int) := by rw [Array.length_toList]; rfl
        exact ⟨.int .i64 s.size, by simp [Builtin.len_, ht, run_underlying hu, goInt], After.quiet h hD (by rw [hl]; exact .leaf (.pl (.int ..) rfl))⟩
      · exact (run_fail hr).elim
    · rename_i e hu
      obtain ⟨n, a1, a2, a3, a4, hn, hr, _, _⟩ := run_bind hr
      have h1 := (run_ret hr).1
      injection h1 with h1 h2
      subst h1; subst h2
      obtain ⟨ad, c, rfl, _⟩ := lenOf_val h hn ha
      exact ⟨.int .i64 n, by simp [Builtin.len_, ht, run_underlying hu, goInt], After.quiet h hD (.leaf (.pl (.int ..) rfl))⟩
    · exact (run_fail hr).elim

/-! ### what is appended -/
/-- A list of elements, laid in values. -/
def Laid (w : World) (ok : Nat → Prop) (n : Nat) (ys : List (List PV)) (news : List Value) : Prop :=
  news.length = ys.length * n ∧ (∀ y ∈ ys, y.length = n) ∧ (∀ y ∈ ys, ∀ p ∈ y, plainLeaf p = true) ∧ ∀ (i : Nat) y (j : Nat) p, ys[i]? = some y → y[j]? = some p → ∃ u, news[i * n + j]? = some u ∧ Rep w ok u p
/-- What append looks at in its second argument. -/
def Gives (P : Program) (w : World) (n k : Nat) (news : List Value) (y' : Value) : Prop :=
  (∀ w', (Builtin.lenOf y').run P w' = .ok k w') ∧ ∀ w' : World, w'.heap = w.heap → (Builtin.firstCells n k y').run P w' = .ok news.toArray w'
theorem cell_same {w w' : World} (h : w'.heap = w.heap) (a : Addr) : w'.cell? a = w.cell? a := by simp [World.cell?, h]

theorem laid_cells {ok : Nat → Prop} {n c : Nat} {ys : List (List PV)} {ad : Option Addr} (hlen : ∀ y ∈ ys, y.length = n) (hpl : ∀ y ∈ ys, ∀ p ∈ y, plainLeaf p = true)
    (hcell : ∀ (i : Nat) y (j : Nat) p, ys[i]? = some y → y[j]? = some p → ∃ g o, ad = some ⟨g, o, none⟩ ∧ ∃ u, w.cell? ⟨g, o + (i * n + j), none⟩ = some u ∧ Rep w ok u p) (hnil : ad = none → ys = []) :
    ∃ news, Laid w ok n ys news ∧ Gives P w n ys.length news (.slice ad ys.length c) := by
  by_cases h0 : ys.length * n = 0
  · refine ⟨[], ⟨by simp [h0], hlen, hpl, fun i y j p hy hp => ?_⟩, fun _ => rfl, fun w' hw => ?_⟩
    · have hi := (List.getElem?_eq_some_iff.1 hy).1
      have hj := (List.getElem?_eq_some_iff.1 hp).1
      rw [hlen y (List.mem_of_getElem? hy)] at hj
      have := mul_lt hi hj
      omega
    · cases ad with
      | none => simp [Builtin.firstCells]
      | some a => simp [Builtin.firstCells, h0, loadCells, loadCellsFrom]
  · have hpos : 0 < ys.length ∧ 0 < n := by
      constructor
      · exact Nat.pos_of_ne_zero fun h => h0 (by rw [h]; simp)
      · exact Nat.pos_of_ne_zero fun h => h0 (by rw [h]; simp)
    obtain ⟨y0, hy0⟩ : ∃ y, ys[0]? = some y := ⟨_, List.getElem?_eq_getElem hpos.1⟩
    obtain ⟨p0, hp0⟩ : ∃ p, y0[0]? = some p := ⟨_, List.getElem?_eq_getElem (by rw [hlen y0 (List.mem_of_getElem? hy0)]; exact hpos.2)⟩
    obtain ⟨g, o, rfl, _⟩ := hcell 0 y0 0 p0 hy0 hp0
    have hall : ∀ k, k < ys.length * n → ∃ u, w.cell? ⟨g, o + k, none⟩ = some u := fun k hk => by
      have hi : k / n < ys.length := Nat.div_lt_of_lt_mul (by rw [Nat.mul_comm]; exact hk)
      obtain ⟨y, hy⟩ : ∃ y, ys[k / n]? = some y := ⟨_, List.getElem?_eq_getElem hi⟩
      obtain ⟨p, hp⟩ : ∃ p, y[k % n]? = some p := ⟨_, List.getElem?_eq_getElem (by rw [hlen y (List.mem_of_getElem? hy)]; exact Nat.mod_lt _ hpos.2)⟩
      obtain ⟨g', o', he, u, hu, _⟩ := hcell _ y _ p hy hp
      injection he with he; injection he with he1 he2; subst he1; subst he2
      rw [show k / n * n + k % n = k by rw [Nat.mul_comm]; exact Nat.div_add_mod k n] at hu
      exact ⟨u, hu⟩
    refine ⟨(List.range (ys.length * n)).map fun k => (w.cell? ⟨g, o + k, none⟩).getD Go.undef, ⟨by simp, hlen, hpl, fun i y j p hy hp => ?_⟩, fun _ => rfl, fun w' hw => ?_⟩
    · have hi := (List.getElem?_eq_some_iff.1 hy).1
      have hj := (List.getElem?_eq_some_iff.1 hp).1
      rw [hlen y (List.mem_of_getElem? hy)] at hj
      have hij := mul_lt hi hj
      obtain ⟨g', o', he, u, hu, hr⟩ := hcell i y j p hy hp
      injection he with he; injection he with he1 he2; subst he1; subst he2
      exact ⟨u, by simp [hij, hu], hr⟩
    · have := run_loadCells_list (P := P) w' ⟨g, o, none⟩ ((List.range (ys.length * n)).map fun k => (w.cell? ⟨g, o + k, none⟩).getD Go.undef) (fun j v hj => by
        have hjl : j < ys.length * n := by have := (List.getElem?_eq_some_iff.1 hj).1; simpa using this
        obtain ⟨u, hu⟩ := hall j hjl
        simp [hjl, hu] at hj
        subst hj
        rw [add_off, cell_same hw]
        exact hu)
      simpa [Builtin.firstCells] using this
theorem elemsOf_gives (h : RelW w0 bl D w m G) {n : Nat} (hn : 0 < n) {a : PV} {a' : Value} {ys : List (List PV)} {l o} (hr : (elemsOf n a).run m = some (ys, l, o)) (ha : RepS w (okP w m G) G a' a) :
    ∃ news ad c, a' = .slice ad ys.length c ∧ (ad = none → ys = []) ∧ Laid w (okP w m G) n ys news ∧ Gives P w n ys.length news a' := by
  have fin : ∀ {ad : Option Addr} {c : Nat}, (ad = none → ys = []) → (∃ news, Laid w (okP w m G) n ys news ∧ Gives P w n ys.length news (.slice ad ys.length c)) → ∃ news ad' c', Value.slice ad ys.length c = .slice ad' ys.length c' ∧ (ad' = none → ys = []) ∧ Laid w (okP w m G) n ys news ∧ Gives P w n ys.length news (.slice ad ys.length c) :=
    fun h0 ⟨news, h1, h2⟩ => ⟨news, _, _, rfl, h0, h1, h2⟩
  cases a with
  | nils =>
    have := (run_ret hr).1; subst this; have := ha.nils; subst this
    exact fin (fun _ => rfl) (laid_cells (by simp) (by simp) (by simp) (fun _ => rfl))
  | sl sz xs =>
    simp only [elemsOf] at hr
    split at hr
    · rename_i hsz
      have hsz : sz = n := by simpa using hsz
      subst hsz
      have := (run_ret hr).1; subst this
      have := ha.rep rfl
      cases this with
      | sl ad c _ _ vs hc hz hp hcell hv =>
        have hnil : ad = none → ys = [] := fun h0 => by
          subst h0
          cases ys with
          | nil => rfl
          | cons y r =>
            obtain ⟨p, hp'⟩ : ∃ p, y[0]? = some p := ⟨_, List.getElem?_eq_getElem (by rw [hz y (by simp)]; exact hn)⟩
            obtain ⟨g, o, h1, _⟩ := hcell 0 y 0 p rfl hp'
            cases h1
        refine fin hnil (laid_cells hz hp (fun i y j p hy hpp => ?_) hnil)
        obtain ⟨g, o, h1, _, h2⟩ := hcell i y j p hy hpp
        exact ⟨g, o, h1, _, h2, hv i y j p hy hpp⟩
    · exact (run_fail hr).elim
  | h d =>
    obtain ⟨e, l', hm, hk⟩ := run_rdc hr
    obtain ⟨own, c⟩ := e
    cases c with
    | box => exact (run_fail hk).elim
    | row e sz xs =>
      simp only at hk
      split at hk
      · rename_i hsz
        have hsz : sz = n := by simpa using hsz
        subst hsz
        have := (run_ret hk).1; subst this
        obtain ⟨v, hv, _, hlen, hpl, ad, c, rfl, hc, hne, hcell⟩ := (h.ent d _ hm).row
        have := ha.h.1
        rw [hv] at this; injection this with this; subst this
        have hnil : ad = none → ys = [] := fun h0 => by
          subst h0
          by_cases hys : ys = []
          · exact hys
          · obtain ⟨g, hg⟩ := hne hys
            cases hg
        refine fin hnil (laid_cells hlen hpl (fun i y j p hy hpp => ?_) hnil)
        obtain ⟨g, h1, u, hu, hr⟩ := hcell i y j p hy hpp
        exact ⟨g, 0, h1, u, by rw [Nat.zero_add]; exact hu, hr⟩
      · exact (run_fail hk).elim
  | _ => exact (run_fail hr).elim
theorem ofBytes_laid (ok : Nat → Prop) (l : List UInt8) : Laid w ok 1 (ofBytes l) (l.map fun b => .int .u8 b.toNat) := by
  refine ⟨by simp [ofBytes], by simp [ofBytes], by simp [ofBytes, plainLeaf], fun i y j p hy hp => ?_⟩
  simp only [ofBytes, List.getElem?_map] at hy
  cases hb : l[i]? with
  | none => simp [hb] at hy
  | some b =>
    simp [hb] at hy
    subst hy
    cases j with
    | succ j => simp at hp
    | zero =>
      simp at hp
      subst hp
      exact ⟨.int .u8 b.toNat, by simp [hb], .int ..⟩
theorem str_gives (s : ByteArray) : Gives P w 1 (ofBytes s.data.toList).length (s.data.toList.map fun b => .int .u8 b.toNat) (.string s) := by
  have hl : s.data.toList.length = s.size := by rw [Array.length_toList]; rfl
  have hl2 : (ofBytes s.data.toList).length = s.size := by rw [ofBytes, List.length_map]; exact hl
  refine ⟨fun w' => by rw [hl2]; rfl, fun w' _ => ?_⟩
  have he : (s.extract 0 s.size).data.toList = s.data.toList := by
    rw [Lib.extract_data, ← hl, List.drop_zero, Nat.sub_zero, List.take_length]
  have he' : (s.extract 0 s.size).data = s.data := Array.ext' he
  rw [hl2]
  simp only [Builtin.firstCells, he', Sem.run_pure]
  congr 1
  apply Array.ext'
  simp

/-! ### append -/
section
variable {t t' ty e : TypeId} {n b : Nat} {u : TypeDesc} {i : TypeInfo}
theorem append_room (hu : P.underlying t = some (.slice e)) (hu' : P.underlying t' = some u) (hu2 : u = .string ∨ ∃ e', u = .slice e') (hi : P.info? e = some i) {g sLen sCap k : Nat} {news : List Value} {y' : Value} (hg : Gives P w i.size k news y') (hroom : sLen + k ≤ sCap)
    {cur : Array Value} {ct : TypeId} {fz : Nat × Nat} (hh : w.heap[g]? = some (.cells cur ct fz)) (hz : noFz fz cur.size) (hle : sLen * i.size + news.length ≤ cur.size) (h1 : ∀ v ∈ news, v.oneCell' = true) :
    (Builtin.append_ #[t, t'] ty #[.slice (some ⟨g, 0, none⟩) sLen sCap, y']).run P w = .ok (.slice (some ⟨g, 0, none⟩) (sLen + k) sCap) (w.setCells g (sLen * i.size) news) := by
  have hst := storeCells_run (P := P) (o := sLen * i.size) hh hz news hle h1
  have hf := hg.2 w rfl
  rcases hu2 with rfl | ⟨e', rfl⟩ <;> simp [Builtin.append_, run_underlying hu, run_underlying hu', Go.sizeOf, typeInfo, hi, hg.1, hroom, hf, add_off, hst]
theorem append_nothing (hu : P.underlying t = some (.slice e)) (hu' : P.underlying t' = some u) (hu2 : u = .string ∨ ∃ e', u = .slice e') (hi : P.info? e = some i) {news : List Value} {y' : Value} (hg : Gives P w i.size 0 news y') :
    (Builtin.append_ #[t, t'] ty #[.slice none 0 0, y']).run P w = .ok (.slice none 0 0) w := by
  have hf := hg.2 w rfl
  rcases hu2 with rfl | ⟨e', rfl⟩ <;> simp [Builtin.append_, run_underlying hu, run_underlying hu', Go.sizeOf, typeInfo, hi, hg.1, hf]
theorem append_grow (hu : P.underlying t = some (.slice e)) (hu' : P.underlying t' = some u) (hu2 : u = .string ∨ ∃ e', u = .slice e') (hi : P.info? e = some i) {z : Value} (hz : i.zero = some z) {base : Option Addr} {sLen sCap k : Nat} {olds news : List Value} {y' : Value} (hg : Gives P w i.size k news y')
    (ho : ∀ w' : World, w'.heap = w.heap → (Builtin.firstCells i.size sLen (.slice base sLen sCap)).run P w' = .ok olds.toArray w') (hgrow : sCap < sLen + k) (hlim : (sLen + k) * (i.bytes + 1) ≤ lim) :
    ∃ (c : Nat) (rest : Array Value), sLen + k ≤ c ∧ rest.size = (c - (sLen + k)) * z.cells.size ∧ (Builtin.append_ #[t, t'] ty #[.slice base sLen sCap, y']).run P w =
      .ok (.slice (some ⟨w.heap.size, 0, none⟩) (sLen + k) c) (w.drew.alloc (.cells (olds.toArray ++ news.toArray ++ rest) e (0, 0))) := by
  have hlim' : (sLen + k) * i.bytes + (sLen + k) ≤ 70368744177664 := by rw [Nat.mul_add, Nat.mul_one] at hlim; exact hlim
  have hn : ¬ (sLen + k ≤ sCap) := by omega
  have h63' : ¬ (9223372036854775807 < ((sLen : Int) + (k : Int))) := by omega
  have h48' : ¬ (281474976710656 < Builtin.nextslicecap (sLen + k) sCap * i.bytes) := by
    have := growslice_fits hgrow (bytes := i.bytes) (by omega)
    omega
  have hf := hg.2 w.drew rfl
  have hfo := ho w.drew rfl
  refine ⟨grownCap w (sLen + k) sCap e, Builtin.zeroCells z.cells (grownCap w (sLen + k) sCap e - (sLen + k)), grownCap_ge .., size_zeroCells .., ?_⟩
  rcases hu2 with rfl | ⟨e', rfl⟩ <;> simp [Builtin.append_, run_underlying hu, run_underlying hu', Go.sizeOf, typeInfo, zeroValue, hi, hz, hg.1, hn, h63', h48', Question.forced, hf, hfo, newRow, grownCap] <;>
    (congr 2; apply Array.ext'; simp)
end
end Go.Den
