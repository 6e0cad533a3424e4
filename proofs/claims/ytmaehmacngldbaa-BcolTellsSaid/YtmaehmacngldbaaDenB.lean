/- Den: slices.SortFunc (by bytes.Compare) of an own row of byte slices. -/
import Derived.Test.YtmaehmacngldbaaDenQ
import Derived.Shelf.SlSortCmp.NoneTotal
import Derived.Lib.Walk
set_option linter.unusedVariables false
set_option linter.unusedSimpArgs false
namespace Go.Den
open Go Go.RowKit Go.Lib Go.Proofs

/-! ### rows of bytes -/
def u8L : List (List PV) → Option (List Int)
  | [] => some []
  | [.int .u8 n] :: r => if 0 ≤ n ∧ n < 256 then (u8L r).map (n :: ·) else none
  | _ => none
def rowB : PV → Option (List Int)
  | .nils => some []
  | .sl 1 xs => u8L xs
  | _ => none
def rowsB : List (List PV) → Option (List (List Int))
  | [] => some []
  | [p] :: r => match rowB p, rowsB r with | some b, some bs => some (b :: bs) | _, _ => none
  | _ => none
def bsPV (b : List Int) : List PV := [.sl 1 (ints .u8 b)]
theorem u8L_ints : ∀ {b : List Int}, R8 b → u8L (ints .u8 b) = some b
  | [], _ => rfl
  | n :: r, h => by
    have h1 := h n (by simp)
    have ih := u8L_ints (b := r) (fun z hz => h z (by simp [hz]))
    unfold ints at ih ⊢
    rw [List.map_cons, u8L, if_pos h1, ih]
    rfl
theorem u8L_some : ∀ {xs : List (List PV)} {b : List Int}, u8L xs = some b → xs = ints .u8 b ∧ R8 b
  | [], b, h => by injection h with h; subst h; exact ⟨rfl, fun z hz => by simp at hz⟩
  | x :: r, b, h => by
    unfold u8L at h
    split at h
    · rename_i hx; cases hx
    · rename_i n r' hx
      injection hx with h1 h2
      subst h1; subst h2
      split at h
      · rename_i hn
        cases hr : u8L r with
        | none => rw [hr] at h; cases h
        | some b' =>
          rw [hr] at h
          injection h with h
          subst h
          obtain ⟨e, h8⟩ := u8L_some hr
          refine ⟨by rw [e]; rfl, fun z hz => ?_⟩
          rcases List.mem_cons.1 hz with rfl | hz
          · exact hn
          · exact h8 z hz
      · cases h
    · cases h
theorem rowB_bl {o : Option (List Int)} (h : R8 (bz o)) : rowB (bl o) = some (bz o) := by
  cases o with
  | none => rfl
  | some b => exact u8L_ints h
theorem rowsB_brow : ∀ {L : List RB'}, (∀ o ∈ L, R8 (bz o)) → rowsB (L.map brow) = some (L.map bz)
  | [], _ => rfl
  | o :: r, h => by
    have ih := rowsB_brow (L := r) (fun y hy => h y (by simp [hy]))
    rw [List.map_cons, brow, rowsB, rowB_bl (h o (by simp)), ih]
    rfl

/-! ### sorted -/
def insL (x : List Int) : List (List Int) → List (List Int)
  | [] => [x]
  | y :: r => if ltB y x then y :: insL x r else x :: y :: r
def sortL : List (List Int) → List (List Int)
  | [] => []
  | x :: r => insL x (sortL r)
theorem insL_perm (x : List Int) : ∀ l : List (List Int), (insL x l).Perm (x :: l)
  | [] => .refl _
  | y :: r => by
    unfold insL
    split
    · exact ((insL_perm x r).cons y).trans (.swap x y r)
    · exact .refl _
theorem sortL_perm : ∀ l : List (List Int), (sortL l).Perm l
  | [] => .refl _
  | x :: r => (insL_perm x (sortL r)).trans ((sortL_perm r).cons x)
def LeB (a b : List Int) : Prop := ltB b a = false
theorem LeB.trans {a b c : List Int} (h1 : LeB a b) (h2 : LeB b c) : LeB a c := by
  unfold LeB at *
  cases h : ltB c a with
  | false => rfl
  | true =>
    exfalso
    by_cases hab : a = b
    · subst hab; rw [h] at h2; cases h2
    · have h3 : ltB a b = true := by
        cases h4 : ltB a b with
        | true => rfl
        | false => exact absurd (ltB_total h4 h1) hab
      have := ltB_trans h h3
      rw [this] at h2
      cases h2
theorem LeB.of_lt {a b : List Int} (h : ltB a b = true) : LeB a b := ltB_asymm h
theorem LeB.antisymm {a b : List Int} (h1 : LeB a b) (h2 : LeB b a) : a = b := ltB_total h2 h1
theorem insL_sorted (x : List Int) : ∀ {l : List (List Int)}, l.Pairwise LeB → (insL x l).Pairwise LeB
  | [], _ => List.pairwise_singleton _ _
  | y :: r, h => by
    rw [List.pairwise_cons] at h
    unfold insL
    split
    · rename_i hlt
      refine List.pairwise_cons.2 ⟨fun z hz => ?_, insL_sorted x h.2⟩
      rcases List.mem_cons.1 ((insL_perm x r).mem_iff.1 hz) with rfl | hz
      · exact LeB.of_lt hlt
      · exact h.1 z hz
    · rename_i hlt
      have hxy : LeB x y := by simpa [LeB] using hlt
      refine List.pairwise_cons.2 ⟨fun z hz => ?_, List.pairwise_cons.2 h⟩
      rcases List.mem_cons.1 hz with rfl | hz
      · exact hxy
      · exact hxy.trans (h.1 z hz)
theorem sortL_sorted : ∀ l : List (List Int), (sortL l).Pairwise LeB
  | [] => List.Pairwise.nil
  | x :: r => insL_sorted x (sortL_sorted r)
theorem sortL_eq {l l' : List (List Int)} (hp : l'.Perm l) (hs : l'.Pairwise LeB) : l' = sortL l :=
  List.Perm.eq_of_pairwise (le := LeB) (fun a b _ _ h1 h2 => h1.antisymm h2) hs (sortL_sorted l) (hp.trans (sortL_perm l).symm)
theorem cmp_ltB : ∀ {a b : List Int}, R8 a → R8 b → (compareBytes (a.map toU8) (b.map toU8) < 0 ↔ ltB a b = true)
  | [], [], _, _ => by simp [compareBytes, ltB]
  | [], _ :: _, _, _ => by simp [compareBytes, ltB]
  | _ :: _, [], _, _ => by simp [compareBytes, ltB]
  | x :: xs, y :: ys, ha, hb => by
    have h1 := ha x (by simp)
    have h2 := hb y (by simp)
    have ih := cmp_ltB (a := xs) (b := ys) (fun z hz => ha z (by simp [hz])) (fun z hz => hb z (by simp [hz]))
    have e : ∀ {u v : Int}, 0 ≤ u → u < 256 → 0 ≤ v → v < 256 → ((toU8 u < toU8 v) ↔ u < v) := by
      intro u v a1 a2 a3 a4
      unfold toU8
      simp only [UInt8.lt_iff_toNat_lt, UInt8.toNat_ofNat']
      omega
    simp only [List.map_cons, compareBytes, ltB, e h1.1 h1.2 h2.1 h2.2, e h2.1 h2.2 h1.1 h1.2]
    by_cases c1 : x < y
    · simp [c1]
    · by_cases c2 : y < x
      · have : ¬ x = y := by omega
        simp [c1, c2, this]
      · have : x = y := by omega
        subst this
        simp [ih]

/-! ### the contract -/
def sortBG (_ : TypeId) (sz : Nat) (xs : List (List PV)) : Option (List (List PV)) :=
  if sz == 1 && Nat.ble xs.length lim then (rowsB xs).map fun L => (sortL L).map bsPV else none
/-- a byte slice that is read in a world, and in all that are alike but for one block -/
structure BV (P : Program) (w : World) (blk : Nat) (ok : Nat → Prop) where
  v : Value
  b : List Int
  r8 : R8 b
  sl : ∃ a n c, v = .slice a n c
  rep : Rep w ok v (.sl 1 (ints .u8 b))
  at' : ∀ W : World, (∀ k, k < w.heap.size → k ≠ blk → W.heap[k]? = w.heap[k]?) → BytesAt P W v (b.map toU8)
theorem bytesP_ints (b : List Int) : bytesP (.sl 1 (ints .u8 b)) = some (b.map toU8) := bytesP_bl (o := some b)
theorem BV.of {P : Program} {w : World} {blk : Nat} {ok : Nat → Prop} (hok : ∀ k, ok k → k < w.heap.size ∧ k ≠ blk) {u : Value} {p : PV} {b : List Int} (hr : Rep w ok u p) (hb : rowB p = some b) : ∃ x : BV P w blk ok, x.v = u ∧ x.b = b := by
  have key : ∀ W : World, (∀ k, k < w.heap.size → k ≠ blk → W.heap[k]? = w.heap[k]?) → Rep W ok u p := fun W hW => hr.mono fun k hk => ⟨hk, hW k (hok k hk).1 (hok k hk).2⟩
  unfold rowB at hb
  split at hb
  · injection hb with hb
    subst hb
    cases hr
    refine ⟨⟨.slice none 0 0, [], fun z hz => by simp at hz, ⟨_, _, _, rfl⟩, ?_, fun W hW => ?_⟩, rfl, rfl⟩
    · exact .sl none 0 1 [] (fun _ _ => Go.undef) (Nat.le_refl _) (by simp) (by simp) (by simp) (by simp)
    · exact (bytesAt_of (P := P) (G := ⟨fun _ => none, fun _ => none, fun _ => 0, fun _ => True⟩) ((key W hW).S rfl) (show bytesP .nils = some [] from rfl)).2
  · rename_i xs
    obtain ⟨e, h8⟩ := u8L_some hb
    subst e
    have := bytesAt_of (P := P) (G := ⟨fun _ => none, fun _ => none, fun _ => 0, fun _ => True⟩) (hr.S rfl) (bytesP_ints b)
    exact ⟨⟨u, b, h8, this.1, hr, fun W hW => (bytesAt_of (P := P) (G := ⟨fun _ => none, fun _ => none, fun _ => 0, fun _ => True⟩) ((key W hW).S rfl) (bytesP_ints b)).2⟩, rfl, rfl⟩
  · cases hb
def BV.cf {P : Program} {w : World} {blk : Nat} {ok : Nat → Prop} (x y : BV P w blk ok) : Int := compareBytes (x.b.map toU8) (y.b.map toU8)
theorem BV.lt {P : Program} {w : World} {blk : Nat} {ok : Nat → Prop} (x y : BV P w blk ok) : ltOf BV.cf x y = ltB x.b y.b := by
  unfold ltOf BV.cf
  rw [Bool.eq_iff_iff, decide_eq_true_eq]
  exact cmp_ltB x.r8 y.r8
theorem BV.swo (P : Program) (w : World) (blk : Nat) (ok : Nat → Prop) : Go.Sort.SWO (ltOf (BV.cf (P := P) (w := w) (blk := blk) (ok := ok))) := by
  refine ⟨fun x => by rw [BV.lt]; exact ltB_irrefl _, fun x y z h1 h2 => ?_, fun x y z h1 h2 => ?_⟩
  · rw [BV.lt] at *; exact ltB_trans h1 h2
  · rw [BV.lt] at *; exact LeB.trans (a := z.b) (b := y.b) (c := x.b) h2 h1
theorem BV.one {P : Program} {w : World} {blk : Nat} {ok : Nat → Prop} : OneCell (fun x : BV P w blk ok => x.v) := fun x => by
  obtain ⟨a, n, c, e⟩ := x.sl
  show x.v.oneCell' = true
  rw [e]; rfl
theorem onCells_sameB {w : World} {g : Nat} {cur : Array Value} {t : TypeId} {fz : Nat × Nat} (h : w.heap[g]? = some (.cells cur t fz)) (f : Array Value → Array Value) : (Go.Sort.mapBlock w g f).heap[g]? = some (.cells (f cur) t fz) := by
  simp [Go.Sort.mapBlock, Array.getElem?_modify, h, Go.Sort.onCells]
theorem onCells_otherB {w : World} {g k : Nat} (h : k ≠ g) (f : Array Value → Array Value) : (Go.Sort.mapBlock w g f).heap[k]? = w.heap[k]? := by
  simp [Go.Sort.mapBlock, Array.getElem?_modify, h.symm]
theorem putCells_atB {α : Type} [Inhabited α] (enc : α → Value) (d : Array α) (cur : Array Value) (i : Nat) (hi : i < d.size) (hc : i < cur.size) : (Go.Sort.putCells enc 0 d cur)[i]? = some (enc d[i]!) := by
  simp [Go.Sort.putCells, hi, hc]
theorem sortWorld_size {α : Type} [Inhabited α] (enc : α → Value) (w : World) (g m : Nat) (dk : Array α) (os : Array Obj) : w.heap.size ≤ (sortWorld enc w g 0 m dk os).heap.size := by
  show w.heap.size ≤ (_ ++ os).size
  rw [Array.size_append]
  simp [Go.Sort.putRow, Go.Sort.mapBlock, Go.Sort.ahead]
theorem sortWorld_get {α : Type} [Inhabited α] (enc : α → Value) (w : World) (g m : Nat) (dk : Array α) (os : Array Obj) {k : Nat} (hk : k < w.heap.size) : (sortWorld enc w g 0 m dk os).heap[k]? = (Go.Sort.putRow enc (Go.Sort.ahead w m) g 0 dk).heap[k]? := by
  show (_ ++ os)[k]? = _
  rw [Array.getElem?_append_left]
  simpa [Go.Sort.putRow, Go.Sort.mapBlock, Go.Sort.ahead] using hk
theorem sortWorld_other {α : Type} [Inhabited α] (enc : α → Value) (w : World) (g m : Nat) (dk : Array α) (os : Array Obj) {k : Nat} (hk : k < w.heap.size) (hne : k ≠ g) : (sortWorld enc w g 0 m dk os).heap[k]? = w.heap[k]? :=
  (sortWorld_get enc w g m dk os hk).trans (onCells_otherB (w := Go.Sort.ahead w m) hne _)
theorem cmp_lays {P : Program} {c : FuncId} (hc : RunsCompare P c) {w : World} {blk n : Nat} {ok : Nat → Prop} [Inhabited (BV P w blk ok)] : CmpLays1 P c #[] (fun x : BV P w blk ok => x.v) BV.cf blk 0 n w := fun m os dk hs x y => by
  obtain ⟨a, n1, c1, ex⟩ := x.sl
  obtain ⟨b, n2, c2, ey⟩ := y.sl
  have hx := x.at' (sortWorld (fun x : BV P w blk ok => x.v) w blk 0 m dk os) fun k hk hne => sortWorld_other _ w blk m dk os hk hne
  have hy := y.at' (sortWorld (fun x : BV P w blk ok => x.v) w blk 0 m dk os) fun k hk hne => sortWorld_other _ w blk m dk os hk hne
  show Calls P c #[x.v, y.v] _ _
  rw [ex] at hx ⊢
  rw [ey] at hy ⊢
  refine (hc a b n1 c1 n2 c2 _ _ _ hx hy).mono fun e w' ⟨he, hw⟩ => ⟨he, 0, #[], ?_⟩
  rw [hw, Go.Sort.grow_empty]
  rfl
theorem rows_len : ∀ {xs : List (List PV)} {B : List (List Int)}, rowsB xs = some B → B.length = xs.length ∧ ∀ (i : Nat) b, B[i]? = some b → ∃ p, xs[i]? = some [p] ∧ rowB p = some b
  | [], B, h => by injection h with h; subst h; simp
  | x :: r, B, h => by
    unfold rowsB at h
    split at h
    · rename_i hx; cases hx
    · rename_i p r' hx
      injection hx with h1 h2
      subst h1; subst h2
      split at h
      · rename_i b bs hb hbs
        injection h with h
        subst h
        obtain ⟨i1, i2⟩ := rows_len hbs
        refine ⟨by simp [i1], fun i b' hi => ?_⟩
        cases i with
        | zero => simp at hi; subst hi; exact ⟨p, by simp, hb⟩
        | succ i => simpa using i2 i b' (by simpa using hi)
      · cases h
    · cases h
theorem ofFn_getB {α : Type} [Inhabited α] {n : Nat} (f : Fin n → α) {j : Nat} (hj : j < n) : (Array.ofFn f)[j]! = f ⟨j, hj⟩ := by
  rw [getElem!_pos _ j (by simpa using hj)]
  simp
/-- A row of byte slices in a block of its own. -/
theorem rowAt_bytes {P : Program} {w : World} {ok : Nat → Prop} {v : Value} {e : TypeId} {xs : List (List PV)} {B : List (List Int)} (h : RowAt w ok v e 1 xs) (hB : rowsB xs = some B) (hok : ∀ k, ok k → k < w.heap.size ∧ v.ownBlock ≠ some k) :
    (v = .slice none 0 0 ∧ B = []) ∨ ∃ g c cur fz, v = .slice (some ⟨g, 0, none⟩) B.length c ∧ w.heap[g]? = some (.cells cur e fz) ∧ B.length ≤ c ∧ c ≤ cur.size ∧ noFz fz cur.size ∧
      ∃ (_ : Inhabited (BV P w g ok)) (d : Array (BV P w g ok)), d.size = B.length ∧ d.toList.map (·.b) = B ∧ Go.Sort.Holds (fun x : BV P w g ok => x.v) w g 0 d := by
  obtain ⟨hl, hget⟩ := rows_len hB
  rcases h with ⟨hv, hx⟩ | ⟨g, c, cur, fz, hv, h1, h2, h3, h4, h5, h6, h7⟩
  · subst hx
    exact .inl ⟨hv, by simpa using hl⟩
  · rw [← hl] at hv h2
    rw [Nat.mul_one] at h3
    have hokg : ∀ k, ok k → k < w.heap.size ∧ k ≠ g := fun k hk => ⟨(hok k hk).1, fun he => (hok k hk).2 (by rw [hv, he]; rfl)⟩
    have hin : ∃ x : BV P w g ok, x.v = .slice none 0 0 ∧ x.b = [] := BV.of hokg .nils rfl
    have hel : ∀ i : Fin B.length, ∃ x : BV P w g ok, cur[i.val]? = some x.v ∧ x.b = B[i.val] := fun i => by
      obtain ⟨p, hp, hb⟩ := hget i.val B[i.val] (List.getElem?_eq_getElem i.isLt)
      obtain ⟨u, hu, hr⟩ := h7 i.val [p] 0 p hp rfl
      rw [Nat.mul_one, Nat.add_zero] at hu
      obtain ⟨x, e1, e2⟩ := BV.of (P := P) hokg hr hb
      exact ⟨x, by rw [hu, e1], e2⟩
    refine .inr ⟨g, c, cur, fz, hv, h1, h2, h3, h4, ⟨hin.choose⟩, Array.ofFn fun i => (hel i).choose, by simp, ?_, fun j hj => ?_⟩
    · refine List.ext_getElem (by simp) fun i hi1 hi2 => ?_
      simp only [List.getElem_map, Array.getElem_toList, Array.getElem_ofFn]
      exact (hel ⟨i, hi2⟩).choose_spec.2
    · have hj' : j < B.length := by simpa using hj
      rw [Nat.zero_add]
      have e := @ofFn_getB _ ⟨hin.choose⟩ _ (fun i => (hel i).choose) _ hj'
      refine ⟨?_, frozen_of h1 h4 (by omega)⟩
      rw [e, cell_of_heap h1]
      exact (hel ⟨j, hj'⟩).choose_spec.1
theorem sortB_rw {P : Program} {ρ ρ0 : Shelf.Ren} (L : SlLaysF.n6 P ρ) (L0 : SlLaysF0.n6 P ρ0) {f c : FuncId} (hf : ρ.f 6 = f) (hf0 : ρ0.f 6 = f) (hc : RunsCompare P c) (eg : ∀ args w, (callFunc c args).run P w = .ok (.enter c args) w) : RwOk P f false sortBG #[.func (.func c) #[] #[]] := by
  have hnone : ∀ w, Calls P f #[.slice none 0 0, .func (.func c) #[] #[]] w fun e w' => e = .returned (.tuple #[]) ∧ w' = w := fun w => by
    have := AnyF.slices_SortFunc_none L0 none 0 (.func (.func c) #[] #[]) w
    rw [hf0] at this
    exact this
  refine ⟨fun w => ?_, fun e sz xs ys hg w ok v hok hr => ?_⟩
  · refine (hnone w).mono fun e w' h => ?_
    obtain ⟨he, hw⟩ := h
    subst hw
    exact ⟨he, rfl, rfl, rfl, rfl⟩
  · unfold sortBG at hg
    split at hg
    · rename_i hcond
      simp only [Bool.and_eq_true, beq_iff_eq, Nat.ble_eq] at hcond
      obtain ⟨rfl, hlim⟩ := hcond
      cases hB : rowsB xs with
      | none => rw [hB] at hg; cases hg
      | some B =>
        rw [hB] at hg
        injection hg with hg
        subst hg
        have hBl := (rows_len hB).1
        unfold lim at hlim
        have hsl : (sortL B).length = B.length := (sortL_perm B).length_eq
        rcases rowAt_bytes (P := P) hr hB hok with ⟨rfl, rfl⟩ | ⟨g, cp, cur, fz, rfl, h1, h2, h3, h4, hI, d, hds, hdb, hH⟩
        · refine (hnone w).mono fun e w' h => ?_
          obtain ⟨he, hw⟩ := h
          subst hw
          exact ⟨rfl, rfl, rfl, Nat.le_refl _, fun _ _ _ => rfl, _, he, rfl, fun _ => rfl, rfl, .inl ⟨rfl, rfl⟩⟩
        · have hg := (Array.getElem?_eq_some_iff.1 h1).1
          have hsort := Any.slices_SortFunc L (fun x : BV P w g ok => x.v) BV.one BV.cf (BV.swo P w g ok) c #[] g 0 cp d w eg (cmp_lays hc) hH hg (by omega)
          rw [hf, hds] at hsort
          refine hsort.mono fun e1 w' ⟨he, d', n, os, hp, hs, hw⟩ => ?_
          subst hw
          obtain ⟨hp1, _, hp3⟩ := hp
          have hext : ∀ a : Array (BV P w g ok), a.size = B.length → (a.extract 0 B.length).toList = a.toList := fun a ha => by
            rw [← ha]; simp
          rw [hext d hds, hext d' (hp1.trans hds)] at hp3
          have hd's : d'.size = B.length := hp1.trans hds
          have hbs : d'.toList.map (·.b) = sortL B := by
            refine sortL_eq ?_ ?_
            · rw [← hdb]; exact hp3.map _
            · rw [List.pairwise_map]
              refine List.pairwise_iff_getElem.2 fun i j hi hj hij => ?_
              simp only [Array.length_toList] at hi hj
              have := hs i j (Nat.zero_le _) hij (by omega)
              rw [BV.lt, getElem!_pos d' j hj, getElem!_pos d' i hi] at this
              simpa [LeB] using this
          have hcur : (Go.Sort.putCells (fun x : BV P w g ok => x.v) 0 d' cur).size = cur.size := by simp [Go.Sort.putCells]
          refine ⟨rfl, rfl, rfl, sortWorld_size _ w g n d' os, fun k hk hne => sortWorld_other _ w g n d' os hk (by simp [Value.ownBlock] at hne; exact fun h => hne h.symm), _, he, rfl, fun _ => rfl, rfl, ?_⟩
          refine .inr ⟨g, cp, Go.Sort.putCells (fun x : BV P w g ok => x.v) 0 d' cur, fz, by rw [List.length_map, hsl], (sortWorld_get _ w g n d' os hg).trans (onCells_sameB (w := Go.Sort.ahead w n) h1 _), by rw [List.length_map, hsl]; exact h2, by rw [hcur, Nat.mul_one]; exact h3, by rw [hcur]; exact h4, ?_, ?_, ?_⟩
          · intro x hx
            obtain ⟨b, _, rfl⟩ := List.mem_map.1 hx
            rfl
          · intro x hx p hp
            obtain ⟨b, _, rfl⟩ := List.mem_map.1 hx
            simp only [bsPV, List.mem_singleton] at hp
            subst hp
            rfl
          · intro i x j p hx hp
            rw [List.getElem?_map, Option.map_eq_some_iff] at hx
            obtain ⟨b, hb, rfl⟩ := hx
            cases j with
            | succ j => simp [bsPV] at hp
            | zero =>
              simp only [bsPV, List.getElem?_cons_zero, Option.some.injEq] at hp
              subst hp
              have hi : i < B.length := by rw [← hsl]; exact (List.getElem?_eq_some_iff.1 hb).1
              have hi' : i < d'.size := by omega
              refine ⟨d'[i]!.v, ?_, ?_⟩
              · rw [Nat.mul_one, Nat.add_zero]
                exact putCells_atB _ d' cur i hi' (by omega)
              · have hbi : d'[i]!.b = b := by
                  rw [← hbs, List.getElem?_map, List.getElem?_eq_getElem (by simpa using hi')] at hb
                  injection hb with hb
                  rw [getElem!_pos d' i hi']
                  simpa using hb
                rw [← hbi]
                exact d'[i]!.rep.mono fun k hk => ⟨hk, sortWorld_other _ w g n d' os (hok k hk).1 (fun he => (hok k hk).2 (by rw [he]; rfl))⟩
    · cases hg
end Go.Den
