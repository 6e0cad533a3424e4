/- Den: slices.CompactFunc of an own row of byte slices, by a function that says whether two are the same bytes: what it is asked, what comes of it. -/
import Derived.Test.YtmaehmacngldbaaDenB
import Derived.Lib.SlicesCompact
import Derived.Shelf.Bytes.SlEqualAll
set_option linter.unusedVariables false
set_option linter.unusedSimpArgs false
namespace Go.Den
open Go Go.RowKit Go.Lib Go.Proofs
/-- what is kept, behind p -/
def keptQ {α : Type} (q : α → α → Bool) : Option α → List α → List α
  | _, [] => []
  | none, x :: r => x :: keptQ q (some x) r
  | some p, x :: r => if q x p then keptQ q (some x) r else x :: keptQ q (some x) r
theorem keptQ_snoc {α : Type} (q : α → α → Bool) : ∀ (l : List α) (p : Option α) (x y : α), keptQ q p (l ++ [y, x]) = keptQ q p (l ++ [y]) ++ (if q x y then [] else [x])
  | [], none, x, y => by simp only [List.nil_append, keptQ]; split <;> rfl
  | [], some p, x, y => by
    simp only [List.nil_append, keptQ]
    split <;> split <;> rfl
  | a :: l, none, x, y => by
    simp only [List.cons_append, keptQ]
    rw [keptQ_snoc q l (some a) x y]
  | a :: l, some p, x, y => by
    simp only [List.cons_append, keptQ]
    rw [keptQ_snoc q l (some a) x y]
    split <;> rfl
theorem keptQ_len {α : Type} (q : α → α → Bool) : ∀ (l : List α) (p : Option α), (keptQ q p l).length ≤ l.length
  | [], p => by cases p <;> simp [keptQ]
  | a :: l, none => by simp only [keptQ, List.length_cons]; have := keptQ_len q l (some a); omega
  | a :: l, some p => by
    have := keptQ_len q l (some a)
    simp only [keptQ]
    split <;> simp only [List.length_cons] <;> omega
theorem keptQ_take {α : Type} [Inhabited α] (q : α → α → Bool) (l : List α) (d : Array α) (hd : d.toList = l) (m : Nat) (h0 : 0 < m) (hm : m < d.size) : keptQ q none (l.take (m + 1)) = keptQ q none (l.take m) ++ (if q d[m]! d[m - 1]! then [] else [d[m]!]) := by
  subst hd
  obtain ⟨k, rfl⟩ : ∃ k, m = k + 1 := ⟨m - 1, by omega⟩
  have h1 : k < d.toList.length := by simp; omega
  have h2 : k + 1 < d.toList.length := by simpa using hm
  have e1 : d.toList.take (k + 1) = d.toList.take k ++ [d[k]!] := by
    rw [List.take_add_one, List.getElem?_eq_getElem h1, getElem!_pos d k (by omega)]
    simp
  have e2 : d.toList.take (k + 1 + 1) = d.toList.take k ++ [d[k]!, d[k + 1]!] := by
    rw [List.take_add_one, e1, List.getElem?_eq_getElem h2, getElem!_pos d (k + 1) hm]
    simp
  rw [e2, e1, keptQ_snoc]
  simp
/-- all of the first m are kept -/
def AllK {α : Type} [Inhabited α] (q : α → α → Bool) (d : Array α) (m : Nat) : Prop := keptQ q none (d.toList.take m) = d.toList.take m
theorem AllK.one {α : Type} [Inhabited α] (q : α → α → Bool) (d : Array α) : AllK q d 1 := by
  unfold AllK
  cases d.toList with
  | nil => rfl
  | cons a r => simp [keptQ]
theorem AllK.zero {α : Type} [Inhabited α] (q : α → α → Bool) (d : Array α) : AllK q d 0 := by
  unfold AllK
  simp [keptQ]
theorem AllK.succ {α : Type} [Inhabited α] {q : α → α → Bool} {d : Array α} {m : Nat} (h : AllK q d m) (h0 : 0 < m) (hm : m < d.size) (hq : q d[m]! d[m - 1]! = false) : AllK q d (m + 1) := by
  unfold AllK at *
  rw [keptQ_take q _ d rfl m h0 hm, h, hq, List.take_add_one, List.getElem?_eq_getElem (by simpa using hm), getElem!_pos d m hm]
  simp
/-- behind m places of the old row, kk are kept -/
structure CompI {α : Type} [Inhabited α] (q : α → α → Bool) (d : Array α) (m kk : Nat) (dk : Array α) : Prop where
  size : dk.size = d.size
  lt : kk < m
  le : m ≤ d.size
  low : dk.toList.take kk = keptQ q none (d.toList.take m)
  high : ∀ j, kk ≤ j → dk[j]! = d[j]!
theorem CompI.start {α : Type} [Inhabited α] {q : α → α → Bool} {d : Array α} {m : Nat} (h : AllK q d m) (h0 : 0 < m) (hm : m < d.size) (hq : q d[m]! d[m - 1]! = true) : CompI q d (m + 1) m d :=
  ⟨rfl, by omega, by omega, by rw [keptQ_take q _ d rfl m h0 hm, h, hq]; simp, fun _ _ => rfl⟩
theorem CompI.skip {α : Type} [Inhabited α] {q : α → α → Bool} {d dk : Array α} {m kk : Nat} (h : CompI q d m kk dk) (h0 : 0 < m) (hm : m < d.size) (hq : q d[m]! d[m - 1]! = true) : CompI q d (m + 1) kk dk :=
  ⟨h.size, by have := h.lt; omega, by omega, by rw [keptQ_take q _ d rfl m h0 hm, ← h.low, hq]; simp, h.high⟩
theorem CompI.keep {α : Type} [Inhabited α] {q : α → α → Bool} {d dk : Array α} {m kk : Nat} (h : CompI q d m kk dk) (h0 : 0 < m) (hm : m < d.size) (hq : q d[m]! d[m - 1]! = false) : CompI q d (m + 1) (kk + 1) (dk.setIfInBounds kk d[m]!) := by
  have hs := h.size
  have hlt := h.lt
  refine ⟨by simpa using hs, by omega, by omega, ?_, fun j hj => ?_⟩
  · rw [keptQ_take q _ d rfl m h0 hm, ← h.low, hq, Array.toList_setIfInBounds, List.take_add_one, List.take_set_of_le (Nat.le_refl _), List.getElem?_set_self (by simp; omega)]
    simp
  · rw [← h.high j (by omega)]
    by_cases c : j < dk.size
    · rw [getElem!_pos _ j (by simpa using c), getElem!_pos dk j c, Array.getElem_setIfInBounds, if_neg (by omega)]
    · rw [getElem!_neg _ j (by simpa using c), getElem!_neg dk j c]
theorem CompI.len {α : Type} [Inhabited α] {q : α → α → Bool} {d dk : Array α} {m kk : Nat} (h : CompI q d m kk dk) : (keptQ q none (d.toList.take m)).length = kk := by
  have := h.lt; have := h.le; have := h.size
  rw [← h.low, List.length_take, Array.length_toList]
  omega
theorem lay_size {α : Type} : ∀ (xs : List α) (d : Array α) (k : Nat), (lay d k xs).size = d.size
  | [], _, _ => rfl
  | x :: r, d, k => by rw [lay, lay_size r]; simp
theorem lay_low {α : Type} (xs : List α) (d : Array α) (k : Nat) (h : k + xs.length ≤ d.size) : (lay d k xs).toList.take k = d.toList.take k := by
  apply List.ext_getElem?
  intro i
  by_cases c : i < k
  · rw [List.getElem?_take_of_lt c, List.getElem?_take_of_lt c, Array.getElem?_toList, Array.getElem?_toList, lay_get? xs d k i h, if_neg (by omega)]
  · rw [List.getElem?_eq_none (by simp; omega), List.getElem?_eq_none (by simp; omega)]
/-- what the walk of slices.CompactFunc shows -/
def RunsCompactF (P : Program) (f c : FuncId) : Prop :=
  ∀ {α : Type} [Inhabited α] (enc : α → Value) (hO : OneCell enc) (q : α → α → Bool) (zr : α) (hz : enc zr = .slice none 0 0) (blk off cap : Nat) (d : Array α) (w : World) (hH : Go.Sort.Holds enc w blk off d) (hsz : d.size ≤ 9223372036854775807) (hcap : d.size ≤ cap)
    (heq : ∀ (n : Nat) (dk : Array α) (x y : α), Calls P c #[enc x, enc y] (Go.Sort.putRow enc (Go.Sort.ahead w n) blk off dk) fun e w' => e = .returned (.bool (q x y)) ∧ w' = Go.Sort.putRow enc (Go.Sort.ahead w n) blk off dk),
    Calls P f #[.slice (some ⟨blk, off, none⟩) d.size cap, .func (.func c) #[] #[]] w fun e w' => ∃ (dk : Array α) (n : Nat), dk.size = d.size ∧ w' = Go.Sort.putRow enc (Go.Sort.ahead w n) blk off dk ∧
      dk.toList.take (keptQ q none d.toList).length = keptQ q none d.toList ∧ e = .returned (.slice (some ⟨blk, off, none⟩) (keptQ q none d.toList).length cap)
/-- what bytes.Equal says -/
def RunsEqual (P : Program) (c : FuncId) : Prop := ∀ (a b : Option Addr) (k l : Nat) (xs ys : List Int) (w : World), Lib.BytesIn w a xs.length xs → Lib.BytesIn w b ys.length ys →
  Calls P c #[.slice a xs.length k, .slice b ys.length l] w fun e w' => e = .returned (.bool (Lib.bytesOf xs == Lib.bytesOf ys)) ∧ w' = w
theorem rep_bytesIn {W : World} {ok : Nat → Prop} {v : Value} {b : List Int} (h : Rep W ok v (.sl 1 (ints .u8 b))) : ∃ a c, v = .slice a b.length c ∧ Lib.BytesIn W a b.length b := by
  have hl : (ints IntKind.u8 b).length = b.length := by simp [ints]
  cases h with
  | sl a c _ _ vs' hcap hz hp hr hv =>
    refine ⟨a, c, by rw [hl], fun hn => ?_⟩
    have row : ∀ i, i < b.length → (ints IntKind.u8 b)[i]? = some [.int .u8 (b.getD i 0)] := fun i hi => by
      unfold ints
      rw [List.getElem?_map, List.getElem?_eq_getElem hi]
      simp [List.getD_eq_getElem?_getD, hi]
    obtain ⟨g, o, rfl, _, _⟩ := hr 0 _ 0 _ (row 0 hn) rfl
    refine ⟨g, o, rfl, fun i hi => ?_⟩
    obtain ⟨g1, o1, he, _, hc⟩ := hr i _ 0 _ (row i hi) rfl
    injection he with he
    injection he with e1 e2
    subst e1; subst e2
    have h4 := hv i _ 0 _ (row i hi) rfl
    generalize vs' i 0 = u at h4 hc
    cases h4
    simpa using hc
theorem bytesOf_inj : ∀ {xs ys : List Int}, R8 xs → R8 ys → Lib.bytesOf xs = Lib.bytesOf ys → xs = ys
  | [], [], _, _, _ => rfl
  | [], _ :: _, _, _, h => by simp [Lib.bytesOf] at h
  | _ :: _, [], _, _, h => by simp [Lib.bytesOf] at h
  | x :: xs, y :: ys, hx, hy, h => by
    have h1 := hx x (by simp)
    have h2 := hy y (by simp)
    simp only [Lib.bytesOf, List.map_cons, List.cons.injEq] at h
    have e : x = y := by
      have := congrArg UInt8.toNat h.1
      simp only [UInt8.toNat_ofNat'] at this
      omega
    rw [e, bytesOf_inj (fun z hz => hx z (by simp [hz])) (fun z hz => hy z (by simp [hz])) h.2]
theorem bytesOf_beq {xs ys : List Int} (hx : R8 xs) (hy : R8 ys) : (Lib.bytesOf xs == Lib.bytesOf ys) = decide (xs = ys) := by
  rw [Bool.eq_iff_iff, beq_iff_eq, decide_eq_true_eq]
  exact ⟨bytesOf_inj hx hy, fun h => by rw [h]⟩
theorem keptQ_map {α β : Type} (f : α → β) {q : α → α → Bool} {q' : β → β → Bool} (h : ∀ x y, q x y = q' (f x) (f y)) : ∀ (l : List α) (p : Option α), (keptQ q p l).map f = keptQ q' (p.map f) (l.map f)
  | [], p => by cases p <;> rfl
  | a :: l, none => by
    simp only [keptQ, List.map_cons, Option.map_none]
    rw [keptQ_map f h l (some a)]
    rfl
  | a :: l, some p => by
    simp only [keptQ, List.map_cons, Option.map_some, ← h]
    split
    · rw [keptQ_map f h l (some a)]; rfl
    · rw [List.map_cons, keptQ_map f h l (some a)]; rfl
/-- the row with what is like its neighbour left out -/
def cpL (L : List (List Int)) : List (List Int) := keptQ (fun a b => decide (a = b)) none L
def compactBG (_ : TypeId) (sz : Nat) (xs : List (List PV)) : Option (List (List PV)) :=
  if sz == 1 && Nat.ble xs.length lim then (rowsB xs).map fun L => (cpL L).map bsPV else none
theorem compactB_rw {P : Program} {f c : FuncId} (h : RunsCompactF P f c) (hnone : ∀ w, Calls P f #[.slice none 0 0, .func (.func c) #[] #[]] w fun e w' => e = .returned (.slice none 0 0) ∧ w' = w) (hE : RunsEqual P c) : RwOk P f true compactBG #[.func (.func c) #[] #[]] := by
  refine ⟨fun w => ?_, fun e sz xs ys hg w ok v hok hr => ?_⟩
  · refine (hnone w).mono fun e w' h => ?_
    obtain ⟨he, hw⟩ := h
    subst hw
    exact ⟨he, rfl, rfl, rfl, rfl⟩
  · unfold compactBG at hg
    split at hg
    · rename_i hcond
      simp only [Bool.and_eq_true, beq_iff_eq, Nat.ble_eq] at hcond
      obtain ⟨rfl, hlim⟩ := hcond
      cases hB : rowsB xs with
      | none => rw [hB] at hg; cases hg
      | some B =>
        rw [hB] at hg
        injection hg with hg
        subst hg
        have hBl := (rows_len hB).1
        unfold lim at hlim
        rcases rowAt_bytes (P := P) hr hB hok with ⟨rfl, rfl⟩ | ⟨g, cp, cur, fz, rfl, h1, h2, h3, h4, hI, d, hds, hdb, hH⟩
        · refine (hnone w).mono fun e w' h => ?_
          obtain ⟨he, hw⟩ := h
          subst hw
          exact ⟨rfl, rfl, rfl, Nat.le_refl _, fun _ _ _ => rfl, _, he, rfl, fun _ => rfl, rfl, .inl ⟨rfl, rfl⟩⟩
        · have hg := (Array.getElem?_eq_some_iff.1 h1).1
          have hokg : ∀ k, ok k → k < w.heap.size ∧ k ≠ g := fun k hk => ⟨(hok k hk).1, fun he => (hok k hk).2 (by rw [he]; rfl)⟩
          obtain ⟨zr, hz, _⟩ : ∃ x : BV P w g ok, x.v = .slice none 0 0 ∧ x.b = [] := BV.of hokg .nils rfl
          have oth : ∀ (n : Nat) (dk : Array (BV P w g ok)) (k : Nat), k ≠ g → (Go.Sort.putRow (fun x : BV P w g ok => x.v) (Go.Sort.ahead w n) g 0 dk).heap[k]? = w.heap[k]? := fun n dk k hk => onCells_otherB (w := Go.Sort.ahead w n) hk _
          have hrun := h (fun x : BV P w g ok => x.v) BV.one (fun x y => Lib.bytesOf x.b == Lib.bytesOf y.b) zr hz g 0 cp d w hH (by omega) (by omega) (fun n dk x y => by
            have bx := rep_bytesIn (x.rep.mono (w' := Go.Sort.putRow (fun x : BV P w g ok => x.v) (Go.Sort.ahead w n) g 0 dk) (ok' := ok) fun k hk => ⟨hk, oth n dk k (hokg k hk).2⟩)
            have bY := rep_bytesIn (y.rep.mono (w' := Go.Sort.putRow (fun x : BV P w g ok => x.v) (Go.Sort.ahead w n) g 0 dk) (ok' := ok) fun k hk => ⟨hk, oth n dk k (hokg k hk).2⟩)
            obtain ⟨a1, k1, e1, i1⟩ := bx
            obtain ⟨a2, k2, e2, i2⟩ := bY
            show Calls P c #[x.v, y.v] _ _
            rw [e1, e2]
            exact hE a1 a2 k1 k2 x.b y.b _ i1 i2)
          rw [hds] at hrun
          have hkm : (keptQ (fun x y : BV P w g ok => Lib.bytesOf x.b == Lib.bytesOf y.b) none d.toList).map (·.b) = cpL B := by
            rw [keptQ_map (fun x : BV P w g ok => x.b) (q' := fun a b => decide (a = b)) (fun x y => bytesOf_beq x.r8 y.r8), hdb]
            rfl
          generalize hK : keptQ (fun x y : BV P w g ok => Lib.bytesOf x.b == Lib.bytesOf y.b) none d.toList = K at hrun hkm
          have hKl : K.length ≤ B.length := by
            rw [← hK, ← hds, ← Array.length_toList]
            exact keptQ_len _ _ _
          have hcl : (cpL B).length = K.length := by rw [← hkm, List.length_map]
          refine hrun.mono fun e1 w' ⟨dk, n, hs, hw, ht, he⟩ => ?_
          subst hw
          have hcur : (Go.Sort.putCells (fun x : BV P w g ok => x.v) 0 dk cur).size = cur.size := by simp [Go.Sort.putCells]
          refine ⟨rfl, rfl, rfl, ?_, fun k hk hne => oth n dk k (by simp [Value.ownBlock] at hne; exact fun h => hne h.symm), _, he, rfl, fun h => (by cases h), rfl, ?_⟩
          · simp [Go.Sort.putRow, Go.Sort.mapBlock, Go.Sort.ahead]
          refine .inr ⟨g, cp, Go.Sort.putCells (fun x : BV P w g ok => x.v) 0 dk cur, fz, by rw [List.length_map, hcl], onCells_sameB (w := Go.Sort.ahead w n) h1 _, by rw [List.length_map, hcl]; omega, by rw [hcur, Nat.mul_one]; exact h3, by rw [hcur]; exact h4, ?_, ?_, ?_⟩
          · intro x hx
            obtain ⟨b, _, rfl⟩ := List.mem_map.1 hx
            rfl
          · intro x hx p hp
            obtain ⟨b, _, rfl⟩ := List.mem_map.1 hx
            simp only [bsPV, List.mem_singleton] at hp
            subst hp
            rfl
          · intro i x j p hx hp
            rw [List.getElem?_map, Option.map_eq_some_iff] at hx
            obtain ⟨b, hb, rfl⟩ := hx
            cases j with
            | succ j => simp [bsPV] at hp
            | zero =>
              simp only [bsPV, List.getElem?_cons_zero, Option.some.injEq] at hp
              subst hp
              have hi : i < K.length := by rw [← hcl]; exact (List.getElem?_eq_some_iff.1 hb).1
              have hi' : i < dk.size := by omega
              refine ⟨dk[i]!.v, ?_, ?_⟩
              · rw [Nat.mul_one, Nat.add_zero]
                exact putCells_atB _ dk cur i hi' (by omega)
              · have hbi : dk[i]!.b = b := by
                  rw [← hkm, List.getElem?_map, ← ht, List.getElem?_take_of_lt hi, Array.getElem?_toList, Array.getElem?_eq_getElem hi'] at hb
                  injection hb with hb
                  rw [getElem!_pos dk i hi']
                  simpa using hb
                rw [← hbi]
                exact dk[i]!.rep.mono fun k hk => ⟨hk, oth n dk k (hokg k hk).2⟩
    · cases hg
end Go.Den
